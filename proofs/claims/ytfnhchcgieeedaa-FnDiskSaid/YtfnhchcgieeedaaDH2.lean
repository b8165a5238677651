/-
  Contracts of the law's helpers for a file, for slices of files. No conditions of its own.
-/
import Derived.Test.YtfnhchcgieeedaaGO
import Derived.Test.YtfnhchcgieeedaaDH1
namespace Go.Proofs.Ytfnhchcgieeedaa
set_option linter.unusedSimpArgs false
set_option linter.unusedVariables false
set_option linter.unusedSimpArgs false
set_option linter.unusedVariables false
set_option linter.defProp false
set_option maxRecDepth 20000
open Go.RowKit

def FileD.q (T q n : Nat) : List DC := [.v (.string (txt (mtx q))), .sl T 1 ((List.range n).map (bytQ (q + 1)))]
def fiSum : List FileD → Nat
  | [] => 0
  | s :: l => 1 + s.Data.length + fiSum l
def byF : List FileD → Nat
  | [] => 0
  | s :: l => s.Data.length + byF l
/-- What counts of a file: the letters of its name, too. -/
def szF : List FileD → Nat
  | [] => 0
  | s :: l => s.Name.length + s.Data.length + szF l
def fiG (T k0 : Nat) (l : List FileD) (i : Nat) : List DC := FileD.q T (k0 + fiSum (l.take i)) (((l[i]?).map (·.Data.length)).getD 0)
theorem fiSum_snoc : ∀ {l : List FileD} {k : Nat} (h : k < l.length), fiSum (l.take (k + 1)) = fiSum (l.take k) + 1 + l[k].Data.length
  | s :: l, 0, h => by simp [fiSum]
  | s :: l, k + 1, h => by
    have := fiSum_snoc (l := l) (k := k) (by simpa using h)
    simp only [List.take_succ_cons, fiSum, List.getElem_cons_succ, this]; omega
theorem fiSum_le : ∀ (l : List FileD) (k : Nat), fiSum (l.take k) ≤ fiSum l
  | [], k => by simp
  | s :: l, 0 => by simp [fiSum]
  | s :: l, k + 1 => by have := fiSum_le l k; simp only [List.take_succ_cons, fiSum]; omega
theorem fiSum_by : ∀ l : List FileD, fiSum l = l.length + byF l
  | [] => rfl
  | s :: l => by simp only [fiSum, byF, List.length_cons, fiSum_by l]; omega
theorem szF_snoc : ∀ {l : List FileD} {k : Nat} (h : k < l.length), szF (l.take (k + 1)) = szF (l.take k) + l[k].Name.length + l[k].Data.length
  | s :: l, 0, h => by simp [szF]
  | s :: l, k + 1, h => by
    have := szF_snoc (l := l) (k := k) (by simpa using h)
    simp only [List.take_succ_cons, szF, List.getElem_cons_succ, this]; omega
theorem szF_le : ∀ (l : List FileD) (k : Nat), szF (l.take k) ≤ szF l
  | [], k => by simp
  | s :: l, 0 => by simp [szF]
  | s :: l, k + 1 => by have := szF_le l k; simp only [List.take_succ_cons, szF]; omega

theorem set_modF {α : Type} (l : List α) (i : Nat) (a : α) (f : α → α) : (l.set i a).modify i f = l.set i (f a) := by
  apply List.ext_getElem?
  intro j
  rw [List.getElem?_modify, List.getElem?_set, List.getElem?_set]
  by_cases h : i = j
  · subst h; simp
  · simp [h]

set_option maxHeartbeats 2000000 in
theorem toFile_k (x : FileD) (h : x.Data.length ≤ 1048576) : FnOK Try.prog 108 ⟨1, [(0, some (.ro (x.Data.map bytK)))], [.agg [.v (.string (txt x.Name)), .sl 0 1 0 x.Data.length]], .agg [.v (.string (txt x.Name)), .sl 1 1 0 x.Data.length], [(1, some (.row 5 (x.Data.map bytK)))], 2⟩ := by
  have c := toByteS_k x.Data h
  refine fnOK_of true mixed Try.func108 rfl (by rfl) (by rfl) ?_
  have hres := congrArg Array.toList Try.results108
  simp only [Try.ntmps108, BGB, seval]
  (have gx := true_and True; have q1 := c; refine go ?_; (repeat' first | exact Ef.mk | apply Lf.mk | refine fun (K : KT) hK hE hT => ?_ | refine fun (KS : KE) hKS => ?_ | refine fun (D : KD) hD => ?_ | refine fun (hg : (_ : Prop)) => ?_ | fail); all_goals (first | (refine Wr.mk ?_; (try clear gx q1); repeat first | clear hK hE hT K | clear hR hE hT K) | assumption | skip))
  (refine post_a hres (.inl rfl) ?_; simp only [RSB, ENB, seval, tiAll, true_and]; simp only [MAB, seval]; refine ⟨rfl, rfl, ?_, ?_, ?_⟩ <;> (first | rfl | (simp [WKB, Nat.add_comm, true_and]; done) | (simp only [WKB, seval])))

set_option maxHeartbeats 2000000 in
theorem eqFile_k (x y : FileD) (hx : x.Data.length ≤ 1048576) (hy : y.Data.length ≤ 1048576) : FnOK Try.prog 62 ⟨2, [(0, some (.ro (x.Data.map bytK))), (1, some (.ro (y.Data.map bytK)))], [.agg [.v (.string (txt x.Name)), .sl 0 1 0 x.Data.length], .agg [.v (.string (txt y.Name)), .sl 1 1 0 y.Data.length]], .c (.v (.bool (decide (x = y)))), [], 2⟩ := by
  have c := eqByteS_k x.Data y.Data (by omega) (by omega)
  have hd : (x = y) ↔ (x.Name = y.Name ∧ x.Data = y.Data) := by cases x; cases y; simp
  refine fnOK_of true mixed Try.func62 rfl (by rfl) (by rfl) ?_
  have hres := congrArg Array.toList Try.results62
  simp only [Try.ntmps62, BGB, seval]
  (have gx := @txt_list; have q1 := c; refine go ?_; (repeat' first | exact Ef.mk | apply Lf.mk | refine fun (K : KT) hK hE hT => ?_ | refine fun (KS : KE) hKS => ?_ | refine fun (D : KD) hD => ?_ | refine fun (hg : (_ : Prop)) => ?_ | fail); all_goals (first | (refine Wr.mk ?_; (try clear gx q1); repeat first | clear hK hE hT K | clear hR hE hT K) | assumption | skip))
  all_goals (refine post_a hres (.inl rfl) ?_; simp only [RSB, ENB, seval, tiAll, true_and]; simp only [MAB, seval]; refine ⟨rfl, rfl, ?_, ?_, ?_⟩ <;> (first | rfl | (simp [WKB, Nat.add_comm, true_and]; done) | (simp only [WKB, seval])))
  all_goals (refine congrArg (fun b => SV.c (CV.v (Value.bool b))) ?_; symm; simp only [decide_eq_false_iff_not, decide_eq_true_eq, hd]; simp_all)

set_option maxHeartbeats 2000000 in
theorem szFile_k (x : FileD) (b : Nat) (T : Nat) (hn : x.Name.length ≤ 9223372036854775807) (h : x.Data.length ≤ 9223372036854775807) (hb : b ≤ 1048576) : FnOK Try.prog 104 ⟨1, [(0, some (.ro (x.Data.map bytK)))], [.agg [.v (.string (txt x.Name)), .sl 0 1 0 x.Data.length], .c (.v (.int .i64 (b : Int)))], .c (.v (.int .i64 (szL b (x.Name.length + x.Data.length)))), [], 1⟩ := by
  rcases Nat.lt_or_ge b x.Name.length with h0 | h0
  · skip
    refine fnOK_of true mixed Try.func104 rfl (by rfl) (by rfl) ?_
    have hres := congrArg Array.toList Try.results104
    simp only [Try.ntmps104, BGB, seval]
    (have gx := @txt_len; refine go ?_; (repeat' first | exact Ef.mk | apply Lf.mk | refine fun (K : KT) hK hE hT => ?_ | refine fun (KS : KE) hKS => ?_ | refine fun (D : KD) hD => ?_ | refine fun (hg : (_ : Prop)) => ?_ | fail); all_goals (first | (refine Wr.mk ?_; (try clear gx); repeat first | clear hK hE hT K | clear hR hE hT K) | assumption | skip))
    (refine post_a hres (.inl rfl) ?_; simp only [RSB, ENB, seval, tiAll, szL_neg b (x.Name.length + x.Data.length) (by omega)]; simp only [MAB, seval]; refine ⟨rfl, rfl, ?_, ?_, ?_⟩ <;> (first | rfl | (simp [WKB, Nat.add_comm, szL_neg b (x.Name.length + x.Data.length) (by omega)]; done) | (simp only [WKB, seval])))
  · have e1 : (b : Int) - (x.Name.length : Int) = ((b - x.Name.length : Nat) : Int) := by omega
    have c := szByteS_k x.Data.length (b - x.Name.length) (x.Data.map bytK) (by simp) (by omega) (by omega)
    rcases Nat.lt_or_ge (b - x.Name.length) x.Data.length with h1 | h1
    · rw [szL_neg _ _ h1] at c
      refine fnOK_of true mixed Try.func104 rfl (by rfl) (by rfl) ?_
      have hres := congrArg Array.toList Try.results104
      simp only [Try.ntmps104, BGB, seval]
      (have gx := And.intro @txt_len @e1; have q1 := c; refine go ?_; (repeat' first | exact Ef.mk | apply Lf.mk | refine fun (K : KT) hK hE hT => ?_ | refine fun (KS : KE) hKS => ?_ | refine fun (D : KD) hD => ?_ | refine fun (hg : (_ : Prop)) => ?_ | fail); all_goals (first | (refine Wr.mk ?_; (try clear gx q1); repeat first | clear hK hE hT K | clear hR hE hT K) | assumption | skip))
      (refine post_a hres (.inl rfl) ?_; simp only [RSB, ENB, seval, tiAll, szL_neg b (x.Name.length + x.Data.length) (by omega)]; simp only [MAB, seval]; refine ⟨rfl, rfl, ?_, ?_, ?_⟩ <;> (first | rfl | (simp [WKB, Nat.add_comm, szL_neg b (x.Name.length + x.Data.length) (by omega)]; done) | (simp only [WKB, seval])))
    · rw [szL_sub _ _ h1] at c
      refine fnOK_of true mixed Try.func104 rfl (by rfl) (by rfl) ?_
      have hres := congrArg Array.toList Try.results104
      simp only [Try.ntmps104, BGB, seval]
      (have gx := And.intro @txt_len @e1; have q1 := c; refine go ?_; (repeat' first | exact Ef.mk | apply Lf.mk | refine fun (K : KT) hK hE hT => ?_ | refine fun (KS : KE) hKS => ?_ | refine fun (D : KD) hD => ?_ | refine fun (hg : (_ : Prop)) => ?_ | fail); all_goals (first | (refine Wr.mk ?_; (try clear gx q1); repeat first | clear hK hE hT K | clear hR hE hT K) | assumption | skip))
      have e2 : b - x.Name.length - x.Data.length = b - (x.Name.length + x.Data.length) := by omega
      (refine post_a hres (.inl rfl) ?_; simp only [RSB, ENB, seval, tiAll, szL_sub b (x.Name.length + x.Data.length) (by omega), e2]; simp only [MAB, seval]; refine ⟨rfl, rfl, ?_, ?_, ?_⟩ <;> (first | rfl | (simp [WKB, Nat.add_comm, szL_sub b (x.Name.length + x.Data.length) (by omega), e2]; done) | (simp only [WKB, seval])))

set_option maxHeartbeats 2000000 in
theorem toFileS_k (l : List FileD) (hl : l.length ≤ 1048576) (hs : ∀ s ∈ l, s.Data.length ≤ 1048576) : FnOK Try.prog 58 ⟨1, [(0, some (.ro (l.map (FileD.k 5))))], [.c (.sl 0 2 0 l.length)], .c (.sl 1 2 0 l.length), [(1, some (.nst 95 (l.map (FileD.k 5)) none))], 2⟩ := by
  have c0 : ({ data := #[] } : ByteArray) = txt [] := rfl
  refine fnOK_of true mixed Try.func58 rfl (by rfl) (by rfl) ?_
  have hres := congrArg Array.toList Try.results58
  simp only [Try.ntmps58, BGB, seval]
  (have gx := true_and True; refine go ?_; (repeat' first | exact Ef.mk | apply Lf.mk | refine fun (K : KT) hK hE hT => ?_ | refine fun (KS : KE) hKS => ?_ | refine fun (D : KD) hD => ?_ | refine fun (hg : (_ : Prop)) => ?_ | fail); all_goals (first | (refine Wr.mk ?_; (try clear gx); repeat first | clear hK hE hT K | clear hR hE hT K) | assumption | skip))
  refine loop_v (X := {k : Nat // k ≤ l.length}) [] (fun x => [(4, .c (.v (.int .i64 ((x.1 : Nat) : Int))))]) (fun x => [(0, some (.ro (l.map (FileD.k 5)))), (1, some (.nst 95 (fillTo (FileD.k 5) (FileD.k 5 ⟨[], []⟩) l x.1) none))]) 2 (fun x => l.length - x.1) ⟨0, by omega⟩ ?_
  simp only [KPB, seval]
  refine ⟨?_, ?_⟩
  · (refine wk_a ?_; simp only [MAB, seval]; refine ⟨rfl, rfl, (by decide), ?_, ?_⟩; all_goals (first | (simp only [WKB, seval, fillTo_zero, FileD.k, List.map_nil, c0]; done) | (simp [WKB, seval, fillTo_zero, FileD.k, List.map_nil, c0]; done) | simp only [WKB, seval]))
  · rintro ⟨k, hk⟩ K hR hE hT
    rcases Nat.lt_or_ge k l.length with hlt | hge
    case inr =>
      (have gx := And.intro (@List.length_map.{0,0}) (And.intro (@List.getElem_map.{0,0}) (And.intro (@fillTo_len) (And.intro (@fillTo_get) (And.intro @fillTo_set @FileD.k.eq_1)))); refine go ?_; (repeat' first | exact Ef.mk | apply Lf.mk | refine fun (K : KT) hK hE hT => ?_ | refine fun (KS : KE) hKS => ?_ | refine fun (D : KD) hD => ?_ | refine fun (hg : (_ : Prop)) => ?_ | fail); all_goals (first | (refine Wr.mk ?_; (try clear gx); repeat first | clear hK hE hT K | clear hR hE hT K) | assumption | skip))
      obtain rfl : k = l.length := by omega
      (refine post_a hres (.inl rfl) ?_; simp only [RSB, ENB, seval, tiAll, fillTo_end]; simp only [MAB, seval]; refine ⟨rfl, rfl, ?_, ?_, ?_⟩ <;> (first | rfl | (simp [WKB, Nat.add_comm, fillTo_end]; done) | (simp only [WKB, seval])))
    case inl =>
      have c := toFile_k l[k] (hs _ (List.getElem_mem hlt))
      (have gx := And.intro (@List.length_map.{0,0}) (And.intro (@List.getElem_map.{0,0}) (And.intro (@fillTo_len) (And.intro (@fillTo_get) (And.intro @fillTo_set @FileD.k.eq_1)))); have q1 := c; refine go ?_; (repeat' first | exact Ef.mk | apply Lf.mk | refine fun (K : KT) hK hE hT => ?_ | refine fun (KS : KE) hKS => ?_ | refine fun (D : KD) hD => ?_ | refine fun (hg : (_ : Prop)) => ?_ | fail); all_goals (first | (refine Wr.mk ?_; (try clear gx q1); repeat first | clear hK hE hT K | clear hR hE hT K) | assumption | skip))
      have e := fillTo_set (FileD.k 5) (FileD.k 5 ⟨[], []⟩) l k hlt
      simp only [FileD.k, List.map_nil] at e
      (refine hR.out ⟨k + 1, by omega⟩ _ _ _ (by simp only; omega) ?_; (refine wk_a ?_; simp only [MAB, seval]; refine ⟨rfl, rfl, (by decide), ?_, ?_⟩; all_goals (first | (simp only [WKB, seval, e, FileD.k, List.map_nil]; done) | (simp [WKB, seval, e, FileD.k, List.map_nil]; done) | simp only [WKB, seval])))

set_option maxHeartbeats 2000000 in
theorem eqFileS_k (l m : List FileD) (hl : l.length ≤ 1048576) (hm : m.length ≤ 1048576) (hsl : ∀ s ∈ l, s.Data.length ≤ 1048576) (hsm : ∀ s ∈ m, s.Data.length ≤ 1048576) : FnOK Try.prog 21 ⟨2, [(0, some (.ro (l.map (FileD.k 5)))), (1, some (.ro (m.map (FileD.k 5))))], [.c (.sl 0 2 0 l.length), .c (.sl 1 2 0 m.length)], .c (.v (.bool (decide (l = m)))), [], 2⟩ := by
  refine fnOK_of true mixed Try.func21 rfl (by rfl) (by rfl) ?_
  have hres := congrArg Array.toList Try.results21
  simp only [Try.ntmps21, BGB, seval]
  (have gx := true_and True; refine go ?_; (repeat' first | exact Ef.mk | apply Lf.mk | refine fun (K : KT) hK hE hT => ?_ | refine fun (KS : KE) hKS => ?_ | refine fun (D : KD) hD => ?_ | refine fun (hg : (_ : Prop)) => ?_ | fail); all_goals (first | (refine Wr.mk ?_; (try clear gx); repeat first | clear hK hE hT K | clear hR hE hT K) | assumption | skip))
  · (have hfin := eqs_len (l := l) (m := m) (by omega); (refine post_a hres (.inl rfl) ?_; simp only [RSB, ENB, seval, tiAll, ← hfin]; simp only [MAB, seval]; refine ⟨rfl, rfl, ?_, ?_, ?_⟩ <;> (first | rfl | (simp [WKB, Nat.add_comm, ← hfin]; done) | (simp only [WKB, seval]))))
  · have hlm : l.length = m.length := by omega
    refine loop_v (X := {k : Nat // k ≤ l.length ∧ Rnd (∀ i, i < k → l[i]? = m[i]?)}) [] (fun x => [(5, .c (.v (.int .i64 ((x.1 : Nat) : Int))))]) (fun x => [(0, some (.ro (l.map (FileD.k 5)))), (1, some (.ro (m.map (FileD.k 5))))]) 2 (fun x => l.length - x.1) ⟨0, by omega, ⟨fun i hi => by omega⟩⟩ ?_
    simp only [KPB, seval]
    refine ⟨?_, ?_⟩
    · (refine wk_a ?_; simp only [MAB, seval]; refine ⟨rfl, rfl, (by decide), ?_, ?_⟩; all_goals (first | (simp only [WKB, seval, true_and]; done) | (simp [WKB, seval, true_and]; done) | simp only [WKB, seval]))
    · rintro ⟨k, hk, hi⟩ K hR hE hT
      rcases Nat.lt_or_ge k l.length with hlt | hge
      case inr =>
        (have gx := @List.length_map.{0,0}; refine go ?_; (repeat' first | exact Ef.mk | apply Lf.mk | refine fun (K : KT) hK hE hT => ?_ | refine fun (KS : KE) hKS => ?_ | refine fun (D : KD) hD => ?_ | refine fun (hg : (_ : Prop)) => ?_ | fail); all_goals (first | (refine Wr.mk ?_; (try clear gx); repeat first | clear hK hE hT K | clear hR hE hT K) | assumption | skip))
        (have hfin := eqs_end (l := l) (m := m) hlm k (by omega) hi.out; (refine post_a hres (.inl rfl) ?_; simp only [RSB, ENB, seval, tiAll, ← hfin]; simp only [MAB, seval]; refine ⟨rfl, rfl, ?_, ?_, ?_⟩ <;> (first | rfl | (simp [WKB, Nat.add_comm, ← hfin]; done) | (simp only [WKB, seval]))))
      case inl =>
        have c := eqFile_k l[k] (m[k]'(by omega)) (hsl _ (List.getElem_mem _)) (hsm _ (List.getElem_mem _))
        (have gx := And.intro (@List.length_map.{0,0}) (And.intro @List.getElem_map.{0,0} @FileD.k.eq_1); have q1 := c; refine go ?_; (repeat' first | exact Ef.mk | apply Lf.mk | refine fun (K : KT) hK hE hT => ?_ | refine fun (KS : KE) hKS => ?_ | refine fun (D : KD) hD => ?_ | refine fun (hg : (_ : Prop)) => ?_ | fail); all_goals (first | (refine Wr.mk ?_; (try clear gx q1); repeat first | clear hK hE hT K | clear hR hE hT K) | assumption | skip))
        · (have hfin := eqs_hit (l := l) (m := m) k (by omega) (by omega) (by assumption); (refine post_a hres (.inl rfl) ?_; simp only [RSB, ENB, seval, tiAll, ← hfin]; simp only [MAB, seval]; refine ⟨rfl, rfl, ?_, ?_, ?_⟩ <;> (first | rfl | (simp [WKB, Nat.add_comm, ← hfin]; done) | (simp only [WKB, seval]))))
        · refine hR.out ⟨k + 1, by omega, ⟨fun i h => ?_⟩⟩ _ _ _ (by simp only; omega) ?_
          · by_cases hik : i = k
            · subst hik
              rw [List.getElem?_eq_getElem (by omega), List.getElem?_eq_getElem (by omega)]
              exact congrArg some (by assumption)
            · exact hi.out i (by omega)
          · (refine wk_a ?_; simp only [MAB, seval]; refine ⟨rfl, rfl, (by decide), ?_, ?_⟩; all_goals (first | (simp only [WKB, seval, true_and]; done) | (simp [WKB, seval, true_and]; done) | simp only [WKB, seval]))

set_option maxHeartbeats 4000000 in
theorem markFileS_k (l : List FileD) (k0 : Nat) (hk0 : k0 + fiSum l ≤ 1099511627) : FnOK Try.prog 24 ⟨1, [(0, some (.nst 95 (l.map (FileD.k 5)) none))], [.c (.sl 0 2 0 l.length), .c (.v (.int .i64 (k0 : Int)))], .c (.v (.int .i64 ((k0 + fiSum l : Nat) : Int))), [(0, some (.nst 95 ((List.range l.length).map (fiG 5 k0 l)) none))], 1⟩ := by
  have hln : l.length ≤ 1099511627 := by have := fiSum_by l; omega
  refine fnOK_of true mixed Try.func24 rfl (by rfl) (by rfl) ?_
  have hres := congrArg Array.toList Try.results24
  simp only [Try.ntmps24, BGB, seval]
  (have gx := true_and True; refine go ?_; (repeat' first | exact Ef.mk | apply Lf.mk | refine fun (K : KT) hK hE hT => ?_ | refine fun (KS : KE) hKS => ?_ | refine fun (D : KD) hD => ?_ | refine fun (hg : (_ : Prop)) => ?_ | fail); all_goals (first | (refine Wr.mk ?_; (try clear gx); repeat first | clear hK hE hT K | clear hR hE hT K) | assumption | skip))
  refine loop_v (X := {k : Nat // k ≤ l.length}) [] (fun x => [(1, .c (.v (.int .i64 ((k0 + fiSum (l.take x.1) : Nat) : Int)))), (5, .c (.v (.int .i64 ((x.1 : Nat) : Int))))]) (fun x => [(0, some (.nst 95 (setTo (fiG 5 k0 l) (FileD.k 5) l x.1) none))]) 1 (fun x => l.length - x.1) ⟨0, by omega⟩ ?_
  simp only [KPB, seval]
  refine ⟨?_, ?_⟩
  · (refine wk_a ?_; simp only [MAB, seval]; refine ⟨rfl, rfl, (by decide), ?_, ?_⟩; all_goals (first | (simp only [WKB, seval, setTo_zero, fiSum, List.take_zero, Nat.add_zero]; done) | (simp [WKB, seval, setTo_zero, fiSum, List.take_zero, Nat.add_zero]; done) | simp only [WKB, seval]))
  · rintro ⟨k, hk⟩ K hR hE hT
    have sl := setTo_len (fiG 5 k0 l) (FileD.k 5) l k hk
    have hsk := fiSum_le l k
    obtain ⟨q, hq⟩ : ∃ q, q = k0 + fiSum (l.take k) := ⟨_, rfl⟩
    simp only [← hq]
    rcases Nat.lt_or_ge k l.length with hlt | hge
    case inr =>
      (have gx := @sl; refine go ?_; (repeat' first | exact Ef.mk | apply Lf.mk | refine fun (K : KT) hK hE hT => ?_ | refine fun (KS : KE) hKS => ?_ | refine fun (D : KD) hD => ?_ | refine fun (hg : (_ : Prop)) => ?_ | fail); all_goals (first | (refine Wr.mk ?_; (try clear gx); repeat first | clear hK hE hT K | clear hR hE hT K) | assumption | skip))
      obtain rfl : k = l.length := by omega
      rw [List.take_length] at hq
      subst hq
      (refine post_a hres (.inl rfl) ?_; simp only [RSB, ENB, seval, tiAll, setTo_end]; simp only [MAB, seval]; refine ⟨rfl, rfl, ?_, ?_, ?_⟩ <;> (first | rfl | (simp [WKB, Nat.add_comm, setTo_end]; done) | (simp only [WKB, seval])))
    case inl =>
      have hsn := fiSum_snoc hlt
      have hsm := fiSum_le l (k + 1)
      have sg := setTo_get (fiG 5 k0 l) (FileD.k 5) l k hlt (by omega)
      simp only [FileD.k] at sg
      have cm := markText_k q (by omega)
      have c := markByteS_k l[k].Data (q + 1) (by omega)
      rw [show ((q + 1 : Nat) : Int) = (q : Int) + 1 by omega] at c
      (have gx := And.intro (@sl) (And.intro (@sg) (And.intro (@List.length_set.{0}) (And.intro @List.getElem_set_self.{0} @List.set_set.{0}))); have q1 := cm; have q2 := c; refine go ?_; (repeat' first | exact Ef.mk | apply Lf.mk | refine fun (K : KT) hK hE hT => ?_ | refine fun (KS : KE) hKS => ?_ | refine fun (D : KD) hD => ?_ | refine fun (hg : (_ : Prop)) => ?_ | fail); all_goals (first | (refine Wr.mk ?_; (try clear gx q1 q2); repeat first | clear hK hE hT K | clear hR hE hT K) | assumption | skip))
      refine hR.out ⟨k + 1, by omega⟩ _ _ _ (by simp only; omega) ?_
      have e := setTo_set (fiG 5 k0 l) (FileD.k 5) l k hlt
      simp only [fiG, ← hq, FileD.q, List.getElem?_eq_getElem hlt, Option.map_some, Option.getD_some] at e
      have e2 : ((q + 1 + l[k].Data.length : Nat) : Int) = ((k0 + fiSum (l.take (k + 1)) : Nat) : Int) := by omega
      (refine Wk.trans (wk_close (f := 0) (g := 1) rfl rfl (by decide) (by simp [List.length_map])) ?_; simp only [EVB, seval, set_modF, List.length_map])
      (refine wk_a ?_; simp only [MAB, seval]; refine ⟨rfl, rfl, (by decide), ?_, ?_⟩; all_goals (first | (simp only [WKB, seval, fiG, e, e2]; done) | (simp [WKB, seval, fiG, e, e2]; done) | simp only [WKB, seval]))

set_option maxHeartbeats 4000000 in
theorem heldFileS_k (l : List FileD) (k0 : Nat) (hk0 : k0 + fiSum l ≤ 1099511627) : FnOK Try.prog 25 ⟨1, [(0, some (.ro ((List.range l.length).map (fiG 5 k0 l))))], [.c (.sl 0 2 0 l.length), .c (.v (.int .i64 (k0 : Int)))], .c (.v (.int .i64 ((k0 + fiSum l : Nat) : Int))), [], 1⟩ := by
  have hln : l.length ≤ 1099511627 := by have := fiSum_by l; omega
  refine fnOK_of true mixed Try.func25 rfl (by rfl) (by rfl) ?_
  have hres := congrArg Array.toList Try.results25
  simp only [Try.ntmps25, BGB, seval]
  (have gx := true_and True; refine go ?_; (repeat' first | exact Ef.mk | apply Lf.mk | refine fun (K : KT) hK hE hT => ?_ | refine fun (KS : KE) hKS => ?_ | refine fun (D : KD) hD => ?_ | refine fun (hg : (_ : Prop)) => ?_ | fail); all_goals (first | (refine Wr.mk ?_; (try clear gx); repeat first | clear hK hE hT K | clear hR hE hT K) | assumption | skip))
  refine loop_v (X := {k : Nat // k ≤ l.length}) [] (fun x => [(1, .c (.v (.int .i64 ((k0 + fiSum (l.take x.1) : Nat) : Int)))), (5, .c (.v (.int .i64 ((x.1 : Nat) : Int))))]) (fun x => [(0, some (.ro ((List.range l.length).map (fiG 5 k0 l))))]) 1 (fun x => l.length - x.1) ⟨0, by omega⟩ ?_
  simp only [KPB, seval]
  refine ⟨?_, ?_⟩
  · (refine wk_a ?_; simp only [MAB, seval]; refine ⟨rfl, rfl, (by decide), ?_, ?_⟩; all_goals (first | (simp only [WKB, seval, fiSum, List.take_zero, Nat.add_zero]; done) | (simp [WKB, seval, fiSum, List.take_zero, Nat.add_zero]; done) | simp only [WKB, seval]))
  · rintro ⟨k, hk⟩ K hR hE hT
    have hsk := fiSum_le l k
    obtain ⟨q, hq⟩ : ∃ q, q = k0 + fiSum (l.take k) := ⟨_, rfl⟩
    simp only [← hq]
    rcases Nat.lt_or_ge k l.length with hlt | hge
    case inr =>
      (have gx := @range_len; refine go ?_; (repeat' first | exact Ef.mk | apply Lf.mk | refine fun (K : KT) hK hE hT => ?_ | refine fun (KS : KE) hKS => ?_ | refine fun (D : KD) hD => ?_ | refine fun (hg : (_ : Prop)) => ?_ | fail); all_goals (first | (refine Wr.mk ?_; (try clear gx); repeat first | clear hK hE hT K | clear hR hE hT K) | assumption | skip))
      obtain rfl : k = l.length := by omega
      rw [List.take_length] at hq
      subst hq
      (refine post_a hres (.inl rfl) ?_; simp only [RSB, ENB, seval, tiAll, true_and]; simp only [MAB, seval]; refine ⟨rfl, rfl, ?_, ?_, ?_⟩ <;> (first | rfl | (simp [WKB, Nat.add_comm, true_and]; done) | (simp only [WKB, seval])))
    case inl =>
      have hsn := fiSum_snoc hlt
      have hsm := fiSum_le l (k + 1)
      have sg' : fiG 5 k0 l k = FileD.q 5 q l[k].Data.length := by simp only [fiG, ← hq, List.getElem?_eq_getElem hlt, Option.map_some, Option.getD_some]
      have cm := markText_k q (by omega)
      have c := heldByteS_k l[k].Data.length (q + 1) (by omega)
      rw [show ((q + 1 : Nat) : Int) = (q : Int) + 1 by omega] at c
      (have gx := And.intro (@range_len) (And.intro (@range_get) (And.intro (@sg') (And.intro (@FileD.q.eq_1) (And.intro @List.length_map.{0,0} @List.length_range)))); have q1 := cm; have q2 := c; refine go ?_; (repeat' first | exact Ef.mk | apply Lf.mk | refine fun (K : KT) hK hE hT => ?_ | refine fun (KS : KE) hKS => ?_ | refine fun (D : KD) hD => ?_ | refine fun (hg : (_ : Prop)) => ?_ | fail); all_goals (first | (refine Wr.mk ?_; (try clear gx q1 q2); repeat first | clear hK hE hT K | clear hR hE hT K) | assumption | skip))
      have e2 : ((q + 1 + l[k].Data.length : Nat) : Int) = ((k0 + fiSum (l.take (k + 1)) : Nat) : Int) := by omega
      (refine hR.out ⟨k + 1, by omega⟩ _ _ _ (by simp only; omega) ?_; (refine wk_a ?_; simp only [MAB, seval]; refine ⟨rfl, rfl, (by decide), ?_, ?_⟩; all_goals (first | (simp only [WKB, seval, e2]; done) | (simp [WKB, seval, e2]; done) | simp only [WKB, seval])))

set_option maxHeartbeats 4000000 in
theorem szFileS_k (l : List FileD) (b : Nat) (T : Nat) (hw : l.length ≤ 9223372036854775807) (hn : ∀ s ∈ l, s.Name.length ≤ 9223372036854775807) (hs : ∀ s ∈ l, s.Data.length ≤ 9223372036854775807) (hb : b ≤ 1048576) : FnOK Try.prog 54 ⟨1, [(0, some (.ro (l.map (FileD.k T))))], [.c (.sl 0 2 0 l.length), .c (.v (.int .i64 (b : Int)))], .c (.v (.int .i64 (szL b (l.length + szF l)))), [], 1⟩ := by
  rcases Nat.lt_or_ge b l.length with h0 | h0
  · skip
    refine fnOK_of true mixed Try.func54 rfl (by rfl) (by rfl) ?_
    have hres := congrArg Array.toList Try.results54
    simp only [Try.ntmps54, BGB, seval]
    (have gx := true_and True; refine go ?_; (repeat' first | exact Ef.mk | apply Lf.mk | refine fun (K : KT) hK hE hT => ?_ | refine fun (KS : KE) hKS => ?_ | refine fun (D : KD) hD => ?_ | refine fun (hg : (_ : Prop)) => ?_ | fail); all_goals (first | (refine Wr.mk ?_; (try clear gx); repeat first | clear hK hE hT K | clear hR hE hT K) | assumption | skip))
    (refine post_a hres (.inl rfl) ?_; simp only [RSB, ENB, seval, tiAll, szL_neg b (l.length + szF l) (by omega)]; simp only [MAB, seval]; refine ⟨rfl, rfl, ?_, ?_, ?_⟩ <;> (first | rfl | (simp [WKB, Nat.add_comm, szL_neg b (l.length + szF l) (by omega)]; done) | (simp only [WKB, seval])))
  refine fnOK_of true mixed Try.func54 rfl (by rfl) (by rfl) ?_
  have hres := congrArg Array.toList Try.results54
  simp only [Try.ntmps54, BGB, seval]
  (have gx := true_and True; refine go ?_; (repeat' first | exact Ef.mk | apply Lf.mk | refine fun (K : KT) hK hE hT => ?_ | refine fun (KS : KE) hKS => ?_ | refine fun (D : KD) hD => ?_ | refine fun (hg : (_ : Prop)) => ?_ | fail); all_goals (first | (refine Wr.mk ?_; (try clear gx); repeat first | clear hK hE hT K | clear hR hE hT K) | assumption | skip))
  refine loop_v (X := {k : Nat // k ≤ l.length ∧ l.length + szF (l.take k) ≤ b}) [] (fun x => [(1, .c (.v (.int .i64 ((b - (l.length + szF (l.take x.1)) : Nat) : Int)))), (5, .c (.v (.int .i64 ((x.1 : Nat) : Int))))]) (fun x => [(0, some (.ro (l.map (FileD.k T))))]) 1 (fun x => l.length - x.1) ⟨0, by omega, by simp [szF]; omega⟩ ?_
  simp only [KPB, seval]
  refine ⟨?_, ?_⟩
  · have e : (b : Int) - (l.length : Int) = ((b - (l.length + 0) : Nat) : Int) := by omega
    (refine wk_a ?_; simp only [MAB, seval]; refine ⟨rfl, rfl, (by decide), ?_, ?_⟩; all_goals (first | (simp only [WKB, seval, szF, List.take_zero, e]; done) | (simp [WKB, seval, szF, List.take_zero, e]; done) | simp only [WKB, seval]))
  · rintro ⟨k, hk, hkb⟩ K hR hE hT
    rcases Nat.lt_or_ge k l.length with hlt | hge
    case inr =>
      (have gx := @List.length_map.{0,0}; refine go ?_; (repeat' first | exact Ef.mk | apply Lf.mk | refine fun (K : KT) hK hE hT => ?_ | refine fun (KS : KE) hKS => ?_ | refine fun (D : KD) hD => ?_ | refine fun (hg : (_ : Prop)) => ?_ | fail); all_goals (first | (refine Wr.mk ?_; (try clear gx); repeat first | clear hK hE hT K | clear hR hE hT K) | assumption | skip))
      obtain rfl : k = l.length := by omega
      rw [List.take_length] at *
      have e : szL b (l.length + szF l) = ((b - (l.length + szF l) : Nat) : Int) := by rw [szL_sub _ _ (by omega)]
      (refine post_a hres (.inl rfl) ?_; simp only [RSB, ENB, seval, tiAll, e]; simp only [MAB, seval]; refine ⟨rfl, rfl, ?_, ?_, ?_⟩ <;> (first | rfl | (simp [WKB, Nat.add_comm, e]; done) | (simp only [WKB, seval])))
    case inl =>
      have hsn := szF_snoc hlt
      have hel := szF_le l (k + 1)
      obtain ⟨z, hz⟩ : ∃ z, z = b - (l.length + szF (l.take k)) := ⟨_, rfl⟩
      simp only [← hz]
      have c := szFile_k l[k] z T (hn _ (List.getElem_mem hlt)) (hs _ (List.getElem_mem hlt)) (by omega)
      rcases Nat.lt_or_ge z (l[k].Name.length + l[k].Data.length) with h1 | h1
      · rw [szL_neg z _ h1] at c
        (have gx := And.intro (@List.length_map.{0,0}) (And.intro @List.getElem_map.{0,0} @FileD.k.eq_1); have q1 := c; refine go ?_; (repeat' first | exact Ef.mk | apply Lf.mk | refine fun (K : KT) hK hE hT => ?_ | refine fun (KS : KE) hKS => ?_ | refine fun (D : KD) hD => ?_ | refine fun (hg : (_ : Prop)) => ?_ | fail); all_goals (first | (refine Wr.mk ?_; (try clear gx q1); repeat first | clear hK hE hT K | clear hR hE hT K) | assumption | skip))
        (refine post_a hres (.inl rfl) ?_; simp only [RSB, ENB, seval, tiAll, szL_neg b (l.length + szF l) (by omega)]; simp only [MAB, seval]; refine ⟨rfl, rfl, ?_, ?_, ?_⟩ <;> (first | rfl | (simp [WKB, Nat.add_comm, szL_neg b (l.length + szF l) (by omega)]; done) | (simp only [WKB, seval])))
      · rw [szL_sub z _ h1] at c
        (have gx := And.intro (@List.length_map.{0,0}) (And.intro @List.getElem_map.{0,0} @FileD.k.eq_1); have q1 := c; refine go ?_; (repeat' first | exact Ef.mk | apply Lf.mk | refine fun (K : KT) hK hE hT => ?_ | refine fun (KS : KE) hKS => ?_ | refine fun (D : KD) hD => ?_ | refine fun (hg : (_ : Prop)) => ?_ | fail); all_goals (first | (refine Wr.mk ?_; (try clear gx q1); repeat first | clear hK hE hT K | clear hR hE hT K) | assumption | skip))
        have e2 : z - (l[k].Name.length + l[k].Data.length) = b - (l.length + szF (l.take (k + 1))) := by omega
        (refine hR.out ⟨k + 1, by omega, by omega⟩ _ _ _ (by simp only; omega) ?_; (refine wk_a ?_; simp only [MAB, seval]; refine ⟨rfl, rfl, (by decide), ?_, ?_⟩; all_goals (first | (simp only [WKB, seval, e2]; done) | (simp [WKB, seval, e2]; done) | simp only [WKB, seval])))

end Go.Proofs.Ytfnhchcgieeedaa
