/-
  Contracts of the law's helpers for an operation on files, for slices of them. No conditions of its own.
-/
import Derived.Test.YtfnhchcgieeedaaGO
import Derived.Test.YtfnhchcgieeedaaDH2
namespace Go.Proofs.Ytfnhchcgieeedaa
set_option linter.unusedSimpArgs false
set_option linter.unusedVariables false
set_option linter.unusedSimpArgs false
set_option linter.unusedVariables false
set_option linter.defProp false
set_option maxRecDepth 20000
open Go.RowKit

structure FsOpD where
  Kind : Int
  Name : List UInt8
  To : List UInt8
  Data : List UInt8
deriving DecidableEq

def FsOpD.k (T : Nat) (x : FsOpD) : List DC := [.v (.int .i64 x.Kind), .v (.string (txt x.Name)), .v (.string (txt x.To)), .sl T 1 (x.Data.map bytK)]
def FsOpD.q (T q n : Nat) : List DC := [.v (.int .i64 (q : Int)), .v (.string (txt (mtx (q + 1)))), .v (.string (txt (mtx (q + 2)))), .sl T 1 ((List.range n).map (bytQ (q + 3)))]
def opSum : List FsOpD → Nat
  | [] => 0
  | s :: l => 3 + s.Data.length + opSum l
def byO : List FsOpD → Nat
  | [] => 0
  | s :: l => s.Data.length + byO l
/-- What counts of a file: the letters of its name, too. -/
def szO : List FsOpD → Nat
  | [] => 0
  | s :: l => s.Name.length + s.To.length + s.Data.length + szO l
def opG (T k0 : Nat) (l : List FsOpD) (i : Nat) : List DC := FsOpD.q T (k0 + opSum (l.take i)) (((l[i]?).map (·.Data.length)).getD 0)
theorem opSum_snoc : ∀ {l : List FsOpD} {k : Nat} (h : k < l.length), opSum (l.take (k + 1)) = opSum (l.take k) + 3 + l[k].Data.length
  | s :: l, 0, h => by simp [opSum]
  | s :: l, k + 1, h => by
    have := opSum_snoc (l := l) (k := k) (by simpa using h)
    simp only [List.take_succ_cons, opSum, List.getElem_cons_succ, this]; omega
theorem opSum_le : ∀ (l : List FsOpD) (k : Nat), opSum (l.take k) ≤ opSum l
  | [], k => by simp
  | s :: l, 0 => by simp [opSum]
  | s :: l, k + 1 => by have := opSum_le l k; simp only [List.take_succ_cons, opSum]; omega
theorem opSum_by : ∀ l : List FsOpD, opSum l = 3 * l.length + byO l
  | [] => rfl
  | s :: l => by simp only [opSum, byO, List.length_cons, opSum_by l]; omega
theorem szO_snoc : ∀ {l : List FsOpD} {k : Nat} (h : k < l.length), szO (l.take (k + 1)) = szO (l.take k) + l[k].Name.length + l[k].To.length + l[k].Data.length
  | s :: l, 0, h => by simp [szO]
  | s :: l, k + 1, h => by
    have := szO_snoc (l := l) (k := k) (by simpa using h)
    simp only [List.take_succ_cons, szO, List.getElem_cons_succ, this]; omega
theorem szO_le : ∀ (l : List FsOpD) (k : Nat), szO (l.take k) ≤ szO l
  | [], k => by simp
  | s :: l, 0 => by simp [szO]
  | s :: l, k + 1 => by have := szO_le l k; simp only [List.take_succ_cons, szO]; omega

set_option maxHeartbeats 2000000 in
theorem toFsOp_k (x : FsOpD) (h : x.Data.length ≤ 1048576) : FnOK Try.prog 109 ⟨1, [(0, some (.ro (x.Data.map bytK)))], [.agg [.v (.int .i64 x.Kind), .v (.string (txt x.Name)), .v (.string (txt x.To)), .sl 0 1 0 x.Data.length]], .agg [.v (.int .i64 x.Kind), .v (.string (txt x.Name)), .v (.string (txt x.To)), .sl 1 1 0 x.Data.length], [(1, some (.row 5 (x.Data.map bytK)))], 2⟩ := by
  have c := toByteS_k x.Data h
  refine fnOK_of true mixed Try.func109 rfl (by rfl) (by rfl) ?_
  have hres := congrArg Array.toList Try.results109
  simp only [Try.ntmps109, BGB, seval]
  (have gx := true_and True; have q1 := c; refine go ?_; (repeat' first | exact Ef.mk | apply Lf.mk | refine fun (K : KT) hK hE hT => ?_ | refine fun (KS : KE) hKS => ?_ | refine fun (D : KD) hD => ?_ | refine fun (hg : (_ : Prop)) => ?_ | fail); all_goals (first | (refine Wr.mk ?_; (try clear gx q1); repeat first | clear hK hE hT K | clear hR hE hT K) | assumption | skip))
  (refine post_a hres (.inl rfl) ?_; simp only [RSB, ENB, seval, tiAll, true_and]; simp only [MAB, seval]; refine ⟨rfl, rfl, ?_, ?_, ?_⟩ <;> (first | rfl | (simp [WKB, Nat.add_comm, true_and]; done) | (simp only [WKB, seval])))

set_option maxHeartbeats 2000000 in
theorem eqFsOp_k (x y : FsOpD) (hx : x.Data.length ≤ 1048576) (hy : y.Data.length ≤ 1048576) : FnOK Try.prog 114 ⟨2, [(0, some (.ro (x.Data.map bytK))), (1, some (.ro (y.Data.map bytK)))], [.agg [.v (.int .i64 x.Kind), .v (.string (txt x.Name)), .v (.string (txt x.To)), .sl 0 1 0 x.Data.length], .agg [.v (.int .i64 y.Kind), .v (.string (txt y.Name)), .v (.string (txt y.To)), .sl 1 1 0 y.Data.length]], .c (.v (.bool (decide (x = y)))), [], 2⟩ := by
  have c := eqByteS_k x.Data y.Data (by omega) (by omega)
  have hd : (x = y) ↔ (x.Kind = y.Kind ∧ x.Name = y.Name ∧ x.To = y.To ∧ x.Data = y.Data) := by cases x; cases y; simp
  refine fnOK_of true mixed Try.func114 rfl (by rfl) (by rfl) ?_
  have hres := congrArg Array.toList Try.results114
  simp only [Try.ntmps114, BGB, seval]
  (have gx := @txt_list; have q1 := c; refine go ?_; (repeat' first | exact Ef.mk | apply Lf.mk | refine fun (K : KT) hK hE hT => ?_ | refine fun (KS : KE) hKS => ?_ | refine fun (D : KD) hD => ?_ | refine fun (hg : (_ : Prop)) => ?_ | fail); all_goals (first | (refine Wr.mk ?_; (try clear gx q1); repeat first | clear hK hE hT K | clear hR hE hT K) | assumption | skip))
  all_goals (refine post_a hres (.inl rfl) ?_; simp only [RSB, ENB, seval, tiAll, true_and]; simp only [MAB, seval]; refine ⟨rfl, rfl, ?_, ?_, ?_⟩ <;> (first | rfl | (simp [WKB, Nat.add_comm, true_and]; done) | (simp only [WKB, seval])))
  all_goals (refine congrArg (fun b => SV.c (CV.v (Value.bool b))) ?_; symm; simp only [decide_eq_false_iff_not, decide_eq_true_eq, hd]; simp_all)

set_option maxHeartbeats 2000000 in
theorem szFsOp_k (x : FsOpD) (b : Nat) (hn : x.Name.length ≤ 9223372036854775807) (ht : x.To.length ≤ 9223372036854775807) (h : x.Data.length ≤ 9223372036854775807) (hb : b ≤ 1048576) : FnOK Try.prog 105 ⟨1, [(0, some (.ro (x.Data.map bytK)))], [.agg [.v (.int .i64 x.Kind), .v (.string (txt x.Name)), .v (.string (txt x.To)), .sl 0 1 0 x.Data.length], .c (.v (.int .i64 (b : Int)))], .c (.v (.int .i64 (szL b (x.Name.length + x.To.length + x.Data.length)))), [], 1⟩ := by
  rcases Nat.lt_or_ge b x.Name.length with h0 | h0
  · skip
    refine fnOK_of true mixed Try.func105 rfl (by rfl) (by rfl) ?_
    have hres := congrArg Array.toList Try.results105
    simp only [Try.ntmps105, BGB, seval]
    (have gx := @txt_len; refine go ?_; (repeat' first | exact Ef.mk | apply Lf.mk | refine fun (K : KT) hK hE hT => ?_ | refine fun (KS : KE) hKS => ?_ | refine fun (D : KD) hD => ?_ | refine fun (hg : (_ : Prop)) => ?_ | fail); all_goals (first | (refine Wr.mk ?_; (try clear gx); repeat first | clear hK hE hT K | clear hR hE hT K) | assumption | skip))
    (refine post_a hres (.inl rfl) ?_; simp only [RSB, ENB, seval, tiAll, szL_neg b (x.Name.length + x.To.length + x.Data.length) (by omega)]; simp only [MAB, seval]; refine ⟨rfl, rfl, ?_, ?_, ?_⟩ <;> (first | rfl | (simp [WKB, Nat.add_comm, szL_neg b (x.Name.length + x.To.length + x.Data.length) (by omega)]; done) | (simp only [WKB, seval])))
  · have e1 : (b : Int) - (x.Name.length : Int) = ((b - x.Name.length : Nat) : Int) := by omega
    rcases Nat.lt_or_ge (b - x.Name.length) x.To.length with h2 | h2
    · skip
      refine fnOK_of true mixed Try.func105 rfl (by rfl) (by rfl) ?_
      have hres := congrArg Array.toList Try.results105
      simp only [Try.ntmps105, BGB, seval]
      (have gx := And.intro @txt_len @e1; refine go ?_; (repeat' first | exact Ef.mk | apply Lf.mk | refine fun (K : KT) hK hE hT => ?_ | refine fun (KS : KE) hKS => ?_ | refine fun (D : KD) hD => ?_ | refine fun (hg : (_ : Prop)) => ?_ | fail); all_goals (first | (refine Wr.mk ?_; (try clear gx); repeat first | clear hK hE hT K | clear hR hE hT K) | assumption | skip))
      (refine post_a hres (.inl rfl) ?_; simp only [RSB, ENB, seval, tiAll, szL_neg b (x.Name.length + x.To.length + x.Data.length) (by omega)]; simp only [MAB, seval]; refine ⟨rfl, rfl, ?_, ?_, ?_⟩ <;> (first | rfl | (simp [WKB, Nat.add_comm, szL_neg b (x.Name.length + x.To.length + x.Data.length) (by omega)]; done) | (simp only [WKB, seval])))
    · have e3 : ((b - x.Name.length : Nat) : Int) - (x.To.length : Int) = ((b - x.Name.length - x.To.length : Nat) : Int) := by omega
      have c := szByteS_k x.Data.length (b - x.Name.length - x.To.length) (x.Data.map bytK) (by simp) (by omega) (by omega)
      rcases Nat.lt_or_ge (b - x.Name.length - x.To.length) x.Data.length with h1 | h1
      · rw [szL_neg _ _ h1] at c
        refine fnOK_of true mixed Try.func105 rfl (by rfl) (by rfl) ?_
        have hres := congrArg Array.toList Try.results105
        simp only [Try.ntmps105, BGB, seval]
        (have gx := And.intro (@txt_len) (And.intro @e1 @e3); have q1 := c; refine go ?_; (repeat' first | exact Ef.mk | apply Lf.mk | refine fun (K : KT) hK hE hT => ?_ | refine fun (KS : KE) hKS => ?_ | refine fun (D : KD) hD => ?_ | refine fun (hg : (_ : Prop)) => ?_ | fail); all_goals (first | (refine Wr.mk ?_; (try clear gx q1); repeat first | clear hK hE hT K | clear hR hE hT K) | assumption | skip))
        (refine post_a hres (.inl rfl) ?_; simp only [RSB, ENB, seval, tiAll, szL_neg b (x.Name.length + x.To.length + x.Data.length) (by omega)]; simp only [MAB, seval]; refine ⟨rfl, rfl, ?_, ?_, ?_⟩ <;> (first | rfl | (simp [WKB, Nat.add_comm, szL_neg b (x.Name.length + x.To.length + x.Data.length) (by omega)]; done) | (simp only [WKB, seval])))
      · rw [szL_sub _ _ h1] at c
        refine fnOK_of true mixed Try.func105 rfl (by rfl) (by rfl) ?_
        have hres := congrArg Array.toList Try.results105
        simp only [Try.ntmps105, BGB, seval]
        (have gx := And.intro (@txt_len) (And.intro @e1 @e3); have q1 := c; refine go ?_; (repeat' first | exact Ef.mk | apply Lf.mk | refine fun (K : KT) hK hE hT => ?_ | refine fun (KS : KE) hKS => ?_ | refine fun (D : KD) hD => ?_ | refine fun (hg : (_ : Prop)) => ?_ | fail); all_goals (first | (refine Wr.mk ?_; (try clear gx q1); repeat first | clear hK hE hT K | clear hR hE hT K) | assumption | skip))
        have e2 : b - x.Name.length - x.To.length - x.Data.length = b - (x.Name.length + x.To.length + x.Data.length) := by omega
        (refine post_a hres (.inl rfl) ?_; simp only [RSB, ENB, seval, tiAll, szL_sub b (x.Name.length + x.To.length + x.Data.length) (by omega), e2]; simp only [MAB, seval]; refine ⟨rfl, rfl, ?_, ?_, ?_⟩ <;> (first | rfl | (simp [WKB, Nat.add_comm, szL_sub b (x.Name.length + x.To.length + x.Data.length) (by omega), e2]; done) | (simp only [WKB, seval])))

set_option maxHeartbeats 2000000 in
theorem toFsOpS_k (l : List FsOpD) (hl : l.length ≤ 1048576) (hs : ∀ s ∈ l, s.Data.length ≤ 1048576) : FnOK Try.prog 59 ⟨1, [(0, some (.ro (l.map (FsOpD.k 5))))], [.c (.sl 0 4 0 l.length)], .c (.sl 1 4 0 l.length), [(1, some (.nst 66 (l.map (FsOpD.k 5)) none))], 2⟩ := by
  have c0 : ({ data := #[] } : ByteArray) = txt [] := rfl
  refine fnOK_of true mixed Try.func59 rfl (by rfl) (by rfl) ?_
  have hres := congrArg Array.toList Try.results59
  simp only [Try.ntmps59, BGB, seval]
  (have gx := true_and True; refine go ?_; (repeat' first | exact Ef.mk | apply Lf.mk | refine fun (K : KT) hK hE hT => ?_ | refine fun (KS : KE) hKS => ?_ | refine fun (D : KD) hD => ?_ | refine fun (hg : (_ : Prop)) => ?_ | fail); all_goals (first | (refine Wr.mk ?_; (try clear gx); repeat first | clear hK hE hT K | clear hR hE hT K) | assumption | skip))
  refine loop_v (X := {k : Nat // k ≤ l.length}) [] (fun x => [(4, .c (.v (.int .i64 ((x.1 : Nat) : Int))))]) (fun x => [(0, some (.ro (l.map (FsOpD.k 5)))), (1, some (.nst 66 (fillTo (FsOpD.k 5) (FsOpD.k 5 ⟨0, [], [], []⟩) l x.1) none))]) 2 (fun x => l.length - x.1) ⟨0, by omega⟩ ?_
  simp only [KPB, seval]
  refine ⟨?_, ?_⟩
  · (refine wk_a ?_; simp only [MAB, seval]; refine ⟨rfl, rfl, (by decide), ?_, ?_⟩; all_goals (first | (simp only [WKB, seval, fillTo_zero, FsOpD.k, List.map_nil, c0]; done) | (simp [WKB, seval, fillTo_zero, FsOpD.k, List.map_nil, c0]; done) | simp only [WKB, seval]))
  · rintro ⟨k, hk⟩ K hR hE hT
    rcases Nat.lt_or_ge k l.length with hlt | hge
    case inr =>
      (have gx := And.intro (@List.length_map.{0,0}) (And.intro (@List.getElem_map.{0,0}) (And.intro (@fillTo_len) (And.intro (@fillTo_get) (And.intro @fillTo_set @FsOpD.k.eq_1)))); refine go ?_; (repeat' first | exact Ef.mk | apply Lf.mk | refine fun (K : KT) hK hE hT => ?_ | refine fun (KS : KE) hKS => ?_ | refine fun (D : KD) hD => ?_ | refine fun (hg : (_ : Prop)) => ?_ | fail); all_goals (first | (refine Wr.mk ?_; (try clear gx); repeat first | clear hK hE hT K | clear hR hE hT K) | assumption | skip))
      obtain rfl : k = l.length := by omega
      (refine post_a hres (.inl rfl) ?_; simp only [RSB, ENB, seval, tiAll, fillTo_end]; simp only [MAB, seval]; refine ⟨rfl, rfl, ?_, ?_, ?_⟩ <;> (first | rfl | (simp [WKB, Nat.add_comm, fillTo_end]; done) | (simp only [WKB, seval])))
    case inl =>
      have c := toFsOp_k l[k] (hs _ (List.getElem_mem hlt))
      (have gx := And.intro (@List.length_map.{0,0}) (And.intro (@List.getElem_map.{0,0}) (And.intro (@fillTo_len) (And.intro (@fillTo_get) (And.intro @fillTo_set @FsOpD.k.eq_1)))); have q1 := c; refine go ?_; (repeat' first | exact Ef.mk | apply Lf.mk | refine fun (K : KT) hK hE hT => ?_ | refine fun (KS : KE) hKS => ?_ | refine fun (D : KD) hD => ?_ | refine fun (hg : (_ : Prop)) => ?_ | fail); all_goals (first | (refine Wr.mk ?_; (try clear gx q1); repeat first | clear hK hE hT K | clear hR hE hT K) | assumption | skip))
      have e := fillTo_set (FsOpD.k 5) (FsOpD.k 5 ⟨0, [], [], []⟩) l k hlt
      simp only [FsOpD.k, List.map_nil] at e
      (refine hR.out ⟨k + 1, by omega⟩ _ _ _ (by simp only; omega) ?_; (refine wk_a ?_; simp only [MAB, seval]; refine ⟨rfl, rfl, (by decide), ?_, ?_⟩; all_goals (first | (simp only [WKB, seval, e, FsOpD.k, List.map_nil]; done) | (simp [WKB, seval, e, FsOpD.k, List.map_nil]; done) | simp only [WKB, seval])))

set_option maxHeartbeats 2000000 in
theorem eqFsOpS_k (l m : List FsOpD) (hl : l.length ≤ 1048576) (hm : m.length ≤ 1048576) (hsl : ∀ s ∈ l, s.Data.length ≤ 1048576) (hsm : ∀ s ∈ m, s.Data.length ≤ 1048576) : FnOK Try.prog 63 ⟨2, [(0, some (.ro (l.map (FsOpD.k 5)))), (1, some (.ro (m.map (FsOpD.k 5))))], [.c (.sl 0 4 0 l.length), .c (.sl 1 4 0 m.length)], .c (.v (.bool (decide (l = m)))), [], 2⟩ := by
  refine fnOK_of true mixed Try.func63 rfl (by rfl) (by rfl) ?_
  have hres := congrArg Array.toList Try.results63
  simp only [Try.ntmps63, BGB, seval]
  (have gx := true_and True; refine go ?_; (repeat' first | exact Ef.mk | apply Lf.mk | refine fun (K : KT) hK hE hT => ?_ | refine fun (KS : KE) hKS => ?_ | refine fun (D : KD) hD => ?_ | refine fun (hg : (_ : Prop)) => ?_ | fail); all_goals (first | (refine Wr.mk ?_; (try clear gx); repeat first | clear hK hE hT K | clear hR hE hT K) | assumption | skip))
  · (have hfin := eqs_len (l := l) (m := m) (by omega); (refine post_a hres (.inl rfl) ?_; simp only [RSB, ENB, seval, tiAll, ← hfin]; simp only [MAB, seval]; refine ⟨rfl, rfl, ?_, ?_, ?_⟩ <;> (first | rfl | (simp [WKB, Nat.add_comm, ← hfin]; done) | (simp only [WKB, seval]))))
  · have hlm : l.length = m.length := by omega
    refine loop_v (X := {k : Nat // k ≤ l.length ∧ Rnd (∀ i, i < k → l[i]? = m[i]?)}) [] (fun x => [(5, .c (.v (.int .i64 ((x.1 : Nat) : Int))))]) (fun x => [(0, some (.ro (l.map (FsOpD.k 5)))), (1, some (.ro (m.map (FsOpD.k 5))))]) 2 (fun x => l.length - x.1) ⟨0, by omega, ⟨fun i hi => by omega⟩⟩ ?_
    simp only [KPB, seval]
    refine ⟨?_, ?_⟩
    · (refine wk_a ?_; simp only [MAB, seval]; refine ⟨rfl, rfl, (by decide), ?_, ?_⟩; all_goals (first | (simp only [WKB, seval, true_and]; done) | (simp [WKB, seval, true_and]; done) | simp only [WKB, seval]))
    · rintro ⟨k, hk, hi⟩ K hR hE hT
      rcases Nat.lt_or_ge k l.length with hlt | hge
      case inr =>
        (have gx := @List.length_map.{0,0}; refine go ?_; (repeat' first | exact Ef.mk | apply Lf.mk | refine fun (K : KT) hK hE hT => ?_ | refine fun (KS : KE) hKS => ?_ | refine fun (D : KD) hD => ?_ | refine fun (hg : (_ : Prop)) => ?_ | fail); all_goals (first | (refine Wr.mk ?_; (try clear gx); repeat first | clear hK hE hT K | clear hR hE hT K) | assumption | skip))
        (have hfin := eqs_end (l := l) (m := m) hlm k (by omega) hi.out; (refine post_a hres (.inl rfl) ?_; simp only [RSB, ENB, seval, tiAll, ← hfin]; simp only [MAB, seval]; refine ⟨rfl, rfl, ?_, ?_, ?_⟩ <;> (first | rfl | (simp [WKB, Nat.add_comm, ← hfin]; done) | (simp only [WKB, seval]))))
      case inl =>
        have c := eqFsOp_k l[k] (m[k]'(by omega)) (hsl _ (List.getElem_mem _)) (hsm _ (List.getElem_mem _))
        (have gx := And.intro (@List.length_map.{0,0}) (And.intro @List.getElem_map.{0,0} @FsOpD.k.eq_1); have q1 := c; refine go ?_; (repeat' first | exact Ef.mk | apply Lf.mk | refine fun (K : KT) hK hE hT => ?_ | refine fun (KS : KE) hKS => ?_ | refine fun (D : KD) hD => ?_ | refine fun (hg : (_ : Prop)) => ?_ | fail); all_goals (first | (refine Wr.mk ?_; (try clear gx q1); repeat first | clear hK hE hT K | clear hR hE hT K) | assumption | skip))
        · (have hfin := eqs_hit (l := l) (m := m) k (by omega) (by omega) (by assumption); (refine post_a hres (.inl rfl) ?_; simp only [RSB, ENB, seval, tiAll, ← hfin]; simp only [MAB, seval]; refine ⟨rfl, rfl, ?_, ?_, ?_⟩ <;> (first | rfl | (simp [WKB, Nat.add_comm, ← hfin]; done) | (simp only [WKB, seval]))))
        · refine hR.out ⟨k + 1, by omega, ⟨fun i h => ?_⟩⟩ _ _ _ (by simp only; omega) ?_
          · by_cases hik : i = k
            · subst hik
              rw [List.getElem?_eq_getElem (by omega), List.getElem?_eq_getElem (by omega)]
              exact congrArg some (by assumption)
            · exact hi.out i (by omega)
          · (refine wk_a ?_; simp only [MAB, seval]; refine ⟨rfl, rfl, (by decide), ?_, ?_⟩; all_goals (first | (simp only [WKB, seval, true_and]; done) | (simp [WKB, seval, true_and]; done) | simp only [WKB, seval]))

set_option maxHeartbeats 4000000 in
theorem markFsOpS_k (l : List FsOpD) (k0 : Nat) (hk0 : k0 + opSum l ≤ 1099511627) : FnOK Try.prog 64 ⟨1, [(0, some (.nst 66 (l.map (FsOpD.k 5)) none))], [.c (.sl 0 4 0 l.length), .c (.v (.int .i64 (k0 : Int)))], .c (.v (.int .i64 ((k0 + opSum l : Nat) : Int))), [(0, some (.nst 66 ((List.range l.length).map (opG 5 k0 l)) none))], 1⟩ := by
  have hln : l.length ≤ 1099511627 := by have := opSum_by l; omega
  refine fnOK_of true mixed Try.func64 rfl (by rfl) (by rfl) ?_
  have hres := congrArg Array.toList Try.results64
  simp only [Try.ntmps64, BGB, seval]
  (have gx := true_and True; refine go ?_; (repeat' first | exact Ef.mk | apply Lf.mk | refine fun (K : KT) hK hE hT => ?_ | refine fun (KS : KE) hKS => ?_ | refine fun (D : KD) hD => ?_ | refine fun (hg : (_ : Prop)) => ?_ | fail); all_goals (first | (refine Wr.mk ?_; (try clear gx); repeat first | clear hK hE hT K | clear hR hE hT K) | assumption | skip))
  refine loop_v (X := {k : Nat // k ≤ l.length}) [] (fun x => [(1, .c (.v (.int .i64 ((k0 + opSum (l.take x.1) : Nat) : Int)))), (5, .c (.v (.int .i64 ((x.1 : Nat) : Int))))]) (fun x => [(0, some (.nst 66 (setTo (opG 5 k0 l) (FsOpD.k 5) l x.1) none))]) 1 (fun x => l.length - x.1) ⟨0, by omega⟩ ?_
  simp only [KPB, seval]
  refine ⟨?_, ?_⟩
  · (refine wk_a ?_; simp only [MAB, seval]; refine ⟨rfl, rfl, (by decide), ?_, ?_⟩; all_goals (first | (simp only [WKB, seval, setTo_zero, opSum, List.take_zero, Nat.add_zero]; done) | (simp [WKB, seval, setTo_zero, opSum, List.take_zero, Nat.add_zero]; done) | simp only [WKB, seval]))
  · rintro ⟨k, hk⟩ K hR hE hT
    have sl := setTo_len (opG 5 k0 l) (FsOpD.k 5) l k hk
    have hsk := opSum_le l k
    obtain ⟨q, hq⟩ : ∃ q, q = k0 + opSum (l.take k) := ⟨_, rfl⟩
    simp only [← hq]
    rcases Nat.lt_or_ge k l.length with hlt | hge
    case inr =>
      (have gx := @sl; refine go ?_; (repeat' first | exact Ef.mk | apply Lf.mk | refine fun (K : KT) hK hE hT => ?_ | refine fun (KS : KE) hKS => ?_ | refine fun (D : KD) hD => ?_ | refine fun (hg : (_ : Prop)) => ?_ | fail); all_goals (first | (refine Wr.mk ?_; (try clear gx); repeat first | clear hK hE hT K | clear hR hE hT K) | assumption | skip))
      obtain rfl : k = l.length := by omega
      rw [List.take_length] at hq
      subst hq
      (refine post_a hres (.inl rfl) ?_; simp only [RSB, ENB, seval, tiAll, setTo_end]; simp only [MAB, seval]; refine ⟨rfl, rfl, ?_, ?_, ?_⟩ <;> (first | rfl | (simp [WKB, Nat.add_comm, setTo_end]; done) | (simp only [WKB, seval])))
    case inl =>
      have hsn := opSum_snoc hlt
      have hsm := opSum_le l (k + 1)
      have sg := setTo_get (opG 5 k0 l) (FsOpD.k 5) l k hlt (by omega)
      simp only [FsOpD.k] at sg
      have cm := markText_k (q + 1) (by omega)
      have cn := markText_k (q + 2) (by omega)
      rw [show ((q + 1 : Nat) : Int) = (q : Int) + 1 by omega] at cm
      rw [show ((q + 2 : Nat) : Int) = (q : Int) + 1 + 1 by omega] at cn
      have c := markByteS_k l[k].Data (q + 3) (by omega)
      rw [show ((q + 3 : Nat) : Int) = (q : Int) + 1 + 1 + 1 by omega] at c
      (have gx := And.intro (@sl) (And.intro (@sg) (And.intro (@List.length_set.{0}) (And.intro @List.getElem_set_self.{0} @List.set_set.{0}))); have q1 := cm; have q2 := cn; have q3 := c; refine go ?_; (repeat' first | exact Ef.mk | apply Lf.mk | refine fun (K : KT) hK hE hT => ?_ | refine fun (KS : KE) hKS => ?_ | refine fun (D : KD) hD => ?_ | refine fun (hg : (_ : Prop)) => ?_ | fail); all_goals (first | (refine Wr.mk ?_; (try clear gx q1 q2 q3); repeat first | clear hK hE hT K | clear hR hE hT K) | assumption | skip))
      refine hR.out ⟨k + 1, by omega⟩ _ _ _ (by simp only; omega) ?_
      have e := setTo_set (opG 5 k0 l) (FsOpD.k 5) l k hlt
      simp only [opG, ← hq, FsOpD.q, List.getElem?_eq_getElem hlt, Option.map_some, Option.getD_some] at e
      have e2 : ((q + 3 + l[k].Data.length : Nat) : Int) = ((k0 + opSum (l.take (k + 1)) : Nat) : Int) := by omega
      (refine Wk.trans (wk_close (f := 0) (g := 1) rfl rfl (by decide) (by simp [List.length_map])) ?_; simp only [EVB, seval, set_modF, List.length_map])
      (refine wk_a ?_; simp only [MAB, seval]; refine ⟨rfl, rfl, (by decide), ?_, ?_⟩; all_goals (first | (simp only [WKB, seval, opG, e, e2]; done) | (simp [WKB, seval, opG, e, e2]; done) | simp only [WKB, seval]))

set_option maxHeartbeats 4000000 in
theorem heldFsOpS_k (l : List FsOpD) (k0 : Nat) (hk0 : k0 + opSum l ≤ 1099511627) : FnOK Try.prog 74 ⟨1, [(0, some (.ro ((List.range l.length).map (opG 5 k0 l))))], [.c (.sl 0 4 0 l.length), .c (.v (.int .i64 (k0 : Int)))], .c (.v (.int .i64 ((k0 + opSum l : Nat) : Int))), [], 1⟩ := by
  have hln : l.length ≤ 1099511627 := by have := opSum_by l; omega
  refine fnOK_of true mixed Try.func74 rfl (by rfl) (by rfl) ?_
  have hres := congrArg Array.toList Try.results74
  simp only [Try.ntmps74, BGB, seval]
  (have gx := true_and True; refine go ?_; (repeat' first | exact Ef.mk | apply Lf.mk | refine fun (K : KT) hK hE hT => ?_ | refine fun (KS : KE) hKS => ?_ | refine fun (D : KD) hD => ?_ | refine fun (hg : (_ : Prop)) => ?_ | fail); all_goals (first | (refine Wr.mk ?_; (try clear gx); repeat first | clear hK hE hT K | clear hR hE hT K) | assumption | skip))
  refine loop_v (X := {k : Nat // k ≤ l.length}) [] (fun x => [(1, .c (.v (.int .i64 ((k0 + opSum (l.take x.1) : Nat) : Int)))), (5, .c (.v (.int .i64 ((x.1 : Nat) : Int))))]) (fun x => [(0, some (.ro ((List.range l.length).map (opG 5 k0 l))))]) 1 (fun x => l.length - x.1) ⟨0, by omega⟩ ?_
  simp only [KPB, seval]
  refine ⟨?_, ?_⟩
  · (refine wk_a ?_; simp only [MAB, seval]; refine ⟨rfl, rfl, (by decide), ?_, ?_⟩; all_goals (first | (simp only [WKB, seval, opSum, List.take_zero, Nat.add_zero]; done) | (simp [WKB, seval, opSum, List.take_zero, Nat.add_zero]; done) | simp only [WKB, seval]))
  · rintro ⟨k, hk⟩ K hR hE hT
    have hsk := opSum_le l k
    obtain ⟨q, hq⟩ : ∃ q, q = k0 + opSum (l.take k) := ⟨_, rfl⟩
    simp only [← hq]
    rcases Nat.lt_or_ge k l.length with hlt | hge
    case inr =>
      (have gx := @range_len; refine go ?_; (repeat' first | exact Ef.mk | apply Lf.mk | refine fun (K : KT) hK hE hT => ?_ | refine fun (KS : KE) hKS => ?_ | refine fun (D : KD) hD => ?_ | refine fun (hg : (_ : Prop)) => ?_ | fail); all_goals (first | (refine Wr.mk ?_; (try clear gx); repeat first | clear hK hE hT K | clear hR hE hT K) | assumption | skip))
      obtain rfl : k = l.length := by omega
      rw [List.take_length] at hq
      subst hq
      (refine post_a hres (.inl rfl) ?_; simp only [RSB, ENB, seval, tiAll, true_and]; simp only [MAB, seval]; refine ⟨rfl, rfl, ?_, ?_, ?_⟩ <;> (first | rfl | (simp [WKB, Nat.add_comm, true_and]; done) | (simp only [WKB, seval])))
    case inl =>
      have hsn := opSum_snoc hlt
      have hsm := opSum_le l (k + 1)
      have sg' : opG 5 k0 l k = FsOpD.q 5 q l[k].Data.length := by simp only [opG, ← hq, List.getElem?_eq_getElem hlt, Option.map_some, Option.getD_some]
      have cm := markText_k (q + 1) (by omega)
      have cn := markText_k (q + 2) (by omega)
      rw [show ((q + 1 : Nat) : Int) = (q : Int) + 1 by omega] at cm
      rw [show ((q + 2 : Nat) : Int) = (q : Int) + 1 + 1 by omega] at cn
      have c := heldByteS_k l[k].Data.length (q + 3) (by omega)
      rw [show ((q + 3 : Nat) : Int) = (q : Int) + 1 + 1 + 1 by omega] at c
      (have gx := And.intro (@range_len) (And.intro (@range_get) (And.intro (@sg') (And.intro (@FsOpD.q.eq_1) (And.intro @List.length_map.{0,0} @List.length_range)))); have q1 := cm; have q2 := cn; have q3 := c; refine go ?_; (repeat' first | exact Ef.mk | apply Lf.mk | refine fun (K : KT) hK hE hT => ?_ | refine fun (KS : KE) hKS => ?_ | refine fun (D : KD) hD => ?_ | refine fun (hg : (_ : Prop)) => ?_ | fail); all_goals (first | (refine Wr.mk ?_; (try clear gx q1 q2 q3); repeat first | clear hK hE hT K | clear hR hE hT K) | assumption | skip))
      have e2 : ((q + 3 + l[k].Data.length : Nat) : Int) = ((k0 + opSum (l.take (k + 1)) : Nat) : Int) := by omega
      (refine hR.out ⟨k + 1, by omega⟩ _ _ _ (by simp only; omega) ?_; (refine wk_a ?_; simp only [MAB, seval]; refine ⟨rfl, rfl, (by decide), ?_, ?_⟩; all_goals (first | (simp only [WKB, seval, e2]; done) | (simp [WKB, seval, e2]; done) | simp only [WKB, seval])))

set_option maxHeartbeats 4000000 in
theorem szFsOpS_k (l : List FsOpD) (b : Nat) (T : Nat) (hw : l.length ≤ 9223372036854775807) (hn : ∀ s ∈ l, s.Name.length ≤ 9223372036854775807) (ht : ∀ s ∈ l, s.To.length ≤ 9223372036854775807) (hs : ∀ s ∈ l, s.Data.length ≤ 9223372036854775807) (hb : b ≤ 1048576) : FnOK Try.prog 55 ⟨1, [(0, some (.ro (l.map (FsOpD.k T))))], [.c (.sl 0 4 0 l.length), .c (.v (.int .i64 (b : Int)))], .c (.v (.int .i64 (szL b (l.length + szO l)))), [], 1⟩ := by
  rcases Nat.lt_or_ge b l.length with h0 | h0
  · skip
    refine fnOK_of true mixed Try.func55 rfl (by rfl) (by rfl) ?_
    have hres := congrArg Array.toList Try.results55
    simp only [Try.ntmps55, BGB, seval]
    (have gx := true_and True; refine go ?_; (repeat' first | exact Ef.mk | apply Lf.mk | refine fun (K : KT) hK hE hT => ?_ | refine fun (KS : KE) hKS => ?_ | refine fun (D : KD) hD => ?_ | refine fun (hg : (_ : Prop)) => ?_ | fail); all_goals (first | (refine Wr.mk ?_; (try clear gx); repeat first | clear hK hE hT K | clear hR hE hT K) | assumption | skip))
    (refine post_a hres (.inl rfl) ?_; simp only [RSB, ENB, seval, tiAll, szL_neg b (l.length + szO l) (by omega)]; simp only [MAB, seval]; refine ⟨rfl, rfl, ?_, ?_, ?_⟩ <;> (first | rfl | (simp [WKB, Nat.add_comm, szL_neg b (l.length + szO l) (by omega)]; done) | (simp only [WKB, seval])))
  refine fnOK_of true mixed Try.func55 rfl (by rfl) (by rfl) ?_
  have hres := congrArg Array.toList Try.results55
  simp only [Try.ntmps55, BGB, seval]
  (have gx := true_and True; refine go ?_; (repeat' first | exact Ef.mk | apply Lf.mk | refine fun (K : KT) hK hE hT => ?_ | refine fun (KS : KE) hKS => ?_ | refine fun (D : KD) hD => ?_ | refine fun (hg : (_ : Prop)) => ?_ | fail); all_goals (first | (refine Wr.mk ?_; (try clear gx); repeat first | clear hK hE hT K | clear hR hE hT K) | assumption | skip))
  refine loop_v (X := {k : Nat // k ≤ l.length ∧ l.length + szO (l.take k) ≤ b}) [] (fun x => [(1, .c (.v (.int .i64 ((b - (l.length + szO (l.take x.1)) : Nat) : Int)))), (5, .c (.v (.int .i64 ((x.1 : Nat) : Int))))]) (fun x => [(0, some (.ro (l.map (FsOpD.k T))))]) 1 (fun x => l.length - x.1) ⟨0, by omega, by simp [szO]; omega⟩ ?_
  simp only [KPB, seval]
  refine ⟨?_, ?_⟩
  · have e : (b : Int) - (l.length : Int) = ((b - (l.length + 0) : Nat) : Int) := by omega
    (refine wk_a ?_; simp only [MAB, seval]; refine ⟨rfl, rfl, (by decide), ?_, ?_⟩; all_goals (first | (simp only [WKB, seval, szO, List.take_zero, e]; done) | (simp [WKB, seval, szO, List.take_zero, e]; done) | simp only [WKB, seval]))
  · rintro ⟨k, hk, hkb⟩ K hR hE hT
    rcases Nat.lt_or_ge k l.length with hlt | hge
    case inr =>
      (have gx := @List.length_map.{0,0}; refine go ?_; (repeat' first | exact Ef.mk | apply Lf.mk | refine fun (K : KT) hK hE hT => ?_ | refine fun (KS : KE) hKS => ?_ | refine fun (D : KD) hD => ?_ | refine fun (hg : (_ : Prop)) => ?_ | fail); all_goals (first | (refine Wr.mk ?_; (try clear gx); repeat first | clear hK hE hT K | clear hR hE hT K) | assumption | skip))
      obtain rfl : k = l.length := by omega
      rw [List.take_length] at *
      have e : szL b (l.length + szO l) = ((b - (l.length + szO l) : Nat) : Int) := by rw [szL_sub _ _ (by omega)]
      (refine post_a hres (.inl rfl) ?_; simp only [RSB, ENB, seval, tiAll, e]; simp only [MAB, seval]; refine ⟨rfl, rfl, ?_, ?_, ?_⟩ <;> (first | rfl | (simp [WKB, Nat.add_comm, e]; done) | (simp only [WKB, seval])))
    case inl =>
      have hsn := szO_snoc hlt
      have hel := szO_le l (k + 1)
      obtain ⟨z, hz⟩ : ∃ z, z = b - (l.length + szO (l.take k)) := ⟨_, rfl⟩
      simp only [← hz]
      have c := szFsOp_k l[k] z (hn _ (List.getElem_mem hlt)) (ht _ (List.getElem_mem hlt)) (hs _ (List.getElem_mem hlt)) (by omega)
      rcases Nat.lt_or_ge z (l[k].Name.length + l[k].To.length + l[k].Data.length) with h1 | h1
      · rw [szL_neg z _ h1] at c
        (have gx := And.intro (@List.length_map.{0,0}) (And.intro @List.getElem_map.{0,0} @FsOpD.k.eq_1); have q1 := c; refine go ?_; (repeat' first | exact Ef.mk | apply Lf.mk | refine fun (K : KT) hK hE hT => ?_ | refine fun (KS : KE) hKS => ?_ | refine fun (D : KD) hD => ?_ | refine fun (hg : (_ : Prop)) => ?_ | fail); all_goals (first | (refine Wr.mk ?_; (try clear gx q1); repeat first | clear hK hE hT K | clear hR hE hT K) | assumption | skip))
        (refine post_a hres (.inl rfl) ?_; simp only [RSB, ENB, seval, tiAll, szL_neg b (l.length + szO l) (by omega)]; simp only [MAB, seval]; refine ⟨rfl, rfl, ?_, ?_, ?_⟩ <;> (first | rfl | (simp [WKB, Nat.add_comm, szL_neg b (l.length + szO l) (by omega)]; done) | (simp only [WKB, seval])))
      · rw [szL_sub z _ h1] at c
        (have gx := And.intro (@List.length_map.{0,0}) (And.intro @List.getElem_map.{0,0} @FsOpD.k.eq_1); have q1 := c; refine go ?_; (repeat' first | exact Ef.mk | apply Lf.mk | refine fun (K : KT) hK hE hT => ?_ | refine fun (KS : KE) hKS => ?_ | refine fun (D : KD) hD => ?_ | refine fun (hg : (_ : Prop)) => ?_ | fail); all_goals (first | (refine Wr.mk ?_; (try clear gx q1); repeat first | clear hK hE hT K | clear hR hE hT K) | assumption | skip))
        have e2 : z - (l[k].Name.length + l[k].To.length + l[k].Data.length) = b - (l.length + szO (l.take (k + 1))) := by omega
        (refine hR.out ⟨k + 1, by omega, by omega⟩ _ _ _ (by simp only; omega) ?_; (refine wk_a ?_; simp only [MAB, seval]; refine ⟨rfl, rfl, (by decide), ?_, ?_⟩; all_goals (first | (simp only [WKB, seval, e2]; done) | (simp [WKB, seval, e2]; done) | simp only [WKB, seval])))

end Go.Proofs.Ytfnhchcgieeedaa
