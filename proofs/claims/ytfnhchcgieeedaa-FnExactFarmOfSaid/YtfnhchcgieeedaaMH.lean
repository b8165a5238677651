/-
  The engine, texts H4 N1 H5 in one. No conditions of its own.
-/
import Derived.Test.YtfnhchcgieeedaaGO
import Derived.Test.YtfnhchcgieeedaaMG
namespace Go.Proofs.Ytfnhchcgieeedaa
set_option linter.unusedSimpArgs false
set_option linter.unusedVariables false
set_option linter.unusedSimpArgs false
set_option linter.unusedVariables false
set_option linter.defProp false
open Go.RowKit

structure ShardD where
  Lo : Int
  Hi : Int
  Edges : List SEdgeD
deriving DecidableEq

set_option maxHeartbeats 2000000 in
theorem eqShard_k (x y : ShardD) (h : (x.Edges).length ≤ 1048576) (k : (y.Edges).length ≤ 1048576) : FnOK Try.prog 100 ⟨2, [(0, some (.ro ((x.Edges).map SEdgeD.k))), (1, some (.ro ((y.Edges).map SEdgeD.k)))], [.agg [.v (.int .i64 x.Lo), .v (.int .i64 x.Hi), .sl 0 5 0 (x.Edges).length], .agg [.v (.int .i64 y.Lo), .v (.int .i64 y.Hi), .sl 1 5 0 (y.Edges).length]], .c (.v (.bool (decide (x = y)))), [], 2⟩ := by
  obtain ⟨xLo, xHi, xEdges⟩ := x
  obtain ⟨yLo, yHi, yEdges⟩ := y
  simp only [ShardD.mk.injEq]
  dsimp only at h k
  refine fnOK_of true mixed Try.func100 rfl (by rfl) (by rfl) ?_
  have hres := congrArg Array.toList Try.results100
  simp only [Try.ntmps100, BGB, seval]
  (have gx := true_and True; have q1 := eqSEdgeS_k xEdges yEdges; refine go ?_; (repeat' first | exact Ef.mk | apply Lf.mk | refine fun (K : KT) hK hE hT => ?_ | refine fun (KS : KE) hKS => ?_ | refine fun (D : KD) hD => ?_ | refine fun (hg : (_ : Prop)) => ?_ | fail); all_goals (first | (refine Wr.mk ?_; (try clear gx q1); repeat first | clear hK hE hT K | clear hR hE hT K) | assumption | skip))
  all_goals (try simp only [ShardD.mk.injEq, not_and] at *)
  all_goals (refine post_a hres (.inl rfl) ?_; simp only [RSB, ENB, seval, tiAll, *]; simp only [MAB, seval]; refine ⟨rfl, rfl, ?_, ?_, ?_⟩ <;> (first | rfl | (simp [WKB, Nat.add_comm, *]; done) | (simp only [WKB, seval])))
  all_goals (refine congrArg (fun b => SV.c (CV.v (Value.bool b))) ?_; symm; simp only [decide_eq_false_iff_not, decide_eq_true_eq]; (intro h; simp_all))

end Go.Proofs.Ytfnhchcgieeedaa
namespace Go.Proofs.Ytfnhchcgieeedaa
set_option linter.unusedSimpArgs false
set_option linter.unusedVariables false
set_option linter.defProp false
open Go.RowKit

/-- A shard's cells; T: the type of its edges. -/
def ShardD.k (T : Nat) (x : ShardD) : List DC := [.v (.int .i64 x.Lo), .v (.int .i64 x.Hi), .sl T 5 (x.Edges.map SEdgeD.k)]
/-- A marked shard's cells. -/
def ShardD.q (T q n : Nat) : List DC := [.v (.int .i64 (q : Int)), .v (.int .i64 ((q : Int) + 1)), .sl T 5 ((List.range n).map (SEdgeD.g (q + 2)))]
def shSum : List ShardD → Nat
  | [] => 0
  | s :: l => 2 + 5 * s.Edges.length + shSum l
def edSum : List ShardD → Nat
  | [] => 0
  | s :: l => s.Edges.length + edSum l
def shG (T k0 : Nat) (l : List ShardD) (i : Nat) : List DC := ShardD.q T (k0 + shSum (l.take i)) (((l[i]?).map (·.Edges.length)).getD 0)
theorem shSum_snoc : ∀ {l : List ShardD} {k : Nat} (h : k < l.length), shSum (l.take (k + 1)) = shSum (l.take k) + 2 + 5 * l[k].Edges.length
  | s :: l, 0, h => by simp [shSum]
  | s :: l, k + 1, h => by
    have := shSum_snoc (l := l) (k := k) (by simpa using h)
    simp only [List.take_succ_cons, shSum, List.getElem_cons_succ, this]; omega
theorem edSum_snoc : ∀ {l : List ShardD} {k : Nat} (h : k < l.length), edSum (l.take (k + 1)) = edSum (l.take k) + l[k].Edges.length
  | s :: l, 0, h => by simp [edSum]
  | s :: l, k + 1, h => by
    have := edSum_snoc (l := l) (k := k) (by simpa using h)
    simp only [List.take_succ_cons, edSum, List.getElem_cons_succ, this]; omega
theorem shSum_le : ∀ (l : List ShardD) (k : Nat), shSum (l.take k) ≤ shSum l
  | [], k => by simp
  | s :: l, 0 => by simp [shSum]
  | s :: l, k + 1 => by have := shSum_le l k; simp only [List.take_succ_cons, shSum]; omega
theorem edSum_le : ∀ (l : List ShardD) (k : Nat), edSum (l.take k) ≤ edSum l
  | [], k => by simp
  | s :: l, 0 => by simp [edSum]
  | s :: l, k + 1 => by have := edSum_le l k; simp only [List.take_succ_cons, edSum]; omega
theorem edSum_get : ∀ {l : List ShardD} {s : ShardD}, s ∈ l → s.Edges.length ≤ edSum l
  | a :: l, s, h => by
    simp only [edSum]
    rcases List.mem_cons.1 h with rfl | h
    · omega
    · have := edSum_get h; omega
theorem shSum_ed : ∀ l : List ShardD, shSum l = 2 * l.length + 5 * edSum l
  | [] => rfl
  | s :: l => by simp only [shSum, edSum, List.length_cons, shSum_ed l]; omega
theorem set_modify {α : Type} (l : List α) (i : Nat) (a : α) (f : α → α) : (l.set i a).modify i f = l.set i (f a) := by
  apply List.ext_getElem?
  intro j
  rw [List.getElem?_modify, List.getElem?_set, List.getElem?_set]
  by_cases h : i = j
  · subst h; simp
  · simp [h]
theorem modify_set' {α : Type} (l : List α) (i : Nat) (h : i < l.length) (f : α → α) : l.modify i f = l.set i (f l[i]) := by
  apply List.ext_getElem?
  intro j
  rw [List.getElem?_modify, List.getElem?_set]
  by_cases hj : i = j
  · subst hj; simp [h]
  · simp [hj]

set_option maxHeartbeats 2000000 in
theorem eqShardS_k (l m : List ShardD) (hl : l.length ≤ 1048576) (hm : m.length ≤ 1048576) (hsl : ∀ s ∈ l, s.Edges.length ≤ 1048576) (hsm : ∀ s ∈ m, s.Edges.length ≤ 1048576) : FnOK Try.prog 47 ⟨2, [(0, some (.ro (l.map (ShardD.k 131)))), (1, some (.ro (m.map (ShardD.k 131))))], [.c (.sl 0 3 0 l.length), .c (.sl 1 3 0 m.length)], .c (.v (.bool (decide (l = m)))), [], 2⟩ := by
  refine fnOK_of true mixed Try.func47 rfl (by rfl) (by rfl) ?_
  have hres := congrArg Array.toList Try.results47
  simp only [Try.ntmps47, BGB, seval]
  (have gx := true_and True; refine go ?_; (repeat' first | exact Ef.mk | apply Lf.mk | refine fun (K : KT) hK hE hT => ?_ | refine fun (KS : KE) hKS => ?_ | refine fun (D : KD) hD => ?_ | refine fun (hg : (_ : Prop)) => ?_ | fail); all_goals (first | (refine Wr.mk ?_; (try clear gx); repeat first | clear hK hE hT K | clear hR hE hT K) | assumption | skip))
  · (have hfin := eqs_len (l := l) (m := m) (by omega); (refine post_a hres (.inl rfl) ?_; simp only [RSB, ENB, seval, tiAll, ← hfin]; simp only [MAB, seval]; refine ⟨rfl, rfl, ?_, ?_, ?_⟩ <;> (first | rfl | (simp [WKB, Nat.add_comm, ← hfin]; done) | (simp only [WKB, seval]))))
  · have hlm : l.length = m.length := by omega
    refine loop_v (X := {k : Nat // k ≤ l.length ∧ Rnd (∀ i, i < k → l[i]? = m[i]?)}) [] (fun x => [(5, .c (.v (.int .i64 ((x.1 : Nat) : Int))))]) (fun x => [(0, some (.ro (l.map (ShardD.k 131)))), (1, some (.ro (m.map (ShardD.k 131))))]) 2 (fun x => l.length - x.1) ⟨0, by omega, ⟨fun i hi => by omega⟩⟩ ?_
    simp only [KPB, seval]
    refine ⟨?_, ?_⟩
    · (refine wk_a ?_; simp only [MAB, seval]; refine ⟨rfl, rfl, (by decide), ?_, ?_⟩; all_goals (first | (simp only [WKB, seval, true_and]; done) | (simp [WKB, seval, true_and]; done) | simp only [WKB, seval]))
    · rintro ⟨k, hk, hi⟩ K hR hE hT
      rcases Nat.lt_or_ge k l.length with hlt | hge
      case inr =>
        (have gx := @List.length_map.{0,0}; refine go ?_; (repeat' first | exact Ef.mk | apply Lf.mk | refine fun (K : KT) hK hE hT => ?_ | refine fun (KS : KE) hKS => ?_ | refine fun (D : KD) hD => ?_ | refine fun (hg : (_ : Prop)) => ?_ | fail); all_goals (first | (refine Wr.mk ?_; (try clear gx); repeat first | clear hK hE hT K | clear hR hE hT K) | assumption | skip))
        (have hfin := eqs_end (l := l) (m := m) hlm k (by omega) hi.out; (refine post_a hres (.inl rfl) ?_; simp only [RSB, ENB, seval, tiAll, ← hfin]; simp only [MAB, seval]; refine ⟨rfl, rfl, ?_, ?_, ?_⟩ <;> (first | rfl | (simp [WKB, Nat.add_comm, ← hfin]; done) | (simp only [WKB, seval]))))
      case inl =>
        have c := eqShard_k l[k] (m[k]'(by omega)) (hsl _ (List.getElem_mem _)) (hsm _ (List.getElem_mem _))
        (have gx := And.intro (@List.length_map.{0,0}) (And.intro @List.getElem_map.{0,0} @ShardD.k.eq_1); have q1 := c; refine go ?_; (repeat' first | exact Ef.mk | apply Lf.mk | refine fun (K : KT) hK hE hT => ?_ | refine fun (KS : KE) hKS => ?_ | refine fun (D : KD) hD => ?_ | refine fun (hg : (_ : Prop)) => ?_ | fail); all_goals (first | (refine Wr.mk ?_; (try clear gx q1); repeat first | clear hK hE hT K | clear hR hE hT K) | assumption | skip))
        · (have hfin := eqs_hit (l := l) (m := m) k (by omega) (by omega) (by assumption); (refine post_a hres (.inl rfl) ?_; simp only [RSB, ENB, seval, tiAll, ← hfin]; simp only [MAB, seval]; refine ⟨rfl, rfl, ?_, ?_, ?_⟩ <;> (first | rfl | (simp [WKB, Nat.add_comm, ← hfin]; done) | (simp only [WKB, seval]))))
        · refine hR.out ⟨k + 1, by omega, ⟨fun i h => ?_⟩⟩ _ _ _ (by simp only; omega) ?_
          · by_cases hik : i = k
            · subst hik
              rw [List.getElem?_eq_getElem (by omega), List.getElem?_eq_getElem (by omega)]
              exact congrArg some (by assumption)
            · exact hi.out i (by omega)
          · (refine wk_a ?_; simp only [MAB, seval]; refine ⟨rfl, rfl, (by decide), ?_, ?_⟩; all_goals (first | (simp only [WKB, seval, true_and]; done) | (simp [WKB, seval, true_and]; done) | simp only [WKB, seval]))

set_option maxHeartbeats 4000000 in
theorem markShardS_k (l : List ShardD) (k0 : Nat) (hk0 : k0 + shSum l ≤ 1099511627776) : FnOK Try.prog 51 ⟨1, [(0, some (.nst 129 (l.map (ShardD.k 131)) none))], [.c (.sl 0 3 0 l.length), .c (.v (.int .i64 (k0 : Int)))], .c (.v (.int .i64 ((k0 + shSum l : Nat) : Int))), [(0, some (.nst 129 ((List.range l.length).map (shG 131 k0 l)) none))], 1⟩ := by
  have hln : l.length ≤ 1099511627776 := by have := shSum_ed l; omega
  refine fnOK_of true mixed Try.func51 rfl (by rfl) (by rfl) ?_
  have hres := congrArg Array.toList Try.results51
  simp only [Try.ntmps51, BGB, seval]
  (have gx := true_and True; refine go ?_; (repeat' first | exact Ef.mk | apply Lf.mk | refine fun (K : KT) hK hE hT => ?_ | refine fun (KS : KE) hKS => ?_ | refine fun (D : KD) hD => ?_ | refine fun (hg : (_ : Prop)) => ?_ | fail); all_goals (first | (refine Wr.mk ?_; (try clear gx); repeat first | clear hK hE hT K | clear hR hE hT K) | assumption | skip))
  refine loop_v (X := {k : Nat // k ≤ l.length}) [] (fun x => [(1, .c (.v (.int .i64 ((k0 + shSum (l.take x.1) : Nat) : Int)))), (5, .c (.v (.int .i64 ((x.1 : Nat) : Int))))]) (fun x => [(0, some (.nst 129 (setTo (shG 131 k0 l) (ShardD.k 131) l x.1) none))]) 1 (fun x => l.length - x.1) ⟨0, by omega⟩ ?_
  simp only [KPB, seval]
  refine ⟨?_, ?_⟩
  · (refine wk_a ?_; simp only [MAB, seval]; refine ⟨rfl, rfl, (by decide), ?_, ?_⟩; all_goals (first | (simp only [WKB, seval, setTo_zero, shSum, List.take_zero, Nat.add_zero]; done) | (simp [WKB, seval, setTo_zero, shSum, List.take_zero, Nat.add_zero]; done) | simp only [WKB, seval]))
  · rintro ⟨k, hk⟩ K hR hE hT
    have sl := setTo_len (shG 131 k0 l) (ShardD.k 131) l k hk
    have hsk := shSum_le l k
    obtain ⟨q, hq⟩ : ∃ q, q = k0 + shSum (l.take k) := ⟨_, rfl⟩
    simp only [← hq]
    rcases Nat.lt_or_ge k l.length with hlt | hge
    case inr =>
      (have gx := @sl; refine go ?_; (repeat' first | exact Ef.mk | apply Lf.mk | refine fun (K : KT) hK hE hT => ?_ | refine fun (KS : KE) hKS => ?_ | refine fun (D : KD) hD => ?_ | refine fun (hg : (_ : Prop)) => ?_ | fail); all_goals (first | (refine Wr.mk ?_; (try clear gx); repeat first | clear hK hE hT K | clear hR hE hT K) | assumption | skip))
      obtain rfl : k = l.length := by omega
      rw [List.take_length] at hq
      subst hq
      (refine post_a hres (.inl rfl) ?_; simp only [RSB, ENB, seval, tiAll, setTo_end]; simp only [MAB, seval]; refine ⟨rfl, rfl, ?_, ?_, ?_⟩ <;> (first | rfl | (simp [WKB, Nat.add_comm, setTo_end]; done) | (simp only [WKB, seval])))
    case inl =>
      have hsn := shSum_snoc hlt
      have hsm := shSum_le l (k + 1)
      have sg := setTo_get (shG 131 k0 l) (ShardD.k 131) l k hlt (by omega)
      simp only [ShardD.k] at sg
      have c := markSEdgeS_k l[k].Edges (q + 2) (by omega)
      rw [show ((q + 2 : Nat) : Int) = (q : Int) + 1 + 1 by omega] at c
      (have gx := And.intro (@sl) (And.intro (@sg) (And.intro (@List.length_set.{0}) (And.intro @List.getElem_set_self.{0} @List.set_set.{0}))); have q1 := c; refine go ?_; (repeat' first | exact Ef.mk | apply Lf.mk | refine fun (K : KT) hK hE hT => ?_ | refine fun (KS : KE) hKS => ?_ | refine fun (D : KD) hD => ?_ | refine fun (hg : (_ : Prop)) => ?_ | fail); all_goals (first | (refine Wr.mk ?_; (try clear gx q1); repeat first | clear hK hE hT K | clear hR hE hT K) | assumption | skip))
      refine hR.out ⟨k + 1, by omega⟩ _ _ _ (by simp only; omega) ?_
      have e := setTo_set (shG 131 k0 l) (ShardD.k 131) l k hlt
      simp only [shG, ← hq, ShardD.q, List.getElem?_eq_getElem hlt, Option.map_some, Option.getD_some] at e
      have e2 : ((q + 2 + 5 * l[k].Edges.length : Nat) : Int) = ((k0 + shSum (l.take (k + 1)) : Nat) : Int) := by omega
      (refine Wk.trans (wk_close (f := 0) (g := 1) rfl rfl (by decide) (by simp [List.length_map])) ?_; simp only [EVB, seval, set_modify, List.length_map])
      (refine wk_a ?_; simp only [MAB, seval]; refine ⟨rfl, rfl, (by decide), ?_, ?_⟩; all_goals (first | (simp only [WKB, seval, shG, e, e2]; done) | (simp [WKB, seval, shG, e, e2]; done) | simp only [WKB, seval]))

set_option maxHeartbeats 4000000 in
theorem heldShardS_k (l : List ShardD) (k0 : Nat) (hk0 : k0 + shSum l ≤ 1099511627776) : FnOK Try.prog 53 ⟨1, [(0, some (.ro ((List.range l.length).map (shG 131 k0 l))))], [.c (.sl 0 3 0 l.length), .c (.v (.int .i64 (k0 : Int)))], .c (.v (.int .i64 ((k0 + shSum l : Nat) : Int))), [], 1⟩ := by
  have hln : l.length ≤ 1099511627776 := by have := shSum_ed l; omega
  refine fnOK_of true mixed Try.func53 rfl (by rfl) (by rfl) ?_
  have hres := congrArg Array.toList Try.results53
  simp only [Try.ntmps53, BGB, seval]
  (have gx := true_and True; refine go ?_; (repeat' first | exact Ef.mk | apply Lf.mk | refine fun (K : KT) hK hE hT => ?_ | refine fun (KS : KE) hKS => ?_ | refine fun (D : KD) hD => ?_ | refine fun (hg : (_ : Prop)) => ?_ | fail); all_goals (first | (refine Wr.mk ?_; (try clear gx); repeat first | clear hK hE hT K | clear hR hE hT K) | assumption | skip))
  refine loop_v (X := {k : Nat // k ≤ l.length}) [] (fun x => [(1, .c (.v (.int .i64 ((k0 + shSum (l.take x.1) : Nat) : Int)))), (5, .c (.v (.int .i64 ((x.1 : Nat) : Int))))]) (fun x => [(0, some (.ro ((List.range l.length).map (shG 131 k0 l))))]) 1 (fun x => l.length - x.1) ⟨0, by omega⟩ ?_
  simp only [KPB, seval]
  refine ⟨?_, ?_⟩
  · (refine wk_a ?_; simp only [MAB, seval]; refine ⟨rfl, rfl, (by decide), ?_, ?_⟩; all_goals (first | (simp only [WKB, seval, shSum, List.take_zero, Nat.add_zero]; done) | (simp [WKB, seval, shSum, List.take_zero, Nat.add_zero]; done) | simp only [WKB, seval]))
  · rintro ⟨k, hk⟩ K hR hE hT
    have hsk := shSum_le l k
    obtain ⟨q, hq⟩ : ∃ q, q = k0 + shSum (l.take k) := ⟨_, rfl⟩
    simp only [← hq]
    rcases Nat.lt_or_ge k l.length with hlt | hge
    case inr =>
      (have gx := @range_len; refine go ?_; (repeat' first | exact Ef.mk | apply Lf.mk | refine fun (K : KT) hK hE hT => ?_ | refine fun (KS : KE) hKS => ?_ | refine fun (D : KD) hD => ?_ | refine fun (hg : (_ : Prop)) => ?_ | fail); all_goals (first | (refine Wr.mk ?_; (try clear gx); repeat first | clear hK hE hT K | clear hR hE hT K) | assumption | skip))
      obtain rfl : k = l.length := by omega
      rw [List.take_length] at hq
      subst hq
      (refine post_a hres (.inl rfl) ?_; simp only [RSB, ENB, seval, tiAll, true_and]; simp only [MAB, seval]; refine ⟨rfl, rfl, ?_, ?_, ?_⟩ <;> (first | rfl | (simp [WKB, Nat.add_comm, true_and]; done) | (simp only [WKB, seval])))
    case inl =>
      have hsn := shSum_snoc hlt
      have hsm := shSum_le l (k + 1)
      have sg' : shG 131 k0 l k = ShardD.q 131 q l[k].Edges.length := by simp only [shG, ← hq, List.getElem?_eq_getElem hlt, Option.map_some, Option.getD_some]
      have c := heldSEdgeS_k l[k].Edges.length (q + 2) (by omega)
      rw [show ((q + 2 : Nat) : Int) = (q : Int) + 1 + 1 by omega] at c
      (have gx := And.intro (@range_len) (And.intro (@range_get) (And.intro (@sg') (And.intro (@ShardD.q.eq_1) (And.intro @List.length_map.{0,0} @List.length_range)))); have q1 := c; refine go ?_; (repeat' first | exact Ef.mk | apply Lf.mk | refine fun (K : KT) hK hE hT => ?_ | refine fun (KS : KE) hKS => ?_ | refine fun (D : KD) hD => ?_ | refine fun (hg : (_ : Prop)) => ?_ | fail); all_goals (first | (refine Wr.mk ?_; (try clear gx q1); repeat first | clear hK hE hT K | clear hR hE hT K) | assumption | skip))
      have e2 : ((q + 2 + 5 * l[k].Edges.length : Nat) : Int) = ((k0 + shSum (l.take (k + 1)) : Nat) : Int) := by omega
      (refine hR.out ⟨k + 1, by omega⟩ _ _ _ (by simp only; omega) ?_; (refine wk_a ?_; simp only [MAB, seval]; refine ⟨rfl, rfl, (by decide), ?_, ?_⟩; all_goals (first | (simp only [WKB, seval, e2]; done) | (simp [WKB, seval, e2]; done) | simp only [WKB, seval])))

end Go.Proofs.Ytfnhchcgieeedaa

namespace Go.Proofs.Ytfnhchcgieeedaa
set_option linter.unusedSimpArgs false
set_option linter.unusedVariables false
set_option linter.defProp false
open Go.RowKit

structure FarmD where
  N : Int
  Ends : List Int
  Shards : List ShardD
deriving DecidableEq

set_option maxHeartbeats 2000000 in
theorem eqFarm_k (x y : FarmD) (h : (x.Ends).length ≤ 1048576 ∧ (x.Shards).length ≤ 1048576 ∧ (∀ s ∈ x.Shards, s.Edges.length ≤ 1048576)) (k : (y.Ends).length ≤ 1048576 ∧ (y.Shards).length ≤ 1048576 ∧ (∀ s ∈ y.Shards, s.Edges.length ≤ 1048576)) : FnOK Try.prog 12 ⟨4, [(0, some (.ro ((x.Ends).map intK))), (1, some (.ro ((x.Shards).map (ShardD.k 131)))), (2, some (.ro ((y.Ends).map intK))), (3, some (.ro ((y.Shards).map (ShardD.k 131))))], [.agg [.v (.int .i64 x.N), .sl 0 1 0 (x.Ends).length, .sl 1 3 0 (x.Shards).length], .agg [.v (.int .i64 y.N), .sl 2 1 0 (y.Ends).length, .sl 3 3 0 (y.Shards).length]], .c (.v (.bool (decide (x = y)))), [], 4⟩ := by
  obtain ⟨xN, xEnds, xShards⟩ := x
  obtain ⟨yN, yEnds, yShards⟩ := y
  simp only [FarmD.mk.injEq]
  dsimp only at h k
  obtain ⟨h0, h1, h2⟩ := h
  obtain ⟨k0, k1, k2⟩ := k
  refine fnOK_of true mixed Try.func12 rfl (by rfl) (by rfl) ?_
  have hres := congrArg Array.toList Try.results12
  simp only [Try.ntmps12, BGB, seval]
  (have gx := true_and True; have q1 := eqIntS_k xEnds yEnds; have q2 := eqShardS_k xShards yShards (by omega) (by omega) (by assumption) (by assumption); refine go ?_; (repeat' first | exact Ef.mk | apply Lf.mk | refine fun (K : KT) hK hE hT => ?_ | refine fun (KS : KE) hKS => ?_ | refine fun (D : KD) hD => ?_ | refine fun (hg : (_ : Prop)) => ?_ | fail); all_goals (first | (refine Wr.mk ?_; (try clear gx q1 q2); repeat first | clear hK hE hT K | clear hR hE hT K) | assumption | skip))
  all_goals (try simp only [FarmD.mk.injEq, not_and] at *)
  all_goals (refine post_a hres (.inl rfl) ?_; simp only [RSB, ENB, seval, tiAll, *]; simp only [MAB, seval]; refine ⟨rfl, rfl, ?_, ?_, ?_⟩ <;> (first | rfl | (simp [WKB, Nat.add_comm, *]; done) | (simp only [WKB, seval])))
  all_goals (refine congrArg (fun b => SV.c (CV.v (Value.bool b))) ?_; symm; simp only [decide_eq_false_iff_not, decide_eq_true_eq]; (intro h; simp_all))

set_option maxHeartbeats 2000000 in
theorem markFarm_k (x : FarmD) (k : Nat) (h : ((k + (x.Ends).length) + shSum (x.Shards)) ≤ 1099511627776) : FnOK Try.prog 15 ⟨2, [(0, some (.row 3 ((x.Ends).map intK))), (1, some (.nst 129 ((x.Shards).map (ShardD.k 131)) none))], [.agg [.v (.int .i64 x.N), .sl 0 1 0 (x.Ends).length, .sl 1 3 0 (x.Shards).length], .c (.v (.int .i64 (k : Int)))], .c (.v (.int .i64 ((((k + (x.Ends).length) + shSum (x.Shards)) : Nat) : Int))), [(0, some (.row 3 ((List.range (x.Ends).length).map (intQ k)))), (1, some (.nst 129 ((List.range (x.Shards).length).map (shG 131 (k + (x.Ends).length) (x.Shards))) none))], 2⟩ := by
  obtain ⟨xN, xEnds, xShards⟩ := x
  dsimp only at h
  dsimp only
  refine fnOK_of true mixed Try.func15 rfl (by rfl) (by rfl) ?_
  have hres := congrArg Array.toList Try.results15
  simp only [Try.ntmps15, BGB, seval]
  (have gx := @range_len; have q1 := markIntS_k xEnds k; have q2 := markShardS_k xShards (k + (xEnds).length); refine go ?_; (repeat' first | exact Ef.mk | apply Lf.mk | refine fun (K : KT) hK hE hT => ?_ | refine fun (KS : KE) hKS => ?_ | refine fun (D : KD) hD => ?_ | refine fun (hg : (_ : Prop)) => ?_ | fail); all_goals (first | (refine Wr.mk ?_; (try clear gx q1 q2); repeat first | clear hK hE hT K | clear hR hE hT K) | assumption | skip))
  (refine post_a hres (.inl rfl) ?_; simp only [RSB, ENB, seval, tiAll, true_and]; simp only [MAB, seval]; refine ⟨rfl, rfl, ?_, ?_, ?_⟩ <;> (first | rfl | (simp [WKB, Nat.add_comm, true_and]; done) | (simp only [WKB, seval])))

set_option maxHeartbeats 2000000 in
theorem heldFarm_k (x : FarmD) (k : Nat) (h : ((k + (x.Ends).length) + shSum (x.Shards)) ≤ 1099511627776) : FnOK Try.prog 16 ⟨2, [(0, some (.ro ((List.range (x.Ends).length).map (intQ k)))), (1, some (.ro ((List.range (x.Shards).length).map (shG 131 (k + (x.Ends).length) (x.Shards)))))], [.agg [.v (.int .i64 x.N), .sl 0 1 0 (x.Ends).length, .sl 1 3 0 (x.Shards).length], .c (.v (.int .i64 (k : Int)))], .c (.v (.int .i64 ((((k + (x.Ends).length) + shSum (x.Shards)) : Nat) : Int))), [], 2⟩ := by
  obtain ⟨xN, xEnds, xShards⟩ := x
  dsimp only at h
  dsimp only
  refine fnOK_of true mixed Try.func16 rfl (by rfl) (by rfl) ?_
  have hres := congrArg Array.toList Try.results16
  simp only [Try.ntmps16, BGB, seval]
  (have gx := @range_len; have q1 := heldIntS_k (xEnds).length k; have q2 := heldShardS_k xShards (k + (xEnds).length); refine go ?_; (repeat' first | exact Ef.mk | apply Lf.mk | refine fun (K : KT) hK hE hT => ?_ | refine fun (KS : KE) hKS => ?_ | refine fun (D : KD) hD => ?_ | refine fun (hg : (_ : Prop)) => ?_ | fail); all_goals (first | (refine Wr.mk ?_; (try clear gx q1 q2); repeat first | clear hK hE hT K | clear hR hE hT K) | assumption | skip))
  (refine post_a hres (.inl rfl) ?_; simp only [RSB, ENB, seval, tiAll, true_and]; simp only [MAB, seval]; refine ⟨rfl, rfl, ?_, ?_, ?_⟩ <;> (first | rfl | (simp [WKB, Nat.add_comm, true_and]; done) | (simp only [WKB, seval])))

end Go.Proofs.Ytfnhchcgieeedaa