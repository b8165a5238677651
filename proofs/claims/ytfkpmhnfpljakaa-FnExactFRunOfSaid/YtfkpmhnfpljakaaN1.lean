/-
  Contracts of the law's helpers for slices of shards. No conditions of its own.
-/
import Derived.Test.YtfkpmhnfpljakaaGO
import Derived.Test.YtfkpmhnfpljakaaH4
namespace Go.Proofs.Ytfkpmhnfpljakaa
set_option linter.unusedSimpArgs false
set_option linter.unusedVariables false
set_option linter.unusedSimpArgs false
set_option linter.unusedVariables false
set_option linter.defProp false
open Go.RowKit

/-- A shard's cells; T: the type of its edges. -/
def ShardD.k (T : Nat) (x : ShardD) : List DC := [.v (.int .i64 x.Lo), .v (.int .i64 x.Hi), .sl T 5 (x.Edges.map SEdgeD.k)]
/-- A marked shard's cells. -/
def ShardD.q (T q n : Nat) : List DC := [.v (.int .i64 (q : Int)), .v (.int .i64 ((q : Int) + 1)), .sl T 5 ((List.range n).map (SEdgeD.g (q + 2)))]
def shSum : List ShardD → Nat
  | [] => 0
  | s :: l => 2 + 5 * s.Edges.length + shSum l
def edSum : List ShardD → Nat
  | [] => 0
  | s :: l => s.Edges.length + edSum l
def shG (T k0 : Nat) (l : List ShardD) (i : Nat) : List DC := ShardD.q T (k0 + shSum (l.take i)) (((l[i]?).map (·.Edges.length)).getD 0)
theorem shSum_snoc : ∀ {l : List ShardD} {k : Nat} (h : k < l.length), shSum (l.take (k + 1)) = shSum (l.take k) + 2 + 5 * l[k].Edges.length
  | s :: l, 0, h => by simp [shSum]
  | s :: l, k + 1, h => by
    have := shSum_snoc (l := l) (k := k) (by simpa using h)
    simp only [List.take_succ_cons, shSum, List.getElem_cons_succ, this]; omega
theorem edSum_snoc : ∀ {l : List ShardD} {k : Nat} (h : k < l.length), edSum (l.take (k + 1)) = edSum (l.take k) + l[k].Edges.length
  | s :: l, 0, h => by simp [edSum]
  | s :: l, k + 1, h => by
    have := edSum_snoc (l := l) (k := k) (by simpa using h)
    simp only [List.take_succ_cons, edSum, List.getElem_cons_succ, this]; omega
theorem shSum_le : ∀ (l : List ShardD) (k : Nat), shSum (l.take k) ≤ shSum l
  | [], k => by simp
  | s :: l, 0 => by simp [shSum]
  | s :: l, k + 1 => by have := shSum_le l k; simp only [List.take_succ_cons, shSum]; omega
theorem edSum_le : ∀ (l : List ShardD) (k : Nat), edSum (l.take k) ≤ edSum l
  | [], k => by simp
  | s :: l, 0 => by simp [edSum]
  | s :: l, k + 1 => by have := edSum_le l k; simp only [List.take_succ_cons, edSum]; omega
theorem edSum_get : ∀ {l : List ShardD} {s : ShardD}, s ∈ l → s.Edges.length ≤ edSum l
  | a :: l, s, h => by
    simp only [edSum]
    rcases List.mem_cons.1 h with rfl | h
    · omega
    · have := edSum_get h; omega
theorem shSum_ed : ∀ l : List ShardD, shSum l = 2 * l.length + 5 * edSum l
  | [] => rfl
  | s :: l => by simp only [shSum, edSum, List.length_cons, shSum_ed l]; omega
theorem set_modify {α : Type} (l : List α) (i : Nat) (a : α) (f : α → α) : (l.set i a).modify i f = l.set i (f a) := by
  apply List.ext_getElem?
  intro j
  rw [List.getElem?_modify, List.getElem?_set, List.getElem?_set]
  by_cases h : i = j
  · subst h; simp
  · simp [h]
theorem modify_set' {α : Type} (l : List α) (i : Nat) (h : i < l.length) (f : α → α) : l.modify i f = l.set i (f l[i]) := by
  apply List.ext_getElem?
  intro j
  rw [List.getElem?_modify, List.getElem?_set]
  by_cases hj : i = j
  · subst hj; simp [h]
  · simp [hj]

set_option maxHeartbeats 2000000 in
theorem toShardS_k (l : List ShardD) (hl : l.length ≤ 1048576) (hs : ∀ s ∈ l, s.Edges.length ≤ 1048576) : FnOK Try.prog 64 ⟨1, [(0, some (.ro (l.map (ShardD.k 159))))], [.c (.sl 0 3 0 l.length)], .c (.sl 1 3 0 l.length), [(1, some (.nst 107 (l.map (ShardD.k 98)) none))], 2⟩ := by
  refine fnOK_of true mixed Try.func64 rfl (by rfl) (by rfl) ?_
  have hres := congrArg Array.toList Try.results64
  simp only [Try.ntmps64, BGB, seval]
  (have gx := true_and True; refine go ?_; (repeat' (first | exact Ef.mk | refine Lf.mk ?_ ?_ | refine fun (K : KT) hK hE hT => ?_ | refine fun (KS : Eff → Prop) hKS => ?_ | refine fun (D : List Keys → Prop) hD => ?_ | refine fun (hg : (_ : Prop)) => ?_ | fail)); all_goals (first | (refine Wr.mk ?_; (try clear gx); repeat (first | (clear hK hE hT; clear K) | (clear hR hE hT; clear K))) | assumption | skip))
  refine loop_v (X := {k : Nat // k ≤ l.length}) [] (fun x => [(4, .c (.v (.int .i64 ((x.1 : Nat) : Int))))]) (fun x => [(0, some (.ro (l.map (ShardD.k 159)))), (1, some (.nst 107 (fillTo (ShardD.k 98) (ShardD.k 98 ⟨0, 0, []⟩) l x.1) none))]) 2 (fun x => l.length - x.1) ⟨0, by omega⟩ ?_
  simp only [KPB, seval]
  refine ⟨?_, ?_⟩
  · (refine wk_a ?_; simp only [MAB, seval]; refine ⟨rfl, rfl, (by decide), ?_, ?_⟩; all_goals (first | (simp only [WKB, seval, fillTo_zero, ShardD.k, List.map_nil, Nat.reduceLT, Nat.zero_lt_succ]; done) | (simp [WKB, seval, fillTo_zero, ShardD.k, List.map_nil]; done) | simp only [WKB, seval]))
  · rintro ⟨k, hk⟩ K hR hE hT
    rcases Nat.lt_or_ge k l.length with hlt | hge
    case inr =>
      (have gx := And.intro (@List.length_map.{0,0}) (And.intro (@List.getElem_map.{0,0}) (And.intro (@fillTo_len) (And.intro (@fillTo_get) (And.intro @fillTo_set @ShardD.k.eq_1)))); refine go ?_; (repeat' (first | exact Ef.mk | refine Lf.mk ?_ ?_ | refine fun (K : KT) hK hE hT => ?_ | refine fun (KS : Eff → Prop) hKS => ?_ | refine fun (D : List Keys → Prop) hD => ?_ | refine fun (hg : (_ : Prop)) => ?_ | fail)); all_goals (first | (refine Wr.mk ?_; (try clear gx); repeat (first | (clear hK hE hT; clear K) | (clear hR hE hT; clear K))) | assumption | skip))
      obtain rfl : k = l.length := by omega
      (refine post_a hres (.inl rfl) ?_; simp only [RSB, ENB, seval, tiAll, fillTo_end]; simp only [MAB, seval]; refine ⟨rfl, rfl, ?_, ?_, ?_⟩ <;> (first | rfl | (simp [WKB, Nat.add_comm, fillTo_end]; done) | (simp only [WKB, seval])))
    case inl =>
      have c := toShard_k l[k] (hs _ (List.getElem_mem hlt))
      (have gx := And.intro (@List.length_map.{0,0}) (And.intro (@List.getElem_map.{0,0}) (And.intro (@fillTo_len) (And.intro (@fillTo_get) (And.intro @fillTo_set @ShardD.k.eq_1)))); have q1 := c; refine go ?_; (repeat' (first | exact Ef.mk | refine Lf.mk ?_ ?_ | refine fun (K : KT) hK hE hT => ?_ | refine fun (KS : Eff → Prop) hKS => ?_ | refine fun (D : List Keys → Prop) hD => ?_ | refine fun (hg : (_ : Prop)) => ?_ | fail)); all_goals (first | (refine Wr.mk ?_; (try clear gx); (try clear q1); repeat (first | (clear hK hE hT; clear K) | (clear hR hE hT; clear K))) | assumption | skip))
      have e := fillTo_set (ShardD.k 98) (ShardD.k 98 ⟨0, 0, []⟩) l k hlt
      simp only [ShardD.k, List.map_nil] at e
      (refine hR.out ⟨k + 1, by omega⟩ _ _ _ (by simp only; omega) ?_; (refine wk_a ?_; simp only [MAB, seval]; refine ⟨rfl, rfl, (by decide), ?_, ?_⟩; all_goals (first | (simp only [WKB, seval, e, ShardD.k, List.map_nil, Nat.reduceLT, Nat.zero_lt_succ]; done) | (simp [WKB, seval, e, ShardD.k, List.map_nil]; done) | simp only [WKB, seval])))

set_option maxHeartbeats 2000000 in
theorem eqShardS_k (l m : List ShardD) (hl : l.length ≤ 1048576) (hm : m.length ≤ 1048576) (hsl : ∀ s ∈ l, s.Edges.length ≤ 1048576) (hsm : ∀ s ∈ m, s.Edges.length ≤ 1048576) : FnOK Try.prog 68 ⟨2, [(0, some (.ro (l.map (ShardD.k 98)))), (1, some (.ro (m.map (ShardD.k 98))))], [.c (.sl 0 3 0 l.length), .c (.sl 1 3 0 m.length)], .c (.v (.bool (decide (l = m)))), [], 2⟩ := by
  refine fnOK_of true mixed Try.func68 rfl (by rfl) (by rfl) ?_
  have hres := congrArg Array.toList Try.results68
  simp only [Try.ntmps68, BGB, seval]
  (have gx := true_and True; refine go ?_; (repeat' (first | exact Ef.mk | refine Lf.mk ?_ ?_ | refine fun (K : KT) hK hE hT => ?_ | refine fun (KS : Eff → Prop) hKS => ?_ | refine fun (D : List Keys → Prop) hD => ?_ | refine fun (hg : (_ : Prop)) => ?_ | fail)); all_goals (first | (refine Wr.mk ?_; (try clear gx); repeat (first | (clear hK hE hT; clear K) | (clear hR hE hT; clear K))) | assumption | skip))
  · (have hfin := eqs_len (l := l) (m := m) (by omega); (refine post_a hres (.inl rfl) ?_; simp only [RSB, ENB, seval, tiAll, ← hfin]; simp only [MAB, seval]; refine ⟨rfl, rfl, ?_, ?_, ?_⟩ <;> (first | rfl | (simp [WKB, Nat.add_comm, ← hfin]; done) | (simp only [WKB, seval]))))
  · have hlm : l.length = m.length := by omega
    refine loop_v (X := {k : Nat // k ≤ l.length ∧ Rnd (∀ i, i < k → l[i]? = m[i]?)}) [] (fun x => [(5, .c (.v (.int .i64 ((x.1 : Nat) : Int))))]) (fun x => [(0, some (.ro (l.map (ShardD.k 98)))), (1, some (.ro (m.map (ShardD.k 98))))]) 2 (fun x => l.length - x.1) ⟨0, by omega, ⟨fun i hi => by omega⟩⟩ ?_
    simp only [KPB, seval]
    refine ⟨?_, ?_⟩
    · (refine wk_a ?_; simp only [MAB, seval]; refine ⟨rfl, rfl, (by decide), ?_, ?_⟩; all_goals (first | (simp only [WKB, seval, true_and, Nat.reduceLT, Nat.zero_lt_succ]; done) | (simp [WKB, seval, true_and]; done) | simp only [WKB, seval]))
    · rintro ⟨k, hk, hi⟩ K hR hE hT
      rcases Nat.lt_or_ge k l.length with hlt | hge
      case inr =>
        (have gx := @List.length_map.{0,0}; refine go ?_; (repeat' (first | exact Ef.mk | refine Lf.mk ?_ ?_ | refine fun (K : KT) hK hE hT => ?_ | refine fun (KS : Eff → Prop) hKS => ?_ | refine fun (D : List Keys → Prop) hD => ?_ | refine fun (hg : (_ : Prop)) => ?_ | fail)); all_goals (first | (refine Wr.mk ?_; (try clear gx); repeat (first | (clear hK hE hT; clear K) | (clear hR hE hT; clear K))) | assumption | skip))
        (have hfin := eqs_end (l := l) (m := m) hlm k (by omega) hi.out; (refine post_a hres (.inl rfl) ?_; simp only [RSB, ENB, seval, tiAll, ← hfin]; simp only [MAB, seval]; refine ⟨rfl, rfl, ?_, ?_, ?_⟩ <;> (first | rfl | (simp [WKB, Nat.add_comm, ← hfin]; done) | (simp only [WKB, seval]))))
      case inl =>
        have c := eqShard_k l[k] (m[k]'(by omega)) (hsl _ (List.getElem_mem _)) (hsm _ (List.getElem_mem _))
        (have gx := And.intro (@List.length_map.{0,0}) (And.intro @List.getElem_map.{0,0} @ShardD.k.eq_1); have q1 := c; refine go ?_; (repeat' (first | exact Ef.mk | refine Lf.mk ?_ ?_ | refine fun (K : KT) hK hE hT => ?_ | refine fun (KS : Eff → Prop) hKS => ?_ | refine fun (D : List Keys → Prop) hD => ?_ | refine fun (hg : (_ : Prop)) => ?_ | fail)); all_goals (first | (refine Wr.mk ?_; (try clear gx); (try clear q1); repeat (first | (clear hK hE hT; clear K) | (clear hR hE hT; clear K))) | assumption | skip))
        · (have hfin := eqs_hit (l := l) (m := m) k (by omega) (by omega) (by assumption); (refine post_a hres (.inl rfl) ?_; simp only [RSB, ENB, seval, tiAll, ← hfin]; simp only [MAB, seval]; refine ⟨rfl, rfl, ?_, ?_, ?_⟩ <;> (first | rfl | (simp [WKB, Nat.add_comm, ← hfin]; done) | (simp only [WKB, seval]))))
        · refine hR.out ⟨k + 1, by omega, ⟨fun i h => ?_⟩⟩ _ _ _ (by simp only; omega) ?_
          · by_cases hik : i = k
            · subst hik
              rw [List.getElem?_eq_getElem (by omega), List.getElem?_eq_getElem (by omega)]
              exact congrArg some (by assumption)
            · exact hi.out i (by omega)
          · (refine wk_a ?_; simp only [MAB, seval]; refine ⟨rfl, rfl, (by decide), ?_, ?_⟩; all_goals (first | (simp only [WKB, seval, true_and, Nat.reduceLT, Nat.zero_lt_succ]; done) | (simp [WKB, seval, true_and]; done) | simp only [WKB, seval]))

set_option maxHeartbeats 4000000 in
theorem markShardS_k (l : List ShardD) (k0 : Nat) (hk0 : k0 + shSum l ≤ 1099511627776) : FnOK Try.prog 70 ⟨1, [(0, some (.nst 107 (l.map (ShardD.k 98)) none))], [.c (.sl 0 3 0 l.length), .c (.v (.int .i64 (k0 : Int)))], .c (.v (.int .i64 ((k0 + shSum l : Nat) : Int))), [(0, some (.nst 107 ((List.range l.length).map (shG 98 k0 l)) none))], 1⟩ := by
  have hln : l.length ≤ 1099511627776 := by have := shSum_ed l; omega
  refine fnOK_of true mixed Try.func70 rfl (by rfl) (by rfl) ?_
  have hres := congrArg Array.toList Try.results70
  simp only [Try.ntmps70, BGB, seval]
  (have gx := true_and True; refine go ?_; (repeat' (first | exact Ef.mk | refine Lf.mk ?_ ?_ | refine fun (K : KT) hK hE hT => ?_ | refine fun (KS : Eff → Prop) hKS => ?_ | refine fun (D : List Keys → Prop) hD => ?_ | refine fun (hg : (_ : Prop)) => ?_ | fail)); all_goals (first | (refine Wr.mk ?_; (try clear gx); repeat (first | (clear hK hE hT; clear K) | (clear hR hE hT; clear K))) | assumption | skip))
  refine loop_v (X := {k : Nat // k ≤ l.length}) [] (fun x => [(1, .c (.v (.int .i64 ((k0 + shSum (l.take x.1) : Nat) : Int)))), (5, .c (.v (.int .i64 ((x.1 : Nat) : Int))))]) (fun x => [(0, some (.nst 107 (setTo (shG 98 k0 l) (ShardD.k 98) l x.1) none))]) 1 (fun x => l.length - x.1) ⟨0, by omega⟩ ?_
  simp only [KPB, seval]
  refine ⟨?_, ?_⟩
  · (refine wk_a ?_; simp only [MAB, seval]; refine ⟨rfl, rfl, (by decide), ?_, ?_⟩; all_goals (first | (simp only [WKB, seval, setTo_zero, shSum, List.take_zero, Nat.add_zero, Nat.reduceLT, Nat.zero_lt_succ]; done) | (simp [WKB, seval, setTo_zero, shSum, List.take_zero, Nat.add_zero]; done) | simp only [WKB, seval]))
  · rintro ⟨k, hk⟩ K hR hE hT
    have sl := setTo_len (shG 98 k0 l) (ShardD.k 98) l k hk
    have hsk := shSum_le l k
    obtain ⟨q, hq⟩ : ∃ q, q = k0 + shSum (l.take k) := ⟨_, rfl⟩
    simp only [← hq]
    rcases Nat.lt_or_ge k l.length with hlt | hge
    case inr =>
      (have gx := @sl; refine go ?_; (repeat' (first | exact Ef.mk | refine Lf.mk ?_ ?_ | refine fun (K : KT) hK hE hT => ?_ | refine fun (KS : Eff → Prop) hKS => ?_ | refine fun (D : List Keys → Prop) hD => ?_ | refine fun (hg : (_ : Prop)) => ?_ | fail)); all_goals (first | (refine Wr.mk ?_; (try clear gx); repeat (first | (clear hK hE hT; clear K) | (clear hR hE hT; clear K))) | assumption | skip))
      obtain rfl : k = l.length := by omega
      rw [List.take_length] at hq
      subst hq
      (refine post_a hres (.inl rfl) ?_; simp only [RSB, ENB, seval, tiAll, setTo_end]; simp only [MAB, seval]; refine ⟨rfl, rfl, ?_, ?_, ?_⟩ <;> (first | rfl | (simp [WKB, Nat.add_comm, setTo_end]; done) | (simp only [WKB, seval])))
    case inl =>
      have hsn := shSum_snoc hlt
      have hsm := shSum_le l (k + 1)
      have sg := setTo_get (shG 98 k0 l) (ShardD.k 98) l k hlt (by omega)
      simp only [ShardD.k] at sg
      have c := markSEdgeS_k l[k].Edges (q + 2) (by omega)
      rw [show ((q + 2 : Nat) : Int) = (q : Int) + 1 + 1 by omega] at c
      (have gx := And.intro (@sl) (And.intro (@sg) (And.intro (@List.length_set.{0}) (And.intro @List.getElem_set_self.{0} @List.set_set.{0}))); have q1 := c; refine go ?_; (repeat' (first | exact Ef.mk | refine Lf.mk ?_ ?_ | refine fun (K : KT) hK hE hT => ?_ | refine fun (KS : Eff → Prop) hKS => ?_ | refine fun (D : List Keys → Prop) hD => ?_ | refine fun (hg : (_ : Prop)) => ?_ | fail)); all_goals (first | (refine Wr.mk ?_; (try clear gx); (try clear q1); repeat (first | (clear hK hE hT; clear K) | (clear hR hE hT; clear K))) | assumption | skip))
      refine hR.out ⟨k + 1, by omega⟩ _ _ _ (by simp only; omega) ?_
      have e := setTo_set (shG 98 k0 l) (ShardD.k 98) l k hlt
      simp only [shG, ← hq, ShardD.q, List.getElem?_eq_getElem hlt, Option.map_some, Option.getD_some] at e
      have e2 : ((q + 2 + 5 * l[k].Edges.length : Nat) : Int) = ((k0 + shSum (l.take (k + 1)) : Nat) : Int) := by omega
      (refine Wk.trans (wk_close (f := 0) (g := 1) rfl rfl (by decide) (by simp [List.length_map])) ?_; simp only [EVB, seval, set_modify, List.length_map])
      (refine wk_a ?_; simp only [MAB, seval]; refine ⟨rfl, rfl, (by decide), ?_, ?_⟩; all_goals (first | (simp only [WKB, seval, shG, e, e2, Nat.reduceLT, Nat.zero_lt_succ]; done) | (simp [WKB, seval, shG, e, e2]; done) | simp only [WKB, seval]))

set_option maxHeartbeats 4000000 in
theorem heldShardS_k (l : List ShardD) (k0 : Nat) (hk0 : k0 + shSum l ≤ 1099511627776) : FnOK Try.prog 72 ⟨1, [(0, some (.ro ((List.range l.length).map (shG 98 k0 l))))], [.c (.sl 0 3 0 l.length), .c (.v (.int .i64 (k0 : Int)))], .c (.v (.int .i64 ((k0 + shSum l : Nat) : Int))), [], 1⟩ := by
  have hln : l.length ≤ 1099511627776 := by have := shSum_ed l; omega
  refine fnOK_of true mixed Try.func72 rfl (by rfl) (by rfl) ?_
  have hres := congrArg Array.toList Try.results72
  simp only [Try.ntmps72, BGB, seval]
  (have gx := true_and True; refine go ?_; (repeat' (first | exact Ef.mk | refine Lf.mk ?_ ?_ | refine fun (K : KT) hK hE hT => ?_ | refine fun (KS : Eff → Prop) hKS => ?_ | refine fun (D : List Keys → Prop) hD => ?_ | refine fun (hg : (_ : Prop)) => ?_ | fail)); all_goals (first | (refine Wr.mk ?_; (try clear gx); repeat (first | (clear hK hE hT; clear K) | (clear hR hE hT; clear K))) | assumption | skip))
  refine loop_v (X := {k : Nat // k ≤ l.length}) [] (fun x => [(1, .c (.v (.int .i64 ((k0 + shSum (l.take x.1) : Nat) : Int)))), (5, .c (.v (.int .i64 ((x.1 : Nat) : Int))))]) (fun x => [(0, some (.ro ((List.range l.length).map (shG 98 k0 l))))]) 1 (fun x => l.length - x.1) ⟨0, by omega⟩ ?_
  simp only [KPB, seval]
  refine ⟨?_, ?_⟩
  · (refine wk_a ?_; simp only [MAB, seval]; refine ⟨rfl, rfl, (by decide), ?_, ?_⟩; all_goals (first | (simp only [WKB, seval, shSum, List.take_zero, Nat.add_zero, Nat.reduceLT, Nat.zero_lt_succ]; done) | (simp [WKB, seval, shSum, List.take_zero, Nat.add_zero]; done) | simp only [WKB, seval]))
  · rintro ⟨k, hk⟩ K hR hE hT
    have hsk := shSum_le l k
    obtain ⟨q, hq⟩ : ∃ q, q = k0 + shSum (l.take k) := ⟨_, rfl⟩
    simp only [← hq]
    rcases Nat.lt_or_ge k l.length with hlt | hge
    case inr =>
      (have gx := @range_len; refine go ?_; (repeat' (first | exact Ef.mk | refine Lf.mk ?_ ?_ | refine fun (K : KT) hK hE hT => ?_ | refine fun (KS : Eff → Prop) hKS => ?_ | refine fun (D : List Keys → Prop) hD => ?_ | refine fun (hg : (_ : Prop)) => ?_ | fail)); all_goals (first | (refine Wr.mk ?_; (try clear gx); repeat (first | (clear hK hE hT; clear K) | (clear hR hE hT; clear K))) | assumption | skip))
      obtain rfl : k = l.length := by omega
      rw [List.take_length] at hq
      subst hq
      (refine post_a hres (.inl rfl) ?_; simp only [RSB, ENB, seval, tiAll, true_and]; simp only [MAB, seval]; refine ⟨rfl, rfl, ?_, ?_, ?_⟩ <;> (first | rfl | (simp [WKB, Nat.add_comm, true_and]; done) | (simp only [WKB, seval])))
    case inl =>
      have hsn := shSum_snoc hlt
      have hsm := shSum_le l (k + 1)
      have sg' : shG 98 k0 l k = ShardD.q 98 q l[k].Edges.length := by simp only [shG, ← hq, List.getElem?_eq_getElem hlt, Option.map_some, Option.getD_some]
      have c := heldSEdgeS_k l[k].Edges.length (q + 2) (by omega)
      rw [show ((q + 2 : Nat) : Int) = (q : Int) + 1 + 1 by omega] at c
      (have gx := And.intro (@range_len) (And.intro (@range_get) (And.intro (@sg') (And.intro (@ShardD.q.eq_1) (And.intro @List.length_map.{0,0} @List.length_range)))); have q1 := c; refine go ?_; (repeat' (first | exact Ef.mk | refine Lf.mk ?_ ?_ | refine fun (K : KT) hK hE hT => ?_ | refine fun (KS : Eff → Prop) hKS => ?_ | refine fun (D : List Keys → Prop) hD => ?_ | refine fun (hg : (_ : Prop)) => ?_ | fail)); all_goals (first | (refine Wr.mk ?_; (try clear gx); (try clear q1); repeat (first | (clear hK hE hT; clear K) | (clear hR hE hT; clear K))) | assumption | skip))
      have e2 : ((q + 2 + 5 * l[k].Edges.length : Nat) : Int) = ((k0 + shSum (l.take (k + 1)) : Nat) : Int) := by omega
      (refine hR.out ⟨k + 1, by omega⟩ _ _ _ (by simp only; omega) ?_; (refine wk_a ?_; simp only [MAB, seval]; refine ⟨rfl, rfl, (by decide), ?_, ?_⟩; all_goals (first | (simp only [WKB, seval, e2, Nat.reduceLT, Nat.zero_lt_succ]; done) | (simp [WKB, seval, e2]; done) | simp only [WKB, seval])))

set_option maxHeartbeats 4000000 in
theorem szShardS_k (l : List ShardD) (b : Nat) (T : Nat) (hw : l.length ≤ 9223372036854775807) (hs : ∀ s ∈ l, s.Edges.length ≤ 9223372036854775807) (hb : b ≤ 1048576) : FnOK Try.prog 59 ⟨1, [(0, some (.ro (l.map (ShardD.k T))))], [.c (.sl 0 3 0 l.length), .c (.v (.int .i64 (b : Int)))], .c (.v (.int .i64 (szL b (l.length + edSum l)))), [], 1⟩ := by
  rcases Nat.lt_or_ge b l.length with h0 | h0
  · skip
    refine fnOK_of true mixed Try.func59 rfl (by rfl) (by rfl) ?_
    have hres := congrArg Array.toList Try.results59
    simp only [Try.ntmps59, BGB, seval]
    (have gx := true_and True; refine go ?_; (repeat' (first | exact Ef.mk | refine Lf.mk ?_ ?_ | refine fun (K : KT) hK hE hT => ?_ | refine fun (KS : Eff → Prop) hKS => ?_ | refine fun (D : List Keys → Prop) hD => ?_ | refine fun (hg : (_ : Prop)) => ?_ | fail)); all_goals (first | (refine Wr.mk ?_; (try clear gx); repeat (first | (clear hK hE hT; clear K) | (clear hR hE hT; clear K))) | assumption | skip))
    (refine post_a hres (.inl rfl) ?_; simp only [RSB, ENB, seval, tiAll, szL_neg b (l.length + edSum l) (by omega)]; simp only [MAB, seval]; refine ⟨rfl, rfl, ?_, ?_, ?_⟩ <;> (first | rfl | (simp [WKB, Nat.add_comm, szL_neg b (l.length + edSum l) (by omega)]; done) | (simp only [WKB, seval])))
  refine fnOK_of true mixed Try.func59 rfl (by rfl) (by rfl) ?_
  have hres := congrArg Array.toList Try.results59
  simp only [Try.ntmps59, BGB, seval]
  (have gx := true_and True; refine go ?_; (repeat' (first | exact Ef.mk | refine Lf.mk ?_ ?_ | refine fun (K : KT) hK hE hT => ?_ | refine fun (KS : Eff → Prop) hKS => ?_ | refine fun (D : List Keys → Prop) hD => ?_ | refine fun (hg : (_ : Prop)) => ?_ | fail)); all_goals (first | (refine Wr.mk ?_; (try clear gx); repeat (first | (clear hK hE hT; clear K) | (clear hR hE hT; clear K))) | assumption | skip))
  refine loop_v (X := {k : Nat // k ≤ l.length ∧ l.length + edSum (l.take k) ≤ b}) [] (fun x => [(1, .c (.v (.int .i64 ((b - (l.length + edSum (l.take x.1)) : Nat) : Int)))), (5, .c (.v (.int .i64 ((x.1 : Nat) : Int))))]) (fun x => [(0, some (.ro (l.map (ShardD.k T))))]) 1 (fun x => l.length - x.1) ⟨0, by omega, by simp [edSum]; omega⟩ ?_
  simp only [KPB, seval]
  refine ⟨?_, ?_⟩
  · have e : (b : Int) - (l.length : Int) = ((b - (l.length + 0) : Nat) : Int) := by omega
    (refine wk_a ?_; simp only [MAB, seval]; refine ⟨rfl, rfl, (by decide), ?_, ?_⟩; all_goals (first | (simp only [WKB, seval, edSum, List.take_zero, e, Nat.reduceLT, Nat.zero_lt_succ]; done) | (simp [WKB, seval, edSum, List.take_zero, e]; done) | simp only [WKB, seval]))
  · rintro ⟨k, hk, hkb⟩ K hR hE hT
    rcases Nat.lt_or_ge k l.length with hlt | hge
    case inr =>
      (have gx := @List.length_map.{0,0}; refine go ?_; (repeat' (first | exact Ef.mk | refine Lf.mk ?_ ?_ | refine fun (K : KT) hK hE hT => ?_ | refine fun (KS : Eff → Prop) hKS => ?_ | refine fun (D : List Keys → Prop) hD => ?_ | refine fun (hg : (_ : Prop)) => ?_ | fail)); all_goals (first | (refine Wr.mk ?_; (try clear gx); repeat (first | (clear hK hE hT; clear K) | (clear hR hE hT; clear K))) | assumption | skip))
      obtain rfl : k = l.length := by omega
      rw [List.take_length] at *
      have e : szL b (l.length + edSum l) = ((b - (l.length + edSum l) : Nat) : Int) := by rw [szL_sub _ _ (by omega)]
      (refine post_a hres (.inl rfl) ?_; simp only [RSB, ENB, seval, tiAll, e]; simp only [MAB, seval]; refine ⟨rfl, rfl, ?_, ?_, ?_⟩ <;> (first | rfl | (simp [WKB, Nat.add_comm, e]; done) | (simp only [WKB, seval])))
    case inl =>
      have hsn := edSum_snoc hlt
      have hel := edSum_le l (k + 1)
      obtain ⟨z, hz⟩ : ∃ z, z = b - (l.length + edSum (l.take k)) := ⟨_, rfl⟩
      simp only [← hz]
      have c := szShard_k l[k] z (hs _ (List.getElem_mem hlt)) (by omega)
      rcases Nat.lt_or_ge z l[k].Edges.length with h1 | h1
      · rw [szL_neg z _ h1] at c
        (have gx := And.intro (@List.length_map.{0,0}) (And.intro @List.getElem_map.{0,0} @ShardD.k.eq_1); have q1 := c; refine go ?_; (repeat' (first | exact Ef.mk | refine Lf.mk ?_ ?_ | refine fun (K : KT) hK hE hT => ?_ | refine fun (KS : Eff → Prop) hKS => ?_ | refine fun (D : List Keys → Prop) hD => ?_ | refine fun (hg : (_ : Prop)) => ?_ | fail)); all_goals (first | (refine Wr.mk ?_; (try clear gx); (try clear q1); repeat (first | (clear hK hE hT; clear K) | (clear hR hE hT; clear K))) | assumption | skip))
        (refine post_a hres (.inl rfl) ?_; simp only [RSB, ENB, seval, tiAll, szL_neg b (l.length + edSum l) (by omega)]; simp only [MAB, seval]; refine ⟨rfl, rfl, ?_, ?_, ?_⟩ <;> (first | rfl | (simp [WKB, Nat.add_comm, szL_neg b (l.length + edSum l) (by omega)]; done) | (simp only [WKB, seval])))
      · rw [szL_sub z _ h1] at c
        (have gx := And.intro (@List.length_map.{0,0}) (And.intro @List.getElem_map.{0,0} @ShardD.k.eq_1); have q1 := c; refine go ?_; (repeat' (first | exact Ef.mk | refine Lf.mk ?_ ?_ | refine fun (K : KT) hK hE hT => ?_ | refine fun (KS : Eff → Prop) hKS => ?_ | refine fun (D : List Keys → Prop) hD => ?_ | refine fun (hg : (_ : Prop)) => ?_ | fail)); all_goals (first | (refine Wr.mk ?_; (try clear gx); (try clear q1); repeat (first | (clear hK hE hT; clear K) | (clear hR hE hT; clear K))) | assumption | skip))
        have e2 : z - l[k].Edges.length = b - (l.length + edSum (l.take (k + 1))) := by omega
        (refine hR.out ⟨k + 1, by omega, by omega⟩ _ _ _ (by simp only; omega) ?_; (refine wk_a ?_; simp only [MAB, seval]; refine ⟨rfl, rfl, (by decide), ?_, ?_⟩; all_goals (first | (simp only [WKB, seval, e2, Nat.reduceLT, Nat.zero_lt_succ]; done) | (simp [WKB, seval, e2]; done) | simp only [WKB, seval])))

end Go.Proofs.Ytfkpmhnfpljakaa
