/-
  Contracts of the law's helpers for Loc and slices of them. No conditions of its own.
-/
import Derived.Test.YtfkpmhnfpljakaaGO
import Derived.Test.YtfkpmhnfpljakaaG1
namespace Go.Proofs.Ytfkpmhnfpljakaa
set_option linter.unusedSimpArgs false
set_option linter.unusedVariables false
set_option linter.unusedSimpArgs false
set_option linter.unusedVariables false
set_option linter.defProp false
set_option maxRecDepth 20000
open Go.RowKit

structure LocD where
  Shard : Int
  At : Int
  Edge : SEdgeD
deriving DecidableEq

def LocD.k (x : LocD) : List DC := [.v (.int .i64 x.Shard), .v (.int .i64 x.At), .v (.int .i64 x.Edge.From), .v (.int .i64 x.Edge.To), .v (.int .i64 x.Edge.W), .v (.int .i64 x.Edge.Index), .v (.int .i64 x.Edge.Val)]
def LocD.s (x : LocD) : List CV := [.v (.int .i64 x.Shard), .v (.int .i64 x.At), .v (.int .i64 x.Edge.From), .v (.int .i64 x.Edge.To), .v (.int .i64 x.Edge.W), .v (.int .i64 x.Edge.Index), .v (.int .i64 x.Edge.Val)]
theorem flat_Loc (l : List LocD) : ∀ e ∈ l.map LocD.k, ∀ c ∈ e, DC.flat c := flat_map (fun x c hc => by simp only [LocD.k, List.mem_cons, List.not_mem_nil, or_false] at hc; rcases hc with rfl | rfl | rfl | rfl | rfl | rfl | rfl <;> exact ⟨_, rfl, rfl⟩) l
/-- marked cells -/
def LocD.q (q : Nat) : List DC := [.v (.int .i64 ((q : Int))), .v (.int .i64 ((q : Int) + 1)), .v (.int .i64 ((q : Int) + 1 + 1)), .v (.int .i64 ((q : Int) + 1 + 1 + 1)), .v (.int .i64 ((q : Int) + 1 + 1 + 1 + 1)), .v (.int .i64 ((q : Int) + 1 + 1 + 1 + 1 + 1)), .v (.int .i64 ((q : Int) + 1 + 1 + 1 + 1 + 1 + 1))]
def LocD.g (k i : Nat) : List DC := LocD.q (k + 7 * i)

set_option maxHeartbeats 1000000 in
theorem toLoc_k (x : LocD) : FnOK Try.prog 121 ⟨0, [], [.agg x.s], .agg x.s, [], 0⟩ := by
  obtain ⟨x1, x2, ⟨x3, x4, x5, x6, x7⟩⟩ := x
  simp only [LocD.s, SEdgeD.s]
  refine fnOK_of true mixed Try.func121 rfl (by rfl) (by rfl) ?_
  have hres := congrArg Array.toList Try.results121
  simp only [Try.ntmps121, BGB, seval]
  (have gx := @SEdgeD.s.eq_1; have q1 := toSEdge_k ⟨x3, x4, x5, x6, x7⟩; refine go ?_; (repeat' (first | exact Ef.mk | refine Lf.mk ?_ ?_ | refine fun (K : KT) hK hE hT => ?_ | refine fun (KS : Eff → Prop) hKS => ?_ | refine fun (D : List Keys → Prop) hD => ?_ | refine fun (hg : (_ : Prop)) => ?_ | fail)); all_goals (first | (refine Wr.mk ?_; (try clear gx); (try clear q1); repeat (first | (clear hK hE hT; clear K) | (clear hR hE hT; clear K))) | assumption | skip))
  (refine post_a hres (.inl rfl) ?_; simp only [RSB, ENB, seval, tiAll, true_and]; simp only [MAB, seval]; refine ⟨rfl, rfl, ?_, ?_, ?_⟩ <;> (first | rfl | (simp [WKB, Nat.add_comm, true_and]; done) | (simp only [WKB, seval])))

set_option maxHeartbeats 1000000 in
theorem eqLoc_k (x y : LocD) : FnOK Try.prog 124 ⟨0, [], [.agg x.s, .agg y.s], .c (.v (.bool (decide (x = y)))), [], 0⟩ := by
  obtain ⟨x1, x2, ⟨x3, x4, x5, x6, x7⟩⟩ := x
  obtain ⟨y1, y2, ⟨y3, y4, y5, y6, y7⟩⟩ := y
  simp only [LocD.s, SEdgeD.s, LocD.mk.injEq, SEdgeD.mk.injEq]
  refine fnOK_of true mixed Try.func124 rfl (by rfl) (by rfl) ?_
  have hres := congrArg Array.toList Try.results124
  simp only [Try.ntmps124, BGB, seval]
  (have gx := @SEdgeD.s.eq_1; have q1 := eqSEdge_k ⟨x3, x4, x5, x6, x7⟩ ⟨y3, y4, y5, y6, y7⟩; refine go ?_; (repeat' (first | exact Ef.mk | refine Lf.mk ?_ ?_ | refine fun (K : KT) hK hE hT => ?_ | refine fun (KS : Eff → Prop) hKS => ?_ | refine fun (D : List Keys → Prop) hD => ?_ | refine fun (hg : (_ : Prop)) => ?_ | fail)); all_goals (first | (refine Wr.mk ?_; (try clear gx); (try clear q1); repeat (first | (clear hK hE hT; clear K) | (clear hR hE hT; clear K))) | assumption | skip))
  all_goals (try simp only [LocD.mk.injEq, SEdgeD.mk.injEq, not_and] at *)
  all_goals (refine post_a hres (.inl rfl) ?_; simp only [RSB, ENB, seval, tiAll, *]; simp only [MAB, seval]; refine ⟨rfl, rfl, ?_, ?_, ?_⟩ <;> (first | rfl | (simp [WKB, Nat.add_comm, *]; done) | (simp only [WKB, seval])))
  all_goals (refine congrArg (fun b => SV.c (CV.v (Value.bool b))) ?_; symm; simp only [decide_eq_false_iff_not, decide_eq_true_eq]; first | omega | (intro h; simp_all))

set_option maxHeartbeats 2000000 in
theorem toLocS_k (l : List LocD) (hl : l.length ≤ 1048576) : FnOK Try.prog 65 ⟨1, [(0, some (.ro (l.map LocD.k)))], [.c (.sl 0 7 0 l.length)], .c (.sl 1 7 0 l.length), [(1, some (.row 100 (l.map LocD.k)))], 2⟩ := by
  refine fnOK_of true mixed Try.func65 rfl (by rfl) (by rfl) ?_
  have hres := congrArg Array.toList Try.results65
  simp only [Try.ntmps65, BGB, seval]
  (have gx := true_and True; refine go ?_; (repeat' (first | exact Ef.mk | refine Lf.mk ?_ ?_ | refine fun (K : KT) hK hE hT => ?_ | refine fun (KS : Eff → Prop) hKS => ?_ | refine fun (D : List Keys → Prop) hD => ?_ | refine fun (hg : (_ : Prop)) => ?_ | fail)); all_goals (first | (refine Wr.mk ?_; (try clear gx); repeat (first | (clear hK hE hT; clear K) | (clear hR hE hT; clear K))) | assumption | skip))
  refine loop_v (X := {k : Nat // k ≤ l.length}) [] (fun x => [(4, .c (.v (.int .i64 ((x.1 : Nat) : Int))))]) (fun x => [(0, some (.ro (l.map LocD.k))), (1, some (.row 100 (fillTo LocD.k (LocD.k ⟨0, 0, ⟨0, 0, 0, 0, 0⟩⟩) l x.1)))]) 2 (fun x => l.length - x.1) ⟨0, by omega⟩ ?_
  simp only [KPB, seval]
  refine ⟨?_, ?_⟩
  · (refine wk_a ?_; simp only [MAB, seval]; refine ⟨rfl, rfl, (by decide), ?_, ?_⟩; all_goals (first | (simp only [WKB, seval, fillTo_zero, LocD.k, Nat.reduceLT, Nat.zero_lt_succ]; done) | (simp [WKB, seval, fillTo_zero, LocD.k]; done) | simp only [WKB, seval]))
  · rintro ⟨k, hk⟩ K hR hE hT
    (have gx := And.intro (@List.length_map.{0,0}) (And.intro (@List.getElem_map.{0,0}) (And.intro (@fillTo_len) (And.intro (@fillTo_get) (And.intro (@fillTo_set) (And.intro (@LocD.k.eq_1) (And.intro @LocD.s.eq_1 @SEdgeD.s.eq_1)))))); have q1 := fun hq1 => toLoc_k (l[k]'hq1); refine go ?_; (repeat' (first | exact Ef.mk | refine Lf.mk ?_ ?_ | refine fun (K : KT) hK hE hT => ?_ | refine fun (KS : Eff → Prop) hKS => ?_ | refine fun (D : List Keys → Prop) hD => ?_ | refine fun (hg : (_ : Prop)) => ?_ | fail)); all_goals (first | (refine Wr.mk ?_; (try clear gx); (try clear q1); repeat (first | (clear hK hE hT; clear K) | (clear hR hE hT; clear K))) | assumption | skip))
    · refine hR.out ⟨k + 1, by omega⟩ _ _ _ (by simp only; omega) ?_
      have e := fillTo_set LocD.k (LocD.k ⟨0, 0, ⟨0, 0, 0, 0, 0⟩⟩) l k (by omega)
      simp only [LocD.k] at e
      (refine wk_a ?_; simp only [MAB, seval]; refine ⟨rfl, rfl, (by decide), ?_, ?_⟩; all_goals (first | (simp only [WKB, seval, e, LocD.k, Nat.reduceLT, Nat.zero_lt_succ]; done) | (simp [WKB, seval, e, LocD.k]; done) | simp only [WKB, seval]))
    · obtain rfl : k = l.length := by omega
      (refine post_a hres (.inl rfl) ?_; simp only [RSB, ENB, seval, tiAll, fillTo_end]; simp only [MAB, seval]; refine ⟨rfl, rfl, ?_, ?_, ?_⟩ <;> (first | rfl | (simp [WKB, Nat.add_comm, fillTo_end]; done) | (simp only [WKB, seval])))

set_option maxHeartbeats 2000000 in
theorem eqLocS_k (l m : List LocD) (hl : l.length ≤ 1048576) (hm : m.length ≤ 1048576) : FnOK Try.prog 69 ⟨2, [(0, some (.ro (l.map LocD.k))), (1, some (.ro (m.map LocD.k)))], [.c (.sl 0 7 0 l.length), .c (.sl 1 7 0 m.length)], .c (.v (.bool (decide (l = m)))), [], 2⟩ := by
  refine fnOK_of true mixed Try.func69 rfl (by rfl) (by rfl) ?_
  have hres := congrArg Array.toList Try.results69
  simp only [Try.ntmps69, BGB, seval]
  (have gx := true_and True; refine go ?_; (repeat' (first | exact Ef.mk | refine Lf.mk ?_ ?_ | refine fun (K : KT) hK hE hT => ?_ | refine fun (KS : Eff → Prop) hKS => ?_ | refine fun (D : List Keys → Prop) hD => ?_ | refine fun (hg : (_ : Prop)) => ?_ | fail)); all_goals (first | (refine Wr.mk ?_; (try clear gx); repeat (first | (clear hK hE hT; clear K) | (clear hR hE hT; clear K))) | assumption | skip))
  · (have hfin := eqs_len (l := l) (m := m) (by omega); (refine post_a hres (.inl rfl) ?_; simp only [RSB, ENB, seval, tiAll, ← hfin]; simp only [MAB, seval]; refine ⟨rfl, rfl, ?_, ?_, ?_⟩ <;> (first | rfl | (simp [WKB, Nat.add_comm, ← hfin]; done) | (simp only [WKB, seval]))))
  · have hlm : l.length = m.length := by omega
    refine loop_v (X := {k : Nat // k ≤ l.length ∧ Rnd (∀ i, i < k → l[i]? = m[i]?)}) [] (fun x => [(5, .c (.v (.int .i64 ((x.1 : Nat) : Int))))]) (fun x => [(0, some (.ro (l.map LocD.k))), (1, some (.ro (m.map LocD.k)))]) 2 (fun x => l.length - x.1) ⟨0, by omega, ⟨fun i hi => by omega⟩⟩ ?_
    simp only [KPB, seval]
    refine ⟨?_, ?_⟩
    · (refine wk_a ?_; simp only [MAB, seval]; refine ⟨rfl, rfl, (by decide), ?_, ?_⟩; all_goals (first | (simp only [WKB, seval, true_and, Nat.reduceLT, Nat.zero_lt_succ]; done) | (simp [WKB, seval, true_and]; done) | simp only [WKB, seval]))
    · rintro ⟨k, hk, hi⟩ K hR hE hT
      (have gx := And.intro (@List.length_map.{0,0}) (And.intro (@List.getElem_map.{0,0}) (And.intro (@LocD.k.eq_1) (And.intro @LocD.s.eq_1 @SEdgeD.s.eq_1))); have q1 := fun hq1 hq2 => eqLoc_k (l[k]'hq1) (m[k]'hq2); refine go ?_; (repeat' (first | exact Ef.mk | refine Lf.mk ?_ ?_ | refine fun (K : KT) hK hE hT => ?_ | refine fun (KS : Eff → Prop) hKS => ?_ | refine fun (D : List Keys → Prop) hD => ?_ | refine fun (hg : (_ : Prop)) => ?_ | fail)); all_goals (first | (refine Wr.mk ?_; (try clear gx); (try clear q1); repeat (first | (clear hK hE hT; clear K) | (clear hR hE hT; clear K))) | assumption | skip))
      · (have hfin := eqs_hit (l := l) (m := m) k (by omega) (by omega) (by assumption); (refine post_a hres (.inl rfl) ?_; simp only [RSB, ENB, seval, tiAll, ← hfin]; simp only [MAB, seval]; refine ⟨rfl, rfl, ?_, ?_, ?_⟩ <;> (first | rfl | (simp [WKB, Nat.add_comm, ← hfin]; done) | (simp only [WKB, seval]))))
      · refine hR.out ⟨k + 1, by omega, ⟨fun i h => ?_⟩⟩ _ _ _ (by simp only; omega) ?_
        · by_cases hik : i = k
          · subst hik
            rw [List.getElem?_eq_getElem (by omega), List.getElem?_eq_getElem (by omega)]
            exact congrArg some (by assumption)
          · exact hi.out i (by omega)
        · (refine wk_a ?_; simp only [MAB, seval]; refine ⟨rfl, rfl, (by decide), ?_, ?_⟩; all_goals (first | (simp only [WKB, seval, true_and, Nat.reduceLT, Nat.zero_lt_succ]; done) | (simp [WKB, seval, true_and]; done) | simp only [WKB, seval]))
      · (have hfin := eqs_end (l := l) (m := m) hlm k (by omega) hi.out; (refine post_a hres (.inl rfl) ?_; simp only [RSB, ENB, seval, tiAll, ← hfin]; simp only [MAB, seval]; refine ⟨rfl, rfl, ?_, ?_, ?_⟩ <;> (first | rfl | (simp [WKB, Nat.add_comm, ← hfin]; done) | (simp only [WKB, seval]))))

set_option maxHeartbeats 4000000 in
theorem markLocS_k (l : List LocD) (k0 : Nat) (hk0 : k0 + 7 * l.length ≤ 1099511627776) : FnOK Try.prog 71 ⟨1, [(0, some (.row 100 (l.map LocD.k)))], [.c (.sl 0 7 0 l.length), .c (.v (.int .i64 (k0 : Int)))], .c (.v (.int .i64 ((k0 + 7 * l.length : Nat) : Int))), [(0, some (.row 100 ((List.range l.length).map (LocD.g k0))))], 1⟩ := by
  refine fnOK_of true mixed Try.func71 rfl (by rfl) (by rfl) ?_
  have hres := congrArg Array.toList Try.results71
  simp only [Try.ntmps71, BGB, seval]
  (have gx := true_and True; refine go ?_; (repeat' (first | exact Ef.mk | refine Lf.mk ?_ ?_ | refine fun (K : KT) hK hE hT => ?_ | refine fun (KS : Eff → Prop) hKS => ?_ | refine fun (D : List Keys → Prop) hD => ?_ | refine fun (hg : (_ : Prop)) => ?_ | fail)); all_goals (first | (refine Wr.mk ?_; (try clear gx); repeat (first | (clear hK hE hT; clear K) | (clear hR hE hT; clear K))) | assumption | skip))
  refine loop_v (X := {k : Nat // k ≤ l.length}) [] (fun x => [(1, .c (.v (.int .i64 ((k0 + 7 * x.1 : Nat) : Int)))), (5, .c (.v (.int .i64 ((x.1 : Nat) : Int))))]) (fun x => [(0, some (.row 100 (setTo (LocD.g k0) LocD.k l x.1)))]) 1 (fun x => l.length - x.1) ⟨0, by omega⟩ ?_
  simp only [KPB, seval]
  refine ⟨?_, ?_⟩
  · (refine wk_a ?_; simp only [MAB, seval]; refine ⟨rfl, rfl, (by decide), ?_, ?_⟩; all_goals (first | (simp only [WKB, seval, setTo_zero, Nat.mul_zero, Nat.add_zero, Nat.reduceLT, Nat.zero_lt_succ]; done) | (simp [WKB, seval, setTo_zero, Nat.mul_zero, Nat.add_zero]; done) | simp only [WKB, seval]))
  · rintro ⟨k, hk⟩ K hR hE hT
    have sl := setTo_len (LocD.g k0) LocD.k l k hk
    obtain ⟨q, hq⟩ : ∃ q, q = k0 + 7 * k := ⟨_, rfl⟩
    simp only [← hq]
    rcases Nat.lt_or_ge k l.length with hlt | hge
    case inr =>
      (have gx := @sl; refine go ?_; (repeat' (first | exact Ef.mk | refine Lf.mk ?_ ?_ | refine fun (K : KT) hK hE hT => ?_ | refine fun (KS : Eff → Prop) hKS => ?_ | refine fun (D : List Keys → Prop) hD => ?_ | refine fun (hg : (_ : Prop)) => ?_ | fail)); all_goals (first | (refine Wr.mk ?_; (try clear gx); repeat (first | (clear hK hE hT; clear K) | (clear hR hE hT; clear K))) | assumption | skip))
      obtain rfl : k = l.length := by omega
      subst hq
      (refine post_a hres (.inl rfl) ?_; simp only [RSB, ENB, seval, tiAll, setTo_end]; simp only [MAB, seval]; refine ⟨rfl, rfl, ?_, ?_, ?_⟩ <;> (first | rfl | (simp [WKB, Nat.add_comm, setTo_end]; done) | (simp only [WKB, seval])))
    case inl =>
      have hq2 : q + 7 ≤ 1099511627776 := by have := Nat.mul_le_mul_left 7 (show k + 1 ≤ l.length from hlt); omega
      have sg := setTo_get (LocD.g k0) LocD.k l k hlt (by omega)
      simp only [LocD.k] at sg
      (have gx := And.intro (@sl) (And.intro (@sg) (And.intro (@List.length_set.{0}) (And.intro @List.getElem_set_self.{0} @List.set_set.{0}))); refine go ?_; (repeat' (first | exact Ef.mk | refine Lf.mk ?_ ?_ | refine fun (K : KT) hK hE hT => ?_ | refine fun (KS : Eff → Prop) hKS => ?_ | refine fun (D : List Keys → Prop) hD => ?_ | refine fun (hg : (_ : Prop)) => ?_ | fail)); all_goals (first | (refine Wr.mk ?_; (try clear gx); repeat (first | (clear hK hE hT; clear K) | (clear hR hE hT; clear K))) | assumption | skip))
      refine hR.out ⟨k + 1, by omega⟩ _ _ _ (by simp only; omega) ?_
      have e := setTo_set (LocD.g k0) LocD.k l k hlt
      simp only [LocD.g, ← hq, LocD.q] at e
      have e2 : (q : Int) + 1 + 1 + 1 + 1 + 1 + 1 + 1 = ((k0 + 7 * (k + 1) : Nat) : Int) := by omega
      (refine wk_a ?_; simp only [MAB, seval]; refine ⟨rfl, rfl, (by decide), ?_, ?_⟩; all_goals (first | (simp only [WKB, seval, LocD.g, e, e2, Nat.reduceLT, Nat.zero_lt_succ]; done) | (simp [WKB, seval, LocD.g, e, e2]; done) | simp only [WKB, seval]))

set_option maxHeartbeats 4000000 in
theorem heldLocS_k (n : Nat) (k0 : Nat) (hk0 : k0 + 7 * n ≤ 1099511627776) : FnOK Try.prog 95 ⟨1, [(0, some (.ro ((List.range n).map (LocD.g k0))))], [.c (.sl 0 7 0 n), .c (.v (.int .i64 (k0 : Int)))], .c (.v (.int .i64 ((k0 + 7 * n : Nat) : Int))), [], 1⟩ := by
  refine fnOK_of true mixed Try.func95 rfl (by rfl) (by rfl) ?_
  have hres := congrArg Array.toList Try.results95
  simp only [Try.ntmps95, BGB, seval]
  (have gx := true_and True; refine go ?_; (repeat' (first | exact Ef.mk | refine Lf.mk ?_ ?_ | refine fun (K : KT) hK hE hT => ?_ | refine fun (KS : Eff → Prop) hKS => ?_ | refine fun (D : List Keys → Prop) hD => ?_ | refine fun (hg : (_ : Prop)) => ?_ | fail)); all_goals (first | (refine Wr.mk ?_; (try clear gx); repeat (first | (clear hK hE hT; clear K) | (clear hR hE hT; clear K))) | assumption | skip))
  refine loop_v (X := {k : Nat // k ≤ n}) [] (fun x => [(1, .c (.v (.int .i64 ((k0 + 7 * x.1 : Nat) : Int)))), (5, .c (.v (.int .i64 ((x.1 : Nat) : Int))))]) (fun x => [(0, some (.ro ((List.range n).map (LocD.g k0))))]) 1 (fun x => n - x.1) ⟨0, by omega⟩ ?_
  simp only [KPB, seval]
  refine ⟨?_, ?_⟩
  · (refine wk_a ?_; simp only [MAB, seval]; refine ⟨rfl, rfl, (by decide), ?_, ?_⟩; all_goals (first | (simp only [WKB, seval, Nat.mul_zero, Nat.add_zero, Nat.reduceLT, Nat.zero_lt_succ]; done) | (simp [WKB, seval, Nat.mul_zero, Nat.add_zero]; done) | simp only [WKB, seval]))
  · rintro ⟨k, hk⟩ K hR hE hT
    obtain ⟨q, hq⟩ : ∃ q, q = k0 + 7 * k := ⟨_, rfl⟩
    simp only [← hq]
    rcases Nat.lt_or_ge k n with hlt | hge
    case inr =>
      (have gx := @range_len; refine go ?_; (repeat' (first | exact Ef.mk | refine Lf.mk ?_ ?_ | refine fun (K : KT) hK hE hT => ?_ | refine fun (KS : Eff → Prop) hKS => ?_ | refine fun (D : List Keys → Prop) hD => ?_ | refine fun (hg : (_ : Prop)) => ?_ | fail)); all_goals (first | (refine Wr.mk ?_; (try clear gx); repeat (first | (clear hK hE hT; clear K) | (clear hR hE hT; clear K))) | assumption | skip))
      obtain rfl : k = n := by omega
      subst hq
      (refine post_a hres (.inl rfl) ?_; simp only [RSB, ENB, seval, tiAll, true_and]; simp only [MAB, seval]; refine ⟨rfl, rfl, ?_, ?_, ?_⟩ <;> (first | rfl | (simp [WKB, Nat.add_comm, true_and]; done) | (simp only [WKB, seval])))
    case inl =>
      have hq2 : q + 7 ≤ 1099511627776 := by have := Nat.mul_le_mul_left 7 (show k + 1 ≤ n from hlt); omega
      have sg := range_get (LocD.g k0) n k (by rw [range_len]; exact hlt)
      simp only [LocD.g, ← hq, LocD.q] at sg
      have sg' : LocD.g k0 k = LocD.q q := by rw [hq]; rfl
      (have gx := And.intro (@range_len) (And.intro (@range_get) (And.intro @sg' @LocD.q.eq_1)); refine go ?_; (repeat' (first | exact Ef.mk | refine Lf.mk ?_ ?_ | refine fun (K : KT) hK hE hT => ?_ | refine fun (KS : Eff → Prop) hKS => ?_ | refine fun (D : List Keys → Prop) hD => ?_ | refine fun (hg : (_ : Prop)) => ?_ | fail)); all_goals (first | (refine Wr.mk ?_; (try clear gx); repeat (first | (clear hK hE hT; clear K) | (clear hR hE hT; clear K))) | assumption | skip))
      refine hR.out ⟨k + 1, by omega⟩ _ _ _ (by simp only; omega) ?_
      have e2 : (q : Int) + 1 + 1 + 1 + 1 + 1 + 1 + 1 = ((k0 + 7 * (k + 1) : Nat) : Int) := by omega
      (refine wk_a ?_; simp only [MAB, seval]; refine ⟨rfl, rfl, (by decide), ?_, ?_⟩; all_goals (first | (simp only [WKB, seval, e2, Nat.reduceLT, Nat.zero_lt_succ]; done) | (simp [WKB, seval, e2]; done) | simp only [WKB, seval]))

theorem szLocS_k (n b : Nat) (es : List (List DC)) (he : es.length = n) (hw : n ≤ 9223372036854775807) (hb : b ≤ 1048576) : FnOK Try.prog 60 ⟨1, [(0, some (.ro es))], [.c (.sl 0 7 0 n), .c (.v (.int .i64 (b : Int)))], .c (.v (.int .i64 (szL b n))), [], 1⟩ := by
  refine fnOK_of true mixed Try.func60 rfl (by rfl) (by rfl) ?_
  have hres := congrArg Array.toList Try.results60
  simp only [Try.ntmps60, BGB, seval]
  (have gx := true_and True; refine go ?_; (repeat' (first | exact Ef.mk | refine Lf.mk ?_ ?_ | refine fun (K : KT) hK hE hT => ?_ | refine fun (KS : Eff → Prop) hKS => ?_ | refine fun (D : List Keys → Prop) hD => ?_ | refine fun (hg : (_ : Prop)) => ?_ | fail)); all_goals (first | (refine Wr.mk ?_; (try clear gx); repeat (first | (clear hK hE hT; clear K) | (clear hR hE hT; clear K))) | assumption | skip))
  · (refine post_a hres (.inl rfl) ?_; simp only [RSB, ENB, seval, tiAll, szL_neg b n (by omega)]; simp only [MAB, seval]; refine ⟨rfl, rfl, ?_, ?_, ?_⟩ <;> (first | rfl | (simp [WKB, Nat.add_comm, szL_neg b n (by omega)]; done) | (simp only [WKB, seval])))
  · (refine post_a hres (.inl rfl) ?_; simp only [RSB, ENB, seval, tiAll, szL_pos b n (by omega)]; simp only [MAB, seval]; refine ⟨rfl, rfl, ?_, ?_, ?_⟩ <;> (first | rfl | (simp [WKB, Nat.add_comm, szL_pos b n (by omega)]; done) | (simp only [WKB, seval])))

end Go.Proofs.Ytfkpmhnfpljakaa