/-
  Windows by the reference. No conditions of its own.
-/
import Derived.Test.YtcbnfkbnbdbfoaaGreatGO
import Derived.Test.YtcbnfkbnbdbfoaaGreatMNC
import Derived.Test.YtcbnfkbnbdbfoaaGreatMLD
namespace Go.Proofs.YtcbnfkbnbdbfoaaGreat
set_option linter.unusedSimpArgs false
set_option linter.unusedVariables false
set_option linter.unusedSimpArgs false
set_option linter.unusedVariables false
set_option linter.defProp false
set_option maxRecDepth 20000
open Go.RowKit
attribute [local irreducible] lexD

set_option maxHeartbeats 8000000 in
theorem specWindow_k (s : ShardD) (h : (s.Edges).length ≤ 1048576) (hok : ShOk s) (lo hi : Int) (hlh : lo ≤ hi) : FnOK Tryz.prog 136 ⟨1, [(0, some (.ro ((s.Edges).map SEdgeD.k)))], [.agg [.v (.int .i64 s.Lo), .v (.int .i64 s.Hi), .sl 0 5 0 (s.Edges).length], .c (.v (.int .i64 lo)), .c (.v (.int .i64 hi))], .tup [.inl (.v (.int .i64 (ltN s.Edges lo s.Edges.length : Int))), .inl (.v (.int .i64 (ltN s.Edges hi s.Edges.length : Int)))], [], 1⟩ := by
  have co := specShardOk_k s h
  rw [pB_t hok] at co
  refine fnOK_of true mixed Tryz.func136 rfl (by rfl) (by rfl) ?_
  have hres := congrArg Array.toList Tryz.results136
  simp only [Tryz.ntmps136, BGB, seval]
  (have gx := @List.length_map.{0,0}; have q1 := co; refine go ?_; (repeat' (first | exact Ef.mk | refine Lf.mk ?_ ?_ | refine fun (K : KT) hK hE hT => ?_ | refine fun (KS : Eff → Prop) hKS => ?_ | refine fun (D : List Keys → Prop) hD => ?_ | refine fun (hg : (_ : Prop)) => ?_ | fail)); all_goals (first | (refine Wr.mk ?_; (try clear gx); (try clear q1); repeat (first | (clear hK hE hT; clear K) | (clear hR hE hT; clear K))) | assumption | skip))
  refine loop_v (X := {k : Nat // k ≤ s.Edges.length}) [] (fun x => [(8, .c (.v (.int .i64 (ltN s.Edges lo x.1 : Int)))), (9, .c (.v (.int .i64 (ltN s.Edges hi x.1 : Int)))), (23, .c (.v (.int .i64 ((x.1 : Nat) : Int))))]) (fun x => [(0, some (.ro ((s.Edges).map SEdgeD.k))), (1, some (.box 179 [.v (.int .i64 s.Lo), .v (.int .i64 s.Hi), .sl 0 5 0 (s.Edges).length]))]) 2 (fun x => s.Edges.length - x.1) ⟨0, by omega⟩ ?_
  simp only [KPB, seval]
  refine ⟨?_, ?_⟩
  · (refine wk_a ?_; simp only [MAB, seval]; refine ⟨rfl, rfl, (by decide), ?_, ?_⟩; all_goals (first | (simp only [WKB, seval, ltN_zero, Nat.reduceLT, Nat.zero_lt_succ]; done) | (simp [WKB, seval, ltN_zero]; done) | simp only [WKB, seval]))
  · rintro ⟨k, hk⟩ K hR hE hT
    have l1 := ltN_le s.Edges lo k
    have l2 := ltN_le s.Edges hi k
    rcases Nat.lt_or_ge k s.Edges.length with hlt | hge
    case inr =>
      obtain rfl : k = s.Edges.length := by omega
      (have gx := @List.length_map.{0,0}; refine go ?_; (repeat' (first | exact Ef.mk | refine Lf.mk ?_ ?_ | refine fun (K : KT) hK hE hT => ?_ | refine fun (KS : Eff → Prop) hKS => ?_ | refine fun (D : List Keys → Prop) hD => ?_ | refine fun (hg : (_ : Prop)) => ?_ | fail)); all_goals (first | (refine Wr.mk ?_; (try clear gx); repeat (first | (clear hK hE hT; clear K) | (clear hR hE hT; clear K))) | assumption | skip))
      (refine post_a hres (.inl rfl) ?_; simp only [RSB, ENB, seval, tiAll, true_and]; simp only [MAB, seval]; refine ⟨rfl, rfl, ?_, ?_, ?_⟩ <;> (first | rfl | (simp [WKB, Nat.add_comm, true_and]; done) | (simp only [WKB, seval])))
    case inl =>
      obtain ⟨y, hy⟩ : ∃ y, y = s.Edges[k] := ⟨_, rfl⟩
      by_cases h1 : y.From < lo
      · have e1 := ltN_t hlt (x := lo) (by rw [← hy]; exact h1)
        by_cases h2 : y.From < hi
        · have e2 := ltN_t hlt (x := hi) (by rw [← hy]; exact h2)
          (have gx := And.intro (@List.length_map.{0,0}) (And.intro (@List.getElem_map.{0,0}) (And.intro (hy).symm @SEdgeD.k.eq_1)); refine go ?_; (repeat' (first | exact Ef.mk | refine Lf.mk ?_ ?_ | refine fun (K : KT) hK hE hT => ?_ | refine fun (KS : Eff → Prop) hKS => ?_ | refine fun (D : List Keys → Prop) hD => ?_ | refine fun (hg : (_ : Prop)) => ?_ | fail)); all_goals (first | (refine Wr.mk ?_; (try clear gx); repeat (first | (clear hK hE hT; clear K) | (clear hR hE hT; clear K))) | assumption | skip))
          (refine hR.out ⟨k + 1, by omega⟩ _ _ _ (by simp only; omega) ?_; (refine wk_a ?_; simp only [MAB, seval]; refine ⟨rfl, rfl, (by decide), ?_, ?_⟩; all_goals (first | (simp only [WKB, seval, e1, e2, Nat.reduceLT, Nat.zero_lt_succ]; done) | (simp [WKB, seval, e1, e2]; done) | simp only [WKB, seval])))
        · exfalso; omega
      · have e1 := ltN_f hlt (x := lo) (by rw [← hy]; exact h1)
        by_cases h2 : y.From < hi
        · have e2 := ltN_t hlt (x := hi) (by rw [← hy]; exact h2)
          (have gx := And.intro (@List.length_map.{0,0}) (And.intro (@List.getElem_map.{0,0}) (And.intro (hy).symm @SEdgeD.k.eq_1)); refine go ?_; (repeat' (first | exact Ef.mk | refine Lf.mk ?_ ?_ | refine fun (K : KT) hK hE hT => ?_ | refine fun (KS : Eff → Prop) hKS => ?_ | refine fun (D : List Keys → Prop) hD => ?_ | refine fun (hg : (_ : Prop)) => ?_ | fail)); all_goals (first | (refine Wr.mk ?_; (try clear gx); repeat (first | (clear hK hE hT; clear K) | (clear hR hE hT; clear K))) | assumption | skip))
          (refine hR.out ⟨k + 1, by omega⟩ _ _ _ (by simp only; omega) ?_; (refine wk_a ?_; simp only [MAB, seval]; refine ⟨rfl, rfl, (by decide), ?_, ?_⟩; all_goals (first | (simp only [WKB, seval, e1, e2, Nat.reduceLT, Nat.zero_lt_succ]; done) | (simp [WKB, seval, e1, e2]; done) | simp only [WKB, seval])))
        · have e2 := ltN_f hlt (x := hi) (by rw [← hy]; exact h2)
          (have gx := And.intro (@List.length_map.{0,0}) (And.intro (@List.getElem_map.{0,0}) (And.intro (hy).symm @SEdgeD.k.eq_1)); refine go ?_; (repeat' (first | exact Ef.mk | refine Lf.mk ?_ ?_ | refine fun (K : KT) hK hE hT => ?_ | refine fun (KS : Eff → Prop) hKS => ?_ | refine fun (D : List Keys → Prop) hD => ?_ | refine fun (hg : (_ : Prop)) => ?_ | fail)); all_goals (first | (refine Wr.mk ?_; (try clear gx); repeat (first | (clear hK hE hT; clear K) | (clear hR hE hT; clear K))) | assumption | skip))
          (refine hR.out ⟨k + 1, by omega⟩ _ _ _ (by simp only; omega) ?_; (refine wk_a ?_; simp only [MAB, seval]; refine ⟨rfl, rfl, (by decide), ?_, ?_⟩; all_goals (first | (simp only [WKB, seval, e1, e2, Nat.reduceLT, Nat.zero_lt_succ]; done) | (simp [WKB, seval, e1, e2]; done) | simp only [WKB, seval])))

end Go.Proofs.YtcbnfkbnbdbfoaaGreat
