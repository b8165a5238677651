/-
  The law FnExactFarmOf returns true. No conditions of its own.
-/
import Derived.Test.YtfnhchcgieeedaaGO
import Derived.Test.YtfnhchcgieeedaaST13
import Derived.Test.YtfnhchcgieeedaaSh3
import Derived.Test.YtfnhchcgieeedaaSh5
namespace Go.Proofs.Ytfnhchcgieeedaa
set_option linter.unusedSimpArgs false
set_option linter.unusedVariables false
set_option linter.unusedSimpArgs false
set_option linter.unusedVariables false
set_option linter.defProp false
set_option maxRecDepth 20000
open Go.RowKit

theorem farmR_len (x : GraphD) (b z : Int) : (((farmR x b z).Ends).length ≤ 1048576 ∧ ((farmR x b z).Shards).length ≤ 1048576 ∧ (∀ s ∈ (farmR x b z).Shards, s.Edges.length ≤ 1048576)) ∧ edSum (farmR x b z).Shards ≤ 400 ∧ (farmR x b z).Ends.length ≤ 150 ∧ (farmR x b z).Shards.length ≤ 150 := by
  cases h : fmOk x b z with
  | false =>
    rw [farm_no h]
    exact ⟨⟨by simp, by simp, fun s hs => by cases hs⟩, by simp [edSum], by simp, by simp⟩
  | true =>
    obtain ⟨e, hc, _⟩ := farm_yes h
    obtain ⟨hg, _⟩ := cutOk_out hc
    obtain ⟨g1, g2, g3, g4⟩ := graphOk_in hg
    have h2 := (farmR_ok h).2
    have h3 := cut_len x b
    rw [e] at h2 ⊢
    have h4 : (farmO x b z.toNat).Ends.length ≤ 150 := h3
    have h5 : (farmO x b z.toNat).Shards.length ≤ 150 := by
      show (shL x (cutL x b) _).length ≤ 150
      rw [shL_len]; exact h3
    refine ⟨⟨by omega, by omega, fun t ht => ?_⟩, by omega, h4, h5⟩
    have := edSum_get ht
    omega
theorem shSum_leO : ∀ l : List ShardD, shSum l ≤ 8 * (l.length + edSum l)
  | [] => by simp [shSum]
  | s :: l => by
    have := shSum_leO l
    simp only [shSum, edSum, List.length_cons]; omega

set_option maxHeartbeats 16000000 in
theorem FnExactFarmOf_k (g : GraphD) (b z : Int) (rg : g.rng) (_rb : I64 b) (rs : I64 z) : FnOK Try.prog 3 ⟨1, [(0, some (.ro ((g.Edges).map EdgeD.k)))], [.agg [.v (.int .i64 g.N), .sl 0 3 0 (g.Edges).length], .c (.v (.int .i64 b)), .c (.v (.int .i64 z))], .c (.v (.bool true)), [], 1⟩ := by
  have q0 := rg.2.1
  simp only [maxLen] at q0
  have hs : z ≤ 9223372036854775807 := rs.2
  have cg := szGraph_k g 1048576 (by omega) (by omega)
  rcases Nat.lt_or_ge 1048576 ((g.Edges).length) with c0 | c0
  · have ez0 : szL 1048576 ((g.Edges).length) = -1 := szL_neg _ _ c0
    refine fnOK_of true mixed Try.func3 rfl (by rfl) (by rfl) ?_
    have hres := congrArg Array.toList Try.results3
    simp only [Try.ntmps3, BGB, seval]
    (have gx := @ez0; have q1 := cg; refine go ?_; (repeat' first | exact Ef.mk | apply Lf.mk | refine fun (K : KT) hK hE hT => ?_ | refine fun (KS : KE) hKS => ?_ | refine fun (D : KD) hD => ?_ | refine fun (hg : (_ : Prop)) => ?_ | fail); all_goals (first | (refine Wr.mk ?_; (try clear gx q1); repeat first | clear hK hE hT K | clear hR hE hT K) | assumption | skip))
    (refine post_a hres (.inl rfl) ?_; simp only [RSB, ENB, seval, tiAll, true_and]; simp only [MAB, seval]; refine ⟨rfl, rfl, ?_, ?_, ?_⟩ <;> (first | rfl | (simp [WKB, Nat.add_comm, true_and]; done) | (simp only [WKB, seval])))
  · have ez0 : szL 1048576 ((g.Edges).length) = ((1048576 - (g.Edges).length : Nat) : Int) := szL_sub _ _ c0
    have bg : (g.Edges).length ≤ 1048576 := by omega
    have cs := specFarmOf_k g b z (by omega) hs
    have ci := implFarmOf_k g b z (by omega) hs
    obtain ⟨lr, lr1, lr2, lr3⟩ := farmR_len g b z
    obtain ⟨r, hr⟩ : ∃ r, r = farmR g b z := ⟨_, rfl⟩
    obtain ⟨v, hv⟩ : ∃ v, v = fmOk g b z := ⟨_, rfl⟩
    rw [← hr] at cs ci lr lr1 lr2 lr3
    rw [← hv] at cs ci
    clear hr hv
    have br := shSum_leO r.Shards
    have ee := eqFarm_k r r lr lr
    rw [decide_eq_true rfl] at ee
    have ev := eqGraph_k g g bg bg
    rw [decide_eq_true rfl] at ev
    refine fnOK_of true mixed Try.func3 rfl (by rfl) (by rfl) ?_
    have hres := congrArg Array.toList Try.results3
    simp only [Try.ntmps3, BGB, seval]
    (have gx := And.intro (@ez0) (And.intro (@range_len) (And.intro @List.length_map.{0,0} @bne_self_eq_false.{0})); have q1 := cg; have q2 := toGraph_k g bg; have q3 := cs; have q4 := ci; have q5 := ee; have q6 := ev; have q7 := markGraph_k g 1; have q8 := markFarm_k r 1; have q9 := heldFarm_k r 1; refine go ?_; (repeat' first | exact Ef.mk | apply Lf.mk | refine fun (K : KT) hK hE hT => ?_ | refine fun (KS : KE) hKS => ?_ | refine fun (D : KD) hD => ?_ | refine fun (hg : (_ : Prop)) => ?_ | fail); all_goals (first | (refine Wr.mk ?_; (try clear gx q1 q2 q3 q4 q5 q6 q7 q8 q9); repeat first | clear hK hE hT K | clear hR hE hT K) | assumption | skip))
    all_goals (refine post_a hres (.inl rfl) ?_; simp only [RSB, ENB, seval, tiAll, true_and]; simp only [MAB, seval]; refine ⟨rfl, rfl, ?_, ?_, ?_⟩ <;> (first | rfl | (simp [WKB, Nat.add_comm, true_and]; done) | (simp only [WKB, seval])))

end Go.Proofs.Ytfnhchcgieeedaa
