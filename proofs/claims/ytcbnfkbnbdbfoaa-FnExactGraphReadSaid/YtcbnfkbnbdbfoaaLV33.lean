/-
  The law FnExactGraphRead returns true. No conditions of its own.
-/
import Derived.Test.YtcbnfkbnbdbfoaaGO
import Derived.Test.YtcbnfkbnbdbfoaaGR7
import Derived.Test.YtcbnfkbnbdbfoaaMH
import Derived.Test.YtcbnfkbnbdbfoaaSh
namespace Go.Proofs.Ytcbnfkbnbdbfoaa
set_option linter.unusedSimpArgs false
set_option linter.unusedVariables false
set_option linter.unusedSimpArgs false
set_option linter.unusedVariables false
set_option linter.defProp false
set_option maxRecDepth 20000
open Go.RowKit

theorem shSum_leG : ∀ l : List ShardD, shSum l ≤ 8 * (l.length + edSum l)
  | [] => by simp [shSum]
  | s :: l => by
    have := shSum_leG l
    simp only [shSum, edSum, List.length_cons]; omega
theorem grR_len (b : List UInt8) : (((grR b).Ends).length ≤ 1048576 ∧ ((grR b).Shards).length ≤ 1048576 ∧ (∀ s ∈ (grR b).Shards, s.Edges.length ≤ 1048576)) ∧ edSum (grR b).Shards ≤ 400 ∧ (grR b).Ends.length ≤ 150 ∧ (grR b).Shards.length ≤ 150 := by
  by_cases h : grP b
  · rw [(gr_yes h).2]
    have g := gf_ok h.2.2
    have gl := g.l
    have ge := g.e
    have gc := g.c
    exact ⟨⟨by omega, by omega, fun s hs => by have := edSum_get hs; omega⟩, gc, by omega, by omega⟩
  · rw [(gr_no h).2]
    exact ⟨⟨by simp, by simp, fun s hs => by cases hs⟩, by simp [edSum], by simp, by simp⟩

set_option maxHeartbeats 16000000 in
theorem FnExactGraphRead_k (b : List UInt8) (rb : b.length ≤ maxLen ∧ ∀ y ∈ b, (fun _ => True) y) : FnOK Try.prog 7 ⟨1, [(0, some (.ro (b.map bytK)))], [.c (.sl 0 1 0 b.length)], .c (.v (.bool true)), [], 1⟩ := by
  have q := rb.1
  simp only [maxLen] at q
  rcases Nat.lt_or_ge 1048576 b.length with h | h
  · have h0 := h
    refine fnOK_of true mixed Try.func7 rfl (by rfl) (by rfl) ?_
    have hres := congrArg Array.toList Try.results7
    simp only [Try.ntmps7, BGB, seval]
    (have gx := And.intro (@List.length_map.{0,0}) (And.intro @List.getElem_map.{0,0} @bytK.eq_1); refine go ?_; (repeat' (first | exact Ef.mk | refine Lf.mk ?_ ?_ | refine fun (K : KT) hK hE hT => ?_ | refine fun (KS : Eff → Prop) hKS => ?_ | refine fun (D : List Keys → Prop) hD => ?_ | refine fun (hg : (_ : Prop)) => ?_ | fail)); all_goals (first | (refine Wr.mk ?_; (try clear gx); repeat (first | (clear hK hE hT; clear K) | (clear hR hE hT; clear K))) | assumption | skip))
    (refine post_a hres (.inl rfl) ?_; simp only [RSB, ENB, seval, tiAll, true_and]; simp only [MAB, seval]; refine ⟨rfl, rfl, ?_, ?_, ?_⟩ <;> (first | rfl | (simp [WKB, Nat.add_comm, true_and]; done) | (simp only [WKB, seval])))
  · have ci := implGraphRead_k b h
    have cs := specGraphRead_k b h
    obtain ⟨lr, lr1, lr2, lr3⟩ := grR_len b
    obtain ⟨r, hr⟩ : ∃ r, r = grR b := ⟨_, rfl⟩
    obtain ⟨k, hk⟩ : ∃ k, k = grB b := ⟨_, rfl⟩
    rw [← hr, ← hk] at ci cs
    rw [← hr] at lr lr1 lr2 lr3
    clear hr hk
    have br := shSum_leG r.Shards
    have ec := eqFarm_k r r lr lr
    rw [decide_eq_true rfl] at ec
    have eb := eqByteS_k b b (by omega) (by omega)
    rw [decide_eq_true rfl] at eb
    refine fnOK_of true mixed Try.func7 rfl (by rfl) (by rfl) ?_
    have hres := congrArg Array.toList Try.results7
    simp only [Try.ntmps7, BGB, seval]
    (have gx := And.intro (@List.length_map.{0,0}) (And.intro (@List.getElem_map.{0,0}) (And.intro (@bytK.eq_1) (And.intro (@range_len) (And.intro @List.length_map.{0,0} @bne_self_eq_false.{0})))); have q1 := toByteS_k b h; have q2 := ci; have q3 := cs; have q4 := ec; have q5 := eb; have q6 := markByteS_k b 1; have q7 := markFarm_k r 1; have q8 := heldFarm_k r 1; refine go ?_; (repeat' (first | exact Ef.mk | refine Lf.mk ?_ ?_ | refine fun (K : KT) hK hE hT => ?_ | refine fun (KS : Eff → Prop) hKS => ?_ | refine fun (D : List Keys → Prop) hD => ?_ | refine fun (hg : (_ : Prop)) => ?_ | fail)); all_goals (first | (refine Wr.mk ?_; (try clear gx); (try clear q1 q2 q3 q4 q5 q6 q7 q8); repeat (first | (clear hK hE hT; clear K) | (clear hR hE hT; clear K))) | assumption | skip))
    all_goals (refine post_a hres (.inl rfl) ?_; simp only [RSB, ENB, seval, tiAll, true_and]; simp only [MAB, seval]; refine ⟨rfl, rfl, ?_, ?_, ?_⟩ <;> (first | rfl | (simp [WKB, Nat.add_comm, true_and]; done) | (simp only [WKB, seval])))

end Go.Proofs.Ytcbnfkbnbdbfoaa
