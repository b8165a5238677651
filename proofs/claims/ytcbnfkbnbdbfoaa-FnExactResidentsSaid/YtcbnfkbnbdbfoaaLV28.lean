/-
  The law FnExactResidents returns true. No conditions of its own.
-/
import Derived.Test.YtcbnfkbnbdbfoaaGO
import Derived.Test.YtcbnfkbnbdbfoaaRS1
import Derived.Test.YtcbnfkbnbdbfoaaSh5
namespace Go.Proofs.Ytcbnfkbnbdbfoaa
set_option linter.unusedSimpArgs false
set_option linter.unusedVariables false
set_option linter.unusedSimpArgs false
set_option linter.unusedVariables false
set_option linter.defProp false
set_option maxRecDepth 20000
open Go.RowKit

theorem shSum_leR : ∀ l : List ShardD, shSum l ≤ 8 * (l.length + edSum l)
  | [] => by simp [shSum]
  | s :: l => by
    have := shSum_leR l
    simp only [shSum, edSum, List.length_cons]; omega
theorem edSum_getR : ∀ {l : List ShardD} {s : ShardD}, s ∈ l → s.Edges.length ≤ edSum l
  | t :: l, s, h => by
    rcases List.mem_cons.1 h with rfl | h
    · simp [edSum]
    · have := edSum_getR h
      simp only [edSum]; omega

set_option maxHeartbeats 16000000 in
theorem FnExactResidents_k (x : FarmD) (rx : x.rng) : FnOK Try.prog 4 ⟨2, [(0, some (.ro ((x.Ends).map intK))), (1, some (.ro ((x.Shards).map (ShardD.k 185))))], [.agg [.v (.int .i64 x.N), .sl 0 1 0 (x.Ends).length, .sl 1 3 0 (x.Shards).length]], .c (.v (.bool true)), [], 2⟩ := by
  have r0 := rx.2.1.1
  have r1 := rx.2.2.1
  have r2 : ∀ s ∈ x.Shards, s.Edges.length ≤ 9223372036854775807 := fun s hs => (rx.2.2.2 s hs).2.2.1
  simp only [maxLen] at r0 r1
  have cz := szFarm_k x 1048576 ⟨by omega, by omega, r2⟩ (by omega)
  rcases Nat.lt_or_ge 1048576 ((x.Ends).length + ((x.Shards).length + edSum x.Shards)) with c1 | c1
  · have s1 : szL 1048576 ((x.Ends).length + ((x.Shards).length + edSum x.Shards)) = -1 := szL_neg _ _ c1
    refine fnOK_of true mixed Try.func4 rfl (by rfl) (by rfl) ?_
    have hres := congrArg Array.toList Try.results4
    simp only [Try.ntmps4, BGB, seval]
    (have gx := @s1; have q1 := cz; refine go ?_; (repeat' (first | exact Ef.mk | refine Lf.mk ?_ ?_ | refine fun (K : KT) hK hE hT => ?_ | refine fun (KS : Eff → Prop) hKS => ?_ | refine fun (D : List Keys → Prop) hD => ?_ | refine fun (hg : (_ : Prop)) => ?_ | fail)); all_goals (first | (refine Wr.mk ?_; (try clear gx); (try clear q1); repeat (first | (clear hK hE hT; clear K) | (clear hR hE hT; clear K))) | assumption | skip))
    (refine post_a hres (.inl rfl) ?_; simp only [RSB, ENB, seval, tiAll, true_and]; simp only [MAB, seval]; refine ⟨rfl, rfl, ?_, ?_, ?_⟩ <;> (first | rfl | (simp [WKB, Nat.add_comm, true_and]; done) | (simp only [WKB, seval])))
  · have s1 : szL 1048576 ((x.Ends).length + ((x.Shards).length + edSum x.Shards)) = ((1048576 - ((x.Ends).length + ((x.Shards).length + edSum x.Shards)) : Nat) : Int) := szL_sub _ _ c1
    have bl : (x.Ends).length ≤ 1048576 ∧ (x.Shards).length ≤ 1048576 ∧ (∀ s ∈ x.Shards, s.Edges.length ≤ 1048576) := ⟨by omega, by omega, fun s hs => by have := edSum_getR hs; omega⟩
    have bs := shSum_leR x.Shards
    have cs := specResidents_k x bl
    have ci := implResidents_k x bl
    have z0 := resR_len x
    obtain ⟨r, hr⟩ : ∃ r, r = resR x := ⟨_, rfl⟩
    rw [← hr] at cs ci z0
    clear hr
    have ee := eqIntS_k r r (by omega) (by omega)
    rw [decide_eq_true rfl] at ee
    have ev := eqFarm_k x x bl bl
    rw [decide_eq_true rfl] at ev
    refine fnOK_of true mixed Try.func4 rfl (by rfl) (by rfl) ?_
    have hres := congrArg Array.toList Try.results4
    simp only [Try.ntmps4, BGB, seval]
    (have gx := And.intro (@s1) (And.intro @range_len @bne_self_eq_false.{0}); have q1 := cz; have q2 := toFarm_k x bl; have q3 := cs; have q4 := ci; have q5 := ee; have q6 := ev; have q7 := markFarm_k x 1; have q8 := markIntS_k r 1; have q9 := heldIntS_k r.length 1; refine go ?_; (repeat' (first | exact Ef.mk | refine Lf.mk ?_ ?_ | refine fun (K : KT) hK hE hT => ?_ | refine fun (KS : Eff → Prop) hKS => ?_ | refine fun (D : List Keys → Prop) hD => ?_ | refine fun (hg : (_ : Prop)) => ?_ | fail)); all_goals (first | (refine Wr.mk ?_; (try clear gx); (try clear q1 q2 q3 q4 q5 q6 q7 q8 q9); repeat (first | (clear hK hE hT; clear K) | (clear hR hE hT; clear K))) | assumption | skip))
    all_goals (refine post_a hres (.inl rfl) ?_; simp only [RSB, ENB, seval, tiAll, true_and]; simp only [MAB, seval]; refine ⟨rfl, rfl, ?_, ?_, ?_⟩ <;> (first | rfl | (simp [WKB, Nat.add_comm, true_and]; done) | (simp only [WKB, seval])))

end Go.Proofs.Ytcbnfkbnbdbfoaa
