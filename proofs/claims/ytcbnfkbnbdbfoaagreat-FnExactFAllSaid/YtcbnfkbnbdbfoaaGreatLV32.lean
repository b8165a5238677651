import Derived.Test.YtcbnfkbnbdbfoaaGreatGO
import Derived.Test.YtcbnfkbnbdbfoaaGreatFA1
import Derived.Test.YtcbnfkbnbdbfoaaGreatSh6
namespace Go.Proofs.YtcbnfkbnbdbfoaaGreat
set_option linter.unusedSimpArgs false
set_option linter.unusedVariables false
set_option linter.defProp false
set_option maxRecDepth 20000
open Go.RowKit
theorem shSum_leG : ∀ l : List ShardD, shSum l ≤ 8 * (l.length + edSum l)
  | [] => by simp [shSum]
  | s :: l => by
    have := shSum_leG l
    simp only [shSum, edSum, List.length_cons]; omega
set_option maxHeartbeats 16000000 in
theorem FnExactFAll_k (x : FRunD) (most : Int) (rx : x.rng) (rm : I64 most) : FnOK Tryz.prog 5 ⟨4, [(0, some (.ro ((x.Vals).map intK))), (1, some (.ro ((x.Next.Bits).map bytK))), (2, some (.ro ((x.Farm.Ends).map intK))), (3, some (.ro ((x.Farm.Shards).map (ShardD.k 167))))], [.agg [.v (.int .i64 x.Job.Prog), .v (.int .i64 x.Job.Src), .v (.int .i64 x.Iter), .v (.bool x.Done), .sl 0 1 0 (x.Vals).length, .v (.int .i64 x.Next.N), .sl 1 1 0 (x.Next.Bits).length, .v (.int .i64 x.Farm.N), .sl 2 1 0 (x.Farm.Ends).length, .sl 3 3 0 (x.Farm.Shards).length], .c (.v (.int .i64 most))], .c (.v (.bool true)), [], 4⟩ := by
  have r0 := rx.2.2.2.1.1
  have r1 := rx.2.2.2.2.1.2.1
  have r2 := rx.2.2.2.2.2.2.1.1
  have r3 := rx.2.2.2.2.2.2.2.1
  have r4 : ∀ s ∈ x.Farm.Shards, s.Edges.length ≤ 9223372036854775807 := fun s hs => (rx.2.2.2.2.2.2.2.2 s hs).2.2.1
  simp only [maxLen] at r0 r1 r2 r3
  have cz := szFRun_k x 1048576 ⟨by omega, by omega, by omega, by omega, r4⟩ (by omega)
  rcases Nat.lt_or_ge 1048576 ((x.Vals).length + (x.Next.Bits).length + (x.Farm.Ends).length + ((x.Farm.Shards).length + edSum x.Farm.Shards)) with c1 | c1
  · have s1 : szL 1048576 ((x.Vals).length + (x.Next.Bits).length + (x.Farm.Ends).length + ((x.Farm.Shards).length + edSum x.Farm.Shards)) = -1 := szL_neg _ _ c1
    refine fnOK_of true mixed Tryz.func5 rfl (by rfl) (by rfl) ?_
    have hres := congrArg Array.toList Tryz.results5
    simp only [Tryz.ntmps5, BGB, seval]
    (have gx := And.intro @s1 @List.length_map.{0,0}; have q1 := cz; refine go ?_; (repeat' (first | exact Ef.mk | refine Lf.mk ?_ ?_ | refine fun (K : KT) hK hE hT => ?_ | refine fun (KS : Eff → Prop) hKS => ?_ | refine fun (D : List Keys → Prop) hD => ?_ | refine fun (hg : (_ : Prop)) => ?_ | fail)); all_goals (first | (refine Wr.mk ?_; (try clear gx); (try clear q1); repeat (first | (clear hK hE hT; clear K) | (clear hR hE hT; clear K))) | assumption | skip))
    (refine post_a hres (.inl rfl) ?_; simp only [RSB, ENB, seval, tiAll, true_and]; simp only [MAB, seval]; refine ⟨rfl, rfl, ?_, ?_, ?_⟩ <;> (first | rfl | (simp [WKB, Nat.add_comm, true_and]; done) | (simp only [WKB, seval])))
  have s1 : szL 1048576 ((x.Vals).length + (x.Next.Bits).length + (x.Farm.Ends).length + ((x.Farm.Shards).length + edSum x.Farm.Shards)) = ((1048576 - ((x.Vals).length + (x.Next.Bits).length + (x.Farm.Ends).length + ((x.Farm.Shards).length + edSum x.Farm.Shards)) : Nat) : Int) := szL_sub _ _ c1
  have bl : (x.Vals).length ≤ 1048576 ∧ (x.Next.Bits).length ≤ 1048576 ∧ (x.Farm.Ends).length ≤ 1048576 ∧ (x.Farm.Shards).length ≤ 1048576 ∧ (∀ s ∈ x.Farm.Shards, s.Edges.length ≤ 1048576) := ⟨by omega, by omega, by omega, by omega, fun s hs => by have := sm_edges hs; omega⟩
  have bs := shSum_leG x.Farm.Shards
  have ev := eqFRun_k x x bl bl
  rw [decide_eq_true rfl] at ev
  have ct := toFRun_k x bl
  have hm : most ≤ 9223372036854775807 := by unfold I64 at rm; omega
  have cs := specFAll_k x most bl hm
  have ci := implFAll_k x most bl hm
  have sm := faR_sm x most
  obtain ⟨r, hr⟩ : ∃ r, r = faR x most := ⟨_, rfl⟩
  rw [← hr] at cs ci sm
  clear hr
  have lr := sm_L sm
  obtain ⟨z0, z1, z2, z3, z4⟩ := sm
  have br := shSum_leG r.Farm.Shards
  have ee := eqFRun_k r r lr lr
  rw [decide_eq_true rfl] at ee
  have m1 := markFRun_k x 1 (by omega)
  have m2 := markFRun_k r 1 (by omega)
  have h1 := heldFRun_k r 1 (by omega)
  refine fnOK_of true mixed Tryz.func5 rfl (by rfl) (by rfl) ?_
  have hres := congrArg Array.toList Tryz.results5
  simp only [Tryz.ntmps5, BGB, seval]
  (have gx := And.intro (@s1) (And.intro (@range_len) (And.intro @List.length_map.{0,0} @bne_self_eq_false.{0})); have q1 := cz; have q2 := ct; have q3 := cs; have q4 := ci; have q5 := ee; have q6 := ev; have q7 := m1; have q8 := m2; have q9 := h1; refine go ?_; (repeat' (first | exact Ef.mk | refine Lf.mk ?_ ?_ | refine fun (K : KT) hK hE hT => ?_ | refine fun (KS : Eff → Prop) hKS => ?_ | refine fun (D : List Keys → Prop) hD => ?_ | refine fun (hg : (_ : Prop)) => ?_ | fail)); all_goals (first | (refine Wr.mk ?_; (try clear gx); (try clear q1 q2 q3 q4 q5 q6 q7 q8 q9); repeat (first | (clear hK hE hT; clear K) | (clear hR hE hT; clear K))) | assumption | skip))
  all_goals (refine post_a hres (.inl rfl) ?_; simp only [RSB, ENB, seval, tiAll, true_and]; simp only [MAB, seval]; refine ⟨rfl, rfl, ?_, ?_, ?_⟩ <;> (first | rfl | (simp [WKB, Nat.add_comm, true_and]; done) | (simp only [WKB, seval])))
end Go.Proofs.YtcbnfkbnbdbfoaaGreat
