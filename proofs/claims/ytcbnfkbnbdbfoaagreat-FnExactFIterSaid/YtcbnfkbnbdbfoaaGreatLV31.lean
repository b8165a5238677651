/-
  The law FnExactFIter returns true. No conditions of its own.
-/
import Derived.Test.YtcbnfkbnbdbfoaaGreatGO
import Derived.Test.YtcbnfkbnbdbfoaaGreatFI3
import Derived.Test.YtcbnfkbnbdbfoaaGreatFI4
import Derived.Test.YtcbnfkbnbdbfoaaGreatSh6
namespace Go.Proofs.YtcbnfkbnbdbfoaaGreat
set_option linter.unusedSimpArgs false
set_option linter.unusedVariables false
set_option linter.unusedSimpArgs false
set_option linter.unusedVariables false
set_option linter.defProp false
set_option maxRecDepth 20000
open Go.RowKit

theorem shSum_leF : ∀ l : List ShardD, shSum l ≤ 8 * (l.length + edSum l)
  | [] => by simp [shSum]
  | s :: l => by
    have := shSum_leF l
    simp only [shSum, edSum, List.length_cons]; omega

theorem eqStats_k (a b c : Int) : FnOK Tryz.prog 27 ⟨0, [], [.agg [.v (.int .i64 a), .v (.int .i64 b), .v (.int .i64 c)], .agg [.v (.int .i64 a), .v (.int .i64 b), .v (.int .i64 c)]], .c (.v (.bool true)), [], 0⟩ := by
  refine fnOK_of true mixed Tryz.func27 rfl (by rfl) (by rfl) ?_
  have hres := congrArg Array.toList Tryz.results27
  simp only [Tryz.ntmps27, BGB, seval]
  (have gx := true_and True; refine go ?_; (repeat' (first | exact Ef.mk | refine Lf.mk ?_ ?_ | refine fun (K : KT) hK hE hT => ?_ | refine fun (KS : Eff → Prop) hKS => ?_ | refine fun (D : List Keys → Prop) hD => ?_ | refine fun (hg : (_ : Prop)) => ?_ | fail)); all_goals (first | (refine Wr.mk ?_; (try clear gx); repeat (first | (clear hK hE hT; clear K) | (clear hR hE hT; clear K))) | assumption | skip))
  all_goals (refine post_a hres (.inl rfl) ?_; simp only [RSB, ENB, seval, tiAll, true_and]; simp only [MAB, seval]; refine ⟨rfl, rfl, ?_, ?_, ?_⟩ <;> (first | rfl | (simp [WKB, Nat.add_comm, true_and]; done) | (simp only [WKB, seval])))

set_option maxHeartbeats 16000000 in
theorem FnExactFIter_k (x : FRunD) (rx : x.rng) : FnOK Tryz.prog 4 ⟨4, [(0, some (.ro ((x.Vals).map intK))), (1, some (.ro ((x.Next.Bits).map bytK))), (2, some (.ro ((x.Farm.Ends).map intK))), (3, some (.ro ((x.Farm.Shards).map (ShardD.k 167))))], [.agg [.v (.int .i64 x.Job.Prog), .v (.int .i64 x.Job.Src), .v (.int .i64 x.Iter), .v (.bool x.Done), .sl 0 1 0 (x.Vals).length, .v (.int .i64 x.Next.N), .sl 1 1 0 (x.Next.Bits).length, .v (.int .i64 x.Farm.N), .sl 2 1 0 (x.Farm.Ends).length, .sl 3 3 0 (x.Farm.Shards).length]], .c (.v (.bool true)), [], 4⟩ := by
  have r0 := rx.2.2.2.1.1
  have r1 := rx.2.2.2.2.1.2.1
  have r2 := rx.2.2.2.2.2.2.1.1
  have r3 := rx.2.2.2.2.2.2.2.1
  have r4 : ∀ s ∈ x.Farm.Shards, s.Edges.length ≤ 9223372036854775807 := fun s hs => (rx.2.2.2.2.2.2.2.2 s hs).2.2.1
  simp only [maxLen] at r0 r1 r2 r3
  have cz := szFRun_k x 1048576 ⟨by omega, by omega, by omega, by omega, r4⟩ (by omega)
  rcases Nat.lt_or_ge 1048576 ((x.Vals).length + (x.Next.Bits).length + (x.Farm.Ends).length + ((x.Farm.Shards).length + edSum x.Farm.Shards)) with c1 | c1
  · have s1 : szL 1048576 ((x.Vals).length + (x.Next.Bits).length + (x.Farm.Ends).length + ((x.Farm.Shards).length + edSum x.Farm.Shards)) = -1 := szL_neg _ _ c1
    refine fnOK_of true mixed Tryz.func4 rfl (by rfl) (by rfl) ?_
    have hres := congrArg Array.toList Tryz.results4
    simp only [Tryz.ntmps4, BGB, seval]
    (have gx := And.intro @s1 @List.length_map.{0,0}; have q1 := cz; refine go ?_; (repeat' (first | exact Ef.mk | refine Lf.mk ?_ ?_ | refine fun (K : KT) hK hE hT => ?_ | refine fun (KS : Eff → Prop) hKS => ?_ | refine fun (D : List Keys → Prop) hD => ?_ | refine fun (hg : (_ : Prop)) => ?_ | fail)); all_goals (first | (refine Wr.mk ?_; (try clear gx); (try clear q1); repeat (first | (clear hK hE hT; clear K) | (clear hR hE hT; clear K))) | assumption | skip))
    (refine post_a hres (.inl rfl) ?_; simp only [RSB, ENB, seval, tiAll, true_and]; simp only [MAB, seval]; refine ⟨rfl, rfl, ?_, ?_, ?_⟩ <;> (first | rfl | (simp [WKB, Nat.add_comm, true_and]; done) | (simp only [WKB, seval])))
  have s1 : szL 1048576 ((x.Vals).length + (x.Next.Bits).length + (x.Farm.Ends).length + ((x.Farm.Shards).length + edSum x.Farm.Shards)) = ((1048576 - ((x.Vals).length + (x.Next.Bits).length + (x.Farm.Ends).length + ((x.Farm.Shards).length + edSum x.Farm.Shards)) : Nat) : Int) := szL_sub _ _ c1
  have bl : (x.Vals).length ≤ 1048576 ∧ (x.Next.Bits).length ≤ 1048576 ∧ (x.Farm.Ends).length ≤ 1048576 ∧ (x.Farm.Shards).length ≤ 1048576 ∧ (∀ s ∈ x.Farm.Shards, s.Edges.length ≤ 1048576) := ⟨by omega, by omega, by omega, by omega, fun s hs => by have := sm_edges hs; omega⟩
  have bs := shSum_leF x.Farm.Shards
  have ev := eqFRun_k x x bl bl
  rw [decide_eq_true rfl] at ev
  have ct := toFRun_k x bl
  have cs := specFIter_k x bl
  have ci := implFIter_k x bl
  have sm := fiR_sm x
  obtain ⟨r, hr⟩ : ∃ r, r = fiR x := ⟨_, rfl⟩
  obtain ⟨⟨t1, t2, t3⟩, ht⟩ : ∃ t, t = fiS x := ⟨_, rfl⟩
  obtain ⟨b, hb⟩ : ∃ b, b = pB (fiOk x) := ⟨_, rfl⟩
  rw [← hr, ← ht, ← hb] at cs ci
  rw [← hr] at sm
  dsimp only at cs ci
  clear hr ht hb
  have lr := sm_L sm
  obtain ⟨z0, z1, z2, z3, z4⟩ := sm
  have br := shSum_leF r.Farm.Shards
  have ee := eqFRun_k r r lr lr
  rw [decide_eq_true rfl] at ee
  have es := eqStats_k t1 t2 t3
  have m1 := markFRun_k x 1 (by omega)
  have m2 := markFRun_k r 1 (by omega)
  have h1 := heldFRun_k r 1 (by omega)
  refine fnOK_of true mixed Tryz.func4 rfl (by rfl) (by rfl) ?_
  have hres := congrArg Array.toList Tryz.results4
  simp only [Tryz.ntmps4, BGB, seval]
  (have gx := And.intro (@s1) (And.intro (@range_len) (And.intro @List.length_map.{0,0} @bne_self_eq_false.{0})); have q1 := cz; have q2 := ct; have q3 := cs; have q4 := ci; have q5 := ee; have q6 := ev; have q7 := es; have q8 := m1; have q9 := m2; have q10 := h1; refine go ?_; (repeat' (first | exact Ef.mk | refine Lf.mk ?_ ?_ | refine fun (K : KT) hK hE hT => ?_ | refine fun (KS : Eff → Prop) hKS => ?_ | refine fun (D : List Keys → Prop) hD => ?_ | refine fun (hg : (_ : Prop)) => ?_ | fail)); all_goals (first | (refine Wr.mk ?_; (try clear gx); (try clear q1 q2 q3 q4 q5 q6 q7 q8 q9 q10); repeat (first | (clear hK hE hT; clear K) | (clear hR hE hT; clear K))) | assumption | skip))
  all_goals (refine post_a hres (.inl rfl) ?_; simp only [RSB, ENB, seval, tiAll, true_and]; simp only [MAB, seval]; refine ⟨rfl, rfl, ?_, ?_, ?_⟩ <;> (first | rfl | (simp [WKB, Nat.add_comm, true_and]; done) | (simp only [WKB, seval])))

end Go.Proofs.YtcbnfkbnbdbfoaaGreat
