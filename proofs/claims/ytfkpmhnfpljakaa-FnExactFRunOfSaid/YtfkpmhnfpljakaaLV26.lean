/-
  The law FnExactFRunOf returns true. No conditions of its own.
-/
import Derived.Test.YtfkpmhnfpljakaaGO
import Derived.Test.YtfkpmhnfpljakaaR10
import Derived.Test.YtfkpmhnfpljakaaSh6
namespace Go.Proofs.Ytfkpmhnfpljakaa
set_option linter.unusedSimpArgs false
set_option linter.unusedVariables false
set_option linter.unusedSimpArgs false
set_option linter.unusedVariables false
set_option linter.defProp false
set_option maxRecDepth 20000
open Go.RowKit

theorem shSum_leZ : ∀ l : List ShardD, shSum l ≤ 8 * (l.length + edSum l)
  | [] => by simp [shSum]
  | s :: l => by
    have := shSum_leZ l
    simp only [shSum, edSum, List.length_cons]; omega
theorem foR_len (f : FarmD) (r : RunD) : (foR f r).Vals.length ≤ r.Vals.length ∧ (foR f r).Next.Bits.length ≤ r.Next.Bits.length ∧ (foR f r).Farm.Ends.length ≤ 150 ∧ (foR f r).Farm.Shards.length ≤ 150 ∧ edSum (foR f r).Farm.Shards ≤ 400 := by
  by_cases h : FoOk f r
  · have hw := fo_fw h
    obtain ⟨e, _⟩ := fw_yes hw
    have g := gf_ok hw.1
    have gl := g.l
    have ge := g.e
    have gc := g.c
    rw [fo_yes h]
    dsimp only
    rw [e]
    dsimp only
    rw [edSum_shW, List.length_map]
    exact ⟨Nat.le_refl _, Nat.le_refl _, by omega, by omega, by omega⟩
  · rw [fo_no h]; simp [edSum]

set_option maxHeartbeats 16000000 in
theorem FnExactFRunOf_k (x : FarmD) (y : RunD) (rx : x.rng) (ry : y.rng) : FnOK Try.prog 6 ⟨5, [(0, some (.ro ((x.Ends).map intK))), (1, some (.ro ((x.Shards).map (ShardD.k 159)))), (2, some (.ro ((y.Vals).map intK))), (3, some (.ro ((y.EVals).map intK))), (4, some (.ro ((y.Next.Bits).map bytK)))], [.agg [.v (.int .i64 x.N), .sl 0 1 0 (x.Ends).length, .sl 1 3 0 (x.Shards).length], .agg [.v (.int .i64 y.Job.Prog), .v (.int .i64 y.Job.Src), .v (.int .i64 y.Iter), .v (.bool y.Done), .sl 2 1 0 (y.Vals).length, .sl 3 1 0 (y.EVals).length, .v (.int .i64 y.Next.N), .sl 4 1 0 (y.Next.Bits).length]], .c (.v (.bool true)), [], 5⟩ := by
  have r0 := rx.2.1.1
  have r1 := rx.2.2.1
  have r2 : ∀ s ∈ x.Shards, s.Edges.length ≤ 9223372036854775807 := fun s hs => (rx.2.2.2 s hs).2.2.1
  have q0 := ry.2.2.2.1.1
  have q1 := ry.2.2.2.2.1.1
  have q2 := ry.2.2.2.2.2.2.1
  simp only [maxLen] at r0 r1 q0 q1 q2
  have cz := szFarm_k x 1048576 ⟨by omega, by omega, r2⟩ (by omega)
  rcases Nat.lt_or_ge 1048576 ((x.Ends).length + ((x.Shards).length + edSum x.Shards)) with c1 | c1
  · have s1 : szL 1048576 ((x.Ends).length + ((x.Shards).length + edSum x.Shards)) = -1 := szL_neg _ _ c1
    refine fnOK_of true mixed Try.func6 rfl (by rfl) (by rfl) ?_
    have hres := congrArg Array.toList Try.results6
    simp only [Try.ntmps6, BGB, seval]
    (have gx := And.intro @s1 @List.length_map.{0,0}; have q1 := cz; refine go ?_; (repeat' (first | exact Ef.mk | refine Lf.mk ?_ ?_ | refine fun (K : KT) hK hE hT => ?_ | refine fun (KS : Eff → Prop) hKS => ?_ | refine fun (D : List Keys → Prop) hD => ?_ | refine fun (hg : (_ : Prop)) => ?_ | fail)); all_goals (first | (refine Wr.mk ?_; (try clear gx); (try clear q1); repeat (first | (clear hK hE hT; clear K) | (clear hR hE hT; clear K))) | assumption | skip))
    (refine post_a hres (.inl rfl) ?_; simp only [RSB, ENB, seval, tiAll, true_and]; simp only [MAB, seval]; refine ⟨rfl, rfl, ?_, ?_, ?_⟩ <;> (first | rfl | (simp [WKB, Nat.add_comm, true_and]; done) | (simp only [WKB, seval])))
  · have s1 : szL 1048576 ((x.Ends).length + ((x.Shards).length + edSum x.Shards)) = ((1048576 - ((x.Ends).length + ((x.Shards).length + edSum x.Shards)) : Nat) : Int) := szL_sub _ _ c1
    have cy := szRun_k y (1048576 - ((x.Ends).length + ((x.Shards).length + edSum x.Shards))) ⟨by omega, by omega, by omega⟩ (by omega)
    rcases Nat.lt_or_ge (1048576 - ((x.Ends).length + ((x.Shards).length + edSum x.Shards))) ((y.Vals).length + (y.EVals).length + (y.Next.Bits).length) with c2 | c2
    · have s2 : szL (1048576 - ((x.Ends).length + ((x.Shards).length + edSum x.Shards))) ((y.Vals).length + (y.EVals).length + (y.Next.Bits).length) = -1 := szL_neg _ _ c2
      refine fnOK_of true mixed Try.func6 rfl (by rfl) (by rfl) ?_
      have hres := congrArg Array.toList Try.results6
      simp only [Try.ntmps6, BGB, seval]
      (have gx := And.intro (@s1) (And.intro @s2 @List.length_map.{0,0}); have q1 := cz; have q2 := cy; refine go ?_; (repeat' (first | exact Ef.mk | refine Lf.mk ?_ ?_ | refine fun (K : KT) hK hE hT => ?_ | refine fun (KS : Eff → Prop) hKS => ?_ | refine fun (D : List Keys → Prop) hD => ?_ | refine fun (hg : (_ : Prop)) => ?_ | fail)); all_goals (first | (refine Wr.mk ?_; (try clear gx); (try clear q1 q2); repeat (first | (clear hK hE hT; clear K) | (clear hR hE hT; clear K))) | assumption | skip))
      (refine post_a hres (.inl rfl) ?_; simp only [RSB, ENB, seval, tiAll, true_and]; simp only [MAB, seval]; refine ⟨rfl, rfl, ?_, ?_, ?_⟩ <;> (first | rfl | (simp [WKB, Nat.add_comm, true_and]; done) | (simp only [WKB, seval])))
    · have s2 : szL (1048576 - ((x.Ends).length + ((x.Shards).length + edSum x.Shards))) ((y.Vals).length + (y.EVals).length + (y.Next.Bits).length) = ((1048576 - ((x.Ends).length + ((x.Shards).length + edSum x.Shards)) - ((y.Vals).length + (y.EVals).length + (y.Next.Bits).length) : Nat) : Int) := szL_sub _ _ c2
      have bl : (x.Ends).length ≤ 1048576 ∧ (x.Shards).length ≤ 1048576 ∧ (∀ s ∈ x.Shards, s.Edges.length ≤ 1048576) := ⟨by omega, by omega, fun s hs => by have := edSum_get hs; omega⟩
      have by0 : (y.Vals).length ≤ 1048576 ∧ (y.EVals).length ≤ 1048576 ∧ (y.Next.Bits).length ≤ 1048576 := ⟨by omega, by omega, by omega⟩
      have bs := shSum_leZ x.Shards
      have cs := specFRunOf_k x y bl by0
      have ci := implFRunOf_k x y bl by0
      obtain ⟨z0, z1, z2, z3, z4⟩ := foR_len x y
      obtain ⟨r, hr⟩ : ∃ r, r = foR x y := ⟨_, rfl⟩
      obtain ⟨b, hb⟩ : ∃ b, b = pB (FoOk x y) := ⟨_, rfl⟩
      rw [← hr] at cs ci z0 z1 z2 z3 z4
      rw [← hb] at cs ci
      clear hr hb
      have lr : (r.Vals).length ≤ 1048576 ∧ (r.Next.Bits).length ≤ 1048576 ∧ (r.Farm.Ends).length ≤ 1048576 ∧ (r.Farm.Shards).length ≤ 1048576 ∧ (∀ s ∈ r.Farm.Shards, s.Edges.length ≤ 1048576) := ⟨by omega, by omega, by omega, by omega, fun s hs => by have := edSum_get hs; omega⟩
      have br := shSum_leZ r.Farm.Shards
      have ee := eqFRun_k r r lr lr
      rw [decide_eq_true rfl] at ee
      have ev := eqFarm_k x x bl bl
      rw [decide_eq_true rfl] at ev
      have ey := eqRun_k y y by0 by0
      rw [decide_eq_true rfl] at ey
      have m1 := markFarm_k x 1 (by omega)
      have m2 := markRun_k y (((1 + (x.Ends).length) + shSum (x.Shards))) (by omega)
      have m3 := markFRun_k r 1 (by omega)
      have m4 := heldFRun_k r 1 (by omega)
      have t1 := toFarm_k x bl
      have t2 := toRun_k y by0
      refine fnOK_of true mixed Try.func6 rfl (by rfl) (by rfl) ?_
      have hres := congrArg Array.toList Try.results6
      simp only [Try.ntmps6, BGB, seval]
      (have gx := And.intro (@s1) (And.intro (@s2) (And.intro (@range_len) (And.intro @List.length_map.{0,0} @bne_self_eq_false.{0}))); have q1 := cz; have q2 := cy; have q3 := t1; have q4 := t2; have q5 := cs; have q6 := ci; have q7 := ee; have q8 := ev; have q9 := ey; have q10 := m1; have q11 := m2; have q12 := m3; have q13 := m4; refine go ?_; (repeat' (first | exact Ef.mk | refine Lf.mk ?_ ?_ | refine fun (K : KT) hK hE hT => ?_ | refine fun (KS : Eff → Prop) hKS => ?_ | refine fun (D : List Keys → Prop) hD => ?_ | refine fun (hg : (_ : Prop)) => ?_ | fail)); all_goals (first | (refine Wr.mk ?_; (try clear gx); (try clear q1 q2 q3 q4 q5 q6 q7 q8 q9 q10 q11 q12 q13); repeat (first | (clear hK hE hT; clear K) | (clear hR hE hT; clear K))) | assumption | skip))
      all_goals (refine post_a hres (.inl rfl) ?_; simp only [RSB, ENB, seval, tiAll, true_and]; simp only [MAB, seval]; refine ⟨rfl, rfl, ?_, ?_, ?_⟩ <;> (first | rfl | (simp [WKB, Nat.add_comm, true_and]; done) | (simp only [WKB, seval])))

end Go.Proofs.Ytfkpmhnfpljakaa
