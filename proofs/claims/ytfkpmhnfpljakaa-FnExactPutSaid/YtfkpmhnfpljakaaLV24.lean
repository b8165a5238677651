/-
  The law FnExactPut returns true. No conditions of its own.
-/
import Derived.Test.YtfkpmhnfpljakaaGO
import Derived.Test.YtfkpmhnfpljakaaQ4
import Derived.Test.YtfkpmhnfpljakaaQ5
import Derived.Test.YtfkpmhnfpljakaaSh5
import Derived.Test.YtfkpmhnfpljakaaSh1
namespace Go.Proofs.Ytfkpmhnfpljakaa
set_option linter.unusedSimpArgs false
set_option linter.unusedVariables false
set_option linter.unusedSimpArgs false
set_option linter.unusedVariables false
set_option linter.defProp false
set_option maxRecDepth 20000
open Go.RowKit

theorem edSum_sk : ∀ {l m : List ShardD}, l.map skS = m.map skS → edSum l = edSum m
  | [], [], _ => rfl
  | [], _ :: _, h => by simp at h
  | _ :: _, [], h => by simp at h
  | s :: l, t :: m, h => by
    simp only [List.map_cons, List.cons.injEq] at h
    have h1 := (skS_len h.1).1
    have h2 := edSum_sk h.2
    simp only [edSum, h1, h2]
theorem puR_len (f : FarmD) (xs : List LocD) : (((puR f xs).Ends).length ≤ 1048576 ∧ ((puR f xs).Shards).length ≤ 1048576 ∧ (∀ s ∈ (puR f xs).Shards, s.Edges.length ≤ 1048576)) ∧ edSum (puR f xs).Shards ≤ 400 ∧ (puR f xs).Ends.length ≤ 150 ∧ (puR f xs).Shards.length ≤ 150 := by
  by_cases h : PutOk f xs
  · obtain ⟨e, _⟩ := pu_yes h
    have g := gf_ok h.1
    have gl := g.l
    have ge := g.e
    have gc := g.c
    have hs := ptL_sk h.2 (Nat.le_refl _)
    rw [List.take_length] at hs
    have hl := sk_len hs
    have he := edSum_sk hs
    rw [e]
    dsimp only
    refine ⟨⟨by omega, by omega, fun s hs => ?_⟩, by omega, by omega, by omega⟩
    have := edSum_get hs
    omega
  · obtain ⟨e, _⟩ := pu_no h
    rw [e]
    exact ⟨⟨by simp, by simp, fun s hs => by cases hs⟩, by simp [edSum], by simp, by simp⟩
theorem shSum_leX : ∀ l : List ShardD, shSum l ≤ 8 * (l.length + edSum l)
  | [] => by simp [shSum]
  | s :: l => by
    have := shSum_leX l
    simp only [shSum, edSum, List.length_cons]; omega

set_option maxHeartbeats 16000000 in
theorem FnExactPut_k (x : FarmD) (y : SubD) (rx : x.rng) (ry : y.rng) : FnOK Try.prog 3 ⟨3, [(0, some (.ro ((x.Ends).map intK))), (1, some (.ro ((x.Shards).map (ShardD.k 159)))), (2, some (.ro ((y.Locs).map LocD.k)))], [.agg [.v (.int .i64 x.N), .sl 0 1 0 (x.Ends).length, .sl 1 3 0 (x.Shards).length], .agg [.v (.int .i64 y.P), .v (.int .i64 y.Lo), .v (.int .i64 y.Hi), .sl 2 7 0 (y.Locs).length, .v (.int .i64 y.Reads)]], .c (.v (.bool true)), [], 3⟩ := by
  have r0 := rx.2.1.1
  have r1 := rx.2.2.1
  have r2 : ∀ s ∈ x.Shards, s.Edges.length ≤ 9223372036854775807 := fun s hs => (rx.2.2.2 s hs).2.2.1
  have r3 := ry.2.2.2.1.1
  simp only [maxLen] at r0 r1 r3
  have cz := szFarm_k x 1048576 ⟨by omega, by omega, r2⟩ (by omega)
  rcases Nat.lt_or_ge 1048576 ((x.Ends).length + ((x.Shards).length + edSum x.Shards)) with c1 | c1
  · have s1 : szL 1048576 ((x.Ends).length + ((x.Shards).length + edSum x.Shards)) = -1 := szL_neg _ _ c1
    refine fnOK_of true mixed Try.func3 rfl (by rfl) (by rfl) ?_
    have hres := congrArg Array.toList Try.results3
    simp only [Try.ntmps3, BGB, seval]
    (have gx := And.intro @s1 @List.length_map.{0,0}; have q1 := cz; refine go ?_; (repeat' (first | exact Ef.mk | refine Lf.mk ?_ ?_ | refine fun (K : KT) hK hE hT => ?_ | refine fun (KS : Eff → Prop) hKS => ?_ | refine fun (D : List Keys → Prop) hD => ?_ | refine fun (hg : (_ : Prop)) => ?_ | fail)); all_goals (first | (refine Wr.mk ?_; (try clear gx); (try clear q1); repeat (first | (clear hK hE hT; clear K) | (clear hR hE hT; clear K))) | assumption | skip))
    (refine post_a hres (.inl rfl) ?_; simp only [RSB, ENB, seval, tiAll, true_and]; simp only [MAB, seval]; refine ⟨rfl, rfl, ?_, ?_, ?_⟩ <;> (first | rfl | (simp [WKB, Nat.add_comm, true_and]; done) | (simp only [WKB, seval])))
  · have s1 : szL 1048576 ((x.Ends).length + ((x.Shards).length + edSum x.Shards)) = ((1048576 - ((x.Ends).length + ((x.Shards).length + edSum x.Shards)) : Nat) : Int) := szL_sub _ _ c1
    have cy := szSub_k y (1048576 - ((x.Ends).length + ((x.Shards).length + edSum x.Shards))) (by omega) (by omega)
    rcases Nat.lt_or_ge (1048576 - ((x.Ends).length + ((x.Shards).length + edSum x.Shards))) ((y.Locs).length) with c2 | c2
    · have s2 : szL (1048576 - ((x.Ends).length + ((x.Shards).length + edSum x.Shards))) ((y.Locs).length) = -1 := szL_neg _ _ c2
      refine fnOK_of true mixed Try.func3 rfl (by rfl) (by rfl) ?_
      have hres := congrArg Array.toList Try.results3
      simp only [Try.ntmps3, BGB, seval]
      (have gx := And.intro (@s1) (And.intro @s2 @List.length_map.{0,0}); have q1 := cz; have q2 := cy; refine go ?_; (repeat' (first | exact Ef.mk | refine Lf.mk ?_ ?_ | refine fun (K : KT) hK hE hT => ?_ | refine fun (KS : Eff → Prop) hKS => ?_ | refine fun (D : List Keys → Prop) hD => ?_ | refine fun (hg : (_ : Prop)) => ?_ | fail)); all_goals (first | (refine Wr.mk ?_; (try clear gx); (try clear q1 q2); repeat (first | (clear hK hE hT; clear K) | (clear hR hE hT; clear K))) | assumption | skip))
      (refine post_a hres (.inl rfl) ?_; simp only [RSB, ENB, seval, tiAll, true_and]; simp only [MAB, seval]; refine ⟨rfl, rfl, ?_, ?_, ?_⟩ <;> (first | rfl | (simp [WKB, Nat.add_comm, true_and]; done) | (simp only [WKB, seval])))
    · have s2 : szL (1048576 - ((x.Ends).length + ((x.Shards).length + edSum x.Shards))) ((y.Locs).length) = ((1048576 - ((x.Ends).length + ((x.Shards).length + edSum x.Shards)) - ((y.Locs).length) : Nat) : Int) := szL_sub _ _ c2
      have bl : (x.Ends).length ≤ 1048576 ∧ (x.Shards).length ≤ 1048576 ∧ (∀ s ∈ x.Shards, s.Edges.length ≤ 1048576) := ⟨by omega, by omega, fun s hs => by have := edSum_get hs; omega⟩
      have by0 : (y.Locs).length ≤ 1048576 := by omega
      have bs := shSum_leX x.Shards
      have cs := specPut_k x y.P y.Lo y.Hi y.Reads y.Locs bl by0
      have ci := implPut_k x y.P y.Lo y.Hi y.Reads y.Locs bl by0
      obtain ⟨lr, lr1, lr2, lr3⟩ := puR_len x y.Locs
      obtain ⟨r, hr⟩ : ∃ r, r = puR x y.Locs := ⟨_, rfl⟩
      obtain ⟨b, hb⟩ : ∃ b, b = puB x y.Locs := ⟨_, rfl⟩
      rw [← hr] at cs ci lr lr1 lr2 lr3
      rw [← hb] at cs ci
      clear hr hb
      have br := shSum_leX r.Shards
      have ee := eqFarm_k r r lr lr
      rw [decide_eq_true rfl] at ee
      have ev := eqFarm_k x x bl bl
      rw [decide_eq_true rfl] at ev
      have ey := eqSub_k y y by0 by0
      rw [decide_eq_true rfl] at ey
      have m1 := markFarm_k x 1 (by omega)
      have m2 := markFarm_k r 1 (by omega)
      have m3 := markSub_k y (((1 + (x.Ends).length) + shSum (x.Shards))) (by omega)
      have m4 := heldFarm_k r 1 (by omega)
      have t1 := toFarm_k x bl
      have t2 := toSub_k y by0
      refine fnOK_of true mixed Try.func3 rfl (by rfl) (by rfl) ?_
      have hres := congrArg Array.toList Try.results3
      simp only [Try.ntmps3, BGB, seval]
      (have gx := And.intro (@s1) (And.intro (@s2) (And.intro (@range_len) (And.intro @List.length_map.{0,0} @bne_self_eq_false.{0}))); have q1 := cz; have q2 := cy; have q3 := t1; have q4 := t2; have q5 := cs; have q6 := ci; have q7 := ee; have q8 := ev; have q9 := ey; have q10 := m1; have q11 := m2; have q12 := m3; have q13 := m4; refine go ?_; (repeat' (first | exact Ef.mk | refine Lf.mk ?_ ?_ | refine fun (K : KT) hK hE hT => ?_ | refine fun (KS : Eff → Prop) hKS => ?_ | refine fun (D : List Keys → Prop) hD => ?_ | refine fun (hg : (_ : Prop)) => ?_ | fail)); all_goals (first | (refine Wr.mk ?_; (try clear gx); (try clear q1 q2 q3 q4 q5 q6 q7 q8 q9 q10 q11 q12 q13); repeat (first | (clear hK hE hT; clear K) | (clear hR hE hT; clear K))) | assumption | skip))
      all_goals (refine post_a hres (.inl rfl) ?_; simp only [RSB, ENB, seval, tiAll, true_and]; simp only [MAB, seval]; refine ⟨rfl, rfl, ?_, ?_, ?_⟩ <;> (first | rfl | (simp [WKB, Nat.add_comm, true_and]; done) | (simp only [WKB, seval])))

end Go.Proofs.Ytfkpmhnfpljakaa
