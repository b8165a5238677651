/-
  The law FnExactSubVertex returns true. No conditions of its own.
-/
import Derived.Test.YtcbnfkbnbdbfoaaGreatGO
import Derived.Test.YtcbnfkbnbdbfoaaGreatSX6
import Derived.Test.YtcbnfkbnbdbfoaaGreatSh6
import Derived.Test.YtcbnfkbnbdbfoaaGreatSh1
namespace Go.Proofs.YtcbnfkbnbdbfoaaGreat
set_option linter.unusedSimpArgs false
set_option linter.unusedVariables false
set_option linter.unusedSimpArgs false
set_option linter.unusedVariables false
set_option linter.defProp false
set_option maxRecDepth 20000
open Go.RowKit

theorem shSum_leS : ∀ l : List ShardD, shSum l ≤ 8 * (l.length + edSum l)
  | [] => by simp [shSum]
  | s :: l => by
    have := shSum_leS l
    simp only [shSum, edSum, List.length_cons]; omega
theorem edSum_getS : ∀ {l : List ShardD} {s : ShardD}, s ∈ l → s.Edges.length ≤ edSum l
  | t :: l, s, h => by
    rcases List.mem_cons.1 h with rfl | h
    · simp [edSum]
    · have := edSum_getS h
      simp only [edSum]; omega
theorem sv_small (f : FRunD) (s : SubD) (w : SetD) (v : Int) : ((svF f s w v).Vals.length ≤ f.Vals.length ∧ (svF f s w v).Next.Bits.length ≤ f.Next.Bits.length) ∧ ((svF f s w v).Farm.Ends.length ≤ f.Farm.Ends.length ∧ (svF f s w v).Farm.Shards.length ≤ f.Farm.Shards.length ∧ edSum (svF f s w v).Farm.Shards ≤ edSum f.Farm.Shards) ∧ (svS f s w v).Locs.length ≤ s.Locs.length ∧ (svW f s w v).Bits.length ≤ w.Bits.length := by
  by_cases h : svOk f s w v
  · obtain ⟨p1, ⟨p5, p6, p7, p8⟩, ⟨p2, p3⟩, p4⟩ := id h.1
    obtain ⟨k, rfl⟩ := Int.eq_ofNat_of_zero_le p7
    obtain ⟨e1, e2, e3⟩ := sv_yes h
    rw [p3] at p2
    obtain ⟨q1, q2, q3⟩ := sv_lens (v := k) (fr_in p1) p4 h.2 p2 p8
    have ex : vxEnd (gOf f.Farm.N s.Locs) (rOf f s.Locs) w.Bits k = vxEnd (svG f s) (rOf f s.Locs) w.Bits k := rfl
    rw [ex] at q1 q2 q3
    rw [e1, e2, e3]
    dsimp only
    rw [List.length_set, setEv_len q1, q2, q3]
    exact ⟨⟨Nat.le_refl _, Nat.le_refl _⟩, ⟨Nat.le_refl _, Nat.le_refl _, Nat.le_refl _⟩, Nat.le_refl _, Nat.le_refl _⟩
  · obtain ⟨e1, e2, e3⟩ := sv_no h
    rw [e1, e2, e3]
    simp [edSum]

set_option maxHeartbeats 32000000 in
theorem FnExactSubVertex_k (x : FRunD) (y : SubD) (z : SetD) (v : Int) (rx : x.rng) (ry : y.rng) (rz : z.rng) (_ : I64 v) : FnOK Tryz.prog 3 ⟨6, [(0, some (.ro ((x.Vals).map intK))), (1, some (.ro ((x.Next.Bits).map bytK))), (2, some (.ro ((x.Farm.Ends).map intK))), (3, some (.ro ((x.Farm.Shards).map (ShardD.k 167)))), (4, some (.ro ((y.Locs).map LocD.k))), (5, some (.ro ((z.Bits).map bytK)))], [.agg [.v (.int .i64 x.Job.Prog), .v (.int .i64 x.Job.Src), .v (.int .i64 x.Iter), .v (.bool x.Done), .sl 0 1 0 (x.Vals).length, .v (.int .i64 x.Next.N), .sl 1 1 0 (x.Next.Bits).length, .v (.int .i64 x.Farm.N), .sl 2 1 0 (x.Farm.Ends).length, .sl 3 3 0 (x.Farm.Shards).length], .agg [.v (.int .i64 y.P), .v (.int .i64 y.Lo), .v (.int .i64 y.Hi), .sl 4 7 0 (y.Locs).length, .v (.int .i64 y.Reads)], .agg [.v (.int .i64 z.N), .sl 5 1 0 (z.Bits).length], .c (.v (.int .i64 v))], .c (.v (.bool true)), [], 6⟩ := by
  have r0 := rx.2.2.2.1.1
  have r1 := rx.2.2.2.2.1.2.1
  have r2 := rx.2.2.2.2.2.2.1.1
  have r3 := rx.2.2.2.2.2.2.2.1
  have r4 : ∀ s ∈ x.Farm.Shards, s.Edges.length ≤ 9223372036854775807 := fun s hs => (rx.2.2.2.2.2.2.2.2 s hs).2.2.1
  have r5 := ry.2.2.2.1.1
  have r6 := rz.2.1
  simp only [maxLen] at r0 r1 r2 r3 r5 r6
  have cz := szFRun_k x 1048576 ⟨by omega, by omega, by omega, by omega, r4⟩ (by omega)
  rcases Nat.lt_or_ge 1048576 ((x.Vals).length + (x.Next.Bits).length + (x.Farm.Ends).length + ((x.Farm.Shards).length + edSum x.Farm.Shards)) with c1 | c1
  · have s1 : szL 1048576 ((x.Vals).length + (x.Next.Bits).length + (x.Farm.Ends).length + ((x.Farm.Shards).length + edSum x.Farm.Shards)) = -1 := szL_neg _ _ c1
    refine fnOK_of true mixed Tryz.func3 rfl (by rfl) (by rfl) ?_
    have hres := congrArg Array.toList Tryz.results3
    simp only [Tryz.ntmps3, BGB, seval]
    (have gx := And.intro @s1 @List.length_map.{0,0}; have q1 := cz; refine go ?_; (repeat' (first | exact Ef.mk | refine Lf.mk ?_ ?_ | refine fun (K : KT) hK hE hT => ?_ | refine fun (KS : Eff → Prop) hKS => ?_ | refine fun (D : List Keys → Prop) hD => ?_ | refine fun (hg : (_ : Prop)) => ?_ | fail)); all_goals (first | (refine Wr.mk ?_; (try clear gx); (try clear q1); repeat (first | (clear hK hE hT; clear K) | (clear hR hE hT; clear K))) | assumption | skip))
    (refine post_a hres (.inl rfl) ?_; simp only [RSB, ENB, seval, tiAll, true_and]; simp only [MAB, seval]; refine ⟨rfl, rfl, ?_, ?_, ?_⟩ <;> (first | rfl | (simp [WKB, Nat.add_comm, true_and]; done) | (simp only [WKB, seval])))
  have s1 : szL 1048576 ((x.Vals).length + (x.Next.Bits).length + (x.Farm.Ends).length + ((x.Farm.Shards).length + edSum x.Farm.Shards)) = ((1048576 - ((x.Vals).length + (x.Next.Bits).length + (x.Farm.Ends).length + ((x.Farm.Shards).length + edSum x.Farm.Shards)) : Nat) : Int) := szL_sub _ _ c1
  obtain ⟨b1, hb1⟩ : ∃ b, b = 1048576 - ((x.Vals).length + (x.Next.Bits).length + (x.Farm.Ends).length + ((x.Farm.Shards).length + edSum x.Farm.Shards)) := ⟨_, rfl⟩
  have hb1' : b1 ≤ 1048576 := by omega
  rw [← hb1] at s1
  have cy := szSub_k y b1 (by omega) hb1'
  rcases Nat.lt_or_ge b1 ((y.Locs).length) with c2 | c2
  · have s2 : szL b1 ((y.Locs).length) = -1 := szL_neg _ _ c2
    refine fnOK_of true mixed Tryz.func3 rfl (by rfl) (by rfl) ?_
    have hres := congrArg Array.toList Tryz.results3
    simp only [Tryz.ntmps3, BGB, seval]
    (have gx := And.intro (@s1) (And.intro @s2 @List.length_map.{0,0}); have q1 := cz; have q2 := cy; refine go ?_; (repeat' (first | exact Ef.mk | refine Lf.mk ?_ ?_ | refine fun (K : KT) hK hE hT => ?_ | refine fun (KS : Eff → Prop) hKS => ?_ | refine fun (D : List Keys → Prop) hD => ?_ | refine fun (hg : (_ : Prop)) => ?_ | fail)); all_goals (first | (refine Wr.mk ?_; (try clear gx); (try clear q1 q2); repeat (first | (clear hK hE hT; clear K) | (clear hR hE hT; clear K))) | assumption | skip))
    (refine post_a hres (.inl rfl) ?_; simp only [RSB, ENB, seval, tiAll, true_and]; simp only [MAB, seval]; refine ⟨rfl, rfl, ?_, ?_, ?_⟩ <;> (first | rfl | (simp [WKB, Nat.add_comm, true_and]; done) | (simp only [WKB, seval])))
  have s2 : szL b1 ((y.Locs).length) = ((b1 - ((y.Locs).length) : Nat) : Int) := szL_sub _ _ c2
  obtain ⟨b2, hb2⟩ : ∃ b, b = b1 - ((y.Locs).length) := ⟨_, rfl⟩
  have hb2' : b2 ≤ 1048576 := by omega
  rw [← hb2] at s2
  have cw := szSet_k z b2 (by omega) hb2'
  rcases Nat.lt_or_ge b2 ((z.Bits).length) with c3 | c3
  · have s3 : szL b2 ((z.Bits).length) = -1 := szL_neg _ _ c3
    refine fnOK_of true mixed Tryz.func3 rfl (by rfl) (by rfl) ?_
    have hres := congrArg Array.toList Tryz.results3
    simp only [Tryz.ntmps3, BGB, seval]
    (have gx := And.intro (@s1) (And.intro (@s2) (And.intro @s3 @List.length_map.{0,0})); have q1 := cz; have q2 := cy; have q3 := cw; refine go ?_; (repeat' (first | exact Ef.mk | refine Lf.mk ?_ ?_ | refine fun (K : KT) hK hE hT => ?_ | refine fun (KS : Eff → Prop) hKS => ?_ | refine fun (D : List Keys → Prop) hD => ?_ | refine fun (hg : (_ : Prop)) => ?_ | fail)); all_goals (first | (refine Wr.mk ?_; (try clear gx); (try clear q1 q2 q3); repeat (first | (clear hK hE hT; clear K) | (clear hR hE hT; clear K))) | assumption | skip))
    (refine post_a hres (.inl rfl) ?_; simp only [RSB, ENB, seval, tiAll, true_and]; simp only [MAB, seval]; refine ⟨rfl, rfl, ?_, ?_, ?_⟩ <;> (first | rfl | (simp [WKB, Nat.add_comm, true_and]; done) | (simp only [WKB, seval])))
  have s3 : szL b2 ((z.Bits).length) = ((b2 - ((z.Bits).length) : Nat) : Int) := szL_sub _ _ c3
  have bl : (x.Vals).length ≤ 1048576 ∧ (x.Next.Bits).length ≤ 1048576 ∧ (x.Farm.Ends).length ≤ 1048576 ∧ (x.Farm.Shards).length ≤ 1048576 ∧ (∀ s ∈ x.Farm.Shards, s.Edges.length ≤ 1048576) := ⟨by omega, by omega, by omega, by omega, fun s hs => by have := edSum_getS hs; omega⟩
  have by0 : (y.Locs).length ≤ 1048576 := by omega
  have bz : (z.Bits).length ≤ 1048576 := by omega
  have bs := shSum_leS x.Farm.Shards
  have cs := specSubVertex_k x y z v bl by0 (by omega)
  have ci := implSubVertex_k x y z v bl by0 (by omega)
  obtain ⟨⟨t0, t1⟩, ⟨t2, t3, t4⟩, t5, t6⟩ := sv_small x y z v
  obtain ⟨rF, hrF⟩ : ∃ r, r = svF x y z v := ⟨_, rfl⟩
  obtain ⟨rS, hrS⟩ : ∃ r, r = svS x y z v := ⟨_, rfl⟩
  obtain ⟨rW, hrW⟩ : ∃ r, r = svW x y z v := ⟨_, rfl⟩
  rw [← hrF, ← hrS, ← hrW] at cs ci
  rw [← hrF] at t0 t1 t2 t3 t4
  rw [← hrS] at t5
  rw [← hrW] at t6
  clear hrF hrS hrW
  have lr : (rF.Vals).length ≤ 1048576 ∧ (rF.Next.Bits).length ≤ 1048576 ∧ (rF.Farm.Ends).length ≤ 1048576 ∧ (rF.Farm.Shards).length ≤ 1048576 ∧ (∀ s ∈ rF.Farm.Shards, s.Edges.length ≤ 1048576) := ⟨by omega, by omega, by omega, by omega, fun s hs => by have := edSum_getS hs; omega⟩
  have br := shSum_leS rF.Farm.Shards
  have e1 := eqFRun_k rF rF lr lr
  rw [decide_eq_true rfl] at e1
  have e2 := eqSub_k rS rS (by omega) (by omega)
  rw [decide_eq_true rfl] at e2
  have e3 := eqSet_k rW rW (by omega) (by omega)
  rw [decide_eq_true rfl] at e3
  have v1 := eqFRun_k x x bl bl
  rw [decide_eq_true rfl] at v1
  have v2 := eqSub_k y y by0 by0
  rw [decide_eq_true rfl] at v2
  have v3 := eqSet_k z z bz bz
  rw [decide_eq_true rfl] at v3
  have m1 := markFRun_k x 1 (by omega)
  have m2 := markSub_k y (((((1 + (x.Vals).length) + (x.Next.Bits).length) + (x.Farm.Ends).length) + shSum (x.Farm.Shards))) (by omega)
  have m3 := markSet_k z (((((((1 + (x.Vals).length) + (x.Next.Bits).length) + (x.Farm.Ends).length) + shSum (x.Farm.Shards))) + 7 * (y.Locs).length)) (by omega)
  have n1 := markFRun_k rF 1 (by omega)
  have n2 := markSub_k rS (((((1 + (rF.Vals).length) + (rF.Next.Bits).length) + (rF.Farm.Ends).length) + shSum (rF.Farm.Shards))) (by omega)
  have n3 := markSet_k rW (((((((1 + (rF.Vals).length) + (rF.Next.Bits).length) + (rF.Farm.Ends).length) + shSum (rF.Farm.Shards))) + 7 * (rS.Locs).length)) (by omega)
  have h1 := heldFRun_k rF 1 (by omega)
  have h2 := heldSub_k rS (((((1 + (rF.Vals).length) + (rF.Next.Bits).length) + (rF.Farm.Ends).length) + shSum (rF.Farm.Shards))) (by omega)
  have h3 := heldSet_k rW (((((((1 + (rF.Vals).length) + (rF.Next.Bits).length) + (rF.Farm.Ends).length) + shSum (rF.Farm.Shards))) + 7 * (rS.Locs).length)) (by omega)
  have u1 := toFRun_k x bl
  have u2 := toSub_k y by0
  have u3 := toSet_k z bz
  refine fnOK_of true mixed Tryz.func3 rfl (by rfl) (by rfl) ?_
  have hres := congrArg Array.toList Tryz.results3
  simp only [Tryz.ntmps3, BGB, seval]
  repeat' ((fail_if_success with_reducible refine hand_k (id := 11) ?_); (first | (with_reducible first | refine seq_k fun K hK hE hT => ?_ | refine block_k fun K hK hE hT => ?_ | refine lex_nil ?_ | fail) | ((with_reducible refine region_k ?_); simp only [dstsOf, EVB, seval]) | ((with_reducible refine draw_k ?_ fun D hD => ?_); (focus (first | rfl | kernel_rfl)); simp only [dstsOf, EVB, seval]) | ((with_reducible first | refine lex_move ?_ | refine lex_assign ?_); simp only [EVB, seval]) | (with_reducible first | refine lex_cons fun KS hKS => ?_ | refine lexd_cons fun KS hKS => ?_ | refine skip_k ?_ | refine exit_k ?_ | refine ret_k ?_ | fail) | ((with_reducible refine call_go ?_); (first | ((first | refine call_a (cz) rfl rfl ?_ | refine call_a (cy) rfl rfl ?_ | refine call_a (cw) rfl rfl ?_ | fail); simp only [ENB, seval, tiAll, s1, s2, s3, List.length_map]; simp only [MAB, seval]; refine ⟨rfl, ?_, ?_, ?_, rfl, ?_, ?_, ?_, ?_⟩; (iterate 6 (focus (first | rfl | (simp [CXB, map_take, s1, s2, s3, List.length_map]; done) | (simp [CXB, s1, s2, s3, List.length_map]; omega) | (dsimp only; omega)))); simp only [EFB, seval]) | fail)) | ((with_reducible refine step_go ?_); (fail_if_success with_reducible refine call_go ?_); simp only [ENB, seval, tiAll, s1, s2, s3, List.length_map]) | ((with_reducible refine lexd_nil ?_ ?_); (focus (refine hD _ ?_; first | kernel_rfl | with_unfolding_all rfl)); clear hD; clear D) | ((with_reducible refine guard_go ?_); refine lex_gone rfl rfl ?_; simp only [EVB, seval]) | ((with_reducible refine guardd_go ?_); refine lexd_gone rfl rfl ?_; simp only [EVB, seval]) | ((first | ((with_reducible refine guard_go ?_); refine lex_guard rfl rfl (fun hg KS hKS => ?_) (fun hg => ?_)) | ((with_reducible refine guardd_go ?_); refine lexd_guard rfl rfl (fun hg KS hKS => ?_) (fun hg => ?_)) | ((with_reducible refine cond_go ?_); refine cond_k rfl (fun hg => ?_) (fun hg => ?_)) | (with_reducible refine And.intro (fun hg => ?_) (fun hg => ?_)) | fail) <;> first | ((with_reducible exfalso); exact absurd hg (by decide)) | ((try simp only [CNL] at hg) <;> first | ((with_reducible exfalso); omega) | ((with_reducible exfalso); first | exact tf (by assumption) hg | exact tf hg (by assumption)) | ((try with_reducible (have hT0 : True := hg; clear hT0 hg)); first | (with_reducible refine wpc_go ?_) | (try simp only [EVB, seval])))) | ((with_reducible refine hKS _ _ _ _ ?_); clear hKS; clear KS; simp only [EVB, seval]) | ((with_reducible refine And.intro ?_ ?_); focus (first | omega | exact u8_le _ | exact flat_intK _ | exact flat_bytK _ | (fail) | decide | (simp only [s1, s2, s3, List.length_map]; done))) | ((with_reducible refine ex_p ?_ (fun hh => ?_)); focus (first | omega | (simp only [s1, s2, s3, List.length_map]; omega))) | ((with_reducible refine hK _ _ _ ?_); clear hK hE hT; clear K) | ((with_reducible first | refine hE _ _ _ _ ?_ | refine hT _ _ _ ?_ | fail); (first | (clear hK hE hT; clear K) | (clear hR hE hT; clear K) | skip); try simp only [IFB, seval]) | ((with_reducible apply_assumption -symm -exfalso); try simp only [IFB, seval]) | fail))
  (have gx := And.intro (@range_len) (And.intro @List.length_map.{0,0} @bne_self_eq_false.{0}); have q1 := u1; have q2 := u2; have q3 := u3; have q4 := cs; have q5 := ci; have q6 := e1; have q7 := v1; have q8 := e2; have q9 := v2; have q10 := e3; have q11 := v3; have q12 := m1; have q13 := n1; have q14 := m2; have q15 := n2; have q16 := m3; have q17 := n3; have q18 := h1; have q19 := h2; have q20 := h3; refine go ?_; (repeat' (first | exact Ef.mk | refine Lf.mk ?_ ?_ | refine fun (K : KT) hK hE hT => ?_ | refine fun (KS : Eff → Prop) hKS => ?_ | refine fun (D : List Keys → Prop) hD => ?_ | refine fun (hg : (_ : Prop)) => ?_ | fail)); all_goals (first | (refine Wr.mk ?_; (try clear gx); (try clear q1 q2 q3 q4 q5 q6 q7 q8 q9 q10 q11 q12 q13 q14 q15 q16 q17 q18 q19 q20); repeat (first | (clear hK hE hT; clear K) | (clear hR hE hT; clear K))) | assumption | skip))
  all_goals (refine post_a hres (.inl rfl) ?_; simp only [RSB, ENB, seval, tiAll, true_and]; simp only [MAB, seval]; refine ⟨rfl, rfl, ?_, ?_, ?_⟩ <;> (first | rfl | (simp [WKB, Nat.add_comm, true_and]; done) | (simp only [WKB, seval])))

end Go.Proofs.YtcbnfkbnbdbfoaaGreat
