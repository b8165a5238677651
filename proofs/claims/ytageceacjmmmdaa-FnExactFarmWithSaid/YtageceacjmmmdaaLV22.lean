/-
  The law FnExactFarmWith returns true. No conditions of its own.
-/
import Derived.Test.YtageceacjmmmdaaQ2
import Derived.Test.YtageceacjmmmdaaSh5
namespace Go.Proofs.Ytageceacjmmmdaa
set_option linter.unusedSimpArgs false
set_option linter.unusedVariables false
set_option linter.unusedSimpArgs false
set_option linter.unusedVariables false
set_option linter.defProp false
set_option maxRecDepth 20000
open Go.RowKit

theorem fwR_len (f : FarmD) (vals : List Int) : (((fwR f vals).Ends).length ≤ 1048576 ∧ ((fwR f vals).Shards).length ≤ 1048576 ∧ (∀ s ∈ (fwR f vals).Shards, s.Edges.length ≤ 1048576)) ∧ edSum (fwR f vals).Shards ≤ 400 ∧ (fwR f vals).Ends.length ≤ 150 ∧ (fwR f vals).Shards.length ≤ 150 := by
  by_cases h : FwOk f vals
  · obtain ⟨e, _⟩ := fw_yes h
    have hj := h.1.2.2.2
    have g := gf_ok h.1
    have gl := g.l
    have ge := g.e
    have gc := g.c
    rw [e]
    refine ⟨⟨by simp only; omega, by simp only [List.length_map]; omega, fun s hs => ?_⟩, by simp only; rw [edSum_shW]; exact gc, by simp only; omega, by simp only [List.length_map]; exact gl⟩
    have := edSum_get hs
    simp only [edSum_shW] at this
    omega
  · obtain ⟨e, _⟩ := fw_no h
    rw [e]
    exact ⟨⟨by simp, by simp, fun s hs => by cases hs⟩, by simp [edSum], by simp, by simp⟩
theorem shSum_leW : ∀ l : List ShardD, shSum l ≤ 8 * (l.length + edSum l)
  | [] => by simp [shSum]
  | s :: l => by
    have := shSum_leW l
    simp only [shSum, edSum, List.length_cons]; omega

set_option maxHeartbeats 16000000 in
theorem FnExactFarmWith_k (x : FarmD) (y : List Int) (rx : x.rng) (ry : y.length ≤ maxLen ∧ ∀ z ∈ y, I64 z) : FnOK Try.prog 12 ⟨3, [(0, some (.ro ((x.Ends).map intK))), (1, some (.ro ((x.Shards).map (ShardD.k 221)))), (2, some (.ro (y.map intK)))], [.agg [.v (.int .i64 x.N), .sl 0 1 0 (x.Ends).length, .sl 1 3 0 (x.Shards).length], .c (.sl 2 1 0 y.length)], .c (.v (.bool true)), [], 3⟩ := by
  replace ry := ry.1
  have r0 := rx.2.1.1
  have r1 := rx.2.2.1
  have r2 : ∀ s ∈ x.Shards, s.Edges.length ≤ 9223372036854775807 := fun s hs => (rx.2.2.2 s hs).2.2.1
  simp only [maxLen] at r0 r1 ry
  rcases Nat.lt_or_ge 1048576 y.length with c0 | c0
  · skip
    refine fnOK_of true mixed Try.func12 rfl (by rfl) (by rfl) ?_
    have hres := congrArg Array.toList Try.results12
    simp only [Try.ntmps12, BGB, seval]
    repeat' (first | (with_reducible first | refine seq_k fun K hK hE hT => ?_ | refine block_k fun K hK hE hT => ?_ | refine lex_nil ?_ | fail) | ((with_reducible refine region_k ?_); simp only [dstsOf, EVB, seval]) | ((with_reducible refine draw_k ?_ fun D hD => ?_); (focus (first | rfl | kernel_rfl)); simp only [dstsOf, EVB, seval]) | ((with_reducible first | refine lex_move ?_ | refine lex_assign ?_); simp only [EVB, seval]) | (with_reducible first | refine lex_cons fun KS hKS => ?_ | refine lexd_cons fun KS hKS => ?_ | refine skip_k ?_ | refine exit_k ?_ | refine ret_k ?_ | fail) | ((with_reducible refine call_go ?_); fail) | ((with_reducible refine step_go ?_); (fail_if_success with_reducible refine call_go ?_); simp only [ENB, seval, tiAll, List.length_map]) | ((with_reducible refine lexd_nil ?_ ?_); (focus (refine hD _ ?_; first | kernel_rfl | with_unfolding_all rfl)); clear hD; clear D) | ((with_reducible refine guard_go ?_); refine lex_gone rfl rfl ?_; simp only [EVB, seval]) | ((with_reducible refine guardd_go ?_); refine lexd_gone rfl rfl ?_; simp only [EVB, seval]) | ((first | ((with_reducible refine guard_go ?_); refine lex_guard rfl rfl (fun hg KS hKS => ?_) (fun hg => ?_)) | ((with_reducible refine guardd_go ?_); refine lexd_guard rfl rfl (fun hg KS hKS => ?_) (fun hg => ?_)) | ((with_reducible refine cond_go ?_); refine cond_k rfl (fun hg => ?_) (fun hg => ?_)) | (with_reducible refine And.intro (fun hg => ?_) (fun hg => ?_)) | fail) <;> first | ((with_reducible exfalso); exact absurd hg (by decide)) | ((try simp only [CNL] at hg) <;> first | ((with_reducible exfalso); omega) | ((with_reducible exfalso); first | exact tf (by assumption) hg | exact tf hg (by assumption)) | ((try with_reducible (have hT0 : True := hg; clear hT0 hg)); first | (with_reducible refine wpc_go ?_) | (try simp only [EVB, seval])))) | ((with_reducible refine hKS _ _ _ _ ?_); clear hKS; clear KS; simp only [EVB, seval]) | ((with_reducible refine And.intro ?_ ?_); focus (first | omega | exact u8_le _ | exact flat_intK _ | exact flat_bytK _ | (fail) | decide | (simp only [List.length_map]; done))) | ((with_reducible refine ex_p ?_ (fun hh => ?_)); focus (first | omega | (simp only [List.length_map]; omega))) | ((with_reducible refine hK _ _ _ ?_); clear hK hE hT; clear K) | ((with_reducible first | refine hE _ _ _ _ ?_ | refine hT _ _ _ ?_ | fail); (first | (clear hK hE hT; clear K) | (clear hR hE hT; clear K) | skip); try simp only [IFB, seval]) | ((with_reducible apply_assumption -symm -exfalso); try simp only [IFB, seval]) | fail)
    (refine post_a hres (.inl rfl) ?_; simp only [RSB, ENB, seval, tiAll, true_and]; simp only [MAB, seval]; refine ⟨rfl, rfl, ?_, ?_, ?_⟩ <;> (first | rfl | (simp [WKB, Nat.add_comm, true_and]; done) | (simp only [WKB, seval])))
  have cz := szFarm_k x 1048576 ⟨by omega, by omega, r2⟩ (by omega)
  rcases Nat.lt_or_ge 1048576 ((x.Ends).length + ((x.Shards).length + edSum x.Shards)) with c1 | c1
  · have s1 : szL 1048576 ((x.Ends).length + ((x.Shards).length + edSum x.Shards)) = -1 := szL_neg _ _ c1
    refine fnOK_of true mixed Try.func12 rfl (by rfl) (by rfl) ?_
    have hres := congrArg Array.toList Try.results12
    simp only [Try.ntmps12, BGB, seval]
    repeat' (first | (with_reducible first | refine seq_k fun K hK hE hT => ?_ | refine block_k fun K hK hE hT => ?_ | refine lex_nil ?_ | fail) | ((with_reducible refine region_k ?_); simp only [dstsOf, EVB, seval]) | ((with_reducible refine draw_k ?_ fun D hD => ?_); (focus (first | rfl | kernel_rfl)); simp only [dstsOf, EVB, seval]) | ((with_reducible first | refine lex_move ?_ | refine lex_assign ?_); simp only [EVB, seval]) | (with_reducible first | refine lex_cons fun KS hKS => ?_ | refine lexd_cons fun KS hKS => ?_ | refine skip_k ?_ | refine exit_k ?_ | refine ret_k ?_ | fail) | ((with_reducible refine call_go ?_); (first | ((first | refine call_a (cz) rfl rfl ?_ | fail); simp only [ENB, seval, tiAll, s1, List.length_map]; simp only [MAB, seval]; refine ⟨rfl, ?_, ?_, ?_, rfl, ?_, ?_, ?_, ?_⟩; (iterate 6 (focus (first | rfl | (simp [CXB, map_take, s1, List.length_map]; done) | (simp [CXB, s1, List.length_map]; omega) | (dsimp only; omega)))); simp only [EFB, seval]) | fail)) | ((with_reducible refine step_go ?_); (fail_if_success with_reducible refine call_go ?_); simp only [ENB, seval, tiAll, s1, List.length_map]) | ((with_reducible refine lexd_nil ?_ ?_); (focus (refine hD _ ?_; first | kernel_rfl | with_unfolding_all rfl)); clear hD; clear D) | ((with_reducible refine guard_go ?_); refine lex_gone rfl rfl ?_; simp only [EVB, seval]) | ((with_reducible refine guardd_go ?_); refine lexd_gone rfl rfl ?_; simp only [EVB, seval]) | ((first | ((with_reducible refine guard_go ?_); refine lex_guard rfl rfl (fun hg KS hKS => ?_) (fun hg => ?_)) | ((with_reducible refine guardd_go ?_); refine lexd_guard rfl rfl (fun hg KS hKS => ?_) (fun hg => ?_)) | ((with_reducible refine cond_go ?_); refine cond_k rfl (fun hg => ?_) (fun hg => ?_)) | (with_reducible refine And.intro (fun hg => ?_) (fun hg => ?_)) | fail) <;> first | ((with_reducible exfalso); exact absurd hg (by decide)) | ((try simp only [CNL] at hg) <;> first | ((with_reducible exfalso); omega) | ((with_reducible exfalso); first | exact tf (by assumption) hg | exact tf hg (by assumption)) | ((try with_reducible (have hT0 : True := hg; clear hT0 hg)); first | (with_reducible refine wpc_go ?_) | (try simp only [EVB, seval])))) | ((with_reducible refine hKS _ _ _ _ ?_); clear hKS; clear KS; simp only [EVB, seval]) | ((with_reducible refine And.intro ?_ ?_); focus (first | omega | exact u8_le _ | exact flat_intK _ | exact flat_bytK _ | (fail) | decide | (simp only [s1, List.length_map]; done))) | ((with_reducible refine ex_p ?_ (fun hh => ?_)); focus (first | omega | (simp only [s1, List.length_map]; omega))) | ((with_reducible refine hK _ _ _ ?_); clear hK hE hT; clear K) | ((with_reducible first | refine hE _ _ _ _ ?_ | refine hT _ _ _ ?_ | fail); (first | (clear hK hE hT; clear K) | (clear hR hE hT; clear K) | skip); try simp only [IFB, seval]) | ((with_reducible apply_assumption -symm -exfalso); try simp only [IFB, seval]) | fail)
    (refine post_a hres (.inl rfl) ?_; simp only [RSB, ENB, seval, tiAll, true_and]; simp only [MAB, seval]; refine ⟨rfl, rfl, ?_, ?_, ?_⟩ <;> (first | rfl | (simp [WKB, Nat.add_comm, true_and]; done) | (simp only [WKB, seval])))
  · have s1 : szL 1048576 ((x.Ends).length + ((x.Shards).length + edSum x.Shards)) = ((1048576 - ((x.Ends).length + ((x.Shards).length + edSum x.Shards)) : Nat) : Int) := szL_sub _ _ c1
    have bl : (x.Ends).length ≤ 1048576 ∧ (x.Shards).length ≤ 1048576 ∧ (∀ s ∈ x.Shards, s.Edges.length ≤ 1048576) := ⟨by omega, by omega, fun s hs => by have := edSum_get hs; omega⟩
    have bs := shSum_leW x.Shards
    have cs := specFarmWith_k x y bl c0 (by omega)
    have ci := implFarmWith_k x y bl c0 (by omega)
    obtain ⟨lr, lr1, lr2, lr3⟩ := fwR_len x y
    obtain ⟨r, hr⟩ : ∃ r, r = fwR x y := ⟨_, rfl⟩
    obtain ⟨b, hb⟩ : ∃ b, b = fwB x y := ⟨_, rfl⟩
    rw [← hr] at cs ci lr lr1 lr2 lr3
    rw [← hb] at cs ci
    clear hr hb
    have br := shSum_leW r.Shards
    have ee := eqFarm_k r r lr lr
    rw [decide_eq_true rfl] at ee
    have ev := eqFarm_k x x bl bl
    rw [decide_eq_true rfl] at ev
    have ey := eqIntS_k y y (by omega) (by omega)
    rw [decide_eq_true rfl] at ey
    have ct := toIntS_k y (by omega)
    refine fnOK_of true mixed Try.func12 rfl (by rfl) (by rfl) ?_
    have hres := congrArg Array.toList Try.results12
    simp only [Try.ntmps12, BGB, seval]
    repeat' (first | (with_reducible first | refine seq_k fun K hK hE hT => ?_ | refine block_k fun K hK hE hT => ?_ | refine lex_nil ?_ | fail) | ((with_reducible refine region_k ?_); simp only [dstsOf, EVB, seval]) | ((with_reducible refine draw_k ?_ fun D hD => ?_); (focus (first | rfl | kernel_rfl)); simp only [dstsOf, EVB, seval]) | ((with_reducible first | refine lex_move ?_ | refine lex_assign ?_); simp only [EVB, seval]) | (with_reducible first | refine lex_cons fun KS hKS => ?_ | refine lexd_cons fun KS hKS => ?_ | refine skip_k ?_ | refine exit_k ?_ | refine ret_k ?_ | fail) | ((with_reducible refine call_go ?_); (first | ((first | refine call_a (cz) rfl rfl ?_ | refine call_a (toFarm_k x bl) rfl rfl ?_ | refine call_a (ct) rfl rfl ?_ | refine call_a (cs) rfl rfl ?_ | refine call_a (ci) rfl rfl ?_ | refine call_a (ey) rfl rfl ?_ | refine call_a (markIntS_k y (((1 + (x.Ends).length) + shSum (x.Shards))) (by omega)) rfl rfl ?_ | refine call_a (heldFarm_k r 1 (by omega)) rfl rfl ?_ | fail); simp only [ENB, seval, tiAll, s1, range_len, List.length_map, bne_self_eq_false]; simp only [MAB, seval]; refine ⟨rfl, ?_, ?_, ?_, rfl, ?_, ?_, ?_, ?_⟩; (iterate 6 (focus (first | rfl | (simp [CXB, map_take, s1, range_len, List.length_map, bne_self_eq_false]; done) | (simp [CXB, s1, range_len, List.length_map, bne_self_eq_false]; omega) | (dsimp only; omega)))); simp only [EFB, seval]) | (refine call_a (ee) rfl rfl ?_; simp only [ENB, seval, tiAll, s1, range_len, List.length_map, bne_self_eq_false]; simp only [MAB, seval]; refine ⟨rfl, ?_, ?_, ?_, rfl, ?_, ?_, ?_, ?_⟩; (iterate 6 (focus (first | rfl | (simp [CXB, map_take, s1, range_len, List.length_map, bne_self_eq_false]; done) | (simp [CXB, s1, range_len, List.length_map, bne_self_eq_false]; omega) | (dsimp only; omega)))); simp only [EFB, seval]) | (refine call_a (ev) rfl rfl ?_; simp only [ENB, seval, tiAll, s1, range_len, List.length_map, bne_self_eq_false]; simp only [MAB, seval]; refine ⟨rfl, ?_, ?_, ?_, rfl, ?_, ?_, ?_, ?_⟩; (iterate 6 (focus (first | rfl | (simp [CXB, map_take, s1, range_len, List.length_map, bne_self_eq_false]; done) | (simp [CXB, s1, range_len, List.length_map, bne_self_eq_false]; omega) | (dsimp only; omega)))); simp only [EFB, seval]) | (refine call_a ((markFarm_k x 1 (by omega))) rfl rfl ?_; simp only [ENB, seval, tiAll, s1, range_len, List.length_map, bne_self_eq_false]; simp only [MAB, seval]; refine ⟨rfl, ?_, ?_, ?_, rfl, ?_, ?_, ?_, ?_⟩; (iterate 6 (focus (first | rfl | (simp [CXB, map_take, s1, range_len, List.length_map, bne_self_eq_false]; done) | (simp [CXB, s1, range_len, List.length_map, bne_self_eq_false]; omega) | (dsimp only; omega)))); simp only [EFB, seval]) | (refine call_a ((markFarm_k r 1 (by omega))) rfl rfl ?_; simp only [ENB, seval, tiAll, s1, range_len, List.length_map, bne_self_eq_false]; simp only [MAB, seval]; refine ⟨rfl, ?_, ?_, ?_, rfl, ?_, ?_, ?_, ?_⟩; (iterate 6 (focus (first | rfl | (simp [CXB, map_take, s1, range_len, List.length_map, bne_self_eq_false]; done) | (simp [CXB, s1, range_len, List.length_map, bne_self_eq_false]; omega) | (dsimp only; omega)))); simp only [EFB, seval]) | fail)) | ((with_reducible refine step_go ?_); (fail_if_success with_reducible refine call_go ?_); simp only [ENB, seval, tiAll, s1, range_len, List.length_map, bne_self_eq_false]) | ((with_reducible refine lexd_nil ?_ ?_); (focus (refine hD _ ?_; first | kernel_rfl | with_unfolding_all rfl)); clear hD; clear D) | ((with_reducible refine guard_go ?_); refine lex_gone rfl rfl ?_; simp only [EVB, seval]) | ((with_reducible refine guardd_go ?_); refine lexd_gone rfl rfl ?_; simp only [EVB, seval]) | ((first | ((with_reducible refine guard_go ?_); refine lex_guard rfl rfl (fun hg KS hKS => ?_) (fun hg => ?_)) | ((with_reducible refine guardd_go ?_); refine lexd_guard rfl rfl (fun hg KS hKS => ?_) (fun hg => ?_)) | ((with_reducible refine cond_go ?_); refine cond_k rfl (fun hg => ?_) (fun hg => ?_)) | (with_reducible refine And.intro (fun hg => ?_) (fun hg => ?_)) | fail) <;> first | ((with_reducible exfalso); exact absurd hg (by decide)) | ((try simp only [CNL] at hg) <;> first | ((with_reducible exfalso); omega) | ((with_reducible exfalso); first | exact tf (by assumption) hg | exact tf hg (by assumption)) | ((try with_reducible (have hT0 : True := hg; clear hT0 hg)); first | (with_reducible refine wpc_go ?_) | (try simp only [EVB, seval])))) | ((with_reducible refine hKS _ _ _ _ ?_); clear hKS; clear KS; simp only [EVB, seval]) | ((with_reducible refine And.intro ?_ ?_); focus (first | omega | exact u8_le _ | exact flat_intK _ | exact flat_bytK _ | (fail) | decide | (simp only [s1, range_len, List.length_map, bne_self_eq_false]; done))) | ((with_reducible refine ex_p ?_ (fun hh => ?_)); focus (first | omega | (simp only [s1, range_len, List.length_map, bne_self_eq_false]; omega))) | ((with_reducible refine hK _ _ _ ?_); clear hK hE hT; clear K) | ((with_reducible first | refine hE _ _ _ _ ?_ | refine hT _ _ _ ?_ | fail); (first | (clear hK hE hT; clear K) | (clear hR hE hT; clear K) | skip); try simp only [IFB, seval]) | ((with_reducible apply_assumption -symm -exfalso); try simp only [IFB, seval]) | fail)
    all_goals (refine post_a hres (.inl rfl) ?_; simp only [RSB, ENB, seval, tiAll, true_and]; simp only [MAB, seval]; refine ⟨rfl, rfl, ?_, ?_, ?_⟩ <;> (first | rfl | (simp [WKB, Nat.add_comm, true_and]; done) | (simp only [WKB, seval])))

end Go.Proofs.Ytageceacjmmmdaa
