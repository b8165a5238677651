/-
  The law FnExactGraphFile returns true. No conditions of its own.
-/
import Derived.Test.YtageceacjmmmdaaP4
import Derived.Test.YtageceacjmmmdaaSh5
namespace Go.Proofs.Ytageceacjmmmdaa
set_option linter.unusedSimpArgs false
set_option linter.unusedVariables false
set_option linter.unusedSimpArgs false
set_option linter.unusedVariables false
set_option linter.defProp false
set_option maxRecDepth 20000
open Go.RowKit

theorem fbR_len (k : Nat) (d : List UInt8) : (fbR k d).length ≤ 60020 := by
  unfold fbR
  split
  · rename_i h
    unfold frO at h
    rw [decide_eq_true_eq] at h
    rw [fbL_len]; omega
  · simp
theorem gfR_len (f : FarmD) : (gfR f).length ≤ 60020 := by
  unfold gfR
  split
  · exact fbR_len _ _
  · simp
theorem shSum_leP : ∀ l : List ShardD, shSum l ≤ 8 * (l.length + edSum l)
  | [] => by simp [shSum]
  | s :: l => by
    have := shSum_leP l
    simp only [shSum, edSum, List.length_cons]; omega

set_option maxHeartbeats 16000000 in
theorem FnExactGraphFile_k (x : FarmD) (rx : x.rng) : FnOK Try.prog 13 ⟨2, [(0, some (.ro ((x.Ends).map intK))), (1, some (.ro ((x.Shards).map (ShardD.k 221))))], [.agg [.v (.int .i64 x.N), .sl 0 1 0 (x.Ends).length, .sl 1 3 0 (x.Shards).length]], .c (.v (.bool true)), [], 2⟩ := by
  have r0 := rx.2.1.1
  have r1 := rx.2.2.1
  have r2 : ∀ s ∈ x.Shards, s.Edges.length ≤ 9223372036854775807 := fun s hs => (rx.2.2.2 s hs).2.2.1
  simp only [maxLen] at r0 r1
  have cz := szFarm_k x 1048576 ⟨by omega, by omega, r2⟩ (by omega)
  rcases Nat.lt_or_ge 1048576 ((x.Ends).length + ((x.Shards).length + edSum x.Shards)) with c1 | c1
  · have s1 : szL 1048576 ((x.Ends).length + ((x.Shards).length + edSum x.Shards)) = -1 := szL_neg _ _ c1
    refine fnOK_of true mixed Try.func13 rfl (by rfl) (by rfl) ?_
    have hres := congrArg Array.toList Try.results13
    simp only [Try.ntmps13, BGB, seval]
    repeat' (first | (with_reducible first | refine seq_k fun K hK hE hT => ?_ | refine block_k fun K hK hE hT => ?_ | refine lex_nil ?_ | fail) | ((with_reducible refine region_k ?_); simp only [dstsOf, EVB, seval]) | ((with_reducible refine draw_k ?_ fun D hD => ?_); (focus (first | rfl | kernel_rfl)); simp only [dstsOf, EVB, seval]) | ((with_reducible first | refine lex_move ?_ | refine lex_assign ?_); simp only [EVB, seval]) | (with_reducible first | refine lex_cons fun KS hKS => ?_ | refine lexd_cons fun KS hKS => ?_ | refine skip_k ?_ | refine exit_k ?_ | refine ret_k ?_ | fail) | ((with_reducible refine call_go ?_); (first | ((first | refine call_a (cz) rfl rfl ?_ | fail); simp only [ENB, seval, tiAll, s1]; simp only [MAB, seval]; refine ⟨rfl, ?_, ?_, ?_, rfl, ?_, ?_, ?_, ?_⟩; (iterate 6 (focus (first | rfl | (simp [CXB, map_take, s1]; done) | (simp [CXB, s1]; omega) | (dsimp only; omega)))); simp only [EFB, seval]) | fail)) | ((with_reducible refine step_go ?_); (fail_if_success with_reducible refine call_go ?_); simp only [ENB, seval, tiAll, s1]) | ((with_reducible refine lexd_nil ?_ ?_); (focus (refine hD _ ?_; first | kernel_rfl | with_unfolding_all rfl)); clear hD; clear D) | ((with_reducible refine guard_go ?_); refine lex_gone rfl rfl ?_; simp only [EVB, seval]) | ((with_reducible refine guardd_go ?_); refine lexd_gone rfl rfl ?_; simp only [EVB, seval]) | ((first | ((with_reducible refine guard_go ?_); refine lex_guard rfl rfl (fun hg KS hKS => ?_) (fun hg => ?_)) | ((with_reducible refine guardd_go ?_); refine lexd_guard rfl rfl (fun hg KS hKS => ?_) (fun hg => ?_)) | ((with_reducible refine cond_go ?_); refine cond_k rfl (fun hg => ?_) (fun hg => ?_)) | (with_reducible refine And.intro (fun hg => ?_) (fun hg => ?_)) | fail) <;> first | ((with_reducible exfalso); exact absurd hg (by decide)) | ((try simp only [CNL] at hg) <;> first | ((with_reducible exfalso); omega) | ((with_reducible exfalso); first | exact tf (by assumption) hg | exact tf hg (by assumption)) | ((try with_reducible (have hT0 : True := hg; clear hT0 hg)); first | (with_reducible refine wpc_go ?_) | (try simp only [EVB, seval])))) | ((with_reducible refine hKS _ _ _ _ ?_); clear hKS; clear KS; simp only [EVB, seval]) | ((with_reducible refine And.intro ?_ ?_); focus (first | omega | exact u8_le _ | exact flat_intK _ | exact flat_bytK _ | (fail) | decide | (simp only [s1]; done))) | ((with_reducible refine ex_p ?_ (fun hh => ?_)); focus (first | omega | (simp only [s1]; omega))) | ((with_reducible refine hK _ _ _ ?_); clear hK hE hT; clear K) | ((with_reducible first | refine hE _ _ _ _ ?_ | refine hT _ _ _ ?_ | fail); (first | (clear hK hE hT; clear K) | (clear hR hE hT; clear K) | skip); try simp only [IFB, seval]) | ((with_reducible apply_assumption -symm -exfalso); try simp only [IFB, seval]) | fail)
    (refine post_a hres (.inl rfl) ?_; simp only [RSB, ENB, seval, tiAll, true_and]; simp only [MAB, seval]; refine ⟨rfl, rfl, ?_, ?_, ?_⟩ <;> (first | rfl | (simp [WKB, Nat.add_comm, true_and]; done) | (simp only [WKB, seval])))
  · have s1 : szL 1048576 ((x.Ends).length + ((x.Shards).length + edSum x.Shards)) = ((1048576 - ((x.Ends).length + ((x.Shards).length + edSum x.Shards)) : Nat) : Int) := szL_sub _ _ c1
    have bl : (x.Ends).length ≤ 1048576 ∧ (x.Shards).length ≤ 1048576 ∧ (∀ s ∈ x.Shards, s.Edges.length ≤ 1048576) := ⟨by omega, by omega, fun s hs => by have := edSum_get hs; omega⟩
    have bs := shSum_leP x.Shards
    have cs := specGraphFile_k x bl
    have ci := implGraphFile_k x bl
    have z0 := gfR_len x
    obtain ⟨r, hr⟩ : ∃ r, r = gfR x := ⟨_, rfl⟩
    obtain ⟨b, hb⟩ : ∃ b, b = gfB x := ⟨_, rfl⟩
    rw [← hr] at cs ci z0
    rw [← hb] at cs ci
    clear hr hb
    have ee := eqByteS_k r r (by omega) (by omega)
    rw [decide_eq_true rfl] at ee
    have ev := eqFarm_k x x bl bl
    rw [decide_eq_true rfl] at ev
    refine fnOK_of true mixed Try.func13 rfl (by rfl) (by rfl) ?_
    have hres := congrArg Array.toList Try.results13
    simp only [Try.ntmps13, BGB, seval]
    repeat' (first | (with_reducible first | refine seq_k fun K hK hE hT => ?_ | refine block_k fun K hK hE hT => ?_ | refine lex_nil ?_ | fail) | ((with_reducible refine region_k ?_); simp only [dstsOf, EVB, seval]) | ((with_reducible refine draw_k ?_ fun D hD => ?_); (focus (first | rfl | kernel_rfl)); simp only [dstsOf, EVB, seval]) | ((with_reducible first | refine lex_move ?_ | refine lex_assign ?_); simp only [EVB, seval]) | (with_reducible first | refine lex_cons fun KS hKS => ?_ | refine lexd_cons fun KS hKS => ?_ | refine skip_k ?_ | refine exit_k ?_ | refine ret_k ?_ | fail) | ((with_reducible refine call_go ?_); (first | ((first | refine call_a (cz) rfl rfl ?_ | refine call_a (toFarm_k x bl) rfl rfl ?_ | refine call_a (cs) rfl rfl ?_ | refine call_a (ci) rfl rfl ?_ | refine call_a (ee) rfl rfl ?_ | refine call_a (ev) rfl rfl ?_ | refine call_a (markFarm_k x 1 (by omega)) rfl rfl ?_ | refine call_a (markByteS_k r 1 (by omega)) rfl rfl ?_ | refine call_a (heldByteS_k r.length 1 (by omega)) rfl rfl ?_ | fail); simp only [ENB, seval, tiAll, s1, range_len, bne_self_eq_false]; simp only [MAB, seval]; refine ⟨rfl, ?_, ?_, ?_, rfl, ?_, ?_, ?_, ?_⟩; (iterate 6 (focus (first | rfl | (simp [CXB, map_take, s1, range_len, bne_self_eq_false]; done) | (simp [CXB, s1, range_len, bne_self_eq_false]; omega) | (dsimp only; omega)))); simp only [EFB, seval]) | fail)) | ((with_reducible refine step_go ?_); (fail_if_success with_reducible refine call_go ?_); simp only [ENB, seval, tiAll, s1, range_len, bne_self_eq_false]) | ((with_reducible refine lexd_nil ?_ ?_); (focus (refine hD _ ?_; first | kernel_rfl | with_unfolding_all rfl)); clear hD; clear D) | ((with_reducible refine guard_go ?_); refine lex_gone rfl rfl ?_; simp only [EVB, seval]) | ((with_reducible refine guardd_go ?_); refine lexd_gone rfl rfl ?_; simp only [EVB, seval]) | ((first | ((with_reducible refine guard_go ?_); refine lex_guard rfl rfl (fun hg KS hKS => ?_) (fun hg => ?_)) | ((with_reducible refine guardd_go ?_); refine lexd_guard rfl rfl (fun hg KS hKS => ?_) (fun hg => ?_)) | ((with_reducible refine cond_go ?_); refine cond_k rfl (fun hg => ?_) (fun hg => ?_)) | (with_reducible refine And.intro (fun hg => ?_) (fun hg => ?_)) | fail) <;> first | ((with_reducible exfalso); exact absurd hg (by decide)) | ((try simp only [CNL] at hg) <;> first | ((with_reducible exfalso); omega) | ((with_reducible exfalso); first | exact tf (by assumption) hg | exact tf hg (by assumption)) | ((try with_reducible (have hT0 : True := hg; clear hT0 hg)); first | (with_reducible refine wpc_go ?_) | (try simp only [EVB, seval])))) | ((with_reducible refine hKS _ _ _ _ ?_); clear hKS; clear KS; simp only [EVB, seval]) | ((with_reducible refine And.intro ?_ ?_); focus (first | omega | exact u8_le _ | exact flat_intK _ | exact flat_bytK _ | (fail) | decide | (simp only [s1, range_len, bne_self_eq_false]; done))) | ((with_reducible refine ex_p ?_ (fun hh => ?_)); focus (first | omega | (simp only [s1, range_len, bne_self_eq_false]; omega))) | ((with_reducible refine hK _ _ _ ?_); clear hK hE hT; clear K) | ((with_reducible first | refine hE _ _ _ _ ?_ | refine hT _ _ _ ?_ | fail); (first | (clear hK hE hT; clear K) | (clear hR hE hT; clear K) | skip); try simp only [IFB, seval]) | ((with_reducible apply_assumption -symm -exfalso); try simp only [IFB, seval]) | fail)
    all_goals (refine post_a hres (.inl rfl) ?_; simp only [RSB, ENB, seval, tiAll, true_and]; simp only [MAB, seval]; refine ⟨rfl, rfl, ?_, ?_, ?_⟩ <;> (first | rfl | (simp [WKB, Nat.add_comm, true_and]; done) | (simp only [WKB, seval])))

end Go.Proofs.Ytageceacjmmmdaa
