/-
  The law FnRunOk returns true. No conditions of its own.
-/
import Derived.Test.YtageceacjmmmdaaD5
import Derived.Test.YtageceacjmmmdaaDQ2
import Derived.Test.YtageceacjmmmdaaSh
namespace Go.Proofs.Ytageceacjmmmdaa
set_option linter.unusedSimpArgs false
set_option linter.unusedVariables false
set_option linter.unusedSimpArgs false
set_option linter.unusedVariables false
set_option linter.defProp false
set_option maxRecDepth 20000
open Go.RowKit

set_option maxHeartbeats 16000000 in
theorem FnRunOk_k (b : List UInt8) (rb : b.length ≤ maxLen ∧ ∀ y ∈ b, (fun _ => True) y) : FnOK Try.prog 7 ⟨1, [(0, some (.ro (b.map bytK)))], [.c (.sl 0 1 0 b.length)], .c (.v (.bool true)), [], 1⟩ := by
  have q := rb.1
  simp only [maxLen] at q
  rcases Nat.lt_or_ge 1048576 b.length with h | h
  · have h0 := h
    refine fnOK_of true mixed Try.func7 rfl (by rfl) (by rfl) ?_
    have hres := congrArg Array.toList Try.results7
    simp only [Try.ntmps7, BGB, seval]
    repeat' (first | (with_reducible first | refine seq_k fun K hK hE hT => ?_ | refine block_k fun K hK hE hT => ?_ | refine region_k ?_ | refine lex_nil ?_ | fail) | ((with_reducible refine draw_k ?_ ?_); focus (first | rfl | kernel_rfl)) | ((with_reducible first | refine lex_move ?_ | refine lex_assign ?_); simp only [EVB, seval]) | (with_reducible first | refine lex_cons fun KS hKS => ?_ | refine lexd_cons fun KS hKS => ?_ | refine skip_k ?_ | refine exit_k ?_ | refine ret_k ?_ | fail) | ((with_reducible refine call_go ?_); fail) | ((with_reducible refine step_go ?_); (fail_if_success with_reducible refine call_go ?_); simp only [ENB, seval, tiAll, List.length_map, List.getElem_map, bytK]) | ((with_reducible refine lexd_nil ?_ ?_); focus (first | kernel_rfl | with_unfolding_all rfl)) | ((with_reducible refine guard_go ?_); refine lex_gone rfl rfl ?_; simp only [EVB, seval]) | ((first | ((with_reducible refine guard_go ?_); refine lex_guard rfl rfl (fun hg KS hKS => ?_) (fun hg => ?_)) | ((with_reducible refine guardd_go ?_); refine lexd_guard rfl rfl (fun hg KS hKS => ?_) (fun hg => ?_)) | ((with_reducible refine cond_go ?_); refine cond_k rfl (fun hg => ?_) (fun hg => ?_)) | (with_reducible refine And.intro (fun hg => ?_) (fun hg => ?_)) | fail) <;> first | (exact absurd hg (by decide)) | ((try simp only [CNL] at hg) <;> first | (exfalso; omega) | (exact (tf (by assumption) hg).elim) | (exact (tf hg (by assumption)).elim) | ((try with_reducible (have hT0 : True := hg; clear hT0 hg)); first | (with_reducible refine wpc_go ?_) | (try simp only [EVB, seval])))) | ((with_reducible refine hKS _ _ _ _ ?_); clear hKS; clear KS; simp only [EVB, seval]) | ((with_reducible refine And.intro ?_ ?_); focus (first | omega | exact u8_le _ | exact flat_intK _ | exact flat_bytK _ | (fail) | decide | (simp only [List.length_map, List.getElem_map, bytK]; done))) | ((with_reducible refine ex_p ?_ (fun hh => ?_)); focus (first | omega | (simp only [List.length_map, List.getElem_map, bytK]; omega))) | ((with_reducible refine hK _ _ _ ?_); clear hK hE hT; clear K) | ((with_reducible first | refine hE _ _ _ _ ?_ | refine hT _ _ _ ?_ | fail); (first | (clear hK hE hT; clear K) | (clear hR hE hT; clear K) | skip); try simp only [IFB, seval]) | ((with_reducible apply_assumption -symm -exfalso); try simp only [IFB, seval]) | fail)
    (refine post_a hres (.inl rfl) ?_; simp only [RSB, ENB, seval, tiAll, true_and]; simp only [MAB, seval]; refine ⟨rfl, rfl, ?_, ?_, ?_⟩ <;> (first | rfl | (simp [WKB, Nat.add_comm, true_and]; done) | (simp only [WKB, seval])))
  · have km := makeRun_k b h
    have hg := mrG_ok b (newC b)
    obtain ⟨ho, hi, _⟩ := mr_begun b (newC b)
    obtain ⟨g, hge⟩ : ∃ g, g = mrG b (newC b) := ⟨_, rfl⟩
    obtain ⟨r, hre⟩ : ∃ r, r = mrR b (newC b) := ⟨_, rfl⟩
    simp only [← hge, ← hre] at km hg ho hi
    clear hge hre
    have hgl := (graphOk_out hg.1).1.2.2
    have h3 := ra_ok ho 3 (by omega)
    have h1 := ra_ok ho 1 (by omega)
    have s0 := runOk_small ho
    have s1 := runOk_small h1.1
    have s3 := runOk_small h3.1
    have k1 := implRunIter_k g r (by omega) (by omega)
    have k2 := implRunAll_k g r 3 (by omega) (by omega) (by omega)
    have k3 := implRunAll_k g r 1 (by omega) (by omega) (by omega)
    have k4 := implRunAll_k g (raTo g r 1) 2 (by omega) (by omega) (by omega)
    have k5 := sameRun_k (raTo g r 3) (by omega)
    have k6 := implRunOk_k g (raTo g r 3) (by omega) (by omega)
    rw [show raR g r 3 = raTo g r 3 from ra_of ho 3] at k2
    rw [show raR g r 1 = raTo g r 1 from ra_of ho 1] at k3
    rw [show raR g (raTo g r 1) 2 = raTo g (raTo g r 1) 2 from ra_of h1.1 2, ra_add] at k4
    rw [h3.1] at k6
    rw [riOk_eq ho (by omega)] at k1
    simp only [Nat.reduceAdd] at k4
    obtain ⟨o, hoe⟩ : ∃ o, o = raTo g r 3 := ⟨_, rfl⟩
    obtain ⟨u, hue⟩ : ∃ u, u = raTo g r 1 := ⟨_, rfl⟩
    simp only [← hoe] at k2 k4 k5 k6 s3
    simp only [← hue] at k3 k4 s1
    clear hoe hue h3 h1
    cases hd : r.Done with
    | true =>
      rw [hd] at k1
      simp only [Bool.not_true] at k1
      refine fnOK_of true mixed Try.func7 rfl (by rfl) (by rfl) ?_
      have hres := congrArg Array.toList Try.results7
      simp only [Try.ntmps7, BGB, seval]
      repeat' (first | (with_reducible first | refine seq_k fun K hK hE hT => ?_ | refine block_k fun K hK hE hT => ?_ | refine region_k ?_ | refine lex_nil ?_ | fail) | ((with_reducible refine draw_k ?_ ?_); focus (first | rfl | kernel_rfl)) | ((with_reducible first | refine lex_move ?_ | refine lex_assign ?_); simp only [EVB, seval]) | (with_reducible first | refine lex_cons fun KS hKS => ?_ | refine lexd_cons fun KS hKS => ?_ | refine skip_k ?_ | refine exit_k ?_ | refine ret_k ?_ | fail) | ((with_reducible refine call_go ?_); (first | ((first | refine call_a (km) rfl rfl ?_ | refine call_a (k1) rfl rfl ?_ | refine call_a (k5) rfl rfl ?_ | refine call_a (k6) rfl rfl ?_ | fail); simp only [ENB, seval, tiAll, List.length_map, List.getElem_map, bytK, hd]; simp only [MAB, seval]; refine ⟨rfl, ?_, ?_, ?_, rfl, ?_, ?_, ?_, ?_⟩; (iterate 6 (focus (first | rfl | (simp [CXB, map_take, List.length_map, List.getElem_map, bytK, hd]; done) | (simp [CXB, List.length_map, List.getElem_map, bytK, hd]; omega) | (dsimp only; omega)))); simp only [EFB, seval]) | (refine call_a (k2) rfl rfl ?_; simp only [ENB, seval, tiAll, List.length_map, List.getElem_map, bytK, hd]; simp only [MAB, seval]; refine ⟨rfl, ?_, ?_, ?_, rfl, ?_, ?_, ?_, ?_⟩; (iterate 6 (focus (first | rfl | (simp [CXB, map_take, List.length_map, List.getElem_map, bytK, hd]; done) | (simp [CXB, List.length_map, List.getElem_map, bytK, hd]; omega) | (dsimp only; omega)))); simp only [EFB, seval]) | (refine call_a (k3) rfl rfl ?_; simp only [ENB, seval, tiAll, List.length_map, List.getElem_map, bytK, hd]; simp only [MAB, seval]; refine ⟨rfl, ?_, ?_, ?_, rfl, ?_, ?_, ?_, ?_⟩; (iterate 6 (focus (first | rfl | (simp [CXB, map_take, List.length_map, List.getElem_map, bytK, hd]; done) | (simp [CXB, List.length_map, List.getElem_map, bytK, hd]; omega) | (dsimp only; omega)))); simp only [EFB, seval]) | (refine call_a (k4) rfl rfl ?_; simp only [ENB, seval, tiAll, List.length_map, List.getElem_map, bytK, hd]; simp only [MAB, seval]; refine ⟨rfl, ?_, ?_, ?_, rfl, ?_, ?_, ?_, ?_⟩; (iterate 6 (focus (first | rfl | (simp [CXB, map_take, List.length_map, List.getElem_map, bytK, hd]; done) | (simp [CXB, List.length_map, List.getElem_map, bytK, hd]; omega) | (dsimp only; omega)))); simp only [EFB, seval]) | fail)) | ((with_reducible refine step_go ?_); (fail_if_success with_reducible refine call_go ?_); simp only [ENB, seval, tiAll, List.length_map, List.getElem_map, bytK, hd]) | ((with_reducible refine lexd_nil ?_ ?_); focus (first | kernel_rfl | with_unfolding_all rfl)) | ((with_reducible refine guard_go ?_); refine lex_gone rfl rfl ?_; simp only [EVB, seval]) | ((first | ((with_reducible refine guard_go ?_); refine lex_guard rfl rfl (fun hg KS hKS => ?_) (fun hg => ?_)) | ((with_reducible refine guardd_go ?_); refine lexd_guard rfl rfl (fun hg KS hKS => ?_) (fun hg => ?_)) | ((with_reducible refine cond_go ?_); refine cond_k rfl (fun hg => ?_) (fun hg => ?_)) | (with_reducible refine And.intro (fun hg => ?_) (fun hg => ?_)) | fail) <;> first | (exact absurd hg (by decide)) | ((try simp only [CNL] at hg) <;> first | (exfalso; omega) | (exact (tf (by assumption) hg).elim) | (exact (tf hg (by assumption)).elim) | ((try with_reducible (have hT0 : True := hg; clear hT0 hg)); first | (with_reducible refine wpc_go ?_) | (try simp only [EVB, seval])))) | ((with_reducible refine hKS _ _ _ _ ?_); clear hKS; clear KS; simp only [EVB, seval]) | ((with_reducible refine And.intro ?_ ?_); focus (first | omega | exact u8_le _ | exact flat_intK _ | exact flat_bytK _ | (fail) | decide | (simp only [List.length_map, List.getElem_map, bytK, hd]; done))) | ((with_reducible refine ex_p ?_ (fun hh => ?_)); focus (first | omega | (simp only [List.length_map, List.getElem_map, bytK, hd]; omega))) | ((with_reducible refine hK _ _ _ ?_); clear hK hE hT; clear K) | ((with_reducible first | refine hE _ _ _ _ ?_ | refine hT _ _ _ ?_ | fail); (first | (clear hK hE hT; clear K) | (clear hR hE hT; clear K) | skip); try simp only [IFB, seval]) | ((with_reducible apply_assumption -symm -exfalso); try simp only [IFB, seval]) | fail)
      all_goals (refine post_a hres (.inl rfl) ?_; simp only [RSB, ENB, seval, tiAll, true_and]; simp only [MAB, seval]; refine ⟨rfl, rfl, ?_, ?_, ?_⟩ <;> (first | rfl | (simp [WKB, Nat.add_comm, true_and]; done) | (simp only [WKB, seval])))
    | false =>
      have hri : riOk g r = true := by rw [riOk_eq ho (by omega), hd]; rfl
      obtain ⟨x1, x2⟩ := ri_ok hri
      have x3 := (runOk_in x1).1.vl
      have x4 := runOk_small x1
      have k7 := implRunOk_k g (riR g r) (by omega) (by omega)
      rw [x1] at k7
      rw [hd] at k1
      simp only [Bool.not_false] at k1
      obtain ⟨x, hxe⟩ : ∃ x, x = riR g r := ⟨_, rfl⟩
      simp only [← hxe] at k1 k7 x2 x3 x4
      clear hxe x1
      refine fnOK_of true mixed Try.func7 rfl (by rfl) (by rfl) ?_
      have hres := congrArg Array.toList Try.results7
      simp only [Try.ntmps7, BGB, seval]
      repeat' (first | (with_reducible first | refine seq_k fun K hK hE hT => ?_ | refine block_k fun K hK hE hT => ?_ | refine region_k ?_ | refine lex_nil ?_ | fail) | ((with_reducible refine draw_k ?_ ?_); focus (first | rfl | kernel_rfl)) | ((with_reducible first | refine lex_move ?_ | refine lex_assign ?_); simp only [EVB, seval]) | (with_reducible first | refine lex_cons fun KS hKS => ?_ | refine lexd_cons fun KS hKS => ?_ | refine skip_k ?_ | refine exit_k ?_ | refine ret_k ?_ | fail) | ((with_reducible refine call_go ?_); (first | ((first | refine call_a (km) rfl rfl ?_ | refine call_a (k1) rfl rfl ?_ | refine call_a (k5) rfl rfl ?_ | fail); simp only [ENB, seval, tiAll, List.length_map, List.getElem_map, bytK, hd, x2, x3]; simp only [MAB, seval]; refine ⟨rfl, ?_, ?_, ?_, rfl, ?_, ?_, ?_, ?_⟩; (iterate 6 (focus (first | rfl | (simp [CXB, map_take, List.length_map, List.getElem_map, bytK, hd, x2, x3]; done) | (simp [CXB, List.length_map, List.getElem_map, bytK, hd, x2, x3]; omega) | (dsimp only; omega)))); simp only [EFB, seval]) | (refine call_a (k2) rfl rfl ?_; simp only [ENB, seval, tiAll, List.length_map, List.getElem_map, bytK, hd, x2, x3]; simp only [MAB, seval]; refine ⟨rfl, ?_, ?_, ?_, rfl, ?_, ?_, ?_, ?_⟩; (iterate 6 (focus (first | rfl | (simp [CXB, map_take, List.length_map, List.getElem_map, bytK, hd, x2, x3]; done) | (simp [CXB, List.length_map, List.getElem_map, bytK, hd, x2, x3]; omega) | (dsimp only; omega)))); simp only [EFB, seval]) | (refine call_a (k3) rfl rfl ?_; simp only [ENB, seval, tiAll, List.length_map, List.getElem_map, bytK, hd, x2, x3]; simp only [MAB, seval]; refine ⟨rfl, ?_, ?_, ?_, rfl, ?_, ?_, ?_, ?_⟩; (iterate 6 (focus (first | rfl | (simp [CXB, map_take, List.length_map, List.getElem_map, bytK, hd, x2, x3]; done) | (simp [CXB, List.length_map, List.getElem_map, bytK, hd, x2, x3]; omega) | (dsimp only; omega)))); simp only [EFB, seval]) | (refine call_a (k4) rfl rfl ?_; simp only [ENB, seval, tiAll, List.length_map, List.getElem_map, bytK, hd, x2, x3]; simp only [MAB, seval]; refine ⟨rfl, ?_, ?_, ?_, rfl, ?_, ?_, ?_, ?_⟩; (iterate 6 (focus (first | rfl | (simp [CXB, map_take, List.length_map, List.getElem_map, bytK, hd, x2, x3]; done) | (simp [CXB, List.length_map, List.getElem_map, bytK, hd, x2, x3]; omega) | (dsimp only; omega)))); simp only [EFB, seval]) | (refine call_a (k6) rfl rfl ?_; simp only [ENB, seval, tiAll, List.length_map, List.getElem_map, bytK, hd, x2, x3]; simp only [MAB, seval]; refine ⟨rfl, ?_, ?_, ?_, rfl, ?_, ?_, ?_, ?_⟩; (iterate 6 (focus (first | rfl | (simp [CXB, map_take, List.length_map, List.getElem_map, bytK, hd, x2, x3]; done) | (simp [CXB, List.length_map, List.getElem_map, bytK, hd, x2, x3]; omega) | (dsimp only; omega)))); simp only [EFB, seval]) | (refine call_a (k7) rfl rfl ?_; simp only [ENB, seval, tiAll, List.length_map, List.getElem_map, bytK, hd, x2, x3]; simp only [MAB, seval]; refine ⟨rfl, ?_, ?_, ?_, rfl, ?_, ?_, ?_, ?_⟩; (iterate 6 (focus (first | rfl | (simp [CXB, map_take, List.length_map, List.getElem_map, bytK, hd, x2, x3]; done) | (simp [CXB, List.length_map, List.getElem_map, bytK, hd, x2, x3]; omega) | (dsimp only; omega)))); simp only [EFB, seval]) | fail)) | ((with_reducible refine step_go ?_); (fail_if_success with_reducible refine call_go ?_); simp only [ENB, seval, tiAll, List.length_map, List.getElem_map, bytK, hd, x2, x3]) | ((with_reducible refine lexd_nil ?_ ?_); focus (first | kernel_rfl | with_unfolding_all rfl)) | ((with_reducible refine guard_go ?_); refine lex_gone rfl rfl ?_; simp only [EVB, seval]) | ((first | ((with_reducible refine guard_go ?_); refine lex_guard rfl rfl (fun hg KS hKS => ?_) (fun hg => ?_)) | ((with_reducible refine guardd_go ?_); refine lexd_guard rfl rfl (fun hg KS hKS => ?_) (fun hg => ?_)) | ((with_reducible refine cond_go ?_); refine cond_k rfl (fun hg => ?_) (fun hg => ?_)) | (with_reducible refine And.intro (fun hg => ?_) (fun hg => ?_)) | fail) <;> first | (exact absurd hg (by decide)) | ((try simp only [CNL] at hg) <;> first | (exfalso; omega) | (exact (tf (by assumption) hg).elim) | (exact (tf hg (by assumption)).elim) | ((try with_reducible (have hT0 : True := hg; clear hT0 hg)); first | (with_reducible refine wpc_go ?_) | (try simp only [EVB, seval])))) | ((with_reducible refine hKS _ _ _ _ ?_); clear hKS; clear KS; simp only [EVB, seval]) | ((with_reducible refine And.intro ?_ ?_); focus (first | omega | exact u8_le _ | exact flat_intK _ | exact flat_bytK _ | (fail) | decide | (simp only [List.length_map, List.getElem_map, bytK, hd, x2, x3]; done))) | ((with_reducible refine ex_p ?_ (fun hh => ?_)); focus (first | omega | (simp only [List.length_map, List.getElem_map, bytK, hd, x2, x3]; omega))) | ((with_reducible refine hK _ _ _ ?_); clear hK hE hT; clear K) | ((with_reducible first | refine hE _ _ _ _ ?_ | refine hT _ _ _ ?_ | fail); (first | (clear hK hE hT; clear K) | (clear hR hE hT; clear K) | skip); try simp only [IFB, seval]) | ((with_reducible apply_assumption -symm -exfalso); try simp only [IFB, seval]) | fail)
      all_goals first
        | (exfalso; omega)
        | (refine post_a hres (.inl rfl) ?_; simp only [RSB, ENB, seval, tiAll, true_and]; simp only [MAB, seval]; refine ⟨rfl, rfl, ?_, ?_, ?_⟩ <;> (first | rfl | (simp [WKB, Nat.add_comm, true_and]; done) | (simp only [WKB, seval])))
        | fail

end Go.Proofs.Ytageceacjmmmdaa
