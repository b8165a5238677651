/-
  Contracts: jobs that are drawn. No conditions of its own.
-/
import Derived.Test.YtageceacjmmmdaaD1
import Derived.Test.YtageceacjmmmdaaU1
namespace Go.Proofs.Ytageceacjmmmdaa
set_option linter.unusedSimpArgs false
set_option linter.unusedVariables false
set_option linter.unusedSimpArgs false
set_option linter.unusedVariables false
set_option linter.defProp false
open Go.RowKit

def jobV (b : List UInt8) (c : Cu) (n : Int) : JobD := ⟨1 + bwV b c 4, if 1 + bwV b c 4 = 3 ∧ 0 < n then bwV b (bwC b c 4) n else 0⟩
def jobC (b : List UInt8) (c : Cu) (n : Int) : Cu := if 1 + bwV b c 4 = 3 ∧ 0 < n then bwC b (bwC b c 4) n else bwC b c 4
theorem jobV_rng (b : List UInt8) (c : Cu) (n : Int) : 1 ≤ (jobV b c n).Prog ∧ (jobV b c n).Prog ≤ 4 := by
  have := bwV_rng b c (n := 4) (by decide)
  unfold jobV
  dsimp only
  omega
theorem jobV_src (b : List UInt8) (c : Cu) {n : Int} (hn : 0 < n) : 0 ≤ (jobV b c n).Src ∧ (jobV b c n).Src < n ∧ ((jobV b c n).Prog ≠ 3 → (jobV b c n).Src = 0) := by
  have := bwV_rng b (bwC b c 4) hn
  unfold jobV
  dsimp only
  split
  · exact ⟨by omega, by omega, fun h => absurd (by omega) h⟩
  · exact ⟨by omega, by omega, fun _ => rfl⟩
theorem jobC_le {b : List UInt8} {c : Cu} (hb : b.length ≤ 1048576) (h : c.i ≤ 1048576) (n : Int) : (jobC b c n).i ≤ 1048576 := by
  unfold jobC
  split
  · exact bwC_le hb (bwC_le hb h _) _
  · exact bwC_le hb h _

set_option maxHeartbeats 2000000 in
theorem l10Job_k (b : List UInt8) (c : Cu) (n : Int) (hb : b.length ≤ 1048576) (hc : c.i ≤ 1048576) (hn : n ≤ 256) : FnOK Try.prog 75 ⟨2, [(0, some (.ro (b.map bytK))), (1, some (.box 113 [.sl 0 1 0 b.length, .v (.int .i64 (c.i : Int)), .v (.int .i64 c.h)]))], [.c (.ptr 1 0 0), .c (.v (.int .i64 n))],
    .agg [.v (.int .i64 (jobV b c n).Prog), .v (.int .i64 (jobV b c n).Src)], [(1, some (.box 113 [.sl 0 1 0 b.length, .v (.int .i64 ((jobC b c n).i : Int)), .v (.int .i64 (jobC b c n).h)]))], 2⟩ := by
  have k1 := l01Below_k b c 4 hb hc (by decide)
  have k2 := l01Below_k b (bwC b c 4) n hb (bwC_le hb hc _) hn
  have r1 := bwV_rng b c (n := 4) (by decide)
  by_cases h : 1 + bwV b c 4 = 3 ∧ 0 < n
  · have e1 : jobV b c n = ⟨1 + bwV b c 4, bwV b (bwC b c 4) n⟩ := by unfold jobV; rw [if_pos h]
    have e2 : jobC b c n = bwC b (bwC b c 4) n := by unfold jobC; rw [if_pos h]
    rw [e1, e2]
    refine fnOK_of true mixed Try.func75 rfl (by rfl) (by rfl) ?_
    have hres := congrArg Array.toList Try.results75
    simp only [Try.ntmps75, BGB, seval]
    repeat' (first | (with_reducible first | refine seq_k fun K hK hE hT => ?_ | refine block_k fun K hK hE hT => ?_ | refine region_k ?_ | refine lex_nil ?_ | fail) | ((with_reducible refine draw_k ?_ ?_); focus (first | rfl | kernel_rfl)) | ((with_reducible first | refine lex_move ?_ | refine lex_assign ?_); simp only [EVB, seval]) | (with_reducible first | refine lex_cons fun KS hKS => ?_ | refine lexd_cons fun KS hKS => ?_ | refine skip_k ?_ | refine exit_k ?_ | refine ret_k ?_ | fail) | ((with_reducible refine call_go ?_); (first | (refine call_a (k1) rfl rfl ?_; simp only [ENB, seval, tiAll, true_and]; simp only [MAB, seval]; refine ⟨rfl, ?_, ?_, ?_, rfl, ?_, ?_, ?_, ?_⟩; (iterate 6 (focus (first | rfl | (simp [CXB, map_take, true_and]; done) | (simp [CXB, true_and]; omega) | (dsimp only; omega)))); simp only [EFB, seval]) | (refine call_a (k2) rfl rfl ?_; simp only [ENB, seval, tiAll, true_and]; simp only [MAB, seval]; refine ⟨rfl, ?_, ?_, ?_, rfl, ?_, ?_, ?_, ?_⟩; (iterate 6 (focus (first | rfl | (simp [CXB, map_take, true_and]; done) | (simp [CXB, true_and]; omega) | (dsimp only; omega)))); simp only [EFB, seval]) | fail)) | ((with_reducible refine step_go ?_); (fail_if_success with_reducible refine call_go ?_); simp only [ENB, seval, tiAll, true_and]) | ((with_reducible refine lexd_nil ?_ ?_); focus (first | kernel_rfl | with_unfolding_all rfl)) | ((with_reducible refine guard_go ?_); refine lex_gone rfl rfl ?_; simp only [EVB, seval]) | ((first | ((with_reducible refine guard_go ?_); refine lex_guard rfl rfl (fun hg KS hKS => ?_) (fun hg => ?_)) | ((with_reducible refine guardd_go ?_); refine lexd_guard rfl rfl (fun hg KS hKS => ?_) (fun hg => ?_)) | ((with_reducible refine cond_go ?_); refine cond_k rfl (fun hg => ?_) (fun hg => ?_)) | (with_reducible refine And.intro (fun hg => ?_) (fun hg => ?_)) | fail) <;> first | (exact absurd hg (by decide)) | ((try simp only [CNL] at hg) <;> first | (exfalso; omega) | (exact (tf (by assumption) hg).elim) | (exact (tf hg (by assumption)).elim) | ((try with_reducible (have hT0 : True := hg; clear hT0 hg)); first | (with_reducible refine wpc_go ?_) | (try simp only [EVB, seval])))) | ((with_reducible refine hKS _ _ _ _ ?_); clear hKS; clear KS; simp only [EVB, seval]) | ((with_reducible refine And.intro ?_ ?_); focus (first | omega | exact u8_le _ | exact flat_intK _ | exact flat_bytK _ | (fail) | decide | (simp only [true_and]; done))) | ((with_reducible refine ex_p ?_ (fun hh => ?_)); focus (first | omega | (simp only [true_and]; omega))) | ((with_reducible refine hK _ _ _ ?_); clear hK hE hT; clear K) | ((with_reducible first | refine hE _ _ _ _ ?_ | refine hT _ _ _ ?_ | fail); (first | (clear hK hE hT; clear K) | (clear hR hE hT; clear K) | skip); try simp only [IFB, seval]) | ((with_reducible apply_assumption -symm -exfalso); try simp only [IFB, seval]) | fail)
    all_goals (refine post_a hres (.inl rfl) ?_; simp only [RSB, ENB, seval, tiAll, true_and]; simp only [MAB, seval]; refine ⟨rfl, rfl, ?_, ?_, ?_⟩ <;> (first | rfl | (simp [WKB, Nat.add_comm, true_and]; done) | (simp only [WKB, seval])))
  · have e1 : jobV b c n = ⟨1 + bwV b c 4, 0⟩ := by unfold jobV; rw [if_neg h]
    have e2 : jobC b c n = bwC b c 4 := by unfold jobC; rw [if_neg h]
    rw [e1, e2]
    refine fnOK_of true mixed Try.func75 rfl (by rfl) (by rfl) ?_
    have hres := congrArg Array.toList Try.results75
    simp only [Try.ntmps75, BGB, seval]
    repeat' (first | (with_reducible first | refine seq_k fun K hK hE hT => ?_ | refine block_k fun K hK hE hT => ?_ | refine region_k ?_ | refine lex_nil ?_ | fail) | ((with_reducible refine draw_k ?_ ?_); focus (first | rfl | kernel_rfl)) | ((with_reducible first | refine lex_move ?_ | refine lex_assign ?_); simp only [EVB, seval]) | (with_reducible first | refine lex_cons fun KS hKS => ?_ | refine lexd_cons fun KS hKS => ?_ | refine skip_k ?_ | refine exit_k ?_ | refine ret_k ?_ | fail) | ((with_reducible refine call_go ?_); (first | (refine call_a (k1) rfl rfl ?_; simp only [ENB, seval, tiAll, true_and]; simp only [MAB, seval]; refine ⟨rfl, ?_, ?_, ?_, rfl, ?_, ?_, ?_, ?_⟩; (iterate 6 (focus (first | rfl | (simp [CXB, map_take, true_and]; done) | (simp [CXB, true_and]; omega) | (dsimp only; omega)))); simp only [EFB, seval]) | (refine call_a (k2) rfl rfl ?_; simp only [ENB, seval, tiAll, true_and]; simp only [MAB, seval]; refine ⟨rfl, ?_, ?_, ?_, rfl, ?_, ?_, ?_, ?_⟩; (iterate 6 (focus (first | rfl | (simp [CXB, map_take, true_and]; done) | (simp [CXB, true_and]; omega) | (dsimp only; omega)))); simp only [EFB, seval]) | fail)) | ((with_reducible refine step_go ?_); (fail_if_success with_reducible refine call_go ?_); simp only [ENB, seval, tiAll, true_and]) | ((with_reducible refine lexd_nil ?_ ?_); focus (first | kernel_rfl | with_unfolding_all rfl)) | ((with_reducible refine guard_go ?_); refine lex_gone rfl rfl ?_; simp only [EVB, seval]) | ((first | ((with_reducible refine guard_go ?_); refine lex_guard rfl rfl (fun hg KS hKS => ?_) (fun hg => ?_)) | ((with_reducible refine guardd_go ?_); refine lexd_guard rfl rfl (fun hg KS hKS => ?_) (fun hg => ?_)) | ((with_reducible refine cond_go ?_); refine cond_k rfl (fun hg => ?_) (fun hg => ?_)) | (with_reducible refine And.intro (fun hg => ?_) (fun hg => ?_)) | fail) <;> first | (exact absurd hg (by decide)) | ((try simp only [CNL] at hg) <;> first | (exfalso; omega) | (exact (tf (by assumption) hg).elim) | (exact (tf hg (by assumption)).elim) | ((try with_reducible (have hT0 : True := hg; clear hT0 hg)); first | (with_reducible refine wpc_go ?_) | (try simp only [EVB, seval])))) | ((with_reducible refine hKS _ _ _ _ ?_); clear hKS; clear KS; simp only [EVB, seval]) | ((with_reducible refine And.intro ?_ ?_); focus (first | omega | exact u8_le _ | exact flat_intK _ | exact flat_bytK _ | (fail) | decide | (simp only [true_and]; done))) | ((with_reducible refine ex_p ?_ (fun hh => ?_)); focus (first | omega | (simp only [true_and]; omega))) | ((with_reducible refine hK _ _ _ ?_); clear hK hE hT; clear K) | ((with_reducible first | refine hE _ _ _ _ ?_ | refine hT _ _ _ ?_ | fail); (first | (clear hK hE hT; clear K) | (clear hR hE hT; clear K) | skip); try simp only [IFB, seval]) | ((with_reducible apply_assumption -symm -exfalso); try simp only [IFB, seval]) | fail)
    all_goals (refine post_a hres (.inl rfl) ?_; simp only [RSB, ENB, seval, tiAll, true_and]; simp only [MAB, seval]; refine ⟨rfl, rfl, ?_, ?_, ?_⟩ <;> (first | rfl | (simp [WKB, Nat.add_comm, true_and]; done) | (simp only [WKB, seval])))

end Go.Proofs.Ytageceacjmmmdaa
