/-
  Contracts of the law's helpers for View and slices of them. No conditions of its own.
-/
import Derived.Test.YtmdajpgemcaefaaS1
namespace Go.Proofs.Ytmdajpgemcaefaa
set_option linter.unusedSimpArgs false
set_option linter.unusedVariables false
open Go.RowKit

structure ViewD where
  In : Bool
  Out : Bool
  W : Int
  Val : Int
deriving DecidableEq

def ViewD.k (x : ViewD) : List DC := [.v (.bool x.In), .v (.bool x.Out), .v (.int .i64 x.W), .v (.int .i64 x.Val)]
def ViewD.s (x : ViewD) : List CV := [.v (.bool x.In), .v (.bool x.Out), .v (.int .i64 x.W), .v (.int .i64 x.Val)]
theorem flat_View (l : List ViewD) : ∀ e ∈ l.map ViewD.k, ∀ c ∈ e, DC.flat c := flat_map (fun x c hc => by simp only [ViewD.k, List.mem_cons, List.not_mem_nil, or_false] at hc; rcases hc with rfl | rfl | rfl | rfl <;> exact ⟨_, rfl, rfl⟩) l
/-- marked cells -/
def ViewD.q (q : Nat) : List DC := [.v (.bool (((q : Int)) % 3 == 0)), .v (.bool (((q : Int) + 1) % 3 == 0)), .v (.int .i64 ((q : Int) + 1 + 1)), .v (.int .i64 ((q : Int) + 1 + 1 + 1))]
def ViewD.g (k i : Nat) : List DC := ViewD.q (k + 4 * i)

set_option maxHeartbeats 1000000 in
theorem toView_k (x : ViewD) : FnOK Try.prog 144 ⟨0, [], [.agg x.s], .agg x.s, [], 0⟩ := by
  obtain ⟨x1, x2, x3, x4⟩ := x
  simp only [ViewD.s]
  refine fnOK_of true mixed Try.func144 rfl (by rfl) (by rfl) ?_
  have hres := congrArg Array.toList Try.results144
  simp only [Try.ntmps144, List.length_cons, List.length_nil, Nat.reduceAdd, Nat.reduceSub, List.replicate_succ, List.replicate_zero, List.cons_append, List.nil_append]
  repeat' (first
  | (with_reducible first | refine seq_k fun K hK hE hT => ?_ | refine block_k fun K hK hE hT => ?_ | refine region_k ?_ | refine lex_nil ?_ | fail)
  | ((with_reducible refine draw_k ?_ ?_); focus (first | rfl | kernel_rfl))
  | ((with_reducible first | refine lex_move ?_ | refine lex_assign ?_); simp only [EVB, Nat.reduceEqDiff, reduceIte])
  | (with_reducible first | refine lex_cons fun KS hKS => ?_ | refine lexd_cons fun KS hKS => ?_ | fail)
  | ((with_reducible refine call_go ?_); fail)
  | ((with_reducible refine step_go ?_); (fail_if_success with_reducible refine call_go ?_); simp only [ENB, Nat.reduceAdd, Nat.reduceSub, Nat.reduceMul, Nat.reduceLeDiff, Nat.reduceBEq, Nat.reduceBNe, Nat.reduceEqDiff, Nat.reduceLT, reduceIte, reduceCtorEq, Int.reduceToNat, tiAll, true_and])
  | ((with_reducible refine lexd_nil ?_ ?_); focus (first | kernel_rfl | with_unfolding_all rfl))
  | ((with_reducible refine guard_go ?_); refine lex_gone rfl rfl ?_; simp only [EVB, Nat.reduceEqDiff, reduceIte])
  | ((first | ((with_reducible refine guard_go ?_); refine lex_guard rfl rfl (fun hg KS hKS => ?_) (fun hg => ?_)) | ((with_reducible refine guardd_go ?_); refine lexd_guard rfl rfl (fun hg KS hKS => ?_) (fun hg => ?_)) | fail) <;> first | (exact absurd hg (by decide)) | ((try simp only [CNL] at hg) <;> first | (exfalso; omega) | (exact (tf (by assumption) hg).elim) | (exact (tf hg (by assumption)).elim) | ((try with_reducible (have hT0 : True := hg; clear hT0 hg)); try simp only [EVB, Nat.reduceEqDiff, reduceIte])))
  | ((with_reducible refine hKS _ _ _ _ ?_); clear hKS; clear KS; simp only [EVB, Nat.reduceEqDiff, reduceIte])
  | ((first | ((with_reducible refine cond_go ?_); refine cond_k rfl (fun hc => ?_) (fun hc => ?_)) | (with_reducible refine And.intro (fun hc => ?_) (fun hc => ?_)) | fail) <;> first | (exact absurd hc (by decide)) | ((try simp only [CNL] at hc) <;> first | (exfalso; omega) | (exact (tf (by assumption) hc).elim) | (exact (tf hc (by assumption)).elim) | skip))
  | ((with_reducible refine And.intro ?_ ?_); focus (first | omega | exact u8_le _ | exact flat_intK _ | exact flat_bytK _ | (fail) | decide | (simp only [true_and]; done)))
  | ((with_reducible refine ex_p ?_ (fun hh => ?_)); focus (first | omega | (simp only [true_and]; omega)))
  | (with_reducible first | refine skip_k ?_ | refine exit_k ?_ | refine ret_k ?_ | fail)
  | ((with_reducible refine hK _ _ _ ?_); clear hK hE hT; clear K)
  | ((with_reducible first | refine hE _ _ _ _ ?_ | refine hT _ _ _ ?_ | fail); (first | (clear hK hE hT; clear K) | (clear hR hE hT; clear K) | skip); try simp only [Nat.reduceEqDiff, if_true, if_false, reduceIte])
  | ((with_reducible apply_assumption -symm -exfalso); try simp only [Nat.reduceEqDiff, if_true, if_false, reduceIte])
  | fail)
  (refine post_a hres (.inl rfl) ?_; simp only [RSB, ENB, Nat.reduceAdd, Nat.reduceSub, Nat.reduceMul, Nat.reduceLeDiff, Nat.reduceBEq, Nat.reduceBNe, Nat.reduceEqDiff, Nat.reduceLT, reduceIte, reduceCtorEq, Int.reduceToNat, tiAll, true_and, exists_eq_left']; simp only [MAB, Nat.reduceEqDiff, Nat.reduceAdd, reduceIte, reduceCtorEq]; refine ⟨rfl, rfl, ?_, ?_, ?_⟩ <;> (first | rfl | (simp [WKB, Nat.add_comm, true_and]; done) | (simp only [WKB, Nat.reduceEqDiff, reduceIte, List.forall_mem_cons, List.not_mem_nil, false_implies, implies_true])))

set_option maxHeartbeats 1000000 in
theorem eqView_k (x y : ViewD) : FnOK Try.prog 103 ⟨0, [], [.agg x.s, .agg y.s], .c (.v (.bool (decide (x = y)))), [], 0⟩ := by
  obtain ⟨x1, x2, x3, x4⟩ := x
  obtain ⟨y1, y2, y3, y4⟩ := y
  simp only [ViewD.s, ViewD.mk.injEq]
  refine fnOK_of true mixed Try.func103 rfl (by rfl) (by rfl) ?_
  have hres := congrArg Array.toList Try.results103
  simp only [Try.ntmps103, List.length_cons, List.length_nil, Nat.reduceAdd, Nat.reduceSub, List.replicate_succ, List.replicate_zero, List.cons_append, List.nil_append]
  repeat' (first
  | (with_reducible first | refine seq_k fun K hK hE hT => ?_ | refine block_k fun K hK hE hT => ?_ | refine region_k ?_ | refine lex_nil ?_ | fail)
  | ((with_reducible refine draw_k ?_ ?_); focus (first | rfl | kernel_rfl))
  | ((with_reducible first | refine lex_move ?_ | refine lex_assign ?_); simp only [EVB, Nat.reduceEqDiff, reduceIte])
  | (with_reducible first | refine lex_cons fun KS hKS => ?_ | refine lexd_cons fun KS hKS => ?_ | fail)
  | ((with_reducible refine call_go ?_); fail)
  | ((with_reducible refine step_go ?_); (fail_if_success with_reducible refine call_go ?_); simp only [ENB, Nat.reduceAdd, Nat.reduceSub, Nat.reduceMul, Nat.reduceLeDiff, Nat.reduceBEq, Nat.reduceBNe, Nat.reduceEqDiff, Nat.reduceLT, reduceIte, reduceCtorEq, Int.reduceToNat, tiAll, true_and])
  | ((with_reducible refine lexd_nil ?_ ?_); focus (first | kernel_rfl | with_unfolding_all rfl))
  | ((with_reducible refine guard_go ?_); refine lex_gone rfl rfl ?_; simp only [EVB, Nat.reduceEqDiff, reduceIte])
  | ((first | ((with_reducible refine guard_go ?_); refine lex_guard rfl rfl (fun hg KS hKS => ?_) (fun hg => ?_)) | ((with_reducible refine guardd_go ?_); refine lexd_guard rfl rfl (fun hg KS hKS => ?_) (fun hg => ?_)) | fail) <;> first | (exact absurd hg (by decide)) | ((try simp only [CNL] at hg) <;> first | (exfalso; omega) | (exact (tf (by assumption) hg).elim) | (exact (tf hg (by assumption)).elim) | ((try with_reducible (have hT0 : True := hg; clear hT0 hg)); try simp only [EVB, Nat.reduceEqDiff, reduceIte])))
  | ((with_reducible refine hKS _ _ _ _ ?_); clear hKS; clear KS; simp only [EVB, Nat.reduceEqDiff, reduceIte])
  | ((first | ((with_reducible refine cond_go ?_); refine cond_k rfl (fun hc => ?_) (fun hc => ?_)) | (with_reducible refine And.intro (fun hc => ?_) (fun hc => ?_)) | fail) <;> first | (exact absurd hc (by decide)) | ((try simp only [CNL] at hc) <;> first | (exfalso; omega) | (exact (tf (by assumption) hc).elim) | (exact (tf hc (by assumption)).elim) | skip))
  | ((with_reducible refine And.intro ?_ ?_); focus (first | omega | exact u8_le _ | exact flat_intK _ | exact flat_bytK _ | (fail) | decide | (simp only [true_and]; done)))
  | ((with_reducible refine ex_p ?_ (fun hh => ?_)); focus (first | omega | (simp only [true_and]; omega)))
  | (with_reducible first | refine skip_k ?_ | refine exit_k ?_ | refine ret_k ?_ | fail)
  | ((with_reducible refine hK _ _ _ ?_); clear hK hE hT; clear K)
  | ((with_reducible first | refine hE _ _ _ _ ?_ | refine hT _ _ _ ?_ | fail); (first | (clear hK hE hT; clear K) | (clear hR hE hT; clear K) | skip); try simp only [Nat.reduceEqDiff, if_true, if_false, reduceIte])
  | ((with_reducible apply_assumption -symm -exfalso); try simp only [Nat.reduceEqDiff, if_true, if_false, reduceIte])
  | fail)
  all_goals (try simp only [ViewD.mk.injEq, not_and] at *)
  all_goals (refine post_a hres (.inl rfl) ?_; simp only [RSB, ENB, Nat.reduceAdd, Nat.reduceSub, Nat.reduceMul, Nat.reduceLeDiff, Nat.reduceBEq, Nat.reduceBNe, Nat.reduceEqDiff, Nat.reduceLT, reduceIte, reduceCtorEq, Int.reduceToNat, tiAll, *, exists_eq_left']; simp only [MAB, Nat.reduceEqDiff, Nat.reduceAdd, reduceIte, reduceCtorEq]; refine ⟨rfl, rfl, ?_, ?_, ?_⟩ <;> (first | rfl | (simp [WKB, Nat.add_comm, *]; done) | (simp only [WKB, Nat.reduceEqDiff, reduceIte, List.forall_mem_cons, List.not_mem_nil, false_implies, implies_true])))
  all_goals (refine congrArg (fun b => SV.c (CV.v (Value.bool b))) ?_; symm; simp only [decide_eq_false_iff_not, decide_eq_true_eq]; first | omega | (intro h; simp_all))

set_option maxHeartbeats 2000000 in
theorem toViewS_k (l : List ViewD) (hl : l.length ≤ 1048576) : FnOK Try.prog 79 ⟨1, [(0, some (.ro (l.map ViewD.k)))], [.c (.sl 0 4 0 l.length)], .c (.sl 1 4 0 l.length), [(1, some (.row 118 (l.map ViewD.k)))], 2⟩ := by
  refine fnOK_of true mixed Try.func79 rfl (by rfl) (by rfl) ?_
  have hres := congrArg Array.toList Try.results79
  simp only [Try.ntmps79, List.length_cons, List.length_nil, Nat.reduceAdd, Nat.reduceSub, List.replicate_succ, List.replicate_zero, List.cons_append, List.nil_append]
  repeat' (first
  | (with_reducible first | refine seq_k fun K hK hE hT => ?_ | refine block_k fun K hK hE hT => ?_ | refine region_k ?_ | refine lex_nil ?_ | fail)
  | ((with_reducible refine draw_k ?_ ?_); focus (first | rfl | kernel_rfl))
  | ((with_reducible first | refine lex_move ?_ | refine lex_assign ?_); simp only [EVB, Nat.reduceEqDiff, reduceIte])
  | (with_reducible first | refine lex_cons fun KS hKS => ?_ | refine lexd_cons fun KS hKS => ?_ | fail)
  | ((with_reducible refine call_go ?_); fail)
  | ((with_reducible refine step_go ?_); (fail_if_success with_reducible refine call_go ?_); simp only [ENB, Nat.reduceAdd, Nat.reduceSub, Nat.reduceMul, Nat.reduceLeDiff, Nat.reduceBEq, Nat.reduceBNe, Nat.reduceEqDiff, Nat.reduceLT, reduceIte, reduceCtorEq, Int.reduceToNat, tiAll, true_and])
  | ((with_reducible refine lexd_nil ?_ ?_); focus (first | kernel_rfl | with_unfolding_all rfl))
  | ((with_reducible refine guard_go ?_); refine lex_gone rfl rfl ?_; simp only [EVB, Nat.reduceEqDiff, reduceIte])
  | ((first | ((with_reducible refine guard_go ?_); refine lex_guard rfl rfl (fun hg KS hKS => ?_) (fun hg => ?_)) | ((with_reducible refine guardd_go ?_); refine lexd_guard rfl rfl (fun hg KS hKS => ?_) (fun hg => ?_)) | fail) <;> first | (exact absurd hg (by decide)) | ((try simp only [CNL] at hg) <;> first | (exfalso; omega) | (exact (tf (by assumption) hg).elim) | (exact (tf hg (by assumption)).elim) | ((try with_reducible (have hT0 : True := hg; clear hT0 hg)); try simp only [EVB, Nat.reduceEqDiff, reduceIte])))
  | ((with_reducible refine hKS _ _ _ _ ?_); clear hKS; clear KS; simp only [EVB, Nat.reduceEqDiff, reduceIte])
  | ((first | ((with_reducible refine cond_go ?_); refine cond_k rfl (fun hc => ?_) (fun hc => ?_)) | (with_reducible refine And.intro (fun hc => ?_) (fun hc => ?_)) | fail) <;> first | (exact absurd hc (by decide)) | ((try simp only [CNL] at hc) <;> first | (exfalso; omega) | (exact (tf (by assumption) hc).elim) | (exact (tf hc (by assumption)).elim) | skip))
  | ((with_reducible refine And.intro ?_ ?_); focus (first | omega | exact u8_le _ | exact flat_intK _ | exact flat_bytK _ | (fail) | decide | (simp only [true_and]; done)))
  | ((with_reducible refine ex_p ?_ (fun hh => ?_)); focus (first | omega | (simp only [true_and]; omega)))
  | (with_reducible first | refine skip_k ?_ | refine exit_k ?_ | refine ret_k ?_ | fail)
  | ((with_reducible refine hK _ _ _ ?_); clear hK hE hT; clear K)
  | ((with_reducible first | refine hE _ _ _ _ ?_ | refine hT _ _ _ ?_ | fail); (first | (clear hK hE hT; clear K) | (clear hR hE hT; clear K) | skip); try simp only [Nat.reduceEqDiff, if_true, if_false, reduceIte])
  | ((with_reducible apply_assumption -symm -exfalso); try simp only [Nat.reduceEqDiff, if_true, if_false, reduceIte])
  | fail)
  refine loop_v (X := {k : Nat // k ≤ l.length}) [] (fun x => [(4, .c (.v (.int .i64 ((x.1 : Nat) : Int))))]) (fun x => [(0, some (.ro (l.map ViewD.k))), (1, some (.row 118 (fillTo ViewD.k (ViewD.k ⟨false, false, 0, 0⟩) l x.1)))]) 2 (fun x => l.length - x.1) ⟨0, by omega⟩ ?_
  simp only [KPB, Nat.reduceBEq, Nat.reduceBNe, Nat.reduceAdd, reduceIte]
  refine ⟨?_, ?_⟩
  · (refine wk_a ?_; simp only [MAB, Nat.reduceEqDiff, Nat.reduceAdd, reduceIte, reduceCtorEq]; refine ⟨rfl, rfl, (by decide), ?_, ?_⟩; all_goals (first | (simp only [WKB, Nat.reduceEqDiff, reduceIte, List.forall_mem_cons, List.not_mem_nil, false_implies, implies_true, fillTo_zero, ViewD.k, Nat.reduceLT, Nat.zero_lt_succ]; done) | (simp [WKB, Nat.reduceEqDiff, reduceIte, List.forall_mem_cons, List.not_mem_nil, false_implies, implies_true, fillTo_zero, ViewD.k]; done) | simp only [WKB, Nat.reduceEqDiff, reduceIte, List.forall_mem_cons, List.not_mem_nil, false_implies, implies_true]))
  · rintro ⟨k, hk⟩ K hR hE hT
    repeat' (first
  | (with_reducible first | refine seq_k fun K hK hE hT => ?_ | refine block_k fun K hK hE hT => ?_ | refine region_k ?_ | refine lex_nil ?_ | fail)
  | ((with_reducible refine draw_k ?_ ?_); focus (first | rfl | kernel_rfl))
  | ((with_reducible first | refine lex_move ?_ | refine lex_assign ?_); simp only [EVB, Nat.reduceEqDiff, reduceIte])
  | (with_reducible first | refine lex_cons fun KS hKS => ?_ | refine lexd_cons fun KS hKS => ?_ | fail)
  | ((with_reducible refine call_go ?_); (first | ((first | refine call_a (toView_k (l[k]'(by omega))) rfl rfl ?_ | fail); simp only [ENB, Nat.reduceAdd, Nat.reduceSub, Nat.reduceMul, Nat.reduceLeDiff, Nat.reduceBEq, Nat.reduceBNe, Nat.reduceEqDiff, Nat.reduceLT, reduceIte, reduceCtorEq, Int.reduceToNat, tiAll, List.length_map, List.getElem_map, fillTo_len, fillTo_get, fillTo_set, ViewD.k, ViewD.s]; simp only [MAB, Nat.reduceEqDiff, Nat.reduceAdd, reduceIte, reduceCtorEq]; refine ⟨rfl, ?_, ?_, ?_, rfl, ?_, ?_, (by dsimp only; omega), ?_⟩; (focus (first | rfl | (simp [CXB, List.length_map, List.getElem_map, fillTo_len, fillTo_get, fillTo_set, ViewD.k, ViewD.s]; done) | (simp [CXB, List.length_map, List.getElem_map, fillTo_len, fillTo_get, fillTo_set, ViewD.k, ViewD.s]; omega))); (focus (simp [CXB])); (focus (simp [CXB, map_take, List.length_map, List.getElem_map, fillTo_len, fillTo_get, fillTo_set, ViewD.k, ViewD.s]; done)); (focus (simp [CXB])); (focus (simp [CXB])); simp only [EFB, Nat.reduceSub, Nat.reduceAdd, Nat.reduceLT, reduceIte]) | fail))
  | ((with_reducible refine step_go ?_); (fail_if_success with_reducible refine call_go ?_); simp only [ENB, Nat.reduceAdd, Nat.reduceSub, Nat.reduceMul, Nat.reduceLeDiff, Nat.reduceBEq, Nat.reduceBNe, Nat.reduceEqDiff, Nat.reduceLT, reduceIte, reduceCtorEq, Int.reduceToNat, tiAll, List.length_map, List.getElem_map, fillTo_len, fillTo_get, fillTo_set, ViewD.k, ViewD.s])
  | ((with_reducible refine lexd_nil ?_ ?_); focus (first | kernel_rfl | with_unfolding_all rfl))
  | ((with_reducible refine guard_go ?_); refine lex_gone rfl rfl ?_; simp only [EVB, Nat.reduceEqDiff, reduceIte])
  | ((first | ((with_reducible refine guard_go ?_); refine lex_guard rfl rfl (fun hg KS hKS => ?_) (fun hg => ?_)) | ((with_reducible refine guardd_go ?_); refine lexd_guard rfl rfl (fun hg KS hKS => ?_) (fun hg => ?_)) | fail) <;> first | (exact absurd hg (by decide)) | ((try simp only [CNL] at hg) <;> first | (exfalso; omega) | (exact (tf (by assumption) hg).elim) | (exact (tf hg (by assumption)).elim) | ((try with_reducible (have hT0 : True := hg; clear hT0 hg)); try simp only [EVB, Nat.reduceEqDiff, reduceIte])))
  | ((with_reducible refine hKS _ _ _ _ ?_); clear hKS; clear KS; simp only [EVB, Nat.reduceEqDiff, reduceIte])
  | ((first | ((with_reducible refine cond_go ?_); refine cond_k rfl (fun hc => ?_) (fun hc => ?_)) | (with_reducible refine And.intro (fun hc => ?_) (fun hc => ?_)) | fail) <;> first | (exact absurd hc (by decide)) | ((try simp only [CNL] at hc) <;> first | (exfalso; omega) | (exact (tf (by assumption) hc).elim) | (exact (tf hc (by assumption)).elim) | skip))
  | ((with_reducible refine And.intro ?_ ?_); focus (first | omega | exact u8_le _ | exact flat_intK _ | exact flat_bytK _ | (fail) | decide | (simp only [List.length_map, List.getElem_map, fillTo_len, fillTo_get, fillTo_set, ViewD.k, ViewD.s]; done)))
  | ((with_reducible refine ex_p ?_ (fun hh => ?_)); focus (first | omega | (simp only [List.length_map, List.getElem_map, fillTo_len, fillTo_get, fillTo_set, ViewD.k, ViewD.s]; omega)))
  | (with_reducible first | refine skip_k ?_ | refine exit_k ?_ | refine ret_k ?_ | fail)
  | ((with_reducible refine hK _ _ _ ?_); clear hK hE hT; clear K)
  | ((with_reducible first | refine hE _ _ _ _ ?_ | refine hT _ _ _ ?_ | fail); (first | (clear hK hE hT; clear K) | (clear hR hE hT; clear K) | skip); try simp only [Nat.reduceEqDiff, if_true, if_false, reduceIte])
  | ((with_reducible apply_assumption -symm -exfalso); try simp only [Nat.reduceEqDiff, if_true, if_false, reduceIte])
  | fail)
    · refine hR.out ⟨k + 1, by omega⟩ _ _ _ (by simp only; omega) ?_
      have e := fillTo_set ViewD.k (ViewD.k ⟨false, false, 0, 0⟩) l k (by omega)
      simp only [ViewD.k] at e
      (refine wk_a ?_; simp only [MAB, Nat.reduceEqDiff, Nat.reduceAdd, reduceIte, reduceCtorEq]; refine ⟨rfl, rfl, (by decide), ?_, ?_⟩; all_goals (first | (simp only [WKB, Nat.reduceEqDiff, reduceIte, List.forall_mem_cons, List.not_mem_nil, false_implies, implies_true, e, ViewD.k, Nat.reduceLT, Nat.zero_lt_succ]; done) | (simp [WKB, Nat.reduceEqDiff, reduceIte, List.forall_mem_cons, List.not_mem_nil, false_implies, implies_true, e, ViewD.k]; done) | simp only [WKB, Nat.reduceEqDiff, reduceIte, List.forall_mem_cons, List.not_mem_nil, false_implies, implies_true]))
    · obtain rfl : k = l.length := by omega
      (refine post_a hres (.inl rfl) ?_; simp only [RSB, ENB, Nat.reduceAdd, Nat.reduceSub, Nat.reduceMul, Nat.reduceLeDiff, Nat.reduceBEq, Nat.reduceBNe, Nat.reduceEqDiff, Nat.reduceLT, reduceIte, reduceCtorEq, Int.reduceToNat, tiAll, fillTo_end, exists_eq_left']; simp only [MAB, Nat.reduceEqDiff, Nat.reduceAdd, reduceIte, reduceCtorEq]; refine ⟨rfl, rfl, ?_, ?_, ?_⟩ <;> (first | rfl | (simp [WKB, Nat.add_comm, fillTo_end]; done) | (simp only [WKB, Nat.reduceEqDiff, reduceIte, List.forall_mem_cons, List.not_mem_nil, false_implies, implies_true])))

set_option maxHeartbeats 2000000 in
theorem eqViewS_k (l m : List ViewD) (hl : l.length ≤ 1048576) (hm : m.length ≤ 1048576) : FnOK Try.prog 39 ⟨2, [(0, some (.ro (l.map ViewD.k))), (1, some (.ro (m.map ViewD.k)))], [.c (.sl 0 4 0 l.length), .c (.sl 1 4 0 m.length)], .c (.v (.bool (decide (l = m)))), [], 2⟩ := by
  refine fnOK_of true mixed Try.func39 rfl (by rfl) (by rfl) ?_
  have hres := congrArg Array.toList Try.results39
  simp only [Try.ntmps39, List.length_cons, List.length_nil, Nat.reduceAdd, Nat.reduceSub, List.replicate_succ, List.replicate_zero, List.cons_append, List.nil_append]
  repeat' (first
  | (with_reducible first | refine seq_k fun K hK hE hT => ?_ | refine block_k fun K hK hE hT => ?_ | refine region_k ?_ | refine lex_nil ?_ | fail)
  | ((with_reducible refine draw_k ?_ ?_); focus (first | rfl | kernel_rfl))
  | ((with_reducible first | refine lex_move ?_ | refine lex_assign ?_); simp only [EVB, Nat.reduceEqDiff, reduceIte])
  | (with_reducible first | refine lex_cons fun KS hKS => ?_ | refine lexd_cons fun KS hKS => ?_ | fail)
  | ((with_reducible refine call_go ?_); fail)
  | ((with_reducible refine step_go ?_); (fail_if_success with_reducible refine call_go ?_); simp only [ENB, Nat.reduceAdd, Nat.reduceSub, Nat.reduceMul, Nat.reduceLeDiff, Nat.reduceBEq, Nat.reduceBNe, Nat.reduceEqDiff, Nat.reduceLT, reduceIte, reduceCtorEq, Int.reduceToNat, tiAll, true_and])
  | ((with_reducible refine lexd_nil ?_ ?_); focus (first | kernel_rfl | with_unfolding_all rfl))
  | ((with_reducible refine guard_go ?_); refine lex_gone rfl rfl ?_; simp only [EVB, Nat.reduceEqDiff, reduceIte])
  | ((first | ((with_reducible refine guard_go ?_); refine lex_guard rfl rfl (fun hg KS hKS => ?_) (fun hg => ?_)) | ((with_reducible refine guardd_go ?_); refine lexd_guard rfl rfl (fun hg KS hKS => ?_) (fun hg => ?_)) | fail) <;> first | (exact absurd hg (by decide)) | ((try simp only [CNL] at hg) <;> first | (exfalso; omega) | (exact (tf (by assumption) hg).elim) | (exact (tf hg (by assumption)).elim) | ((try with_reducible (have hT0 : True := hg; clear hT0 hg)); try simp only [EVB, Nat.reduceEqDiff, reduceIte])))
  | ((with_reducible refine hKS _ _ _ _ ?_); clear hKS; clear KS; simp only [EVB, Nat.reduceEqDiff, reduceIte])
  | ((first | ((with_reducible refine cond_go ?_); refine cond_k rfl (fun hc => ?_) (fun hc => ?_)) | (with_reducible refine And.intro (fun hc => ?_) (fun hc => ?_)) | fail) <;> first | (exact absurd hc (by decide)) | ((try simp only [CNL] at hc) <;> first | (exfalso; omega) | (exact (tf (by assumption) hc).elim) | (exact (tf hc (by assumption)).elim) | skip))
  | ((with_reducible refine And.intro ?_ ?_); focus (first | omega | exact u8_le _ | exact flat_intK _ | exact flat_bytK _ | (fail) | decide | (simp only [true_and]; done)))
  | ((with_reducible refine ex_p ?_ (fun hh => ?_)); focus (first | omega | (simp only [true_and]; omega)))
  | (with_reducible first | refine skip_k ?_ | refine exit_k ?_ | refine ret_k ?_ | fail)
  | ((with_reducible refine hK _ _ _ ?_); clear hK hE hT; clear K)
  | ((with_reducible first | refine hE _ _ _ _ ?_ | refine hT _ _ _ ?_ | fail); (first | (clear hK hE hT; clear K) | (clear hR hE hT; clear K) | skip); try simp only [Nat.reduceEqDiff, if_true, if_false, reduceIte])
  | ((with_reducible apply_assumption -symm -exfalso); try simp only [Nat.reduceEqDiff, if_true, if_false, reduceIte])
  | fail)
  · (have hfin := eqs_len (l := l) (m := m) (by omega); (refine post_a hres (.inl rfl) ?_; simp only [RSB, ENB, Nat.reduceAdd, Nat.reduceSub, Nat.reduceMul, Nat.reduceLeDiff, Nat.reduceBEq, Nat.reduceBNe, Nat.reduceEqDiff, Nat.reduceLT, reduceIte, reduceCtorEq, Int.reduceToNat, tiAll, ← hfin, exists_eq_left']; simp only [MAB, Nat.reduceEqDiff, Nat.reduceAdd, reduceIte, reduceCtorEq]; refine ⟨rfl, rfl, ?_, ?_, ?_⟩ <;> (first | rfl | (simp [WKB, Nat.add_comm, ← hfin]; done) | (simp only [WKB, Nat.reduceEqDiff, reduceIte, List.forall_mem_cons, List.not_mem_nil, false_implies, implies_true]))))
  · have hlm : l.length = m.length := by omega
    refine loop_v (X := {k : Nat // k ≤ l.length ∧ Rnd (∀ i, i < k → l[i]? = m[i]?)}) [] (fun x => [(5, .c (.v (.int .i64 ((x.1 : Nat) : Int))))]) (fun x => [(0, some (.ro (l.map ViewD.k))), (1, some (.ro (m.map ViewD.k)))]) 2 (fun x => l.length - x.1) ⟨0, by omega, ⟨fun i hi => by omega⟩⟩ ?_
    simp only [KPB, Nat.reduceBEq, Nat.reduceBNe, Nat.reduceAdd, reduceIte]
    refine ⟨?_, ?_⟩
    · (refine wk_a ?_; simp only [MAB, Nat.reduceEqDiff, Nat.reduceAdd, reduceIte, reduceCtorEq]; refine ⟨rfl, rfl, (by decide), ?_, ?_⟩; all_goals (first | (simp only [WKB, Nat.reduceEqDiff, reduceIte, List.forall_mem_cons, List.not_mem_nil, false_implies, implies_true, true_and, Nat.reduceLT, Nat.zero_lt_succ]; done) | (simp [WKB, Nat.reduceEqDiff, reduceIte, List.forall_mem_cons, List.not_mem_nil, false_implies, implies_true, true_and]; done) | simp only [WKB, Nat.reduceEqDiff, reduceIte, List.forall_mem_cons, List.not_mem_nil, false_implies, implies_true]))
    · rintro ⟨k, hk, hi⟩ K hR hE hT
      repeat' (first
  | (with_reducible first | refine seq_k fun K hK hE hT => ?_ | refine block_k fun K hK hE hT => ?_ | refine region_k ?_ | refine lex_nil ?_ | fail)
  | ((with_reducible refine draw_k ?_ ?_); focus (first | rfl | kernel_rfl))
  | ((with_reducible first | refine lex_move ?_ | refine lex_assign ?_); simp only [EVB, Nat.reduceEqDiff, reduceIte])
  | (with_reducible first | refine lex_cons fun KS hKS => ?_ | refine lexd_cons fun KS hKS => ?_ | fail)
  | ((with_reducible refine call_go ?_); (first | ((first | refine call_a (eqView_k (l[k]'(by omega)) (m[k]'(by omega))) rfl rfl ?_ | fail); simp only [ENB, Nat.reduceAdd, Nat.reduceSub, Nat.reduceMul, Nat.reduceLeDiff, Nat.reduceBEq, Nat.reduceBNe, Nat.reduceEqDiff, Nat.reduceLT, reduceIte, reduceCtorEq, Int.reduceToNat, tiAll, List.length_map, List.getElem_map, ViewD.k, ViewD.s]; simp only [MAB, Nat.reduceEqDiff, Nat.reduceAdd, reduceIte, reduceCtorEq]; refine ⟨rfl, ?_, ?_, ?_, rfl, ?_, ?_, (by dsimp only; omega), ?_⟩; (focus (first | rfl | (simp [CXB, List.length_map, List.getElem_map, ViewD.k, ViewD.s]; done) | (simp [CXB, List.length_map, List.getElem_map, ViewD.k, ViewD.s]; omega))); (focus (simp [CXB])); (focus (simp [CXB, map_take, List.length_map, List.getElem_map, ViewD.k, ViewD.s]; done)); (focus (simp [CXB])); (focus (simp [CXB])); simp only [EFB, Nat.reduceSub, Nat.reduceAdd, Nat.reduceLT, reduceIte]) | fail))
  | ((with_reducible refine step_go ?_); (fail_if_success with_reducible refine call_go ?_); simp only [ENB, Nat.reduceAdd, Nat.reduceSub, Nat.reduceMul, Nat.reduceLeDiff, Nat.reduceBEq, Nat.reduceBNe, Nat.reduceEqDiff, Nat.reduceLT, reduceIte, reduceCtorEq, Int.reduceToNat, tiAll, List.length_map, List.getElem_map, ViewD.k, ViewD.s])
  | ((with_reducible refine lexd_nil ?_ ?_); focus (first | kernel_rfl | with_unfolding_all rfl))
  | ((with_reducible refine guard_go ?_); refine lex_gone rfl rfl ?_; simp only [EVB, Nat.reduceEqDiff, reduceIte])
  | ((first | ((with_reducible refine guard_go ?_); refine lex_guard rfl rfl (fun hg KS hKS => ?_) (fun hg => ?_)) | ((with_reducible refine guardd_go ?_); refine lexd_guard rfl rfl (fun hg KS hKS => ?_) (fun hg => ?_)) | fail) <;> first | (exact absurd hg (by decide)) | ((try simp only [CNL] at hg) <;> first | (exfalso; omega) | (exact (tf (by assumption) hg).elim) | (exact (tf hg (by assumption)).elim) | ((try with_reducible (have hT0 : True := hg; clear hT0 hg)); try simp only [EVB, Nat.reduceEqDiff, reduceIte])))
  | ((with_reducible refine hKS _ _ _ _ ?_); clear hKS; clear KS; simp only [EVB, Nat.reduceEqDiff, reduceIte])
  | ((first | ((with_reducible refine cond_go ?_); refine cond_k rfl (fun hc => ?_) (fun hc => ?_)) | (with_reducible refine And.intro (fun hc => ?_) (fun hc => ?_)) | fail) <;> first | (exact absurd hc (by decide)) | ((try simp only [CNL] at hc) <;> first | (exfalso; omega) | (exact (tf (by assumption) hc).elim) | (exact (tf hc (by assumption)).elim) | skip))
  | ((with_reducible refine And.intro ?_ ?_); focus (first | omega | exact u8_le _ | exact flat_intK _ | exact flat_bytK _ | (fail) | decide | (simp only [List.length_map, List.getElem_map, ViewD.k, ViewD.s]; done)))
  | ((with_reducible refine ex_p ?_ (fun hh => ?_)); focus (first | omega | (simp only [List.length_map, List.getElem_map, ViewD.k, ViewD.s]; omega)))
  | (with_reducible first | refine skip_k ?_ | refine exit_k ?_ | refine ret_k ?_ | fail)
  | ((with_reducible refine hK _ _ _ ?_); clear hK hE hT; clear K)
  | ((with_reducible first | refine hE _ _ _ _ ?_ | refine hT _ _ _ ?_ | fail); (first | (clear hK hE hT; clear K) | (clear hR hE hT; clear K) | skip); try simp only [Nat.reduceEqDiff, if_true, if_false, reduceIte])
  | ((with_reducible apply_assumption -symm -exfalso); try simp only [Nat.reduceEqDiff, if_true, if_false, reduceIte])
  | fail)
      · (have hfin := eqs_hit (l := l) (m := m) k (by omega) (by omega) (by assumption); (refine post_a hres (.inl rfl) ?_; simp only [RSB, ENB, Nat.reduceAdd, Nat.reduceSub, Nat.reduceMul, Nat.reduceLeDiff, Nat.reduceBEq, Nat.reduceBNe, Nat.reduceEqDiff, Nat.reduceLT, reduceIte, reduceCtorEq, Int.reduceToNat, tiAll, ← hfin, exists_eq_left']; simp only [MAB, Nat.reduceEqDiff, Nat.reduceAdd, reduceIte, reduceCtorEq]; refine ⟨rfl, rfl, ?_, ?_, ?_⟩ <;> (first | rfl | (simp [WKB, Nat.add_comm, ← hfin]; done) | (simp only [WKB, Nat.reduceEqDiff, reduceIte, List.forall_mem_cons, List.not_mem_nil, false_implies, implies_true]))))
      · refine hR.out ⟨k + 1, by omega, ⟨fun i h => ?_⟩⟩ _ _ _ (by simp only; omega) ?_
        · by_cases hik : i = k
          · subst hik
            rw [List.getElem?_eq_getElem (by omega), List.getElem?_eq_getElem (by omega)]
            exact congrArg some (by assumption)
          · exact hi.out i (by omega)
        · (refine wk_a ?_; simp only [MAB, Nat.reduceEqDiff, Nat.reduceAdd, reduceIte, reduceCtorEq]; refine ⟨rfl, rfl, (by decide), ?_, ?_⟩; all_goals (first | (simp only [WKB, Nat.reduceEqDiff, reduceIte, List.forall_mem_cons, List.not_mem_nil, false_implies, implies_true, true_and, Nat.reduceLT, Nat.zero_lt_succ]; done) | (simp [WKB, Nat.reduceEqDiff, reduceIte, List.forall_mem_cons, List.not_mem_nil, false_implies, implies_true, true_and]; done) | simp only [WKB, Nat.reduceEqDiff, reduceIte, List.forall_mem_cons, List.not_mem_nil, false_implies, implies_true]))
      · (have hfin := eqs_end (l := l) (m := m) hlm k (by omega) hi.out; (refine post_a hres (.inl rfl) ?_; simp only [RSB, ENB, Nat.reduceAdd, Nat.reduceSub, Nat.reduceMul, Nat.reduceLeDiff, Nat.reduceBEq, Nat.reduceBNe, Nat.reduceEqDiff, Nat.reduceLT, reduceIte, reduceCtorEq, Int.reduceToNat, tiAll, ← hfin, exists_eq_left']; simp only [MAB, Nat.reduceEqDiff, Nat.reduceAdd, reduceIte, reduceCtorEq]; refine ⟨rfl, rfl, ?_, ?_, ?_⟩ <;> (first | rfl | (simp [WKB, Nat.add_comm, ← hfin]; done) | (simp only [WKB, Nat.reduceEqDiff, reduceIte, List.forall_mem_cons, List.not_mem_nil, false_implies, implies_true]))))

set_option maxHeartbeats 4000000 in
theorem markViewS_k (l : List ViewD) (k0 : Nat) (hk0 : k0 + 4 * l.length ≤ 1099511627776) : FnOK Try.prog 41 ⟨1, [(0, some (.row 118 (l.map ViewD.k)))], [.c (.sl 0 4 0 l.length), .c (.v (.int .i64 (k0 : Int)))], .c (.v (.int .i64 ((k0 + 4 * l.length : Nat) : Int))), [(0, some (.row 118 ((List.range l.length).map (ViewD.g k0))))], 1⟩ := by
  refine fnOK_of true mixed Try.func41 rfl (by rfl) (by rfl) ?_
  have hres := congrArg Array.toList Try.results41
  simp only [Try.ntmps41, List.length_cons, List.length_nil, Nat.reduceAdd, Nat.reduceSub, List.replicate_succ, List.replicate_zero, List.cons_append, List.nil_append]
  repeat' (first
  | (with_reducible first | refine seq_k fun K hK hE hT => ?_ | refine block_k fun K hK hE hT => ?_ | refine region_k ?_ | refine lex_nil ?_ | fail)
  | ((with_reducible refine draw_k ?_ ?_); focus (first | rfl | kernel_rfl))
  | ((with_reducible first | refine lex_move ?_ | refine lex_assign ?_); simp only [EVB, Nat.reduceEqDiff, reduceIte])
  | (with_reducible first | refine lex_cons fun KS hKS => ?_ | refine lexd_cons fun KS hKS => ?_ | fail)
  | ((with_reducible refine call_go ?_); fail)
  | ((with_reducible refine step_go ?_); (fail_if_success with_reducible refine call_go ?_); simp only [ENB, Nat.reduceAdd, Nat.reduceSub, Nat.reduceMul, Nat.reduceLeDiff, Nat.reduceBEq, Nat.reduceBNe, Nat.reduceEqDiff, Nat.reduceLT, reduceIte, reduceCtorEq, Int.reduceToNat, tiAll, true_and])
  | ((with_reducible refine lexd_nil ?_ ?_); focus (first | kernel_rfl | with_unfolding_all rfl))
  | ((with_reducible refine guard_go ?_); refine lex_gone rfl rfl ?_; simp only [EVB, Nat.reduceEqDiff, reduceIte])
  | ((first | ((with_reducible refine guard_go ?_); refine lex_guard rfl rfl (fun hg KS hKS => ?_) (fun hg => ?_)) | ((with_reducible refine guardd_go ?_); refine lexd_guard rfl rfl (fun hg KS hKS => ?_) (fun hg => ?_)) | fail) <;> first | (exact absurd hg (by decide)) | ((try simp only [CNL] at hg) <;> first | (exfalso; omega) | (exact (tf (by assumption) hg).elim) | (exact (tf hg (by assumption)).elim) | ((try with_reducible (have hT0 : True := hg; clear hT0 hg)); try simp only [EVB, Nat.reduceEqDiff, reduceIte])))
  | ((with_reducible refine hKS _ _ _ _ ?_); clear hKS; clear KS; simp only [EVB, Nat.reduceEqDiff, reduceIte])
  | ((first | ((with_reducible refine cond_go ?_); refine cond_k rfl (fun hc => ?_) (fun hc => ?_)) | (with_reducible refine And.intro (fun hc => ?_) (fun hc => ?_)) | fail) <;> first | (exact absurd hc (by decide)) | ((try simp only [CNL] at hc) <;> first | (exfalso; omega) | (exact (tf (by assumption) hc).elim) | (exact (tf hc (by assumption)).elim) | skip))
  | ((with_reducible refine And.intro ?_ ?_); focus (first | omega | exact u8_le _ | exact flat_intK _ | exact flat_bytK _ | (fail) | decide | (simp only [true_and]; done)))
  | ((with_reducible refine ex_p ?_ (fun hh => ?_)); focus (first | omega | (simp only [true_and]; omega)))
  | (with_reducible first | refine skip_k ?_ | refine exit_k ?_ | refine ret_k ?_ | fail)
  | ((with_reducible refine hK _ _ _ ?_); clear hK hE hT; clear K)
  | ((with_reducible first | refine hE _ _ _ _ ?_ | refine hT _ _ _ ?_ | fail); (first | (clear hK hE hT; clear K) | (clear hR hE hT; clear K) | skip); try simp only [Nat.reduceEqDiff, if_true, if_false, reduceIte])
  | ((with_reducible apply_assumption -symm -exfalso); try simp only [Nat.reduceEqDiff, if_true, if_false, reduceIte])
  | fail)
  refine loop_v (X := {k : Nat // k ≤ l.length}) [] (fun x => [(1, .c (.v (.int .i64 ((k0 + 4 * x.1 : Nat) : Int)))), (5, .c (.v (.int .i64 ((x.1 : Nat) : Int))))]) (fun x => [(0, some (.row 118 (setTo (ViewD.g k0) ViewD.k l x.1)))]) 1 (fun x => l.length - x.1) ⟨0, by omega⟩ ?_
  simp only [KPB, Nat.reduceBEq, Nat.reduceBNe, Nat.reduceAdd, reduceIte]
  refine ⟨?_, ?_⟩
  · (refine wk_a ?_; simp only [MAB, Nat.reduceEqDiff, Nat.reduceAdd, reduceIte, reduceCtorEq]; refine ⟨rfl, rfl, (by decide), ?_, ?_⟩; all_goals (first | (simp only [WKB, Nat.reduceEqDiff, reduceIte, List.forall_mem_cons, List.not_mem_nil, false_implies, implies_true, setTo_zero, Nat.mul_zero, Nat.add_zero, Nat.reduceLT, Nat.zero_lt_succ]; done) | (simp [WKB, Nat.reduceEqDiff, reduceIte, List.forall_mem_cons, List.not_mem_nil, false_implies, implies_true, setTo_zero, Nat.mul_zero, Nat.add_zero]; done) | simp only [WKB, Nat.reduceEqDiff, reduceIte, List.forall_mem_cons, List.not_mem_nil, false_implies, implies_true]))
  · rintro ⟨k, hk⟩ K hR hE hT
    have sl := setTo_len (ViewD.g k0) ViewD.k l k hk
    obtain ⟨q, hq⟩ : ∃ q, q = k0 + 4 * k := ⟨_, rfl⟩
    simp only [← hq]
    rcases Nat.lt_or_ge k l.length with hlt | hge
    case inr =>
      repeat' (first
  | (with_reducible first | refine seq_k fun K hK hE hT => ?_ | refine block_k fun K hK hE hT => ?_ | refine region_k ?_ | refine lex_nil ?_ | fail)
  | ((with_reducible refine draw_k ?_ ?_); focus (first | rfl | kernel_rfl))
  | ((with_reducible first | refine lex_move ?_ | refine lex_assign ?_); simp only [EVB, Nat.reduceEqDiff, reduceIte])
  | (with_reducible first | refine lex_cons fun KS hKS => ?_ | refine lexd_cons fun KS hKS => ?_ | fail)
  | ((with_reducible refine call_go ?_); fail)
  | ((with_reducible refine step_go ?_); (fail_if_success with_reducible refine call_go ?_); simp only [ENB, Nat.reduceAdd, Nat.reduceSub, Nat.reduceMul, Nat.reduceLeDiff, Nat.reduceBEq, Nat.reduceBNe, Nat.reduceEqDiff, Nat.reduceLT, reduceIte, reduceCtorEq, Int.reduceToNat, tiAll, sl])
  | ((with_reducible refine lexd_nil ?_ ?_); focus (first | kernel_rfl | with_unfolding_all rfl))
  | ((with_reducible refine guard_go ?_); refine lex_gone rfl rfl ?_; simp only [EVB, Nat.reduceEqDiff, reduceIte])
  | ((first | ((with_reducible refine guard_go ?_); refine lex_guard rfl rfl (fun hg KS hKS => ?_) (fun hg => ?_)) | ((with_reducible refine guardd_go ?_); refine lexd_guard rfl rfl (fun hg KS hKS => ?_) (fun hg => ?_)) | fail) <;> first | (exact absurd hg (by decide)) | ((try simp only [CNL] at hg) <;> first | (exfalso; omega) | (exact (tf (by assumption) hg).elim) | (exact (tf hg (by assumption)).elim) | ((try with_reducible (have hT0 : True := hg; clear hT0 hg)); try simp only [EVB, Nat.reduceEqDiff, reduceIte])))
  | ((with_reducible refine hKS _ _ _ _ ?_); clear hKS; clear KS; simp only [EVB, Nat.reduceEqDiff, reduceIte])
  | ((first | ((with_reducible refine cond_go ?_); refine cond_k rfl (fun hc => ?_) (fun hc => ?_)) | (with_reducible refine And.intro (fun hc => ?_) (fun hc => ?_)) | fail) <;> first | (exact absurd hc (by decide)) | ((try simp only [CNL] at hc) <;> first | (exfalso; omega) | (exact (tf (by assumption) hc).elim) | (exact (tf hc (by assumption)).elim) | skip))
  | ((with_reducible refine And.intro ?_ ?_); focus (first | omega | exact u8_le _ | exact flat_intK _ | exact flat_bytK _ | (fail) | decide | (simp only [sl]; done)))
  | ((with_reducible refine ex_p ?_ (fun hh => ?_)); focus (first | omega | (simp only [sl]; omega)))
  | (with_reducible first | refine skip_k ?_ | refine exit_k ?_ | refine ret_k ?_ | fail)
  | ((with_reducible refine hK _ _ _ ?_); clear hK hE hT; clear K)
  | ((with_reducible first | refine hE _ _ _ _ ?_ | refine hT _ _ _ ?_ | fail); (first | (clear hK hE hT; clear K) | (clear hR hE hT; clear K) | skip); try simp only [Nat.reduceEqDiff, if_true, if_false, reduceIte])
  | ((with_reducible apply_assumption -symm -exfalso); try simp only [Nat.reduceEqDiff, if_true, if_false, reduceIte])
  | fail)
      obtain rfl : k = l.length := by omega
      subst hq
      (refine post_a hres (.inl rfl) ?_; simp only [RSB, ENB, Nat.reduceAdd, Nat.reduceSub, Nat.reduceMul, Nat.reduceLeDiff, Nat.reduceBEq, Nat.reduceBNe, Nat.reduceEqDiff, Nat.reduceLT, reduceIte, reduceCtorEq, Int.reduceToNat, tiAll, setTo_end, exists_eq_left']; simp only [MAB, Nat.reduceEqDiff, Nat.reduceAdd, reduceIte, reduceCtorEq]; refine ⟨rfl, rfl, ?_, ?_, ?_⟩ <;> (first | rfl | (simp [WKB, Nat.add_comm, setTo_end]; done) | (simp only [WKB, Nat.reduceEqDiff, reduceIte, List.forall_mem_cons, List.not_mem_nil, false_implies, implies_true])))
    case inl =>
      have hq2 : q + 4 ≤ 1099511627776 := by have := Nat.mul_le_mul_left 4 (show k + 1 ≤ l.length from hlt); omega
      have sg := setTo_get (ViewD.g k0) ViewD.k l k hlt (by omega)
      simp only [ViewD.k] at sg
      repeat' (first
  | (with_reducible first | refine seq_k fun K hK hE hT => ?_ | refine block_k fun K hK hE hT => ?_ | refine region_k ?_ | refine lex_nil ?_ | fail)
  | ((with_reducible refine draw_k ?_ ?_); focus (first | rfl | kernel_rfl))
  | ((with_reducible first | refine lex_move ?_ | refine lex_assign ?_); simp only [EVB, Nat.reduceEqDiff, reduceIte])
  | (with_reducible first | refine lex_cons fun KS hKS => ?_ | refine lexd_cons fun KS hKS => ?_ | fail)
  | ((with_reducible refine call_go ?_); fail)
  | ((with_reducible refine step_go ?_); (fail_if_success with_reducible refine call_go ?_); simp only [ENB, Nat.reduceAdd, Nat.reduceSub, Nat.reduceMul, Nat.reduceLeDiff, Nat.reduceBEq, Nat.reduceBNe, Nat.reduceEqDiff, Nat.reduceLT, reduceIte, reduceCtorEq, Int.reduceToNat, tiAll, sl, sg, List.length_set, List.getElem_set_self, List.set_set])
  | ((with_reducible refine lexd_nil ?_ ?_); focus (first | kernel_rfl | with_unfolding_all rfl))
  | ((with_reducible refine guard_go ?_); refine lex_gone rfl rfl ?_; simp only [EVB, Nat.reduceEqDiff, reduceIte])
  | ((first | ((with_reducible refine guard_go ?_); refine lex_guard rfl rfl (fun hg KS hKS => ?_) (fun hg => ?_)) | ((with_reducible refine guardd_go ?_); refine lexd_guard rfl rfl (fun hg KS hKS => ?_) (fun hg => ?_)) | fail) <;> first | (exact absurd hg (by decide)) | ((try simp only [CNL] at hg) <;> first | (exfalso; omega) | (exact (tf (by assumption) hg).elim) | (exact (tf hg (by assumption)).elim) | ((try with_reducible (have hT0 : True := hg; clear hT0 hg)); try simp only [EVB, Nat.reduceEqDiff, reduceIte])))
  | ((with_reducible refine hKS _ _ _ _ ?_); clear hKS; clear KS; simp only [EVB, Nat.reduceEqDiff, reduceIte])
  | ((first | ((with_reducible refine cond_go ?_); refine cond_k rfl (fun hc => ?_) (fun hc => ?_)) | (with_reducible refine And.intro (fun hc => ?_) (fun hc => ?_)) | fail) <;> first | (exact absurd hc (by decide)) | ((try simp only [CNL] at hc) <;> first | (exfalso; omega) | (exact (tf (by assumption) hc).elim) | (exact (tf hc (by assumption)).elim) | skip))
  | ((with_reducible refine And.intro ?_ ?_); focus (first | omega | exact u8_le _ | exact flat_intK _ | exact flat_bytK _ | (fail) | decide | (simp only [sl, sg, List.length_set, List.getElem_set_self, List.set_set]; done)))
  | ((with_reducible refine ex_p ?_ (fun hh => ?_)); focus (first | omega | (simp only [sl, sg, List.length_set, List.getElem_set_self, List.set_set]; omega)))
  | (with_reducible first | refine skip_k ?_ | refine exit_k ?_ | refine ret_k ?_ | fail)
  | ((with_reducible refine hK _ _ _ ?_); clear hK hE hT; clear K)
  | ((with_reducible first | refine hE _ _ _ _ ?_ | refine hT _ _ _ ?_ | fail); (first | (clear hK hE hT; clear K) | (clear hR hE hT; clear K) | skip); try simp only [Nat.reduceEqDiff, if_true, if_false, reduceIte])
  | ((with_reducible apply_assumption -symm -exfalso); try simp only [Nat.reduceEqDiff, if_true, if_false, reduceIte])
  | fail)
      refine hR.out ⟨k + 1, by omega⟩ _ _ _ (by simp only; omega) ?_
      have e := setTo_set (ViewD.g k0) ViewD.k l k hlt
      simp only [ViewD.g, ← hq, ViewD.q] at e
      have e2 : (q : Int) + 1 + 1 + 1 + 1 = ((k0 + 4 * (k + 1) : Nat) : Int) := by omega
      (refine wk_a ?_; simp only [MAB, Nat.reduceEqDiff, Nat.reduceAdd, reduceIte, reduceCtorEq]; refine ⟨rfl, rfl, (by decide), ?_, ?_⟩; all_goals (first | (simp only [WKB, Nat.reduceEqDiff, reduceIte, List.forall_mem_cons, List.not_mem_nil, false_implies, implies_true, ViewD.g, e, e2, Nat.reduceLT, Nat.zero_lt_succ]; done) | (simp [WKB, Nat.reduceEqDiff, reduceIte, List.forall_mem_cons, List.not_mem_nil, false_implies, implies_true, ViewD.g, e, e2]; done) | simp only [WKB, Nat.reduceEqDiff, reduceIte, List.forall_mem_cons, List.not_mem_nil, false_implies, implies_true]))

set_option maxHeartbeats 4000000 in
theorem heldViewS_k (n : Nat) (k0 : Nat) (hk0 : k0 + 4 * n ≤ 1099511627776) : FnOK Try.prog 43 ⟨1, [(0, some (.ro ((List.range n).map (ViewD.g k0))))], [.c (.sl 0 4 0 n), .c (.v (.int .i64 (k0 : Int)))], .c (.v (.int .i64 ((k0 + 4 * n : Nat) : Int))), [], 1⟩ := by
  refine fnOK_of true mixed Try.func43 rfl (by rfl) (by rfl) ?_
  have hres := congrArg Array.toList Try.results43
  simp only [Try.ntmps43, List.length_cons, List.length_nil, Nat.reduceAdd, Nat.reduceSub, List.replicate_succ, List.replicate_zero, List.cons_append, List.nil_append]
  repeat' (first
  | (with_reducible first | refine seq_k fun K hK hE hT => ?_ | refine block_k fun K hK hE hT => ?_ | refine region_k ?_ | refine lex_nil ?_ | fail)
  | ((with_reducible refine draw_k ?_ ?_); focus (first | rfl | kernel_rfl))
  | ((with_reducible first | refine lex_move ?_ | refine lex_assign ?_); simp only [EVB, Nat.reduceEqDiff, reduceIte])
  | (with_reducible first | refine lex_cons fun KS hKS => ?_ | refine lexd_cons fun KS hKS => ?_ | fail)
  | ((with_reducible refine call_go ?_); fail)
  | ((with_reducible refine step_go ?_); (fail_if_success with_reducible refine call_go ?_); simp only [ENB, Nat.reduceAdd, Nat.reduceSub, Nat.reduceMul, Nat.reduceLeDiff, Nat.reduceBEq, Nat.reduceBNe, Nat.reduceEqDiff, Nat.reduceLT, reduceIte, reduceCtorEq, Int.reduceToNat, tiAll, true_and])
  | ((with_reducible refine lexd_nil ?_ ?_); focus (first | kernel_rfl | with_unfolding_all rfl))
  | ((with_reducible refine guard_go ?_); refine lex_gone rfl rfl ?_; simp only [EVB, Nat.reduceEqDiff, reduceIte])
  | ((first | ((with_reducible refine guard_go ?_); refine lex_guard rfl rfl (fun hg KS hKS => ?_) (fun hg => ?_)) | ((with_reducible refine guardd_go ?_); refine lexd_guard rfl rfl (fun hg KS hKS => ?_) (fun hg => ?_)) | fail) <;> first | (exact absurd hg (by decide)) | ((try simp only [CNL] at hg) <;> first | (exfalso; omega) | (exact (tf (by assumption) hg).elim) | (exact (tf hg (by assumption)).elim) | ((try with_reducible (have hT0 : True := hg; clear hT0 hg)); try simp only [EVB, Nat.reduceEqDiff, reduceIte])))
  | ((with_reducible refine hKS _ _ _ _ ?_); clear hKS; clear KS; simp only [EVB, Nat.reduceEqDiff, reduceIte])
  | ((first | ((with_reducible refine cond_go ?_); refine cond_k rfl (fun hc => ?_) (fun hc => ?_)) | (with_reducible refine And.intro (fun hc => ?_) (fun hc => ?_)) | fail) <;> first | (exact absurd hc (by decide)) | ((try simp only [CNL] at hc) <;> first | (exfalso; omega) | (exact (tf (by assumption) hc).elim) | (exact (tf hc (by assumption)).elim) | skip))
  | ((with_reducible refine And.intro ?_ ?_); focus (first | omega | exact u8_le _ | exact flat_intK _ | exact flat_bytK _ | (fail) | decide | (simp only [true_and]; done)))
  | ((with_reducible refine ex_p ?_ (fun hh => ?_)); focus (first | omega | (simp only [true_and]; omega)))
  | (with_reducible first | refine skip_k ?_ | refine exit_k ?_ | refine ret_k ?_ | fail)
  | ((with_reducible refine hK _ _ _ ?_); clear hK hE hT; clear K)
  | ((with_reducible first | refine hE _ _ _ _ ?_ | refine hT _ _ _ ?_ | fail); (first | (clear hK hE hT; clear K) | (clear hR hE hT; clear K) | skip); try simp only [Nat.reduceEqDiff, if_true, if_false, reduceIte])
  | ((with_reducible apply_assumption -symm -exfalso); try simp only [Nat.reduceEqDiff, if_true, if_false, reduceIte])
  | fail)
  refine loop_v (X := {k : Nat // k ≤ n}) [] (fun x => [(1, .c (.v (.int .i64 ((k0 + 4 * x.1 : Nat) : Int)))), (5, .c (.v (.int .i64 ((x.1 : Nat) : Int))))]) (fun x => [(0, some (.ro ((List.range n).map (ViewD.g k0))))]) 1 (fun x => n - x.1) ⟨0, by omega⟩ ?_
  simp only [KPB, Nat.reduceBEq, Nat.reduceBNe, Nat.reduceAdd, reduceIte]
  refine ⟨?_, ?_⟩
  · (refine wk_a ?_; simp only [MAB, Nat.reduceEqDiff, Nat.reduceAdd, reduceIte, reduceCtorEq]; refine ⟨rfl, rfl, (by decide), ?_, ?_⟩; all_goals (first | (simp only [WKB, Nat.reduceEqDiff, reduceIte, List.forall_mem_cons, List.not_mem_nil, false_implies, implies_true, Nat.mul_zero, Nat.add_zero, Nat.reduceLT, Nat.zero_lt_succ]; done) | (simp [WKB, Nat.reduceEqDiff, reduceIte, List.forall_mem_cons, List.not_mem_nil, false_implies, implies_true, Nat.mul_zero, Nat.add_zero]; done) | simp only [WKB, Nat.reduceEqDiff, reduceIte, List.forall_mem_cons, List.not_mem_nil, false_implies, implies_true]))
  · rintro ⟨k, hk⟩ K hR hE hT
    obtain ⟨q, hq⟩ : ∃ q, q = k0 + 4 * k := ⟨_, rfl⟩
    simp only [← hq]
    rcases Nat.lt_or_ge k n with hlt | hge
    case inr =>
      repeat' (first
  | (with_reducible first | refine seq_k fun K hK hE hT => ?_ | refine block_k fun K hK hE hT => ?_ | refine region_k ?_ | refine lex_nil ?_ | fail)
  | ((with_reducible refine draw_k ?_ ?_); focus (first | rfl | kernel_rfl))
  | ((with_reducible first | refine lex_move ?_ | refine lex_assign ?_); simp only [EVB, Nat.reduceEqDiff, reduceIte])
  | (with_reducible first | refine lex_cons fun KS hKS => ?_ | refine lexd_cons fun KS hKS => ?_ | fail)
  | ((with_reducible refine call_go ?_); fail)
  | ((with_reducible refine step_go ?_); (fail_if_success with_reducible refine call_go ?_); simp only [ENB, Nat.reduceAdd, Nat.reduceSub, Nat.reduceMul, Nat.reduceLeDiff, Nat.reduceBEq, Nat.reduceBNe, Nat.reduceEqDiff, Nat.reduceLT, reduceIte, reduceCtorEq, Int.reduceToNat, tiAll, range_len])
  | ((with_reducible refine lexd_nil ?_ ?_); focus (first | kernel_rfl | with_unfolding_all rfl))
  | ((with_reducible refine guard_go ?_); refine lex_gone rfl rfl ?_; simp only [EVB, Nat.reduceEqDiff, reduceIte])
  | ((first | ((with_reducible refine guard_go ?_); refine lex_guard rfl rfl (fun hg KS hKS => ?_) (fun hg => ?_)) | ((with_reducible refine guardd_go ?_); refine lexd_guard rfl rfl (fun hg KS hKS => ?_) (fun hg => ?_)) | fail) <;> first | (exact absurd hg (by decide)) | ((try simp only [CNL] at hg) <;> first | (exfalso; omega) | (exact (tf (by assumption) hg).elim) | (exact (tf hg (by assumption)).elim) | ((try with_reducible (have hT0 : True := hg; clear hT0 hg)); try simp only [EVB, Nat.reduceEqDiff, reduceIte])))
  | ((with_reducible refine hKS _ _ _ _ ?_); clear hKS; clear KS; simp only [EVB, Nat.reduceEqDiff, reduceIte])
  | ((first | ((with_reducible refine cond_go ?_); refine cond_k rfl (fun hc => ?_) (fun hc => ?_)) | (with_reducible refine And.intro (fun hc => ?_) (fun hc => ?_)) | fail) <;> first | (exact absurd hc (by decide)) | ((try simp only [CNL] at hc) <;> first | (exfalso; omega) | (exact (tf (by assumption) hc).elim) | (exact (tf hc (by assumption)).elim) | skip))
  | ((with_reducible refine And.intro ?_ ?_); focus (first | omega | exact u8_le _ | exact flat_intK _ | exact flat_bytK _ | (fail) | decide | (simp only [range_len]; done)))
  | ((with_reducible refine ex_p ?_ (fun hh => ?_)); focus (first | omega | (simp only [range_len]; omega)))
  | (with_reducible first | refine skip_k ?_ | refine exit_k ?_ | refine ret_k ?_ | fail)
  | ((with_reducible refine hK _ _ _ ?_); clear hK hE hT; clear K)
  | ((with_reducible first | refine hE _ _ _ _ ?_ | refine hT _ _ _ ?_ | fail); (first | (clear hK hE hT; clear K) | (clear hR hE hT; clear K) | skip); try simp only [Nat.reduceEqDiff, if_true, if_false, reduceIte])
  | ((with_reducible apply_assumption -symm -exfalso); try simp only [Nat.reduceEqDiff, if_true, if_false, reduceIte])
  | fail)
      obtain rfl : k = n := by omega
      subst hq
      (refine post_a hres (.inl rfl) ?_; simp only [RSB, ENB, Nat.reduceAdd, Nat.reduceSub, Nat.reduceMul, Nat.reduceLeDiff, Nat.reduceBEq, Nat.reduceBNe, Nat.reduceEqDiff, Nat.reduceLT, reduceIte, reduceCtorEq, Int.reduceToNat, tiAll, true_and, exists_eq_left']; simp only [MAB, Nat.reduceEqDiff, Nat.reduceAdd, reduceIte, reduceCtorEq]; refine ⟨rfl, rfl, ?_, ?_, ?_⟩ <;> (first | rfl | (simp [WKB, Nat.add_comm, true_and]; done) | (simp only [WKB, Nat.reduceEqDiff, reduceIte, List.forall_mem_cons, List.not_mem_nil, false_implies, implies_true])))
    case inl =>
      have hq2 : q + 4 ≤ 1099511627776 := by have := Nat.mul_le_mul_left 4 (show k + 1 ≤ n from hlt); omega
      have sg := range_get (ViewD.g k0) n k (by rw [range_len]; exact hlt)
      simp only [ViewD.g, ← hq, ViewD.q] at sg
      have sg' : ViewD.g k0 k = ViewD.q q := by rw [hq]; rfl
      repeat' (first
  | (with_reducible first | refine seq_k fun K hK hE hT => ?_ | refine block_k fun K hK hE hT => ?_ | refine region_k ?_ | refine lex_nil ?_ | fail)
  | ((with_reducible refine draw_k ?_ ?_); focus (first | rfl | kernel_rfl))
  | ((with_reducible first | refine lex_move ?_ | refine lex_assign ?_); simp only [EVB, Nat.reduceEqDiff, reduceIte])
  | (with_reducible first | refine lex_cons fun KS hKS => ?_ | refine lexd_cons fun KS hKS => ?_ | fail)
  | ((with_reducible refine call_go ?_); fail)
  | ((with_reducible refine step_go ?_); (fail_if_success with_reducible refine call_go ?_); simp only [ENB, Nat.reduceAdd, Nat.reduceSub, Nat.reduceMul, Nat.reduceLeDiff, Nat.reduceBEq, Nat.reduceBNe, Nat.reduceEqDiff, Nat.reduceLT, reduceIte, reduceCtorEq, Int.reduceToNat, tiAll, range_len, range_get, sg', ViewD.q])
  | ((with_reducible refine lexd_nil ?_ ?_); focus (first | kernel_rfl | with_unfolding_all rfl))
  | ((with_reducible refine guard_go ?_); refine lex_gone rfl rfl ?_; simp only [EVB, Nat.reduceEqDiff, reduceIte])
  | ((first | ((with_reducible refine guard_go ?_); refine lex_guard rfl rfl (fun hg KS hKS => ?_) (fun hg => ?_)) | ((with_reducible refine guardd_go ?_); refine lexd_guard rfl rfl (fun hg KS hKS => ?_) (fun hg => ?_)) | fail) <;> first | (exact absurd hg (by decide)) | ((try simp only [CNL] at hg) <;> first | (exfalso; omega) | (exact (tf (by assumption) hg).elim) | (exact (tf hg (by assumption)).elim) | ((try with_reducible (have hT0 : True := hg; clear hT0 hg)); try simp only [EVB, Nat.reduceEqDiff, reduceIte])))
  | ((with_reducible refine hKS _ _ _ _ ?_); clear hKS; clear KS; simp only [EVB, Nat.reduceEqDiff, reduceIte])
  | ((first | ((with_reducible refine cond_go ?_); refine cond_k rfl (fun hc => ?_) (fun hc => ?_)) | (with_reducible refine And.intro (fun hc => ?_) (fun hc => ?_)) | fail) <;> first | (exact absurd hc (by decide)) | ((try simp only [CNL] at hc) <;> first | (exfalso; omega) | (exact (tf (by assumption) hc).elim) | (exact (tf hc (by assumption)).elim) | skip))
  | ((with_reducible refine And.intro ?_ ?_); focus (first | omega | exact u8_le _ | exact flat_intK _ | exact flat_bytK _ | (fail) | decide | (simp only [range_len, range_get, sg', ViewD.q]; done)))
  | ((with_reducible refine ex_p ?_ (fun hh => ?_)); focus (first | omega | (simp only [range_len, range_get, sg', ViewD.q]; omega)))
  | (with_reducible first | refine skip_k ?_ | refine exit_k ?_ | refine ret_k ?_ | fail)
  | ((with_reducible refine hK _ _ _ ?_); clear hK hE hT; clear K)
  | ((with_reducible first | refine hE _ _ _ _ ?_ | refine hT _ _ _ ?_ | fail); (first | (clear hK hE hT; clear K) | (clear hR hE hT; clear K) | skip); try simp only [Nat.reduceEqDiff, if_true, if_false, reduceIte])
  | ((with_reducible apply_assumption -symm -exfalso); try simp only [Nat.reduceEqDiff, if_true, if_false, reduceIte])
  | fail)
      refine hR.out ⟨k + 1, by omega⟩ _ _ _ (by simp only; omega) ?_
      have e2 : (q : Int) + 1 + 1 + 1 + 1 = ((k0 + 4 * (k + 1) : Nat) : Int) := by omega
      (refine wk_a ?_; simp only [MAB, Nat.reduceEqDiff, Nat.reduceAdd, reduceIte, reduceCtorEq]; refine ⟨rfl, rfl, (by decide), ?_, ?_⟩; all_goals (first | (simp only [WKB, Nat.reduceEqDiff, reduceIte, List.forall_mem_cons, List.not_mem_nil, false_implies, implies_true, e2, Nat.reduceLT, Nat.zero_lt_succ]; done) | (simp [WKB, Nat.reduceEqDiff, reduceIte, List.forall_mem_cons, List.not_mem_nil, false_implies, implies_true, e2]; done) | simp only [WKB, Nat.reduceEqDiff, reduceIte, List.forall_mem_cons, List.not_mem_nil, false_implies, implies_true]))

theorem szViewS_k (n b : Nat) (es : List (List DC)) (he : es.length = n) (hw : n ≤ 9223372036854775807) (hb : b ≤ 1048576) : FnOK Try.prog 76 ⟨1, [(0, some (.ro es))], [.c (.sl 0 4 0 n), .c (.v (.int .i64 (b : Int)))], .c (.v (.int .i64 (szL b n))), [], 1⟩ := by
  refine fnOK_of true mixed Try.func76 rfl (by rfl) (by rfl) ?_
  have hres := congrArg Array.toList Try.results76
  simp only [Try.ntmps76, List.length_cons, List.length_nil, Nat.reduceAdd, Nat.reduceSub, List.replicate_succ, List.replicate_zero, List.cons_append, List.nil_append]
  repeat' (first
  | (with_reducible first | refine seq_k fun K hK hE hT => ?_ | refine block_k fun K hK hE hT => ?_ | refine region_k ?_ | refine lex_nil ?_ | fail)
  | ((with_reducible refine draw_k ?_ ?_); focus (first | rfl | kernel_rfl))
  | ((with_reducible first | refine lex_move ?_ | refine lex_assign ?_); simp only [EVB, Nat.reduceEqDiff, reduceIte])
  | (with_reducible first | refine lex_cons fun KS hKS => ?_ | refine lexd_cons fun KS hKS => ?_ | fail)
  | ((with_reducible refine call_go ?_); fail)
  | ((with_reducible refine step_go ?_); (fail_if_success with_reducible refine call_go ?_); simp only [ENB, Nat.reduceAdd, Nat.reduceSub, Nat.reduceMul, Nat.reduceLeDiff, Nat.reduceBEq, Nat.reduceBNe, Nat.reduceEqDiff, Nat.reduceLT, reduceIte, reduceCtorEq, Int.reduceToNat, tiAll, true_and])
  | ((with_reducible refine lexd_nil ?_ ?_); focus (first | kernel_rfl | with_unfolding_all rfl))
  | ((with_reducible refine guard_go ?_); refine lex_gone rfl rfl ?_; simp only [EVB, Nat.reduceEqDiff, reduceIte])
  | ((first | ((with_reducible refine guard_go ?_); refine lex_guard rfl rfl (fun hg KS hKS => ?_) (fun hg => ?_)) | ((with_reducible refine guardd_go ?_); refine lexd_guard rfl rfl (fun hg KS hKS => ?_) (fun hg => ?_)) | fail) <;> first | (exact absurd hg (by decide)) | ((try simp only [CNL] at hg) <;> first | (exfalso; omega) | (exact (tf (by assumption) hg).elim) | (exact (tf hg (by assumption)).elim) | ((try with_reducible (have hT0 : True := hg; clear hT0 hg)); try simp only [EVB, Nat.reduceEqDiff, reduceIte])))
  | ((with_reducible refine hKS _ _ _ _ ?_); clear hKS; clear KS; simp only [EVB, Nat.reduceEqDiff, reduceIte])
  | ((first | ((with_reducible refine cond_go ?_); refine cond_k rfl (fun hc => ?_) (fun hc => ?_)) | (with_reducible refine And.intro (fun hc => ?_) (fun hc => ?_)) | fail) <;> first | (exact absurd hc (by decide)) | ((try simp only [CNL] at hc) <;> first | (exfalso; omega) | (exact (tf (by assumption) hc).elim) | (exact (tf hc (by assumption)).elim) | skip))
  | ((with_reducible refine And.intro ?_ ?_); focus (first | omega | exact u8_le _ | exact flat_intK _ | exact flat_bytK _ | (fail) | decide | (simp only [true_and]; done)))
  | ((with_reducible refine ex_p ?_ (fun hh => ?_)); focus (first | omega | (simp only [true_and]; omega)))
  | (with_reducible first | refine skip_k ?_ | refine exit_k ?_ | refine ret_k ?_ | fail)
  | ((with_reducible refine hK _ _ _ ?_); clear hK hE hT; clear K)
  | ((with_reducible first | refine hE _ _ _ _ ?_ | refine hT _ _ _ ?_ | fail); (first | (clear hK hE hT; clear K) | (clear hR hE hT; clear K) | skip); try simp only [Nat.reduceEqDiff, if_true, if_false, reduceIte])
  | ((with_reducible apply_assumption -symm -exfalso); try simp only [Nat.reduceEqDiff, if_true, if_false, reduceIte])
  | fail)
  · (refine post_a hres (.inl rfl) ?_; simp only [RSB, ENB, Nat.reduceAdd, Nat.reduceSub, Nat.reduceMul, Nat.reduceLeDiff, Nat.reduceBEq, Nat.reduceBNe, Nat.reduceEqDiff, Nat.reduceLT, reduceIte, reduceCtorEq, Int.reduceToNat, tiAll, szL_neg b n (by omega), exists_eq_left']; simp only [MAB, Nat.reduceEqDiff, Nat.reduceAdd, reduceIte, reduceCtorEq]; refine ⟨rfl, rfl, ?_, ?_, ?_⟩ <;> (first | rfl | (simp [WKB, Nat.add_comm, szL_neg b n (by omega)]; done) | (simp only [WKB, Nat.reduceEqDiff, reduceIte, List.forall_mem_cons, List.not_mem_nil, false_implies, implies_true])))
  · (refine post_a hres (.inl rfl) ?_; simp only [RSB, ENB, Nat.reduceAdd, Nat.reduceSub, Nat.reduceMul, Nat.reduceLeDiff, Nat.reduceBEq, Nat.reduceBNe, Nat.reduceEqDiff, Nat.reduceLT, reduceIte, reduceCtorEq, Int.reduceToNat, tiAll, szL_pos b n (by omega), exists_eq_left']; simp only [MAB, Nat.reduceEqDiff, Nat.reduceAdd, reduceIte, reduceCtorEq]; refine ⟨rfl, rfl, ?_, ?_, ?_⟩ <;> (first | rfl | (simp [WKB, Nat.add_comm, szL_pos b n (by omega)]; done) | (simp only [WKB, Nat.reduceEqDiff, reduceIte, List.forall_mem_cons, List.not_mem_nil, false_implies, implies_true])))

end Go.Proofs.Ytmdajpgemcaefaa