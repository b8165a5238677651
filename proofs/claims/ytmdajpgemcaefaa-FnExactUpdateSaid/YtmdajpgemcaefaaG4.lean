/-
  Contracts of the law's helpers for Edge and slices of them. No conditions of its own.
-/
import Derived.Test.YtmdajpgemcaefaaS1
namespace Go.Proofs.Ytmdajpgemcaefaa
set_option linter.unusedSimpArgs false
set_option linter.unusedVariables false
open Go.RowKit

structure EdgeD where
  From : Int
  To : Int
  W : Int
deriving DecidableEq

def EdgeD.k (x : EdgeD) : List DC := [.v (.int .i64 x.From), .v (.int .i64 x.To), .v (.int .i64 x.W)]
def EdgeD.s (x : EdgeD) : List CV := [.v (.int .i64 x.From), .v (.int .i64 x.To), .v (.int .i64 x.W)]
theorem flat_Edge (l : List EdgeD) : ∀ e ∈ l.map EdgeD.k, ∀ c ∈ e, DC.flat c := flat_map (fun x c hc => by simp only [EdgeD.k, List.mem_cons, List.not_mem_nil, or_false] at hc; rcases hc with rfl | rfl | rfl <;> exact ⟨_, rfl, rfl⟩) l
/-- marked cells -/
def EdgeD.q (q : Nat) : List DC := [.v (.int .i64 ((q : Int))), .v (.int .i64 ((q : Int) + 1)), .v (.int .i64 ((q : Int) + 1 + 1))]
def EdgeD.g (k i : Nat) : List DC := EdgeD.q (k + 3 * i)

set_option maxHeartbeats 1000000 in
theorem toEdge_k (x : EdgeD) : FnOK Try.prog 161 ⟨0, [], [.agg x.s], .agg x.s, [], 0⟩ := by
  obtain ⟨x1, x2, x3⟩ := x
  simp only [EdgeD.s]
  refine fnOK_of true mixed Try.func161 rfl (by rfl) (by rfl) ?_
  have hres := congrArg Array.toList Try.results161
  simp only [Try.ntmps161, List.length_cons, List.length_nil, Nat.reduceAdd, Nat.reduceSub, List.replicate_succ, List.replicate_zero, List.cons_append, List.nil_append]
  repeat' (first
  | (with_reducible first | refine seq_k fun K hK hE hT => ?_ | refine block_k fun K hK hE hT => ?_ | refine region_k ?_ | refine lex_nil ?_ | fail)
  | ((with_reducible refine draw_k ?_ ?_); focus (first | rfl | kernel_rfl))
  | ((with_reducible first | refine lex_move ?_ | refine lex_assign ?_); simp only [EVB, Nat.reduceEqDiff, reduceIte])
  | (with_reducible first | refine lex_cons fun KS hKS => ?_ | refine lexd_cons fun KS hKS => ?_ | fail)
  | ((with_reducible refine call_go ?_); fail)
  | ((with_reducible refine step_go ?_); (fail_if_success with_reducible refine call_go ?_); simp only [ENB, Nat.reduceAdd, Nat.reduceSub, Nat.reduceMul, Nat.reduceLeDiff, Nat.reduceBEq, Nat.reduceBNe, Nat.reduceEqDiff, Nat.reduceLT, reduceIte, reduceCtorEq, Int.reduceToNat, tiAll, true_and])
  | ((with_reducible refine lexd_nil ?_ ?_); focus (first | kernel_rfl | with_unfolding_all rfl))
  | ((with_reducible refine guard_go ?_); refine lex_gone rfl rfl ?_; simp only [EVB, Nat.reduceEqDiff, reduceIte])
  | ((first | ((with_reducible refine guard_go ?_); refine lex_guard rfl rfl (fun hg KS hKS => ?_) (fun hg => ?_)) | ((with_reducible refine guardd_go ?_); refine lexd_guard rfl rfl (fun hg KS hKS => ?_) (fun hg => ?_)) | fail) <;> first | (exact absurd hg (by decide)) | ((try simp only [CNL] at hg) <;> first | (exfalso; omega) | (exact (tf (by assumption) hg).elim) | (exact (tf hg (by assumption)).elim) | ((try with_reducible (have hT0 : True := hg; clear hT0 hg)); try simp only [EVB, Nat.reduceEqDiff, reduceIte])))
  | ((with_reducible refine hKS _ _ _ _ ?_); clear hKS; clear KS; simp only [EVB, Nat.reduceEqDiff, reduceIte])
  | ((first | ((with_reducible refine cond_go ?_); refine cond_k rfl (fun hc => ?_) (fun hc => ?_)) | (with_reducible refine And.intro (fun hc => ?_) (fun hc => ?_)) | fail) <;> first | (exact absurd hc (by decide)) | ((try simp only [CNL] at hc) <;> first | (exfalso; omega) | (exact (tf (by assumption) hc).elim) | (exact (tf hc (by assumption)).elim) | skip))
  | ((with_reducible refine And.intro ?_ ?_); focus (first | omega | exact u8_le _ | exact flat_intK _ | exact flat_bytK _ | (fail) | decide | (simp only [true_and]; done)))
  | ((with_reducible refine ex_p ?_ (fun hh => ?_)); focus (first | omega | (simp only [true_and]; omega)))
  | (with_reducible first | refine skip_k ?_ | refine exit_k ?_ | refine ret_k ?_ | fail)
  | ((with_reducible refine hK _ _ _ ?_); clear hK hE hT; clear K)
  | ((with_reducible first | refine hE _ _ _ _ ?_ | refine hT _ _ _ ?_ | fail); (first | (clear hK hE hT; clear K) | (clear hR hE hT; clear K) | skip); try simp only [Nat.reduceEqDiff, if_true, if_false, reduceIte])
  | ((with_reducible apply_assumption -symm -exfalso); try simp only [Nat.reduceEqDiff, if_true, if_false, reduceIte])
  | fail)
  (refine post_a hres (.inl rfl) ?_; simp only [RSB, ENB, Nat.reduceAdd, Nat.reduceSub, Nat.reduceMul, Nat.reduceLeDiff, Nat.reduceBEq, Nat.reduceBNe, Nat.reduceEqDiff, Nat.reduceLT, reduceIte, reduceCtorEq, Int.reduceToNat, tiAll, true_and, exists_eq_left']; simp only [MAB, Nat.reduceEqDiff, Nat.reduceAdd, reduceIte, reduceCtorEq]; refine ⟨rfl, rfl, ?_, ?_, ?_⟩ <;> (first | rfl | (simp [WKB, Nat.add_comm, true_and]; done) | (simp only [WKB, Nat.reduceEqDiff, reduceIte, List.forall_mem_cons, List.not_mem_nil, false_implies, implies_true])))

set_option maxHeartbeats 1000000 in
theorem eqEdge_k (x y : EdgeD) : FnOK Try.prog 164 ⟨0, [], [.agg x.s, .agg y.s], .c (.v (.bool (decide (x = y)))), [], 0⟩ := by
  obtain ⟨x1, x2, x3⟩ := x
  obtain ⟨y1, y2, y3⟩ := y
  simp only [EdgeD.s, EdgeD.mk.injEq]
  refine fnOK_of true mixed Try.func164 rfl (by rfl) (by rfl) ?_
  have hres := congrArg Array.toList Try.results164
  simp only [Try.ntmps164, List.length_cons, List.length_nil, Nat.reduceAdd, Nat.reduceSub, List.replicate_succ, List.replicate_zero, List.cons_append, List.nil_append]
  repeat' (first
  | (with_reducible first | refine seq_k fun K hK hE hT => ?_ | refine block_k fun K hK hE hT => ?_ | refine region_k ?_ | refine lex_nil ?_ | fail)
  | ((with_reducible refine draw_k ?_ ?_); focus (first | rfl | kernel_rfl))
  | ((with_reducible first | refine lex_move ?_ | refine lex_assign ?_); simp only [EVB, Nat.reduceEqDiff, reduceIte])
  | (with_reducible first | refine lex_cons fun KS hKS => ?_ | refine lexd_cons fun KS hKS => ?_ | fail)
  | ((with_reducible refine call_go ?_); fail)
  | ((with_reducible refine step_go ?_); (fail_if_success with_reducible refine call_go ?_); simp only [ENB, Nat.reduceAdd, Nat.reduceSub, Nat.reduceMul, Nat.reduceLeDiff, Nat.reduceBEq, Nat.reduceBNe, Nat.reduceEqDiff, Nat.reduceLT, reduceIte, reduceCtorEq, Int.reduceToNat, tiAll, true_and])
  | ((with_reducible refine lexd_nil ?_ ?_); focus (first | kernel_rfl | with_unfolding_all rfl))
  | ((with_reducible refine guard_go ?_); refine lex_gone rfl rfl ?_; simp only [EVB, Nat.reduceEqDiff, reduceIte])
  | ((first | ((with_reducible refine guard_go ?_); refine lex_guard rfl rfl (fun hg KS hKS => ?_) (fun hg => ?_)) | ((with_reducible refine guardd_go ?_); refine lexd_guard rfl rfl (fun hg KS hKS => ?_) (fun hg => ?_)) | fail) <;> first | (exact absurd hg (by decide)) | ((try simp only [CNL] at hg) <;> first | (exfalso; omega) | (exact (tf (by assumption) hg).elim) | (exact (tf hg (by assumption)).elim) | ((try with_reducible (have hT0 : True := hg; clear hT0 hg)); try simp only [EVB, Nat.reduceEqDiff, reduceIte])))
  | ((with_reducible refine hKS _ _ _ _ ?_); clear hKS; clear KS; simp only [EVB, Nat.reduceEqDiff, reduceIte])
  | ((first | ((with_reducible refine cond_go ?_); refine cond_k rfl (fun hc => ?_) (fun hc => ?_)) | (with_reducible refine And.intro (fun hc => ?_) (fun hc => ?_)) | fail) <;> first | (exact absurd hc (by decide)) | ((try simp only [CNL] at hc) <;> first | (exfalso; omega) | (exact (tf (by assumption) hc).elim) | (exact (tf hc (by assumption)).elim) | skip))
  | ((with_reducible refine And.intro ?_ ?_); focus (first | omega | exact u8_le _ | exact flat_intK _ | exact flat_bytK _ | (fail) | decide | (simp only [true_and]; done)))
  | ((with_reducible refine ex_p ?_ (fun hh => ?_)); focus (first | omega | (simp only [true_and]; omega)))
  | (with_reducible first | refine skip_k ?_ | refine exit_k ?_ | refine ret_k ?_ | fail)
  | ((with_reducible refine hK _ _ _ ?_); clear hK hE hT; clear K)
  | ((with_reducible first | refine hE _ _ _ _ ?_ | refine hT _ _ _ ?_ | fail); (first | (clear hK hE hT; clear K) | (clear hR hE hT; clear K) | skip); try simp only [Nat.reduceEqDiff, if_true, if_false, reduceIte])
  | ((with_reducible apply_assumption -symm -exfalso); try simp only [Nat.reduceEqDiff, if_true, if_false, reduceIte])
  | fail)
  all_goals (try simp only [EdgeD.mk.injEq, not_and] at *)
  all_goals (refine post_a hres (.inl rfl) ?_; simp only [RSB, ENB, Nat.reduceAdd, Nat.reduceSub, Nat.reduceMul, Nat.reduceLeDiff, Nat.reduceBEq, Nat.reduceBNe, Nat.reduceEqDiff, Nat.reduceLT, reduceIte, reduceCtorEq, Int.reduceToNat, tiAll, *, exists_eq_left']; simp only [MAB, Nat.reduceEqDiff, Nat.reduceAdd, reduceIte, reduceCtorEq]; refine ⟨rfl, rfl, ?_, ?_, ?_⟩ <;> (first | rfl | (simp [WKB, Nat.add_comm, *]; done) | (simp only [WKB, Nat.reduceEqDiff, reduceIte, List.forall_mem_cons, List.not_mem_nil, false_implies, implies_true])))
  all_goals (refine congrArg (fun b => SV.c (CV.v (Value.bool b))) ?_; symm; simp only [decide_eq_false_iff_not, decide_eq_true_eq]; first | omega | (intro h; simp_all))

set_option maxHeartbeats 2000000 in
theorem toEdgeS_k (l : List EdgeD) (hl : l.length ≤ 1048576) : FnOK Try.prog 93 ⟨1, [(0, some (.ro (l.map EdgeD.k)))], [.c (.sl 0 3 0 l.length)], .c (.sl 1 3 0 l.length), [(1, some (.row 192 (l.map EdgeD.k)))], 2⟩ := by
  refine fnOK_of true mixed Try.func93 rfl (by rfl) (by rfl) ?_
  have hres := congrArg Array.toList Try.results93
  simp only [Try.ntmps93, List.length_cons, List.length_nil, Nat.reduceAdd, Nat.reduceSub, List.replicate_succ, List.replicate_zero, List.cons_append, List.nil_append]
  repeat' (first
  | (with_reducible first | refine seq_k fun K hK hE hT => ?_ | refine block_k fun K hK hE hT => ?_ | refine region_k ?_ | refine lex_nil ?_ | fail)
  | ((with_reducible refine draw_k ?_ ?_); focus (first | rfl | kernel_rfl))
  | ((with_reducible first | refine lex_move ?_ | refine lex_assign ?_); simp only [EVB, Nat.reduceEqDiff, reduceIte])
  | (with_reducible first | refine lex_cons fun KS hKS => ?_ | refine lexd_cons fun KS hKS => ?_ | fail)
  | ((with_reducible refine call_go ?_); fail)
  | ((with_reducible refine step_go ?_); (fail_if_success with_reducible refine call_go ?_); simp only [ENB, Nat.reduceAdd, Nat.reduceSub, Nat.reduceMul, Nat.reduceLeDiff, Nat.reduceBEq, Nat.reduceBNe, Nat.reduceEqDiff, Nat.reduceLT, reduceIte, reduceCtorEq, Int.reduceToNat, tiAll, true_and])
  | ((with_reducible refine lexd_nil ?_ ?_); focus (first | kernel_rfl | with_unfolding_all rfl))
  | ((with_reducible refine guard_go ?_); refine lex_gone rfl rfl ?_; simp only [EVB, Nat.reduceEqDiff, reduceIte])
  | ((first | ((with_reducible refine guard_go ?_); refine lex_guard rfl rfl (fun hg KS hKS => ?_) (fun hg => ?_)) | ((with_reducible refine guardd_go ?_); refine lexd_guard rfl rfl (fun hg KS hKS => ?_) (fun hg => ?_)) | fail) <;> first | (exact absurd hg (by decide)) | ((try simp only [CNL] at hg) <;> first | (exfalso; omega) | (exact (tf (by assumption) hg).elim) | (exact (tf hg (by assumption)).elim) | ((try with_reducible (have hT0 : True := hg; clear hT0 hg)); try simp only [EVB, Nat.reduceEqDiff, reduceIte])))
  | ((with_reducible refine hKS _ _ _ _ ?_); clear hKS; clear KS; simp only [EVB, Nat.reduceEqDiff, reduceIte])
  | ((first | ((with_reducible refine cond_go ?_); refine cond_k rfl (fun hc => ?_) (fun hc => ?_)) | (with_reducible refine And.intro (fun hc => ?_) (fun hc => ?_)) | fail) <;> first | (exact absurd hc (by decide)) | ((try simp only [CNL] at hc) <;> first | (exfalso; omega) | (exact (tf (by assumption) hc).elim) | (exact (tf hc (by assumption)).elim) | skip))
  | ((with_reducible refine And.intro ?_ ?_); focus (first | omega | exact u8_le _ | exact flat_intK _ | exact flat_bytK _ | (fail) | decide | (simp only [true_and]; done)))
  | ((with_reducible refine ex_p ?_ (fun hh => ?_)); focus (first | omega | (simp only [true_and]; omega)))
  | (with_reducible first | refine skip_k ?_ | refine exit_k ?_ | refine ret_k ?_ | fail)
  | ((with_reducible refine hK _ _ _ ?_); clear hK hE hT; clear K)
  | ((with_reducible first | refine hE _ _ _ _ ?_ | refine hT _ _ _ ?_ | fail); (first | (clear hK hE hT; clear K) | (clear hR hE hT; clear K) | skip); try simp only [Nat.reduceEqDiff, if_true, if_false, reduceIte])
  | ((with_reducible apply_assumption -symm -exfalso); try simp only [Nat.reduceEqDiff, if_true, if_false, reduceIte])
  | fail)
  refine loop_v (X := {k : Nat // k ≤ l.length}) [] (fun x => [(4, .c (.v (.int .i64 ((x.1 : Nat) : Int))))]) (fun x => [(0, some (.ro (l.map EdgeD.k))), (1, some (.row 192 (fillTo EdgeD.k (EdgeD.k ⟨0, 0, 0⟩) l x.1)))]) 2 (fun x => l.length - x.1) ⟨0, by omega⟩ ?_
  simp only [KPB, Nat.reduceBEq, Nat.reduceBNe, Nat.reduceAdd, reduceIte]
  refine ⟨?_, ?_⟩
  · (refine wk_a ?_; simp only [MAB, Nat.reduceEqDiff, Nat.reduceAdd, reduceIte, reduceCtorEq]; refine ⟨rfl, rfl, (by decide), ?_, ?_⟩; all_goals (first | (simp only [WKB, Nat.reduceEqDiff, reduceIte, List.forall_mem_cons, List.not_mem_nil, false_implies, implies_true, fillTo_zero, EdgeD.k, Nat.reduceLT, Nat.zero_lt_succ]; done) | (simp [WKB, Nat.reduceEqDiff, reduceIte, List.forall_mem_cons, List.not_mem_nil, false_implies, implies_true, fillTo_zero, EdgeD.k]; done) | simp only [WKB, Nat.reduceEqDiff, reduceIte, List.forall_mem_cons, List.not_mem_nil, false_implies, implies_true]))
  · rintro ⟨k, hk⟩ K hR hE hT
    repeat' (first
  | (with_reducible first | refine seq_k fun K hK hE hT => ?_ | refine block_k fun K hK hE hT => ?_ | refine region_k ?_ | refine lex_nil ?_ | fail)
  | ((with_reducible refine draw_k ?_ ?_); focus (first | rfl | kernel_rfl))
  | ((with_reducible first | refine lex_move ?_ | refine lex_assign ?_); simp only [EVB, Nat.reduceEqDiff, reduceIte])
  | (with_reducible first | refine lex_cons fun KS hKS => ?_ | refine lexd_cons fun KS hKS => ?_ | fail)
  | ((with_reducible refine call_go ?_); (first | ((first | refine call_a (toEdge_k (l[k]'(by omega))) rfl rfl ?_ | fail); simp only [ENB, Nat.reduceAdd, Nat.reduceSub, Nat.reduceMul, Nat.reduceLeDiff, Nat.reduceBEq, Nat.reduceBNe, Nat.reduceEqDiff, Nat.reduceLT, reduceIte, reduceCtorEq, Int.reduceToNat, tiAll, List.length_map, List.getElem_map, fillTo_len, fillTo_get, fillTo_set, EdgeD.k, EdgeD.s]; simp only [MAB, Nat.reduceEqDiff, Nat.reduceAdd, reduceIte, reduceCtorEq]; refine ⟨rfl, ?_, ?_, ?_, rfl, ?_, ?_, (by dsimp only; omega), ?_⟩; (focus (first | rfl | (simp [CXB, List.length_map, List.getElem_map, fillTo_len, fillTo_get, fillTo_set, EdgeD.k, EdgeD.s]; done) | (simp [CXB, List.length_map, List.getElem_map, fillTo_len, fillTo_get, fillTo_set, EdgeD.k, EdgeD.s]; omega))); (focus (simp [CXB])); (focus (simp [CXB, map_take, List.length_map, List.getElem_map, fillTo_len, fillTo_get, fillTo_set, EdgeD.k, EdgeD.s]; done)); (focus (simp [CXB])); (focus (simp [CXB])); simp only [EFB, Nat.reduceSub, Nat.reduceAdd, Nat.reduceLT, reduceIte]) | fail))
  | ((with_reducible refine step_go ?_); (fail_if_success with_reducible refine call_go ?_); simp only [ENB, Nat.reduceAdd, Nat.reduceSub, Nat.reduceMul, Nat.reduceLeDiff, Nat.reduceBEq, Nat.reduceBNe, Nat.reduceEqDiff, Nat.reduceLT, reduceIte, reduceCtorEq, Int.reduceToNat, tiAll, List.length_map, List.getElem_map, fillTo_len, fillTo_get, fillTo_set, EdgeD.k, EdgeD.s])
  | ((with_reducible refine lexd_nil ?_ ?_); focus (first | kernel_rfl | with_unfolding_all rfl))
  | ((with_reducible refine guard_go ?_); refine lex_gone rfl rfl ?_; simp only [EVB, Nat.reduceEqDiff, reduceIte])
  | ((first | ((with_reducible refine guard_go ?_); refine lex_guard rfl rfl (fun hg KS hKS => ?_) (fun hg => ?_)) | ((with_reducible refine guardd_go ?_); refine lexd_guard rfl rfl (fun hg KS hKS => ?_) (fun hg => ?_)) | fail) <;> first | (exact absurd hg (by decide)) | ((try simp only [CNL] at hg) <;> first | (exfalso; omega) | (exact (tf (by assumption) hg).elim) | (exact (tf hg (by assumption)).elim) | ((try with_reducible (have hT0 : True := hg; clear hT0 hg)); try simp only [EVB, Nat.reduceEqDiff, reduceIte])))
  | ((with_reducible refine hKS _ _ _ _ ?_); clear hKS; clear KS; simp only [EVB, Nat.reduceEqDiff, reduceIte])
  | ((first | ((with_reducible refine cond_go ?_); refine cond_k rfl (fun hc => ?_) (fun hc => ?_)) | (with_reducible refine And.intro (fun hc => ?_) (fun hc => ?_)) | fail) <;> first | (exact absurd hc (by decide)) | ((try simp only [CNL] at hc) <;> first | (exfalso; omega) | (exact (tf (by assumption) hc).elim) | (exact (tf hc (by assumption)).elim) | skip))
  | ((with_reducible refine And.intro ?_ ?_); focus (first | omega | exact u8_le _ | exact flat_intK _ | exact flat_bytK _ | (fail) | decide | (simp only [List.length_map, List.getElem_map, fillTo_len, fillTo_get, fillTo_set, EdgeD.k, EdgeD.s]; done)))
  | ((with_reducible refine ex_p ?_ (fun hh => ?_)); focus (first | omega | (simp only [List.length_map, List.getElem_map, fillTo_len, fillTo_get, fillTo_set, EdgeD.k, EdgeD.s]; omega)))
  | (with_reducible first | refine skip_k ?_ | refine exit_k ?_ | refine ret_k ?_ | fail)
  | ((with_reducible refine hK _ _ _ ?_); clear hK hE hT; clear K)
  | ((with_reducible first | refine hE _ _ _ _ ?_ | refine hT _ _ _ ?_ | fail); (first | (clear hK hE hT; clear K) | (clear hR hE hT; clear K) | skip); try simp only [Nat.reduceEqDiff, if_true, if_false, reduceIte])
  | ((with_reducible apply_assumption -symm -exfalso); try simp only [Nat.reduceEqDiff, if_true, if_false, reduceIte])
  | fail)
    · refine hR.out ⟨k + 1, by omega⟩ _ _ _ (by simp only; omega) ?_
      have e := fillTo_set EdgeD.k (EdgeD.k ⟨0, 0, 0⟩) l k (by omega)
      simp only [EdgeD.k] at e
      (refine wk_a ?_; simp only [MAB, Nat.reduceEqDiff, Nat.reduceAdd, reduceIte, reduceCtorEq]; refine ⟨rfl, rfl, (by decide), ?_, ?_⟩; all_goals (first | (simp only [WKB, Nat.reduceEqDiff, reduceIte, List.forall_mem_cons, List.not_mem_nil, false_implies, implies_true, e, EdgeD.k, Nat.reduceLT, Nat.zero_lt_succ]; done) | (simp [WKB, Nat.reduceEqDiff, reduceIte, List.forall_mem_cons, List.not_mem_nil, false_implies, implies_true, e, EdgeD.k]; done) | simp only [WKB, Nat.reduceEqDiff, reduceIte, List.forall_mem_cons, List.not_mem_nil, false_implies, implies_true]))
    · obtain rfl : k = l.length := by omega
      (refine post_a hres (.inl rfl) ?_; simp only [RSB, ENB, Nat.reduceAdd, Nat.reduceSub, Nat.reduceMul, Nat.reduceLeDiff, Nat.reduceBEq, Nat.reduceBNe, Nat.reduceEqDiff, Nat.reduceLT, reduceIte, reduceCtorEq, Int.reduceToNat, tiAll, fillTo_end, exists_eq_left']; simp only [MAB, Nat.reduceEqDiff, Nat.reduceAdd, reduceIte, reduceCtorEq]; refine ⟨rfl, rfl, ?_, ?_, ?_⟩ <;> (first | rfl | (simp [WKB, Nat.add_comm, fillTo_end]; done) | (simp only [WKB, Nat.reduceEqDiff, reduceIte, List.forall_mem_cons, List.not_mem_nil, false_implies, implies_true])))

set_option maxHeartbeats 2000000 in
theorem eqEdgeS_k (l m : List EdgeD) (hl : l.length ≤ 1048576) (hm : m.length ≤ 1048576) : FnOK Try.prog 99 ⟨2, [(0, some (.ro (l.map EdgeD.k))), (1, some (.ro (m.map EdgeD.k)))], [.c (.sl 0 3 0 l.length), .c (.sl 1 3 0 m.length)], .c (.v (.bool (decide (l = m)))), [], 2⟩ := by
  refine fnOK_of true mixed Try.func99 rfl (by rfl) (by rfl) ?_
  have hres := congrArg Array.toList Try.results99
  simp only [Try.ntmps99, List.length_cons, List.length_nil, Nat.reduceAdd, Nat.reduceSub, List.replicate_succ, List.replicate_zero, List.cons_append, List.nil_append]
  repeat' (first
  | (with_reducible first | refine seq_k fun K hK hE hT => ?_ | refine block_k fun K hK hE hT => ?_ | refine region_k ?_ | refine lex_nil ?_ | fail)
  | ((with_reducible refine draw_k ?_ ?_); focus (first | rfl | kernel_rfl))
  | ((with_reducible first | refine lex_move ?_ | refine lex_assign ?_); simp only [EVB, Nat.reduceEqDiff, reduceIte])
  | (with_reducible first | refine lex_cons fun KS hKS => ?_ | refine lexd_cons fun KS hKS => ?_ | fail)
  | ((with_reducible refine call_go ?_); fail)
  | ((with_reducible refine step_go ?_); (fail_if_success with_reducible refine call_go ?_); simp only [ENB, Nat.reduceAdd, Nat.reduceSub, Nat.reduceMul, Nat.reduceLeDiff, Nat.reduceBEq, Nat.reduceBNe, Nat.reduceEqDiff, Nat.reduceLT, reduceIte, reduceCtorEq, Int.reduceToNat, tiAll, true_and])
  | ((with_reducible refine lexd_nil ?_ ?_); focus (first | kernel_rfl | with_unfolding_all rfl))
  | ((with_reducible refine guard_go ?_); refine lex_gone rfl rfl ?_; simp only [EVB, Nat.reduceEqDiff, reduceIte])
  | ((first | ((with_reducible refine guard_go ?_); refine lex_guard rfl rfl (fun hg KS hKS => ?_) (fun hg => ?_)) | ((with_reducible refine guardd_go ?_); refine lexd_guard rfl rfl (fun hg KS hKS => ?_) (fun hg => ?_)) | fail) <;> first | (exact absurd hg (by decide)) | ((try simp only [CNL] at hg) <;> first | (exfalso; omega) | (exact (tf (by assumption) hg).elim) | (exact (tf hg (by assumption)).elim) | ((try with_reducible (have hT0 : True := hg; clear hT0 hg)); try simp only [EVB, Nat.reduceEqDiff, reduceIte])))
  | ((with_reducible refine hKS _ _ _ _ ?_); clear hKS; clear KS; simp only [EVB, Nat.reduceEqDiff, reduceIte])
  | ((first | ((with_reducible refine cond_go ?_); refine cond_k rfl (fun hc => ?_) (fun hc => ?_)) | (with_reducible refine And.intro (fun hc => ?_) (fun hc => ?_)) | fail) <;> first | (exact absurd hc (by decide)) | ((try simp only [CNL] at hc) <;> first | (exfalso; omega) | (exact (tf (by assumption) hc).elim) | (exact (tf hc (by assumption)).elim) | skip))
  | ((with_reducible refine And.intro ?_ ?_); focus (first | omega | exact u8_le _ | exact flat_intK _ | exact flat_bytK _ | (fail) | decide | (simp only [true_and]; done)))
  | ((with_reducible refine ex_p ?_ (fun hh => ?_)); focus (first | omega | (simp only [true_and]; omega)))
  | (with_reducible first | refine skip_k ?_ | refine exit_k ?_ | refine ret_k ?_ | fail)
  | ((with_reducible refine hK _ _ _ ?_); clear hK hE hT; clear K)
  | ((with_reducible first | refine hE _ _ _ _ ?_ | refine hT _ _ _ ?_ | fail); (first | (clear hK hE hT; clear K) | (clear hR hE hT; clear K) | skip); try simp only [Nat.reduceEqDiff, if_true, if_false, reduceIte])
  | ((with_reducible apply_assumption -symm -exfalso); try simp only [Nat.reduceEqDiff, if_true, if_false, reduceIte])
  | fail)
  · (have hfin := eqs_len (l := l) (m := m) (by omega); (refine post_a hres (.inl rfl) ?_; simp only [RSB, ENB, Nat.reduceAdd, Nat.reduceSub, Nat.reduceMul, Nat.reduceLeDiff, Nat.reduceBEq, Nat.reduceBNe, Nat.reduceEqDiff, Nat.reduceLT, reduceIte, reduceCtorEq, Int.reduceToNat, tiAll, ← hfin, exists_eq_left']; simp only [MAB, Nat.reduceEqDiff, Nat.reduceAdd, reduceIte, reduceCtorEq]; refine ⟨rfl, rfl, ?_, ?_, ?_⟩ <;> (first | rfl | (simp [WKB, Nat.add_comm, ← hfin]; done) | (simp only [WKB, Nat.reduceEqDiff, reduceIte, List.forall_mem_cons, List.not_mem_nil, false_implies, implies_true]))))
  · have hlm : l.length = m.length := by omega
    refine loop_v (X := {k : Nat // k ≤ l.length ∧ Rnd (∀ i, i < k → l[i]? = m[i]?)}) [] (fun x => [(5, .c (.v (.int .i64 ((x.1 : Nat) : Int))))]) (fun x => [(0, some (.ro (l.map EdgeD.k))), (1, some (.ro (m.map EdgeD.k)))]) 2 (fun x => l.length - x.1) ⟨0, by omega, ⟨fun i hi => by omega⟩⟩ ?_
    simp only [KPB, Nat.reduceBEq, Nat.reduceBNe, Nat.reduceAdd, reduceIte]
    refine ⟨?_, ?_⟩
    · (refine wk_a ?_; simp only [MAB, Nat.reduceEqDiff, Nat.reduceAdd, reduceIte, reduceCtorEq]; refine ⟨rfl, rfl, (by decide), ?_, ?_⟩; all_goals (first | (simp only [WKB, Nat.reduceEqDiff, reduceIte, List.forall_mem_cons, List.not_mem_nil, false_implies, implies_true, true_and, Nat.reduceLT, Nat.zero_lt_succ]; done) | (simp [WKB, Nat.reduceEqDiff, reduceIte, List.forall_mem_cons, List.not_mem_nil, false_implies, implies_true, true_and]; done) | simp only [WKB, Nat.reduceEqDiff, reduceIte, List.forall_mem_cons, List.not_mem_nil, false_implies, implies_true]))
    · rintro ⟨k, hk, hi⟩ K hR hE hT
      repeat' (first
  | (with_reducible first | refine seq_k fun K hK hE hT => ?_ | refine block_k fun K hK hE hT => ?_ | refine region_k ?_ | refine lex_nil ?_ | fail)
  | ((with_reducible refine draw_k ?_ ?_); focus (first | rfl | kernel_rfl))
  | ((with_reducible first | refine lex_move ?_ | refine lex_assign ?_); simp only [EVB, Nat.reduceEqDiff, reduceIte])
  | (with_reducible first | refine lex_cons fun KS hKS => ?_ | refine lexd_cons fun KS hKS => ?_ | fail)
  | ((with_reducible refine call_go ?_); (first | ((first | refine call_a (eqEdge_k (l[k]'(by omega)) (m[k]'(by omega))) rfl rfl ?_ | fail); simp only [ENB, Nat.reduceAdd, Nat.reduceSub, Nat.reduceMul, Nat.reduceLeDiff, Nat.reduceBEq, Nat.reduceBNe, Nat.reduceEqDiff, Nat.reduceLT, reduceIte, reduceCtorEq, Int.reduceToNat, tiAll, List.length_map, List.getElem_map, EdgeD.k, EdgeD.s]; simp only [MAB, Nat.reduceEqDiff, Nat.reduceAdd, reduceIte, reduceCtorEq]; refine ⟨rfl, ?_, ?_, ?_, rfl, ?_, ?_, (by dsimp only; omega), ?_⟩; (focus (first | rfl | (simp [CXB, List.length_map, List.getElem_map, EdgeD.k, EdgeD.s]; done) | (simp [CXB, List.length_map, List.getElem_map, EdgeD.k, EdgeD.s]; omega))); (focus (simp [CXB])); (focus (simp [CXB, map_take, List.length_map, List.getElem_map, EdgeD.k, EdgeD.s]; done)); (focus (simp [CXB])); (focus (simp [CXB])); simp only [EFB, Nat.reduceSub, Nat.reduceAdd, Nat.reduceLT, reduceIte]) | fail))
  | ((with_reducible refine step_go ?_); (fail_if_success with_reducible refine call_go ?_); simp only [ENB, Nat.reduceAdd, Nat.reduceSub, Nat.reduceMul, Nat.reduceLeDiff, Nat.reduceBEq, Nat.reduceBNe, Nat.reduceEqDiff, Nat.reduceLT, reduceIte, reduceCtorEq, Int.reduceToNat, tiAll, List.length_map, List.getElem_map, EdgeD.k, EdgeD.s])
  | ((with_reducible refine lexd_nil ?_ ?_); focus (first | kernel_rfl | with_unfolding_all rfl))
  | ((with_reducible refine guard_go ?_); refine lex_gone rfl rfl ?_; simp only [EVB, Nat.reduceEqDiff, reduceIte])
  | ((first | ((with_reducible refine guard_go ?_); refine lex_guard rfl rfl (fun hg KS hKS => ?_) (fun hg => ?_)) | ((with_reducible refine guardd_go ?_); refine lexd_guard rfl rfl (fun hg KS hKS => ?_) (fun hg => ?_)) | fail) <;> first | (exact absurd hg (by decide)) | ((try simp only [CNL] at hg) <;> first | (exfalso; omega) | (exact (tf (by assumption) hg).elim) | (exact (tf hg (by assumption)).elim) | ((try with_reducible (have hT0 : True := hg; clear hT0 hg)); try simp only [EVB, Nat.reduceEqDiff, reduceIte])))
  | ((with_reducible refine hKS _ _ _ _ ?_); clear hKS; clear KS; simp only [EVB, Nat.reduceEqDiff, reduceIte])
  | ((first | ((with_reducible refine cond_go ?_); refine cond_k rfl (fun hc => ?_) (fun hc => ?_)) | (with_reducible refine And.intro (fun hc => ?_) (fun hc => ?_)) | fail) <;> first | (exact absurd hc (by decide)) | ((try simp only [CNL] at hc) <;> first | (exfalso; omega) | (exact (tf (by assumption) hc).elim) | (exact (tf hc (by assumption)).elim) | skip))
  | ((with_reducible refine And.intro ?_ ?_); focus (first | omega | exact u8_le _ | exact flat_intK _ | exact flat_bytK _ | (fail) | decide | (simp only [List.length_map, List.getElem_map, EdgeD.k, EdgeD.s]; done)))
  | ((with_reducible refine ex_p ?_ (fun hh => ?_)); focus (first | omega | (simp only [List.length_map, List.getElem_map, EdgeD.k, EdgeD.s]; omega)))
  | (with_reducible first | refine skip_k ?_ | refine exit_k ?_ | refine ret_k ?_ | fail)
  | ((with_reducible refine hK _ _ _ ?_); clear hK hE hT; clear K)
  | ((with_reducible first | refine hE _ _ _ _ ?_ | refine hT _ _ _ ?_ | fail); (first | (clear hK hE hT; clear K) | (clear hR hE hT; clear K) | skip); try simp only [Nat.reduceEqDiff, if_true, if_false, reduceIte])
  | ((with_reducible apply_assumption -symm -exfalso); try simp only [Nat.reduceEqDiff, if_true, if_false, reduceIte])
  | fail)
      · (have hfin := eqs_hit (l := l) (m := m) k (by omega) (by omega) (by assumption); (refine post_a hres (.inl rfl) ?_; simp only [RSB, ENB, Nat.reduceAdd, Nat.reduceSub, Nat.reduceMul, Nat.reduceLeDiff, Nat.reduceBEq, Nat.reduceBNe, Nat.reduceEqDiff, Nat.reduceLT, reduceIte, reduceCtorEq, Int.reduceToNat, tiAll, ← hfin, exists_eq_left']; simp only [MAB, Nat.reduceEqDiff, Nat.reduceAdd, reduceIte, reduceCtorEq]; refine ⟨rfl, rfl, ?_, ?_, ?_⟩ <;> (first | rfl | (simp [WKB, Nat.add_comm, ← hfin]; done) | (simp only [WKB, Nat.reduceEqDiff, reduceIte, List.forall_mem_cons, List.not_mem_nil, false_implies, implies_true]))))
      · refine hR.out ⟨k + 1, by omega, ⟨fun i h => ?_⟩⟩ _ _ _ (by simp only; omega) ?_
        · by_cases hik : i = k
          · subst hik
            rw [List.getElem?_eq_getElem (by omega), List.getElem?_eq_getElem (by omega)]
            exact congrArg some (by assumption)
          · exact hi.out i (by omega)
        · (refine wk_a ?_; simp only [MAB, Nat.reduceEqDiff, Nat.reduceAdd, reduceIte, reduceCtorEq]; refine ⟨rfl, rfl, (by decide), ?_, ?_⟩; all_goals (first | (simp only [WKB, Nat.reduceEqDiff, reduceIte, List.forall_mem_cons, List.not_mem_nil, false_implies, implies_true, true_and, Nat.reduceLT, Nat.zero_lt_succ]; done) | (simp [WKB, Nat.reduceEqDiff, reduceIte, List.forall_mem_cons, List.not_mem_nil, false_implies, implies_true, true_and]; done) | simp only [WKB, Nat.reduceEqDiff, reduceIte, List.forall_mem_cons, List.not_mem_nil, false_implies, implies_true]))
      · (have hfin := eqs_end (l := l) (m := m) hlm k (by omega) hi.out; (refine post_a hres (.inl rfl) ?_; simp only [RSB, ENB, Nat.reduceAdd, Nat.reduceSub, Nat.reduceMul, Nat.reduceLeDiff, Nat.reduceBEq, Nat.reduceBNe, Nat.reduceEqDiff, Nat.reduceLT, reduceIte, reduceCtorEq, Int.reduceToNat, tiAll, ← hfin, exists_eq_left']; simp only [MAB, Nat.reduceEqDiff, Nat.reduceAdd, reduceIte, reduceCtorEq]; refine ⟨rfl, rfl, ?_, ?_, ?_⟩ <;> (first | rfl | (simp [WKB, Nat.add_comm, ← hfin]; done) | (simp only [WKB, Nat.reduceEqDiff, reduceIte, List.forall_mem_cons, List.not_mem_nil, false_implies, implies_true]))))

set_option maxHeartbeats 4000000 in
theorem markEdgeS_k (l : List EdgeD) (k0 : Nat) (hk0 : k0 + 3 * l.length ≤ 1099511627776) : FnOK Try.prog 100 ⟨1, [(0, some (.row 192 (l.map EdgeD.k)))], [.c (.sl 0 3 0 l.length), .c (.v (.int .i64 (k0 : Int)))], .c (.v (.int .i64 ((k0 + 3 * l.length : Nat) : Int))), [(0, some (.row 192 ((List.range l.length).map (EdgeD.g k0))))], 1⟩ := by
  refine fnOK_of true mixed Try.func100 rfl (by rfl) (by rfl) ?_
  have hres := congrArg Array.toList Try.results100
  simp only [Try.ntmps100, List.length_cons, List.length_nil, Nat.reduceAdd, Nat.reduceSub, List.replicate_succ, List.replicate_zero, List.cons_append, List.nil_append]
  repeat' (first
  | (with_reducible first | refine seq_k fun K hK hE hT => ?_ | refine block_k fun K hK hE hT => ?_ | refine region_k ?_ | refine lex_nil ?_ | fail)
  | ((with_reducible refine draw_k ?_ ?_); focus (first | rfl | kernel_rfl))
  | ((with_reducible first | refine lex_move ?_ | refine lex_assign ?_); simp only [EVB, Nat.reduceEqDiff, reduceIte])
  | (with_reducible first | refine lex_cons fun KS hKS => ?_ | refine lexd_cons fun KS hKS => ?_ | fail)
  | ((with_reducible refine call_go ?_); fail)
  | ((with_reducible refine step_go ?_); (fail_if_success with_reducible refine call_go ?_); simp only [ENB, Nat.reduceAdd, Nat.reduceSub, Nat.reduceMul, Nat.reduceLeDiff, Nat.reduceBEq, Nat.reduceBNe, Nat.reduceEqDiff, Nat.reduceLT, reduceIte, reduceCtorEq, Int.reduceToNat, tiAll, true_and])
  | ((with_reducible refine lexd_nil ?_ ?_); focus (first | kernel_rfl | with_unfolding_all rfl))
  | ((with_reducible refine guard_go ?_); refine lex_gone rfl rfl ?_; simp only [EVB, Nat.reduceEqDiff, reduceIte])
  | ((first | ((with_reducible refine guard_go ?_); refine lex_guard rfl rfl (fun hg KS hKS => ?_) (fun hg => ?_)) | ((with_reducible refine guardd_go ?_); refine lexd_guard rfl rfl (fun hg KS hKS => ?_) (fun hg => ?_)) | fail) <;> first | (exact absurd hg (by decide)) | ((try simp only [CNL] at hg) <;> first | (exfalso; omega) | (exact (tf (by assumption) hg).elim) | (exact (tf hg (by assumption)).elim) | ((try with_reducible (have hT0 : True := hg; clear hT0 hg)); try simp only [EVB, Nat.reduceEqDiff, reduceIte])))
  | ((with_reducible refine hKS _ _ _ _ ?_); clear hKS; clear KS; simp only [EVB, Nat.reduceEqDiff, reduceIte])
  | ((first | ((with_reducible refine cond_go ?_); refine cond_k rfl (fun hc => ?_) (fun hc => ?_)) | (with_reducible refine And.intro (fun hc => ?_) (fun hc => ?_)) | fail) <;> first | (exact absurd hc (by decide)) | ((try simp only [CNL] at hc) <;> first | (exfalso; omega) | (exact (tf (by assumption) hc).elim) | (exact (tf hc (by assumption)).elim) | skip))
  | ((with_reducible refine And.intro ?_ ?_); focus (first | omega | exact u8_le _ | exact flat_intK _ | exact flat_bytK _ | (fail) | decide | (simp only [true_and]; done)))
  | ((with_reducible refine ex_p ?_ (fun hh => ?_)); focus (first | omega | (simp only [true_and]; omega)))
  | (with_reducible first | refine skip_k ?_ | refine exit_k ?_ | refine ret_k ?_ | fail)
  | ((with_reducible refine hK _ _ _ ?_); clear hK hE hT; clear K)
  | ((with_reducible first | refine hE _ _ _ _ ?_ | refine hT _ _ _ ?_ | fail); (first | (clear hK hE hT; clear K) | (clear hR hE hT; clear K) | skip); try simp only [Nat.reduceEqDiff, if_true, if_false, reduceIte])
  | ((with_reducible apply_assumption -symm -exfalso); try simp only [Nat.reduceEqDiff, if_true, if_false, reduceIte])
  | fail)
  refine loop_v (X := {k : Nat // k ≤ l.length}) [] (fun x => [(1, .c (.v (.int .i64 ((k0 + 3 * x.1 : Nat) : Int)))), (5, .c (.v (.int .i64 ((x.1 : Nat) : Int))))]) (fun x => [(0, some (.row 192 (setTo (EdgeD.g k0) EdgeD.k l x.1)))]) 1 (fun x => l.length - x.1) ⟨0, by omega⟩ ?_
  simp only [KPB, Nat.reduceBEq, Nat.reduceBNe, Nat.reduceAdd, reduceIte]
  refine ⟨?_, ?_⟩
  · (refine wk_a ?_; simp only [MAB, Nat.reduceEqDiff, Nat.reduceAdd, reduceIte, reduceCtorEq]; refine ⟨rfl, rfl, (by decide), ?_, ?_⟩; all_goals (first | (simp only [WKB, Nat.reduceEqDiff, reduceIte, List.forall_mem_cons, List.not_mem_nil, false_implies, implies_true, setTo_zero, Nat.mul_zero, Nat.add_zero, Nat.reduceLT, Nat.zero_lt_succ]; done) | (simp [WKB, Nat.reduceEqDiff, reduceIte, List.forall_mem_cons, List.not_mem_nil, false_implies, implies_true, setTo_zero, Nat.mul_zero, Nat.add_zero]; done) | simp only [WKB, Nat.reduceEqDiff, reduceIte, List.forall_mem_cons, List.not_mem_nil, false_implies, implies_true]))
  · rintro ⟨k, hk⟩ K hR hE hT
    have sl := setTo_len (EdgeD.g k0) EdgeD.k l k hk
    obtain ⟨q, hq⟩ : ∃ q, q = k0 + 3 * k := ⟨_, rfl⟩
    simp only [← hq]
    rcases Nat.lt_or_ge k l.length with hlt | hge
    case inr =>
      repeat' (first
  | (with_reducible first | refine seq_k fun K hK hE hT => ?_ | refine block_k fun K hK hE hT => ?_ | refine region_k ?_ | refine lex_nil ?_ | fail)
  | ((with_reducible refine draw_k ?_ ?_); focus (first | rfl | kernel_rfl))
  | ((with_reducible first | refine lex_move ?_ | refine lex_assign ?_); simp only [EVB, Nat.reduceEqDiff, reduceIte])
  | (with_reducible first | refine lex_cons fun KS hKS => ?_ | refine lexd_cons fun KS hKS => ?_ | fail)
  | ((with_reducible refine call_go ?_); fail)
  | ((with_reducible refine step_go ?_); (fail_if_success with_reducible refine call_go ?_); simp only [ENB, Nat.reduceAdd, Nat.reduceSub, Nat.reduceMul, Nat.reduceLeDiff, Nat.reduceBEq, Nat.reduceBNe, Nat.reduceEqDiff, Nat.reduceLT, reduceIte, reduceCtorEq, Int.reduceToNat, tiAll, sl])
  | ((with_reducible refine lexd_nil ?_ ?_); focus (first | kernel_rfl | with_unfolding_all rfl))
  | ((with_reducible refine guard_go ?_); refine lex_gone rfl rfl ?_; simp only [EVB, Nat.reduceEqDiff, reduceIte])
  | ((first | ((with_reducible refine guard_go ?_); refine lex_guard rfl rfl (fun hg KS hKS => ?_) (fun hg => ?_)) | ((with_reducible refine guardd_go ?_); refine lexd_guard rfl rfl (fun hg KS hKS => ?_) (fun hg => ?_)) | fail) <;> first | (exact absurd hg (by decide)) | ((try simp only [CNL] at hg) <;> first | (exfalso; omega) | (exact (tf (by assumption) hg).elim) | (exact (tf hg (by assumption)).elim) | ((try with_reducible (have hT0 : True := hg; clear hT0 hg)); try simp only [EVB, Nat.reduceEqDiff, reduceIte])))
  | ((with_reducible refine hKS _ _ _ _ ?_); clear hKS; clear KS; simp only [EVB, Nat.reduceEqDiff, reduceIte])
  | ((first | ((with_reducible refine cond_go ?_); refine cond_k rfl (fun hc => ?_) (fun hc => ?_)) | (with_reducible refine And.intro (fun hc => ?_) (fun hc => ?_)) | fail) <;> first | (exact absurd hc (by decide)) | ((try simp only [CNL] at hc) <;> first | (exfalso; omega) | (exact (tf (by assumption) hc).elim) | (exact (tf hc (by assumption)).elim) | skip))
  | ((with_reducible refine And.intro ?_ ?_); focus (first | omega | exact u8_le _ | exact flat_intK _ | exact flat_bytK _ | (fail) | decide | (simp only [sl]; done)))
  | ((with_reducible refine ex_p ?_ (fun hh => ?_)); focus (first | omega | (simp only [sl]; omega)))
  | (with_reducible first | refine skip_k ?_ | refine exit_k ?_ | refine ret_k ?_ | fail)
  | ((with_reducible refine hK _ _ _ ?_); clear hK hE hT; clear K)
  | ((with_reducible first | refine hE _ _ _ _ ?_ | refine hT _ _ _ ?_ | fail); (first | (clear hK hE hT; clear K) | (clear hR hE hT; clear K) | skip); try simp only [Nat.reduceEqDiff, if_true, if_false, reduceIte])
  | ((with_reducible apply_assumption -symm -exfalso); try simp only [Nat.reduceEqDiff, if_true, if_false, reduceIte])
  | fail)
      obtain rfl : k = l.length := by omega
      subst hq
      (refine post_a hres (.inl rfl) ?_; simp only [RSB, ENB, Nat.reduceAdd, Nat.reduceSub, Nat.reduceMul, Nat.reduceLeDiff, Nat.reduceBEq, Nat.reduceBNe, Nat.reduceEqDiff, Nat.reduceLT, reduceIte, reduceCtorEq, Int.reduceToNat, tiAll, setTo_end, exists_eq_left']; simp only [MAB, Nat.reduceEqDiff, Nat.reduceAdd, reduceIte, reduceCtorEq]; refine ⟨rfl, rfl, ?_, ?_, ?_⟩ <;> (first | rfl | (simp [WKB, Nat.add_comm, setTo_end]; done) | (simp only [WKB, Nat.reduceEqDiff, reduceIte, List.forall_mem_cons, List.not_mem_nil, false_implies, implies_true])))
    case inl =>
      have hq2 : q + 3 ≤ 1099511627776 := by have := Nat.mul_le_mul_left 3 (show k + 1 ≤ l.length from hlt); omega
      have sg := setTo_get (EdgeD.g k0) EdgeD.k l k hlt (by omega)
      simp only [EdgeD.k] at sg
      repeat' (first
  | (with_reducible first | refine seq_k fun K hK hE hT => ?_ | refine block_k fun K hK hE hT => ?_ | refine region_k ?_ | refine lex_nil ?_ | fail)
  | ((with_reducible refine draw_k ?_ ?_); focus (first | rfl | kernel_rfl))
  | ((with_reducible first | refine lex_move ?_ | refine lex_assign ?_); simp only [EVB, Nat.reduceEqDiff, reduceIte])
  | (with_reducible first | refine lex_cons fun KS hKS => ?_ | refine lexd_cons fun KS hKS => ?_ | fail)
  | ((with_reducible refine call_go ?_); fail)
  | ((with_reducible refine step_go ?_); (fail_if_success with_reducible refine call_go ?_); simp only [ENB, Nat.reduceAdd, Nat.reduceSub, Nat.reduceMul, Nat.reduceLeDiff, Nat.reduceBEq, Nat.reduceBNe, Nat.reduceEqDiff, Nat.reduceLT, reduceIte, reduceCtorEq, Int.reduceToNat, tiAll, sl, sg, List.length_set, List.getElem_set_self, List.set_set])
  | ((with_reducible refine lexd_nil ?_ ?_); focus (first | kernel_rfl | with_unfolding_all rfl))
  | ((with_reducible refine guard_go ?_); refine lex_gone rfl rfl ?_; simp only [EVB, Nat.reduceEqDiff, reduceIte])
  | ((first | ((with_reducible refine guard_go ?_); refine lex_guard rfl rfl (fun hg KS hKS => ?_) (fun hg => ?_)) | ((with_reducible refine guardd_go ?_); refine lexd_guard rfl rfl (fun hg KS hKS => ?_) (fun hg => ?_)) | fail) <;> first | (exact absurd hg (by decide)) | ((try simp only [CNL] at hg) <;> first | (exfalso; omega) | (exact (tf (by assumption) hg).elim) | (exact (tf hg (by assumption)).elim) | ((try with_reducible (have hT0 : True := hg; clear hT0 hg)); try simp only [EVB, Nat.reduceEqDiff, reduceIte])))
  | ((with_reducible refine hKS _ _ _ _ ?_); clear hKS; clear KS; simp only [EVB, Nat.reduceEqDiff, reduceIte])
  | ((first | ((with_reducible refine cond_go ?_); refine cond_k rfl (fun hc => ?_) (fun hc => ?_)) | (with_reducible refine And.intro (fun hc => ?_) (fun hc => ?_)) | fail) <;> first | (exact absurd hc (by decide)) | ((try simp only [CNL] at hc) <;> first | (exfalso; omega) | (exact (tf (by assumption) hc).elim) | (exact (tf hc (by assumption)).elim) | skip))
  | ((with_reducible refine And.intro ?_ ?_); focus (first | omega | exact u8_le _ | exact flat_intK _ | exact flat_bytK _ | (fail) | decide | (simp only [sl, sg, List.length_set, List.getElem_set_self, List.set_set]; done)))
  | ((with_reducible refine ex_p ?_ (fun hh => ?_)); focus (first | omega | (simp only [sl, sg, List.length_set, List.getElem_set_self, List.set_set]; omega)))
  | (with_reducible first | refine skip_k ?_ | refine exit_k ?_ | refine ret_k ?_ | fail)
  | ((with_reducible refine hK _ _ _ ?_); clear hK hE hT; clear K)
  | ((with_reducible first | refine hE _ _ _ _ ?_ | refine hT _ _ _ ?_ | fail); (first | (clear hK hE hT; clear K) | (clear hR hE hT; clear K) | skip); try simp only [Nat.reduceEqDiff, if_true, if_false, reduceIte])
  | ((with_reducible apply_assumption -symm -exfalso); try simp only [Nat.reduceEqDiff, if_true, if_false, reduceIte])
  | fail)
      refine hR.out ⟨k + 1, by omega⟩ _ _ _ (by simp only; omega) ?_
      have e := setTo_set (EdgeD.g k0) EdgeD.k l k hlt
      simp only [EdgeD.g, ← hq, EdgeD.q] at e
      have e2 : (q : Int) + 1 + 1 + 1 = ((k0 + 3 * (k + 1) : Nat) : Int) := by omega
      (refine wk_a ?_; simp only [MAB, Nat.reduceEqDiff, Nat.reduceAdd, reduceIte, reduceCtorEq]; refine ⟨rfl, rfl, (by decide), ?_, ?_⟩; all_goals (first | (simp only [WKB, Nat.reduceEqDiff, reduceIte, List.forall_mem_cons, List.not_mem_nil, false_implies, implies_true, EdgeD.g, e, e2, Nat.reduceLT, Nat.zero_lt_succ]; done) | (simp [WKB, Nat.reduceEqDiff, reduceIte, List.forall_mem_cons, List.not_mem_nil, false_implies, implies_true, EdgeD.g, e, e2]; done) | simp only [WKB, Nat.reduceEqDiff, reduceIte, List.forall_mem_cons, List.not_mem_nil, false_implies, implies_true]))

theorem szEdgeS_k (n b : Nat) (es : List (List DC)) (he : es.length = n) (hw : n ≤ 9223372036854775807) (hb : b ≤ 1048576) : FnOK Try.prog 89 ⟨1, [(0, some (.ro es))], [.c (.sl 0 3 0 n), .c (.v (.int .i64 (b : Int)))], .c (.v (.int .i64 (szL b n))), [], 1⟩ := by
  refine fnOK_of true mixed Try.func89 rfl (by rfl) (by rfl) ?_
  have hres := congrArg Array.toList Try.results89
  simp only [Try.ntmps89, List.length_cons, List.length_nil, Nat.reduceAdd, Nat.reduceSub, List.replicate_succ, List.replicate_zero, List.cons_append, List.nil_append]
  repeat' (first
  | (with_reducible first | refine seq_k fun K hK hE hT => ?_ | refine block_k fun K hK hE hT => ?_ | refine region_k ?_ | refine lex_nil ?_ | fail)
  | ((with_reducible refine draw_k ?_ ?_); focus (first | rfl | kernel_rfl))
  | ((with_reducible first | refine lex_move ?_ | refine lex_assign ?_); simp only [EVB, Nat.reduceEqDiff, reduceIte])
  | (with_reducible first | refine lex_cons fun KS hKS => ?_ | refine lexd_cons fun KS hKS => ?_ | fail)
  | ((with_reducible refine call_go ?_); fail)
  | ((with_reducible refine step_go ?_); (fail_if_success with_reducible refine call_go ?_); simp only [ENB, Nat.reduceAdd, Nat.reduceSub, Nat.reduceMul, Nat.reduceLeDiff, Nat.reduceBEq, Nat.reduceBNe, Nat.reduceEqDiff, Nat.reduceLT, reduceIte, reduceCtorEq, Int.reduceToNat, tiAll, true_and])
  | ((with_reducible refine lexd_nil ?_ ?_); focus (first | kernel_rfl | with_unfolding_all rfl))
  | ((with_reducible refine guard_go ?_); refine lex_gone rfl rfl ?_; simp only [EVB, Nat.reduceEqDiff, reduceIte])
  | ((first | ((with_reducible refine guard_go ?_); refine lex_guard rfl rfl (fun hg KS hKS => ?_) (fun hg => ?_)) | ((with_reducible refine guardd_go ?_); refine lexd_guard rfl rfl (fun hg KS hKS => ?_) (fun hg => ?_)) | fail) <;> first | (exact absurd hg (by decide)) | ((try simp only [CNL] at hg) <;> first | (exfalso; omega) | (exact (tf (by assumption) hg).elim) | (exact (tf hg (by assumption)).elim) | ((try with_reducible (have hT0 : True := hg; clear hT0 hg)); try simp only [EVB, Nat.reduceEqDiff, reduceIte])))
  | ((with_reducible refine hKS _ _ _ _ ?_); clear hKS; clear KS; simp only [EVB, Nat.reduceEqDiff, reduceIte])
  | ((first | ((with_reducible refine cond_go ?_); refine cond_k rfl (fun hc => ?_) (fun hc => ?_)) | (with_reducible refine And.intro (fun hc => ?_) (fun hc => ?_)) | fail) <;> first | (exact absurd hc (by decide)) | ((try simp only [CNL] at hc) <;> first | (exfalso; omega) | (exact (tf (by assumption) hc).elim) | (exact (tf hc (by assumption)).elim) | skip))
  | ((with_reducible refine And.intro ?_ ?_); focus (first | omega | exact u8_le _ | exact flat_intK _ | exact flat_bytK _ | (fail) | decide | (simp only [true_and]; done)))
  | ((with_reducible refine ex_p ?_ (fun hh => ?_)); focus (first | omega | (simp only [true_and]; omega)))
  | (with_reducible first | refine skip_k ?_ | refine exit_k ?_ | refine ret_k ?_ | fail)
  | ((with_reducible refine hK _ _ _ ?_); clear hK hE hT; clear K)
  | ((with_reducible first | refine hE _ _ _ _ ?_ | refine hT _ _ _ ?_ | fail); (first | (clear hK hE hT; clear K) | (clear hR hE hT; clear K) | skip); try simp only [Nat.reduceEqDiff, if_true, if_false, reduceIte])
  | ((with_reducible apply_assumption -symm -exfalso); try simp only [Nat.reduceEqDiff, if_true, if_false, reduceIte])
  | fail)
  · (refine post_a hres (.inl rfl) ?_; simp only [RSB, ENB, Nat.reduceAdd, Nat.reduceSub, Nat.reduceMul, Nat.reduceLeDiff, Nat.reduceBEq, Nat.reduceBNe, Nat.reduceEqDiff, Nat.reduceLT, reduceIte, reduceCtorEq, Int.reduceToNat, tiAll, szL_neg b n (by omega), exists_eq_left']; simp only [MAB, Nat.reduceEqDiff, Nat.reduceAdd, reduceIte, reduceCtorEq]; refine ⟨rfl, rfl, ?_, ?_, ?_⟩ <;> (first | rfl | (simp [WKB, Nat.add_comm, szL_neg b n (by omega)]; done) | (simp only [WKB, Nat.reduceEqDiff, reduceIte, List.forall_mem_cons, List.not_mem_nil, false_implies, implies_true])))
  · (refine post_a hres (.inl rfl) ?_; simp only [RSB, ENB, Nat.reduceAdd, Nat.reduceSub, Nat.reduceMul, Nat.reduceLeDiff, Nat.reduceBEq, Nat.reduceBNe, Nat.reduceEqDiff, Nat.reduceLT, reduceIte, reduceCtorEq, Int.reduceToNat, tiAll, szL_pos b n (by omega), exists_eq_left']; simp only [MAB, Nat.reduceEqDiff, Nat.reduceAdd, reduceIte, reduceCtorEq]; refine ⟨rfl, rfl, ?_, ?_, ?_⟩ <;> (first | rfl | (simp [WKB, Nat.add_comm, szL_pos b n (by omega)]; done) | (simp only [WKB, Nat.reduceEqDiff, reduceIte, List.forall_mem_cons, List.not_mem_nil, false_implies, implies_true])))

end Go.Proofs.Ytmdajpgemcaefaa