/-
  Contracts of the law's helpers for Sub. No conditions of its own.
-/
import Derived.Test.YtmmlacninkpgkaaG0
import Derived.Test.YtmmlacninkpgkaaG2
namespace Go.Proofs.Ytmmlacninkpgkaa
set_option linter.unusedSimpArgs false
set_option linter.unusedVariables false
open Go.RowKit

structure SubD where
  P : Int
  Lo : Int
  Hi : Int
  Locs : List LocD
  Reads : Int
deriving DecidableEq

set_option maxHeartbeats 2000000 in
theorem toSub_k (x : SubD) (h : (x.Locs).length ≤ 1048576) : FnOK Try.prog 39 ⟨1, [(0, some (.ro ((x.Locs).map LocD.k)))], [.agg [.v (.int .i64 x.P), .v (.int .i64 x.Lo), .v (.int .i64 x.Hi), .sl 0 7 0 (x.Locs).length, .v (.int .i64 x.Reads)]], .agg [.v (.int .i64 x.P), .v (.int .i64 x.Lo), .v (.int .i64 x.Hi), .sl 1 7 0 (x.Locs).length, .v (.int .i64 x.Reads)], [(1, some (.row 154 ((x.Locs).map LocD.k)))], 2⟩ := by
  obtain ⟨xP, xLo, xHi, xLocs, xReads⟩ := x
  dsimp only at h
  dsimp only
  refine fnOK_of true mixed Try.func39 rfl (by rfl) (by rfl) ?_
  have hres := congrArg Array.toList Try.results39
  simp only [Try.ntmps39, List.length_cons, List.length_nil, Nat.reduceAdd, Nat.reduceSub, List.replicate_succ, List.replicate_zero, List.cons_append, List.nil_append]
  repeat' (first
  | (with_reducible refine seq_k fun K hK hE hT => ?_)
  | (with_reducible refine block_k fun K hK hE hT => ?_)
  | (with_reducible refine region_k ?_)
  | (with_reducible refine draw_k ?_)
  | (with_reducible refine lex_nil ?_)
  | ((with_reducible first | refine lex_move ?_ | refine lex_assign ?_); simp only [evS, svOf, putS, hputs, hput, Nat.reduceEqDiff, reduceIte, EVL])
  | (with_reducible refine lex_cons fun KS hKS => ?_)
  | (with_reducible refine lexd_cons fun KS hKS => ?_)
  | ((with_reducible refine call_go ?_); (first | refine call_a (toLocS_k xLocs (by omega)) rfl rfl ?_); simp only [stepK, pureK, memK, appK, binK, arithK, shiftK, inI, cellsOf, partS, splice, fillS, partsOf, srcOf, isFlat, hget, impC, cvD, dcOf, dcsOf, dcssOf, chunk, onOps, tmpOf, Op.operands, Call.operands, evS, svOf, Nat.reduceAdd, Nat.reduceSub, Nat.reduceMul, Nat.reduceLeDiff, Nat.reduceBEq, Nat.reduceBNe, Nat.reduceEqDiff, Nat.reduceLT, reduceIte, reduceCtorEq, Int.reduceToNat, tiAll, ENL, strK, rowB_inj, true_and]; simp only [vwAll, vwMore, matSs, matS, matC, matL, matT, matH, matB, hget, vwFrom, vwGet, svRes, Nat.reduceEqDiff, Nat.reduceAdd, reduceIte, reduceCtorEq, MAL]; refine ⟨rfl, ?_, ?_, ?_, rfl, ?_, ?_, (by dsimp only; omega), ?_⟩; (focus (first | rfl | (simp [SV.map, mcv, vwl, true_and]; done) | (simp [SV.map, mcv, vwl, true_and]; omega))); (focus (simp [argsW, wfs, wfc, vwl])); (focus (simp [preL, preOK, vwl, hget, Blk.own, wfb, wfc, Blk.map, mcv, map_take, List.take_of_length_le, true_and]; done)); (focus (simp [domL, Vw.blk, hget])); (focus (simp [ownL, Blk.own])); simp only [Con.effAt, rcv, rid, vwl, SV.map, Blk.map, Vw.blk, Nat.reduceSub, Nat.reduceAdd, Nat.reduceLT, reduceIte, EFL])
  | ((with_reducible refine step_go ?_); (fail_if_success with_reducible refine call_go ?_); simp only [stepK, pureK, memK, appK, binK, arithK, shiftK, inI, cellsOf, partS, splice, fillS, partsOf, srcOf, isFlat, hget, impC, cvD, dcOf, dcsOf, dcssOf, chunk, onOps, tmpOf, Op.operands, Call.operands, evS, svOf, Nat.reduceAdd, Nat.reduceSub, Nat.reduceMul, Nat.reduceLeDiff, Nat.reduceBEq, Nat.reduceBNe, Nat.reduceEqDiff, Nat.reduceLT, reduceIte, reduceCtorEq, Int.reduceToNat, tiAll, ENL, strK, rowB_inj, true_and])
  | ((with_reducible refine lexd_nil ?_ ?_); focus (first | kernel_rfl | with_unfolding_all rfl))
  | (((with_reducible refine guard_go ?_); refine lex_guard rfl rfl (fun hg KS hKS => ?_) (fun hg => ?_)) <;> first | (exact absurd hg (by decide)) | ((try simp only [CNL] at hg) <;> first | (exfalso; omega) | ((try with_reducible (have hT0 : True := hg; clear hT0 hg)); try simp only [evS, svOf, putS, hputs, hput, Nat.reduceEqDiff, reduceIte, EVL])))
  | (((with_reducible refine guardd_go ?_); refine lexd_guard rfl rfl (fun hg KS hKS => ?_) (fun hg => ?_)) <;> first | (exact absurd hg (by decide)) | ((try simp only [CNL] at hg) <;> first | (exfalso; omega) | ((try with_reducible (have hT0 : True := hg; clear hT0 hg)); try simp only [evS, svOf, putS, hputs, hput, Nat.reduceEqDiff, reduceIte, EVL])))
  | ((with_reducible refine hKS _ _ _ _ ?_); clear hKS; clear KS; simp only [evS, svOf, putS, hputs, hput, Nat.reduceEqDiff, reduceIte, EVL])
  | ((with_reducible refine cond_go ?_); refine cond_k rfl (fun hc => ?_) (fun hc => ?_) <;> first | (exact absurd hc (by decide)) | ((try simp only [CNL] at hc) <;> first | (exfalso; omega) | skip))
  | ((with_reducible refine And.intro (fun hp => ?_) (fun hp => ?_)))
  | ((with_reducible refine And.intro ?_ ?_); focus (first | omega | exact u8_le _ | (fail) | decide | (simp only [true_and]; done)))
  | ((with_reducible refine ex_p ?_ (fun hh => ?_)); focus (first | omega | (simp only [true_and]; omega)))
  | (with_reducible refine skip_k ?_) | (with_reducible refine exit_k ?_) | (with_reducible refine ret_k ?_)
  | ((with_reducible refine hK _ _ _ ?_); clear hK hE hT; clear K) | ((with_reducible refine hE _ _ _ _ ?_); (first | (clear hK hE hT; clear K) | (clear hR hE hT; clear K) | skip); try simp only [Nat.reduceEqDiff, if_true, if_false, reduceIte]) | ((with_reducible refine hT _ _ _ ?_); (first | (clear hK hE hT; clear K) | (clear hR hE hT; clear K) | skip)) | fail)
  (refine post_a hres (.inl rfl) ?_; simp only [resvs, resv, stepK, pureK, memK, appK, binK, arithK, shiftK, inI, cellsOf, partS, splice, fillS, partsOf, srcOf, isFlat, hget, impC, cvD, dcOf, dcsOf, dcssOf, chunk, onOps, tmpOf, Op.operands, Call.operands, evS, svOf, Nat.reduceAdd, Nat.reduceSub, Nat.reduceMul, Nat.reduceLeDiff, Nat.reduceBEq, Nat.reduceBNe, Nat.reduceEqDiff, Nat.reduceLT, reduceIte, reduceCtorEq, Int.reduceToNat, tiAll, ENL, strK, rowB_inj, true_and, exists_eq_left']; simp only [vwAll, vwMore, matSs, matS, matC, matL, matT, matH, matB, hget, vwFrom, vwGet, svRes, Nat.reduceEqDiff, Nat.reduceAdd, reduceIte, reduceCtorEq, MAL]; refine ⟨rfl, rfl, ?_, ?_, ?_⟩ <;> (first | rfl | (simp [wfs, wfc, wkH, wkB, wfb, vwl, hget, SV.map, Blk.map, mcv, Nat.add_comm, true_and]; done) | (simp only [wfs, wfc, wkSl, wkH, wkB, wfs, wfc, wfb, SV.map, Blk.map, mcv, vwl, hget, Nat.reduceEqDiff, reduceIte, WKL])))

set_option maxHeartbeats 2000000 in
theorem eqSub_k (x y : SubD) (h : (x.Locs).length ≤ 1048576) (k : (y.Locs).length ≤ 1048576) : FnOK Try.prog 43 ⟨2, [(0, some (.ro ((x.Locs).map LocD.k))), (1, some (.ro ((y.Locs).map LocD.k)))], [.agg [.v (.int .i64 x.P), .v (.int .i64 x.Lo), .v (.int .i64 x.Hi), .sl 0 7 0 (x.Locs).length, .v (.int .i64 x.Reads)], .agg [.v (.int .i64 y.P), .v (.int .i64 y.Lo), .v (.int .i64 y.Hi), .sl 1 7 0 (y.Locs).length, .v (.int .i64 y.Reads)]], .c (.v (.bool (decide (x = y)))), [], 2⟩ := by
  obtain ⟨xP, xLo, xHi, xLocs, xReads⟩ := x
  obtain ⟨yP, yLo, yHi, yLocs, yReads⟩ := y
  simp only [SubD.mk.injEq]
  dsimp only at h k
  refine fnOK_of true mixed Try.func43 rfl (by rfl) (by rfl) ?_
  have hres := congrArg Array.toList Try.results43
  simp only [Try.ntmps43, List.length_cons, List.length_nil, Nat.reduceAdd, Nat.reduceSub, List.replicate_succ, List.replicate_zero, List.cons_append, List.nil_append]
  repeat' (first
  | (with_reducible refine seq_k fun K hK hE hT => ?_)
  | (with_reducible refine block_k fun K hK hE hT => ?_)
  | (with_reducible refine region_k ?_)
  | (with_reducible refine draw_k ?_)
  | (with_reducible refine lex_nil ?_)
  | ((with_reducible first | refine lex_move ?_ | refine lex_assign ?_); simp only [evS, svOf, putS, hputs, hput, Nat.reduceEqDiff, reduceIte, EVL])
  | (with_reducible refine lex_cons fun KS hKS => ?_)
  | (with_reducible refine lexd_cons fun KS hKS => ?_)
  | ((with_reducible refine call_go ?_); (first | refine call_a (eqLocS_k xLocs yLocs (by omega) (by omega)) rfl rfl ?_); simp only [stepK, pureK, memK, appK, binK, arithK, shiftK, inI, cellsOf, partS, splice, fillS, partsOf, srcOf, isFlat, hget, impC, cvD, dcOf, dcsOf, dcssOf, chunk, onOps, tmpOf, Op.operands, Call.operands, evS, svOf, Nat.reduceAdd, Nat.reduceSub, Nat.reduceMul, Nat.reduceLeDiff, Nat.reduceBEq, Nat.reduceBNe, Nat.reduceEqDiff, Nat.reduceLT, reduceIte, reduceCtorEq, Int.reduceToNat, tiAll, ENL, strK, rowB_inj, true_and]; simp only [vwAll, vwMore, matSs, matS, matC, matL, matT, matH, matB, hget, vwFrom, vwGet, svRes, Nat.reduceEqDiff, Nat.reduceAdd, reduceIte, reduceCtorEq, MAL]; refine ⟨rfl, ?_, ?_, ?_, rfl, ?_, ?_, (by dsimp only; omega), ?_⟩; (focus (first | rfl | (simp [SV.map, mcv, vwl, true_and]; done) | (simp [SV.map, mcv, vwl, true_and]; omega))); (focus (simp [argsW, wfs, wfc, vwl])); (focus (simp [preL, preOK, vwl, hget, Blk.own, wfb, wfc, Blk.map, mcv, map_take, List.take_of_length_le, true_and]; done)); (focus (simp [domL, Vw.blk, hget])); (focus (simp [ownL, Blk.own])); simp only [Con.effAt, rcv, rid, vwl, SV.map, Blk.map, Vw.blk, Nat.reduceSub, Nat.reduceAdd, Nat.reduceLT, reduceIte, EFL])
  | ((with_reducible refine step_go ?_); (fail_if_success with_reducible refine call_go ?_); simp only [stepK, pureK, memK, appK, binK, arithK, shiftK, inI, cellsOf, partS, splice, fillS, partsOf, srcOf, isFlat, hget, impC, cvD, dcOf, dcsOf, dcssOf, chunk, onOps, tmpOf, Op.operands, Call.operands, evS, svOf, Nat.reduceAdd, Nat.reduceSub, Nat.reduceMul, Nat.reduceLeDiff, Nat.reduceBEq, Nat.reduceBNe, Nat.reduceEqDiff, Nat.reduceLT, reduceIte, reduceCtorEq, Int.reduceToNat, tiAll, ENL, strK, rowB_inj, true_and])
  | ((with_reducible refine lexd_nil ?_ ?_); focus (first | kernel_rfl | with_unfolding_all rfl))
  | (((with_reducible refine guard_go ?_); refine lex_guard rfl rfl (fun hg KS hKS => ?_) (fun hg => ?_)) <;> first | (exact absurd hg (by decide)) | ((try simp only [CNL] at hg) <;> first | (exfalso; omega) | ((try with_reducible (have hT0 : True := hg; clear hT0 hg)); try simp only [evS, svOf, putS, hputs, hput, Nat.reduceEqDiff, reduceIte, EVL])))
  | (((with_reducible refine guardd_go ?_); refine lexd_guard rfl rfl (fun hg KS hKS => ?_) (fun hg => ?_)) <;> first | (exact absurd hg (by decide)) | ((try simp only [CNL] at hg) <;> first | (exfalso; omega) | ((try with_reducible (have hT0 : True := hg; clear hT0 hg)); try simp only [evS, svOf, putS, hputs, hput, Nat.reduceEqDiff, reduceIte, EVL])))
  | ((with_reducible refine hKS _ _ _ _ ?_); clear hKS; clear KS; simp only [evS, svOf, putS, hputs, hput, Nat.reduceEqDiff, reduceIte, EVL])
  | ((with_reducible refine cond_go ?_); refine cond_k rfl (fun hc => ?_) (fun hc => ?_) <;> first | (exact absurd hc (by decide)) | ((try simp only [CNL] at hc) <;> first | (exfalso; omega) | skip))
  | ((with_reducible refine And.intro (fun hp => ?_) (fun hp => ?_)))
  | ((with_reducible refine And.intro ?_ ?_); focus (first | omega | exact u8_le _ | (fail) | decide | (simp only [true_and]; done)))
  | ((with_reducible refine ex_p ?_ (fun hh => ?_)); focus (first | omega | (simp only [true_and]; omega)))
  | (with_reducible refine skip_k ?_) | (with_reducible refine exit_k ?_) | (with_reducible refine ret_k ?_)
  | ((with_reducible refine hK _ _ _ ?_); clear hK hE hT; clear K) | ((with_reducible refine hE _ _ _ _ ?_); (first | (clear hK hE hT; clear K) | (clear hR hE hT; clear K) | skip); try simp only [Nat.reduceEqDiff, if_true, if_false, reduceIte]) | ((with_reducible refine hT _ _ _ ?_); (first | (clear hK hE hT; clear K) | (clear hR hE hT; clear K) | skip)) | fail)
  all_goals (try simp only [SubD.mk.injEq, not_and] at *)
  all_goals (refine post_a hres (.inl rfl) ?_; simp only [resvs, resv, stepK, pureK, memK, appK, binK, arithK, shiftK, inI, cellsOf, partS, splice, fillS, partsOf, srcOf, isFlat, hget, impC, cvD, dcOf, dcsOf, dcssOf, chunk, onOps, tmpOf, Op.operands, Call.operands, evS, svOf, Nat.reduceAdd, Nat.reduceSub, Nat.reduceMul, Nat.reduceLeDiff, Nat.reduceBEq, Nat.reduceBNe, Nat.reduceEqDiff, Nat.reduceLT, reduceIte, reduceCtorEq, Int.reduceToNat, tiAll, ENL, strK, rowB_inj, *, exists_eq_left']; simp only [vwAll, vwMore, matSs, matS, matC, matL, matT, matH, matB, hget, vwFrom, vwGet, svRes, Nat.reduceEqDiff, Nat.reduceAdd, reduceIte, reduceCtorEq, MAL]; refine ⟨rfl, rfl, ?_, ?_, ?_⟩ <;> (first | rfl | (simp [wfs, wfc, wkH, wkB, wfb, vwl, hget, SV.map, Blk.map, mcv, Nat.add_comm, *]; done) | (simp only [wfs, wfc, wkSl, wkH, wkB, wfs, wfc, wfb, SV.map, Blk.map, mcv, vwl, hget, Nat.reduceEqDiff, reduceIte, WKL])))
  all_goals (refine congrArg (fun b => SV.c (CV.v (Value.bool b))) ?_; symm; simp only [decide_eq_false_iff_not, decide_eq_true_eq]; (intro h; simp_all))

set_option maxHeartbeats 2000000 in
theorem markSub_k (x : SubD) (k : Nat) (h : (k + 7 * (x.Locs).length) ≤ 1099511627776) : FnOK Try.prog 44 ⟨1, [(0, some (.row 154 ((x.Locs).map LocD.k)))], [.agg [.v (.int .i64 x.P), .v (.int .i64 x.Lo), .v (.int .i64 x.Hi), .sl 0 7 0 (x.Locs).length, .v (.int .i64 x.Reads)], .c (.v (.int .i64 (k : Int)))], .c (.v (.int .i64 (((k + 7 * (x.Locs).length) : Nat) : Int))), [(0, some (.row 154 ((List.range (x.Locs).length).map (LocD.g k))))], 1⟩ := by
  obtain ⟨xP, xLo, xHi, xLocs, xReads⟩ := x
  dsimp only at h
  dsimp only
  refine fnOK_of true mixed Try.func44 rfl (by rfl) (by rfl) ?_
  have hres := congrArg Array.toList Try.results44
  simp only [Try.ntmps44, List.length_cons, List.length_nil, Nat.reduceAdd, Nat.reduceSub, List.replicate_succ, List.replicate_zero, List.cons_append, List.nil_append]
  repeat' (first
  | (with_reducible refine seq_k fun K hK hE hT => ?_)
  | (with_reducible refine block_k fun K hK hE hT => ?_)
  | (with_reducible refine region_k ?_)
  | (with_reducible refine draw_k ?_)
  | (with_reducible refine lex_nil ?_)
  | ((with_reducible first | refine lex_move ?_ | refine lex_assign ?_); simp only [evS, svOf, putS, hputs, hput, Nat.reduceEqDiff, reduceIte, EVL])
  | (with_reducible refine lex_cons fun KS hKS => ?_)
  | (with_reducible refine lexd_cons fun KS hKS => ?_)
  | ((with_reducible refine call_go ?_); (first | refine call_a (markLocS_k xLocs k (by omega)) rfl rfl ?_); simp only [stepK, pureK, memK, appK, binK, arithK, shiftK, inI, cellsOf, partS, splice, fillS, partsOf, srcOf, isFlat, hget, impC, cvD, dcOf, dcsOf, dcssOf, chunk, onOps, tmpOf, Op.operands, Call.operands, evS, svOf, Nat.reduceAdd, Nat.reduceSub, Nat.reduceMul, Nat.reduceLeDiff, Nat.reduceBEq, Nat.reduceBNe, Nat.reduceEqDiff, Nat.reduceLT, reduceIte, reduceCtorEq, Int.reduceToNat, tiAll, ENL, strK, rowB_inj, range_len]; simp only [vwAll, vwMore, matSs, matS, matC, matL, matT, matH, matB, hget, vwFrom, vwGet, svRes, Nat.reduceEqDiff, Nat.reduceAdd, reduceIte, reduceCtorEq, MAL]; refine ⟨rfl, ?_, ?_, ?_, rfl, ?_, ?_, (by dsimp only; omega), ?_⟩; (focus (first | rfl | (simp [SV.map, mcv, vwl, range_len]; done) | (simp [SV.map, mcv, vwl, range_len]; omega))); (focus (simp [argsW, wfs, wfc, vwl])); (focus (simp [preL, preOK, vwl, hget, Blk.own, wfb, wfc, Blk.map, mcv, map_take, List.take_of_length_le, range_len]; done)); (focus (simp [domL, Vw.blk, hget])); (focus (simp [ownL, Blk.own])); simp only [Con.effAt, rcv, rid, vwl, SV.map, Blk.map, Vw.blk, Nat.reduceSub, Nat.reduceAdd, Nat.reduceLT, reduceIte, EFL])
  | ((with_reducible refine step_go ?_); (fail_if_success with_reducible refine call_go ?_); simp only [stepK, pureK, memK, appK, binK, arithK, shiftK, inI, cellsOf, partS, splice, fillS, partsOf, srcOf, isFlat, hget, impC, cvD, dcOf, dcsOf, dcssOf, chunk, onOps, tmpOf, Op.operands, Call.operands, evS, svOf, Nat.reduceAdd, Nat.reduceSub, Nat.reduceMul, Nat.reduceLeDiff, Nat.reduceBEq, Nat.reduceBNe, Nat.reduceEqDiff, Nat.reduceLT, reduceIte, reduceCtorEq, Int.reduceToNat, tiAll, ENL, strK, rowB_inj, range_len])
  | ((with_reducible refine lexd_nil ?_ ?_); focus (first | kernel_rfl | with_unfolding_all rfl))
  | (((with_reducible refine guard_go ?_); refine lex_guard rfl rfl (fun hg KS hKS => ?_) (fun hg => ?_)) <;> first | (exact absurd hg (by decide)) | ((try simp only [CNL] at hg) <;> first | (exfalso; omega) | ((try with_reducible (have hT0 : True := hg; clear hT0 hg)); try simp only [evS, svOf, putS, hputs, hput, Nat.reduceEqDiff, reduceIte, EVL])))
  | (((with_reducible refine guardd_go ?_); refine lexd_guard rfl rfl (fun hg KS hKS => ?_) (fun hg => ?_)) <;> first | (exact absurd hg (by decide)) | ((try simp only [CNL] at hg) <;> first | (exfalso; omega) | ((try with_reducible (have hT0 : True := hg; clear hT0 hg)); try simp only [evS, svOf, putS, hputs, hput, Nat.reduceEqDiff, reduceIte, EVL])))
  | ((with_reducible refine hKS _ _ _ _ ?_); clear hKS; clear KS; simp only [evS, svOf, putS, hputs, hput, Nat.reduceEqDiff, reduceIte, EVL])
  | ((with_reducible refine cond_go ?_); refine cond_k rfl (fun hc => ?_) (fun hc => ?_) <;> first | (exact absurd hc (by decide)) | ((try simp only [CNL] at hc) <;> first | (exfalso; omega) | skip))
  | ((with_reducible refine And.intro (fun hp => ?_) (fun hp => ?_)))
  | ((with_reducible refine And.intro ?_ ?_); focus (first | omega | exact u8_le _ | (fail) | decide | (simp only [range_len]; done)))
  | ((with_reducible refine ex_p ?_ (fun hh => ?_)); focus (first | omega | (simp only [range_len]; omega)))
  | (with_reducible refine skip_k ?_) | (with_reducible refine exit_k ?_) | (with_reducible refine ret_k ?_)
  | ((with_reducible refine hK _ _ _ ?_); clear hK hE hT; clear K) | ((with_reducible refine hE _ _ _ _ ?_); (first | (clear hK hE hT; clear K) | (clear hR hE hT; clear K) | skip); try simp only [Nat.reduceEqDiff, if_true, if_false, reduceIte]) | ((with_reducible refine hT _ _ _ ?_); (first | (clear hK hE hT; clear K) | (clear hR hE hT; clear K) | skip)) | fail)
  (refine post_a hres (.inl rfl) ?_; simp only [resvs, resv, stepK, pureK, memK, appK, binK, arithK, shiftK, inI, cellsOf, partS, splice, fillS, partsOf, srcOf, isFlat, hget, impC, cvD, dcOf, dcsOf, dcssOf, chunk, onOps, tmpOf, Op.operands, Call.operands, evS, svOf, Nat.reduceAdd, Nat.reduceSub, Nat.reduceMul, Nat.reduceLeDiff, Nat.reduceBEq, Nat.reduceBNe, Nat.reduceEqDiff, Nat.reduceLT, reduceIte, reduceCtorEq, Int.reduceToNat, tiAll, ENL, strK, rowB_inj, true_and, exists_eq_left']; simp only [vwAll, vwMore, matSs, matS, matC, matL, matT, matH, matB, hget, vwFrom, vwGet, svRes, Nat.reduceEqDiff, Nat.reduceAdd, reduceIte, reduceCtorEq, MAL]; refine ⟨rfl, rfl, ?_, ?_, ?_⟩ <;> (first | rfl | (simp [wfs, wfc, wkH, wkB, wfb, vwl, hget, SV.map, Blk.map, mcv, Nat.add_comm, true_and]; done) | (simp only [wfs, wfc, wkSl, wkH, wkB, wfs, wfc, wfb, SV.map, Blk.map, mcv, vwl, hget, Nat.reduceEqDiff, reduceIte, WKL])))

set_option maxHeartbeats 2000000 in
theorem szSub_k (x : SubD) (b : Nat) (h : (x.Locs).length ≤ 9223372036854775807) (hb : b ≤ 1048576) : FnOK Try.prog 37 ⟨1, [(0, some (.ro ((x.Locs).map LocD.k)))], [.agg [.v (.int .i64 x.P), .v (.int .i64 x.Lo), .v (.int .i64 x.Hi), .sl 0 7 0 (x.Locs).length, .v (.int .i64 x.Reads)], .c (.v (.int .i64 (b : Int)))], .c (.v (.int .i64 (szL b ((x.Locs).length)))), [], 1⟩ := by
  obtain ⟨xP, xLo, xHi, xLocs, xReads⟩ := x
  dsimp only at h
  dsimp only
  refine fnOK_of true mixed Try.func37 rfl (by rfl) (by rfl) ?_
  have hres := congrArg Array.toList Try.results37
  simp only [Try.ntmps37, List.length_cons, List.length_nil, Nat.reduceAdd, Nat.reduceSub, List.replicate_succ, List.replicate_zero, List.cons_append, List.nil_append]
  repeat' (first
  | (with_reducible refine seq_k fun K hK hE hT => ?_)
  | (with_reducible refine block_k fun K hK hE hT => ?_)
  | (with_reducible refine region_k ?_)
  | (with_reducible refine draw_k ?_)
  | (with_reducible refine lex_nil ?_)
  | ((with_reducible first | refine lex_move ?_ | refine lex_assign ?_); simp only [evS, svOf, putS, hputs, hput, Nat.reduceEqDiff, reduceIte, EVL])
  | (with_reducible refine lex_cons fun KS hKS => ?_)
  | (with_reducible refine lexd_cons fun KS hKS => ?_)
  | ((with_reducible refine call_go ?_); (first | refine call_a (szLocS_k (xLocs).length (b) ((xLocs).map LocD.k) (by simp) (by omega) (by omega)) rfl rfl ?_); simp only [stepK, pureK, memK, appK, binK, arithK, shiftK, inI, cellsOf, partS, splice, fillS, partsOf, srcOf, isFlat, hget, impC, cvD, dcOf, dcsOf, dcssOf, chunk, onOps, tmpOf, Op.operands, Call.operands, evS, svOf, Nat.reduceAdd, Nat.reduceSub, Nat.reduceMul, Nat.reduceLeDiff, Nat.reduceBEq, Nat.reduceBNe, Nat.reduceEqDiff, Nat.reduceLT, reduceIte, reduceCtorEq, Int.reduceToNat, tiAll, ENL, strK, rowB_inj, true_and]; simp only [vwAll, vwMore, matSs, matS, matC, matL, matT, matH, matB, hget, vwFrom, vwGet, svRes, Nat.reduceEqDiff, Nat.reduceAdd, reduceIte, reduceCtorEq, MAL]; refine ⟨rfl, ?_, ?_, ?_, rfl, ?_, ?_, (by dsimp only; omega), ?_⟩; (focus (first | rfl | (simp [SV.map, mcv, vwl, true_and]; done) | (simp [SV.map, mcv, vwl, true_and]; omega))); (focus (simp [argsW, wfs, wfc, vwl])); (focus (simp [preL, preOK, vwl, hget, Blk.own, wfb, wfc, Blk.map, mcv, map_take, List.take_of_length_le, true_and]; done)); (focus (simp [domL, Vw.blk, hget])); (focus (simp [ownL, Blk.own])); simp only [Con.effAt, rcv, rid, vwl, SV.map, Blk.map, Vw.blk, Nat.reduceSub, Nat.reduceAdd, Nat.reduceLT, reduceIte, EFL])
  | ((with_reducible refine step_go ?_); (fail_if_success with_reducible refine call_go ?_); simp only [stepK, pureK, memK, appK, binK, arithK, shiftK, inI, cellsOf, partS, splice, fillS, partsOf, srcOf, isFlat, hget, impC, cvD, dcOf, dcsOf, dcssOf, chunk, onOps, tmpOf, Op.operands, Call.operands, evS, svOf, Nat.reduceAdd, Nat.reduceSub, Nat.reduceMul, Nat.reduceLeDiff, Nat.reduceBEq, Nat.reduceBNe, Nat.reduceEqDiff, Nat.reduceLT, reduceIte, reduceCtorEq, Int.reduceToNat, tiAll, ENL, strK, rowB_inj, true_and])
  | ((with_reducible refine lexd_nil ?_ ?_); focus (first | kernel_rfl | with_unfolding_all rfl))
  | (((with_reducible refine guard_go ?_); refine lex_guard rfl rfl (fun hg KS hKS => ?_) (fun hg => ?_)) <;> first | (exact absurd hg (by decide)) | ((try simp only [CNL] at hg) <;> first | (exfalso; omega) | ((try with_reducible (have hT0 : True := hg; clear hT0 hg)); try simp only [evS, svOf, putS, hputs, hput, Nat.reduceEqDiff, reduceIte, EVL])))
  | (((with_reducible refine guardd_go ?_); refine lexd_guard rfl rfl (fun hg KS hKS => ?_) (fun hg => ?_)) <;> first | (exact absurd hg (by decide)) | ((try simp only [CNL] at hg) <;> first | (exfalso; omega) | ((try with_reducible (have hT0 : True := hg; clear hT0 hg)); try simp only [evS, svOf, putS, hputs, hput, Nat.reduceEqDiff, reduceIte, EVL])))
  | ((with_reducible refine hKS _ _ _ _ ?_); clear hKS; clear KS; simp only [evS, svOf, putS, hputs, hput, Nat.reduceEqDiff, reduceIte, EVL])
  | ((with_reducible refine cond_go ?_); refine cond_k rfl (fun hc => ?_) (fun hc => ?_) <;> first | (exact absurd hc (by decide)) | ((try simp only [CNL] at hc) <;> first | (exfalso; omega) | skip))
  | ((with_reducible refine And.intro (fun hp => ?_) (fun hp => ?_)))
  | ((with_reducible refine And.intro ?_ ?_); focus (first | omega | exact u8_le _ | (fail) | decide | (simp only [true_and]; done)))
  | ((with_reducible refine ex_p ?_ (fun hh => ?_)); focus (first | omega | (simp only [true_and]; omega)))
  | (with_reducible refine skip_k ?_) | (with_reducible refine exit_k ?_) | (with_reducible refine ret_k ?_)
  | ((with_reducible refine hK _ _ _ ?_); clear hK hE hT; clear K) | ((with_reducible refine hE _ _ _ _ ?_); (first | (clear hK hE hT; clear K) | (clear hR hE hT; clear K) | skip); try simp only [Nat.reduceEqDiff, if_true, if_false, reduceIte]) | ((with_reducible refine hT _ _ _ ?_); (first | (clear hK hE hT; clear K) | (clear hR hE hT; clear K) | skip)) | fail)
  · (refine post_a hres (.inl rfl) ?_; simp only [resvs, resv, stepK, pureK, memK, appK, binK, arithK, shiftK, inI, cellsOf, partS, splice, fillS, partsOf, srcOf, isFlat, hget, impC, cvD, dcOf, dcsOf, dcssOf, chunk, onOps, tmpOf, Op.operands, Call.operands, evS, svOf, Nat.reduceAdd, Nat.reduceSub, Nat.reduceMul, Nat.reduceLeDiff, Nat.reduceBEq, Nat.reduceBNe, Nat.reduceEqDiff, Nat.reduceLT, reduceIte, reduceCtorEq, Int.reduceToNat, tiAll, ENL, strK, rowB_inj, szL_neg b (((⟨xP, xLo, xHi, xLocs, xReads⟩ : SubD).Locs).length) (by have := szL_lt (b := b) (by assumption); simpa using this), exists_eq_left']; simp only [vwAll, vwMore, matSs, matS, matC, matL, matT, matH, matB, hget, vwFrom, vwGet, svRes, Nat.reduceEqDiff, Nat.reduceAdd, reduceIte, reduceCtorEq, MAL]; refine ⟨rfl, rfl, ?_, ?_, ?_⟩ <;> (first | rfl | (simp [wfs, wfc, wkH, wkB, wfb, vwl, hget, SV.map, Blk.map, mcv, Nat.add_comm, szL_neg b (((⟨xP, xLo, xHi, xLocs, xReads⟩ : SubD).Locs).length) (by have := szL_lt (b := b) (by assumption); simpa using this)]; done) | (simp only [wfs, wfc, wkSl, wkH, wkB, wfs, wfc, wfb, SV.map, Blk.map, mcv, vwl, hget, Nat.reduceEqDiff, reduceIte, WKL])))
  · (refine post_a hres (.inl rfl) ?_; simp only [resvs, resv, stepK, pureK, memK, appK, binK, arithK, shiftK, inI, cellsOf, partS, splice, fillS, partsOf, srcOf, isFlat, hget, impC, cvD, dcOf, dcsOf, dcssOf, chunk, onOps, tmpOf, Op.operands, Call.operands, evS, svOf, Nat.reduceAdd, Nat.reduceSub, Nat.reduceMul, Nat.reduceLeDiff, Nat.reduceBEq, Nat.reduceBNe, Nat.reduceEqDiff, Nat.reduceLT, reduceIte, reduceCtorEq, Int.reduceToNat, tiAll, ENL, strK, rowB_inj, true_and, exists_eq_left']; simp only [vwAll, vwMore, matSs, matS, matC, matL, matT, matH, matB, hget, vwFrom, vwGet, svRes, Nat.reduceEqDiff, Nat.reduceAdd, reduceIte, reduceCtorEq, MAL]; refine ⟨rfl, rfl, ?_, ?_, ?_⟩ <;> (first | rfl | (simp [wfs, wfc, wkH, wkB, wfb, vwl, hget, SV.map, Blk.map, mcv, Nat.add_comm, true_and]; done) | (simp only [wfs, wfc, wkSl, wkH, wkB, wfs, wfc, wfb, SV.map, Blk.map, mcv, vwl, hget, Nat.reduceEqDiff, reduceIte, WKL])))

end Go.Proofs.Ytmmlacninkpgkaa