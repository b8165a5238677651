/-
  The law FnExactViews returns true. No conditions of its own.
-/
import Derived.Test.YtmdajpgemcaefaaK9
import Derived.Test.YtmdajpgemcaefaaSh2
import Derived.Test.YtmdajpgemcaefaaSh3
namespace Go.Proofs.Ytmdajpgemcaefaa
set_option linter.unusedSimpArgs false
set_option linter.unusedVariables false
open Go.RowKit

set_option maxHeartbeats 8000000 in
theorem FnExactViews_k (g : GraphD) (x : RunD) (v : Int) (rg : g.rng) (rx : x.rng) (_ : I64 v) : FnOK Try.prog 5 ⟨4, [(0, some (.ro ((g.Edges).map EdgeD.k))), (1, some (.ro ((x.Vals).map intK))), (2, some (.ro ((x.EVals).map intK))), (3, some (.ro ((x.Next.Bits).map bytK)))], [.agg [.v (.int .i64 g.N), .sl 0 3 0 (g.Edges).length], .agg [.v (.int .i64 x.Job.Prog), .v (.int .i64 x.Job.Src), .v (.int .i64 x.Iter), .v (.bool x.Done), .sl 1 1 0 (x.Vals).length, .sl 2 1 0 (x.EVals).length, .v (.int .i64 x.Next.N), .sl 3 1 0 (x.Next.Bits).length], .c (.v (.int .i64 v))], .c (.v (.bool true)), [], 4⟩ := by
  have q0 := rg.2.1
  have r0 := rx.2.2.2.1.1
  have r1 := rx.2.2.2.2.1.1
  have r2 := rx.2.2.2.2.2.2.1
  simp only [maxLen] at q0 r0 r1 r2
  have cg := szGraph_k g 1048576 (by omega) (by omega)
  rcases Nat.lt_or_ge 1048576 ((g.Edges).length) with c0 | c0
  · have s0 : szL 1048576 ((g.Edges).length) = -1 := szL_neg _ _ c0
    refine fnOK_of true mixed Try.func5 rfl (by rfl) (by rfl) ?_
    have hres := congrArg Array.toList Try.results5
    simp only [Try.ntmps5, List.length_cons, List.length_nil, Nat.reduceAdd, Nat.reduceSub, List.replicate_succ, List.replicate_zero, List.cons_append, List.nil_append]
    repeat' (first
  | (with_reducible refine seq_k fun K hK hE hT => ?_)
  | (with_reducible refine block_k fun K hK hE hT => ?_)
  | (with_reducible refine region_k ?_)
  | (with_reducible refine draw_k ?_)
  | (with_reducible refine lex_nil ?_)
  | ((with_reducible first | refine lex_move ?_ | refine lex_assign ?_); simp only [evS, svOf, putS, hputs, hput, Nat.reduceEqDiff, reduceIte, EVL])
  | (with_reducible refine lex_cons fun KS hKS => ?_)
  | (with_reducible refine lexd_cons fun KS hKS => ?_)
  | ((with_reducible refine call_go ?_); (first | ((first | refine call_a (cg) rfl rfl ?_); simp only [stepK, pureK, memK, appK, binK, arithK, shiftK, inI, cellsOf, partS, splice, fillS, partsOf, srcOf, isFlat, hget, impC, cvD, dcOf, dcsOf, dcssOf, chunk, onOps, tmpOf, Op.operands, Call.operands, evS, svOf, Nat.reduceAdd, Nat.reduceSub, Nat.reduceMul, Nat.reduceLeDiff, Nat.reduceBEq, Nat.reduceBNe, Nat.reduceEqDiff, Nat.reduceLT, reduceIte, reduceCtorEq, Int.reduceToNat, tiAll, ENL, strK, rowB_inj, s0]; simp only [vwAll, vwMore, matSs, matS, matC, matL, matT, matH, matB, hget, vwFrom, vwGet, svRes, Nat.reduceEqDiff, Nat.reduceAdd, reduceIte, reduceCtorEq, MAL]; refine ⟨rfl, ?_, ?_, ?_, rfl, ?_, ?_, (by dsimp only; omega), ?_⟩; (focus (first | rfl | (simp [SV.map, mcv, vwl, s0]; done) | (simp [SV.map, mcv, vwl, s0]; omega))); (focus (simp [argsW, wfs, wfc, vwl])); (focus (simp [preL, preOK, vwl, hget, Blk.own, wfb, wfc, Blk.map, mcv, map_take, List.take_of_length_le, s0]; done)); (focus (simp [domL, Vw.blk, hget])); (focus (simp [ownL, Blk.own])); simp only [Con.effAt, rcv, rid, vwl, SV.map, Blk.map, Vw.blk, Nat.reduceSub, Nat.reduceAdd, Nat.reduceLT, reduceIte, EFL]) | fail))
  | ((with_reducible refine step_go ?_); (fail_if_success with_reducible refine call_go ?_); simp only [stepK, pureK, memK, appK, binK, arithK, shiftK, inI, cellsOf, partS, splice, fillS, partsOf, srcOf, isFlat, hget, impC, cvD, dcOf, dcsOf, dcssOf, chunk, onOps, tmpOf, Op.operands, Call.operands, evS, svOf, Nat.reduceAdd, Nat.reduceSub, Nat.reduceMul, Nat.reduceLeDiff, Nat.reduceBEq, Nat.reduceBNe, Nat.reduceEqDiff, Nat.reduceLT, reduceIte, reduceCtorEq, Int.reduceToNat, tiAll, ENL, strK, rowB_inj, s0])
  | ((with_reducible refine lexd_nil ?_ ?_); focus (first | kernel_rfl | with_unfolding_all rfl))
  | (((with_reducible refine guard_go ?_); refine lex_guard rfl rfl (fun hg KS hKS => ?_) (fun hg => ?_)) <;> first | (exact absurd hg (by decide)) | ((try simp only [CNL] at hg) <;> first | (exfalso; omega) | (exact (tf (by assumption) hg).elim) | (exact (tf hg (by assumption)).elim) | ((try with_reducible (have hT0 : True := hg; clear hT0 hg)); try simp only [evS, svOf, putS, hputs, hput, Nat.reduceEqDiff, reduceIte, EVL])))
  | (((with_reducible refine guardd_go ?_); refine lexd_guard rfl rfl (fun hg KS hKS => ?_) (fun hg => ?_)) <;> first | (exact absurd hg (by decide)) | ((try simp only [CNL] at hg) <;> first | (exfalso; omega) | (exact (tf (by assumption) hg).elim) | (exact (tf hg (by assumption)).elim) | ((try with_reducible (have hT0 : True := hg; clear hT0 hg)); try simp only [evS, svOf, putS, hputs, hput, Nat.reduceEqDiff, reduceIte, EVL])))
  | ((with_reducible refine hKS _ _ _ _ ?_); clear hKS; clear KS; simp only [evS, svOf, putS, hputs, hput, Nat.reduceEqDiff, reduceIte, EVL])
  | ((with_reducible refine cond_go ?_); refine cond_k rfl (fun hc => ?_) (fun hc => ?_) <;> first | (exact absurd hc (by decide)) | ((try simp only [CNL] at hc) <;> first | (exfalso; omega) | (exact (tf (by assumption) hc).elim) | (exact (tf hc (by assumption)).elim) | skip))
  | ((with_reducible refine And.intro (fun hp => ?_) (fun hp => ?_)) <;> first | (exact absurd hp (by decide)) | ((try simp only [CNL] at hp) <;> first | (exfalso; omega) | (exact (tf (by assumption) hp).elim) | (exact (tf hp (by assumption)).elim) | skip))
  | ((with_reducible refine And.intro ?_ ?_); focus (first | omega | exact u8_le _ | exact flat_intK _ | exact flat_bytK _ | (fail) | decide | (simp only [s0]; done)))
  | ((with_reducible refine ex_p ?_ (fun hh => ?_)); focus (first | omega | (simp only [s0]; omega)))
  | (with_reducible refine skip_k ?_) | (with_reducible refine exit_k ?_) | (with_reducible refine ret_k ?_)
  | ((with_reducible refine hK _ _ _ ?_); clear hK hE hT; clear K) | ((with_reducible refine hE _ _ _ _ ?_); (first | (clear hK hE hT; clear K) | (clear hR hE hT; clear K) | skip); try simp only [Nat.reduceEqDiff, if_true, if_false, reduceIte]) | ((with_reducible refine hT _ _ _ ?_); (first | (clear hK hE hT; clear K) | (clear hR hE hT; clear K) | skip))
  | ((with_reducible apply_assumption -symm -exfalso); try simp only [Nat.reduceEqDiff, if_true, if_false, reduceIte])
  | fail)
    (refine post_a hres (.inl rfl) ?_; simp only [resvs, resv, stepK, pureK, memK, appK, binK, arithK, shiftK, inI, cellsOf, partS, splice, fillS, partsOf, srcOf, isFlat, hget, impC, cvD, dcOf, dcsOf, dcssOf, chunk, onOps, tmpOf, Op.operands, Call.operands, evS, svOf, Nat.reduceAdd, Nat.reduceSub, Nat.reduceMul, Nat.reduceLeDiff, Nat.reduceBEq, Nat.reduceBNe, Nat.reduceEqDiff, Nat.reduceLT, reduceIte, reduceCtorEq, Int.reduceToNat, tiAll, ENL, strK, rowB_inj, true_and, exists_eq_left']; simp only [vwAll, vwMore, matSs, matS, matC, matL, matT, matH, matB, hget, vwFrom, vwGet, svRes, Nat.reduceEqDiff, Nat.reduceAdd, reduceIte, reduceCtorEq, MAL]; refine ⟨rfl, rfl, ?_, ?_, ?_⟩ <;> (first | rfl | (simp [wfs, wfc, wkH, wkB, wfb, vwl, hget, SV.map, Blk.map, mcv, Nat.add_comm, true_and]; done) | (simp only [wfs, wfc, wkSl, wkH, wkB, wfs, wfc, wfb, SV.map, Blk.map, mcv, vwl, hget, Nat.reduceEqDiff, reduceIte, WKL, List.forall_mem_cons, List.not_mem_nil, false_implies, implies_true])))
  · have s0 : szL 1048576 ((g.Edges).length) = ((1048576 - (g.Edges).length : Nat) : Int) := szL_sub _ _ c0
    have cz := szRun_k x (1048576 - (g.Edges).length) ⟨by omega, by omega, by omega⟩ (by omega)
    rcases Nat.lt_or_ge (1048576 - (g.Edges).length) ((x.Vals).length + (x.EVals).length + (x.Next.Bits).length) with c1 | c1
    · have s1 : szL (1048576 - (g.Edges).length) ((x.Vals).length + (x.EVals).length + (x.Next.Bits).length) = -1 := szL_neg _ _ c1
      refine fnOK_of true mixed Try.func5 rfl (by rfl) (by rfl) ?_
      have hres := congrArg Array.toList Try.results5
      simp only [Try.ntmps5, List.length_cons, List.length_nil, Nat.reduceAdd, Nat.reduceSub, List.replicate_succ, List.replicate_zero, List.cons_append, List.nil_append]
      repeat' (first
  | (with_reducible refine seq_k fun K hK hE hT => ?_)
  | (with_reducible refine block_k fun K hK hE hT => ?_)
  | (with_reducible refine region_k ?_)
  | (with_reducible refine draw_k ?_)
  | (with_reducible refine lex_nil ?_)
  | ((with_reducible first | refine lex_move ?_ | refine lex_assign ?_); simp only [evS, svOf, putS, hputs, hput, Nat.reduceEqDiff, reduceIte, EVL])
  | (with_reducible refine lex_cons fun KS hKS => ?_)
  | (with_reducible refine lexd_cons fun KS hKS => ?_)
  | ((with_reducible refine call_go ?_); (first | ((first | refine call_a (cg) rfl rfl ?_ | refine call_a (cz) rfl rfl ?_); simp only [stepK, pureK, memK, appK, binK, arithK, shiftK, inI, cellsOf, partS, splice, fillS, partsOf, srcOf, isFlat, hget, impC, cvD, dcOf, dcsOf, dcssOf, chunk, onOps, tmpOf, Op.operands, Call.operands, evS, svOf, Nat.reduceAdd, Nat.reduceSub, Nat.reduceMul, Nat.reduceLeDiff, Nat.reduceBEq, Nat.reduceBNe, Nat.reduceEqDiff, Nat.reduceLT, reduceIte, reduceCtorEq, Int.reduceToNat, tiAll, ENL, strK, rowB_inj, s0, s1]; simp only [vwAll, vwMore, matSs, matS, matC, matL, matT, matH, matB, hget, vwFrom, vwGet, svRes, Nat.reduceEqDiff, Nat.reduceAdd, reduceIte, reduceCtorEq, MAL]; refine ⟨rfl, ?_, ?_, ?_, rfl, ?_, ?_, (by dsimp only; omega), ?_⟩; (focus (first | rfl | (simp [SV.map, mcv, vwl, s0, s1]; done) | (simp [SV.map, mcv, vwl, s0, s1]; omega))); (focus (simp [argsW, wfs, wfc, vwl])); (focus (simp [preL, preOK, vwl, hget, Blk.own, wfb, wfc, Blk.map, mcv, map_take, List.take_of_length_le, s0, s1]; done)); (focus (simp [domL, Vw.blk, hget])); (focus (simp [ownL, Blk.own])); simp only [Con.effAt, rcv, rid, vwl, SV.map, Blk.map, Vw.blk, Nat.reduceSub, Nat.reduceAdd, Nat.reduceLT, reduceIte, EFL]) | fail))
  | ((with_reducible refine step_go ?_); (fail_if_success with_reducible refine call_go ?_); simp only [stepK, pureK, memK, appK, binK, arithK, shiftK, inI, cellsOf, partS, splice, fillS, partsOf, srcOf, isFlat, hget, impC, cvD, dcOf, dcsOf, dcssOf, chunk, onOps, tmpOf, Op.operands, Call.operands, evS, svOf, Nat.reduceAdd, Nat.reduceSub, Nat.reduceMul, Nat.reduceLeDiff, Nat.reduceBEq, Nat.reduceBNe, Nat.reduceEqDiff, Nat.reduceLT, reduceIte, reduceCtorEq, Int.reduceToNat, tiAll, ENL, strK, rowB_inj, s0, s1])
  | ((with_reducible refine lexd_nil ?_ ?_); focus (first | kernel_rfl | with_unfolding_all rfl))
  | (((with_reducible refine guard_go ?_); refine lex_guard rfl rfl (fun hg KS hKS => ?_) (fun hg => ?_)) <;> first | (exact absurd hg (by decide)) | ((try simp only [CNL] at hg) <;> first | (exfalso; omega) | (exact (tf (by assumption) hg).elim) | (exact (tf hg (by assumption)).elim) | ((try with_reducible (have hT0 : True := hg; clear hT0 hg)); try simp only [evS, svOf, putS, hputs, hput, Nat.reduceEqDiff, reduceIte, EVL])))
  | (((with_reducible refine guardd_go ?_); refine lexd_guard rfl rfl (fun hg KS hKS => ?_) (fun hg => ?_)) <;> first | (exact absurd hg (by decide)) | ((try simp only [CNL] at hg) <;> first | (exfalso; omega) | (exact (tf (by assumption) hg).elim) | (exact (tf hg (by assumption)).elim) | ((try with_reducible (have hT0 : True := hg; clear hT0 hg)); try simp only [evS, svOf, putS, hputs, hput, Nat.reduceEqDiff, reduceIte, EVL])))
  | ((with_reducible refine hKS _ _ _ _ ?_); clear hKS; clear KS; simp only [evS, svOf, putS, hputs, hput, Nat.reduceEqDiff, reduceIte, EVL])
  | ((with_reducible refine cond_go ?_); refine cond_k rfl (fun hc => ?_) (fun hc => ?_) <;> first | (exact absurd hc (by decide)) | ((try simp only [CNL] at hc) <;> first | (exfalso; omega) | (exact (tf (by assumption) hc).elim) | (exact (tf hc (by assumption)).elim) | skip))
  | ((with_reducible refine And.intro (fun hp => ?_) (fun hp => ?_)) <;> first | (exact absurd hp (by decide)) | ((try simp only [CNL] at hp) <;> first | (exfalso; omega) | (exact (tf (by assumption) hp).elim) | (exact (tf hp (by assumption)).elim) | skip))
  | ((with_reducible refine And.intro ?_ ?_); focus (first | omega | exact u8_le _ | exact flat_intK _ | exact flat_bytK _ | (fail) | decide | (simp only [s0, s1]; done)))
  | ((with_reducible refine ex_p ?_ (fun hh => ?_)); focus (first | omega | (simp only [s0, s1]; omega)))
  | (with_reducible refine skip_k ?_) | (with_reducible refine exit_k ?_) | (with_reducible refine ret_k ?_)
  | ((with_reducible refine hK _ _ _ ?_); clear hK hE hT; clear K) | ((with_reducible refine hE _ _ _ _ ?_); (first | (clear hK hE hT; clear K) | (clear hR hE hT; clear K) | skip); try simp only [Nat.reduceEqDiff, if_true, if_false, reduceIte]) | ((with_reducible refine hT _ _ _ ?_); (first | (clear hK hE hT; clear K) | (clear hR hE hT; clear K) | skip))
  | ((with_reducible apply_assumption -symm -exfalso); try simp only [Nat.reduceEqDiff, if_true, if_false, reduceIte])
  | fail)
      (refine post_a hres (.inl rfl) ?_; simp only [resvs, resv, stepK, pureK, memK, appK, binK, arithK, shiftK, inI, cellsOf, partS, splice, fillS, partsOf, srcOf, isFlat, hget, impC, cvD, dcOf, dcsOf, dcssOf, chunk, onOps, tmpOf, Op.operands, Call.operands, evS, svOf, Nat.reduceAdd, Nat.reduceSub, Nat.reduceMul, Nat.reduceLeDiff, Nat.reduceBEq, Nat.reduceBNe, Nat.reduceEqDiff, Nat.reduceLT, reduceIte, reduceCtorEq, Int.reduceToNat, tiAll, ENL, strK, rowB_inj, true_and, exists_eq_left']; simp only [vwAll, vwMore, matSs, matS, matC, matL, matT, matH, matB, hget, vwFrom, vwGet, svRes, Nat.reduceEqDiff, Nat.reduceAdd, reduceIte, reduceCtorEq, MAL]; refine ⟨rfl, rfl, ?_, ?_, ?_⟩ <;> (first | rfl | (simp [wfs, wfc, wkH, wkB, wfb, vwl, hget, SV.map, Blk.map, mcv, Nat.add_comm, true_and]; done) | (simp only [wfs, wfc, wkSl, wkH, wkB, wfs, wfc, wfb, SV.map, Blk.map, mcv, vwl, hget, Nat.reduceEqDiff, reduceIte, WKL, List.forall_mem_cons, List.not_mem_nil, false_implies, implies_true])))
    · have s1 : szL (1048576 - (g.Edges).length) ((x.Vals).length + (x.EVals).length + (x.Next.Bits).length) = ((1048576 - (g.Edges).length - ((x.Vals).length + (x.EVals).length + (x.Next.Bits).length) : Nat) : Int) := szL_sub _ _ c1
      have bl : (x.Vals).length ≤ 1048576 ∧ (x.EVals).length ≤ 1048576 ∧ (x.Next.Bits).length ≤ 1048576 := ⟨by omega, by omega, by omega⟩
      have bg : (g.Edges).length ≤ 1048576 := by omega
      have cs := specViews_k g x v bg bl
      have ci := implViews_k g x v bg bl
      obtain ⟨z0, z1⟩ := lViews_len g x v
      obtain ⟨V, hV⟩ : ∃ V, V = lViews g x v := ⟨_, rfl⟩
      obtain ⟨I, hI⟩ : ∃ I, I = lIs g x v := ⟨_, rfl⟩
      rw [← hV, ← hI] at cs ci
      rw [← hV] at z0
      rw [← hI] at z1
      clear hV hI
      refine fnOK_of true mixed Try.func5 rfl (by rfl) (by rfl) ?_
      have hres := congrArg Array.toList Try.results5
      simp only [Try.ntmps5, List.length_cons, List.length_nil, Nat.reduceAdd, Nat.reduceSub, List.replicate_succ, List.replicate_zero, List.cons_append, List.nil_append]
      repeat' (first
  | (with_reducible refine seq_k fun K hK hE hT => ?_)
  | (with_reducible refine block_k fun K hK hE hT => ?_)
  | (with_reducible refine region_k ?_)
  | (with_reducible refine draw_k ?_)
  | (with_reducible refine lex_nil ?_)
  | ((with_reducible first | refine lex_move ?_ | refine lex_assign ?_); simp only [evS, svOf, putS, hputs, hput, Nat.reduceEqDiff, reduceIte, EVL])
  | (with_reducible refine lex_cons fun KS hKS => ?_)
  | (with_reducible refine lexd_cons fun KS hKS => ?_)
  | ((with_reducible refine call_go ?_); (first | ((first | refine call_a (cg) rfl rfl ?_ | refine call_a (cz) rfl rfl ?_ | refine call_a (toGraph_k g bg) rfl rfl ?_ | refine call_a (toRun_k x bl) rfl rfl ?_ | refine call_a (cs) rfl rfl ?_ | refine call_a (ci) rfl rfl ?_ | refine call_a (eqViewS_k V V (by omega) (by omega)) rfl rfl ?_ | refine call_a (eqIntS_k I I (by omega) (by omega)) rfl rfl ?_ | refine call_a (eqRun_k x x bl bl) rfl rfl ?_ | refine call_a (eqGraph_k g g bg bg) rfl rfl ?_ | refine call_a (markGraph_k g 1 (by omega)) rfl rfl ?_ | refine call_a (markRun_k x (1 + 3 * g.Edges.length) (by omega)) rfl rfl ?_ | refine call_a (markViewS_k V 1 (by omega)) rfl rfl ?_ | refine call_a (markIntS_k I (1 + 4 * V.length) (by omega)) rfl rfl ?_ | refine call_a (heldViewS_k V.length 1 (by omega)) rfl rfl ?_ | refine call_a (heldIntS_k I.length (1 + 4 * V.length) (by omega)) rfl rfl ?_); simp only [stepK, pureK, memK, appK, binK, arithK, shiftK, inI, cellsOf, partS, splice, fillS, partsOf, srcOf, isFlat, hget, impC, cvD, dcOf, dcsOf, dcssOf, chunk, onOps, tmpOf, Op.operands, Call.operands, evS, svOf, Nat.reduceAdd, Nat.reduceSub, Nat.reduceMul, Nat.reduceLeDiff, Nat.reduceBEq, Nat.reduceBNe, Nat.reduceEqDiff, Nat.reduceLT, reduceIte, reduceCtorEq, Int.reduceToNat, tiAll, ENL, strK, rowB_inj, s0, s1, range_len]; simp only [vwAll, vwMore, matSs, matS, matC, matL, matT, matH, matB, hget, vwFrom, vwGet, svRes, Nat.reduceEqDiff, Nat.reduceAdd, reduceIte, reduceCtorEq, MAL]; refine ⟨rfl, ?_, ?_, ?_, rfl, ?_, ?_, (by dsimp only; omega), ?_⟩; (focus (first | rfl | (simp [SV.map, mcv, vwl, s0, s1, range_len]; done) | (simp [SV.map, mcv, vwl, s0, s1, range_len]; omega))); (focus (simp [argsW, wfs, wfc, vwl])); (focus (simp [preL, preOK, vwl, hget, Blk.own, wfb, wfc, Blk.map, mcv, map_take, List.take_of_length_le, s0, s1, range_len]; done)); (focus (simp [domL, Vw.blk, hget])); (focus (simp [ownL, Blk.own])); simp only [Con.effAt, rcv, rid, vwl, SV.map, Blk.map, Vw.blk, Nat.reduceSub, Nat.reduceAdd, Nat.reduceLT, reduceIte, EFL]) | fail))
  | ((with_reducible refine step_go ?_); (fail_if_success with_reducible refine call_go ?_); simp only [stepK, pureK, memK, appK, binK, arithK, shiftK, inI, cellsOf, partS, splice, fillS, partsOf, srcOf, isFlat, hget, impC, cvD, dcOf, dcsOf, dcssOf, chunk, onOps, tmpOf, Op.operands, Call.operands, evS, svOf, Nat.reduceAdd, Nat.reduceSub, Nat.reduceMul, Nat.reduceLeDiff, Nat.reduceBEq, Nat.reduceBNe, Nat.reduceEqDiff, Nat.reduceLT, reduceIte, reduceCtorEq, Int.reduceToNat, tiAll, ENL, strK, rowB_inj, s0, s1, range_len])
  | ((with_reducible refine lexd_nil ?_ ?_); focus (first | kernel_rfl | with_unfolding_all rfl))
  | (((with_reducible refine guard_go ?_); refine lex_guard rfl rfl (fun hg KS hKS => ?_) (fun hg => ?_)) <;> first | (exact absurd hg (by decide)) | ((try simp only [CNL] at hg) <;> first | (exfalso; omega) | (exact (tf (by assumption) hg).elim) | (exact (tf hg (by assumption)).elim) | ((try with_reducible (have hT0 : True := hg; clear hT0 hg)); try simp only [evS, svOf, putS, hputs, hput, Nat.reduceEqDiff, reduceIte, EVL])))
  | (((with_reducible refine guardd_go ?_); refine lexd_guard rfl rfl (fun hg KS hKS => ?_) (fun hg => ?_)) <;> first | (exact absurd hg (by decide)) | ((try simp only [CNL] at hg) <;> first | (exfalso; omega) | (exact (tf (by assumption) hg).elim) | (exact (tf hg (by assumption)).elim) | ((try with_reducible (have hT0 : True := hg; clear hT0 hg)); try simp only [evS, svOf, putS, hputs, hput, Nat.reduceEqDiff, reduceIte, EVL])))
  | ((with_reducible refine hKS _ _ _ _ ?_); clear hKS; clear KS; simp only [evS, svOf, putS, hputs, hput, Nat.reduceEqDiff, reduceIte, EVL])
  | ((with_reducible refine cond_go ?_); refine cond_k rfl (fun hc => ?_) (fun hc => ?_) <;> first | (exact absurd hc (by decide)) | ((try simp only [CNL] at hc) <;> first | (exfalso; omega) | (exact (tf (by assumption) hc).elim) | (exact (tf hc (by assumption)).elim) | skip))
  | ((with_reducible refine And.intro (fun hp => ?_) (fun hp => ?_)) <;> first | (exact absurd hp (by decide)) | ((try simp only [CNL] at hp) <;> first | (exfalso; omega) | (exact (tf (by assumption) hp).elim) | (exact (tf hp (by assumption)).elim) | skip))
  | ((with_reducible refine And.intro ?_ ?_); focus (first | omega | exact u8_le _ | exact flat_intK _ | exact flat_bytK _ | (fail) | decide | (simp only [s0, s1, range_len]; done)))
  | ((with_reducible refine ex_p ?_ (fun hh => ?_)); focus (first | omega | (simp only [s0, s1, range_len]; omega)))
  | (with_reducible refine skip_k ?_) | (with_reducible refine exit_k ?_) | (with_reducible refine ret_k ?_)
  | ((with_reducible refine hK _ _ _ ?_); clear hK hE hT; clear K) | ((with_reducible refine hE _ _ _ _ ?_); (first | (clear hK hE hT; clear K) | (clear hR hE hT; clear K) | skip); try simp only [Nat.reduceEqDiff, if_true, if_false, reduceIte]) | ((with_reducible refine hT _ _ _ ?_); (first | (clear hK hE hT; clear K) | (clear hR hE hT; clear K) | skip))
  | ((with_reducible apply_assumption -symm -exfalso); try simp only [Nat.reduceEqDiff, if_true, if_false, reduceIte])
  | fail)
      (refine post_a hres (.inl rfl) ?_; simp only [resvs, resv, stepK, pureK, memK, appK, binK, arithK, shiftK, inI, cellsOf, partS, splice, fillS, partsOf, srcOf, isFlat, hget, impC, cvD, dcOf, dcsOf, dcssOf, chunk, onOps, tmpOf, Op.operands, Call.operands, evS, svOf, Nat.reduceAdd, Nat.reduceSub, Nat.reduceMul, Nat.reduceLeDiff, Nat.reduceBEq, Nat.reduceBNe, Nat.reduceEqDiff, Nat.reduceLT, reduceIte, reduceCtorEq, Int.reduceToNat, tiAll, ENL, strK, rowB_inj, true_and, exists_eq_left']; simp only [vwAll, vwMore, matSs, matS, matC, matL, matT, matH, matB, hget, vwFrom, vwGet, svRes, Nat.reduceEqDiff, Nat.reduceAdd, reduceIte, reduceCtorEq, MAL]; refine ⟨rfl, rfl, ?_, ?_, ?_⟩ <;> (first | rfl | (simp [wfs, wfc, wkH, wkB, wfb, vwl, hget, SV.map, Blk.map, mcv, Nat.add_comm, true_and]; done) | (simp only [wfs, wfc, wkSl, wkH, wkB, wfs, wfc, wfb, SV.map, Blk.map, mcv, vwl, hget, Nat.reduceEqDiff, reduceIte, WKL, List.forall_mem_cons, List.not_mem_nil, false_implies, implies_true])))

end Go.Proofs.Ytmdajpgemcaefaa
