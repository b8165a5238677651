/-
  Contracts: the run with some values. No conditions of its own.
-/
import Derived.Test.YtmdajpgemcaefaaK6
namespace Go.Proofs.Ytmdajpgemcaefaa
set_option linter.unusedSimpArgs false
set_option linter.unusedVariables false
open Go.RowKit

def ValuesD.run (v : ValuesD) (d : Bool) : RunD := ⟨v.Job, v.Iter, d, v.Vals, v.EVals, v.Next⟩
def runOfOk (g : GraphD) (v : ValuesD) : Bool := runOk g (v.run (emptyL v.Next.Bits))
def runOf (g : GraphD) (v : ValuesD) : RunD := if runOfOk g v then v.run (emptyL v.Next.Bits) else ⟨⟨0, 0⟩, 0, false, [], [], ⟨0, []⟩⟩

theorem runOf_small (g : GraphD) (v : ValuesD) : (runOf g v).Vals.length ≤ v.Vals.length ∧ (runOf g v).EVals.length ≤ v.EVals.length ∧ (runOf g v).Next.Bits.length ≤ v.Next.Bits.length := by
  unfold runOf
  split <;> simp [ValuesD.run]

theorem runOk_set {g : GraphD} {r : RunD} (h : setOk r.Next.N r.Next.Bits = false) : runOk g r = false := by
  unfold runOk
  rw [h]
  simp

theorem runOf_spec (g : GraphD) (v : ValuesD) : runOk g (v.run (((membersL v.Next.N v.Next.Bits).length : Int) == 0)) = runOfOk g v ∧
    (runOfOk g v = true → (((membersL v.Next.N v.Next.Bits).length : Int) == 0) = emptyL v.Next.Bits) := by
  unfold runOfOk
  cases h : setOk v.Next.N v.Next.Bits with
  | true =>
    rw [members_zero h]
    exact ⟨rfl, fun _ => rfl⟩
  | false =>
    rw [runOk_set (r := v.run _) h, runOk_set (r := v.run _) h]
    exact ⟨rfl, fun a => by cases a⟩


set_option maxHeartbeats 8000000 in
theorem implRunOf_k (g : GraphD) (v : ValuesD) (bg : (g.Edges).length ≤ 1048576) (bl : (v.Vals).length ≤ 1048576 ∧ (v.EVals).length ≤ 1048576 ∧ (v.Next.Bits).length ≤ 1048576) : FnOK Try.prog 27 ⟨4, [(0, some (.ro ((g.Edges).map EdgeD.k))), (1, some (.ro ((v.Vals).map intK))), (2, some (.ro ((v.EVals).map intK))), (3, some (.ro ((v.Next.Bits).map bytK)))], [.agg [.v (.int .i64 g.N), .sl 0 3 0 (g.Edges).length], .agg [.v (.int .i64 v.Job.Prog), .v (.int .i64 v.Job.Src), .v (.int .i64 v.Iter), .sl 1 1 0 (v.Vals).length, .sl 2 1 0 (v.EVals).length, .v (.int .i64 v.Next.N), .sl 3 1 0 (v.Next.Bits).length]], .tup [.inr [.v (.int .i64 (runOf g v).Job.Prog), .v (.int .i64 (runOf g v).Job.Src), .v (.int .i64 (runOf g v).Iter), .v (.bool (runOf g v).Done), .sl 4 1 0 ((runOf g v).Vals).length, .sl 5 1 0 ((runOf g v).EVals).length, .v (.int .i64 (runOf g v).Next.N), .sl 6 1 0 ((runOf g v).Next.Bits).length], .inl (.v (.bool (runOfOk g v)))], [(4, some (.row 3 (((runOf g v).Vals).map intK))), (5, some (.row 3 (((runOf g v).EVals).map intK))), (6, some (.row 5 (((runOf g v).Next.Bits).map bytK)))], 7⟩ := by
  obtain ⟨h0, h1, h2⟩ := bl
  obtain ⟨e1, e2⟩ := runOf_spec g v
  have cr := implRunOk_k g (v.run (emptyL v.Next.Bits)) bg ⟨h0, h1, h2⟩
  change FnOK _ _ ⟨_, _, _, .c (.v (.bool (runOfOk g v))), _, _⟩ at cr
  cases ho : runOfOk g v with
  | false =>
    have e : runOf g v = ⟨⟨0, 0⟩, 0, false, [], [], ⟨0, []⟩⟩ := by unfold runOf; rw [ho]; rfl
    rw [e]
    rw [ho] at cr
    clear e1 e2
    simp only [ValuesD.run] at cr
    refine fnOK_of true mixed Try.func27 rfl (by rfl) (by rfl) ?_
    have hres := congrArg Array.toList Try.results27
    simp only [Try.ntmps27, List.length_cons, List.length_nil, Nat.reduceAdd, Nat.reduceSub, List.replicate_succ, List.replicate_zero, List.cons_append, List.nil_append]
    repeat' (first
  | (with_reducible refine seq_k fun K hK hE hT => ?_)
  | (with_reducible refine block_k fun K hK hE hT => ?_)
  | (with_reducible refine region_k ?_)
  | (with_reducible refine draw_k ?_)
  | (with_reducible refine lex_nil ?_)
  | ((with_reducible first | refine lex_move ?_ | refine lex_assign ?_); simp only [evS, svOf, putS, hputs, hput, Nat.reduceEqDiff, reduceIte, EVL])
  | (with_reducible refine lex_cons fun KS hKS => ?_)
  | (with_reducible refine lexd_cons fun KS hKS => ?_)
  | ((with_reducible refine call_go ?_); (first | ((first | refine call_a (implisEmpty_k v.Next.N v.Next.Bits h2) rfl rfl ?_ | refine call_a (copySet_k v.Next h2) rfl rfl ?_ | refine call_a (cr) rfl rfl ?_); simp only [stepK, pureK, memK, appK, binK, arithK, shiftK, inI, cellsOf, partS, splice, fillS, partsOf, srcOf, isFlat, hget, impC, cvD, dcOf, dcsOf, dcssOf, chunk, onOps, tmpOf, Op.operands, Call.operands, evS, svOf, Nat.reduceAdd, Nat.reduceSub, Nat.reduceMul, Nat.reduceLeDiff, Nat.reduceBEq, Nat.reduceBNe, Nat.reduceEqDiff, Nat.reduceLT, reduceIte, reduceCtorEq, Int.reduceToNat, tiAll, ENL, strK, rowB_inj, List.length_map, map_take]; simp only [vwAll, vwMore, matSs, matS, matC, matL, matT, matH, matB, hget, vwFrom, vwGet, svRes, Nat.reduceEqDiff, Nat.reduceAdd, reduceIte, reduceCtorEq, MAL]; refine ⟨rfl, ?_, ?_, ?_, rfl, ?_, ?_, (by dsimp only; omega), ?_⟩; (focus (first | rfl | (simp [SV.map, mcv, vwl, List.length_map, map_take]; done) | (simp [SV.map, mcv, vwl, List.length_map, map_take]; omega))); (focus (simp [argsW, wfs, wfc, vwl])); (focus (simp [preL, preOK, vwl, hget, Blk.own, wfb, wfc, Blk.map, mcv, map_take, List.take_of_length_le, List.length_map, map_take]; done)); (focus (simp [domL, Vw.blk, hget])); (focus (simp [ownL, Blk.own])); simp only [Con.effAt, rcv, rid, vwl, SV.map, Blk.map, Vw.blk, Nat.reduceSub, Nat.reduceAdd, Nat.reduceLT, reduceIte, EFL]) | (refine call_a (copyInts_k v.Vals h0) rfl rfl ?_; simp only [stepK, pureK, memK, appK, binK, arithK, shiftK, inI, cellsOf, partS, splice, fillS, partsOf, srcOf, isFlat, hget, impC, cvD, dcOf, dcsOf, dcssOf, chunk, onOps, tmpOf, Op.operands, Call.operands, evS, svOf, Nat.reduceAdd, Nat.reduceSub, Nat.reduceMul, Nat.reduceLeDiff, Nat.reduceBEq, Nat.reduceBNe, Nat.reduceEqDiff, Nat.reduceLT, reduceIte, reduceCtorEq, Int.reduceToNat, tiAll, ENL, strK, rowB_inj, List.length_map, map_take]; simp only [vwAll, vwMore, matSs, matS, matC, matL, matT, matH, matB, hget, vwFrom, vwGet, svRes, Nat.reduceEqDiff, Nat.reduceAdd, reduceIte, reduceCtorEq, MAL]; refine ⟨rfl, ?_, ?_, ?_, rfl, ?_, ?_, (by dsimp only; omega), ?_⟩; (focus (first | rfl | (simp [SV.map, mcv, vwl, List.length_map, map_take]; done) | (simp [SV.map, mcv, vwl, List.length_map, map_take]; omega))); (focus (simp [argsW, wfs, wfc, vwl])); (focus (simp [preL, preOK, vwl, hget, Blk.own, wfb, wfc, Blk.map, mcv, map_take, List.take_of_length_le, List.length_map, map_take]; done)); (focus (simp [domL, Vw.blk, hget])); (focus (simp [ownL, Blk.own])); simp only [Con.effAt, rcv, rid, vwl, SV.map, Blk.map, Vw.blk, Nat.reduceSub, Nat.reduceAdd, Nat.reduceLT, reduceIte, EFL]) | (refine call_a (copyInts_k v.EVals h1) rfl rfl ?_; simp only [stepK, pureK, memK, appK, binK, arithK, shiftK, inI, cellsOf, partS, splice, fillS, partsOf, srcOf, isFlat, hget, impC, cvD, dcOf, dcsOf, dcssOf, chunk, onOps, tmpOf, Op.operands, Call.operands, evS, svOf, Nat.reduceAdd, Nat.reduceSub, Nat.reduceMul, Nat.reduceLeDiff, Nat.reduceBEq, Nat.reduceBNe, Nat.reduceEqDiff, Nat.reduceLT, reduceIte, reduceCtorEq, Int.reduceToNat, tiAll, ENL, strK, rowB_inj, List.length_map, map_take]; simp only [vwAll, vwMore, matSs, matS, matC, matL, matT, matH, matB, hget, vwFrom, vwGet, svRes, Nat.reduceEqDiff, Nat.reduceAdd, reduceIte, reduceCtorEq, MAL]; refine ⟨rfl, ?_, ?_, ?_, rfl, ?_, ?_, (by dsimp only; omega), ?_⟩; (focus (first | rfl | (simp [SV.map, mcv, vwl, List.length_map, map_take]; done) | (simp [SV.map, mcv, vwl, List.length_map, map_take]; omega))); (focus (simp [argsW, wfs, wfc, vwl])); (focus (simp [preL, preOK, vwl, hget, Blk.own, wfb, wfc, Blk.map, mcv, map_take, List.take_of_length_le, List.length_map, map_take]; done)); (focus (simp [domL, Vw.blk, hget])); (focus (simp [ownL, Blk.own])); simp only [Con.effAt, rcv, rid, vwl, SV.map, Blk.map, Vw.blk, Nat.reduceSub, Nat.reduceAdd, Nat.reduceLT, reduceIte, EFL]) | fail))
  | ((with_reducible refine step_go ?_); (fail_if_success with_reducible refine call_go ?_); simp only [stepK, pureK, memK, appK, binK, arithK, shiftK, inI, cellsOf, partS, splice, fillS, partsOf, srcOf, isFlat, hget, impC, cvD, dcOf, dcsOf, dcssOf, chunk, onOps, tmpOf, Op.operands, Call.operands, evS, svOf, Nat.reduceAdd, Nat.reduceSub, Nat.reduceMul, Nat.reduceLeDiff, Nat.reduceBEq, Nat.reduceBNe, Nat.reduceEqDiff, Nat.reduceLT, reduceIte, reduceCtorEq, Int.reduceToNat, tiAll, ENL, strK, rowB_inj, List.length_map, map_take])
  | ((with_reducible refine lexd_nil ?_ ?_); focus (first | kernel_rfl | with_unfolding_all rfl))
  | (((with_reducible refine guard_go ?_); refine lex_guard rfl rfl (fun hg KS hKS => ?_) (fun hg => ?_)) <;> first | (exact absurd hg (by decide)) | ((try simp only [CNL] at hg) <;> first | (exfalso; omega) | (exact (tf (by assumption) hg).elim) | (exact (tf hg (by assumption)).elim) | ((try with_reducible (have hT0 : True := hg; clear hT0 hg)); try simp only [evS, svOf, putS, hputs, hput, Nat.reduceEqDiff, reduceIte, EVL])))
  | (((with_reducible refine guardd_go ?_); refine lexd_guard rfl rfl (fun hg KS hKS => ?_) (fun hg => ?_)) <;> first | (exact absurd hg (by decide)) | ((try simp only [CNL] at hg) <;> first | (exfalso; omega) | (exact (tf (by assumption) hg).elim) | (exact (tf hg (by assumption)).elim) | ((try with_reducible (have hT0 : True := hg; clear hT0 hg)); try simp only [evS, svOf, putS, hputs, hput, Nat.reduceEqDiff, reduceIte, EVL])))
  | ((with_reducible refine hKS _ _ _ _ ?_); clear hKS; clear KS; simp only [evS, svOf, putS, hputs, hput, Nat.reduceEqDiff, reduceIte, EVL])
  | ((with_reducible refine cond_go ?_); refine cond_k rfl (fun hc => ?_) (fun hc => ?_) <;> first | (exact absurd hc (by decide)) | ((try simp only [CNL] at hc) <;> first | (exfalso; omega) | (exact (tf (by assumption) hc).elim) | (exact (tf hc (by assumption)).elim) | skip))
  | ((with_reducible refine And.intro (fun hp => ?_) (fun hp => ?_)) <;> first | (exact absurd hp (by decide)) | ((try simp only [CNL] at hp) <;> first | (exfalso; omega) | (exact (tf (by assumption) hp).elim) | (exact (tf hp (by assumption)).elim) | skip))
  | ((with_reducible refine And.intro ?_ ?_); focus (first | omega | exact u8_le _ | exact flat_intK _ | exact flat_bytK _ | (fail) | decide | (simp only [List.length_map, map_take]; done)))
  | ((with_reducible refine ex_p ?_ (fun hh => ?_)); focus (first | omega | (simp only [List.length_map, map_take]; omega)))
  | (with_reducible refine skip_k ?_) | (with_reducible refine exit_k ?_) | (with_reducible refine ret_k ?_)
  | ((with_reducible refine hK _ _ _ ?_); clear hK hE hT; clear K) | ((with_reducible refine hE _ _ _ _ ?_); (first | (clear hK hE hT; clear K) | (clear hR hE hT; clear K) | skip); try simp only [Nat.reduceEqDiff, if_true, if_false, reduceIte]) | ((with_reducible refine hT _ _ _ ?_); (first | (clear hK hE hT; clear K) | (clear hR hE hT; clear K) | skip))
  | ((with_reducible apply_assumption -symm -exfalso); try simp only [Nat.reduceEqDiff, if_true, if_false, reduceIte])
  | fail)
    all_goals (refine post_a hres (.inl rfl) ?_; simp only [resvs, resv, stepK, pureK, memK, appK, binK, arithK, shiftK, inI, cellsOf, partS, splice, fillS, partsOf, srcOf, isFlat, hget, impC, cvD, dcOf, dcsOf, dcssOf, chunk, onOps, tmpOf, Op.operands, Call.operands, evS, svOf, Nat.reduceAdd, Nat.reduceSub, Nat.reduceMul, Nat.reduceLeDiff, Nat.reduceBEq, Nat.reduceBNe, Nat.reduceEqDiff, Nat.reduceLT, reduceIte, reduceCtorEq, Int.reduceToNat, tiAll, ENL, strK, rowB_inj, true_and, exists_eq_left']; simp only [vwAll, vwMore, matSs, matS, matC, matL, matT, matH, matB, hget, vwFrom, vwGet, svRes, Nat.reduceEqDiff, Nat.reduceAdd, reduceIte, reduceCtorEq, MAL]; refine ⟨rfl, rfl, ?_, ?_, ?_⟩ <;> (first | rfl | (simp [wfs, wfc, wkH, wkB, wfb, vwl, hget, SV.map, Blk.map, mcv, Nat.add_comm, true_and]; done) | (simp only [wfs, wfc, wkSl, wkH, wkB, wfs, wfc, wfb, SV.map, Blk.map, mcv, vwl, hget, Nat.reduceEqDiff, reduceIte, WKL, List.forall_mem_cons, List.not_mem_nil, false_implies, implies_true])))
  | true =>
    have e : runOf g v = v.run (emptyL v.Next.Bits) := by unfold runOf; rw [ho]; rfl
    rw [e]
    rw [ho] at cr
    have e3 := e2 ho
    clear e1 e2
    simp only [ValuesD.run] at cr ⊢
    refine fnOK_of true mixed Try.func27 rfl (by rfl) (by rfl) ?_
    have hres := congrArg Array.toList Try.results27
    simp only [Try.ntmps27, List.length_cons, List.length_nil, Nat.reduceAdd, Nat.reduceSub, List.replicate_succ, List.replicate_zero, List.cons_append, List.nil_append]
    repeat' (first
  | (with_reducible refine seq_k fun K hK hE hT => ?_)
  | (with_reducible refine block_k fun K hK hE hT => ?_)
  | (with_reducible refine region_k ?_)
  | (with_reducible refine draw_k ?_)
  | (with_reducible refine lex_nil ?_)
  | ((with_reducible first | refine lex_move ?_ | refine lex_assign ?_); simp only [evS, svOf, putS, hputs, hput, Nat.reduceEqDiff, reduceIte, EVL])
  | (with_reducible refine lex_cons fun KS hKS => ?_)
  | (with_reducible refine lexd_cons fun KS hKS => ?_)
  | ((with_reducible refine call_go ?_); (first | ((first | refine call_a (implisEmpty_k v.Next.N v.Next.Bits h2) rfl rfl ?_ | refine call_a (copySet_k v.Next h2) rfl rfl ?_ | refine call_a (cr) rfl rfl ?_); simp only [stepK, pureK, memK, appK, binK, arithK, shiftK, inI, cellsOf, partS, splice, fillS, partsOf, srcOf, isFlat, hget, impC, cvD, dcOf, dcsOf, dcssOf, chunk, onOps, tmpOf, Op.operands, Call.operands, evS, svOf, Nat.reduceAdd, Nat.reduceSub, Nat.reduceMul, Nat.reduceLeDiff, Nat.reduceBEq, Nat.reduceBNe, Nat.reduceEqDiff, Nat.reduceLT, reduceIte, reduceCtorEq, Int.reduceToNat, tiAll, ENL, strK, rowB_inj, List.length_map, map_take]; simp only [vwAll, vwMore, matSs, matS, matC, matL, matT, matH, matB, hget, vwFrom, vwGet, svRes, Nat.reduceEqDiff, Nat.reduceAdd, reduceIte, reduceCtorEq, MAL]; refine ⟨rfl, ?_, ?_, ?_, rfl, ?_, ?_, (by dsimp only; omega), ?_⟩; (focus (first | rfl | (simp [SV.map, mcv, vwl, List.length_map, map_take]; done) | (simp [SV.map, mcv, vwl, List.length_map, map_take]; omega))); (focus (simp [argsW, wfs, wfc, vwl])); (focus (simp [preL, preOK, vwl, hget, Blk.own, wfb, wfc, Blk.map, mcv, map_take, List.take_of_length_le, List.length_map, map_take]; done)); (focus (simp [domL, Vw.blk, hget])); (focus (simp [ownL, Blk.own])); simp only [Con.effAt, rcv, rid, vwl, SV.map, Blk.map, Vw.blk, Nat.reduceSub, Nat.reduceAdd, Nat.reduceLT, reduceIte, EFL]) | (refine call_a (copyInts_k v.Vals h0) rfl rfl ?_; simp only [stepK, pureK, memK, appK, binK, arithK, shiftK, inI, cellsOf, partS, splice, fillS, partsOf, srcOf, isFlat, hget, impC, cvD, dcOf, dcsOf, dcssOf, chunk, onOps, tmpOf, Op.operands, Call.operands, evS, svOf, Nat.reduceAdd, Nat.reduceSub, Nat.reduceMul, Nat.reduceLeDiff, Nat.reduceBEq, Nat.reduceBNe, Nat.reduceEqDiff, Nat.reduceLT, reduceIte, reduceCtorEq, Int.reduceToNat, tiAll, ENL, strK, rowB_inj, List.length_map, map_take]; simp only [vwAll, vwMore, matSs, matS, matC, matL, matT, matH, matB, hget, vwFrom, vwGet, svRes, Nat.reduceEqDiff, Nat.reduceAdd, reduceIte, reduceCtorEq, MAL]; refine ⟨rfl, ?_, ?_, ?_, rfl, ?_, ?_, (by dsimp only; omega), ?_⟩; (focus (first | rfl | (simp [SV.map, mcv, vwl, List.length_map, map_take]; done) | (simp [SV.map, mcv, vwl, List.length_map, map_take]; omega))); (focus (simp [argsW, wfs, wfc, vwl])); (focus (simp [preL, preOK, vwl, hget, Blk.own, wfb, wfc, Blk.map, mcv, map_take, List.take_of_length_le, List.length_map, map_take]; done)); (focus (simp [domL, Vw.blk, hget])); (focus (simp [ownL, Blk.own])); simp only [Con.effAt, rcv, rid, vwl, SV.map, Blk.map, Vw.blk, Nat.reduceSub, Nat.reduceAdd, Nat.reduceLT, reduceIte, EFL]) | (refine call_a (copyInts_k v.EVals h1) rfl rfl ?_; simp only [stepK, pureK, memK, appK, binK, arithK, shiftK, inI, cellsOf, partS, splice, fillS, partsOf, srcOf, isFlat, hget, impC, cvD, dcOf, dcsOf, dcssOf, chunk, onOps, tmpOf, Op.operands, Call.operands, evS, svOf, Nat.reduceAdd, Nat.reduceSub, Nat.reduceMul, Nat.reduceLeDiff, Nat.reduceBEq, Nat.reduceBNe, Nat.reduceEqDiff, Nat.reduceLT, reduceIte, reduceCtorEq, Int.reduceToNat, tiAll, ENL, strK, rowB_inj, List.length_map, map_take]; simp only [vwAll, vwMore, matSs, matS, matC, matL, matT, matH, matB, hget, vwFrom, vwGet, svRes, Nat.reduceEqDiff, Nat.reduceAdd, reduceIte, reduceCtorEq, MAL]; refine ⟨rfl, ?_, ?_, ?_, rfl, ?_, ?_, (by dsimp only; omega), ?_⟩; (focus (first | rfl | (simp [SV.map, mcv, vwl, List.length_map, map_take]; done) | (simp [SV.map, mcv, vwl, List.length_map, map_take]; omega))); (focus (simp [argsW, wfs, wfc, vwl])); (focus (simp [preL, preOK, vwl, hget, Blk.own, wfb, wfc, Blk.map, mcv, map_take, List.take_of_length_le, List.length_map, map_take]; done)); (focus (simp [domL, Vw.blk, hget])); (focus (simp [ownL, Blk.own])); simp only [Con.effAt, rcv, rid, vwl, SV.map, Blk.map, Vw.blk, Nat.reduceSub, Nat.reduceAdd, Nat.reduceLT, reduceIte, EFL]) | fail))
  | ((with_reducible refine step_go ?_); (fail_if_success with_reducible refine call_go ?_); simp only [stepK, pureK, memK, appK, binK, arithK, shiftK, inI, cellsOf, partS, splice, fillS, partsOf, srcOf, isFlat, hget, impC, cvD, dcOf, dcsOf, dcssOf, chunk, onOps, tmpOf, Op.operands, Call.operands, evS, svOf, Nat.reduceAdd, Nat.reduceSub, Nat.reduceMul, Nat.reduceLeDiff, Nat.reduceBEq, Nat.reduceBNe, Nat.reduceEqDiff, Nat.reduceLT, reduceIte, reduceCtorEq, Int.reduceToNat, tiAll, ENL, strK, rowB_inj, List.length_map, map_take])
  | ((with_reducible refine lexd_nil ?_ ?_); focus (first | kernel_rfl | with_unfolding_all rfl))
  | (((with_reducible refine guard_go ?_); refine lex_guard rfl rfl (fun hg KS hKS => ?_) (fun hg => ?_)) <;> first | (exact absurd hg (by decide)) | ((try simp only [CNL] at hg) <;> first | (exfalso; omega) | (exact (tf (by assumption) hg).elim) | (exact (tf hg (by assumption)).elim) | ((try with_reducible (have hT0 : True := hg; clear hT0 hg)); try simp only [evS, svOf, putS, hputs, hput, Nat.reduceEqDiff, reduceIte, EVL])))
  | (((with_reducible refine guardd_go ?_); refine lexd_guard rfl rfl (fun hg KS hKS => ?_) (fun hg => ?_)) <;> first | (exact absurd hg (by decide)) | ((try simp only [CNL] at hg) <;> first | (exfalso; omega) | (exact (tf (by assumption) hg).elim) | (exact (tf hg (by assumption)).elim) | ((try with_reducible (have hT0 : True := hg; clear hT0 hg)); try simp only [evS, svOf, putS, hputs, hput, Nat.reduceEqDiff, reduceIte, EVL])))
  | ((with_reducible refine hKS _ _ _ _ ?_); clear hKS; clear KS; simp only [evS, svOf, putS, hputs, hput, Nat.reduceEqDiff, reduceIte, EVL])
  | ((with_reducible refine cond_go ?_); refine cond_k rfl (fun hc => ?_) (fun hc => ?_) <;> first | (exact absurd hc (by decide)) | ((try simp only [CNL] at hc) <;> first | (exfalso; omega) | (exact (tf (by assumption) hc).elim) | (exact (tf hc (by assumption)).elim) | skip))
  | ((with_reducible refine And.intro (fun hp => ?_) (fun hp => ?_)) <;> first | (exact absurd hp (by decide)) | ((try simp only [CNL] at hp) <;> first | (exfalso; omega) | (exact (tf (by assumption) hp).elim) | (exact (tf hp (by assumption)).elim) | skip))
  | ((with_reducible refine And.intro ?_ ?_); focus (first | omega | exact u8_le _ | exact flat_intK _ | exact flat_bytK _ | (fail) | decide | (simp only [List.length_map, map_take]; done)))
  | ((with_reducible refine ex_p ?_ (fun hh => ?_)); focus (first | omega | (simp only [List.length_map, map_take]; omega)))
  | (with_reducible refine skip_k ?_) | (with_reducible refine exit_k ?_) | (with_reducible refine ret_k ?_)
  | ((with_reducible refine hK _ _ _ ?_); clear hK hE hT; clear K) | ((with_reducible refine hE _ _ _ _ ?_); (first | (clear hK hE hT; clear K) | (clear hR hE hT; clear K) | skip); try simp only [Nat.reduceEqDiff, if_true, if_false, reduceIte]) | ((with_reducible refine hT _ _ _ ?_); (first | (clear hK hE hT; clear K) | (clear hR hE hT; clear K) | skip))
  | ((with_reducible apply_assumption -symm -exfalso); try simp only [Nat.reduceEqDiff, if_true, if_false, reduceIte])
  | fail)
    all_goals (refine post_a hres (.inl rfl) ?_; simp only [resvs, resv, stepK, pureK, memK, appK, binK, arithK, shiftK, inI, cellsOf, partS, splice, fillS, partsOf, srcOf, isFlat, hget, impC, cvD, dcOf, dcsOf, dcssOf, chunk, onOps, tmpOf, Op.operands, Call.operands, evS, svOf, Nat.reduceAdd, Nat.reduceSub, Nat.reduceMul, Nat.reduceLeDiff, Nat.reduceBEq, Nat.reduceBNe, Nat.reduceEqDiff, Nat.reduceLT, reduceIte, reduceCtorEq, Int.reduceToNat, tiAll, ENL, strK, rowB_inj, e3, exists_eq_left']; simp only [vwAll, vwMore, matSs, matS, matC, matL, matT, matH, matB, hget, vwFrom, vwGet, svRes, Nat.reduceEqDiff, Nat.reduceAdd, reduceIte, reduceCtorEq, MAL]; refine ⟨rfl, rfl, ?_, ?_, ?_⟩ <;> (first | rfl | (simp [wfs, wfc, wkH, wkB, wfb, vwl, hget, SV.map, Blk.map, mcv, Nat.add_comm, e3]; done) | (simp only [wfs, wfc, wkSl, wkH, wkB, wfs, wfc, wfb, SV.map, Blk.map, mcv, vwl, hget, Nat.reduceEqDiff, reduceIte, WKL, List.forall_mem_cons, List.not_mem_nil, false_implies, implies_true])))

set_option maxHeartbeats 8000000 in
theorem specRunOf_k (g : GraphD) (v : ValuesD) (bg : (g.Edges).length ≤ 1048576) (bl : (v.Vals).length ≤ 1048576 ∧ (v.EVals).length ≤ 1048576 ∧ (v.Next.Bits).length ≤ 1048576) : FnOK Try.prog 24 ⟨4, [(0, some (.ro ((g.Edges).map EdgeD.k))), (1, some (.ro ((v.Vals).map intK))), (2, some (.ro ((v.EVals).map intK))), (3, some (.ro ((v.Next.Bits).map bytK)))], [.agg [.v (.int .i64 g.N), .sl 0 3 0 (g.Edges).length], .agg [.v (.int .i64 v.Job.Prog), .v (.int .i64 v.Job.Src), .v (.int .i64 v.Iter), .sl 1 1 0 (v.Vals).length, .sl 2 1 0 (v.EVals).length, .v (.int .i64 v.Next.N), .sl 3 1 0 (v.Next.Bits).length]], .tup [.inr [.v (.int .i64 (runOf g v).Job.Prog), .v (.int .i64 (runOf g v).Job.Src), .v (.int .i64 (runOf g v).Iter), .v (.bool (runOf g v).Done), .sl 4 1 0 ((runOf g v).Vals).length, .sl 5 1 0 ((runOf g v).EVals).length, .v (.int .i64 (runOf g v).Next.N), .sl 6 1 0 ((runOf g v).Next.Bits).length], .inl (.v (.bool (runOfOk g v)))], [(4, some (.row 3 (((runOf g v).Vals).map intK))), (5, some (.row 3 (((runOf g v).EVals).map intK))), (6, some (.row 5 (((runOf g v).Next.Bits).map bytK)))], 7⟩ := by
  obtain ⟨h0, h1, h2⟩ := bl
  obtain ⟨e1, e2⟩ := runOf_spec g v
  have cr := specRunOk_k g (v.run (((membersL v.Next.N v.Next.Bits).length : Int) == 0)) bg ⟨h0, h1, h2⟩
  rw [e1] at cr
  have e8 := membersL_len v.Next.N v.Next.Bits
  have cl := l11Copy_k (v.run (((membersL v.Next.N v.Next.Bits).length : Int) == 0)) ⟨h0, h1, h2⟩
  simp only [ValuesD.run] at cl
  cases ho : runOfOk g v with
  | false =>
    have e : runOf g v = ⟨⟨0, 0⟩, 0, false, [], [], ⟨0, []⟩⟩ := by unfold runOf; rw [ho]; rfl
    rw [e]
    rw [ho] at cr
    clear e1 e2
    simp only [ValuesD.run] at cr
    refine fnOK_of true mixed Try.func24 rfl (by rfl) (by rfl) ?_
    have hres := congrArg Array.toList Try.results24
    simp only [Try.ntmps24, List.length_cons, List.length_nil, Nat.reduceAdd, Nat.reduceSub, List.replicate_succ, List.replicate_zero, List.cons_append, List.nil_append]
    repeat' (first
  | (with_reducible refine seq_k fun K hK hE hT => ?_)
  | (with_reducible refine block_k fun K hK hE hT => ?_)
  | (with_reducible refine region_k ?_)
  | (with_reducible refine draw_k ?_)
  | (with_reducible refine lex_nil ?_)
  | ((with_reducible first | refine lex_move ?_ | refine lex_assign ?_); simp only [evS, svOf, putS, hputs, hput, Nat.reduceEqDiff, reduceIte, EVL])
  | (with_reducible refine lex_cons fun KS hKS => ?_)
  | (with_reducible refine lexd_cons fun KS hKS => ?_)
  | ((with_reducible refine call_go ?_); (first | ((first | refine call_a (specMembers_k v.Next.N v.Next.Bits h2) rfl rfl ?_ | refine call_a (cl) rfl rfl ?_ | refine call_a (cr) rfl rfl ?_); simp only [stepK, pureK, memK, appK, binK, arithK, shiftK, inI, cellsOf, partS, splice, fillS, partsOf, srcOf, isFlat, hget, impC, cvD, dcOf, dcsOf, dcssOf, chunk, onOps, tmpOf, Op.operands, Call.operands, evS, svOf, Nat.reduceAdd, Nat.reduceSub, Nat.reduceMul, Nat.reduceLeDiff, Nat.reduceBEq, Nat.reduceBNe, Nat.reduceEqDiff, Nat.reduceLT, reduceIte, reduceCtorEq, Int.reduceToNat, tiAll, ENL, strK, rowB_inj, List.length_map, map_take]; simp only [vwAll, vwMore, matSs, matS, matC, matL, matT, matH, matB, hget, vwFrom, vwGet, svRes, Nat.reduceEqDiff, Nat.reduceAdd, reduceIte, reduceCtorEq, MAL]; refine ⟨rfl, ?_, ?_, ?_, rfl, ?_, ?_, (by dsimp only; omega), ?_⟩; (focus (first | rfl | (simp [SV.map, mcv, vwl, List.length_map, map_take]; done) | (simp [SV.map, mcv, vwl, List.length_map, map_take]; omega))); (focus (simp [argsW, wfs, wfc, vwl])); (focus (simp [preL, preOK, vwl, hget, Blk.own, wfb, wfc, Blk.map, mcv, map_take, List.take_of_length_le, List.length_map, map_take]; done)); (focus (simp [domL, Vw.blk, hget])); (focus (simp [ownL, Blk.own])); simp only [Con.effAt, rcv, rid, vwl, SV.map, Blk.map, Vw.blk, Nat.reduceSub, Nat.reduceAdd, Nat.reduceLT, reduceIte, EFL]) | fail))
  | ((with_reducible refine step_go ?_); (fail_if_success with_reducible refine call_go ?_); simp only [stepK, pureK, memK, appK, binK, arithK, shiftK, inI, cellsOf, partS, splice, fillS, partsOf, srcOf, isFlat, hget, impC, cvD, dcOf, dcsOf, dcssOf, chunk, onOps, tmpOf, Op.operands, Call.operands, evS, svOf, Nat.reduceAdd, Nat.reduceSub, Nat.reduceMul, Nat.reduceLeDiff, Nat.reduceBEq, Nat.reduceBNe, Nat.reduceEqDiff, Nat.reduceLT, reduceIte, reduceCtorEq, Int.reduceToNat, tiAll, ENL, strK, rowB_inj, List.length_map, map_take])
  | ((with_reducible refine lexd_nil ?_ ?_); focus (first | kernel_rfl | with_unfolding_all rfl))
  | (((with_reducible refine guard_go ?_); refine lex_guard rfl rfl (fun hg KS hKS => ?_) (fun hg => ?_)) <;> first | (exact absurd hg (by decide)) | ((try simp only [CNL] at hg) <;> first | (exfalso; omega) | (exact (tf (by assumption) hg).elim) | (exact (tf hg (by assumption)).elim) | ((try with_reducible (have hT0 : True := hg; clear hT0 hg)); try simp only [evS, svOf, putS, hputs, hput, Nat.reduceEqDiff, reduceIte, EVL])))
  | (((with_reducible refine guardd_go ?_); refine lexd_guard rfl rfl (fun hg KS hKS => ?_) (fun hg => ?_)) <;> first | (exact absurd hg (by decide)) | ((try simp only [CNL] at hg) <;> first | (exfalso; omega) | (exact (tf (by assumption) hg).elim) | (exact (tf hg (by assumption)).elim) | ((try with_reducible (have hT0 : True := hg; clear hT0 hg)); try simp only [evS, svOf, putS, hputs, hput, Nat.reduceEqDiff, reduceIte, EVL])))
  | ((with_reducible refine hKS _ _ _ _ ?_); clear hKS; clear KS; simp only [evS, svOf, putS, hputs, hput, Nat.reduceEqDiff, reduceIte, EVL])
  | ((with_reducible refine cond_go ?_); refine cond_k rfl (fun hc => ?_) (fun hc => ?_) <;> first | (exact absurd hc (by decide)) | ((try simp only [CNL] at hc) <;> first | (exfalso; omega) | (exact (tf (by assumption) hc).elim) | (exact (tf hc (by assumption)).elim) | skip))
  | ((with_reducible refine And.intro (fun hp => ?_) (fun hp => ?_)) <;> first | (exact absurd hp (by decide)) | ((try simp only [CNL] at hp) <;> first | (exfalso; omega) | (exact (tf (by assumption) hp).elim) | (exact (tf hp (by assumption)).elim) | skip))
  | ((with_reducible refine And.intro ?_ ?_); focus (first | omega | exact u8_le _ | exact flat_intK _ | exact flat_bytK _ | (fail) | decide | (simp only [List.length_map, map_take]; done)))
  | ((with_reducible refine ex_p ?_ (fun hh => ?_)); focus (first | omega | (simp only [List.length_map, map_take]; omega)))
  | (with_reducible refine skip_k ?_) | (with_reducible refine exit_k ?_) | (with_reducible refine ret_k ?_)
  | ((with_reducible refine hK _ _ _ ?_); clear hK hE hT; clear K) | ((with_reducible refine hE _ _ _ _ ?_); (first | (clear hK hE hT; clear K) | (clear hR hE hT; clear K) | skip); try simp only [Nat.reduceEqDiff, if_true, if_false, reduceIte]) | ((with_reducible refine hT _ _ _ ?_); (first | (clear hK hE hT; clear K) | (clear hR hE hT; clear K) | skip))
  | ((with_reducible apply_assumption -symm -exfalso); try simp only [Nat.reduceEqDiff, if_true, if_false, reduceIte])
  | fail)
    all_goals (refine post_a hres (.inl rfl) ?_; simp only [resvs, resv, stepK, pureK, memK, appK, binK, arithK, shiftK, inI, cellsOf, partS, splice, fillS, partsOf, srcOf, isFlat, hget, impC, cvD, dcOf, dcsOf, dcssOf, chunk, onOps, tmpOf, Op.operands, Call.operands, evS, svOf, Nat.reduceAdd, Nat.reduceSub, Nat.reduceMul, Nat.reduceLeDiff, Nat.reduceBEq, Nat.reduceBNe, Nat.reduceEqDiff, Nat.reduceLT, reduceIte, reduceCtorEq, Int.reduceToNat, tiAll, ENL, strK, rowB_inj, true_and, exists_eq_left']; simp only [vwAll, vwMore, matSs, matS, matC, matL, matT, matH, matB, hget, vwFrom, vwGet, svRes, Nat.reduceEqDiff, Nat.reduceAdd, reduceIte, reduceCtorEq, MAL]; refine ⟨rfl, rfl, ?_, ?_, ?_⟩ <;> (first | rfl | (simp [wfs, wfc, wkH, wkB, wfb, vwl, hget, SV.map, Blk.map, mcv, Nat.add_comm, true_and]; done) | (simp only [wfs, wfc, wkSl, wkH, wkB, wfs, wfc, wfb, SV.map, Blk.map, mcv, vwl, hget, Nat.reduceEqDiff, reduceIte, WKL, List.forall_mem_cons, List.not_mem_nil, false_implies, implies_true])))
  | true =>
    have e : runOf g v = v.run (emptyL v.Next.Bits) := by unfold runOf; rw [ho]; rfl
    rw [e]
    rw [ho] at cr
    have e3 := e2 ho
    clear e1 e2
    simp only [ValuesD.run] at cr ⊢
    refine fnOK_of true mixed Try.func24 rfl (by rfl) (by rfl) ?_
    have hres := congrArg Array.toList Try.results24
    simp only [Try.ntmps24, List.length_cons, List.length_nil, Nat.reduceAdd, Nat.reduceSub, List.replicate_succ, List.replicate_zero, List.cons_append, List.nil_append]
    repeat' (first
  | (with_reducible refine seq_k fun K hK hE hT => ?_)
  | (with_reducible refine block_k fun K hK hE hT => ?_)
  | (with_reducible refine region_k ?_)
  | (with_reducible refine draw_k ?_)
  | (with_reducible refine lex_nil ?_)
  | ((with_reducible first | refine lex_move ?_ | refine lex_assign ?_); simp only [evS, svOf, putS, hputs, hput, Nat.reduceEqDiff, reduceIte, EVL])
  | (with_reducible refine lex_cons fun KS hKS => ?_)
  | (with_reducible refine lexd_cons fun KS hKS => ?_)
  | ((with_reducible refine call_go ?_); (first | ((first | refine call_a (specMembers_k v.Next.N v.Next.Bits h2) rfl rfl ?_ | refine call_a (cl) rfl rfl ?_ | refine call_a (cr) rfl rfl ?_); simp only [stepK, pureK, memK, appK, binK, arithK, shiftK, inI, cellsOf, partS, splice, fillS, partsOf, srcOf, isFlat, hget, impC, cvD, dcOf, dcsOf, dcssOf, chunk, onOps, tmpOf, Op.operands, Call.operands, evS, svOf, Nat.reduceAdd, Nat.reduceSub, Nat.reduceMul, Nat.reduceLeDiff, Nat.reduceBEq, Nat.reduceBNe, Nat.reduceEqDiff, Nat.reduceLT, reduceIte, reduceCtorEq, Int.reduceToNat, tiAll, ENL, strK, rowB_inj, List.length_map, map_take]; simp only [vwAll, vwMore, matSs, matS, matC, matL, matT, matH, matB, hget, vwFrom, vwGet, svRes, Nat.reduceEqDiff, Nat.reduceAdd, reduceIte, reduceCtorEq, MAL]; refine ⟨rfl, ?_, ?_, ?_, rfl, ?_, ?_, (by dsimp only; omega), ?_⟩; (focus (first | rfl | (simp [SV.map, mcv, vwl, List.length_map, map_take]; done) | (simp [SV.map, mcv, vwl, List.length_map, map_take]; omega))); (focus (simp [argsW, wfs, wfc, vwl])); (focus (simp [preL, preOK, vwl, hget, Blk.own, wfb, wfc, Blk.map, mcv, map_take, List.take_of_length_le, List.length_map, map_take]; done)); (focus (simp [domL, Vw.blk, hget])); (focus (simp [ownL, Blk.own])); simp only [Con.effAt, rcv, rid, vwl, SV.map, Blk.map, Vw.blk, Nat.reduceSub, Nat.reduceAdd, Nat.reduceLT, reduceIte, EFL]) | fail))
  | ((with_reducible refine step_go ?_); (fail_if_success with_reducible refine call_go ?_); simp only [stepK, pureK, memK, appK, binK, arithK, shiftK, inI, cellsOf, partS, splice, fillS, partsOf, srcOf, isFlat, hget, impC, cvD, dcOf, dcsOf, dcssOf, chunk, onOps, tmpOf, Op.operands, Call.operands, evS, svOf, Nat.reduceAdd, Nat.reduceSub, Nat.reduceMul, Nat.reduceLeDiff, Nat.reduceBEq, Nat.reduceBNe, Nat.reduceEqDiff, Nat.reduceLT, reduceIte, reduceCtorEq, Int.reduceToNat, tiAll, ENL, strK, rowB_inj, List.length_map, map_take])
  | ((with_reducible refine lexd_nil ?_ ?_); focus (first | kernel_rfl | with_unfolding_all rfl))
  | (((with_reducible refine guard_go ?_); refine lex_guard rfl rfl (fun hg KS hKS => ?_) (fun hg => ?_)) <;> first | (exact absurd hg (by decide)) | ((try simp only [CNL] at hg) <;> first | (exfalso; omega) | (exact (tf (by assumption) hg).elim) | (exact (tf hg (by assumption)).elim) | ((try with_reducible (have hT0 : True := hg; clear hT0 hg)); try simp only [evS, svOf, putS, hputs, hput, Nat.reduceEqDiff, reduceIte, EVL])))
  | (((with_reducible refine guardd_go ?_); refine lexd_guard rfl rfl (fun hg KS hKS => ?_) (fun hg => ?_)) <;> first | (exact absurd hg (by decide)) | ((try simp only [CNL] at hg) <;> first | (exfalso; omega) | (exact (tf (by assumption) hg).elim) | (exact (tf hg (by assumption)).elim) | ((try with_reducible (have hT0 : True := hg; clear hT0 hg)); try simp only [evS, svOf, putS, hputs, hput, Nat.reduceEqDiff, reduceIte, EVL])))
  | ((with_reducible refine hKS _ _ _ _ ?_); clear hKS; clear KS; simp only [evS, svOf, putS, hputs, hput, Nat.reduceEqDiff, reduceIte, EVL])
  | ((with_reducible refine cond_go ?_); refine cond_k rfl (fun hc => ?_) (fun hc => ?_) <;> first | (exact absurd hc (by decide)) | ((try simp only [CNL] at hc) <;> first | (exfalso; omega) | (exact (tf (by assumption) hc).elim) | (exact (tf hc (by assumption)).elim) | skip))
  | ((with_reducible refine And.intro (fun hp => ?_) (fun hp => ?_)) <;> first | (exact absurd hp (by decide)) | ((try simp only [CNL] at hp) <;> first | (exfalso; omega) | (exact (tf (by assumption) hp).elim) | (exact (tf hp (by assumption)).elim) | skip))
  | ((with_reducible refine And.intro ?_ ?_); focus (first | omega | exact u8_le _ | exact flat_intK _ | exact flat_bytK _ | (fail) | decide | (simp only [List.length_map, map_take]; done)))
  | ((with_reducible refine ex_p ?_ (fun hh => ?_)); focus (first | omega | (simp only [List.length_map, map_take]; omega)))
  | (with_reducible refine skip_k ?_) | (with_reducible refine exit_k ?_) | (with_reducible refine ret_k ?_)
  | ((with_reducible refine hK _ _ _ ?_); clear hK hE hT; clear K) | ((with_reducible refine hE _ _ _ _ ?_); (first | (clear hK hE hT; clear K) | (clear hR hE hT; clear K) | skip); try simp only [Nat.reduceEqDiff, if_true, if_false, reduceIte]) | ((with_reducible refine hT _ _ _ ?_); (first | (clear hK hE hT; clear K) | (clear hR hE hT; clear K) | skip))
  | ((with_reducible apply_assumption -symm -exfalso); try simp only [Nat.reduceEqDiff, if_true, if_false, reduceIte])
  | fail)
    all_goals (refine post_a hres (.inl rfl) ?_; simp only [resvs, resv, stepK, pureK, memK, appK, binK, arithK, shiftK, inI, cellsOf, partS, splice, fillS, partsOf, srcOf, isFlat, hget, impC, cvD, dcOf, dcsOf, dcssOf, chunk, onOps, tmpOf, Op.operands, Call.operands, evS, svOf, Nat.reduceAdd, Nat.reduceSub, Nat.reduceMul, Nat.reduceLeDiff, Nat.reduceBEq, Nat.reduceBNe, Nat.reduceEqDiff, Nat.reduceLT, reduceIte, reduceCtorEq, Int.reduceToNat, tiAll, ENL, strK, rowB_inj, e3, exists_eq_left']; simp only [vwAll, vwMore, matSs, matS, matC, matL, matT, matH, matB, hget, vwFrom, vwGet, svRes, Nat.reduceEqDiff, Nat.reduceAdd, reduceIte, reduceCtorEq, MAL]; refine ⟨rfl, rfl, ?_, ?_, ?_⟩ <;> (first | rfl | (simp [wfs, wfc, wkH, wkB, wfb, vwl, hget, SV.map, Blk.map, mcv, Nat.add_comm, e3]; done) | (simp only [wfs, wfc, wkSl, wkH, wkB, wfs, wfc, wfb, SV.map, Blk.map, mcv, vwl, hget, Nat.reduceEqDiff, reduceIte, WKL, List.forall_mem_cons, List.not_mem_nil, false_implies, implies_true])))

end Go.Proofs.Ytmdajpgemcaefaa
