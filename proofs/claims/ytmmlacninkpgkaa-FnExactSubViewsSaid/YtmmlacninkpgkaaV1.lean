/-
  The views of a part: both SubViews. No conditions of its own.
-/
import Derived.Test.YtmmlacninkpgkaaH1
import Derived.Test.YtmmlacninkpgkaaG3
namespace Go.Proofs.Ytmmlacninkpgkaa
set_option linter.unusedSimpArgs false
set_option linter.unusedVariables false
open Go.RowKit

section
variable {α : Type}
/-- what f gives for the first k numbers -/
def fm (f : Nat → Option α) (k : Nat) : List α := (List.range k).filterMap f
theorem fm_zero (f : Nat → Option α) : fm f 0 = [] := rfl
theorem fm_some {f : Nat → Option α} {k : Nat} {x : α} (h : f k = some x) : fm f (k + 1) = fm f k ++ [x] := by
  simp [fm, List.range_succ, List.filterMap_append, h]
theorem fm_none {f : Nat → Option α} {k : Nat} (h : f k = none) : fm f (k + 1) = fm f k := by
  simp [fm, List.range_succ, List.filterMap_append, h]
theorem fm_len (f : Nat → Option α) : ∀ k, (fm f k).length ≤ k
  | 0 => Nat.le_refl _
  | k + 1 => by
    have := fm_len f k
    cases h : f k with
    | none => rw [fm_none h]; omega
    | some x => rw [fm_some h]; simp; omega
end

/-- does an edge's entry lie at v? -/
def locAt (v : Int) (x : LocD) : Prop := x.Edge.From = v ∨ x.Edge.To = v
instance (v : Int) (x : LocD) : Decidable (locAt v x) := inferInstanceAs (Decidable (_ ∨ _))
def locView (v : Int) (x : LocD) : ViewD := ⟨x.Edge.To == v, x.Edge.From == v, x.Edge.W, x.Edge.Val⟩
def svV (l : List LocD) (v : Int) (i : Nat) : Option ViewD := (l[i]?).bind fun x => if locAt v x then some (locView v x) else none
def svI (l : List LocD) (v : Int) (i : Nat) : Option Int := (l[i]?).bind fun x => if locAt v x then some (i : Int) else none

theorem sv_hit {l : List LocD} {v : Int} {k : Nat} (h : k < l.length) (hv : l[k].Edge.From = v ∨ l[k].Edge.To = v) :
    svV l v k = some (locView v l[k]) ∧ svI l v k = some (k : Int) := by
  have : locAt v l[k] := hv
  simp [svV, svI, h, this]
theorem sv_miss {l : List LocD} {v : Int} {k : Nat} (h : k < l.length) (h1 : ¬ l[k].Edge.From = v) (h2 : ¬ l[k].Edge.To = v) :
    svV l v k = none ∧ svI l v k = none := by
  have : ¬ locAt v l[k] := fun h => h.elim h1 h2
  simp [svV, svI, h, this]


set_option maxHeartbeats 4000000 in
theorem implSubViews_k (x : SubD) (v : Int) (h : (x.Locs).length ≤ 1048576) : FnOK Try.prog 40 ⟨1, [(0, some (.ro ((x.Locs).map LocD.k)))], [.agg [.v (.int .i64 x.P), .v (.int .i64 x.Lo), .v (.int .i64 x.Hi), .sl 0 7 0 (x.Locs).length, .v (.int .i64 x.Reads)], .c (.v (.int .i64 v))], .tup [.inl (.sl 1 4 0 (fm (svV x.Locs v) x.Locs.length).length), .inl (.sl 2 1 0 (fm (svI x.Locs v) x.Locs.length).length)],
    [(1, some (.row 89 ((fm (svV x.Locs v) x.Locs.length).map ViewD.k))), (2, some (.row 3 ((fm (svI x.Locs v) x.Locs.length).map intK)))], 3⟩ := by
  obtain ⟨xP, xLo, xHi, l, xReads⟩ := x
  dsimp only at h
  dsimp only
  refine fnOK_of true mixed Try.func40 rfl (by rfl) (by rfl) ?_
  have hres := congrArg Array.toList Try.results40
  simp only [Try.ntmps40, List.length_cons, List.length_nil, Nat.reduceAdd, Nat.reduceSub, List.replicate_succ, List.replicate_zero, List.cons_append, List.nil_append]
  repeat' (first
  | (with_reducible refine seq_k fun K hK hE hT => ?_)
  | (with_reducible refine block_k fun K hK hE hT => ?_)
  | (with_reducible refine region_k ?_)
  | (with_reducible refine draw_k ?_)
  | (with_reducible refine lex_nil ?_)
  | ((with_reducible first | refine lex_move ?_ | refine lex_assign ?_); simp only [evS, svOf, putS, hputs, hput, Nat.reduceEqDiff, reduceIte, EVL])
  | (with_reducible refine lex_cons fun KS hKS => ?_)
  | (with_reducible refine lexd_cons fun KS hKS => ?_)
  | ((with_reducible refine call_go ?_); fail; simp only [stepK, pureK, memK, appK, binK, arithK, shiftK, inI, cellsOf, partS, splice, fillS, partsOf, srcOf, isFlat, hget, impC, cvD, dcOf, dcsOf, dcssOf, chunk, onOps, tmpOf, Op.operands, Call.operands, evS, svOf, Nat.reduceAdd, Nat.reduceSub, Nat.reduceMul, Nat.reduceLeDiff, Nat.reduceBEq, Nat.reduceBNe, Nat.reduceEqDiff, Nat.reduceLT, reduceIte, reduceCtorEq, Int.reduceToNat, tiAll, ENL, strK, rowB_inj, true_and]; simp only [vwAll, vwMore, matSs, matS, matC, matL, matT, matH, matB, hget, vwFrom, vwGet, svRes, Nat.reduceEqDiff, Nat.reduceAdd, reduceIte, reduceCtorEq, MAL]; refine ⟨rfl, ?_, ?_, ?_, rfl, ?_, ?_, (by dsimp only; omega), ?_⟩; (focus (first | rfl | (simp [SV.map, mcv, vwl, true_and]; done) | (simp [SV.map, mcv, vwl, true_and]; omega))); (focus (simp [argsW, wfs, wfc, vwl])); (focus (simp [preL, preOK, vwl, hget, Blk.own, wfb, wfc, Blk.map, mcv, map_take, List.take_of_length_le, true_and]; done)); (focus (simp [domL, Vw.blk, hget])); (focus (simp [ownL, Blk.own])); simp only [Con.effAt, rcv, rid, vwl, SV.map, Blk.map, Vw.blk, Nat.reduceSub, Nat.reduceAdd, Nat.reduceLT, reduceIte, EFL])
  | ((with_reducible refine step_go ?_); (fail_if_success with_reducible refine call_go ?_); simp only [stepK, pureK, memK, appK, binK, arithK, shiftK, inI, cellsOf, partS, splice, fillS, partsOf, srcOf, isFlat, hget, impC, cvD, dcOf, dcsOf, dcssOf, chunk, onOps, tmpOf, Op.operands, Call.operands, evS, svOf, Nat.reduceAdd, Nat.reduceSub, Nat.reduceMul, Nat.reduceLeDiff, Nat.reduceBEq, Nat.reduceBNe, Nat.reduceEqDiff, Nat.reduceLT, reduceIte, reduceCtorEq, Int.reduceToNat, tiAll, ENL, strK, rowB_inj, true_and])
  | ((with_reducible refine lexd_nil ?_ ?_); focus (first | kernel_rfl | with_unfolding_all rfl))
  | (((with_reducible refine guard_go ?_); refine lex_guard rfl rfl (fun hg KS hKS => ?_) (fun hg => ?_)) <;> first | (exact absurd hg (by decide)) | ((try simp only [CNL] at hg) <;> first | (exfalso; omega) | ((try with_reducible (have hT0 : True := hg; clear hT0 hg)); try simp only [evS, svOf, putS, hputs, hput, Nat.reduceEqDiff, reduceIte, EVL])))
  | (((with_reducible refine guardd_go ?_); refine lexd_guard rfl rfl (fun hg KS hKS => ?_) (fun hg => ?_)) <;> first | (exact absurd hg (by decide)) | ((try simp only [CNL] at hg) <;> first | (exfalso; omega) | ((try with_reducible (have hT0 : True := hg; clear hT0 hg)); try simp only [evS, svOf, putS, hputs, hput, Nat.reduceEqDiff, reduceIte, EVL])))
  | ((with_reducible refine hKS _ _ _ _ ?_); clear hKS; clear KS; simp only [evS, svOf, putS, hputs, hput, Nat.reduceEqDiff, reduceIte, EVL])
  | ((with_reducible refine cond_go ?_); refine cond_k rfl (fun hc => ?_) (fun hc => ?_) <;> first | (exact absurd hc (by decide)) | ((try simp only [CNL] at hc) <;> first | (exfalso; omega) | skip))
  | ((with_reducible refine And.intro (fun hp => ?_) (fun hp => ?_)))
  | ((with_reducible refine And.intro ?_ ?_); focus (first | omega | exact u8_le _ | (fail) | decide | (simp only [true_and]; done)))
  | ((with_reducible refine ex_p ?_ (fun hh => ?_)); focus (first | omega | (simp only [true_and]; omega)))
  | (with_reducible refine skip_k ?_) | (with_reducible refine exit_k ?_) | (with_reducible refine ret_k ?_)
  | ((with_reducible refine hK _ _ _ ?_); clear hK hE hT; clear K) | ((with_reducible refine hE _ _ _ _ ?_); (first | (clear hK hE hT; clear K) | (clear hR hE hT; clear K) | skip); try simp only [Nat.reduceEqDiff, if_true, if_false, reduceIte]) | ((with_reducible refine hT _ _ _ ?_); (first | (clear hK hE hT; clear K) | (clear hR hE hT; clear K) | skip)) | fail)
  refine loop_v (X := {k : Nat // k ≤ l.length}) [] (fun x => [(6, .c (.sl 2 4 0 (fm (svV l v) x.1).length)), (7, .c (.sl 3 1 0 (fm (svI l v) x.1).length)), (14, .c (.v (.int .i64 ((x.1 : Nat) : Int))))]) (fun x => [(0, some (.ro (l.map LocD.k))), (1, some (.box 58 [.v (.int .i64 xP), .v (.int .i64 xLo), .v (.int .i64 xHi), .sl 0 7 0 l.length, .v (.int .i64 xReads)])), (2, some (.row 89 ((fm (svV l v) x.1).map ViewD.k))), (3, some (.row 3 ((fm (svI l v) x.1).map intK)))]) 4 (fun x => l.length - x.1) ⟨0, by omega⟩ ?_
  simp only [keepSl, dsts, opDst, setsSl, List.filterMap_cons, List.filterMap_nil, List.cons_append, List.nil_append, List.append_nil, List.contains_cons, List.contains_nil, Nat.reduceBEq, Nat.reduceBNe, Nat.reduceAdd, Bool.or_true, Bool.true_or, Bool.or_false, Bool.false_or, beq_self_eq_true, if_true, if_false, reduceIte, Bool.false_eq_true, List.set_cons_zero, List.set_cons_succ, exists_eq_left]
  refine ⟨?_, ?_⟩
  · (refine wk_a ?_; simp only [vwAll, vwMore, matSs, matS, matC, matL, matT, matH, matB, hget, vwFrom, vwGet, svRes, Nat.reduceEqDiff, Nat.reduceAdd, reduceIte, reduceCtorEq, MAL]; refine ⟨rfl, rfl, (by decide), ?_, ?_⟩; all_goals (first | (simp only [wkSl, wkH, wkB, wfs, wfc, wfb, SV.map, Blk.map, mcv, vwl, hget, Nat.reduceEqDiff, reduceIte, WKL]; done) | (simp only [wkSl, wkH, wkB, wfs, wfc, wfb, SV.map, Blk.map, mcv, vwl, hget, Nat.reduceEqDiff, reduceIte, WKL, fm_zero, Nat.reduceLT, Nat.zero_lt_succ]; done) | (simp [wkSl, wkH, wkB, wfs, wfc, wfb, SV.map, Blk.map, mcv, vwl, hget, Nat.reduceEqDiff, reduceIte, WKL, fm_zero]; done) | simp only [wkSl, wkH, wkB, wfs, wfc, wfb, SV.map, Blk.map, mcv, vwl, hget, Nat.reduceEqDiff, reduceIte, WKL]))
  · rintro ⟨k, hk⟩ K hR hE hT
    have l1 := fm_len (svV l v) k
    have l2 := fm_len (svI l v) k
    repeat' (first
  | (with_reducible refine seq_k fun K hK hE hT => ?_)
  | (with_reducible refine block_k fun K hK hE hT => ?_)
  | (with_reducible refine region_k ?_)
  | (with_reducible refine draw_k ?_)
  | (with_reducible refine lex_nil ?_)
  | ((with_reducible first | refine lex_move ?_ | refine lex_assign ?_); simp only [evS, svOf, putS, hputs, hput, Nat.reduceEqDiff, reduceIte, EVL])
  | (with_reducible refine lex_cons fun KS hKS => ?_)
  | (with_reducible refine lexd_cons fun KS hKS => ?_)
  | ((with_reducible refine call_go ?_); fail; simp only [stepK, pureK, memK, appK, binK, arithK, shiftK, inI, cellsOf, partS, splice, fillS, partsOf, srcOf, isFlat, hget, impC, cvD, dcOf, dcsOf, dcssOf, chunk, onOps, tmpOf, Op.operands, Call.operands, evS, svOf, Nat.reduceAdd, Nat.reduceSub, Nat.reduceMul, Nat.reduceLeDiff, Nat.reduceBEq, Nat.reduceBNe, Nat.reduceEqDiff, Nat.reduceLT, reduceIte, reduceCtorEq, Int.reduceToNat, tiAll, ENL, strK, rowB_inj, List.length_map, List.getElem_map, LocD.k]; simp only [vwAll, vwMore, matSs, matS, matC, matL, matT, matH, matB, hget, vwFrom, vwGet, svRes, Nat.reduceEqDiff, Nat.reduceAdd, reduceIte, reduceCtorEq, MAL]; refine ⟨rfl, ?_, ?_, ?_, rfl, ?_, ?_, (by dsimp only; omega), ?_⟩; (focus (first | rfl | (simp [SV.map, mcv, vwl, List.length_map, List.getElem_map, LocD.k]; done) | (simp [SV.map, mcv, vwl, List.length_map, List.getElem_map, LocD.k]; omega))); (focus (simp [argsW, wfs, wfc, vwl])); (focus (simp [preL, preOK, vwl, hget, Blk.own, wfb, wfc, Blk.map, mcv, map_take, List.take_of_length_le, List.length_map, List.getElem_map, LocD.k]; done)); (focus (simp [domL, Vw.blk, hget])); (focus (simp [ownL, Blk.own])); simp only [Con.effAt, rcv, rid, vwl, SV.map, Blk.map, Vw.blk, Nat.reduceSub, Nat.reduceAdd, Nat.reduceLT, reduceIte, EFL])
  | ((with_reducible refine step_go ?_); (fail_if_success with_reducible refine call_go ?_); simp only [stepK, pureK, memK, appK, binK, arithK, shiftK, inI, cellsOf, partS, splice, fillS, partsOf, srcOf, isFlat, hget, impC, cvD, dcOf, dcsOf, dcssOf, chunk, onOps, tmpOf, Op.operands, Call.operands, evS, svOf, Nat.reduceAdd, Nat.reduceSub, Nat.reduceMul, Nat.reduceLeDiff, Nat.reduceBEq, Nat.reduceBNe, Nat.reduceEqDiff, Nat.reduceLT, reduceIte, reduceCtorEq, Int.reduceToNat, tiAll, ENL, strK, rowB_inj, List.length_map, List.getElem_map, LocD.k])
  | ((with_reducible refine lexd_nil ?_ ?_); focus (first | kernel_rfl | with_unfolding_all rfl))
  | (((with_reducible refine guard_go ?_); refine lex_guard rfl rfl (fun hg KS hKS => ?_) (fun hg => ?_)) <;> first | (exact absurd hg (by decide)) | ((try simp only [CNL] at hg) <;> first | (exfalso; omega) | ((try with_reducible (have hT0 : True := hg; clear hT0 hg)); try simp only [evS, svOf, putS, hputs, hput, Nat.reduceEqDiff, reduceIte, EVL])))
  | (((with_reducible refine guardd_go ?_); refine lexd_guard rfl rfl (fun hg KS hKS => ?_) (fun hg => ?_)) <;> first | (exact absurd hg (by decide)) | ((try simp only [CNL] at hg) <;> first | (exfalso; omega) | ((try with_reducible (have hT0 : True := hg; clear hT0 hg)); try simp only [evS, svOf, putS, hputs, hput, Nat.reduceEqDiff, reduceIte, EVL])))
  | ((with_reducible refine hKS _ _ _ _ ?_); clear hKS; clear KS; simp only [evS, svOf, putS, hputs, hput, Nat.reduceEqDiff, reduceIte, EVL])
  | ((with_reducible refine cond_go ?_); refine cond_k rfl (fun hc => ?_) (fun hc => ?_) <;> first | (exact absurd hc (by decide)) | ((try simp only [CNL] at hc) <;> first | (exfalso; omega) | skip))
  | ((with_reducible refine And.intro (fun hp => ?_) (fun hp => ?_)))
  | ((with_reducible refine And.intro ?_ ?_); focus (first | omega | exact u8_le _ | (fail) | decide | (simp only [List.length_map, List.getElem_map, LocD.k]; done)))
  | ((with_reducible refine ex_p ?_ (fun hh => ?_)); focus (first | omega | (simp only [List.length_map, List.getElem_map, LocD.k]; omega)))
  | (with_reducible refine skip_k ?_) | (with_reducible refine exit_k ?_) | (with_reducible refine ret_k ?_)
  | ((with_reducible refine hK _ _ _ ?_); clear hK hE hT; clear K) | ((with_reducible refine hE _ _ _ _ ?_); (first | (clear hK hE hT; clear K) | (clear hR hE hT; clear K) | skip); try simp only [Nat.reduceEqDiff, if_true, if_false, reduceIte]) | ((with_reducible refine hT _ _ _ ?_); (first | (clear hK hE hT; clear K) | (clear hR hE hT; clear K) | skip)) | fail)
    · obtain ⟨e1, e2⟩ := sv_hit (v := v) hh (.inr (by assumption))
      (refine hR.out ⟨k + 1, by omega⟩ _ _ _ (by simp only; omega) ?_; (refine wk_a ?_; simp only [vwAll, vwMore, matSs, matS, matC, matL, matT, matH, matB, hget, vwFrom, vwGet, svRes, Nat.reduceEqDiff, Nat.reduceAdd, reduceIte, reduceCtorEq, MAL]; refine ⟨rfl, rfl, (by decide), ?_, ?_⟩; all_goals (first | (simp only [wkSl, wkH, wkB, wfs, wfc, wfb, SV.map, Blk.map, mcv, vwl, hget, Nat.reduceEqDiff, reduceIte, WKL]; done) | (simp only [wkSl, wkH, wkB, wfs, wfc, wfb, SV.map, Blk.map, mcv, vwl, hget, Nat.reduceEqDiff, reduceIte, WKL, fm_some e1, fm_some e2, ViewD.k, intK, locView, Nat.reduceLT, Nat.zero_lt_succ]; done) | (simp [wkSl, wkH, wkB, wfs, wfc, wfb, SV.map, Blk.map, mcv, vwl, hget, Nat.reduceEqDiff, reduceIte, WKL, fm_some e1, fm_some e2, ViewD.k, intK, locView]; done) | simp only [wkSl, wkH, wkB, wfs, wfc, wfb, SV.map, Blk.map, mcv, vwl, hget, Nat.reduceEqDiff, reduceIte, WKL])))
    · obtain ⟨e1, e2⟩ := sv_miss (v := v) hh (by assumption) (by assumption)
      (refine hR.out ⟨k + 1, by omega⟩ _ _ _ (by simp only; omega) ?_; (refine wk_a ?_; simp only [vwAll, vwMore, matSs, matS, matC, matL, matT, matH, matB, hget, vwFrom, vwGet, svRes, Nat.reduceEqDiff, Nat.reduceAdd, reduceIte, reduceCtorEq, MAL]; refine ⟨rfl, rfl, (by decide), ?_, ?_⟩; all_goals (first | (simp only [wkSl, wkH, wkB, wfs, wfc, wfb, SV.map, Blk.map, mcv, vwl, hget, Nat.reduceEqDiff, reduceIte, WKL]; done) | (simp only [wkSl, wkH, wkB, wfs, wfc, wfb, SV.map, Blk.map, mcv, vwl, hget, Nat.reduceEqDiff, reduceIte, WKL, fm_none e1, fm_none e2, Nat.reduceLT, Nat.zero_lt_succ]; done) | (simp [wkSl, wkH, wkB, wfs, wfc, wfb, SV.map, Blk.map, mcv, vwl, hget, Nat.reduceEqDiff, reduceIte, WKL, fm_none e1, fm_none e2]; done) | simp only [wkSl, wkH, wkB, wfs, wfc, wfb, SV.map, Blk.map, mcv, vwl, hget, Nat.reduceEqDiff, reduceIte, WKL])))
    · obtain ⟨e1, e2⟩ := sv_hit (v := v) hh (.inl (by assumption))
      (refine hR.out ⟨k + 1, by omega⟩ _ _ _ (by simp only; omega) ?_; (refine wk_a ?_; simp only [vwAll, vwMore, matSs, matS, matC, matL, matT, matH, matB, hget, vwFrom, vwGet, svRes, Nat.reduceEqDiff, Nat.reduceAdd, reduceIte, reduceCtorEq, MAL]; refine ⟨rfl, rfl, (by decide), ?_, ?_⟩; all_goals (first | (simp only [wkSl, wkH, wkB, wfs, wfc, wfb, SV.map, Blk.map, mcv, vwl, hget, Nat.reduceEqDiff, reduceIte, WKL]; done) | (simp only [wkSl, wkH, wkB, wfs, wfc, wfb, SV.map, Blk.map, mcv, vwl, hget, Nat.reduceEqDiff, reduceIte, WKL, fm_some e1, fm_some e2, ViewD.k, intK, locView, Nat.reduceLT, Nat.zero_lt_succ]; done) | (simp [wkSl, wkH, wkB, wfs, wfc, wfb, SV.map, Blk.map, mcv, vwl, hget, Nat.reduceEqDiff, reduceIte, WKL, fm_some e1, fm_some e2, ViewD.k, intK, locView]; done) | simp only [wkSl, wkH, wkB, wfs, wfc, wfb, SV.map, Blk.map, mcv, vwl, hget, Nat.reduceEqDiff, reduceIte, WKL])))
    · obtain rfl : k = l.length := by omega
      (refine post_a hres (.inl rfl) ?_; simp only [resvs, resv, stepK, pureK, memK, appK, binK, arithK, shiftK, inI, cellsOf, partS, splice, fillS, partsOf, srcOf, isFlat, hget, impC, cvD, dcOf, dcsOf, dcssOf, chunk, onOps, tmpOf, Op.operands, Call.operands, evS, svOf, Nat.reduceAdd, Nat.reduceSub, Nat.reduceMul, Nat.reduceLeDiff, Nat.reduceBEq, Nat.reduceBNe, Nat.reduceEqDiff, Nat.reduceLT, reduceIte, reduceCtorEq, Int.reduceToNat, tiAll, ENL, strK, rowB_inj, true_and, exists_eq_left']; simp only [vwAll, vwMore, matSs, matS, matC, matL, matT, matH, matB, hget, vwFrom, vwGet, svRes, Nat.reduceEqDiff, Nat.reduceAdd, reduceIte, reduceCtorEq, MAL]; refine ⟨rfl, rfl, ?_, ?_, ?_⟩ <;> (first | rfl | (simp [wfs, wfc, wkH, wkB, wfb, vwl, hget, SV.map, Blk.map, mcv, Nat.add_comm, true_and]; done) | (simp only [wfs, wfc, wkSl, wkH, wkB, wfs, wfc, wfb, SV.map, Blk.map, mcv, vwl, hget, Nat.reduceEqDiff, reduceIte, WKL])))

set_option maxHeartbeats 4000000 in
theorem specSubViews_k (x : SubD) (v : Int) (h : (x.Locs).length ≤ 1048576) : FnOK Try.prog 38 ⟨1, [(0, some (.ro ((x.Locs).map LocD.k)))], [.agg [.v (.int .i64 x.P), .v (.int .i64 x.Lo), .v (.int .i64 x.Hi), .sl 0 7 0 (x.Locs).length, .v (.int .i64 x.Reads)], .c (.v (.int .i64 v))], .tup [.inl (.sl 1 4 0 (fm (svV x.Locs v) x.Locs.length).length), .inl (.sl 2 1 0 (fm (svI x.Locs v) x.Locs.length).length)],
    [(1, some (.row 89 ((fm (svV x.Locs v) x.Locs.length).map ViewD.k))), (2, some (.row 3 ((fm (svI x.Locs v) x.Locs.length).map intK)))], 3⟩ := by
  obtain ⟨xP, xLo, xHi, l, xReads⟩ := x
  dsimp only at h
  dsimp only
  refine fnOK_of true mixed Try.func38 rfl (by rfl) (by rfl) ?_
  have hres := congrArg Array.toList Try.results38
  simp only [Try.ntmps38, List.length_cons, List.length_nil, Nat.reduceAdd, Nat.reduceSub, List.replicate_succ, List.replicate_zero, List.cons_append, List.nil_append]
  repeat' (first
  | (with_reducible refine seq_k fun K hK hE hT => ?_)
  | (with_reducible refine block_k fun K hK hE hT => ?_)
  | (with_reducible refine region_k ?_)
  | (with_reducible refine draw_k ?_)
  | (with_reducible refine lex_nil ?_)
  | ((with_reducible first | refine lex_move ?_ | refine lex_assign ?_); simp only [evS, svOf, putS, hputs, hput, Nat.reduceEqDiff, reduceIte, EVL])
  | (with_reducible refine lex_cons fun KS hKS => ?_)
  | (with_reducible refine lexd_cons fun KS hKS => ?_)
  | ((with_reducible refine call_go ?_); fail; simp only [stepK, pureK, memK, appK, binK, arithK, shiftK, inI, cellsOf, partS, splice, fillS, partsOf, srcOf, isFlat, hget, impC, cvD, dcOf, dcsOf, dcssOf, chunk, onOps, tmpOf, Op.operands, Call.operands, evS, svOf, Nat.reduceAdd, Nat.reduceSub, Nat.reduceMul, Nat.reduceLeDiff, Nat.reduceBEq, Nat.reduceBNe, Nat.reduceEqDiff, Nat.reduceLT, reduceIte, reduceCtorEq, Int.reduceToNat, tiAll, ENL, strK, rowB_inj, true_and]; simp only [vwAll, vwMore, matSs, matS, matC, matL, matT, matH, matB, hget, vwFrom, vwGet, svRes, Nat.reduceEqDiff, Nat.reduceAdd, reduceIte, reduceCtorEq, MAL]; refine ⟨rfl, ?_, ?_, ?_, rfl, ?_, ?_, (by dsimp only; omega), ?_⟩; (focus (first | rfl | (simp [SV.map, mcv, vwl, true_and]; done) | (simp [SV.map, mcv, vwl, true_and]; omega))); (focus (simp [argsW, wfs, wfc, vwl])); (focus (simp [preL, preOK, vwl, hget, Blk.own, wfb, wfc, Blk.map, mcv, map_take, List.take_of_length_le, true_and]; done)); (focus (simp [domL, Vw.blk, hget])); (focus (simp [ownL, Blk.own])); simp only [Con.effAt, rcv, rid, vwl, SV.map, Blk.map, Vw.blk, Nat.reduceSub, Nat.reduceAdd, Nat.reduceLT, reduceIte, EFL])
  | ((with_reducible refine step_go ?_); (fail_if_success with_reducible refine call_go ?_); simp only [stepK, pureK, memK, appK, binK, arithK, shiftK, inI, cellsOf, partS, splice, fillS, partsOf, srcOf, isFlat, hget, impC, cvD, dcOf, dcsOf, dcssOf, chunk, onOps, tmpOf, Op.operands, Call.operands, evS, svOf, Nat.reduceAdd, Nat.reduceSub, Nat.reduceMul, Nat.reduceLeDiff, Nat.reduceBEq, Nat.reduceBNe, Nat.reduceEqDiff, Nat.reduceLT, reduceIte, reduceCtorEq, Int.reduceToNat, tiAll, ENL, strK, rowB_inj, true_and])
  | ((with_reducible refine lexd_nil ?_ ?_); focus (first | kernel_rfl | with_unfolding_all rfl))
  | (((with_reducible refine guard_go ?_); refine lex_guard rfl rfl (fun hg KS hKS => ?_) (fun hg => ?_)) <;> first | (exact absurd hg (by decide)) | ((try simp only [CNL] at hg) <;> first | (exfalso; omega) | ((try with_reducible (have hT0 : True := hg; clear hT0 hg)); try simp only [evS, svOf, putS, hputs, hput, Nat.reduceEqDiff, reduceIte, EVL])))
  | (((with_reducible refine guardd_go ?_); refine lexd_guard rfl rfl (fun hg KS hKS => ?_) (fun hg => ?_)) <;> first | (exact absurd hg (by decide)) | ((try simp only [CNL] at hg) <;> first | (exfalso; omega) | ((try with_reducible (have hT0 : True := hg; clear hT0 hg)); try simp only [evS, svOf, putS, hputs, hput, Nat.reduceEqDiff, reduceIte, EVL])))
  | ((with_reducible refine hKS _ _ _ _ ?_); clear hKS; clear KS; simp only [evS, svOf, putS, hputs, hput, Nat.reduceEqDiff, reduceIte, EVL])
  | ((with_reducible refine cond_go ?_); refine cond_k rfl (fun hc => ?_) (fun hc => ?_) <;> first | (exact absurd hc (by decide)) | ((try simp only [CNL] at hc) <;> first | (exfalso; omega) | skip))
  | ((with_reducible refine And.intro (fun hp => ?_) (fun hp => ?_)))
  | ((with_reducible refine And.intro ?_ ?_); focus (first | omega | exact u8_le _ | (fail) | decide | (simp only [true_and]; done)))
  | ((with_reducible refine ex_p ?_ (fun hh => ?_)); focus (first | omega | (simp only [true_and]; omega)))
  | (with_reducible refine skip_k ?_) | (with_reducible refine exit_k ?_) | (with_reducible refine ret_k ?_)
  | ((with_reducible refine hK _ _ _ ?_); clear hK hE hT; clear K) | ((with_reducible refine hE _ _ _ _ ?_); (first | (clear hK hE hT; clear K) | (clear hR hE hT; clear K) | skip); try simp only [Nat.reduceEqDiff, if_true, if_false, reduceIte]) | ((with_reducible refine hT _ _ _ ?_); (first | (clear hK hE hT; clear K) | (clear hR hE hT; clear K) | skip)) | fail)
  refine loop_v (X := {k : Nat // k ≤ l.length}) [11, 12] (fun x => [(6, .c (.sl 2 4 0 (fm (svV l v) x.1).length)), (7, .c (.sl 3 1 0 (fm (svI l v) x.1).length)), (16, .c (.v (.int .i64 ((x.1 : Nat) : Int))))]) (fun x => [(0, some (.ro (l.map LocD.k))), (1, some (.box 58 [.v (.int .i64 xP), .v (.int .i64 xLo), .v (.int .i64 xHi), .sl 0 7 0 l.length, .v (.int .i64 xReads)])), (2, some (.row 89 ((fm (svV l v) x.1).map ViewD.k))), (3, some (.row 3 ((fm (svI l v) x.1).map intK)))]) 4 (fun x => l.length - x.1) ⟨0, by omega⟩ ?_
  simp only [keepSl, dsts, opDst, setsSl, List.filterMap_cons, List.filterMap_nil, List.cons_append, List.nil_append, List.append_nil, List.contains_cons, List.contains_nil, Nat.reduceBEq, Nat.reduceBNe, Nat.reduceAdd, Bool.or_true, Bool.true_or, Bool.or_false, Bool.false_or, beq_self_eq_true, if_true, if_false, reduceIte, Bool.false_eq_true, List.set_cons_zero, List.set_cons_succ, exists_eq_left]
  refine ⟨?_, ?_⟩
  · (refine wk_a ?_; simp only [vwAll, vwMore, matSs, matS, matC, matL, matT, matH, matB, hget, vwFrom, vwGet, svRes, Nat.reduceEqDiff, Nat.reduceAdd, reduceIte, reduceCtorEq, MAL]; refine ⟨rfl, rfl, (by decide), ?_, ?_⟩; all_goals (first | (simp only [wkSl, wkH, wkB, wfs, wfc, wfb, SV.map, Blk.map, mcv, vwl, hget, Nat.reduceEqDiff, reduceIte, WKL]; done) | (simp only [wkSl, wkH, wkB, wfs, wfc, wfb, SV.map, Blk.map, mcv, vwl, hget, Nat.reduceEqDiff, reduceIte, WKL, fm_zero, Nat.reduceLT, Nat.zero_lt_succ]; done) | (simp [wkSl, wkH, wkB, wfs, wfc, wfb, SV.map, Blk.map, mcv, vwl, hget, Nat.reduceEqDiff, reduceIte, WKL, fm_zero]; done) | simp only [wkSl, wkH, wkB, wfs, wfc, wfb, SV.map, Blk.map, mcv, vwl, hget, Nat.reduceEqDiff, reduceIte, WKL]))
  · rintro ⟨k, hk⟩ K hR hE hT
    have l1 := fm_len (svV l v) k
    have l2 := fm_len (svI l v) k
    repeat' (first
  | (with_reducible refine seq_k fun K hK hE hT => ?_)
  | (with_reducible refine block_k fun K hK hE hT => ?_)
  | (with_reducible refine region_k ?_)
  | (with_reducible refine draw_k ?_)
  | (with_reducible refine lex_nil ?_)
  | ((with_reducible first | refine lex_move ?_ | refine lex_assign ?_); simp only [evS, svOf, putS, hputs, hput, Nat.reduceEqDiff, reduceIte, EVL])
  | (with_reducible refine lex_cons fun KS hKS => ?_)
  | (with_reducible refine lexd_cons fun KS hKS => ?_)
  | ((with_reducible refine call_go ?_); fail; simp only [stepK, pureK, memK, appK, binK, arithK, shiftK, inI, cellsOf, partS, splice, fillS, partsOf, srcOf, isFlat, hget, impC, cvD, dcOf, dcsOf, dcssOf, chunk, onOps, tmpOf, Op.operands, Call.operands, evS, svOf, Nat.reduceAdd, Nat.reduceSub, Nat.reduceMul, Nat.reduceLeDiff, Nat.reduceBEq, Nat.reduceBNe, Nat.reduceEqDiff, Nat.reduceLT, reduceIte, reduceCtorEq, Int.reduceToNat, tiAll, ENL, strK, rowB_inj, List.length_map, List.getElem_map, LocD.k]; simp only [vwAll, vwMore, matSs, matS, matC, matL, matT, matH, matB, hget, vwFrom, vwGet, svRes, Nat.reduceEqDiff, Nat.reduceAdd, reduceIte, reduceCtorEq, MAL]; refine ⟨rfl, ?_, ?_, ?_, rfl, ?_, ?_, (by dsimp only; omega), ?_⟩; (focus (first | rfl | (simp [SV.map, mcv, vwl, List.length_map, List.getElem_map, LocD.k]; done) | (simp [SV.map, mcv, vwl, List.length_map, List.getElem_map, LocD.k]; omega))); (focus (simp [argsW, wfs, wfc, vwl])); (focus (simp [preL, preOK, vwl, hget, Blk.own, wfb, wfc, Blk.map, mcv, map_take, List.take_of_length_le, List.length_map, List.getElem_map, LocD.k]; done)); (focus (simp [domL, Vw.blk, hget])); (focus (simp [ownL, Blk.own])); simp only [Con.effAt, rcv, rid, vwl, SV.map, Blk.map, Vw.blk, Nat.reduceSub, Nat.reduceAdd, Nat.reduceLT, reduceIte, EFL])
  | ((with_reducible refine step_go ?_); (fail_if_success with_reducible refine call_go ?_); simp only [stepK, pureK, memK, appK, binK, arithK, shiftK, inI, cellsOf, partS, splice, fillS, partsOf, srcOf, isFlat, hget, impC, cvD, dcOf, dcsOf, dcssOf, chunk, onOps, tmpOf, Op.operands, Call.operands, evS, svOf, Nat.reduceAdd, Nat.reduceSub, Nat.reduceMul, Nat.reduceLeDiff, Nat.reduceBEq, Nat.reduceBNe, Nat.reduceEqDiff, Nat.reduceLT, reduceIte, reduceCtorEq, Int.reduceToNat, tiAll, ENL, strK, rowB_inj, List.length_map, List.getElem_map, LocD.k])
  | ((with_reducible refine lexd_nil ?_ ?_); focus (first | kernel_rfl | with_unfolding_all rfl))
  | (((with_reducible refine guard_go ?_); refine lex_guard rfl rfl (fun hg KS hKS => ?_) (fun hg => ?_)) <;> first | (exact absurd hg (by decide)) | ((try simp only [CNL] at hg) <;> first | (exfalso; omega) | ((try with_reducible (have hT0 : True := hg; clear hT0 hg)); try simp only [evS, svOf, putS, hputs, hput, Nat.reduceEqDiff, reduceIte, EVL])))
  | (((with_reducible refine guardd_go ?_); refine lexd_guard rfl rfl (fun hg KS hKS => ?_) (fun hg => ?_)) <;> first | (exact absurd hg (by decide)) | ((try simp only [CNL] at hg) <;> first | (exfalso; omega) | ((try with_reducible (have hT0 : True := hg; clear hT0 hg)); try simp only [evS, svOf, putS, hputs, hput, Nat.reduceEqDiff, reduceIte, EVL])))
  | ((with_reducible refine hKS _ _ _ _ ?_); clear hKS; clear KS; simp only [evS, svOf, putS, hputs, hput, Nat.reduceEqDiff, reduceIte, EVL])
  | ((with_reducible refine cond_go ?_); refine cond_k rfl (fun hc => ?_) (fun hc => ?_) <;> first | (exact absurd hc (by decide)) | ((try simp only [CNL] at hc) <;> first | (exfalso; omega) | skip))
  | ((with_reducible refine And.intro (fun hp => ?_) (fun hp => ?_)))
  | ((with_reducible refine And.intro ?_ ?_); focus (first | omega | exact u8_le _ | (fail) | decide | (simp only [List.length_map, List.getElem_map, LocD.k]; done)))
  | ((with_reducible refine ex_p ?_ (fun hh => ?_)); focus (first | omega | (simp only [List.length_map, List.getElem_map, LocD.k]; omega)))
  | (with_reducible refine skip_k ?_) | (with_reducible refine exit_k ?_) | (with_reducible refine ret_k ?_)
  | ((with_reducible refine hK _ _ _ ?_); clear hK hE hT; clear K) | ((with_reducible refine hE _ _ _ _ ?_); (first | (clear hK hE hT; clear K) | (clear hR hE hT; clear K) | skip); try simp only [Nat.reduceEqDiff, if_true, if_false, reduceIte]) | ((with_reducible refine hT _ _ _ ?_); (first | (clear hK hE hT; clear K) | (clear hR hE hT; clear K) | skip)) | fail)
    · obtain ⟨e1, e2⟩ := sv_hit (v := v) hh (.inr (by assumption))
      (refine hR.out ⟨k + 1, by omega⟩ _ _ _ (by simp only; omega) ?_; (refine wk_a ?_; simp only [vwAll, vwMore, matSs, matS, matC, matL, matT, matH, matB, hget, vwFrom, vwGet, svRes, Nat.reduceEqDiff, Nat.reduceAdd, reduceIte, reduceCtorEq, MAL]; refine ⟨rfl, rfl, (by decide), ?_, ?_⟩; all_goals (first | (simp only [wkSl, wkH, wkB, wfs, wfc, wfb, SV.map, Blk.map, mcv, vwl, hget, Nat.reduceEqDiff, reduceIte, WKL]; done) | (simp only [wkSl, wkH, wkB, wfs, wfc, wfb, SV.map, Blk.map, mcv, vwl, hget, Nat.reduceEqDiff, reduceIte, WKL, fm_some e1, fm_some e2, ViewD.k, intK, locView, Nat.reduceLT, Nat.zero_lt_succ]; done) | (simp [wkSl, wkH, wkB, wfs, wfc, wfb, SV.map, Blk.map, mcv, vwl, hget, Nat.reduceEqDiff, reduceIte, WKL, fm_some e1, fm_some e2, ViewD.k, intK, locView]; done) | simp only [wkSl, wkH, wkB, wfs, wfc, wfb, SV.map, Blk.map, mcv, vwl, hget, Nat.reduceEqDiff, reduceIte, WKL])))
    · obtain ⟨e1, e2⟩ := sv_miss (v := v) hh (by assumption) (by assumption)
      (refine hR.out ⟨k + 1, by omega⟩ _ _ _ (by simp only; omega) ?_; (refine wk_a ?_; simp only [vwAll, vwMore, matSs, matS, matC, matL, matT, matH, matB, hget, vwFrom, vwGet, svRes, Nat.reduceEqDiff, Nat.reduceAdd, reduceIte, reduceCtorEq, MAL]; refine ⟨rfl, rfl, (by decide), ?_, ?_⟩; all_goals (first | (simp only [wkSl, wkH, wkB, wfs, wfc, wfb, SV.map, Blk.map, mcv, vwl, hget, Nat.reduceEqDiff, reduceIte, WKL]; done) | (simp only [wkSl, wkH, wkB, wfs, wfc, wfb, SV.map, Blk.map, mcv, vwl, hget, Nat.reduceEqDiff, reduceIte, WKL, fm_none e1, fm_none e2, Nat.reduceLT, Nat.zero_lt_succ]; done) | (simp [wkSl, wkH, wkB, wfs, wfc, wfb, SV.map, Blk.map, mcv, vwl, hget, Nat.reduceEqDiff, reduceIte, WKL, fm_none e1, fm_none e2]; done) | simp only [wkSl, wkH, wkB, wfs, wfc, wfb, SV.map, Blk.map, mcv, vwl, hget, Nat.reduceEqDiff, reduceIte, WKL])))
    · obtain ⟨e1, e2⟩ := sv_hit (v := v) hh (.inl (by assumption))
      (refine hR.out ⟨k + 1, by omega⟩ _ _ _ (by simp only; omega) ?_; (refine wk_a ?_; simp only [vwAll, vwMore, matSs, matS, matC, matL, matT, matH, matB, hget, vwFrom, vwGet, svRes, Nat.reduceEqDiff, Nat.reduceAdd, reduceIte, reduceCtorEq, MAL]; refine ⟨rfl, rfl, (by decide), ?_, ?_⟩; all_goals (first | (simp only [wkSl, wkH, wkB, wfs, wfc, wfb, SV.map, Blk.map, mcv, vwl, hget, Nat.reduceEqDiff, reduceIte, WKL]; done) | (simp only [wkSl, wkH, wkB, wfs, wfc, wfb, SV.map, Blk.map, mcv, vwl, hget, Nat.reduceEqDiff, reduceIte, WKL, fm_some e1, fm_some e2, ViewD.k, intK, locView, Nat.reduceLT, Nat.zero_lt_succ]; done) | (simp [wkSl, wkH, wkB, wfs, wfc, wfb, SV.map, Blk.map, mcv, vwl, hget, Nat.reduceEqDiff, reduceIte, WKL, fm_some e1, fm_some e2, ViewD.k, intK, locView]; done) | simp only [wkSl, wkH, wkB, wfs, wfc, wfb, SV.map, Blk.map, mcv, vwl, hget, Nat.reduceEqDiff, reduceIte, WKL])))
    · obtain rfl : k = l.length := by omega
      (refine post_a hres (.inl rfl) ?_; simp only [resvs, resv, stepK, pureK, memK, appK, binK, arithK, shiftK, inI, cellsOf, partS, splice, fillS, partsOf, srcOf, isFlat, hget, impC, cvD, dcOf, dcsOf, dcssOf, chunk, onOps, tmpOf, Op.operands, Call.operands, evS, svOf, Nat.reduceAdd, Nat.reduceSub, Nat.reduceMul, Nat.reduceLeDiff, Nat.reduceBEq, Nat.reduceBNe, Nat.reduceEqDiff, Nat.reduceLT, reduceIte, reduceCtorEq, Int.reduceToNat, tiAll, ENL, strK, rowB_inj, true_and, exists_eq_left']; simp only [vwAll, vwMore, matSs, matS, matC, matL, matT, matH, matB, hget, vwFrom, vwGet, svRes, Nat.reduceEqDiff, Nat.reduceAdd, reduceIte, reduceCtorEq, MAL]; refine ⟨rfl, rfl, ?_, ?_, ?_⟩ <;> (first | rfl | (simp [wfs, wfc, wkH, wkB, wfb, vwl, hget, SV.map, Blk.map, mcv, Nat.add_comm, true_and]; done) | (simp only [wfs, wfc, wkSl, wkH, wkB, wfs, wfc, wfb, SV.map, Blk.map, mcv, vwl, hget, Nat.reduceEqDiff, reduceIte, WKL])))

end Go.Proofs.Ytmmlacninkpgkaa
