/-
  Contracts: the views of a run's edges at a vertex. No conditions of its own.
-/
import Derived.Test.YtmdajpgemcaefaaK6
import Derived.Test.YtmdajpgemcaefaaG3
namespace Go.Proofs.Ytmdajpgemcaefaa
set_option linter.unusedSimpArgs false
set_option linter.unusedVariables false
open Go.RowKit

def edgeAt (v : Int) (x : EdgeD) : Prop := x.From = v ∨ x.To = v
instance (v : Int) (x : EdgeD) : Decidable (edgeAt v x) := inferInstanceAs (Decidable (_ ∨ _))
def edgeView (v : Int) (x : EdgeD) (z : Int) : ViewD := ⟨x.To == v, x.From == v, x.W, z⟩
def vwV (l : List EdgeD) (ev : List Int) (v : Int) (i : Nat) : Option ViewD := (l[i]?).bind fun x => if edgeAt v x then some (edgeView v x (ev.getD i 0)) else none
def vwI (l : List EdgeD) (v : Int) (i : Nat) : Option Int := (l[i]?).bind fun x => if edgeAt v x then some (i : Int) else none
def viewsV (g : GraphD) (r : RunD) (v : Int) : List ViewD := fm (vwV g.Edges r.EVals v) g.Edges.length
def viewsI (g : GraphD) (v : Int) : List Int := fm (vwI g.Edges v) g.Edges.length

theorem vw_hit {l : List EdgeD} {ev : List Int} {v : Int} {k : Nat} (h : k < l.length) (he : k < ev.length) (hv : l[k].From = v ∨ l[k].To = v) :
    vwV l ev v k = some (edgeView v l[k] ev[k]) ∧ vwI l v k = some (k : Int) := by
  have : edgeAt v l[k] := hv
  simp [vwV, vwI, h, this, List.getD, he]
theorem vw_miss {l : List EdgeD} {ev : List Int} {v : Int} {k : Nat} (h : k < l.length) (h1 : ¬ l[k].From = v) (h2 : ¬ l[k].To = v) :
    vwV l ev v k = none ∧ vwI l v k = none := by
  have : ¬ edgeAt v l[k] := fun h => h.elim h1 h2
  simp [vwV, vwI, h, this]

theorem viewsV_len (g : GraphD) (r : RunD) (v : Int) : (viewsV g r v).length ≤ g.Edges.length := fm_len _ _
theorem viewsI_len (g : GraphD) (v : Int) : (viewsI g v).length ≤ g.Edges.length := fm_len _ _


set_option maxHeartbeats 4000000 in
theorem implviews_k (g : GraphD) (r : RunD) (v : Int) (hg : (g.Edges).length ≤ 1048576) (hr : (r.Vals).length ≤ 1048576 ∧ (r.EVals).length ≤ 1048576 ∧ (r.Next.Bits).length ≤ 1048576) (he : r.EVals.length = g.Edges.length) : FnOK Try.prog 102 ⟨4, [(0, some (.ro ((g.Edges).map EdgeD.k))), (1, some (.ro ((r.Vals).map intK))), (2, some (.ro ((r.EVals).map intK))), (3, some (.ro ((r.Next.Bits).map bytK)))], [.agg [.v (.int .i64 g.N), .sl 0 3 0 (g.Edges).length], .agg [.v (.int .i64 r.Job.Prog), .v (.int .i64 r.Job.Src), .v (.int .i64 r.Iter), .v (.bool r.Done), .sl 1 1 0 (r.Vals).length, .sl 2 1 0 (r.EVals).length, .v (.int .i64 r.Next.N), .sl 3 1 0 (r.Next.Bits).length], .c (.v (.int .i64 v))], .tup [.inl (.sl 4 4 0 (viewsV g r v).length), .inl (.sl 5 1 0 (viewsI g v).length)],
    [(4, some (.row 118 ((viewsV g r v).map ViewD.k))), (5, some (.row 3 ((viewsI g v).map intK)))], 6⟩ := by
  obtain ⟨n, l⟩ := g
  obtain ⟨⟨jp, js⟩, it, d, va, ev, ⟨sn, sb⟩⟩ := r
  obtain ⟨h0, h1, h2⟩ := hr
  unfold viewsV viewsI
  dsimp only at hg he h0 h1 h2 ⊢
  refine fnOK_of true mixed Try.func102 rfl (by rfl) (by rfl) ?_
  have hres := congrArg Array.toList Try.results102
  simp only [Try.ntmps102, List.length_cons, List.length_nil, Nat.reduceAdd, Nat.reduceSub, List.replicate_succ, List.replicate_zero, List.cons_append, List.nil_append]
  repeat' (first
  | (with_reducible refine seq_k fun K hK hE hT => ?_)
  | (with_reducible refine block_k fun K hK hE hT => ?_)
  | (with_reducible refine region_k ?_)
  | (with_reducible refine draw_k ?_)
  | (with_reducible refine lex_nil ?_)
  | ((with_reducible first | refine lex_move ?_ | refine lex_assign ?_); simp only [evS, svOf, putS, hputs, hput, Nat.reduceEqDiff, reduceIte, EVL])
  | (with_reducible refine lex_cons fun KS hKS => ?_)
  | (with_reducible refine lexd_cons fun KS hKS => ?_)
  | ((with_reducible refine call_go ?_); fail)
  | ((with_reducible refine step_go ?_); (fail_if_success with_reducible refine call_go ?_); simp only [stepK, pureK, memK, appK, binK, arithK, shiftK, inI, cellsOf, partS, splice, fillS, partsOf, srcOf, isFlat, hget, impC, cvD, dcOf, dcsOf, dcssOf, chunk, onOps, tmpOf, Op.operands, Call.operands, evS, svOf, Nat.reduceAdd, Nat.reduceSub, Nat.reduceMul, Nat.reduceLeDiff, Nat.reduceBEq, Nat.reduceBNe, Nat.reduceEqDiff, Nat.reduceLT, reduceIte, reduceCtorEq, Int.reduceToNat, tiAll, ENL, strK, rowB_inj, true_and])
  | ((with_reducible refine lexd_nil ?_ ?_); focus (first | kernel_rfl | with_unfolding_all rfl))
  | (((with_reducible refine guard_go ?_); refine lex_guard rfl rfl (fun hg KS hKS => ?_) (fun hg => ?_)) <;> first | (exact absurd hg (by decide)) | ((try simp only [CNL] at hg) <;> first | (exfalso; omega) | (exact (tf (by assumption) hg).elim) | (exact (tf hg (by assumption)).elim) | ((try with_reducible (have hT0 : True := hg; clear hT0 hg)); try simp only [evS, svOf, putS, hputs, hput, Nat.reduceEqDiff, reduceIte, EVL])))
  | (((with_reducible refine guardd_go ?_); refine lexd_guard rfl rfl (fun hg KS hKS => ?_) (fun hg => ?_)) <;> first | (exact absurd hg (by decide)) | ((try simp only [CNL] at hg) <;> first | (exfalso; omega) | (exact (tf (by assumption) hg).elim) | (exact (tf hg (by assumption)).elim) | ((try with_reducible (have hT0 : True := hg; clear hT0 hg)); try simp only [evS, svOf, putS, hputs, hput, Nat.reduceEqDiff, reduceIte, EVL])))
  | ((with_reducible refine hKS _ _ _ _ ?_); clear hKS; clear KS; simp only [evS, svOf, putS, hputs, hput, Nat.reduceEqDiff, reduceIte, EVL])
  | ((with_reducible refine cond_go ?_); refine cond_k rfl (fun hc => ?_) (fun hc => ?_) <;> first | (exact absurd hc (by decide)) | ((try simp only [CNL] at hc) <;> first | (exfalso; omega) | (exact (tf (by assumption) hc).elim) | (exact (tf hc (by assumption)).elim) | skip))
  | ((with_reducible refine And.intro (fun hp => ?_) (fun hp => ?_)) <;> first | (exact absurd hp (by decide)) | ((try simp only [CNL] at hp) <;> first | (exfalso; omega) | (exact (tf (by assumption) hp).elim) | (exact (tf hp (by assumption)).elim) | skip))
  | ((with_reducible refine And.intro ?_ ?_); focus (first | omega | exact u8_le _ | exact flat_intK _ | exact flat_bytK _ | (fail) | decide | (simp only [true_and]; done)))
  | ((with_reducible refine ex_p ?_ (fun hh => ?_)); focus (first | omega | (simp only [true_and]; omega)))
  | (with_reducible refine skip_k ?_) | (with_reducible refine exit_k ?_) | (with_reducible refine ret_k ?_)
  | ((with_reducible refine hK _ _ _ ?_); clear hK hE hT; clear K) | ((with_reducible refine hE _ _ _ _ ?_); (first | (clear hK hE hT; clear K) | (clear hR hE hT; clear K) | skip); try simp only [Nat.reduceEqDiff, if_true, if_false, reduceIte]) | ((with_reducible refine hT _ _ _ ?_); (first | (clear hK hE hT; clear K) | (clear hR hE hT; clear K) | skip))
  | ((with_reducible apply_assumption -symm -exfalso); try simp only [Nat.reduceEqDiff, if_true, if_false, reduceIte])
  | fail)
  refine loop_v (X := {k : Nat // k ≤ l.length}) [] (fun x => [(8, .c (.sl 6 4 0 (fm (vwV l ev v) x.1).length)), (9, .c (.sl 7 1 0 (fm (vwI l v) x.1).length)), (15, .c (.v (.int .i64 ((x.1 : Nat) : Int))))]) (fun x => [(0, some (.ro (((⟨n, l⟩ : GraphD).Edges).map EdgeD.k))), (1, some (.ro (((⟨⟨jp, js⟩, it, d, va, ev, ⟨sn, sb⟩⟩ : RunD).Vals).map intK))), (2, some (.ro (((⟨⟨jp, js⟩, it, d, va, ev, ⟨sn, sb⟩⟩ : RunD).EVals).map intK))), (3, some (.ro (((⟨⟨jp, js⟩, it, d, va, ev, ⟨sn, sb⟩⟩ : RunD).Next.Bits).map bytK))), (4, some (.box 50 [.v (.int .i64 n), .sl 0 3 0 l.length])), (5, some (.box 45 [.v (.int .i64 jp), .v (.int .i64 js), .v (.int .i64 it), .v (.bool d), .sl 1 1 0 va.length, .sl 2 1 0 ev.length, .v (.int .i64 sn), .sl 3 1 0 sb.length])), (6, some (.row 118 ((fm (vwV l ev v) x.1).map ViewD.k))), (7, some (.row 3 ((fm (vwI l v) x.1).map intK)))]) 8 (fun x => l.length - x.1) ⟨0, by omega⟩ ?_
  simp only [keepSl, dsts, opDst, setsSl, List.filterMap_cons, List.filterMap_nil, List.cons_append, List.nil_append, List.append_nil, List.contains_cons, List.contains_nil, Nat.reduceBEq, Nat.reduceBNe, Nat.reduceAdd, Bool.or_true, Bool.true_or, Bool.or_false, Bool.false_or, beq_self_eq_true, if_true, if_false, reduceIte, Bool.false_eq_true, List.set_cons_zero, List.set_cons_succ, exists_eq_left]
  refine ⟨?_, ?_⟩
  · (refine wk_a ?_; simp only [vwAll, vwMore, matSs, matS, matC, matL, matT, matH, matB, hget, vwFrom, vwGet, svRes, Nat.reduceEqDiff, Nat.reduceAdd, reduceIte, reduceCtorEq, MAL]; refine ⟨rfl, rfl, (by decide), ?_, ?_⟩; all_goals (first | (simp only [wkSl, wkH, wkB, wfs, wfc, wfb, SV.map, Blk.map, mcv, vwl, hget, Nat.reduceEqDiff, reduceIte, WKL, List.forall_mem_cons, List.not_mem_nil, false_implies, implies_true]; done) | (simp only [wkSl, wkH, wkB, wfs, wfc, wfb, SV.map, Blk.map, mcv, vwl, hget, Nat.reduceEqDiff, reduceIte, WKL, List.forall_mem_cons, List.not_mem_nil, false_implies, implies_true, fm_zero, Nat.reduceLT, Nat.zero_lt_succ]; done) | (simp [wkSl, wkH, wkB, wfs, wfc, wfb, SV.map, Blk.map, mcv, vwl, hget, Nat.reduceEqDiff, reduceIte, WKL, List.forall_mem_cons, List.not_mem_nil, false_implies, implies_true, fm_zero]; done) | simp only [wkSl, wkH, wkB, wfs, wfc, wfb, SV.map, Blk.map, mcv, vwl, hget, Nat.reduceEqDiff, reduceIte, WKL, List.forall_mem_cons, List.not_mem_nil, false_implies, implies_true]))
  · rintro ⟨k, hk⟩ K hR hE hT
    have l1 := fm_len (vwV l ev v) k
    have l2 := fm_len (vwI l v) k
    repeat' (first
  | (with_reducible refine seq_k fun K hK hE hT => ?_)
  | (with_reducible refine block_k fun K hK hE hT => ?_)
  | (with_reducible refine region_k ?_)
  | (with_reducible refine draw_k ?_)
  | (with_reducible refine lex_nil ?_)
  | ((with_reducible first | refine lex_move ?_ | refine lex_assign ?_); simp only [evS, svOf, putS, hputs, hput, Nat.reduceEqDiff, reduceIte, EVL])
  | (with_reducible refine lex_cons fun KS hKS => ?_)
  | (with_reducible refine lexd_cons fun KS hKS => ?_)
  | ((with_reducible refine call_go ?_); fail)
  | ((with_reducible refine step_go ?_); (fail_if_success with_reducible refine call_go ?_); simp only [stepK, pureK, memK, appK, binK, arithK, shiftK, inI, cellsOf, partS, splice, fillS, partsOf, srcOf, isFlat, hget, impC, cvD, dcOf, dcsOf, dcssOf, chunk, onOps, tmpOf, Op.operands, Call.operands, evS, svOf, Nat.reduceAdd, Nat.reduceSub, Nat.reduceMul, Nat.reduceLeDiff, Nat.reduceBEq, Nat.reduceBNe, Nat.reduceEqDiff, Nat.reduceLT, reduceIte, reduceCtorEq, Int.reduceToNat, tiAll, ENL, strK, rowB_inj, List.length_map, List.getElem_map, EdgeD.k, intK])
  | ((with_reducible refine lexd_nil ?_ ?_); focus (first | kernel_rfl | with_unfolding_all rfl))
  | (((with_reducible refine guard_go ?_); refine lex_guard rfl rfl (fun hg KS hKS => ?_) (fun hg => ?_)) <;> first | (exact absurd hg (by decide)) | ((try simp only [CNL] at hg) <;> first | (exfalso; omega) | (exact (tf (by assumption) hg).elim) | (exact (tf hg (by assumption)).elim) | ((try with_reducible (have hT0 : True := hg; clear hT0 hg)); try simp only [evS, svOf, putS, hputs, hput, Nat.reduceEqDiff, reduceIte, EVL])))
  | (((with_reducible refine guardd_go ?_); refine lexd_guard rfl rfl (fun hg KS hKS => ?_) (fun hg => ?_)) <;> first | (exact absurd hg (by decide)) | ((try simp only [CNL] at hg) <;> first | (exfalso; omega) | (exact (tf (by assumption) hg).elim) | (exact (tf hg (by assumption)).elim) | ((try with_reducible (have hT0 : True := hg; clear hT0 hg)); try simp only [evS, svOf, putS, hputs, hput, Nat.reduceEqDiff, reduceIte, EVL])))
  | ((with_reducible refine hKS _ _ _ _ ?_); clear hKS; clear KS; simp only [evS, svOf, putS, hputs, hput, Nat.reduceEqDiff, reduceIte, EVL])
  | ((with_reducible refine cond_go ?_); refine cond_k rfl (fun hc => ?_) (fun hc => ?_) <;> first | (exact absurd hc (by decide)) | ((try simp only [CNL] at hc) <;> first | (exfalso; omega) | (exact (tf (by assumption) hc).elim) | (exact (tf hc (by assumption)).elim) | skip))
  | ((with_reducible refine And.intro (fun hp => ?_) (fun hp => ?_)) <;> first | (exact absurd hp (by decide)) | ((try simp only [CNL] at hp) <;> first | (exfalso; omega) | (exact (tf (by assumption) hp).elim) | (exact (tf hp (by assumption)).elim) | skip))
  | ((with_reducible refine And.intro ?_ ?_); focus (first | omega | exact u8_le _ | exact flat_intK _ | exact flat_bytK _ | (fail) | decide | (simp only [List.length_map, List.getElem_map, EdgeD.k, intK]; done)))
  | ((with_reducible refine ex_p ?_ (fun hh => ?_)); focus (first | omega | (simp only [List.length_map, List.getElem_map, EdgeD.k, intK]; omega)))
  | (with_reducible refine skip_k ?_) | (with_reducible refine exit_k ?_) | (with_reducible refine ret_k ?_)
  | ((with_reducible refine hK _ _ _ ?_); clear hK hE hT; clear K) | ((with_reducible refine hE _ _ _ _ ?_); (first | (clear hK hE hT; clear K) | (clear hR hE hT; clear K) | skip); try simp only [Nat.reduceEqDiff, if_true, if_false, reduceIte]) | ((with_reducible refine hT _ _ _ ?_); (first | (clear hK hE hT; clear K) | (clear hR hE hT; clear K) | skip))
  | ((with_reducible apply_assumption -symm -exfalso); try simp only [Nat.reduceEqDiff, if_true, if_false, reduceIte])
  | fail)
    · obtain ⟨e1, e2⟩ := vw_hit (l := l) (ev := ev) (v := v) (k := k) (by omega) (by omega) (.inr (by assumption))
      (refine hR.out ⟨k + 1, by omega⟩ _ _ _ (by simp only; omega) ?_; (refine wk_a ?_; simp only [vwAll, vwMore, matSs, matS, matC, matL, matT, matH, matB, hget, vwFrom, vwGet, svRes, Nat.reduceEqDiff, Nat.reduceAdd, reduceIte, reduceCtorEq, MAL]; refine ⟨rfl, rfl, (by decide), ?_, ?_⟩; all_goals (first | (simp only [wkSl, wkH, wkB, wfs, wfc, wfb, SV.map, Blk.map, mcv, vwl, hget, Nat.reduceEqDiff, reduceIte, WKL, List.forall_mem_cons, List.not_mem_nil, false_implies, implies_true]; done) | (simp only [wkSl, wkH, wkB, wfs, wfc, wfb, SV.map, Blk.map, mcv, vwl, hget, Nat.reduceEqDiff, reduceIte, WKL, List.forall_mem_cons, List.not_mem_nil, false_implies, implies_true, fm_some e1, fm_some e2, ViewD.k, intK, edgeView, Nat.reduceLT, Nat.zero_lt_succ]; done) | (simp [wkSl, wkH, wkB, wfs, wfc, wfb, SV.map, Blk.map, mcv, vwl, hget, Nat.reduceEqDiff, reduceIte, WKL, List.forall_mem_cons, List.not_mem_nil, false_implies, implies_true, fm_some e1, fm_some e2, ViewD.k, intK, edgeView]; done) | simp only [wkSl, wkH, wkB, wfs, wfc, wfb, SV.map, Blk.map, mcv, vwl, hget, Nat.reduceEqDiff, reduceIte, WKL, List.forall_mem_cons, List.not_mem_nil, false_implies, implies_true])))
    · obtain ⟨e1, e2⟩ := vw_miss (l := l) (ev := ev) (v := v) (k := k) (by omega) (by assumption) (by assumption)
      (refine hR.out ⟨k + 1, by omega⟩ _ _ _ (by simp only; omega) ?_; (refine wk_a ?_; simp only [vwAll, vwMore, matSs, matS, matC, matL, matT, matH, matB, hget, vwFrom, vwGet, svRes, Nat.reduceEqDiff, Nat.reduceAdd, reduceIte, reduceCtorEq, MAL]; refine ⟨rfl, rfl, (by decide), ?_, ?_⟩; all_goals (first | (simp only [wkSl, wkH, wkB, wfs, wfc, wfb, SV.map, Blk.map, mcv, vwl, hget, Nat.reduceEqDiff, reduceIte, WKL, List.forall_mem_cons, List.not_mem_nil, false_implies, implies_true]; done) | (simp only [wkSl, wkH, wkB, wfs, wfc, wfb, SV.map, Blk.map, mcv, vwl, hget, Nat.reduceEqDiff, reduceIte, WKL, List.forall_mem_cons, List.not_mem_nil, false_implies, implies_true, fm_none e1, fm_none e2, Nat.reduceLT, Nat.zero_lt_succ]; done) | (simp [wkSl, wkH, wkB, wfs, wfc, wfb, SV.map, Blk.map, mcv, vwl, hget, Nat.reduceEqDiff, reduceIte, WKL, List.forall_mem_cons, List.not_mem_nil, false_implies, implies_true, fm_none e1, fm_none e2]; done) | simp only [wkSl, wkH, wkB, wfs, wfc, wfb, SV.map, Blk.map, mcv, vwl, hget, Nat.reduceEqDiff, reduceIte, WKL, List.forall_mem_cons, List.not_mem_nil, false_implies, implies_true])))
    · obtain ⟨e1, e2⟩ := vw_hit (l := l) (ev := ev) (v := v) (k := k) (by omega) (by omega) (.inl (by assumption))
      (refine hR.out ⟨k + 1, by omega⟩ _ _ _ (by simp only; omega) ?_; (refine wk_a ?_; simp only [vwAll, vwMore, matSs, matS, matC, matL, matT, matH, matB, hget, vwFrom, vwGet, svRes, Nat.reduceEqDiff, Nat.reduceAdd, reduceIte, reduceCtorEq, MAL]; refine ⟨rfl, rfl, (by decide), ?_, ?_⟩; all_goals (first | (simp only [wkSl, wkH, wkB, wfs, wfc, wfb, SV.map, Blk.map, mcv, vwl, hget, Nat.reduceEqDiff, reduceIte, WKL, List.forall_mem_cons, List.not_mem_nil, false_implies, implies_true]; done) | (simp only [wkSl, wkH, wkB, wfs, wfc, wfb, SV.map, Blk.map, mcv, vwl, hget, Nat.reduceEqDiff, reduceIte, WKL, List.forall_mem_cons, List.not_mem_nil, false_implies, implies_true, fm_some e1, fm_some e2, ViewD.k, intK, edgeView, Nat.reduceLT, Nat.zero_lt_succ]; done) | (simp [wkSl, wkH, wkB, wfs, wfc, wfb, SV.map, Blk.map, mcv, vwl, hget, Nat.reduceEqDiff, reduceIte, WKL, List.forall_mem_cons, List.not_mem_nil, false_implies, implies_true, fm_some e1, fm_some e2, ViewD.k, intK, edgeView]; done) | simp only [wkSl, wkH, wkB, wfs, wfc, wfb, SV.map, Blk.map, mcv, vwl, hget, Nat.reduceEqDiff, reduceIte, WKL, List.forall_mem_cons, List.not_mem_nil, false_implies, implies_true])))
    · obtain rfl : k = l.length := by omega
      (refine post_a hres (.inl rfl) ?_; simp only [resvs, resv, stepK, pureK, memK, appK, binK, arithK, shiftK, inI, cellsOf, partS, splice, fillS, partsOf, srcOf, isFlat, hget, impC, cvD, dcOf, dcsOf, dcssOf, chunk, onOps, tmpOf, Op.operands, Call.operands, evS, svOf, Nat.reduceAdd, Nat.reduceSub, Nat.reduceMul, Nat.reduceLeDiff, Nat.reduceBEq, Nat.reduceBNe, Nat.reduceEqDiff, Nat.reduceLT, reduceIte, reduceCtorEq, Int.reduceToNat, tiAll, ENL, strK, rowB_inj, true_and, exists_eq_left']; simp only [vwAll, vwMore, matSs, matS, matC, matL, matT, matH, matB, hget, vwFrom, vwGet, svRes, Nat.reduceEqDiff, Nat.reduceAdd, reduceIte, reduceCtorEq, MAL]; refine ⟨rfl, rfl, ?_, ?_, ?_⟩ <;> (first | rfl | (simp [wfs, wfc, wkH, wkB, wfb, vwl, hget, SV.map, Blk.map, mcv, Nat.add_comm, true_and]; done) | (simp only [wfs, wfc, wkSl, wkH, wkB, wfs, wfc, wfb, SV.map, Blk.map, mcv, vwl, hget, Nat.reduceEqDiff, reduceIte, WKL, List.forall_mem_cons, List.not_mem_nil, false_implies, implies_true])))

set_option maxHeartbeats 4000000 in
theorem specl11Views_k (g : GraphD) (r : RunD) (v : Int) (hg : (g.Edges).length ≤ 1048576) (hr : (r.Vals).length ≤ 1048576 ∧ (r.EVals).length ≤ 1048576 ∧ (r.Next.Bits).length ≤ 1048576) (he : r.EVals.length = g.Edges.length) : FnOK Try.prog 101 ⟨4, [(0, some (.ro ((g.Edges).map EdgeD.k))), (1, some (.ro ((r.Vals).map intK))), (2, some (.ro ((r.EVals).map intK))), (3, some (.ro ((r.Next.Bits).map bytK)))], [.agg [.v (.int .i64 g.N), .sl 0 3 0 (g.Edges).length], .agg [.v (.int .i64 r.Job.Prog), .v (.int .i64 r.Job.Src), .v (.int .i64 r.Iter), .v (.bool r.Done), .sl 1 1 0 (r.Vals).length, .sl 2 1 0 (r.EVals).length, .v (.int .i64 r.Next.N), .sl 3 1 0 (r.Next.Bits).length], .c (.v (.int .i64 v))], .tup [.inl (.sl 4 4 0 (viewsV g r v).length), .inl (.sl 5 1 0 (viewsI g v).length)],
    [(4, some (.row 118 ((viewsV g r v).map ViewD.k))), (5, some (.row 3 ((viewsI g v).map intK)))], 6⟩ := by
  obtain ⟨n, l⟩ := g
  obtain ⟨⟨jp, js⟩, it, d, va, ev, ⟨sn, sb⟩⟩ := r
  obtain ⟨h0, h1, h2⟩ := hr
  unfold viewsV viewsI
  dsimp only at hg he h0 h1 h2 ⊢
  refine fnOK_of true mixed Try.func101 rfl (by rfl) (by rfl) ?_
  have hres := congrArg Array.toList Try.results101
  simp only [Try.ntmps101, List.length_cons, List.length_nil, Nat.reduceAdd, Nat.reduceSub, List.replicate_succ, List.replicate_zero, List.cons_append, List.nil_append]
  repeat' (first
  | (with_reducible refine seq_k fun K hK hE hT => ?_)
  | (with_reducible refine block_k fun K hK hE hT => ?_)
  | (with_reducible refine region_k ?_)
  | (with_reducible refine draw_k ?_)
  | (with_reducible refine lex_nil ?_)
  | ((with_reducible first | refine lex_move ?_ | refine lex_assign ?_); simp only [evS, svOf, putS, hputs, hput, Nat.reduceEqDiff, reduceIte, EVL])
  | (with_reducible refine lex_cons fun KS hKS => ?_)
  | (with_reducible refine lexd_cons fun KS hKS => ?_)
  | ((with_reducible refine call_go ?_); fail)
  | ((with_reducible refine step_go ?_); (fail_if_success with_reducible refine call_go ?_); simp only [stepK, pureK, memK, appK, binK, arithK, shiftK, inI, cellsOf, partS, splice, fillS, partsOf, srcOf, isFlat, hget, impC, cvD, dcOf, dcsOf, dcssOf, chunk, onOps, tmpOf, Op.operands, Call.operands, evS, svOf, Nat.reduceAdd, Nat.reduceSub, Nat.reduceMul, Nat.reduceLeDiff, Nat.reduceBEq, Nat.reduceBNe, Nat.reduceEqDiff, Nat.reduceLT, reduceIte, reduceCtorEq, Int.reduceToNat, tiAll, ENL, strK, rowB_inj, true_and])
  | ((with_reducible refine lexd_nil ?_ ?_); focus (first | kernel_rfl | with_unfolding_all rfl))
  | (((with_reducible refine guard_go ?_); refine lex_guard rfl rfl (fun hg KS hKS => ?_) (fun hg => ?_)) <;> first | (exact absurd hg (by decide)) | ((try simp only [CNL] at hg) <;> first | (exfalso; omega) | (exact (tf (by assumption) hg).elim) | (exact (tf hg (by assumption)).elim) | ((try with_reducible (have hT0 : True := hg; clear hT0 hg)); try simp only [evS, svOf, putS, hputs, hput, Nat.reduceEqDiff, reduceIte, EVL])))
  | (((with_reducible refine guardd_go ?_); refine lexd_guard rfl rfl (fun hg KS hKS => ?_) (fun hg => ?_)) <;> first | (exact absurd hg (by decide)) | ((try simp only [CNL] at hg) <;> first | (exfalso; omega) | (exact (tf (by assumption) hg).elim) | (exact (tf hg (by assumption)).elim) | ((try with_reducible (have hT0 : True := hg; clear hT0 hg)); try simp only [evS, svOf, putS, hputs, hput, Nat.reduceEqDiff, reduceIte, EVL])))
  | ((with_reducible refine hKS _ _ _ _ ?_); clear hKS; clear KS; simp only [evS, svOf, putS, hputs, hput, Nat.reduceEqDiff, reduceIte, EVL])
  | ((with_reducible refine cond_go ?_); refine cond_k rfl (fun hc => ?_) (fun hc => ?_) <;> first | (exact absurd hc (by decide)) | ((try simp only [CNL] at hc) <;> first | (exfalso; omega) | (exact (tf (by assumption) hc).elim) | (exact (tf hc (by assumption)).elim) | skip))
  | ((with_reducible refine And.intro (fun hp => ?_) (fun hp => ?_)) <;> first | (exact absurd hp (by decide)) | ((try simp only [CNL] at hp) <;> first | (exfalso; omega) | (exact (tf (by assumption) hp).elim) | (exact (tf hp (by assumption)).elim) | skip))
  | ((with_reducible refine And.intro ?_ ?_); focus (first | omega | exact u8_le _ | exact flat_intK _ | exact flat_bytK _ | (fail) | decide | (simp only [true_and]; done)))
  | ((with_reducible refine ex_p ?_ (fun hh => ?_)); focus (first | omega | (simp only [true_and]; omega)))
  | (with_reducible refine skip_k ?_) | (with_reducible refine exit_k ?_) | (with_reducible refine ret_k ?_)
  | ((with_reducible refine hK _ _ _ ?_); clear hK hE hT; clear K) | ((with_reducible refine hE _ _ _ _ ?_); (first | (clear hK hE hT; clear K) | (clear hR hE hT; clear K) | skip); try simp only [Nat.reduceEqDiff, if_true, if_false, reduceIte]) | ((with_reducible refine hT _ _ _ ?_); (first | (clear hK hE hT; clear K) | (clear hR hE hT; clear K) | skip))
  | ((with_reducible apply_assumption -symm -exfalso); try simp only [Nat.reduceEqDiff, if_true, if_false, reduceIte])
  | fail)
  refine loop_v (X := {k : Nat // k ≤ l.length}) [12, 13] (fun x => [(8, .c (.sl 6 4 0 (fm (vwV l ev v) x.1).length)), (9, .c (.sl 7 1 0 (fm (vwI l v) x.1).length)), (17, .c (.v (.int .i64 ((x.1 : Nat) : Int))))]) (fun x => [(0, some (.ro (((⟨n, l⟩ : GraphD).Edges).map EdgeD.k))), (1, some (.ro (((⟨⟨jp, js⟩, it, d, va, ev, ⟨sn, sb⟩⟩ : RunD).Vals).map intK))), (2, some (.ro (((⟨⟨jp, js⟩, it, d, va, ev, ⟨sn, sb⟩⟩ : RunD).EVals).map intK))), (3, some (.ro (((⟨⟨jp, js⟩, it, d, va, ev, ⟨sn, sb⟩⟩ : RunD).Next.Bits).map bytK))), (4, some (.box 50 [.v (.int .i64 n), .sl 0 3 0 l.length])), (5, some (.box 45 [.v (.int .i64 jp), .v (.int .i64 js), .v (.int .i64 it), .v (.bool d), .sl 1 1 0 va.length, .sl 2 1 0 ev.length, .v (.int .i64 sn), .sl 3 1 0 sb.length])), (6, some (.row 118 ((fm (vwV l ev v) x.1).map ViewD.k))), (7, some (.row 3 ((fm (vwI l v) x.1).map intK)))]) 8 (fun x => l.length - x.1) ⟨0, by omega⟩ ?_
  simp only [keepSl, dsts, opDst, setsSl, List.filterMap_cons, List.filterMap_nil, List.cons_append, List.nil_append, List.append_nil, List.contains_cons, List.contains_nil, Nat.reduceBEq, Nat.reduceBNe, Nat.reduceAdd, Bool.or_true, Bool.true_or, Bool.or_false, Bool.false_or, beq_self_eq_true, if_true, if_false, reduceIte, Bool.false_eq_true, List.set_cons_zero, List.set_cons_succ, exists_eq_left]
  refine ⟨?_, ?_⟩
  · (refine wk_a ?_; simp only [vwAll, vwMore, matSs, matS, matC, matL, matT, matH, matB, hget, vwFrom, vwGet, svRes, Nat.reduceEqDiff, Nat.reduceAdd, reduceIte, reduceCtorEq, MAL]; refine ⟨rfl, rfl, (by decide), ?_, ?_⟩; all_goals (first | (simp only [wkSl, wkH, wkB, wfs, wfc, wfb, SV.map, Blk.map, mcv, vwl, hget, Nat.reduceEqDiff, reduceIte, WKL, List.forall_mem_cons, List.not_mem_nil, false_implies, implies_true]; done) | (simp only [wkSl, wkH, wkB, wfs, wfc, wfb, SV.map, Blk.map, mcv, vwl, hget, Nat.reduceEqDiff, reduceIte, WKL, List.forall_mem_cons, List.not_mem_nil, false_implies, implies_true, fm_zero, Nat.reduceLT, Nat.zero_lt_succ]; done) | (simp [wkSl, wkH, wkB, wfs, wfc, wfb, SV.map, Blk.map, mcv, vwl, hget, Nat.reduceEqDiff, reduceIte, WKL, List.forall_mem_cons, List.not_mem_nil, false_implies, implies_true, fm_zero]; done) | simp only [wkSl, wkH, wkB, wfs, wfc, wfb, SV.map, Blk.map, mcv, vwl, hget, Nat.reduceEqDiff, reduceIte, WKL, List.forall_mem_cons, List.not_mem_nil, false_implies, implies_true]))
  · rintro ⟨k, hk⟩ K hR hE hT
    have l1 := fm_len (vwV l ev v) k
    have l2 := fm_len (vwI l v) k
    repeat' (first
  | (with_reducible refine seq_k fun K hK hE hT => ?_)
  | (with_reducible refine block_k fun K hK hE hT => ?_)
  | (with_reducible refine region_k ?_)
  | (with_reducible refine draw_k ?_)
  | (with_reducible refine lex_nil ?_)
  | ((with_reducible first | refine lex_move ?_ | refine lex_assign ?_); simp only [evS, svOf, putS, hputs, hput, Nat.reduceEqDiff, reduceIte, EVL])
  | (with_reducible refine lex_cons fun KS hKS => ?_)
  | (with_reducible refine lexd_cons fun KS hKS => ?_)
  | ((with_reducible refine call_go ?_); fail)
  | ((with_reducible refine step_go ?_); (fail_if_success with_reducible refine call_go ?_); simp only [stepK, pureK, memK, appK, binK, arithK, shiftK, inI, cellsOf, partS, splice, fillS, partsOf, srcOf, isFlat, hget, impC, cvD, dcOf, dcsOf, dcssOf, chunk, onOps, tmpOf, Op.operands, Call.operands, evS, svOf, Nat.reduceAdd, Nat.reduceSub, Nat.reduceMul, Nat.reduceLeDiff, Nat.reduceBEq, Nat.reduceBNe, Nat.reduceEqDiff, Nat.reduceLT, reduceIte, reduceCtorEq, Int.reduceToNat, tiAll, ENL, strK, rowB_inj, List.length_map, List.getElem_map, EdgeD.k, intK])
  | ((with_reducible refine lexd_nil ?_ ?_); focus (first | kernel_rfl | with_unfolding_all rfl))
  | (((with_reducible refine guard_go ?_); refine lex_guard rfl rfl (fun hg KS hKS => ?_) (fun hg => ?_)) <;> first | (exact absurd hg (by decide)) | ((try simp only [CNL] at hg) <;> first | (exfalso; omega) | (exact (tf (by assumption) hg).elim) | (exact (tf hg (by assumption)).elim) | ((try with_reducible (have hT0 : True := hg; clear hT0 hg)); try simp only [evS, svOf, putS, hputs, hput, Nat.reduceEqDiff, reduceIte, EVL])))
  | (((with_reducible refine guardd_go ?_); refine lexd_guard rfl rfl (fun hg KS hKS => ?_) (fun hg => ?_)) <;> first | (exact absurd hg (by decide)) | ((try simp only [CNL] at hg) <;> first | (exfalso; omega) | (exact (tf (by assumption) hg).elim) | (exact (tf hg (by assumption)).elim) | ((try with_reducible (have hT0 : True := hg; clear hT0 hg)); try simp only [evS, svOf, putS, hputs, hput, Nat.reduceEqDiff, reduceIte, EVL])))
  | ((with_reducible refine hKS _ _ _ _ ?_); clear hKS; clear KS; simp only [evS, svOf, putS, hputs, hput, Nat.reduceEqDiff, reduceIte, EVL])
  | ((with_reducible refine cond_go ?_); refine cond_k rfl (fun hc => ?_) (fun hc => ?_) <;> first | (exact absurd hc (by decide)) | ((try simp only [CNL] at hc) <;> first | (exfalso; omega) | (exact (tf (by assumption) hc).elim) | (exact (tf hc (by assumption)).elim) | skip))
  | ((with_reducible refine And.intro (fun hp => ?_) (fun hp => ?_)) <;> first | (exact absurd hp (by decide)) | ((try simp only [CNL] at hp) <;> first | (exfalso; omega) | (exact (tf (by assumption) hp).elim) | (exact (tf hp (by assumption)).elim) | skip))
  | ((with_reducible refine And.intro ?_ ?_); focus (first | omega | exact u8_le _ | exact flat_intK _ | exact flat_bytK _ | (fail) | decide | (simp only [List.length_map, List.getElem_map, EdgeD.k, intK]; done)))
  | ((with_reducible refine ex_p ?_ (fun hh => ?_)); focus (first | omega | (simp only [List.length_map, List.getElem_map, EdgeD.k, intK]; omega)))
  | (with_reducible refine skip_k ?_) | (with_reducible refine exit_k ?_) | (with_reducible refine ret_k ?_)
  | ((with_reducible refine hK _ _ _ ?_); clear hK hE hT; clear K) | ((with_reducible refine hE _ _ _ _ ?_); (first | (clear hK hE hT; clear K) | (clear hR hE hT; clear K) | skip); try simp only [Nat.reduceEqDiff, if_true, if_false, reduceIte]) | ((with_reducible refine hT _ _ _ ?_); (first | (clear hK hE hT; clear K) | (clear hR hE hT; clear K) | skip))
  | ((with_reducible apply_assumption -symm -exfalso); try simp only [Nat.reduceEqDiff, if_true, if_false, reduceIte])
  | fail)
    · obtain ⟨e1, e2⟩ := vw_hit (l := l) (ev := ev) (v := v) (k := k) (by omega) (by omega) (.inr (by assumption))
      (refine hR.out ⟨k + 1, by omega⟩ _ _ _ (by simp only; omega) ?_; (refine wk_a ?_; simp only [vwAll, vwMore, matSs, matS, matC, matL, matT, matH, matB, hget, vwFrom, vwGet, svRes, Nat.reduceEqDiff, Nat.reduceAdd, reduceIte, reduceCtorEq, MAL]; refine ⟨rfl, rfl, (by decide), ?_, ?_⟩; all_goals (first | (simp only [wkSl, wkH, wkB, wfs, wfc, wfb, SV.map, Blk.map, mcv, vwl, hget, Nat.reduceEqDiff, reduceIte, WKL, List.forall_mem_cons, List.not_mem_nil, false_implies, implies_true]; done) | (simp only [wkSl, wkH, wkB, wfs, wfc, wfb, SV.map, Blk.map, mcv, vwl, hget, Nat.reduceEqDiff, reduceIte, WKL, List.forall_mem_cons, List.not_mem_nil, false_implies, implies_true, fm_some e1, fm_some e2, ViewD.k, intK, edgeView, Nat.reduceLT, Nat.zero_lt_succ]; done) | (simp [wkSl, wkH, wkB, wfs, wfc, wfb, SV.map, Blk.map, mcv, vwl, hget, Nat.reduceEqDiff, reduceIte, WKL, List.forall_mem_cons, List.not_mem_nil, false_implies, implies_true, fm_some e1, fm_some e2, ViewD.k, intK, edgeView]; done) | simp only [wkSl, wkH, wkB, wfs, wfc, wfb, SV.map, Blk.map, mcv, vwl, hget, Nat.reduceEqDiff, reduceIte, WKL, List.forall_mem_cons, List.not_mem_nil, false_implies, implies_true])))
    · obtain ⟨e1, e2⟩ := vw_miss (l := l) (ev := ev) (v := v) (k := k) (by omega) (by assumption) (by assumption)
      (refine hR.out ⟨k + 1, by omega⟩ _ _ _ (by simp only; omega) ?_; (refine wk_a ?_; simp only [vwAll, vwMore, matSs, matS, matC, matL, matT, matH, matB, hget, vwFrom, vwGet, svRes, Nat.reduceEqDiff, Nat.reduceAdd, reduceIte, reduceCtorEq, MAL]; refine ⟨rfl, rfl, (by decide), ?_, ?_⟩; all_goals (first | (simp only [wkSl, wkH, wkB, wfs, wfc, wfb, SV.map, Blk.map, mcv, vwl, hget, Nat.reduceEqDiff, reduceIte, WKL, List.forall_mem_cons, List.not_mem_nil, false_implies, implies_true]; done) | (simp only [wkSl, wkH, wkB, wfs, wfc, wfb, SV.map, Blk.map, mcv, vwl, hget, Nat.reduceEqDiff, reduceIte, WKL, List.forall_mem_cons, List.not_mem_nil, false_implies, implies_true, fm_none e1, fm_none e2, Nat.reduceLT, Nat.zero_lt_succ]; done) | (simp [wkSl, wkH, wkB, wfs, wfc, wfb, SV.map, Blk.map, mcv, vwl, hget, Nat.reduceEqDiff, reduceIte, WKL, List.forall_mem_cons, List.not_mem_nil, false_implies, implies_true, fm_none e1, fm_none e2]; done) | simp only [wkSl, wkH, wkB, wfs, wfc, wfb, SV.map, Blk.map, mcv, vwl, hget, Nat.reduceEqDiff, reduceIte, WKL, List.forall_mem_cons, List.not_mem_nil, false_implies, implies_true])))
    · obtain ⟨e1, e2⟩ := vw_hit (l := l) (ev := ev) (v := v) (k := k) (by omega) (by omega) (.inl (by assumption))
      (refine hR.out ⟨k + 1, by omega⟩ _ _ _ (by simp only; omega) ?_; (refine wk_a ?_; simp only [vwAll, vwMore, matSs, matS, matC, matL, matT, matH, matB, hget, vwFrom, vwGet, svRes, Nat.reduceEqDiff, Nat.reduceAdd, reduceIte, reduceCtorEq, MAL]; refine ⟨rfl, rfl, (by decide), ?_, ?_⟩; all_goals (first | (simp only [wkSl, wkH, wkB, wfs, wfc, wfb, SV.map, Blk.map, mcv, vwl, hget, Nat.reduceEqDiff, reduceIte, WKL, List.forall_mem_cons, List.not_mem_nil, false_implies, implies_true]; done) | (simp only [wkSl, wkH, wkB, wfs, wfc, wfb, SV.map, Blk.map, mcv, vwl, hget, Nat.reduceEqDiff, reduceIte, WKL, List.forall_mem_cons, List.not_mem_nil, false_implies, implies_true, fm_some e1, fm_some e2, ViewD.k, intK, edgeView, Nat.reduceLT, Nat.zero_lt_succ]; done) | (simp [wkSl, wkH, wkB, wfs, wfc, wfb, SV.map, Blk.map, mcv, vwl, hget, Nat.reduceEqDiff, reduceIte, WKL, List.forall_mem_cons, List.not_mem_nil, false_implies, implies_true, fm_some e1, fm_some e2, ViewD.k, intK, edgeView]; done) | simp only [wkSl, wkH, wkB, wfs, wfc, wfb, SV.map, Blk.map, mcv, vwl, hget, Nat.reduceEqDiff, reduceIte, WKL, List.forall_mem_cons, List.not_mem_nil, false_implies, implies_true])))
    · obtain rfl : k = l.length := by omega
      (refine post_a hres (.inl rfl) ?_; simp only [resvs, resv, stepK, pureK, memK, appK, binK, arithK, shiftK, inI, cellsOf, partS, splice, fillS, partsOf, srcOf, isFlat, hget, impC, cvD, dcOf, dcsOf, dcssOf, chunk, onOps, tmpOf, Op.operands, Call.operands, evS, svOf, Nat.reduceAdd, Nat.reduceSub, Nat.reduceMul, Nat.reduceLeDiff, Nat.reduceBEq, Nat.reduceBNe, Nat.reduceEqDiff, Nat.reduceLT, reduceIte, reduceCtorEq, Int.reduceToNat, tiAll, ENL, strK, rowB_inj, true_and, exists_eq_left']; simp only [vwAll, vwMore, matSs, matS, matC, matL, matT, matH, matB, hget, vwFrom, vwGet, svRes, Nat.reduceEqDiff, Nat.reduceAdd, reduceIte, reduceCtorEq, MAL]; refine ⟨rfl, rfl, ?_, ?_, ?_⟩ <;> (first | rfl | (simp [wfs, wfc, wkH, wkB, wfb, vwl, hget, SV.map, Blk.map, mcv, Nat.add_comm, true_and]; done) | (simp only [wfs, wfc, wkSl, wkH, wkB, wfs, wfc, wfb, SV.map, Blk.map, mcv, vwl, hget, Nat.reduceEqDiff, reduceIte, WKL, List.forall_mem_cons, List.not_mem_nil, false_implies, implies_true])))

theorem runOk_evals {g : GraphD} {r : RunD} (h : runOk g r = true) : r.EVals.length = g.Edges.length := by
  unfold runOk at h
  simp only [Bool.and_eq_true, decide_eq_true_eq] at h
  omega

def viewsOk (g : GraphD) (r : RunD) (v : Int) : Bool := runOk g r && decide (0 ≤ v ∧ v < g.N)
def lViews (g : GraphD) (r : RunD) (v : Int) : List ViewD := if viewsOk g r v then viewsV g r v else []
def lIs (g : GraphD) (r : RunD) (v : Int) : List Int := if viewsOk g r v then viewsI g v else []

theorem lViews_len (g : GraphD) (r : RunD) (v : Int) : (lViews g r v).length ≤ g.Edges.length ∧ (lIs g r v).length ≤ g.Edges.length := by
  unfold lViews lIs
  cases viewsOk g r v with
  | false => exact ⟨Nat.zero_le _, Nat.zero_le _⟩
  | true => exact ⟨viewsV_len g r v, viewsI_len g v⟩


set_option maxHeartbeats 4000000 in
theorem implViews_k (g : GraphD) (r : RunD) (v : Int) (hg : (g.Edges).length ≤ 1048576) (hr : (r.Vals).length ≤ 1048576 ∧ (r.EVals).length ≤ 1048576 ∧ (r.Next.Bits).length ≤ 1048576) : FnOK Try.prog 38 ⟨4, [(0, some (.ro ((g.Edges).map EdgeD.k))), (1, some (.ro ((r.Vals).map intK))), (2, some (.ro ((r.EVals).map intK))), (3, some (.ro ((r.Next.Bits).map bytK)))], [.agg [.v (.int .i64 g.N), .sl 0 3 0 (g.Edges).length], .agg [.v (.int .i64 r.Job.Prog), .v (.int .i64 r.Job.Src), .v (.int .i64 r.Iter), .v (.bool r.Done), .sl 1 1 0 (r.Vals).length, .sl 2 1 0 (r.EVals).length, .v (.int .i64 r.Next.N), .sl 3 1 0 (r.Next.Bits).length], .c (.v (.int .i64 v))], .tup [.inl (.sl 4 4 0 (lViews g r v).length), .inl (.sl 5 1 0 (lIs g r v).length)],
    [(4, some (.row 118 ((lViews g r v).map ViewD.k))), (5, some (.row 3 ((lIs g r v).map intK)))], 6⟩ := by
  have c1 := implRunOk_k g r hg hr
  cases ho : runOk g r with
  | false =>
    rw [ho] at c1
    have e1 : lViews g r v = [] := by unfold lViews viewsOk; rw [ho]; rfl
    have e2 : lIs g r v = [] := by unfold lIs viewsOk; rw [ho]; rfl
    rw [e1, e2]
    obtain ⟨h0, h1, h2⟩ := hr
    refine fnOK_of true mixed Try.func38 rfl (by rfl) (by rfl) ?_
    have hres := congrArg Array.toList Try.results38
    simp only [Try.ntmps38, List.length_cons, List.length_nil, Nat.reduceAdd, Nat.reduceSub, List.replicate_succ, List.replicate_zero, List.cons_append, List.nil_append]
    repeat' (first
  | (with_reducible refine seq_k fun K hK hE hT => ?_)
  | (with_reducible refine block_k fun K hK hE hT => ?_)
  | (with_reducible refine region_k ?_)
  | (with_reducible refine draw_k ?_)
  | (with_reducible refine lex_nil ?_)
  | ((with_reducible first | refine lex_move ?_ | refine lex_assign ?_); simp only [evS, svOf, putS, hputs, hput, Nat.reduceEqDiff, reduceIte, EVL])
  | (with_reducible refine lex_cons fun KS hKS => ?_)
  | (with_reducible refine lexd_cons fun KS hKS => ?_)
  | ((with_reducible refine call_go ?_); (first | ((first | refine call_a (c1) rfl rfl ?_); simp only [stepK, pureK, memK, appK, binK, arithK, shiftK, inI, cellsOf, partS, splice, fillS, partsOf, srcOf, isFlat, hget, impC, cvD, dcOf, dcsOf, dcssOf, chunk, onOps, tmpOf, Op.operands, Call.operands, evS, svOf, Nat.reduceAdd, Nat.reduceSub, Nat.reduceMul, Nat.reduceLeDiff, Nat.reduceBEq, Nat.reduceBNe, Nat.reduceEqDiff, Nat.reduceLT, reduceIte, reduceCtorEq, Int.reduceToNat, tiAll, ENL, strK, rowB_inj, List.length_map]; simp only [vwAll, vwMore, matSs, matS, matC, matL, matT, matH, matB, hget, vwFrom, vwGet, svRes, Nat.reduceEqDiff, Nat.reduceAdd, reduceIte, reduceCtorEq, MAL]; refine ⟨rfl, ?_, ?_, ?_, rfl, ?_, ?_, (by dsimp only; omega), ?_⟩; (focus (first | rfl | (simp [SV.map, mcv, vwl, List.length_map]; done) | (simp [SV.map, mcv, vwl, List.length_map]; omega))); (focus (simp [argsW, wfs, wfc, vwl])); (focus (simp [preL, preOK, vwl, hget, Blk.own, wfb, wfc, Blk.map, mcv, map_take, List.take_of_length_le, List.length_map]; done)); (focus (simp [domL, Vw.blk, hget])); (focus (simp [ownL, Blk.own])); simp only [Con.effAt, rcv, rid, vwl, SV.map, Blk.map, Vw.blk, Nat.reduceSub, Nat.reduceAdd, Nat.reduceLT, reduceIte, EFL]) | fail))
  | ((with_reducible refine step_go ?_); (fail_if_success with_reducible refine call_go ?_); simp only [stepK, pureK, memK, appK, binK, arithK, shiftK, inI, cellsOf, partS, splice, fillS, partsOf, srcOf, isFlat, hget, impC, cvD, dcOf, dcsOf, dcssOf, chunk, onOps, tmpOf, Op.operands, Call.operands, evS, svOf, Nat.reduceAdd, Nat.reduceSub, Nat.reduceMul, Nat.reduceLeDiff, Nat.reduceBEq, Nat.reduceBNe, Nat.reduceEqDiff, Nat.reduceLT, reduceIte, reduceCtorEq, Int.reduceToNat, tiAll, ENL, strK, rowB_inj, List.length_map])
  | ((with_reducible refine lexd_nil ?_ ?_); focus (first | kernel_rfl | with_unfolding_all rfl))
  | (((with_reducible refine guard_go ?_); refine lex_guard rfl rfl (fun hg KS hKS => ?_) (fun hg => ?_)) <;> first | (exact absurd hg (by decide)) | ((try simp only [CNL] at hg) <;> first | (exfalso; omega) | (exact (tf (by assumption) hg).elim) | (exact (tf hg (by assumption)).elim) | ((try with_reducible (have hT0 : True := hg; clear hT0 hg)); try simp only [evS, svOf, putS, hputs, hput, Nat.reduceEqDiff, reduceIte, EVL])))
  | (((with_reducible refine guardd_go ?_); refine lexd_guard rfl rfl (fun hg KS hKS => ?_) (fun hg => ?_)) <;> first | (exact absurd hg (by decide)) | ((try simp only [CNL] at hg) <;> first | (exfalso; omega) | (exact (tf (by assumption) hg).elim) | (exact (tf hg (by assumption)).elim) | ((try with_reducible (have hT0 : True := hg; clear hT0 hg)); try simp only [evS, svOf, putS, hputs, hput, Nat.reduceEqDiff, reduceIte, EVL])))
  | ((with_reducible refine hKS _ _ _ _ ?_); clear hKS; clear KS; simp only [evS, svOf, putS, hputs, hput, Nat.reduceEqDiff, reduceIte, EVL])
  | ((with_reducible refine cond_go ?_); refine cond_k rfl (fun hc => ?_) (fun hc => ?_) <;> first | (exact absurd hc (by decide)) | ((try simp only [CNL] at hc) <;> first | (exfalso; omega) | (exact (tf (by assumption) hc).elim) | (exact (tf hc (by assumption)).elim) | skip))
  | ((with_reducible refine And.intro (fun hp => ?_) (fun hp => ?_)) <;> first | (exact absurd hp (by decide)) | ((try simp only [CNL] at hp) <;> first | (exfalso; omega) | (exact (tf (by assumption) hp).elim) | (exact (tf hp (by assumption)).elim) | skip))
  | ((with_reducible refine And.intro ?_ ?_); focus (first | omega | exact u8_le _ | exact flat_intK _ | exact flat_bytK _ | (fail) | decide | (simp only [List.length_map]; done)))
  | ((with_reducible refine ex_p ?_ (fun hh => ?_)); focus (first | omega | (simp only [List.length_map]; omega)))
  | (with_reducible refine skip_k ?_) | (with_reducible refine exit_k ?_) | (with_reducible refine ret_k ?_)
  | ((with_reducible refine hK _ _ _ ?_); clear hK hE hT; clear K) | ((with_reducible refine hE _ _ _ _ ?_); (first | (clear hK hE hT; clear K) | (clear hR hE hT; clear K) | skip); try simp only [Nat.reduceEqDiff, if_true, if_false, reduceIte]) | ((with_reducible refine hT _ _ _ ?_); (first | (clear hK hE hT; clear K) | (clear hR hE hT; clear K) | skip))
  | ((with_reducible apply_assumption -symm -exfalso); try simp only [Nat.reduceEqDiff, if_true, if_false, reduceIte])
  | fail)
    all_goals (refine post_a hres (.inl rfl) ?_; simp only [resvs, resv, stepK, pureK, memK, appK, binK, arithK, shiftK, inI, cellsOf, partS, splice, fillS, partsOf, srcOf, isFlat, hget, impC, cvD, dcOf, dcsOf, dcssOf, chunk, onOps, tmpOf, Op.operands, Call.operands, evS, svOf, Nat.reduceAdd, Nat.reduceSub, Nat.reduceMul, Nat.reduceLeDiff, Nat.reduceBEq, Nat.reduceBNe, Nat.reduceEqDiff, Nat.reduceLT, reduceIte, reduceCtorEq, Int.reduceToNat, tiAll, ENL, strK, rowB_inj, true_and, exists_eq_left']; simp only [vwAll, vwMore, matSs, matS, matC, matL, matT, matH, matB, hget, vwFrom, vwGet, svRes, Nat.reduceEqDiff, Nat.reduceAdd, reduceIte, reduceCtorEq, MAL]; refine ⟨rfl, rfl, ?_, ?_, ?_⟩ <;> (first | rfl | (simp [wfs, wfc, wkH, wkB, wfb, vwl, hget, SV.map, Blk.map, mcv, Nat.add_comm, true_and]; done) | (simp only [wfs, wfc, wkSl, wkH, wkB, wfs, wfc, wfb, SV.map, Blk.map, mcv, vwl, hget, Nat.reduceEqDiff, reduceIte, WKL, List.forall_mem_cons, List.not_mem_nil, false_implies, implies_true])))
  | true =>
    rw [ho] at c1
    have c2 := implviews_k g r v hg hr (runOk_evals ho)
    by_cases hv : 0 ≤ v ∧ v < g.N
    · have e1 : lViews g r v = viewsV g r v := by unfold lViews viewsOk; rw [ho, decide_eq_true hv]; rfl
      have e2 : lIs g r v = viewsI g v := by unfold lIs viewsOk; rw [ho, decide_eq_true hv]; rfl
      rw [e1, e2]
      have q1 := viewsV_len g r v
      have q2 := viewsI_len g v
      obtain ⟨h0, h1, h2⟩ := hr
      refine fnOK_of true mixed Try.func38 rfl (by rfl) (by rfl) ?_
      have hres := congrArg Array.toList Try.results38
      simp only [Try.ntmps38, List.length_cons, List.length_nil, Nat.reduceAdd, Nat.reduceSub, List.replicate_succ, List.replicate_zero, List.cons_append, List.nil_append]
      repeat' (first
  | (with_reducible refine seq_k fun K hK hE hT => ?_)
  | (with_reducible refine block_k fun K hK hE hT => ?_)
  | (with_reducible refine region_k ?_)
  | (with_reducible refine draw_k ?_)
  | (with_reducible refine lex_nil ?_)
  | ((with_reducible first | refine lex_move ?_ | refine lex_assign ?_); simp only [evS, svOf, putS, hputs, hput, Nat.reduceEqDiff, reduceIte, EVL])
  | (with_reducible refine lex_cons fun KS hKS => ?_)
  | (with_reducible refine lexd_cons fun KS hKS => ?_)
  | ((with_reducible refine call_go ?_); (first | ((first | refine call_a (c1) rfl rfl ?_ | refine call_a (c2) rfl rfl ?_); simp only [stepK, pureK, memK, appK, binK, arithK, shiftK, inI, cellsOf, partS, splice, fillS, partsOf, srcOf, isFlat, hget, impC, cvD, dcOf, dcsOf, dcssOf, chunk, onOps, tmpOf, Op.operands, Call.operands, evS, svOf, Nat.reduceAdd, Nat.reduceSub, Nat.reduceMul, Nat.reduceLeDiff, Nat.reduceBEq, Nat.reduceBNe, Nat.reduceEqDiff, Nat.reduceLT, reduceIte, reduceCtorEq, Int.reduceToNat, tiAll, ENL, strK, rowB_inj, List.length_map]; simp only [vwAll, vwMore, matSs, matS, matC, matL, matT, matH, matB, hget, vwFrom, vwGet, svRes, Nat.reduceEqDiff, Nat.reduceAdd, reduceIte, reduceCtorEq, MAL]; refine ⟨rfl, ?_, ?_, ?_, rfl, ?_, ?_, (by dsimp only; omega), ?_⟩; (focus (first | rfl | (simp [SV.map, mcv, vwl, List.length_map]; done) | (simp [SV.map, mcv, vwl, List.length_map]; omega))); (focus (simp [argsW, wfs, wfc, vwl])); (focus (simp [preL, preOK, vwl, hget, Blk.own, wfb, wfc, Blk.map, mcv, map_take, List.take_of_length_le, List.length_map]; done)); (focus (simp [domL, Vw.blk, hget])); (focus (simp [ownL, Blk.own])); simp only [Con.effAt, rcv, rid, vwl, SV.map, Blk.map, Vw.blk, Nat.reduceSub, Nat.reduceAdd, Nat.reduceLT, reduceIte, EFL]) | fail))
  | ((with_reducible refine step_go ?_); (fail_if_success with_reducible refine call_go ?_); simp only [stepK, pureK, memK, appK, binK, arithK, shiftK, inI, cellsOf, partS, splice, fillS, partsOf, srcOf, isFlat, hget, impC, cvD, dcOf, dcsOf, dcssOf, chunk, onOps, tmpOf, Op.operands, Call.operands, evS, svOf, Nat.reduceAdd, Nat.reduceSub, Nat.reduceMul, Nat.reduceLeDiff, Nat.reduceBEq, Nat.reduceBNe, Nat.reduceEqDiff, Nat.reduceLT, reduceIte, reduceCtorEq, Int.reduceToNat, tiAll, ENL, strK, rowB_inj, List.length_map])
  | ((with_reducible refine lexd_nil ?_ ?_); focus (first | kernel_rfl | with_unfolding_all rfl))
  | (((with_reducible refine guard_go ?_); refine lex_guard rfl rfl (fun hg KS hKS => ?_) (fun hg => ?_)) <;> first | (exact absurd hg (by decide)) | ((try simp only [CNL] at hg) <;> first | (exfalso; omega) | (exact (tf (by assumption) hg).elim) | (exact (tf hg (by assumption)).elim) | ((try with_reducible (have hT0 : True := hg; clear hT0 hg)); try simp only [evS, svOf, putS, hputs, hput, Nat.reduceEqDiff, reduceIte, EVL])))
  | (((with_reducible refine guardd_go ?_); refine lexd_guard rfl rfl (fun hg KS hKS => ?_) (fun hg => ?_)) <;> first | (exact absurd hg (by decide)) | ((try simp only [CNL] at hg) <;> first | (exfalso; omega) | (exact (tf (by assumption) hg).elim) | (exact (tf hg (by assumption)).elim) | ((try with_reducible (have hT0 : True := hg; clear hT0 hg)); try simp only [evS, svOf, putS, hputs, hput, Nat.reduceEqDiff, reduceIte, EVL])))
  | ((with_reducible refine hKS _ _ _ _ ?_); clear hKS; clear KS; simp only [evS, svOf, putS, hputs, hput, Nat.reduceEqDiff, reduceIte, EVL])
  | ((with_reducible refine cond_go ?_); refine cond_k rfl (fun hc => ?_) (fun hc => ?_) <;> first | (exact absurd hc (by decide)) | ((try simp only [CNL] at hc) <;> first | (exfalso; omega) | (exact (tf (by assumption) hc).elim) | (exact (tf hc (by assumption)).elim) | skip))
  | ((with_reducible refine And.intro (fun hp => ?_) (fun hp => ?_)) <;> first | (exact absurd hp (by decide)) | ((try simp only [CNL] at hp) <;> first | (exfalso; omega) | (exact (tf (by assumption) hp).elim) | (exact (tf hp (by assumption)).elim) | skip))
  | ((with_reducible refine And.intro ?_ ?_); focus (first | omega | exact u8_le _ | exact flat_intK _ | exact flat_bytK _ | (fail) | decide | (simp only [List.length_map]; done)))
  | ((with_reducible refine ex_p ?_ (fun hh => ?_)); focus (first | omega | (simp only [List.length_map]; omega)))
  | (with_reducible refine skip_k ?_) | (with_reducible refine exit_k ?_) | (with_reducible refine ret_k ?_)
  | ((with_reducible refine hK _ _ _ ?_); clear hK hE hT; clear K) | ((with_reducible refine hE _ _ _ _ ?_); (first | (clear hK hE hT; clear K) | (clear hR hE hT; clear K) | skip); try simp only [Nat.reduceEqDiff, if_true, if_false, reduceIte]) | ((with_reducible refine hT _ _ _ ?_); (first | (clear hK hE hT; clear K) | (clear hR hE hT; clear K) | skip))
  | ((with_reducible apply_assumption -symm -exfalso); try simp only [Nat.reduceEqDiff, if_true, if_false, reduceIte])
  | fail)
      all_goals (refine post_a hres (.inl rfl) ?_; simp only [resvs, resv, stepK, pureK, memK, appK, binK, arithK, shiftK, inI, cellsOf, partS, splice, fillS, partsOf, srcOf, isFlat, hget, impC, cvD, dcOf, dcsOf, dcssOf, chunk, onOps, tmpOf, Op.operands, Call.operands, evS, svOf, Nat.reduceAdd, Nat.reduceSub, Nat.reduceMul, Nat.reduceLeDiff, Nat.reduceBEq, Nat.reduceBNe, Nat.reduceEqDiff, Nat.reduceLT, reduceIte, reduceCtorEq, Int.reduceToNat, tiAll, ENL, strK, rowB_inj, true_and, exists_eq_left']; simp only [vwAll, vwMore, matSs, matS, matC, matL, matT, matH, matB, hget, vwFrom, vwGet, svRes, Nat.reduceEqDiff, Nat.reduceAdd, reduceIte, reduceCtorEq, MAL]; refine ⟨rfl, rfl, ?_, ?_, ?_⟩ <;> (first | rfl | (simp [wfs, wfc, wkH, wkB, wfb, vwl, hget, SV.map, Blk.map, mcv, Nat.add_comm, true_and]; done) | (simp only [wfs, wfc, wkSl, wkH, wkB, wfs, wfc, wfb, SV.map, Blk.map, mcv, vwl, hget, Nat.reduceEqDiff, reduceIte, WKL, List.forall_mem_cons, List.not_mem_nil, false_implies, implies_true])))
    · have e1 : lViews g r v = [] := by unfold lViews viewsOk; rw [ho, decide_eq_false hv]; rfl
      have e2 : lIs g r v = [] := by unfold lIs viewsOk; rw [ho, decide_eq_false hv]; rfl
      rw [e1, e2]
      obtain ⟨h0, h1, h2⟩ := hr
      refine fnOK_of true mixed Try.func38 rfl (by rfl) (by rfl) ?_
      have hres := congrArg Array.toList Try.results38
      simp only [Try.ntmps38, List.length_cons, List.length_nil, Nat.reduceAdd, Nat.reduceSub, List.replicate_succ, List.replicate_zero, List.cons_append, List.nil_append]
      repeat' (first
  | (with_reducible refine seq_k fun K hK hE hT => ?_)
  | (with_reducible refine block_k fun K hK hE hT => ?_)
  | (with_reducible refine region_k ?_)
  | (with_reducible refine draw_k ?_)
  | (with_reducible refine lex_nil ?_)
  | ((with_reducible first | refine lex_move ?_ | refine lex_assign ?_); simp only [evS, svOf, putS, hputs, hput, Nat.reduceEqDiff, reduceIte, EVL])
  | (with_reducible refine lex_cons fun KS hKS => ?_)
  | (with_reducible refine lexd_cons fun KS hKS => ?_)
  | ((with_reducible refine call_go ?_); (first | ((first | refine call_a (c1) rfl rfl ?_); simp only [stepK, pureK, memK, appK, binK, arithK, shiftK, inI, cellsOf, partS, splice, fillS, partsOf, srcOf, isFlat, hget, impC, cvD, dcOf, dcsOf, dcssOf, chunk, onOps, tmpOf, Op.operands, Call.operands, evS, svOf, Nat.reduceAdd, Nat.reduceSub, Nat.reduceMul, Nat.reduceLeDiff, Nat.reduceBEq, Nat.reduceBNe, Nat.reduceEqDiff, Nat.reduceLT, reduceIte, reduceCtorEq, Int.reduceToNat, tiAll, ENL, strK, rowB_inj, List.length_map]; simp only [vwAll, vwMore, matSs, matS, matC, matL, matT, matH, matB, hget, vwFrom, vwGet, svRes, Nat.reduceEqDiff, Nat.reduceAdd, reduceIte, reduceCtorEq, MAL]; refine ⟨rfl, ?_, ?_, ?_, rfl, ?_, ?_, (by dsimp only; omega), ?_⟩; (focus (first | rfl | (simp [SV.map, mcv, vwl, List.length_map]; done) | (simp [SV.map, mcv, vwl, List.length_map]; omega))); (focus (simp [argsW, wfs, wfc, vwl])); (focus (simp [preL, preOK, vwl, hget, Blk.own, wfb, wfc, Blk.map, mcv, map_take, List.take_of_length_le, List.length_map]; done)); (focus (simp [domL, Vw.blk, hget])); (focus (simp [ownL, Blk.own])); simp only [Con.effAt, rcv, rid, vwl, SV.map, Blk.map, Vw.blk, Nat.reduceSub, Nat.reduceAdd, Nat.reduceLT, reduceIte, EFL]) | fail))
  | ((with_reducible refine step_go ?_); (fail_if_success with_reducible refine call_go ?_); simp only [stepK, pureK, memK, appK, binK, arithK, shiftK, inI, cellsOf, partS, splice, fillS, partsOf, srcOf, isFlat, hget, impC, cvD, dcOf, dcsOf, dcssOf, chunk, onOps, tmpOf, Op.operands, Call.operands, evS, svOf, Nat.reduceAdd, Nat.reduceSub, Nat.reduceMul, Nat.reduceLeDiff, Nat.reduceBEq, Nat.reduceBNe, Nat.reduceEqDiff, Nat.reduceLT, reduceIte, reduceCtorEq, Int.reduceToNat, tiAll, ENL, strK, rowB_inj, List.length_map])
  | ((with_reducible refine lexd_nil ?_ ?_); focus (first | kernel_rfl | with_unfolding_all rfl))
  | (((with_reducible refine guard_go ?_); refine lex_guard rfl rfl (fun hg KS hKS => ?_) (fun hg => ?_)) <;> first | (exact absurd hg (by decide)) | ((try simp only [CNL] at hg) <;> first | (exfalso; omega) | (exact (tf (by assumption) hg).elim) | (exact (tf hg (by assumption)).elim) | ((try with_reducible (have hT0 : True := hg; clear hT0 hg)); try simp only [evS, svOf, putS, hputs, hput, Nat.reduceEqDiff, reduceIte, EVL])))
  | (((with_reducible refine guardd_go ?_); refine lexd_guard rfl rfl (fun hg KS hKS => ?_) (fun hg => ?_)) <;> first | (exact absurd hg (by decide)) | ((try simp only [CNL] at hg) <;> first | (exfalso; omega) | (exact (tf (by assumption) hg).elim) | (exact (tf hg (by assumption)).elim) | ((try with_reducible (have hT0 : True := hg; clear hT0 hg)); try simp only [evS, svOf, putS, hputs, hput, Nat.reduceEqDiff, reduceIte, EVL])))
  | ((with_reducible refine hKS _ _ _ _ ?_); clear hKS; clear KS; simp only [evS, svOf, putS, hputs, hput, Nat.reduceEqDiff, reduceIte, EVL])
  | ((with_reducible refine cond_go ?_); refine cond_k rfl (fun hc => ?_) (fun hc => ?_) <;> first | (exact absurd hc (by decide)) | ((try simp only [CNL] at hc) <;> first | (exfalso; omega) | (exact (tf (by assumption) hc).elim) | (exact (tf hc (by assumption)).elim) | skip))
  | ((with_reducible refine And.intro (fun hp => ?_) (fun hp => ?_)) <;> first | (exact absurd hp (by decide)) | ((try simp only [CNL] at hp) <;> first | (exfalso; omega) | (exact (tf (by assumption) hp).elim) | (exact (tf hp (by assumption)).elim) | skip))
  | ((with_reducible refine And.intro ?_ ?_); focus (first | omega | exact u8_le _ | exact flat_intK _ | exact flat_bytK _ | (fail) | decide | (simp only [List.length_map]; done)))
  | ((with_reducible refine ex_p ?_ (fun hh => ?_)); focus (first | omega | (simp only [List.length_map]; omega)))
  | (with_reducible refine skip_k ?_) | (with_reducible refine exit_k ?_) | (with_reducible refine ret_k ?_)
  | ((with_reducible refine hK _ _ _ ?_); clear hK hE hT; clear K) | ((with_reducible refine hE _ _ _ _ ?_); (first | (clear hK hE hT; clear K) | (clear hR hE hT; clear K) | skip); try simp only [Nat.reduceEqDiff, if_true, if_false, reduceIte]) | ((with_reducible refine hT _ _ _ ?_); (first | (clear hK hE hT; clear K) | (clear hR hE hT; clear K) | skip))
  | ((with_reducible apply_assumption -symm -exfalso); try simp only [Nat.reduceEqDiff, if_true, if_false, reduceIte])
  | fail)
      all_goals (refine post_a hres (.inl rfl) ?_; simp only [resvs, resv, stepK, pureK, memK, appK, binK, arithK, shiftK, inI, cellsOf, partS, splice, fillS, partsOf, srcOf, isFlat, hget, impC, cvD, dcOf, dcsOf, dcssOf, chunk, onOps, tmpOf, Op.operands, Call.operands, evS, svOf, Nat.reduceAdd, Nat.reduceSub, Nat.reduceMul, Nat.reduceLeDiff, Nat.reduceBEq, Nat.reduceBNe, Nat.reduceEqDiff, Nat.reduceLT, reduceIte, reduceCtorEq, Int.reduceToNat, tiAll, ENL, strK, rowB_inj, true_and, exists_eq_left']; simp only [vwAll, vwMore, matSs, matS, matC, matL, matT, matH, matB, hget, vwFrom, vwGet, svRes, Nat.reduceEqDiff, Nat.reduceAdd, reduceIte, reduceCtorEq, MAL]; refine ⟨rfl, rfl, ?_, ?_, ?_⟩ <;> (first | rfl | (simp [wfs, wfc, wkH, wkB, wfb, vwl, hget, SV.map, Blk.map, mcv, Nat.add_comm, true_and]; done) | (simp only [wfs, wfc, wkSl, wkH, wkB, wfs, wfc, wfb, SV.map, Blk.map, mcv, vwl, hget, Nat.reduceEqDiff, reduceIte, WKL, List.forall_mem_cons, List.not_mem_nil, false_implies, implies_true])))

set_option maxHeartbeats 4000000 in
theorem specViews_k (g : GraphD) (r : RunD) (v : Int) (hg : (g.Edges).length ≤ 1048576) (hr : (r.Vals).length ≤ 1048576 ∧ (r.EVals).length ≤ 1048576 ∧ (r.Next.Bits).length ≤ 1048576) : FnOK Try.prog 36 ⟨4, [(0, some (.ro ((g.Edges).map EdgeD.k))), (1, some (.ro ((r.Vals).map intK))), (2, some (.ro ((r.EVals).map intK))), (3, some (.ro ((r.Next.Bits).map bytK)))], [.agg [.v (.int .i64 g.N), .sl 0 3 0 (g.Edges).length], .agg [.v (.int .i64 r.Job.Prog), .v (.int .i64 r.Job.Src), .v (.int .i64 r.Iter), .v (.bool r.Done), .sl 1 1 0 (r.Vals).length, .sl 2 1 0 (r.EVals).length, .v (.int .i64 r.Next.N), .sl 3 1 0 (r.Next.Bits).length], .c (.v (.int .i64 v))], .tup [.inl (.sl 4 4 0 (lViews g r v).length), .inl (.sl 5 1 0 (lIs g r v).length)],
    [(4, some (.row 118 ((lViews g r v).map ViewD.k))), (5, some (.row 3 ((lIs g r v).map intK)))], 6⟩ := by
  have c1 := specRunOk_k g r hg hr
  cases ho : runOk g r with
  | false =>
    rw [ho] at c1
    have e1 : lViews g r v = [] := by unfold lViews viewsOk; rw [ho]; rfl
    have e2 : lIs g r v = [] := by unfold lIs viewsOk; rw [ho]; rfl
    rw [e1, e2]
    obtain ⟨h0, h1, h2⟩ := hr
    refine fnOK_of true mixed Try.func36 rfl (by rfl) (by rfl) ?_
    have hres := congrArg Array.toList Try.results36
    simp only [Try.ntmps36, List.length_cons, List.length_nil, Nat.reduceAdd, Nat.reduceSub, List.replicate_succ, List.replicate_zero, List.cons_append, List.nil_append]
    repeat' (first
  | (with_reducible refine seq_k fun K hK hE hT => ?_)
  | (with_reducible refine block_k fun K hK hE hT => ?_)
  | (with_reducible refine region_k ?_)
  | (with_reducible refine draw_k ?_)
  | (with_reducible refine lex_nil ?_)
  | ((with_reducible first | refine lex_move ?_ | refine lex_assign ?_); simp only [evS, svOf, putS, hputs, hput, Nat.reduceEqDiff, reduceIte, EVL])
  | (with_reducible refine lex_cons fun KS hKS => ?_)
  | (with_reducible refine lexd_cons fun KS hKS => ?_)
  | ((with_reducible refine call_go ?_); (first | ((first | refine call_a (c1) rfl rfl ?_); simp only [stepK, pureK, memK, appK, binK, arithK, shiftK, inI, cellsOf, partS, splice, fillS, partsOf, srcOf, isFlat, hget, impC, cvD, dcOf, dcsOf, dcssOf, chunk, onOps, tmpOf, Op.operands, Call.operands, evS, svOf, Nat.reduceAdd, Nat.reduceSub, Nat.reduceMul, Nat.reduceLeDiff, Nat.reduceBEq, Nat.reduceBNe, Nat.reduceEqDiff, Nat.reduceLT, reduceIte, reduceCtorEq, Int.reduceToNat, tiAll, ENL, strK, rowB_inj, List.length_map]; simp only [vwAll, vwMore, matSs, matS, matC, matL, matT, matH, matB, hget, vwFrom, vwGet, svRes, Nat.reduceEqDiff, Nat.reduceAdd, reduceIte, reduceCtorEq, MAL]; refine ⟨rfl, ?_, ?_, ?_, rfl, ?_, ?_, (by dsimp only; omega), ?_⟩; (focus (first | rfl | (simp [SV.map, mcv, vwl, List.length_map]; done) | (simp [SV.map, mcv, vwl, List.length_map]; omega))); (focus (simp [argsW, wfs, wfc, vwl])); (focus (simp [preL, preOK, vwl, hget, Blk.own, wfb, wfc, Blk.map, mcv, map_take, List.take_of_length_le, List.length_map]; done)); (focus (simp [domL, Vw.blk, hget])); (focus (simp [ownL, Blk.own])); simp only [Con.effAt, rcv, rid, vwl, SV.map, Blk.map, Vw.blk, Nat.reduceSub, Nat.reduceAdd, Nat.reduceLT, reduceIte, EFL]) | fail))
  | ((with_reducible refine step_go ?_); (fail_if_success with_reducible refine call_go ?_); simp only [stepK, pureK, memK, appK, binK, arithK, shiftK, inI, cellsOf, partS, splice, fillS, partsOf, srcOf, isFlat, hget, impC, cvD, dcOf, dcsOf, dcssOf, chunk, onOps, tmpOf, Op.operands, Call.operands, evS, svOf, Nat.reduceAdd, Nat.reduceSub, Nat.reduceMul, Nat.reduceLeDiff, Nat.reduceBEq, Nat.reduceBNe, Nat.reduceEqDiff, Nat.reduceLT, reduceIte, reduceCtorEq, Int.reduceToNat, tiAll, ENL, strK, rowB_inj, List.length_map])
  | ((with_reducible refine lexd_nil ?_ ?_); focus (first | kernel_rfl | with_unfolding_all rfl))
  | (((with_reducible refine guard_go ?_); refine lex_guard rfl rfl (fun hg KS hKS => ?_) (fun hg => ?_)) <;> first | (exact absurd hg (by decide)) | ((try simp only [CNL] at hg) <;> first | (exfalso; omega) | (exact (tf (by assumption) hg).elim) | (exact (tf hg (by assumption)).elim) | ((try with_reducible (have hT0 : True := hg; clear hT0 hg)); try simp only [evS, svOf, putS, hputs, hput, Nat.reduceEqDiff, reduceIte, EVL])))
  | (((with_reducible refine guardd_go ?_); refine lexd_guard rfl rfl (fun hg KS hKS => ?_) (fun hg => ?_)) <;> first | (exact absurd hg (by decide)) | ((try simp only [CNL] at hg) <;> first | (exfalso; omega) | (exact (tf (by assumption) hg).elim) | (exact (tf hg (by assumption)).elim) | ((try with_reducible (have hT0 : True := hg; clear hT0 hg)); try simp only [evS, svOf, putS, hputs, hput, Nat.reduceEqDiff, reduceIte, EVL])))
  | ((with_reducible refine hKS _ _ _ _ ?_); clear hKS; clear KS; simp only [evS, svOf, putS, hputs, hput, Nat.reduceEqDiff, reduceIte, EVL])
  | ((with_reducible refine cond_go ?_); refine cond_k rfl (fun hc => ?_) (fun hc => ?_) <;> first | (exact absurd hc (by decide)) | ((try simp only [CNL] at hc) <;> first | (exfalso; omega) | (exact (tf (by assumption) hc).elim) | (exact (tf hc (by assumption)).elim) | skip))
  | ((with_reducible refine And.intro (fun hp => ?_) (fun hp => ?_)) <;> first | (exact absurd hp (by decide)) | ((try simp only [CNL] at hp) <;> first | (exfalso; omega) | (exact (tf (by assumption) hp).elim) | (exact (tf hp (by assumption)).elim) | skip))
  | ((with_reducible refine And.intro ?_ ?_); focus (first | omega | exact u8_le _ | exact flat_intK _ | exact flat_bytK _ | (fail) | decide | (simp only [List.length_map]; done)))
  | ((with_reducible refine ex_p ?_ (fun hh => ?_)); focus (first | omega | (simp only [List.length_map]; omega)))
  | (with_reducible refine skip_k ?_) | (with_reducible refine exit_k ?_) | (with_reducible refine ret_k ?_)
  | ((with_reducible refine hK _ _ _ ?_); clear hK hE hT; clear K) | ((with_reducible refine hE _ _ _ _ ?_); (first | (clear hK hE hT; clear K) | (clear hR hE hT; clear K) | skip); try simp only [Nat.reduceEqDiff, if_true, if_false, reduceIte]) | ((with_reducible refine hT _ _ _ ?_); (first | (clear hK hE hT; clear K) | (clear hR hE hT; clear K) | skip))
  | ((with_reducible apply_assumption -symm -exfalso); try simp only [Nat.reduceEqDiff, if_true, if_false, reduceIte])
  | fail)
    all_goals (refine post_a hres (.inl rfl) ?_; simp only [resvs, resv, stepK, pureK, memK, appK, binK, arithK, shiftK, inI, cellsOf, partS, splice, fillS, partsOf, srcOf, isFlat, hget, impC, cvD, dcOf, dcsOf, dcssOf, chunk, onOps, tmpOf, Op.operands, Call.operands, evS, svOf, Nat.reduceAdd, Nat.reduceSub, Nat.reduceMul, Nat.reduceLeDiff, Nat.reduceBEq, Nat.reduceBNe, Nat.reduceEqDiff, Nat.reduceLT, reduceIte, reduceCtorEq, Int.reduceToNat, tiAll, ENL, strK, rowB_inj, true_and, exists_eq_left']; simp only [vwAll, vwMore, matSs, matS, matC, matL, matT, matH, matB, hget, vwFrom, vwGet, svRes, Nat.reduceEqDiff, Nat.reduceAdd, reduceIte, reduceCtorEq, MAL]; refine ⟨rfl, rfl, ?_, ?_, ?_⟩ <;> (first | rfl | (simp [wfs, wfc, wkH, wkB, wfb, vwl, hget, SV.map, Blk.map, mcv, Nat.add_comm, true_and]; done) | (simp only [wfs, wfc, wkSl, wkH, wkB, wfs, wfc, wfb, SV.map, Blk.map, mcv, vwl, hget, Nat.reduceEqDiff, reduceIte, WKL, List.forall_mem_cons, List.not_mem_nil, false_implies, implies_true])))
  | true =>
    rw [ho] at c1
    have c2 := specl11Views_k g r v hg hr (runOk_evals ho)
    by_cases hv : 0 ≤ v ∧ v < g.N
    · have e1 : lViews g r v = viewsV g r v := by unfold lViews viewsOk; rw [ho, decide_eq_true hv]; rfl
      have e2 : lIs g r v = viewsI g v := by unfold lIs viewsOk; rw [ho, decide_eq_true hv]; rfl
      rw [e1, e2]
      have q1 := viewsV_len g r v
      have q2 := viewsI_len g v
      obtain ⟨h0, h1, h2⟩ := hr
      refine fnOK_of true mixed Try.func36 rfl (by rfl) (by rfl) ?_
      have hres := congrArg Array.toList Try.results36
      simp only [Try.ntmps36, List.length_cons, List.length_nil, Nat.reduceAdd, Nat.reduceSub, List.replicate_succ, List.replicate_zero, List.cons_append, List.nil_append]
      repeat' (first
  | (with_reducible refine seq_k fun K hK hE hT => ?_)
  | (with_reducible refine block_k fun K hK hE hT => ?_)
  | (with_reducible refine region_k ?_)
  | (with_reducible refine draw_k ?_)
  | (with_reducible refine lex_nil ?_)
  | ((with_reducible first | refine lex_move ?_ | refine lex_assign ?_); simp only [evS, svOf, putS, hputs, hput, Nat.reduceEqDiff, reduceIte, EVL])
  | (with_reducible refine lex_cons fun KS hKS => ?_)
  | (with_reducible refine lexd_cons fun KS hKS => ?_)
  | ((with_reducible refine call_go ?_); (first | ((first | refine call_a (c1) rfl rfl ?_ | refine call_a (c2) rfl rfl ?_); simp only [stepK, pureK, memK, appK, binK, arithK, shiftK, inI, cellsOf, partS, splice, fillS, partsOf, srcOf, isFlat, hget, impC, cvD, dcOf, dcsOf, dcssOf, chunk, onOps, tmpOf, Op.operands, Call.operands, evS, svOf, Nat.reduceAdd, Nat.reduceSub, Nat.reduceMul, Nat.reduceLeDiff, Nat.reduceBEq, Nat.reduceBNe, Nat.reduceEqDiff, Nat.reduceLT, reduceIte, reduceCtorEq, Int.reduceToNat, tiAll, ENL, strK, rowB_inj, List.length_map]; simp only [vwAll, vwMore, matSs, matS, matC, matL, matT, matH, matB, hget, vwFrom, vwGet, svRes, Nat.reduceEqDiff, Nat.reduceAdd, reduceIte, reduceCtorEq, MAL]; refine ⟨rfl, ?_, ?_, ?_, rfl, ?_, ?_, (by dsimp only; omega), ?_⟩; (focus (first | rfl | (simp [SV.map, mcv, vwl, List.length_map]; done) | (simp [SV.map, mcv, vwl, List.length_map]; omega))); (focus (simp [argsW, wfs, wfc, vwl])); (focus (simp [preL, preOK, vwl, hget, Blk.own, wfb, wfc, Blk.map, mcv, map_take, List.take_of_length_le, List.length_map]; done)); (focus (simp [domL, Vw.blk, hget])); (focus (simp [ownL, Blk.own])); simp only [Con.effAt, rcv, rid, vwl, SV.map, Blk.map, Vw.blk, Nat.reduceSub, Nat.reduceAdd, Nat.reduceLT, reduceIte, EFL]) | fail))
  | ((with_reducible refine step_go ?_); (fail_if_success with_reducible refine call_go ?_); simp only [stepK, pureK, memK, appK, binK, arithK, shiftK, inI, cellsOf, partS, splice, fillS, partsOf, srcOf, isFlat, hget, impC, cvD, dcOf, dcsOf, dcssOf, chunk, onOps, tmpOf, Op.operands, Call.operands, evS, svOf, Nat.reduceAdd, Nat.reduceSub, Nat.reduceMul, Nat.reduceLeDiff, Nat.reduceBEq, Nat.reduceBNe, Nat.reduceEqDiff, Nat.reduceLT, reduceIte, reduceCtorEq, Int.reduceToNat, tiAll, ENL, strK, rowB_inj, List.length_map])
  | ((with_reducible refine lexd_nil ?_ ?_); focus (first | kernel_rfl | with_unfolding_all rfl))
  | (((with_reducible refine guard_go ?_); refine lex_guard rfl rfl (fun hg KS hKS => ?_) (fun hg => ?_)) <;> first | (exact absurd hg (by decide)) | ((try simp only [CNL] at hg) <;> first | (exfalso; omega) | (exact (tf (by assumption) hg).elim) | (exact (tf hg (by assumption)).elim) | ((try with_reducible (have hT0 : True := hg; clear hT0 hg)); try simp only [evS, svOf, putS, hputs, hput, Nat.reduceEqDiff, reduceIte, EVL])))
  | (((with_reducible refine guardd_go ?_); refine lexd_guard rfl rfl (fun hg KS hKS => ?_) (fun hg => ?_)) <;> first | (exact absurd hg (by decide)) | ((try simp only [CNL] at hg) <;> first | (exfalso; omega) | (exact (tf (by assumption) hg).elim) | (exact (tf hg (by assumption)).elim) | ((try with_reducible (have hT0 : True := hg; clear hT0 hg)); try simp only [evS, svOf, putS, hputs, hput, Nat.reduceEqDiff, reduceIte, EVL])))
  | ((with_reducible refine hKS _ _ _ _ ?_); clear hKS; clear KS; simp only [evS, svOf, putS, hputs, hput, Nat.reduceEqDiff, reduceIte, EVL])
  | ((with_reducible refine cond_go ?_); refine cond_k rfl (fun hc => ?_) (fun hc => ?_) <;> first | (exact absurd hc (by decide)) | ((try simp only [CNL] at hc) <;> first | (exfalso; omega) | (exact (tf (by assumption) hc).elim) | (exact (tf hc (by assumption)).elim) | skip))
  | ((with_reducible refine And.intro (fun hp => ?_) (fun hp => ?_)) <;> first | (exact absurd hp (by decide)) | ((try simp only [CNL] at hp) <;> first | (exfalso; omega) | (exact (tf (by assumption) hp).elim) | (exact (tf hp (by assumption)).elim) | skip))
  | ((with_reducible refine And.intro ?_ ?_); focus (first | omega | exact u8_le _ | exact flat_intK _ | exact flat_bytK _ | (fail) | decide | (simp only [List.length_map]; done)))
  | ((with_reducible refine ex_p ?_ (fun hh => ?_)); focus (first | omega | (simp only [List.length_map]; omega)))
  | (with_reducible refine skip_k ?_) | (with_reducible refine exit_k ?_) | (with_reducible refine ret_k ?_)
  | ((with_reducible refine hK _ _ _ ?_); clear hK hE hT; clear K) | ((with_reducible refine hE _ _ _ _ ?_); (first | (clear hK hE hT; clear K) | (clear hR hE hT; clear K) | skip); try simp only [Nat.reduceEqDiff, if_true, if_false, reduceIte]) | ((with_reducible refine hT _ _ _ ?_); (first | (clear hK hE hT; clear K) | (clear hR hE hT; clear K) | skip))
  | ((with_reducible apply_assumption -symm -exfalso); try simp only [Nat.reduceEqDiff, if_true, if_false, reduceIte])
  | fail)
      all_goals (refine post_a hres (.inl rfl) ?_; simp only [resvs, resv, stepK, pureK, memK, appK, binK, arithK, shiftK, inI, cellsOf, partS, splice, fillS, partsOf, srcOf, isFlat, hget, impC, cvD, dcOf, dcsOf, dcssOf, chunk, onOps, tmpOf, Op.operands, Call.operands, evS, svOf, Nat.reduceAdd, Nat.reduceSub, Nat.reduceMul, Nat.reduceLeDiff, Nat.reduceBEq, Nat.reduceBNe, Nat.reduceEqDiff, Nat.reduceLT, reduceIte, reduceCtorEq, Int.reduceToNat, tiAll, ENL, strK, rowB_inj, true_and, exists_eq_left']; simp only [vwAll, vwMore, matSs, matS, matC, matL, matT, matH, matB, hget, vwFrom, vwGet, svRes, Nat.reduceEqDiff, Nat.reduceAdd, reduceIte, reduceCtorEq, MAL]; refine ⟨rfl, rfl, ?_, ?_, ?_⟩ <;> (first | rfl | (simp [wfs, wfc, wkH, wkB, wfb, vwl, hget, SV.map, Blk.map, mcv, Nat.add_comm, true_and]; done) | (simp only [wfs, wfc, wkSl, wkH, wkB, wfs, wfc, wfb, SV.map, Blk.map, mcv, vwl, hget, Nat.reduceEqDiff, reduceIte, WKL, List.forall_mem_cons, List.not_mem_nil, false_implies, implies_true])))
    · have e1 : lViews g r v = [] := by unfold lViews viewsOk; rw [ho, decide_eq_false hv]; rfl
      have e2 : lIs g r v = [] := by unfold lIs viewsOk; rw [ho, decide_eq_false hv]; rfl
      rw [e1, e2]
      obtain ⟨h0, h1, h2⟩ := hr
      refine fnOK_of true mixed Try.func36 rfl (by rfl) (by rfl) ?_
      have hres := congrArg Array.toList Try.results36
      simp only [Try.ntmps36, List.length_cons, List.length_nil, Nat.reduceAdd, Nat.reduceSub, List.replicate_succ, List.replicate_zero, List.cons_append, List.nil_append]
      repeat' (first
  | (with_reducible refine seq_k fun K hK hE hT => ?_)
  | (with_reducible refine block_k fun K hK hE hT => ?_)
  | (with_reducible refine region_k ?_)
  | (with_reducible refine draw_k ?_)
  | (with_reducible refine lex_nil ?_)
  | ((with_reducible first | refine lex_move ?_ | refine lex_assign ?_); simp only [evS, svOf, putS, hputs, hput, Nat.reduceEqDiff, reduceIte, EVL])
  | (with_reducible refine lex_cons fun KS hKS => ?_)
  | (with_reducible refine lexd_cons fun KS hKS => ?_)
  | ((with_reducible refine call_go ?_); (first | ((first | refine call_a (c1) rfl rfl ?_); simp only [stepK, pureK, memK, appK, binK, arithK, shiftK, inI, cellsOf, partS, splice, fillS, partsOf, srcOf, isFlat, hget, impC, cvD, dcOf, dcsOf, dcssOf, chunk, onOps, tmpOf, Op.operands, Call.operands, evS, svOf, Nat.reduceAdd, Nat.reduceSub, Nat.reduceMul, Nat.reduceLeDiff, Nat.reduceBEq, Nat.reduceBNe, Nat.reduceEqDiff, Nat.reduceLT, reduceIte, reduceCtorEq, Int.reduceToNat, tiAll, ENL, strK, rowB_inj, List.length_map]; simp only [vwAll, vwMore, matSs, matS, matC, matL, matT, matH, matB, hget, vwFrom, vwGet, svRes, Nat.reduceEqDiff, Nat.reduceAdd, reduceIte, reduceCtorEq, MAL]; refine ⟨rfl, ?_, ?_, ?_, rfl, ?_, ?_, (by dsimp only; omega), ?_⟩; (focus (first | rfl | (simp [SV.map, mcv, vwl, List.length_map]; done) | (simp [SV.map, mcv, vwl, List.length_map]; omega))); (focus (simp [argsW, wfs, wfc, vwl])); (focus (simp [preL, preOK, vwl, hget, Blk.own, wfb, wfc, Blk.map, mcv, map_take, List.take_of_length_le, List.length_map]; done)); (focus (simp [domL, Vw.blk, hget])); (focus (simp [ownL, Blk.own])); simp only [Con.effAt, rcv, rid, vwl, SV.map, Blk.map, Vw.blk, Nat.reduceSub, Nat.reduceAdd, Nat.reduceLT, reduceIte, EFL]) | fail))
  | ((with_reducible refine step_go ?_); (fail_if_success with_reducible refine call_go ?_); simp only [stepK, pureK, memK, appK, binK, arithK, shiftK, inI, cellsOf, partS, splice, fillS, partsOf, srcOf, isFlat, hget, impC, cvD, dcOf, dcsOf, dcssOf, chunk, onOps, tmpOf, Op.operands, Call.operands, evS, svOf, Nat.reduceAdd, Nat.reduceSub, Nat.reduceMul, Nat.reduceLeDiff, Nat.reduceBEq, Nat.reduceBNe, Nat.reduceEqDiff, Nat.reduceLT, reduceIte, reduceCtorEq, Int.reduceToNat, tiAll, ENL, strK, rowB_inj, List.length_map])
  | ((with_reducible refine lexd_nil ?_ ?_); focus (first | kernel_rfl | with_unfolding_all rfl))
  | (((with_reducible refine guard_go ?_); refine lex_guard rfl rfl (fun hg KS hKS => ?_) (fun hg => ?_)) <;> first | (exact absurd hg (by decide)) | ((try simp only [CNL] at hg) <;> first | (exfalso; omega) | (exact (tf (by assumption) hg).elim) | (exact (tf hg (by assumption)).elim) | ((try with_reducible (have hT0 : True := hg; clear hT0 hg)); try simp only [evS, svOf, putS, hputs, hput, Nat.reduceEqDiff, reduceIte, EVL])))
  | (((with_reducible refine guardd_go ?_); refine lexd_guard rfl rfl (fun hg KS hKS => ?_) (fun hg => ?_)) <;> first | (exact absurd hg (by decide)) | ((try simp only [CNL] at hg) <;> first | (exfalso; omega) | (exact (tf (by assumption) hg).elim) | (exact (tf hg (by assumption)).elim) | ((try with_reducible (have hT0 : True := hg; clear hT0 hg)); try simp only [evS, svOf, putS, hputs, hput, Nat.reduceEqDiff, reduceIte, EVL])))
  | ((with_reducible refine hKS _ _ _ _ ?_); clear hKS; clear KS; simp only [evS, svOf, putS, hputs, hput, Nat.reduceEqDiff, reduceIte, EVL])
  | ((with_reducible refine cond_go ?_); refine cond_k rfl (fun hc => ?_) (fun hc => ?_) <;> first | (exact absurd hc (by decide)) | ((try simp only [CNL] at hc) <;> first | (exfalso; omega) | (exact (tf (by assumption) hc).elim) | (exact (tf hc (by assumption)).elim) | skip))
  | ((with_reducible refine And.intro (fun hp => ?_) (fun hp => ?_)) <;> first | (exact absurd hp (by decide)) | ((try simp only [CNL] at hp) <;> first | (exfalso; omega) | (exact (tf (by assumption) hp).elim) | (exact (tf hp (by assumption)).elim) | skip))
  | ((with_reducible refine And.intro ?_ ?_); focus (first | omega | exact u8_le _ | exact flat_intK _ | exact flat_bytK _ | (fail) | decide | (simp only [List.length_map]; done)))
  | ((with_reducible refine ex_p ?_ (fun hh => ?_)); focus (first | omega | (simp only [List.length_map]; omega)))
  | (with_reducible refine skip_k ?_) | (with_reducible refine exit_k ?_) | (with_reducible refine ret_k ?_)
  | ((with_reducible refine hK _ _ _ ?_); clear hK hE hT; clear K) | ((with_reducible refine hE _ _ _ _ ?_); (first | (clear hK hE hT; clear K) | (clear hR hE hT; clear K) | skip); try simp only [Nat.reduceEqDiff, if_true, if_false, reduceIte]) | ((with_reducible refine hT _ _ _ ?_); (first | (clear hK hE hT; clear K) | (clear hR hE hT; clear K) | skip))
  | ((with_reducible apply_assumption -symm -exfalso); try simp only [Nat.reduceEqDiff, if_true, if_false, reduceIte])
  | fail)
      all_goals (refine post_a hres (.inl rfl) ?_; simp only [resvs, resv, stepK, pureK, memK, appK, binK, arithK, shiftK, inI, cellsOf, partS, splice, fillS, partsOf, srcOf, isFlat, hget, impC, cvD, dcOf, dcsOf, dcssOf, chunk, onOps, tmpOf, Op.operands, Call.operands, evS, svOf, Nat.reduceAdd, Nat.reduceSub, Nat.reduceMul, Nat.reduceLeDiff, Nat.reduceBEq, Nat.reduceBNe, Nat.reduceEqDiff, Nat.reduceLT, reduceIte, reduceCtorEq, Int.reduceToNat, tiAll, ENL, strK, rowB_inj, true_and, exists_eq_left']; simp only [vwAll, vwMore, matSs, matS, matC, matL, matT, matH, matB, hget, vwFrom, vwGet, svRes, Nat.reduceEqDiff, Nat.reduceAdd, reduceIte, reduceCtorEq, MAL]; refine ⟨rfl, rfl, ?_, ?_, ?_⟩ <;> (first | rfl | (simp [wfs, wfc, wkH, wkB, wfb, vwl, hget, SV.map, Blk.map, mcv, Nat.add_comm, true_and]; done) | (simp only [wfs, wfc, wkSl, wkH, wkB, wfs, wfc, wfb, SV.map, Blk.map, mcv, vwl, hget, Nat.reduceEqDiff, reduceIte, WKL, List.forall_mem_cons, List.not_mem_nil, false_implies, implies_true])))

end Go.Proofs.Ytmdajpgemcaefaa
