/-
  The program's update by labels: it counts in a map, and ranges over it. No conditions of its own.
-/
import Derived.Test.YtmdajpgemcaefaaU1
import Derived.Test.YtmdajpgemcaefaaMC
namespace Go.Proofs.Ytmdajpgemcaefaa
set_option linter.unusedSimpArgs false
set_option linter.unusedVariables false
open Go.RowKit

theorem mtI : MT Try.prog 221 3 3 := ⟨by kernel_rfl, by kernel_rfl, by kernel_rfl, fun w => by kernel_rfl⟩


structure LabX (t : List Int) (val : Int) where
  left : Int → Bool
  cnt : Nat
  p : Int
  m : Int
  most : Rnd (Most t (fun a => a ∈ t ∧ left a = false) val (p, m))
  sub : Rnd (∀ a, left a = true → a ∈ t)

theorem most_next {t : List Int} {val : Int} {left : Int → Bool} {p m z : Int} (h : Most t (fun a => a ∈ t ∧ left a = false) val (p, m)) (hs : ∀ a, left a = true → a ∈ t) (hz : left z = true) :
    Most t (fun a => a ∈ t ∧ (left a && !(a == z)) = false) val (stM t (p, m) z) := by
  refine (h.step (hs z hz) fun b hb => hb.1).same fun a => ?_
  by_cases e : a = z
  · subst e
    simp [hs a hz]
  · simp [e]

theorem labE_rng {n : Int} {x : ViewD} (hn : 0 ≤ n ∧ n ≤ 1099511627776) (hx : viewOk x = true) : 0 ≤ labE n x ∧ labE n x ≤ 1099511627776 := by
  have := viewOk_out hx
  unfold labE
  split <;> split <;> omega

theorem lab_tt {n : Int} {x : ViewD} (h1 : x.In = true) (h2 : x.Out = true) : labE n x = min (n * 1000 + n) 1099511627776 := by unfold labE; simp [h1, h2]
theorem lab_tf {n : Int} {x : ViewD} (h1 : x.In = true) (h2 : x.Out = false) : labE n x = min (x.Val / 1000 * 1000 + n) 1099511627776 := by unfold labE; simp [h1, h2]
theorem lab_ft {n : Int} {x : ViewD} (h1 : x.In = false) (h2 : x.Out = true) : labE n x = min (n * 1000 + x.Val % 1000) 1099511627776 := by unfold labE; simp [h1, h2]
theorem lab_ff {n : Int} {x : ViewD} (h1 : x.In = false) (h2 : x.Out = false) : labE n x = min (x.Val / 1000 * 1000 + x.Val % 1000) 1099511627776 := by unfold labE; simp [h1, h2]

set_option maxHeartbeats 8000000 in
theorem updateLabel_k (val : Int) (l : List ViewD) (hv : 0 ≤ val ∧ val ≤ 1099511627776) (hl : l.length ≤ 400) (ho : l.all viewOk = true) :
    FnOK Try.prog 149 ⟨1, [(0, some (.ro (l.map ViewD.k)))], [.c (.v (.int .i64 val)), .c (.sl 0 4 0 l.length)], .tup [.inl (.v (.int .i64 (mostOf (told l) val))), .inl (.sl 1 1 0 (l.map (labE (mostOf (told l) val))).length)],
      [(1, some (.row 3 ((l.map (labE (mostOf (told l) val))).map intK)))], 2⟩ := by
  refine fnOK_of true mixed Try.func149 rfl (by rfl) (by rfl) ?_
  have hres := congrArg Array.toList Try.results149
  simp only [Try.ntmps149, List.length_cons, List.length_nil, Nat.reduceAdd, Nat.reduceSub, List.replicate_succ, List.replicate_zero, List.cons_append, List.nil_append]
  repeat' (first
  | (with_reducible first | refine seq_k fun K hK hE hT => ?_ | refine block_k fun K hK hE hT => ?_ | refine region_k ?_ | refine lex_nil ?_ | fail)
  | ((with_reducible refine draw_k ?_ ?_); focus (first | rfl | kernel_rfl))
  | ((with_reducible first | refine lex_move ?_ | refine lex_assign ?_); simp only [EVB, Nat.reduceEqDiff, reduceIte])
  | (with_reducible first | refine lex_cons fun KS hKS => ?_ | refine lexd_cons fun KS hKS => ?_ | fail)
  | ((with_reducible refine call_go ?_); fail)
  | ((with_reducible refine step_go ?_); (fail_if_success with_reducible refine call_go ?_); simp only [ENB, Nat.reduceAdd, Nat.reduceSub, Nat.reduceMul, Nat.reduceLeDiff, Nat.reduceBEq, Nat.reduceBNe, Nat.reduceEqDiff, Nat.reduceLT, reduceIte, reduceCtorEq, Int.reduceToNat, tiAll, true_and])
  | ((with_reducible refine lexd_nil ?_ ?_); focus (first | kernel_rfl | with_unfolding_all rfl))
  | ((with_reducible refine guard_go ?_); refine lex_gone rfl rfl ?_; simp only [EVB, Nat.reduceEqDiff, reduceIte])
  | ((first | ((with_reducible refine guard_go ?_); refine lex_guard rfl rfl (fun hg KS hKS => ?_) (fun hg => ?_)) | ((with_reducible refine guardd_go ?_); refine lexd_guard rfl rfl (fun hg KS hKS => ?_) (fun hg => ?_)) | fail) <;> first | (exact absurd hg (by decide)) | ((try simp only [CNL] at hg) <;> first | (exfalso; omega) | (exact (tf (by assumption) hg).elim) | (exact (tf hg (by assumption)).elim) | ((try with_reducible (have hT0 : True := hg; clear hT0 hg)); try simp only [EVB, Nat.reduceEqDiff, reduceIte])))
  | ((with_reducible refine hKS _ _ _ _ ?_); clear hKS; clear KS; simp only [EVB, Nat.reduceEqDiff, reduceIte])
  | ((first | ((with_reducible refine cond_go ?_); refine cond_k rfl (fun hc => ?_) (fun hc => ?_)) | (with_reducible refine And.intro (fun hc => ?_) (fun hc => ?_)) | fail) <;> first | (exact absurd hc (by decide)) | ((try simp only [CNL] at hc) <;> first | (exfalso; omega) | (exact (tf (by assumption) hc).elim) | (exact (tf hc (by assumption)).elim) | skip))
  | ((with_reducible refine And.intro ?_ ?_); focus (first | omega | exact u8_le _ | exact flat_intK _ | exact flat_bytK _ | (fail) | decide | (simp only [true_and]; done)))
  | ((with_reducible refine ex_p ?_ (fun hh => ?_)); focus (first | omega | (simp only [true_and]; omega)))
  | (with_reducible first | refine skip_k ?_ | refine exit_k ?_ | refine ret_k ?_ | fail)
  | ((with_reducible refine hK _ _ _ ?_); clear hK hE hT; clear K)
  | ((with_reducible first | refine hE _ _ _ _ ?_ | refine hT _ _ _ ?_ | fail); (first | (clear hK hE hT; clear K) | (clear hR hE hT; clear K) | skip); try simp only [Nat.reduceEqDiff, if_true, if_false, reduceIte])
  | ((with_reducible apply_assumption -symm -exfalso); try simp only [Nat.reduceEqDiff, if_true, if_false, reduceIte])
  | fail)
  refine makeMap_k (k := 3) (e := 3) fun b => ?_
  repeat' (first
  | (with_reducible first | refine seq_k fun K hK hE hT => ?_ | refine block_k fun K hK hE hT => ?_ | refine region_k ?_ | refine lex_nil ?_ | fail)
  | ((with_reducible refine draw_k ?_ ?_); focus (first | rfl | kernel_rfl))
  | ((with_reducible first | refine lex_move ?_ | refine lex_assign ?_); simp only [EVB, Nat.reduceEqDiff, reduceIte])
  | (with_reducible first | refine lex_cons fun KS hKS => ?_ | refine lexd_cons fun KS hKS => ?_ | fail)
  | ((with_reducible refine call_go ?_); fail)
  | ((with_reducible refine step_go ?_); (fail_if_success with_reducible refine call_go ?_); simp only [ENB, Nat.reduceAdd, Nat.reduceSub, Nat.reduceMul, Nat.reduceLeDiff, Nat.reduceBEq, Nat.reduceBNe, Nat.reduceEqDiff, Nat.reduceLT, reduceIte, reduceCtorEq, Int.reduceToNat, tiAll, true_and])
  | ((with_reducible refine lexd_nil ?_ ?_); focus (first | kernel_rfl | with_unfolding_all rfl))
  | ((with_reducible refine guard_go ?_); refine lex_gone rfl rfl ?_; simp only [EVB, Nat.reduceEqDiff, reduceIte])
  | ((first | ((with_reducible refine guard_go ?_); refine lex_guard rfl rfl (fun hg KS hKS => ?_) (fun hg => ?_)) | ((with_reducible refine guardd_go ?_); refine lexd_guard rfl rfl (fun hg KS hKS => ?_) (fun hg => ?_)) | fail) <;> first | (exact absurd hg (by decide)) | ((try simp only [CNL] at hg) <;> first | (exfalso; omega) | (exact (tf (by assumption) hg).elim) | (exact (tf hg (by assumption)).elim) | ((try with_reducible (have hT0 : True := hg; clear hT0 hg)); try simp only [EVB, Nat.reduceEqDiff, reduceIte])))
  | ((with_reducible refine hKS _ _ _ _ ?_); clear hKS; clear KS; simp only [EVB, Nat.reduceEqDiff, reduceIte])
  | ((first | ((with_reducible refine cond_go ?_); refine cond_k rfl (fun hc => ?_) (fun hc => ?_)) | (with_reducible refine And.intro (fun hc => ?_) (fun hc => ?_)) | fail) <;> first | (exact absurd hc (by decide)) | ((try simp only [CNL] at hc) <;> first | (exfalso; omega) | (exact (tf (by assumption) hc).elim) | (exact (tf hc (by assumption)).elim) | skip))
  | ((with_reducible refine And.intro ?_ ?_); focus (first | omega | exact u8_le _ | exact flat_intK _ | exact flat_bytK _ | (fail) | decide | (simp only [true_and]; done)))
  | ((with_reducible refine ex_p ?_ (fun hh => ?_)); focus (first | omega | (simp only [true_and]; omega)))
  | (with_reducible first | refine skip_k ?_ | refine exit_k ?_ | refine ret_k ?_ | fail)
  | ((with_reducible refine hK _ _ _ ?_); clear hK hE hT; clear K)
  | ((with_reducible first | refine hE _ _ _ _ ?_ | refine hT _ _ _ ?_ | fail); (first | (clear hK hE hT; clear K) | (clear hR hE hT; clear K) | skip); try simp only [Nat.reduceEqDiff, if_true, if_false, reduceIte])
  | ((with_reducible apply_assumption -symm -exfalso); try simp only [Nat.reduceEqDiff, if_true, if_false, reduceIte])
  | fail)
  refine loop_v (X := {k : Nat // k ≤ l.length}) [] (fun x => [(20, .c (.v (.int .i64 ((x.1 : Nat) : Int))))]) (fun x => [(0, some (.ro (l.map ViewD.k))), (1, some (.gh [b] (mapW Try.prog 3 3 b (told (l.take x.1)))))]) 2 (fun x => l.length - x.1) ⟨0, by omega⟩ ?_
  simp only [KPB, Nat.reduceBEq, Nat.reduceBNe, Nat.reduceAdd, reduceIte]
  refine ⟨?_, ?_⟩
  · (refine wk_a ?_; simp only [MAB, Nat.reduceEqDiff, Nat.reduceAdd, reduceIte, reduceCtorEq]; refine ⟨rfl, rfl, (by decide), ?_, ?_⟩; all_goals (first | (simp only [WKB, Nat.reduceEqDiff, reduceIte, List.forall_mem_cons, List.not_mem_nil, false_implies, implies_true, told_zero, told_nil, Nat.reduceLT, Nat.zero_lt_succ]; done) | (simp [WKB, Nat.reduceEqDiff, reduceIte, List.forall_mem_cons, List.not_mem_nil, false_implies, implies_true, told_zero, told_nil]; done) | simp only [WKB, Nat.reduceEqDiff, reduceIte, List.forall_mem_cons, List.not_mem_nil, false_implies, implies_true]))
  · rintro ⟨k, hk⟩ K hR hE hT
    have l1 := told_take_len hl k
    rcases Nat.lt_or_ge k l.length with hlt | hge
    case inl =>
      obtain ⟨v1, v2, _, _, _⟩ := viewOk_out (List.all_eq_true.1 ho l[k] (List.getElem_mem hlt))
      have e := told_take hlt
      have c1 := List.count_le_length (a := l[k].Val / 1000) (l := told (l.take k))
      have c2 := List.count_le_length (a := l[k].Val % 1000) (l := told (l.take k))
      have c3 := List.count_le_length (a := l[k].Val % 1000) (l := told (l.take k) ++ [l[k].Val / 1000])
      rw [List.length_append, List.length_singleton] at c3
      repeat' (first
  | (with_reducible first | refine seq_k fun K hK hE hT => ?_ | refine block_k fun K hK hE hT => ?_ | refine region_k ?_ | refine lex_nil ?_ | fail)
  | ((with_reducible refine draw_k ?_ ?_); focus (first | rfl | kernel_rfl))
  | ((with_reducible first | refine lex_move ?_ | refine lex_assign ?_); simp only [EVB, Nat.reduceEqDiff, reduceIte])
  | (with_reducible first | refine lex_cons fun KS hKS => ?_ | refine lexd_cons fun KS hKS => ?_ | fail)
  | ((with_reducible refine call_go ?_); fail)
  | ((with_reducible refine step_go ?_); (fail_if_success with_reducible refine call_go ?_); simp only [ENB, Nat.reduceAdd, Nat.reduceSub, Nat.reduceMul, Nat.reduceLeDiff, Nat.reduceBEq, Nat.reduceBNe, Nat.reduceEqDiff, Nat.reduceLT, reduceIte, reduceCtorEq, Int.reduceToNat, tiAll, List.length_map, List.getElem_map, ViewD.k])
  | ((with_reducible refine lexd_nil ?_ ?_); focus (first | kernel_rfl | with_unfolding_all rfl))
  | ((with_reducible refine guard_go ?_); refine lex_gone rfl rfl ?_; simp only [EVB, Nat.reduceEqDiff, reduceIte])
  | ((first | ((with_reducible refine guard_go ?_); refine lex_guard rfl rfl (fun hg KS hKS => ?_) (fun hg => ?_)) | ((with_reducible refine guardd_go ?_); refine lexd_guard rfl rfl (fun hg KS hKS => ?_) (fun hg => ?_)) | fail) <;> first | (exact absurd hg (by decide)) | ((try simp only [CNL] at hg) <;> first | (exfalso; omega) | (exact (tf (by assumption) hg).elim) | (exact (tf hg (by assumption)).elim) | ((try with_reducible (have hT0 : True := hg; clear hT0 hg)); try simp only [EVB, Nat.reduceEqDiff, reduceIte])))
  | ((with_reducible refine hKS _ _ _ _ ?_); clear hKS; clear KS; simp only [EVB, Nat.reduceEqDiff, reduceIte])
  | ((first | ((with_reducible refine cond_go ?_); refine cond_k rfl (fun hc => ?_) (fun hc => ?_)) | (with_reducible refine And.intro (fun hc => ?_) (fun hc => ?_)) | fail) <;> first | (exact absurd hc (by decide)) | ((try simp only [CNL] at hc) <;> first | (exfalso; omega) | (exact (tf (by assumption) hc).elim) | (exact (tf hc (by assumption)).elim) | skip))
  | ((with_reducible refine And.intro ?_ ?_); focus (first | omega | exact u8_le _ | exact flat_intK _ | exact flat_bytK _ | (fail) | decide | (simp only [List.length_map, List.getElem_map, ViewD.k]; done)))
  | ((with_reducible refine ex_p ?_ (fun hh => ?_)); focus (first | omega | (simp only [List.length_map, List.getElem_map, ViewD.k]; omega)))
  | (with_reducible first | refine skip_k ?_ | refine exit_k ?_ | refine ret_k ?_ | fail)
  | ((with_reducible refine hK _ _ _ ?_); clear hK hE hT; clear K)
  | ((with_reducible first | refine hE _ _ _ _ ?_ | refine hT _ _ _ ?_ | fail); (first | (clear hK hE hT; clear K) | (clear hR hE hT; clear K) | skip); try simp only [Nat.reduceEqDiff, if_true, if_false, reduceIte])
  | ((with_reducible apply_assumption -symm -exfalso); try simp only [Nat.reduceEqDiff, if_true, if_false, reduceIte])
  | fail)
      · refine lookup_k mtI (f := 1) rfl rfl rfl (by omega) ?_
        repeat' (first
  | (with_reducible first | refine seq_k fun K hK hE hT => ?_ | refine block_k fun K hK hE hT => ?_ | refine region_k ?_ | refine lex_nil ?_ | fail)
  | ((with_reducible refine draw_k ?_ ?_); focus (first | rfl | kernel_rfl))
  | ((with_reducible first | refine lex_move ?_ | refine lex_assign ?_); simp only [EVB, Nat.reduceEqDiff, reduceIte])
  | (with_reducible first | refine lex_cons fun KS hKS => ?_ | refine lexd_cons fun KS hKS => ?_ | fail)
  | ((with_reducible refine call_go ?_); fail)
  | ((with_reducible refine step_go ?_); (fail_if_success with_reducible refine call_go ?_); simp only [ENB, Nat.reduceAdd, Nat.reduceSub, Nat.reduceMul, Nat.reduceLeDiff, Nat.reduceBEq, Nat.reduceBNe, Nat.reduceEqDiff, Nat.reduceLT, reduceIte, reduceCtorEq, Int.reduceToNat, tiAll, List.length_map, List.getElem_map, ViewD.k])
  | ((with_reducible refine lexd_nil ?_ ?_); focus (first | kernel_rfl | with_unfolding_all rfl))
  | ((with_reducible refine guard_go ?_); refine lex_gone rfl rfl ?_; simp only [EVB, Nat.reduceEqDiff, reduceIte])
  | ((first | ((with_reducible refine guard_go ?_); refine lex_guard rfl rfl (fun hg KS hKS => ?_) (fun hg => ?_)) | ((with_reducible refine guardd_go ?_); refine lexd_guard rfl rfl (fun hg KS hKS => ?_) (fun hg => ?_)) | fail) <;> first | (exact absurd hg (by decide)) | ((try simp only [CNL] at hg) <;> first | (exfalso; omega) | (exact (tf (by assumption) hg).elim) | (exact (tf hg (by assumption)).elim) | ((try with_reducible (have hT0 : True := hg; clear hT0 hg)); try simp only [EVB, Nat.reduceEqDiff, reduceIte])))
  | ((with_reducible refine hKS _ _ _ _ ?_); clear hKS; clear KS; simp only [EVB, Nat.reduceEqDiff, reduceIte])
  | ((first | ((with_reducible refine cond_go ?_); refine cond_k rfl (fun hc => ?_) (fun hc => ?_)) | (with_reducible refine And.intro (fun hc => ?_) (fun hc => ?_)) | fail) <;> first | (exact absurd hc (by decide)) | ((try simp only [CNL] at hc) <;> first | (exfalso; omega) | (exact (tf (by assumption) hc).elim) | (exact (tf hc (by assumption)).elim) | skip))
  | ((with_reducible refine And.intro ?_ ?_); focus (first | omega | exact u8_le _ | exact flat_intK _ | exact flat_bytK _ | (fail) | decide | (simp only [List.length_map, List.getElem_map, ViewD.k]; done)))
  | ((with_reducible refine ex_p ?_ (fun hh => ?_)); focus (first | omega | (simp only [List.length_map, List.getElem_map, ViewD.k]; omega)))
  | (with_reducible first | refine skip_k ?_ | refine exit_k ?_ | refine ret_k ?_ | fail)
  | ((with_reducible refine hK _ _ _ ?_); clear hK hE hT; clear K)
  | ((with_reducible first | refine hE _ _ _ _ ?_ | refine hT _ _ _ ?_ | fail); (first | (clear hK hE hT; clear K) | (clear hR hE hT; clear K) | skip); try simp only [Nat.reduceEqDiff, if_true, if_false, reduceIte])
  | ((with_reducible apply_assumption -symm -exfalso); try simp only [Nat.reduceEqDiff, if_true, if_false, reduceIte])
  | fail)
        refine mapUpdate_k mtI (f := 1) rfl rfl rfl rfl (by decide) rfl (by omega) (by omega) ?_
        repeat' (first
  | (with_reducible first | refine seq_k fun K hK hE hT => ?_ | refine block_k fun K hK hE hT => ?_ | refine region_k ?_ | refine lex_nil ?_ | fail)
  | ((with_reducible refine draw_k ?_ ?_); focus (first | rfl | kernel_rfl))
  | ((with_reducible first | refine lex_move ?_ | refine lex_assign ?_); simp only [EVB, Nat.reduceEqDiff, reduceIte])
  | (with_reducible first | refine lex_cons fun KS hKS => ?_ | refine lexd_cons fun KS hKS => ?_ | fail)
  | ((with_reducible refine call_go ?_); fail)
  | ((with_reducible refine step_go ?_); (fail_if_success with_reducible refine call_go ?_); simp only [ENB, Nat.reduceAdd, Nat.reduceSub, Nat.reduceMul, Nat.reduceLeDiff, Nat.reduceBEq, Nat.reduceBNe, Nat.reduceEqDiff, Nat.reduceLT, reduceIte, reduceCtorEq, Int.reduceToNat, tiAll, List.length_map, List.getElem_map, ViewD.k])
  | ((with_reducible refine lexd_nil ?_ ?_); focus (first | kernel_rfl | with_unfolding_all rfl))
  | ((with_reducible refine guard_go ?_); refine lex_gone rfl rfl ?_; simp only [EVB, Nat.reduceEqDiff, reduceIte])
  | ((first | ((with_reducible refine guard_go ?_); refine lex_guard rfl rfl (fun hg KS hKS => ?_) (fun hg => ?_)) | ((with_reducible refine guardd_go ?_); refine lexd_guard rfl rfl (fun hg KS hKS => ?_) (fun hg => ?_)) | fail) <;> first | (exact absurd hg (by decide)) | ((try simp only [CNL] at hg) <;> first | (exfalso; omega) | (exact (tf (by assumption) hg).elim) | (exact (tf hg (by assumption)).elim) | ((try with_reducible (have hT0 : True := hg; clear hT0 hg)); try simp only [EVB, Nat.reduceEqDiff, reduceIte])))
  | ((with_reducible refine hKS _ _ _ _ ?_); clear hKS; clear KS; simp only [EVB, Nat.reduceEqDiff, reduceIte])
  | ((first | ((with_reducible refine cond_go ?_); refine cond_k rfl (fun hc => ?_) (fun hc => ?_)) | (with_reducible refine And.intro (fun hc => ?_) (fun hc => ?_)) | fail) <;> first | (exact absurd hc (by decide)) | ((try simp only [CNL] at hc) <;> first | (exfalso; omega) | (exact (tf (by assumption) hc).elim) | (exact (tf hc (by assumption)).elim) | skip))
  | ((with_reducible refine And.intro ?_ ?_); focus (first | omega | exact u8_le _ | exact flat_intK _ | exact flat_bytK _ | (fail) | decide | (simp only [List.length_map, List.getElem_map, ViewD.k]; done)))
  | ((with_reducible refine ex_p ?_ (fun hh => ?_)); focus (first | omega | (simp only [List.length_map, List.getElem_map, ViewD.k]; omega)))
  | (with_reducible first | refine skip_k ?_ | refine exit_k ?_ | refine ret_k ?_ | fail)
  | ((with_reducible refine hK _ _ _ ?_); clear hK hE hT; clear K)
  | ((with_reducible first | refine hE _ _ _ _ ?_ | refine hT _ _ _ ?_ | fail); (first | (clear hK hE hT; clear K) | (clear hR hE hT; clear K) | skip); try simp only [Nat.reduceEqDiff, if_true, if_false, reduceIte])
  | ((with_reducible apply_assumption -symm -exfalso); try simp only [Nat.reduceEqDiff, if_true, if_false, reduceIte])
  | fail)
        · refine lookup_k mtI (f := 1) rfl rfl rfl (by omega) ?_
          repeat' (first
  | (with_reducible first | refine seq_k fun K hK hE hT => ?_ | refine block_k fun K hK hE hT => ?_ | refine region_k ?_ | refine lex_nil ?_ | fail)
  | ((with_reducible refine draw_k ?_ ?_); focus (first | rfl | kernel_rfl))
  | ((with_reducible first | refine lex_move ?_ | refine lex_assign ?_); simp only [EVB, Nat.reduceEqDiff, reduceIte])
  | (with_reducible first | refine lex_cons fun KS hKS => ?_ | refine lexd_cons fun KS hKS => ?_ | fail)
  | ((with_reducible refine call_go ?_); fail)
  | ((with_reducible refine step_go ?_); (fail_if_success with_reducible refine call_go ?_); simp only [ENB, Nat.reduceAdd, Nat.reduceSub, Nat.reduceMul, Nat.reduceLeDiff, Nat.reduceBEq, Nat.reduceBNe, Nat.reduceEqDiff, Nat.reduceLT, reduceIte, reduceCtorEq, Int.reduceToNat, tiAll, List.length_map, List.getElem_map, ViewD.k])
  | ((with_reducible refine lexd_nil ?_ ?_); focus (first | kernel_rfl | with_unfolding_all rfl))
  | ((with_reducible refine guard_go ?_); refine lex_gone rfl rfl ?_; simp only [EVB, Nat.reduceEqDiff, reduceIte])
  | ((first | ((with_reducible refine guard_go ?_); refine lex_guard rfl rfl (fun hg KS hKS => ?_) (fun hg => ?_)) | ((with_reducible refine guardd_go ?_); refine lexd_guard rfl rfl (fun hg KS hKS => ?_) (fun hg => ?_)) | fail) <;> first | (exact absurd hg (by decide)) | ((try simp only [CNL] at hg) <;> first | (exfalso; omega) | (exact (tf (by assumption) hg).elim) | (exact (tf hg (by assumption)).elim) | ((try with_reducible (have hT0 : True := hg; clear hT0 hg)); try simp only [EVB, Nat.reduceEqDiff, reduceIte])))
  | ((with_reducible refine hKS _ _ _ _ ?_); clear hKS; clear KS; simp only [EVB, Nat.reduceEqDiff, reduceIte])
  | ((first | ((with_reducible refine cond_go ?_); refine cond_k rfl (fun hc => ?_) (fun hc => ?_)) | (with_reducible refine And.intro (fun hc => ?_) (fun hc => ?_)) | fail) <;> first | (exact absurd hc (by decide)) | ((try simp only [CNL] at hc) <;> first | (exfalso; omega) | (exact (tf (by assumption) hc).elim) | (exact (tf hc (by assumption)).elim) | skip))
  | ((with_reducible refine And.intro ?_ ?_); focus (first | omega | exact u8_le _ | exact flat_intK _ | exact flat_bytK _ | (fail) | decide | (simp only [List.length_map, List.getElem_map, ViewD.k]; done)))
  | ((with_reducible refine ex_p ?_ (fun hh => ?_)); focus (first | omega | (simp only [List.length_map, List.getElem_map, ViewD.k]; omega)))
  | (with_reducible first | refine skip_k ?_ | refine exit_k ?_ | refine ret_k ?_ | fail)
  | ((with_reducible refine hK _ _ _ ?_); clear hK hE hT; clear K)
  | ((with_reducible first | refine hE _ _ _ _ ?_ | refine hT _ _ _ ?_ | fail); (first | (clear hK hE hT; clear K) | (clear hR hE hT; clear K) | skip); try simp only [Nat.reduceEqDiff, if_true, if_false, reduceIte])
  | ((with_reducible apply_assumption -symm -exfalso); try simp only [Nat.reduceEqDiff, if_true, if_false, reduceIte])
  | fail)
          refine mapUpdate_k mtI (f := 1) rfl rfl rfl rfl (by decide) rfl (by omega) (by (rw [List.length_append, List.length_singleton]; omega)) ?_
          repeat' (first
  | (with_reducible first | refine seq_k fun K hK hE hT => ?_ | refine block_k fun K hK hE hT => ?_ | refine region_k ?_ | refine lex_nil ?_ | fail)
  | ((with_reducible refine draw_k ?_ ?_); focus (first | rfl | kernel_rfl))
  | ((with_reducible first | refine lex_move ?_ | refine lex_assign ?_); simp only [EVB, Nat.reduceEqDiff, reduceIte])
  | (with_reducible first | refine lex_cons fun KS hKS => ?_ | refine lexd_cons fun KS hKS => ?_ | fail)
  | ((with_reducible refine call_go ?_); fail)
  | ((with_reducible refine step_go ?_); (fail_if_success with_reducible refine call_go ?_); simp only [ENB, Nat.reduceAdd, Nat.reduceSub, Nat.reduceMul, Nat.reduceLeDiff, Nat.reduceBEq, Nat.reduceBNe, Nat.reduceEqDiff, Nat.reduceLT, reduceIte, reduceCtorEq, Int.reduceToNat, tiAll, List.length_map, List.getElem_map, ViewD.k])
  | ((with_reducible refine lexd_nil ?_ ?_); focus (first | kernel_rfl | with_unfolding_all rfl))
  | ((with_reducible refine guard_go ?_); refine lex_gone rfl rfl ?_; simp only [EVB, Nat.reduceEqDiff, reduceIte])
  | ((first | ((with_reducible refine guard_go ?_); refine lex_guard rfl rfl (fun hg KS hKS => ?_) (fun hg => ?_)) | ((with_reducible refine guardd_go ?_); refine lexd_guard rfl rfl (fun hg KS hKS => ?_) (fun hg => ?_)) | fail) <;> first | (exact absurd hg (by decide)) | ((try simp only [CNL] at hg) <;> first | (exfalso; omega) | (exact (tf (by assumption) hg).elim) | (exact (tf hg (by assumption)).elim) | ((try with_reducible (have hT0 : True := hg; clear hT0 hg)); try simp only [EVB, Nat.reduceEqDiff, reduceIte])))
  | ((with_reducible refine hKS _ _ _ _ ?_); clear hKS; clear KS; simp only [EVB, Nat.reduceEqDiff, reduceIte])
  | ((first | ((with_reducible refine cond_go ?_); refine cond_k rfl (fun hc => ?_) (fun hc => ?_)) | (with_reducible refine And.intro (fun hc => ?_) (fun hc => ?_)) | fail) <;> first | (exact absurd hc (by decide)) | ((try simp only [CNL] at hc) <;> first | (exfalso; omega) | (exact (tf (by assumption) hc).elim) | (exact (tf hc (by assumption)).elim) | skip))
  | ((with_reducible refine And.intro ?_ ?_); focus (first | omega | exact u8_le _ | exact flat_intK _ | exact flat_bytK _ | (fail) | decide | (simp only [List.length_map, List.getElem_map, ViewD.k]; done)))
  | ((with_reducible refine ex_p ?_ (fun hh => ?_)); focus (first | omega | (simp only [List.length_map, List.getElem_map, ViewD.k]; omega)))
  | (with_reducible first | refine skip_k ?_ | refine exit_k ?_ | refine ret_k ?_ | fail)
  | ((with_reducible refine hK _ _ _ ?_); clear hK hE hT; clear K)
  | ((with_reducible first | refine hE _ _ _ _ ?_ | refine hT _ _ _ ?_ | fail); (first | (clear hK hE hT; clear K) | (clear hR hE hT; clear K) | skip); try simp only [Nat.reduceEqDiff, if_true, if_false, reduceIte])
  | ((with_reducible apply_assumption -symm -exfalso); try simp only [Nat.reduceEqDiff, if_true, if_false, reduceIte])
  | fail)
          have e2 := toldOf_tt (x := l[k]) (by assumption) (by assumption)
          rw [e2] at e
          (refine hR.out ⟨k + 1, by omega⟩ _ _ _ (by simp only; omega) ?_; (refine wk_a ?_; simp only [MAB, Nat.reduceEqDiff, Nat.reduceAdd, reduceIte, reduceCtorEq]; refine ⟨rfl, rfl, (by decide), ?_, ?_⟩; all_goals (first | (simp only [WKB, Nat.reduceEqDiff, reduceIte, List.forall_mem_cons, List.not_mem_nil, false_implies, implies_true, e, List.append_assoc, List.cons_append, List.nil_append, Nat.reduceLT, Nat.zero_lt_succ]; done) | (simp [WKB, Nat.reduceEqDiff, reduceIte, List.forall_mem_cons, List.not_mem_nil, false_implies, implies_true, e, List.append_assoc, List.cons_append, List.nil_append]; done) | simp only [WKB, Nat.reduceEqDiff, reduceIte, List.forall_mem_cons, List.not_mem_nil, false_implies, implies_true])))
        · have e2 := toldOf_tf (x := l[k]) (by assumption) (by assumption)
          rw [e2] at e
          (refine hR.out ⟨k + 1, by omega⟩ _ _ _ (by simp only; omega) ?_; (refine wk_a ?_; simp only [MAB, Nat.reduceEqDiff, Nat.reduceAdd, reduceIte, reduceCtorEq]; refine ⟨rfl, rfl, (by decide), ?_, ?_⟩; all_goals (first | (simp only [WKB, Nat.reduceEqDiff, reduceIte, List.forall_mem_cons, List.not_mem_nil, false_implies, implies_true, e, Nat.reduceLT, Nat.zero_lt_succ]; done) | (simp [WKB, Nat.reduceEqDiff, reduceIte, List.forall_mem_cons, List.not_mem_nil, false_implies, implies_true, e]; done) | simp only [WKB, Nat.reduceEqDiff, reduceIte, List.forall_mem_cons, List.not_mem_nil, false_implies, implies_true])))
      · refine lookup_k mtI (f := 1) rfl rfl rfl (by omega) ?_
        repeat' (first
  | (with_reducible first | refine seq_k fun K hK hE hT => ?_ | refine block_k fun K hK hE hT => ?_ | refine region_k ?_ | refine lex_nil ?_ | fail)
  | ((with_reducible refine draw_k ?_ ?_); focus (first | rfl | kernel_rfl))
  | ((with_reducible first | refine lex_move ?_ | refine lex_assign ?_); simp only [EVB, Nat.reduceEqDiff, reduceIte])
  | (with_reducible first | refine lex_cons fun KS hKS => ?_ | refine lexd_cons fun KS hKS => ?_ | fail)
  | ((with_reducible refine call_go ?_); fail)
  | ((with_reducible refine step_go ?_); (fail_if_success with_reducible refine call_go ?_); simp only [ENB, Nat.reduceAdd, Nat.reduceSub, Nat.reduceMul, Nat.reduceLeDiff, Nat.reduceBEq, Nat.reduceBNe, Nat.reduceEqDiff, Nat.reduceLT, reduceIte, reduceCtorEq, Int.reduceToNat, tiAll, List.length_map, List.getElem_map, ViewD.k])
  | ((with_reducible refine lexd_nil ?_ ?_); focus (first | kernel_rfl | with_unfolding_all rfl))
  | ((with_reducible refine guard_go ?_); refine lex_gone rfl rfl ?_; simp only [EVB, Nat.reduceEqDiff, reduceIte])
  | ((first | ((with_reducible refine guard_go ?_); refine lex_guard rfl rfl (fun hg KS hKS => ?_) (fun hg => ?_)) | ((with_reducible refine guardd_go ?_); refine lexd_guard rfl rfl (fun hg KS hKS => ?_) (fun hg => ?_)) | fail) <;> first | (exact absurd hg (by decide)) | ((try simp only [CNL] at hg) <;> first | (exfalso; omega) | (exact (tf (by assumption) hg).elim) | (exact (tf hg (by assumption)).elim) | ((try with_reducible (have hT0 : True := hg; clear hT0 hg)); try simp only [EVB, Nat.reduceEqDiff, reduceIte])))
  | ((with_reducible refine hKS _ _ _ _ ?_); clear hKS; clear KS; simp only [EVB, Nat.reduceEqDiff, reduceIte])
  | ((first | ((with_reducible refine cond_go ?_); refine cond_k rfl (fun hc => ?_) (fun hc => ?_)) | (with_reducible refine And.intro (fun hc => ?_) (fun hc => ?_)) | fail) <;> first | (exact absurd hc (by decide)) | ((try simp only [CNL] at hc) <;> first | (exfalso; omega) | (exact (tf (by assumption) hc).elim) | (exact (tf hc (by assumption)).elim) | skip))
  | ((with_reducible refine And.intro ?_ ?_); focus (first | omega | exact u8_le _ | exact flat_intK _ | exact flat_bytK _ | (fail) | decide | (simp only [List.length_map, List.getElem_map, ViewD.k]; done)))
  | ((with_reducible refine ex_p ?_ (fun hh => ?_)); focus (first | omega | (simp only [List.length_map, List.getElem_map, ViewD.k]; omega)))
  | (with_reducible first | refine skip_k ?_ | refine exit_k ?_ | refine ret_k ?_ | fail)
  | ((with_reducible refine hK _ _ _ ?_); clear hK hE hT; clear K)
  | ((with_reducible first | refine hE _ _ _ _ ?_ | refine hT _ _ _ ?_ | fail); (first | (clear hK hE hT; clear K) | (clear hR hE hT; clear K) | skip); try simp only [Nat.reduceEqDiff, if_true, if_false, reduceIte])
  | ((with_reducible apply_assumption -symm -exfalso); try simp only [Nat.reduceEqDiff, if_true, if_false, reduceIte])
  | fail)
        refine mapUpdate_k mtI (f := 1) rfl rfl rfl rfl (by decide) rfl (by omega) (by omega) ?_
        repeat' (first
  | (with_reducible first | refine seq_k fun K hK hE hT => ?_ | refine block_k fun K hK hE hT => ?_ | refine region_k ?_ | refine lex_nil ?_ | fail)
  | ((with_reducible refine draw_k ?_ ?_); focus (first | rfl | kernel_rfl))
  | ((with_reducible first | refine lex_move ?_ | refine lex_assign ?_); simp only [EVB, Nat.reduceEqDiff, reduceIte])
  | (with_reducible first | refine lex_cons fun KS hKS => ?_ | refine lexd_cons fun KS hKS => ?_ | fail)
  | ((with_reducible refine call_go ?_); fail)
  | ((with_reducible refine step_go ?_); (fail_if_success with_reducible refine call_go ?_); simp only [ENB, Nat.reduceAdd, Nat.reduceSub, Nat.reduceMul, Nat.reduceLeDiff, Nat.reduceBEq, Nat.reduceBNe, Nat.reduceEqDiff, Nat.reduceLT, reduceIte, reduceCtorEq, Int.reduceToNat, tiAll, List.length_map, List.getElem_map, ViewD.k])
  | ((with_reducible refine lexd_nil ?_ ?_); focus (first | kernel_rfl | with_unfolding_all rfl))
  | ((with_reducible refine guard_go ?_); refine lex_gone rfl rfl ?_; simp only [EVB, Nat.reduceEqDiff, reduceIte])
  | ((first | ((with_reducible refine guard_go ?_); refine lex_guard rfl rfl (fun hg KS hKS => ?_) (fun hg => ?_)) | ((with_reducible refine guardd_go ?_); refine lexd_guard rfl rfl (fun hg KS hKS => ?_) (fun hg => ?_)) | fail) <;> first | (exact absurd hg (by decide)) | ((try simp only [CNL] at hg) <;> first | (exfalso; omega) | (exact (tf (by assumption) hg).elim) | (exact (tf hg (by assumption)).elim) | ((try with_reducible (have hT0 : True := hg; clear hT0 hg)); try simp only [EVB, Nat.reduceEqDiff, reduceIte])))
  | ((with_reducible refine hKS _ _ _ _ ?_); clear hKS; clear KS; simp only [EVB, Nat.reduceEqDiff, reduceIte])
  | ((first | ((with_reducible refine cond_go ?_); refine cond_k rfl (fun hc => ?_) (fun hc => ?_)) | (with_reducible refine And.intro (fun hc => ?_) (fun hc => ?_)) | fail) <;> first | (exact absurd hc (by decide)) | ((try simp only [CNL] at hc) <;> first | (exfalso; omega) | (exact (tf (by assumption) hc).elim) | (exact (tf hc (by assumption)).elim) | skip))
  | ((with_reducible refine And.intro ?_ ?_); focus (first | omega | exact u8_le _ | exact flat_intK _ | exact flat_bytK _ | (fail) | decide | (simp only [List.length_map, List.getElem_map, ViewD.k]; done)))
  | ((with_reducible refine ex_p ?_ (fun hh => ?_)); focus (first | omega | (simp only [List.length_map, List.getElem_map, ViewD.k]; omega)))
  | (with_reducible first | refine skip_k ?_ | refine exit_k ?_ | refine ret_k ?_ | fail)
  | ((with_reducible refine hK _ _ _ ?_); clear hK hE hT; clear K)
  | ((with_reducible first | refine hE _ _ _ _ ?_ | refine hT _ _ _ ?_ | fail); (first | (clear hK hE hT; clear K) | (clear hR hE hT; clear K) | skip); try simp only [Nat.reduceEqDiff, if_true, if_false, reduceIte])
  | ((with_reducible apply_assumption -symm -exfalso); try simp only [Nat.reduceEqDiff, if_true, if_false, reduceIte])
  | fail)
        have e2 := toldOf_ft (x := l[k]) (by assumption) (by assumption)
        rw [e2] at e
        (refine hR.out ⟨k + 1, by omega⟩ _ _ _ (by simp only; omega) ?_; (refine wk_a ?_; simp only [MAB, Nat.reduceEqDiff, Nat.reduceAdd, reduceIte, reduceCtorEq]; refine ⟨rfl, rfl, (by decide), ?_, ?_⟩; all_goals (first | (simp only [WKB, Nat.reduceEqDiff, reduceIte, List.forall_mem_cons, List.not_mem_nil, false_implies, implies_true, e, Nat.reduceLT, Nat.zero_lt_succ]; done) | (simp [WKB, Nat.reduceEqDiff, reduceIte, List.forall_mem_cons, List.not_mem_nil, false_implies, implies_true, e]; done) | simp only [WKB, Nat.reduceEqDiff, reduceIte, List.forall_mem_cons, List.not_mem_nil, false_implies, implies_true])))
      · have e2 := toldOf_ff (x := l[k]) (by assumption) (by assumption)
        rw [e2, List.append_nil] at e
        (refine hR.out ⟨k + 1, by omega⟩ _ _ _ (by simp only; omega) ?_; (refine wk_a ?_; simp only [MAB, Nat.reduceEqDiff, Nat.reduceAdd, reduceIte, reduceCtorEq]; refine ⟨rfl, rfl, (by decide), ?_, ?_⟩; all_goals (first | (simp only [WKB, Nat.reduceEqDiff, reduceIte, List.forall_mem_cons, List.not_mem_nil, false_implies, implies_true, e, Nat.reduceLT, Nat.zero_lt_succ]; done) | (simp [WKB, Nat.reduceEqDiff, reduceIte, List.forall_mem_cons, List.not_mem_nil, false_implies, implies_true, e]; done) | simp only [WKB, Nat.reduceEqDiff, reduceIte, List.forall_mem_cons, List.not_mem_nil, false_implies, implies_true])))
    case inr =>
      obtain rfl : k = l.length := by omega
      clear l1 hge
      simp only [List.take_length]
      repeat' (first
  | (with_reducible first | refine seq_k fun K hK hE hT => ?_ | refine block_k fun K hK hE hT => ?_ | refine region_k ?_ | refine lex_nil ?_ | fail)
  | ((with_reducible refine draw_k ?_ ?_); focus (first | rfl | kernel_rfl))
  | ((with_reducible first | refine lex_move ?_ | refine lex_assign ?_); simp only [EVB, Nat.reduceEqDiff, reduceIte])
  | (with_reducible first | refine lex_cons fun KS hKS => ?_ | refine lexd_cons fun KS hKS => ?_ | fail)
  | ((with_reducible refine call_go ?_); fail)
  | ((with_reducible refine step_go ?_); (fail_if_success with_reducible refine call_go ?_); simp only [ENB, Nat.reduceAdd, Nat.reduceSub, Nat.reduceMul, Nat.reduceLeDiff, Nat.reduceBEq, Nat.reduceBNe, Nat.reduceEqDiff, Nat.reduceLT, reduceIte, reduceCtorEq, Int.reduceToNat, tiAll, List.length_map, List.getElem_map, ViewD.k])
  | ((with_reducible refine lexd_nil ?_ ?_); focus (first | kernel_rfl | with_unfolding_all rfl))
  | ((with_reducible refine guard_go ?_); refine lex_gone rfl rfl ?_; simp only [EVB, Nat.reduceEqDiff, reduceIte])
  | ((first | ((with_reducible refine guard_go ?_); refine lex_guard rfl rfl (fun hg KS hKS => ?_) (fun hg => ?_)) | ((with_reducible refine guardd_go ?_); refine lexd_guard rfl rfl (fun hg KS hKS => ?_) (fun hg => ?_)) | fail) <;> first | (exact absurd hg (by decide)) | ((try simp only [CNL] at hg) <;> first | (exfalso; omega) | (exact (tf (by assumption) hg).elim) | (exact (tf hg (by assumption)).elim) | ((try with_reducible (have hT0 : True := hg; clear hT0 hg)); try simp only [EVB, Nat.reduceEqDiff, reduceIte])))
  | ((with_reducible refine hKS _ _ _ _ ?_); clear hKS; clear KS; simp only [EVB, Nat.reduceEqDiff, reduceIte])
  | ((first | ((with_reducible refine cond_go ?_); refine cond_k rfl (fun hc => ?_) (fun hc => ?_)) | (with_reducible refine And.intro (fun hc => ?_) (fun hc => ?_)) | fail) <;> first | (exact absurd hc (by decide)) | ((try simp only [CNL] at hc) <;> first | (exfalso; omega) | (exact (tf (by assumption) hc).elim) | (exact (tf hc (by assumption)).elim) | skip))
  | ((with_reducible refine And.intro ?_ ?_); focus (first | omega | exact u8_le _ | exact flat_intK _ | exact flat_bytK _ | (fail) | decide | (simp only [List.length_map, List.getElem_map, ViewD.k]; done)))
  | ((with_reducible refine ex_p ?_ (fun hh => ?_)); focus (first | omega | (simp only [List.length_map, List.getElem_map, ViewD.k]; omega)))
  | (with_reducible first | refine skip_k ?_ | refine exit_k ?_ | refine ret_k ?_ | fail)
  | ((with_reducible refine hK _ _ _ ?_); clear hK hE hT; clear K)
  | ((with_reducible first | refine hE _ _ _ _ ?_ | refine hT _ _ _ ?_ | fail); (first | (clear hK hE hT; clear K) | (clear hR hE hT; clear K) | skip); try simp only [Nat.reduceEqDiff, if_true, if_false, reduceIte])
  | ((with_reducible apply_assumption -symm -exfalso); try simp only [Nat.reduceEqDiff, if_true, if_false, reduceIte])
  | fail)
      refine range_k mtI (f := 1) rfl rfl (by decide) fun r cnt => ?_
      repeat' (first
  | (with_reducible first | refine seq_k fun K hK hE hT => ?_ | refine block_k fun K hK hE hT => ?_ | refine region_k ?_ | refine lex_nil ?_ | fail)
  | ((with_reducible refine draw_k ?_ ?_); focus (first | rfl | kernel_rfl))
  | ((with_reducible first | refine lex_move ?_ | refine lex_assign ?_); simp only [EVB, Nat.reduceEqDiff, reduceIte])
  | (with_reducible first | refine lex_cons fun KS hKS => ?_ | refine lexd_cons fun KS hKS => ?_ | fail)
  | ((with_reducible refine call_go ?_); fail)
  | ((with_reducible refine step_go ?_); (fail_if_success with_reducible refine call_go ?_); simp only [ENB, Nat.reduceAdd, Nat.reduceSub, Nat.reduceMul, Nat.reduceLeDiff, Nat.reduceBEq, Nat.reduceBNe, Nat.reduceEqDiff, Nat.reduceLT, reduceIte, reduceCtorEq, Int.reduceToNat, tiAll, List.length_map, List.getElem_map, ViewD.k])
  | ((with_reducible refine lexd_nil ?_ ?_); focus (first | kernel_rfl | with_unfolding_all rfl))
  | ((with_reducible refine guard_go ?_); refine lex_gone rfl rfl ?_; simp only [EVB, Nat.reduceEqDiff, reduceIte])
  | ((first | ((with_reducible refine guard_go ?_); refine lex_guard rfl rfl (fun hg KS hKS => ?_) (fun hg => ?_)) | ((with_reducible refine guardd_go ?_); refine lexd_guard rfl rfl (fun hg KS hKS => ?_) (fun hg => ?_)) | fail) <;> first | (exact absurd hg (by decide)) | ((try simp only [CNL] at hg) <;> first | (exfalso; omega) | (exact (tf (by assumption) hg).elim) | (exact (tf hg (by assumption)).elim) | ((try with_reducible (have hT0 : True := hg; clear hT0 hg)); try simp only [EVB, Nat.reduceEqDiff, reduceIte])))
  | ((with_reducible refine hKS _ _ _ _ ?_); clear hKS; clear KS; simp only [EVB, Nat.reduceEqDiff, reduceIte])
  | ((first | ((with_reducible refine cond_go ?_); refine cond_k rfl (fun hc => ?_) (fun hc => ?_)) | (with_reducible refine And.intro (fun hc => ?_) (fun hc => ?_)) | fail) <;> first | (exact absurd hc (by decide)) | ((try simp only [CNL] at hc) <;> first | (exfalso; omega) | (exact (tf (by assumption) hc).elim) | (exact (tf hc (by assumption)).elim) | skip))
  | ((with_reducible refine And.intro ?_ ?_); focus (first | omega | exact u8_le _ | exact flat_intK _ | exact flat_bytK _ | (fail) | decide | (simp only [List.length_map, List.getElem_map, ViewD.k]; done)))
  | ((with_reducible refine ex_p ?_ (fun hh => ?_)); focus (first | omega | (simp only [List.length_map, List.getElem_map, ViewD.k]; omega)))
  | (with_reducible first | refine skip_k ?_ | refine exit_k ?_ | refine ret_k ?_ | fail)
  | ((with_reducible refine hK _ _ _ ?_); clear hK hE hT; clear K)
  | ((with_reducible first | refine hE _ _ _ _ ?_ | refine hT _ _ _ ?_ | fail); (first | (clear hK hE hT; clear K) | (clear hR hE hT; clear K) | skip); try simp only [Nat.reduceEqDiff, if_true, if_false, reduceIte])
  | ((with_reducible apply_assumption -symm -exfalso); try simp only [Nat.reduceEqDiff, if_true, if_false, reduceIte])
  | fail)
      refine loop_v (X := LabX (told l) val) [] (fun x => [(0, .c (.v (.int .i64 x.p))), (9, .c (.v (.int .i64 x.m)))]) (fun x => [(0, some (.ro (l.map ViewD.k))), (2, some (.gh [b, r] (rangeW Try.prog 3 3 b r (told l) x.left x.cnt)))]) 3 (fun x => x.cnt) ⟨fun a => decide (a ∈ told l), cnt, val, 0, ⟨(Most.start (told l) val).same fun a => by simp⟩, ⟨fun a ha => by simpa using ha⟩⟩ ?_
      simp only [KPB, Nat.reduceBEq, Nat.reduceBNe, Nat.reduceAdd, reduceIte]
      refine ⟨?_, ?_⟩
      · (refine wk_a ?_; simp only [MAB, Nat.reduceEqDiff, Nat.reduceAdd, reduceIte, reduceCtorEq]; refine ⟨rfl, rfl, (by decide), ?_, ?_⟩; all_goals (first | (simp only [WKB, Nat.reduceEqDiff, reduceIte, List.forall_mem_cons, List.not_mem_nil, false_implies, implies_true, true_and, Nat.reduceLT, Nat.zero_lt_succ]; done) | (simp [WKB, Nat.reduceEqDiff, reduceIte, List.forall_mem_cons, List.not_mem_nil, false_implies, implies_true, true_and]; done) | simp only [WKB, Nat.reduceEqDiff, reduceIte, List.forall_mem_cons, List.not_mem_nil, false_implies, implies_true]))
      · rintro ⟨left, cn, p, m, hm, hs⟩ K hR hE hT
        repeat' (first
  | (with_reducible first | refine seq_k fun K hK hE hT => ?_ | refine block_k fun K hK hE hT => ?_ | refine region_k ?_ | refine lex_nil ?_ | fail)
  | ((with_reducible refine draw_k ?_ ?_); focus (first | rfl | kernel_rfl))
  | ((with_reducible first | refine lex_move ?_ | refine lex_assign ?_); simp only [EVB, Nat.reduceEqDiff, reduceIte])
  | (with_reducible first | refine lex_cons fun KS hKS => ?_ | refine lexd_cons fun KS hKS => ?_ | fail)
  | ((with_reducible refine call_go ?_); fail)
  | ((with_reducible refine step_go ?_); (fail_if_success with_reducible refine call_go ?_); simp only [ENB, Nat.reduceAdd, Nat.reduceSub, Nat.reduceMul, Nat.reduceLeDiff, Nat.reduceBEq, Nat.reduceBNe, Nat.reduceEqDiff, Nat.reduceLT, reduceIte, reduceCtorEq, Int.reduceToNat, tiAll, List.length_map, List.getElem_map, ViewD.k])
  | ((with_reducible refine lexd_nil ?_ ?_); focus (first | kernel_rfl | with_unfolding_all rfl))
  | ((with_reducible refine guard_go ?_); refine lex_gone rfl rfl ?_; simp only [EVB, Nat.reduceEqDiff, reduceIte])
  | ((first | ((with_reducible refine guard_go ?_); refine lex_guard rfl rfl (fun hg KS hKS => ?_) (fun hg => ?_)) | ((with_reducible refine guardd_go ?_); refine lexd_guard rfl rfl (fun hg KS hKS => ?_) (fun hg => ?_)) | fail) <;> first | (exact absurd hg (by decide)) | ((try simp only [CNL] at hg) <;> first | (exfalso; omega) | (exact (tf (by assumption) hg).elim) | (exact (tf hg (by assumption)).elim) | ((try with_reducible (have hT0 : True := hg; clear hT0 hg)); try simp only [EVB, Nat.reduceEqDiff, reduceIte])))
  | ((with_reducible refine hKS _ _ _ _ ?_); clear hKS; clear KS; simp only [EVB, Nat.reduceEqDiff, reduceIte])
  | ((first | ((with_reducible refine cond_go ?_); refine cond_k rfl (fun hc => ?_) (fun hc => ?_)) | (with_reducible refine And.intro (fun hc => ?_) (fun hc => ?_)) | fail) <;> first | (exact absurd hc (by decide)) | ((try simp only [CNL] at hc) <;> first | (exfalso; omega) | (exact (tf (by assumption) hc).elim) | (exact (tf hc (by assumption)).elim) | skip))
  | ((with_reducible refine And.intro ?_ ?_); focus (first | omega | exact u8_le _ | exact flat_intK _ | exact flat_bytK _ | (fail) | decide | (simp only [List.length_map, List.getElem_map, ViewD.k]; done)))
  | ((with_reducible refine ex_p ?_ (fun hh => ?_)); focus (first | omega | (simp only [List.length_map, List.getElem_map, ViewD.k]; omega)))
  | (with_reducible first | refine skip_k ?_ | refine exit_k ?_ | refine ret_k ?_ | fail)
  | ((with_reducible refine hK _ _ _ ?_); clear hK hE hT; clear K)
  | ((with_reducible first | refine hE _ _ _ _ ?_ | refine hT _ _ _ ?_ | fail); (first | (clear hK hE hT; clear K) | (clear hR hE hT; clear K) | skip); try simp only [Nat.reduceEqDiff, if_true, if_false, reduceIte])
  | ((with_reducible apply_assumption -symm -exfalso); try simp only [Nat.reduceEqDiff, if_true, if_false, reduceIte])
  | fail)
        refine next_k mtI (f := 2) rfl rfl (by decide) (fun h0 => ?_) (fun z c2 hz hlt hrz => ?_)
        · obtain rfl : p = mostOf (told l) val := mostOf_of (hm.out.same fun a => by simp [h0])
          have hM' : 0 ≤ mostOf (told l) val ∧ mostOf (told l) val ≤ 1099511627776 := (most_rng (told_rng ho) hv (told l).length).1
          repeat' (first
  | (with_reducible first | refine seq_k fun K hK hE hT => ?_ | refine block_k fun K hK hE hT => ?_ | refine region_k ?_ | refine lex_nil ?_ | fail)
  | ((with_reducible refine draw_k ?_ ?_); focus (first | rfl | kernel_rfl))
  | ((with_reducible first | refine lex_move ?_ | refine lex_assign ?_); simp only [EVB, Nat.reduceEqDiff, reduceIte])
  | (with_reducible first | refine lex_cons fun KS hKS => ?_ | refine lexd_cons fun KS hKS => ?_ | fail)
  | ((with_reducible refine call_go ?_); fail)
  | ((with_reducible refine step_go ?_); (fail_if_success with_reducible refine call_go ?_); simp only [ENB, Nat.reduceAdd, Nat.reduceSub, Nat.reduceMul, Nat.reduceLeDiff, Nat.reduceBEq, Nat.reduceBNe, Nat.reduceEqDiff, Nat.reduceLT, reduceIte, reduceCtorEq, Int.reduceToNat, tiAll, List.length_map, List.getElem_map, ViewD.k])
  | ((with_reducible refine lexd_nil ?_ ?_); focus (first | kernel_rfl | with_unfolding_all rfl))
  | ((with_reducible refine guard_go ?_); refine lex_gone rfl rfl ?_; simp only [EVB, Nat.reduceEqDiff, reduceIte])
  | ((first | ((with_reducible refine guard_go ?_); refine lex_guard rfl rfl (fun hg KS hKS => ?_) (fun hg => ?_)) | ((with_reducible refine guardd_go ?_); refine lexd_guard rfl rfl (fun hg KS hKS => ?_) (fun hg => ?_)) | fail) <;> first | (exact absurd hg (by decide)) | ((try simp only [CNL] at hg) <;> first | (exfalso; omega) | (exact (tf (by assumption) hg).elim) | (exact (tf hg (by assumption)).elim) | ((try with_reducible (have hT0 : True := hg; clear hT0 hg)); try simp only [EVB, Nat.reduceEqDiff, reduceIte])))
  | ((with_reducible refine hKS _ _ _ _ ?_); clear hKS; clear KS; simp only [EVB, Nat.reduceEqDiff, reduceIte])
  | ((first | ((with_reducible refine cond_go ?_); refine cond_k rfl (fun hc => ?_) (fun hc => ?_)) | (with_reducible refine And.intro (fun hc => ?_) (fun hc => ?_)) | fail) <;> first | (exact absurd hc (by decide)) | ((try simp only [CNL] at hc) <;> first | (exfalso; omega) | (exact (tf (by assumption) hc).elim) | (exact (tf hc (by assumption)).elim) | skip))
  | ((with_reducible refine And.intro ?_ ?_); focus (first | omega | exact u8_le _ | exact flat_intK _ | exact flat_bytK _ | (fail) | decide | (simp only [List.length_map, List.getElem_map, ViewD.k]; done)))
  | ((with_reducible refine ex_p ?_ (fun hh => ?_)); focus (first | omega | (simp only [List.length_map, List.getElem_map, ViewD.k]; omega)))
  | (with_reducible first | refine skip_k ?_ | refine exit_k ?_ | refine ret_k ?_ | fail)
  | ((with_reducible refine hK _ _ _ ?_); clear hK hE hT; clear K)
  | ((with_reducible first | refine hE _ _ _ _ ?_ | refine hT _ _ _ ?_ | fail); (first | (clear hK hE hT; clear K) | (clear hR hE hT; clear K) | skip); try simp only [Nat.reduceEqDiff, if_true, if_false, reduceIte])
  | ((with_reducible apply_assumption -symm -exfalso); try simp only [Nat.reduceEqDiff, if_true, if_false, reduceIte])
  | fail)
          refine loop_v (X := {k : Nat // k ≤ l.length}) [] (fun x => [(12, .c (.sl 1 1 0 ((l.take x.1).map (labE (mostOf (told l) val))).length)), (65, .c (.v (.int .i64 ((x.1 : Nat) : Int))))]) (fun x => [(0, some (.ro (l.map ViewD.k))), (1, some (.row 3 (((l.take x.1).map (labE (mostOf (told l) val))).map intK)))]) 2 (fun x => l.length - x.1) ⟨0, by omega⟩ ?_
          simp only [KPB, Nat.reduceBEq, Nat.reduceBNe, Nat.reduceAdd, reduceIte]
          refine ⟨?_, ?_⟩
          · (refine wk_a ?_; simp only [MAB, Nat.reduceEqDiff, Nat.reduceAdd, reduceIte, reduceCtorEq]; refine ⟨rfl, rfl, (by decide), ?_, ?_⟩; all_goals (first | (simp only [WKB, Nat.reduceEqDiff, reduceIte, List.forall_mem_cons, List.not_mem_nil, false_implies, implies_true, List.take_zero, List.map_nil, List.length_nil, Nat.reduceLT, Nat.zero_lt_succ]; done) | (simp [WKB, Nat.reduceEqDiff, reduceIte, List.forall_mem_cons, List.not_mem_nil, false_implies, implies_true, List.take_zero, List.map_nil, List.length_nil]; done) | simp only [WKB, Nat.reduceEqDiff, reduceIte, List.forall_mem_cons, List.not_mem_nil, false_implies, implies_true]))
          · rintro ⟨k, hk⟩ K hR hE hT
            have l1 : (l.take k).length ≤ 400 := by rw [List.length_take]; omega
            rcases Nat.lt_or_ge k l.length with hlt | hge
            · have e := take_succ_map (labE (mostOf (told l) val)) hlt
              obtain ⟨v1, v2, _, _, _⟩ := viewOk_out (List.all_eq_true.1 ho l[k] (List.getElem_mem hlt))
              rcases Bool.eq_false_or_eq_true l[k].In with hin | hin <;> rcases Bool.eq_false_or_eq_true l[k].Out with hout | hout
              · rw [lab_tt hin hout] at e
                repeat' (first
  | (with_reducible first | refine seq_k fun K hK hE hT => ?_ | refine block_k fun K hK hE hT => ?_ | refine region_k ?_ | refine lex_nil ?_ | fail)
  | ((with_reducible refine draw_k ?_ ?_); focus (first | rfl | kernel_rfl))
  | ((with_reducible first | refine lex_move ?_ | refine lex_assign ?_); simp only [EVB, Nat.reduceEqDiff, reduceIte])
  | (with_reducible first | refine lex_cons fun KS hKS => ?_ | refine lexd_cons fun KS hKS => ?_ | fail)
  | ((with_reducible refine call_go ?_); fail)
  | ((with_reducible refine step_go ?_); (fail_if_success with_reducible refine call_go ?_); simp only [ENB, Nat.reduceAdd, Nat.reduceSub, Nat.reduceMul, Nat.reduceLeDiff, Nat.reduceBEq, Nat.reduceBNe, Nat.reduceEqDiff, Nat.reduceLT, reduceIte, reduceCtorEq, Int.reduceToNat, tiAll, List.length_map, List.getElem_map, ViewD.k])
  | ((with_reducible refine lexd_nil ?_ ?_); focus (first | kernel_rfl | with_unfolding_all rfl))
  | ((with_reducible refine guard_go ?_); refine lex_gone rfl rfl ?_; simp only [EVB, Nat.reduceEqDiff, reduceIte])
  | ((first | ((with_reducible refine guard_go ?_); refine lex_guard rfl rfl (fun hg KS hKS => ?_) (fun hg => ?_)) | ((with_reducible refine guardd_go ?_); refine lexd_guard rfl rfl (fun hg KS hKS => ?_) (fun hg => ?_)) | fail) <;> first | (exact absurd hg (by decide)) | ((try simp only [CNL] at hg) <;> first | (exfalso; omega) | (exact (tf (by assumption) hg).elim) | (exact (tf hg (by assumption)).elim) | ((try with_reducible (have hT0 : True := hg; clear hT0 hg)); try simp only [EVB, Nat.reduceEqDiff, reduceIte])))
  | ((with_reducible refine hKS _ _ _ _ ?_); clear hKS; clear KS; simp only [EVB, Nat.reduceEqDiff, reduceIte])
  | ((first | ((with_reducible refine cond_go ?_); refine cond_k rfl (fun hc => ?_) (fun hc => ?_)) | (with_reducible refine And.intro (fun hc => ?_) (fun hc => ?_)) | fail) <;> first | (exact absurd hc (by decide)) | ((try simp only [CNL] at hc) <;> first | (exfalso; omega) | (exact (tf (by assumption) hc).elim) | (exact (tf hc (by assumption)).elim) | skip))
  | ((with_reducible refine And.intro ?_ ?_); focus (first | omega | exact u8_le _ | exact flat_intK _ | exact flat_bytK _ | (fail) | decide | (simp only [List.length_map, List.getElem_map, ViewD.k]; done)))
  | ((with_reducible refine ex_p ?_ (fun hh => ?_)); focus (first | omega | (simp only [List.length_map, List.getElem_map, ViewD.k]; omega)))
  | (with_reducible first | refine skip_k ?_ | refine exit_k ?_ | refine ret_k ?_ | fail)
  | ((with_reducible refine hK _ _ _ ?_); clear hK hE hT; clear K)
  | ((with_reducible first | refine hE _ _ _ _ ?_ | refine hT _ _ _ ?_ | fail); (first | (clear hK hE hT; clear K) | (clear hR hE hT; clear K) | skip); try simp only [Nat.reduceEqDiff, if_true, if_false, reduceIte])
  | ((with_reducible apply_assumption -symm -exfalso); try simp only [Nat.reduceEqDiff, if_true, if_false, reduceIte])
  | fail)
                (refine hR.out ⟨k + 1, by omega⟩ _ _ _ (by simp only; omega) ?_; (refine wk_a ?_; simp only [MAB, Nat.reduceEqDiff, Nat.reduceAdd, reduceIte, reduceCtorEq]; refine ⟨rfl, rfl, (by decide), ?_, ?_⟩; all_goals (first | (simp only [WKB, Nat.reduceEqDiff, reduceIte, List.forall_mem_cons, List.not_mem_nil, false_implies, implies_true, e, intK, Nat.reduceLT, Nat.zero_lt_succ]; done) | (simp [WKB, Nat.reduceEqDiff, reduceIte, List.forall_mem_cons, List.not_mem_nil, false_implies, implies_true, e, intK]; done) | simp only [WKB, Nat.reduceEqDiff, reduceIte, List.forall_mem_cons, List.not_mem_nil, false_implies, implies_true])))
              · rw [lab_tf hin hout] at e
                repeat' (first
  | (with_reducible first | refine seq_k fun K hK hE hT => ?_ | refine block_k fun K hK hE hT => ?_ | refine region_k ?_ | refine lex_nil ?_ | fail)
  | ((with_reducible refine draw_k ?_ ?_); focus (first | rfl | kernel_rfl))
  | ((with_reducible first | refine lex_move ?_ | refine lex_assign ?_); simp only [EVB, Nat.reduceEqDiff, reduceIte])
  | (with_reducible first | refine lex_cons fun KS hKS => ?_ | refine lexd_cons fun KS hKS => ?_ | fail)
  | ((with_reducible refine call_go ?_); fail)
  | ((with_reducible refine step_go ?_); (fail_if_success with_reducible refine call_go ?_); simp only [ENB, Nat.reduceAdd, Nat.reduceSub, Nat.reduceMul, Nat.reduceLeDiff, Nat.reduceBEq, Nat.reduceBNe, Nat.reduceEqDiff, Nat.reduceLT, reduceIte, reduceCtorEq, Int.reduceToNat, tiAll, List.length_map, List.getElem_map, ViewD.k])
  | ((with_reducible refine lexd_nil ?_ ?_); focus (first | kernel_rfl | with_unfolding_all rfl))
  | ((with_reducible refine guard_go ?_); refine lex_gone rfl rfl ?_; simp only [EVB, Nat.reduceEqDiff, reduceIte])
  | ((first | ((with_reducible refine guard_go ?_); refine lex_guard rfl rfl (fun hg KS hKS => ?_) (fun hg => ?_)) | ((with_reducible refine guardd_go ?_); refine lexd_guard rfl rfl (fun hg KS hKS => ?_) (fun hg => ?_)) | fail) <;> first | (exact absurd hg (by decide)) | ((try simp only [CNL] at hg) <;> first | (exfalso; omega) | (exact (tf (by assumption) hg).elim) | (exact (tf hg (by assumption)).elim) | ((try with_reducible (have hT0 : True := hg; clear hT0 hg)); try simp only [EVB, Nat.reduceEqDiff, reduceIte])))
  | ((with_reducible refine hKS _ _ _ _ ?_); clear hKS; clear KS; simp only [EVB, Nat.reduceEqDiff, reduceIte])
  | ((first | ((with_reducible refine cond_go ?_); refine cond_k rfl (fun hc => ?_) (fun hc => ?_)) | (with_reducible refine And.intro (fun hc => ?_) (fun hc => ?_)) | fail) <;> first | (exact absurd hc (by decide)) | ((try simp only [CNL] at hc) <;> first | (exfalso; omega) | (exact (tf (by assumption) hc).elim) | (exact (tf hc (by assumption)).elim) | skip))
  | ((with_reducible refine And.intro ?_ ?_); focus (first | omega | exact u8_le _ | exact flat_intK _ | exact flat_bytK _ | (fail) | decide | (simp only [List.length_map, List.getElem_map, ViewD.k]; done)))
  | ((with_reducible refine ex_p ?_ (fun hh => ?_)); focus (first | omega | (simp only [List.length_map, List.getElem_map, ViewD.k]; omega)))
  | (with_reducible first | refine skip_k ?_ | refine exit_k ?_ | refine ret_k ?_ | fail)
  | ((with_reducible refine hK _ _ _ ?_); clear hK hE hT; clear K)
  | ((with_reducible first | refine hE _ _ _ _ ?_ | refine hT _ _ _ ?_ | fail); (first | (clear hK hE hT; clear K) | (clear hR hE hT; clear K) | skip); try simp only [Nat.reduceEqDiff, if_true, if_false, reduceIte])
  | ((with_reducible apply_assumption -symm -exfalso); try simp only [Nat.reduceEqDiff, if_true, if_false, reduceIte])
  | fail)
                (refine hR.out ⟨k + 1, by omega⟩ _ _ _ (by simp only; omega) ?_; (refine wk_a ?_; simp only [MAB, Nat.reduceEqDiff, Nat.reduceAdd, reduceIte, reduceCtorEq]; refine ⟨rfl, rfl, (by decide), ?_, ?_⟩; all_goals (first | (simp only [WKB, Nat.reduceEqDiff, reduceIte, List.forall_mem_cons, List.not_mem_nil, false_implies, implies_true, e, intK, Nat.reduceLT, Nat.zero_lt_succ]; done) | (simp [WKB, Nat.reduceEqDiff, reduceIte, List.forall_mem_cons, List.not_mem_nil, false_implies, implies_true, e, intK]; done) | simp only [WKB, Nat.reduceEqDiff, reduceIte, List.forall_mem_cons, List.not_mem_nil, false_implies, implies_true])))
              · rw [lab_ft hin hout] at e
                repeat' (first
  | (with_reducible first | refine seq_k fun K hK hE hT => ?_ | refine block_k fun K hK hE hT => ?_ | refine region_k ?_ | refine lex_nil ?_ | fail)
  | ((with_reducible refine draw_k ?_ ?_); focus (first | rfl | kernel_rfl))
  | ((with_reducible first | refine lex_move ?_ | refine lex_assign ?_); simp only [EVB, Nat.reduceEqDiff, reduceIte])
  | (with_reducible first | refine lex_cons fun KS hKS => ?_ | refine lexd_cons fun KS hKS => ?_ | fail)
  | ((with_reducible refine call_go ?_); fail)
  | ((with_reducible refine step_go ?_); (fail_if_success with_reducible refine call_go ?_); simp only [ENB, Nat.reduceAdd, Nat.reduceSub, Nat.reduceMul, Nat.reduceLeDiff, Nat.reduceBEq, Nat.reduceBNe, Nat.reduceEqDiff, Nat.reduceLT, reduceIte, reduceCtorEq, Int.reduceToNat, tiAll, List.length_map, List.getElem_map, ViewD.k])
  | ((with_reducible refine lexd_nil ?_ ?_); focus (first | kernel_rfl | with_unfolding_all rfl))
  | ((with_reducible refine guard_go ?_); refine lex_gone rfl rfl ?_; simp only [EVB, Nat.reduceEqDiff, reduceIte])
  | ((first | ((with_reducible refine guard_go ?_); refine lex_guard rfl rfl (fun hg KS hKS => ?_) (fun hg => ?_)) | ((with_reducible refine guardd_go ?_); refine lexd_guard rfl rfl (fun hg KS hKS => ?_) (fun hg => ?_)) | fail) <;> first | (exact absurd hg (by decide)) | ((try simp only [CNL] at hg) <;> first | (exfalso; omega) | (exact (tf (by assumption) hg).elim) | (exact (tf hg (by assumption)).elim) | ((try with_reducible (have hT0 : True := hg; clear hT0 hg)); try simp only [EVB, Nat.reduceEqDiff, reduceIte])))
  | ((with_reducible refine hKS _ _ _ _ ?_); clear hKS; clear KS; simp only [EVB, Nat.reduceEqDiff, reduceIte])
  | ((first | ((with_reducible refine cond_go ?_); refine cond_k rfl (fun hc => ?_) (fun hc => ?_)) | (with_reducible refine And.intro (fun hc => ?_) (fun hc => ?_)) | fail) <;> first | (exact absurd hc (by decide)) | ((try simp only [CNL] at hc) <;> first | (exfalso; omega) | (exact (tf (by assumption) hc).elim) | (exact (tf hc (by assumption)).elim) | skip))
  | ((with_reducible refine And.intro ?_ ?_); focus (first | omega | exact u8_le _ | exact flat_intK _ | exact flat_bytK _ | (fail) | decide | (simp only [List.length_map, List.getElem_map, ViewD.k]; done)))
  | ((with_reducible refine ex_p ?_ (fun hh => ?_)); focus (first | omega | (simp only [List.length_map, List.getElem_map, ViewD.k]; omega)))
  | (with_reducible first | refine skip_k ?_ | refine exit_k ?_ | refine ret_k ?_ | fail)
  | ((with_reducible refine hK _ _ _ ?_); clear hK hE hT; clear K)
  | ((with_reducible first | refine hE _ _ _ _ ?_ | refine hT _ _ _ ?_ | fail); (first | (clear hK hE hT; clear K) | (clear hR hE hT; clear K) | skip); try simp only [Nat.reduceEqDiff, if_true, if_false, reduceIte])
  | ((with_reducible apply_assumption -symm -exfalso); try simp only [Nat.reduceEqDiff, if_true, if_false, reduceIte])
  | fail)
                (refine hR.out ⟨k + 1, by omega⟩ _ _ _ (by simp only; omega) ?_; (refine wk_a ?_; simp only [MAB, Nat.reduceEqDiff, Nat.reduceAdd, reduceIte, reduceCtorEq]; refine ⟨rfl, rfl, (by decide), ?_, ?_⟩; all_goals (first | (simp only [WKB, Nat.reduceEqDiff, reduceIte, List.forall_mem_cons, List.not_mem_nil, false_implies, implies_true, e, intK, Nat.reduceLT, Nat.zero_lt_succ]; done) | (simp [WKB, Nat.reduceEqDiff, reduceIte, List.forall_mem_cons, List.not_mem_nil, false_implies, implies_true, e, intK]; done) | simp only [WKB, Nat.reduceEqDiff, reduceIte, List.forall_mem_cons, List.not_mem_nil, false_implies, implies_true])))
              · rw [lab_ff hin hout] at e
                repeat' (first
  | (with_reducible first | refine seq_k fun K hK hE hT => ?_ | refine block_k fun K hK hE hT => ?_ | refine region_k ?_ | refine lex_nil ?_ | fail)
  | ((with_reducible refine draw_k ?_ ?_); focus (first | rfl | kernel_rfl))
  | ((with_reducible first | refine lex_move ?_ | refine lex_assign ?_); simp only [EVB, Nat.reduceEqDiff, reduceIte])
  | (with_reducible first | refine lex_cons fun KS hKS => ?_ | refine lexd_cons fun KS hKS => ?_ | fail)
  | ((with_reducible refine call_go ?_); fail)
  | ((with_reducible refine step_go ?_); (fail_if_success with_reducible refine call_go ?_); simp only [ENB, Nat.reduceAdd, Nat.reduceSub, Nat.reduceMul, Nat.reduceLeDiff, Nat.reduceBEq, Nat.reduceBNe, Nat.reduceEqDiff, Nat.reduceLT, reduceIte, reduceCtorEq, Int.reduceToNat, tiAll, List.length_map, List.getElem_map, ViewD.k])
  | ((with_reducible refine lexd_nil ?_ ?_); focus (first | kernel_rfl | with_unfolding_all rfl))
  | ((with_reducible refine guard_go ?_); refine lex_gone rfl rfl ?_; simp only [EVB, Nat.reduceEqDiff, reduceIte])
  | ((first | ((with_reducible refine guard_go ?_); refine lex_guard rfl rfl (fun hg KS hKS => ?_) (fun hg => ?_)) | ((with_reducible refine guardd_go ?_); refine lexd_guard rfl rfl (fun hg KS hKS => ?_) (fun hg => ?_)) | fail) <;> first | (exact absurd hg (by decide)) | ((try simp only [CNL] at hg) <;> first | (exfalso; omega) | (exact (tf (by assumption) hg).elim) | (exact (tf hg (by assumption)).elim) | ((try with_reducible (have hT0 : True := hg; clear hT0 hg)); try simp only [EVB, Nat.reduceEqDiff, reduceIte])))
  | ((with_reducible refine hKS _ _ _ _ ?_); clear hKS; clear KS; simp only [EVB, Nat.reduceEqDiff, reduceIte])
  | ((first | ((with_reducible refine cond_go ?_); refine cond_k rfl (fun hc => ?_) (fun hc => ?_)) | (with_reducible refine And.intro (fun hc => ?_) (fun hc => ?_)) | fail) <;> first | (exact absurd hc (by decide)) | ((try simp only [CNL] at hc) <;> first | (exfalso; omega) | (exact (tf (by assumption) hc).elim) | (exact (tf hc (by assumption)).elim) | skip))
  | ((with_reducible refine And.intro ?_ ?_); focus (first | omega | exact u8_le _ | exact flat_intK _ | exact flat_bytK _ | (fail) | decide | (simp only [List.length_map, List.getElem_map, ViewD.k]; done)))
  | ((with_reducible refine ex_p ?_ (fun hh => ?_)); focus (first | omega | (simp only [List.length_map, List.getElem_map, ViewD.k]; omega)))
  | (with_reducible first | refine skip_k ?_ | refine exit_k ?_ | refine ret_k ?_ | fail)
  | ((with_reducible refine hK _ _ _ ?_); clear hK hE hT; clear K)
  | ((with_reducible first | refine hE _ _ _ _ ?_ | refine hT _ _ _ ?_ | fail); (first | (clear hK hE hT; clear K) | (clear hR hE hT; clear K) | skip); try simp only [Nat.reduceEqDiff, if_true, if_false, reduceIte])
  | ((with_reducible apply_assumption -symm -exfalso); try simp only [Nat.reduceEqDiff, if_true, if_false, reduceIte])
  | fail)
                (refine hR.out ⟨k + 1, by omega⟩ _ _ _ (by simp only; omega) ?_; (refine wk_a ?_; simp only [MAB, Nat.reduceEqDiff, Nat.reduceAdd, reduceIte, reduceCtorEq]; refine ⟨rfl, rfl, (by decide), ?_, ?_⟩; all_goals (first | (simp only [WKB, Nat.reduceEqDiff, reduceIte, List.forall_mem_cons, List.not_mem_nil, false_implies, implies_true, e, intK, Nat.reduceLT, Nat.zero_lt_succ]; done) | (simp [WKB, Nat.reduceEqDiff, reduceIte, List.forall_mem_cons, List.not_mem_nil, false_implies, implies_true, e, intK]; done) | simp only [WKB, Nat.reduceEqDiff, reduceIte, List.forall_mem_cons, List.not_mem_nil, false_implies, implies_true])))
            · obtain rfl : k = l.length := by omega
              repeat' (first
  | (with_reducible first | refine seq_k fun K hK hE hT => ?_ | refine block_k fun K hK hE hT => ?_ | refine region_k ?_ | refine lex_nil ?_ | fail)
  | ((with_reducible refine draw_k ?_ ?_); focus (first | rfl | kernel_rfl))
  | ((with_reducible first | refine lex_move ?_ | refine lex_assign ?_); simp only [EVB, Nat.reduceEqDiff, reduceIte])
  | (with_reducible first | refine lex_cons fun KS hKS => ?_ | refine lexd_cons fun KS hKS => ?_ | fail)
  | ((with_reducible refine call_go ?_); fail)
  | ((with_reducible refine step_go ?_); (fail_if_success with_reducible refine call_go ?_); simp only [ENB, Nat.reduceAdd, Nat.reduceSub, Nat.reduceMul, Nat.reduceLeDiff, Nat.reduceBEq, Nat.reduceBNe, Nat.reduceEqDiff, Nat.reduceLT, reduceIte, reduceCtorEq, Int.reduceToNat, tiAll, List.length_map, List.getElem_map, ViewD.k])
  | ((with_reducible refine lexd_nil ?_ ?_); focus (first | kernel_rfl | with_unfolding_all rfl))
  | ((with_reducible refine guard_go ?_); refine lex_gone rfl rfl ?_; simp only [EVB, Nat.reduceEqDiff, reduceIte])
  | ((first | ((with_reducible refine guard_go ?_); refine lex_guard rfl rfl (fun hg KS hKS => ?_) (fun hg => ?_)) | ((with_reducible refine guardd_go ?_); refine lexd_guard rfl rfl (fun hg KS hKS => ?_) (fun hg => ?_)) | fail) <;> first | (exact absurd hg (by decide)) | ((try simp only [CNL] at hg) <;> first | (exfalso; omega) | (exact (tf (by assumption) hg).elim) | (exact (tf hg (by assumption)).elim) | ((try with_reducible (have hT0 : True := hg; clear hT0 hg)); try simp only [EVB, Nat.reduceEqDiff, reduceIte])))
  | ((with_reducible refine hKS _ _ _ _ ?_); clear hKS; clear KS; simp only [EVB, Nat.reduceEqDiff, reduceIte])
  | ((first | ((with_reducible refine cond_go ?_); refine cond_k rfl (fun hc => ?_) (fun hc => ?_)) | (with_reducible refine And.intro (fun hc => ?_) (fun hc => ?_)) | fail) <;> first | (exact absurd hc (by decide)) | ((try simp only [CNL] at hc) <;> first | (exfalso; omega) | (exact (tf (by assumption) hc).elim) | (exact (tf hc (by assumption)).elim) | skip))
  | ((with_reducible refine And.intro ?_ ?_); focus (first | omega | exact u8_le _ | exact flat_intK _ | exact flat_bytK _ | (fail) | decide | (simp only [List.length_map, List.getElem_map, ViewD.k]; done)))
  | ((with_reducible refine ex_p ?_ (fun hh => ?_)); focus (first | omega | (simp only [List.length_map, List.getElem_map, ViewD.k]; omega)))
  | (with_reducible first | refine skip_k ?_ | refine exit_k ?_ | refine ret_k ?_ | fail)
  | ((with_reducible refine hK _ _ _ ?_); clear hK hE hT; clear K)
  | ((with_reducible first | refine hE _ _ _ _ ?_ | refine hT _ _ _ ?_ | fail); (first | (clear hK hE hT; clear K) | (clear hR hE hT; clear K) | skip); try simp only [Nat.reduceEqDiff, if_true, if_false, reduceIte])
  | ((with_reducible apply_assumption -symm -exfalso); try simp only [Nat.reduceEqDiff, if_true, if_false, reduceIte])
  | fail)
              (refine post_a hres (.inl rfl) ?_; simp only [RSB, ENB, Nat.reduceAdd, Nat.reduceSub, Nat.reduceMul, Nat.reduceLeDiff, Nat.reduceBEq, Nat.reduceBNe, Nat.reduceEqDiff, Nat.reduceLT, reduceIte, reduceCtorEq, Int.reduceToNat, tiAll, List.take_length, exists_eq_left']; simp only [MAB, Nat.reduceEqDiff, Nat.reduceAdd, reduceIte, reduceCtorEq]; refine ⟨rfl, rfl, ?_, ?_, ?_⟩ <;> (first | rfl | (simp [WKB, Nat.add_comm, List.take_length]; done) | (simp only [WKB, Nat.reduceEqDiff, reduceIte, List.forall_mem_cons, List.not_mem_nil, false_implies, implies_true])))
        · repeat' (first
  | (with_reducible first | refine seq_k fun K hK hE hT => ?_ | refine block_k fun K hK hE hT => ?_ | refine region_k ?_ | refine lex_nil ?_ | fail)
  | ((with_reducible refine draw_k ?_ ?_); focus (first | rfl | kernel_rfl))
  | ((with_reducible first | refine lex_move ?_ | refine lex_assign ?_); simp only [EVB, Nat.reduceEqDiff, reduceIte])
  | (with_reducible first | refine lex_cons fun KS hKS => ?_ | refine lexd_cons fun KS hKS => ?_ | fail)
  | ((with_reducible refine call_go ?_); fail)
  | ((with_reducible refine step_go ?_); (fail_if_success with_reducible refine call_go ?_); simp only [ENB, Nat.reduceAdd, Nat.reduceSub, Nat.reduceMul, Nat.reduceLeDiff, Nat.reduceBEq, Nat.reduceBNe, Nat.reduceEqDiff, Nat.reduceLT, reduceIte, reduceCtorEq, Int.reduceToNat, tiAll, List.length_map, List.getElem_map, ViewD.k])
  | ((with_reducible refine lexd_nil ?_ ?_); focus (first | kernel_rfl | with_unfolding_all rfl))
  | ((with_reducible refine guard_go ?_); refine lex_gone rfl rfl ?_; simp only [EVB, Nat.reduceEqDiff, reduceIte])
  | ((first | ((with_reducible refine guard_go ?_); refine lex_guard rfl rfl (fun hg KS hKS => ?_) (fun hg => ?_)) | ((with_reducible refine guardd_go ?_); refine lexd_guard rfl rfl (fun hg KS hKS => ?_) (fun hg => ?_)) | fail) <;> first | (exact absurd hg (by decide)) | ((try simp only [CNL] at hg) <;> first | (exfalso; omega) | (exact (tf (by assumption) hg).elim) | (exact (tf hg (by assumption)).elim) | ((try with_reducible (have hT0 : True := hg; clear hT0 hg)); try simp only [EVB, Nat.reduceEqDiff, reduceIte])))
  | ((with_reducible refine hKS _ _ _ _ ?_); clear hKS; clear KS; simp only [EVB, Nat.reduceEqDiff, reduceIte])
  | ((first | ((with_reducible refine cond_go ?_); refine cond_k rfl (fun hc => ?_) (fun hc => ?_)) | (with_reducible refine And.intro (fun hc => ?_) (fun hc => ?_)) | fail) <;> first | (exact absurd hc (by decide)) | ((try simp only [CNL] at hc) <;> first | (exfalso; omega) | (exact (tf (by assumption) hc).elim) | (exact (tf hc (by assumption)).elim) | skip))
  | ((with_reducible refine And.intro ?_ ?_); focus (first | omega | exact u8_le _ | exact flat_intK _ | exact flat_bytK _ | (fail) | decide | (simp only [List.length_map, List.getElem_map, ViewD.k]; done)))
  | ((with_reducible refine ex_p ?_ (fun hh => ?_)); focus (first | omega | (simp only [List.length_map, List.getElem_map, ViewD.k]; omega)))
  | (with_reducible first | refine skip_k ?_ | refine exit_k ?_ | refine ret_k ?_ | fail)
  | ((with_reducible refine hK _ _ _ ?_); clear hK hE hT; clear K)
  | ((with_reducible first | refine hE _ _ _ _ ?_ | refine hT _ _ _ ?_ | fail); (first | (clear hK hE hT; clear K) | (clear hR hE hT; clear K) | skip); try simp only [Nat.reduceEqDiff, if_true, if_false, reduceIte])
  | ((with_reducible apply_assumption -symm -exfalso); try simp only [Nat.reduceEqDiff, if_true, if_false, reduceIte])
  | fail)
          refine entry_k (f := 2) rfl rfl (by decide) ?_
          repeat' (first
  | (with_reducible first | refine seq_k fun K hK hE hT => ?_ | refine block_k fun K hK hE hT => ?_ | refine region_k ?_ | refine lex_nil ?_ | fail)
  | ((with_reducible refine draw_k ?_ ?_); focus (first | rfl | kernel_rfl))
  | ((with_reducible first | refine lex_move ?_ | refine lex_assign ?_); simp only [EVB, Nat.reduceEqDiff, reduceIte])
  | (with_reducible first | refine lex_cons fun KS hKS => ?_ | refine lexd_cons fun KS hKS => ?_ | fail)
  | ((with_reducible refine call_go ?_); fail)
  | ((with_reducible refine step_go ?_); (fail_if_success with_reducible refine call_go ?_); simp only [ENB, Nat.reduceAdd, Nat.reduceSub, Nat.reduceMul, Nat.reduceLeDiff, Nat.reduceBEq, Nat.reduceBNe, Nat.reduceEqDiff, Nat.reduceLT, reduceIte, reduceCtorEq, Int.reduceToNat, tiAll, List.length_map, List.getElem_map, ViewD.k])
  | ((with_reducible refine lexd_nil ?_ ?_); focus (first | kernel_rfl | with_unfolding_all rfl))
  | ((with_reducible refine guard_go ?_); refine lex_gone rfl rfl ?_; simp only [EVB, Nat.reduceEqDiff, reduceIte])
  | ((first | ((with_reducible refine guard_go ?_); refine lex_guard rfl rfl (fun hg KS hKS => ?_) (fun hg => ?_)) | ((with_reducible refine guardd_go ?_); refine lexd_guard rfl rfl (fun hg KS hKS => ?_) (fun hg => ?_)) | fail) <;> first | (exact absurd hg (by decide)) | ((try simp only [CNL] at hg) <;> first | (exfalso; omega) | (exact (tf (by assumption) hg).elim) | (exact (tf hg (by assumption)).elim) | ((try with_reducible (have hT0 : True := hg; clear hT0 hg)); try simp only [EVB, Nat.reduceEqDiff, reduceIte])))
  | ((with_reducible refine hKS _ _ _ _ ?_); clear hKS; clear KS; simp only [EVB, Nat.reduceEqDiff, reduceIte])
  | ((first | ((with_reducible refine cond_go ?_); refine cond_k rfl (fun hc => ?_) (fun hc => ?_)) | (with_reducible refine And.intro (fun hc => ?_) (fun hc => ?_)) | fail) <;> first | (exact absurd hc (by decide)) | ((try simp only [CNL] at hc) <;> first | (exfalso; omega) | (exact (tf (by assumption) hc).elim) | (exact (tf hc (by assumption)).elim) | skip))
  | ((with_reducible refine And.intro ?_ ?_); focus (first | omega | exact u8_le _ | exact flat_intK _ | exact flat_bytK _ | (fail) | decide | (simp only [List.length_map, List.getElem_map, ViewD.k]; done)))
  | ((with_reducible refine ex_p ?_ (fun hh => ?_)); focus (first | omega | (simp only [List.length_map, List.getElem_map, ViewD.k]; omega)))
  | (with_reducible first | refine skip_k ?_ | refine exit_k ?_ | refine ret_k ?_ | fail)
  | ((with_reducible refine hK _ _ _ ?_); clear hK hE hT; clear K)
  | ((with_reducible first | refine hE _ _ _ _ ?_ | refine hT _ _ _ ?_ | fail); (first | (clear hK hE hT; clear K) | (clear hR hE hT; clear K) | skip); try simp only [Nat.reduceEqDiff, if_true, if_false, reduceIte])
  | ((with_reducible apply_assumption -symm -exfalso); try simp only [Nat.reduceEqDiff, if_true, if_false, reduceIte])
  | fail)
          all_goals first
            | (have e : stM (told l) (p, m) z = (z, ((told l).count z : Int)) := if_pos (by simp only; omega)
               (refine hR.out ⟨fun a => left a && !(a == z), c2, z, ((told l).count z : Int), ⟨by rw [← e]; exact most_next hm.out hs.out hz⟩, ⟨fun a ha => hs.out a (by rw [Bool.and_eq_true] at ha; exact ha.1)⟩⟩ _ _ _ (by simp only; omega) ?_; (refine wk_a ?_; simp only [MAB, Nat.reduceEqDiff, Nat.reduceAdd, reduceIte, reduceCtorEq]; refine ⟨rfl, rfl, (by decide), ?_, ?_⟩; all_goals (first | (simp only [WKB, Nat.reduceEqDiff, reduceIte, List.forall_mem_cons, List.not_mem_nil, false_implies, implies_true, true_and, Nat.reduceLT, Nat.zero_lt_succ]; done) | (simp [WKB, Nat.reduceEqDiff, reduceIte, List.forall_mem_cons, List.not_mem_nil, false_implies, implies_true, true_and]; done) | simp only [WKB, Nat.reduceEqDiff, reduceIte, List.forall_mem_cons, List.not_mem_nil, false_implies, implies_true]))))
            | (have e : stM (told l) (p, m) z = (p, m) := if_neg (by simp only; omega)
               (refine hR.out ⟨fun a => left a && !(a == z), c2, p, m, ⟨by rw [← e]; exact most_next hm.out hs.out hz⟩, ⟨fun a ha => hs.out a (by rw [Bool.and_eq_true] at ha; exact ha.1)⟩⟩ _ _ _ (by simp only; omega) ?_; (refine wk_a ?_; simp only [MAB, Nat.reduceEqDiff, Nat.reduceAdd, reduceIte, reduceCtorEq]; refine ⟨rfl, rfl, (by decide), ?_, ?_⟩; all_goals (first | (simp only [WKB, Nat.reduceEqDiff, reduceIte, List.forall_mem_cons, List.not_mem_nil, false_implies, implies_true, true_and, Nat.reduceLT, Nat.zero_lt_succ]; done) | (simp [WKB, Nat.reduceEqDiff, reduceIte, List.forall_mem_cons, List.not_mem_nil, false_implies, implies_true, true_and]; done) | simp only [WKB, Nat.reduceEqDiff, reduceIte, List.forall_mem_cons, List.not_mem_nil, false_implies, implies_true]))))

end Go.Proofs.Ytmdajpgemcaefaa
