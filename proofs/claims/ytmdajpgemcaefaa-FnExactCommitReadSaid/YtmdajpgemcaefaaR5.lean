/-
  Contracts: readers; a commit's data. No conditions of its own.
-/
import Derived.Test.YtmdajpgemcaefaaR4
import Derived.Test.YtmdajpgemcaefaaG5
namespace Go.Proofs.Ytmdajpgemcaefaa
set_option linter.unusedSimpArgs false
set_option linter.unusedVariables false
set_option linter.unusedSimpArgs false
set_option linter.unusedVariables false
open Go.RowKit

/-- A reader's state: where it stands, and whether all is well. -/
structure RdS where
  p : Nat
  ok : Bool

def numS (b : List UInt8) (s : RdS) : RdS := if gvK b s.p then ⟨(gvP b s.p).toNat, s.ok⟩ else ⟨s.p, false⟩
def varS (b : List UInt8) (s : RdS) : RdS := if gvK b s.p && s.ok then ⟨(gvP b s.p).toNat, true⟩ else ⟨s.p, false⟩
def varN (b : List UInt8) (s : RdS) : Int := if gvK b s.p && s.ok then gvN b s.p else 0

theorem gv_facts {b : List UInt8} {p : Nat} (h : gvK b p = true) : ∃ n k, gvO b p = some (n, k) ∧ gvN b p = n ∧ gvP b p = ((p + k : Nat) : Int) ∧ p + k ≤ b.length ∧ n ≤ 281474976710655 ∧ varB n = (b.drop p).take k := by
  have h0 := h
  unfold gvK at h
  obtain ⟨⟨n, k⟩, hq⟩ := Option.isSome_iff_exists.1 h
  obtain ⟨e1, e2, _⟩ := gv_some hq
  refine ⟨n, k, hq, e1, e2, ?_⟩
  unfold gvO at hq
  split at hq
  case isFalse => cases hq
  case isTrue hp =>
    unfold getD7 at hq
    split at hq
    · cases hq
    · rename_i j hj
      unfold endI at hj
      rw [List.find?_range_eq_some] at hj
      obtain ⟨h1, h2, h3⟩ := hj
      rw [decide_eq_true_eq] at h1
      obtain ⟨h4, h5⟩ := h1
      have h2' : j < 7 := by simpa using h2
      rw [List.length_drop] at h4
      have hl : p + j < b.length := by omega
      rw [drop_getD hl] at h5
      have hhi : hiTo b p j := fun i hi => by
        have := h3 i hi
        rw [Bool.not_eq_true', decide_eq_false_iff_not] at this
        rw [List.length_drop] at this
        omega
      split at hq
      · cases hq
      · rename_i hno
        simp only [Option.some.injEq, Prod.mk.injEq] at hq
        obtain ⟨rfl, rfl⟩ := hq
        have hc := (canon_iff hl hhi h5).2 (by
          rw [drop_getD hl] at hno
          by_cases hj0 : j = 0
          · exact .inl hj0
          · refine .inr fun h0 => hno (.inl ⟨?_, by omega⟩)
            rw [← u8_of h0]; rfl)
        exact ⟨by omega, by omega, hc⟩

theorem numS_le {b : List UInt8} {s : RdS} (h : s.p ≤ b.length) : (numS b s).p ≤ b.length := by
  unfold numS
  split
  · rename_i hk
    obtain ⟨n, k, _, _, e, hle, _⟩ := gv_facts hk
    rw [e]
    show ((s.p + k : Nat) : Int).toNat ≤ b.length
    omega
  · exact h
theorem varS_le {b : List UInt8} {s : RdS} (h : s.p ≤ b.length) : (varS b s).p ≤ b.length := by
  unfold varS
  split
  · rename_i hk
    rw [Bool.and_eq_true] at hk
    obtain ⟨n, k, _, _, e, hle, _⟩ := gv_facts hk.1
    rw [e]
    show ((s.p + k : Nat) : Int).toNat ≤ b.length
    omega
  · exact h

set_option maxHeartbeats 2000000 in
theorem num_k (b : List UInt8) (s : RdS) (hb : b.length ≤ 1048576) (hp : s.p ≤ b.length) : FnOK Try.prog 107 ⟨2, [(0, some (.ro (b.map bytK))), (1, some (.box 137 [.sl 0 1 0 b.length, .v (.int .i64 (s.p : Int)), .v (.bool s.ok)]))], [.c (.ptr 1 0 0)], .c (.v (.int .i64 (gvN b s.p))),
    [(1, some (.box 137 [.sl 0 1 0 b.length, .v (.int .i64 ((numS b s).p : Int)), .v (.bool (numS b s).ok)]))], 2⟩ := by
  have c := implGetVar_k b s.p (by omega) (by omega)
  cases hk : gvK b s.p with
  | false =>
    have e : numS b s = ⟨s.p, false⟩ := by unfold numS; rw [hk]; rfl
    have e0 : gvN b s.p = 0 := by
      have : gvO b s.p = none := by unfold gvK at hk; cases h : gvO b s.p <;> simp_all
      exact (gv_none this).1
    rw [hk] at c
    rw [e, e0]
    refine fnOK_of true mixed Try.func107 rfl (by rfl) (by rfl) ?_
    have hres := congrArg Array.toList Try.results107
    simp only [Try.ntmps107, BGB, Nat.reduceAdd, Nat.reduceSub]
    repeat' (first | (with_reducible first | refine seq_k fun K hK hE hT => ?_ | refine block_k fun K hK hE hT => ?_ | refine region_k ?_ | refine lex_nil ?_ | fail) | ((with_reducible refine draw_k ?_ ?_); focus (first | rfl | kernel_rfl)) | ((with_reducible first | refine lex_move ?_ | refine lex_assign ?_); simp only [EVB, Nat.reduceEqDiff, reduceIte]) | (with_reducible first | refine lex_cons fun KS hKS => ?_ | refine lexd_cons fun KS hKS => ?_ | fail) | ((with_reducible refine call_go ?_); (first | ((first | refine call_a (c) rfl rfl ?_ | fail); simp only [ENB, Nat.reduceAdd, Nat.reduceSub, Nat.reduceMul, Nat.reduceLeDiff, Nat.reduceBEq, Nat.reduceBNe, Nat.reduceEqDiff, Nat.reduceLT, reduceIte, reduceCtorEq, Int.reduceToNat, tiAll, List.length_map, List.getElem_map, bytK]; simp only [MAB, Nat.reduceEqDiff, Nat.reduceAdd, reduceIte, reduceCtorEq]; refine ⟨rfl, ?_, ?_, ?_, rfl, ?_, ?_, ?_, ?_⟩; (iterate 6 (focus (first | rfl | (simp [CXB, map_take, List.length_map, List.getElem_map, bytK]; done) | (simp [CXB, List.length_map, List.getElem_map, bytK]; omega) | (dsimp only; omega)))); simp only [EFB, Nat.reduceSub, Nat.reduceAdd, Nat.reduceLT, reduceIte]) | fail)) | ((with_reducible refine step_go ?_); (fail_if_success with_reducible refine call_go ?_); simp only [ENB, Nat.reduceAdd, Nat.reduceSub, Nat.reduceMul, Nat.reduceLeDiff, Nat.reduceBEq, Nat.reduceBNe, Nat.reduceEqDiff, Nat.reduceLT, reduceIte, reduceCtorEq, Int.reduceToNat, tiAll, List.length_map, List.getElem_map, bytK]) | ((with_reducible refine lexd_nil ?_ ?_); focus (first | kernel_rfl | with_unfolding_all rfl)) | ((with_reducible refine guard_go ?_); refine lex_gone rfl rfl ?_; simp only [EVB, Nat.reduceEqDiff, reduceIte]) | ((first | ((with_reducible refine guard_go ?_); refine lex_guard rfl rfl (fun hg KS hKS => ?_) (fun hg => ?_)) | ((with_reducible refine guardd_go ?_); refine lexd_guard rfl rfl (fun hg KS hKS => ?_) (fun hg => ?_)) | ((with_reducible refine cond_go ?_); refine cond_k rfl (fun hg => ?_) (fun hg => ?_)) | (with_reducible refine And.intro (fun hg => ?_) (fun hg => ?_)) | fail) <;> first | (exact absurd hg (by decide)) | ((try simp only [CNL] at hg) <;> first | (exfalso; omega) | (exact (tf (by assumption) hg).elim) | (exact (tf hg (by assumption)).elim) | ((try with_reducible (have hT0 : True := hg; clear hT0 hg)); first | (with_reducible refine wpc_go ?_) | (try simp only [EVB, Nat.reduceEqDiff, reduceIte])))) | ((with_reducible refine hKS _ _ _ _ ?_); clear hKS; clear KS; simp only [EVB, Nat.reduceEqDiff, reduceIte]) | ((with_reducible refine And.intro ?_ ?_); focus (first | omega | exact u8_le _ | exact flat_intK _ | exact flat_bytK _ | (fail) | decide | (simp only [List.length_map, List.getElem_map, bytK]; done))) | ((with_reducible refine ex_p ?_ (fun hh => ?_)); focus (first | omega | (simp only [List.length_map, List.getElem_map, bytK]; omega))) | (with_reducible first | refine skip_k ?_ | refine exit_k ?_ | refine ret_k ?_ | fail) | ((with_reducible refine hK _ _ _ ?_); clear hK hE hT; clear K) | ((with_reducible first | refine hE _ _ _ _ ?_ | refine hT _ _ _ ?_ | fail); (first | (clear hK hE hT; clear K) | (clear hR hE hT; clear K) | skip); try simp only [Nat.reduceEqDiff, IFB, reduceIte]) | ((with_reducible apply_assumption -symm -exfalso); try simp only [Nat.reduceEqDiff, IFB, reduceIte]) | fail)
    all_goals (refine post_a hres (.inl rfl) ?_; simp only [RSB, ENB, Nat.reduceAdd, Nat.reduceSub, Nat.reduceMul, Nat.reduceLeDiff, Nat.reduceBEq, Nat.reduceBNe, Nat.reduceEqDiff, Nat.reduceLT, reduceIte, reduceCtorEq, Int.reduceToNat, tiAll, true_and]; simp only [MAB, Nat.reduceEqDiff, Nat.reduceAdd, reduceIte, reduceCtorEq]; refine ⟨rfl, rfl, ?_, ?_, ?_⟩ <;> (first | rfl | (simp [WKB, Nat.add_comm, true_and]; done) | (simp only [WKB, Nat.reduceEqDiff, reduceIte])))
  | true =>
    obtain ⟨n, k, _, e1, e2, hle, _⟩ := gv_facts hk
    have e : numS b s = ⟨s.p + k, s.ok⟩ := by unfold numS; rw [hk, e2]; rfl
    rw [hk, e1, e2] at c
    rw [e, e1]
    refine fnOK_of true mixed Try.func107 rfl (by rfl) (by rfl) ?_
    have hres := congrArg Array.toList Try.results107
    simp only [Try.ntmps107, BGB, Nat.reduceAdd, Nat.reduceSub]
    repeat' (first | (with_reducible first | refine seq_k fun K hK hE hT => ?_ | refine block_k fun K hK hE hT => ?_ | refine region_k ?_ | refine lex_nil ?_ | fail) | ((with_reducible refine draw_k ?_ ?_); focus (first | rfl | kernel_rfl)) | ((with_reducible first | refine lex_move ?_ | refine lex_assign ?_); simp only [EVB, Nat.reduceEqDiff, reduceIte]) | (with_reducible first | refine lex_cons fun KS hKS => ?_ | refine lexd_cons fun KS hKS => ?_ | fail) | ((with_reducible refine call_go ?_); (first | ((first | refine call_a (c) rfl rfl ?_ | fail); simp only [ENB, Nat.reduceAdd, Nat.reduceSub, Nat.reduceMul, Nat.reduceLeDiff, Nat.reduceBEq, Nat.reduceBNe, Nat.reduceEqDiff, Nat.reduceLT, reduceIte, reduceCtorEq, Int.reduceToNat, tiAll, List.length_map, List.getElem_map, bytK]; simp only [MAB, Nat.reduceEqDiff, Nat.reduceAdd, reduceIte, reduceCtorEq]; refine ⟨rfl, ?_, ?_, ?_, rfl, ?_, ?_, ?_, ?_⟩; (iterate 6 (focus (first | rfl | (simp [CXB, map_take, List.length_map, List.getElem_map, bytK]; done) | (simp [CXB, List.length_map, List.getElem_map, bytK]; omega) | (dsimp only; omega)))); simp only [EFB, Nat.reduceSub, Nat.reduceAdd, Nat.reduceLT, reduceIte]) | fail)) | ((with_reducible refine step_go ?_); (fail_if_success with_reducible refine call_go ?_); simp only [ENB, Nat.reduceAdd, Nat.reduceSub, Nat.reduceMul, Nat.reduceLeDiff, Nat.reduceBEq, Nat.reduceBNe, Nat.reduceEqDiff, Nat.reduceLT, reduceIte, reduceCtorEq, Int.reduceToNat, tiAll, List.length_map, List.getElem_map, bytK]) | ((with_reducible refine lexd_nil ?_ ?_); focus (first | kernel_rfl | with_unfolding_all rfl)) | ((with_reducible refine guard_go ?_); refine lex_gone rfl rfl ?_; simp only [EVB, Nat.reduceEqDiff, reduceIte]) | ((first | ((with_reducible refine guard_go ?_); refine lex_guard rfl rfl (fun hg KS hKS => ?_) (fun hg => ?_)) | ((with_reducible refine guardd_go ?_); refine lexd_guard rfl rfl (fun hg KS hKS => ?_) (fun hg => ?_)) | ((with_reducible refine cond_go ?_); refine cond_k rfl (fun hg => ?_) (fun hg => ?_)) | (with_reducible refine And.intro (fun hg => ?_) (fun hg => ?_)) | fail) <;> first | (exact absurd hg (by decide)) | ((try simp only [CNL] at hg) <;> first | (exfalso; omega) | (exact (tf (by assumption) hg).elim) | (exact (tf hg (by assumption)).elim) | ((try with_reducible (have hT0 : True := hg; clear hT0 hg)); first | (with_reducible refine wpc_go ?_) | (try simp only [EVB, Nat.reduceEqDiff, reduceIte])))) | ((with_reducible refine hKS _ _ _ _ ?_); clear hKS; clear KS; simp only [EVB, Nat.reduceEqDiff, reduceIte]) | ((with_reducible refine And.intro ?_ ?_); focus (first | omega | exact u8_le _ | exact flat_intK _ | exact flat_bytK _ | (fail) | decide | (simp only [List.length_map, List.getElem_map, bytK]; done))) | ((with_reducible refine ex_p ?_ (fun hh => ?_)); focus (first | omega | (simp only [List.length_map, List.getElem_map, bytK]; omega))) | (with_reducible first | refine skip_k ?_ | refine exit_k ?_ | refine ret_k ?_ | fail) | ((with_reducible refine hK _ _ _ ?_); clear hK hE hT; clear K) | ((with_reducible first | refine hE _ _ _ _ ?_ | refine hT _ _ _ ?_ | fail); (first | (clear hK hE hT; clear K) | (clear hR hE hT; clear K) | skip); try simp only [Nat.reduceEqDiff, IFB, reduceIte]) | ((with_reducible apply_assumption -symm -exfalso); try simp only [Nat.reduceEqDiff, IFB, reduceIte]) | fail)
    all_goals (refine post_a hres (.inl rfl) ?_; simp only [RSB, ENB, Nat.reduceAdd, Nat.reduceSub, Nat.reduceMul, Nat.reduceLeDiff, Nat.reduceBEq, Nat.reduceBNe, Nat.reduceEqDiff, Nat.reduceLT, reduceIte, reduceCtorEq, Int.reduceToNat, tiAll, true_and]; simp only [MAB, Nat.reduceEqDiff, Nat.reduceAdd, reduceIte, reduceCtorEq]; refine ⟨rfl, rfl, ?_, ?_, ?_⟩ <;> (first | rfl | (simp [WKB, Nat.add_comm, true_and]; done) | (simp only [WKB, Nat.reduceEqDiff, reduceIte])))

set_option maxHeartbeats 2000000 in
theorem l08Var_k (b : List UInt8) (s : RdS) (hb : b.length ≤ 1048576) (hp : s.p ≤ b.length) : FnOK Try.prog 104 ⟨2, [(0, some (.ro (b.map bytK))), (1, some (.box 132 [.sl 0 1 0 b.length, .v (.int .i64 (s.p : Int)), .v (.bool (!s.ok))]))], [.c (.ptr 1 0 0)], .c (.v (.int .i64 (varN b s))),
    [(1, some (.box 132 [.sl 0 1 0 b.length, .v (.int .i64 ((varS b s).p : Int)), .v (.bool (!(varS b s).ok))]))], 2⟩ := by
  have c := specGetVar_k b s.p (by omega) (by omega)
  cases hk : gvK b s.p with
  | false =>
    have e : varS b s = ⟨s.p, false⟩ := by unfold varS; rw [hk]; rfl
    have e0 : varN b s = 0 := by unfold varN; rw [hk]; rfl
    rw [hk] at c
    rw [e, e0]
    refine fnOK_of true mixed Try.func104 rfl (by rfl) (by rfl) ?_
    have hres := congrArg Array.toList Try.results104
    simp only [Try.ntmps104, BGB, Nat.reduceAdd, Nat.reduceSub]
    repeat' (first | (with_reducible first | refine seq_k fun K hK hE hT => ?_ | refine block_k fun K hK hE hT => ?_ | refine region_k ?_ | refine lex_nil ?_ | fail) | ((with_reducible refine draw_k ?_ ?_); focus (first | rfl | kernel_rfl)) | ((with_reducible first | refine lex_move ?_ | refine lex_assign ?_); simp only [EVB, Nat.reduceEqDiff, reduceIte]) | (with_reducible first | refine lex_cons fun KS hKS => ?_ | refine lexd_cons fun KS hKS => ?_ | fail) | ((with_reducible refine call_go ?_); (first | ((first | refine call_a (c) rfl rfl ?_ | fail); simp only [ENB, Nat.reduceAdd, Nat.reduceSub, Nat.reduceMul, Nat.reduceLeDiff, Nat.reduceBEq, Nat.reduceBNe, Nat.reduceEqDiff, Nat.reduceLT, reduceIte, reduceCtorEq, Int.reduceToNat, tiAll, List.length_map, List.getElem_map, bytK]; simp only [MAB, Nat.reduceEqDiff, Nat.reduceAdd, reduceIte, reduceCtorEq]; refine ⟨rfl, ?_, ?_, ?_, rfl, ?_, ?_, ?_, ?_⟩; (iterate 6 (focus (first | rfl | (simp [CXB, map_take, List.length_map, List.getElem_map, bytK]; done) | (simp [CXB, List.length_map, List.getElem_map, bytK]; omega) | (dsimp only; omega)))); simp only [EFB, Nat.reduceSub, Nat.reduceAdd, Nat.reduceLT, reduceIte]) | fail)) | ((with_reducible refine step_go ?_); (fail_if_success with_reducible refine call_go ?_); simp only [ENB, Nat.reduceAdd, Nat.reduceSub, Nat.reduceMul, Nat.reduceLeDiff, Nat.reduceBEq, Nat.reduceBNe, Nat.reduceEqDiff, Nat.reduceLT, reduceIte, reduceCtorEq, Int.reduceToNat, tiAll, List.length_map, List.getElem_map, bytK]) | ((with_reducible refine lexd_nil ?_ ?_); focus (first | kernel_rfl | with_unfolding_all rfl)) | ((with_reducible refine guard_go ?_); refine lex_gone rfl rfl ?_; simp only [EVB, Nat.reduceEqDiff, reduceIte]) | ((first | ((with_reducible refine guard_go ?_); refine lex_guard rfl rfl (fun hg KS hKS => ?_) (fun hg => ?_)) | ((with_reducible refine guardd_go ?_); refine lexd_guard rfl rfl (fun hg KS hKS => ?_) (fun hg => ?_)) | ((with_reducible refine cond_go ?_); refine cond_k rfl (fun hg => ?_) (fun hg => ?_)) | (with_reducible refine And.intro (fun hg => ?_) (fun hg => ?_)) | fail) <;> first | (exact absurd hg (by decide)) | ((try simp only [CNL] at hg) <;> first | (exfalso; omega) | (exact (tf (by assumption) hg).elim) | (exact (tf hg (by assumption)).elim) | ((try with_reducible (have hT0 : True := hg; clear hT0 hg)); first | (with_reducible refine wpc_go ?_) | (try simp only [EVB, Nat.reduceEqDiff, reduceIte])))) | ((with_reducible refine hKS _ _ _ _ ?_); clear hKS; clear KS; simp only [EVB, Nat.reduceEqDiff, reduceIte]) | ((with_reducible refine And.intro ?_ ?_); focus (first | omega | exact u8_le _ | exact flat_intK _ | exact flat_bytK _ | (fail) | decide | (simp only [List.length_map, List.getElem_map, bytK]; done))) | ((with_reducible refine ex_p ?_ (fun hh => ?_)); focus (first | omega | (simp only [List.length_map, List.getElem_map, bytK]; omega))) | (with_reducible first | refine skip_k ?_ | refine exit_k ?_ | refine ret_k ?_ | fail) | ((with_reducible refine hK _ _ _ ?_); clear hK hE hT; clear K) | ((with_reducible first | refine hE _ _ _ _ ?_ | refine hT _ _ _ ?_ | fail); (first | (clear hK hE hT; clear K) | (clear hR hE hT; clear K) | skip); try simp only [Nat.reduceEqDiff, IFB, reduceIte]) | ((with_reducible apply_assumption -symm -exfalso); try simp only [Nat.reduceEqDiff, IFB, reduceIte]) | fail)
    all_goals (refine post_a hres (.inl rfl) ?_; simp only [RSB, ENB, Nat.reduceAdd, Nat.reduceSub, Nat.reduceMul, Nat.reduceLeDiff, Nat.reduceBEq, Nat.reduceBNe, Nat.reduceEqDiff, Nat.reduceLT, reduceIte, reduceCtorEq, Int.reduceToNat, tiAll, true_and]; simp only [MAB, Nat.reduceEqDiff, Nat.reduceAdd, reduceIte, reduceCtorEq]; refine ⟨rfl, rfl, ?_, ?_, ?_⟩ <;> (first | rfl | (simp [WKB, Nat.add_comm, true_and]; done) | (simp only [WKB, Nat.reduceEqDiff, reduceIte])))
  | true =>
    obtain ⟨n, k, _, e1, e2, hle, _⟩ := gv_facts hk
    rw [hk, e1, e2] at c
    obtain ⟨sp, so⟩ := s
    dsimp only at hk e1 e2 hle c ⊢
    cases so with
    | true =>
      have e : varS b ⟨sp, true⟩ = ⟨sp + k, true⟩ := by unfold varS; rw [hk, e2]; rfl
      have e0 : varN b ⟨sp, true⟩ = n := by unfold varN; rw [hk, e1]; rfl
      rw [e, e0]
      refine fnOK_of true mixed Try.func104 rfl (by rfl) (by rfl) ?_
      have hres := congrArg Array.toList Try.results104
      simp only [Try.ntmps104, BGB, Nat.reduceAdd, Nat.reduceSub]
      repeat' (first | (with_reducible first | refine seq_k fun K hK hE hT => ?_ | refine block_k fun K hK hE hT => ?_ | refine region_k ?_ | refine lex_nil ?_ | fail) | ((with_reducible refine draw_k ?_ ?_); focus (first | rfl | kernel_rfl)) | ((with_reducible first | refine lex_move ?_ | refine lex_assign ?_); simp only [EVB, Nat.reduceEqDiff, reduceIte]) | (with_reducible first | refine lex_cons fun KS hKS => ?_ | refine lexd_cons fun KS hKS => ?_ | fail) | ((with_reducible refine call_go ?_); (first | ((first | refine call_a (c) rfl rfl ?_ | fail); simp only [ENB, Nat.reduceAdd, Nat.reduceSub, Nat.reduceMul, Nat.reduceLeDiff, Nat.reduceBEq, Nat.reduceBNe, Nat.reduceEqDiff, Nat.reduceLT, reduceIte, reduceCtorEq, Int.reduceToNat, tiAll, List.length_map, List.getElem_map, bytK, Bool.not_true]; simp only [MAB, Nat.reduceEqDiff, Nat.reduceAdd, reduceIte, reduceCtorEq]; refine ⟨rfl, ?_, ?_, ?_, rfl, ?_, ?_, ?_, ?_⟩; (iterate 6 (focus (first | rfl | (simp [CXB, map_take, List.length_map, List.getElem_map, bytK, Bool.not_true]; done) | (simp [CXB, List.length_map, List.getElem_map, bytK, Bool.not_true]; omega) | (dsimp only; omega)))); simp only [EFB, Nat.reduceSub, Nat.reduceAdd, Nat.reduceLT, reduceIte]) | fail)) | ((with_reducible refine step_go ?_); (fail_if_success with_reducible refine call_go ?_); simp only [ENB, Nat.reduceAdd, Nat.reduceSub, Nat.reduceMul, Nat.reduceLeDiff, Nat.reduceBEq, Nat.reduceBNe, Nat.reduceEqDiff, Nat.reduceLT, reduceIte, reduceCtorEq, Int.reduceToNat, tiAll, List.length_map, List.getElem_map, bytK, Bool.not_true]) | ((with_reducible refine lexd_nil ?_ ?_); focus (first | kernel_rfl | with_unfolding_all rfl)) | ((with_reducible refine guard_go ?_); refine lex_gone rfl rfl ?_; simp only [EVB, Nat.reduceEqDiff, reduceIte]) | ((first | ((with_reducible refine guard_go ?_); refine lex_guard rfl rfl (fun hg KS hKS => ?_) (fun hg => ?_)) | ((with_reducible refine guardd_go ?_); refine lexd_guard rfl rfl (fun hg KS hKS => ?_) (fun hg => ?_)) | ((with_reducible refine cond_go ?_); refine cond_k rfl (fun hg => ?_) (fun hg => ?_)) | (with_reducible refine And.intro (fun hg => ?_) (fun hg => ?_)) | fail) <;> first | (exact absurd hg (by decide)) | ((try simp only [CNL] at hg) <;> first | (exfalso; omega) | (exact (tf (by assumption) hg).elim) | (exact (tf hg (by assumption)).elim) | ((try with_reducible (have hT0 : True := hg; clear hT0 hg)); first | (with_reducible refine wpc_go ?_) | (try simp only [EVB, Nat.reduceEqDiff, reduceIte])))) | ((with_reducible refine hKS _ _ _ _ ?_); clear hKS; clear KS; simp only [EVB, Nat.reduceEqDiff, reduceIte]) | ((with_reducible refine And.intro ?_ ?_); focus (first | omega | exact u8_le _ | exact flat_intK _ | exact flat_bytK _ | (fail) | decide | (simp only [List.length_map, List.getElem_map, bytK, Bool.not_true]; done))) | ((with_reducible refine ex_p ?_ (fun hh => ?_)); focus (first | omega | (simp only [List.length_map, List.getElem_map, bytK, Bool.not_true]; omega))) | (with_reducible first | refine skip_k ?_ | refine exit_k ?_ | refine ret_k ?_ | fail) | ((with_reducible refine hK _ _ _ ?_); clear hK hE hT; clear K) | ((with_reducible first | refine hE _ _ _ _ ?_ | refine hT _ _ _ ?_ | fail); (first | (clear hK hE hT; clear K) | (clear hR hE hT; clear K) | skip); try simp only [Nat.reduceEqDiff, IFB, reduceIte]) | ((with_reducible apply_assumption -symm -exfalso); try simp only [Nat.reduceEqDiff, IFB, reduceIte]) | fail)
      all_goals (refine post_a hres (.inl rfl) ?_; simp only [RSB, ENB, Nat.reduceAdd, Nat.reduceSub, Nat.reduceMul, Nat.reduceLeDiff, Nat.reduceBEq, Nat.reduceBNe, Nat.reduceEqDiff, Nat.reduceLT, reduceIte, reduceCtorEq, Int.reduceToNat, tiAll, true_and]; simp only [MAB, Nat.reduceEqDiff, Nat.reduceAdd, reduceIte, reduceCtorEq]; refine ⟨rfl, rfl, ?_, ?_, ?_⟩ <;> (first | rfl | (simp [WKB, Nat.add_comm, true_and]; done) | (simp only [WKB, Nat.reduceEqDiff, reduceIte])))
    | false =>
      have e : varS b ⟨sp, false⟩ = ⟨sp, false⟩ := by unfold varS; rw [hk]; rfl
      have e0 : varN b ⟨sp, false⟩ = 0 := by unfold varN; rw [hk]; rfl
      rw [e, e0]
      refine fnOK_of true mixed Try.func104 rfl (by rfl) (by rfl) ?_
      have hres := congrArg Array.toList Try.results104
      simp only [Try.ntmps104, BGB, Nat.reduceAdd, Nat.reduceSub]
      repeat' (first | (with_reducible first | refine seq_k fun K hK hE hT => ?_ | refine block_k fun K hK hE hT => ?_ | refine region_k ?_ | refine lex_nil ?_ | fail) | ((with_reducible refine draw_k ?_ ?_); focus (first | rfl | kernel_rfl)) | ((with_reducible first | refine lex_move ?_ | refine lex_assign ?_); simp only [EVB, Nat.reduceEqDiff, reduceIte]) | (with_reducible first | refine lex_cons fun KS hKS => ?_ | refine lexd_cons fun KS hKS => ?_ | fail) | ((with_reducible refine call_go ?_); (first | ((first | refine call_a (c) rfl rfl ?_ | fail); simp only [ENB, Nat.reduceAdd, Nat.reduceSub, Nat.reduceMul, Nat.reduceLeDiff, Nat.reduceBEq, Nat.reduceBNe, Nat.reduceEqDiff, Nat.reduceLT, reduceIte, reduceCtorEq, Int.reduceToNat, tiAll, List.length_map, List.getElem_map, bytK, Bool.not_false]; simp only [MAB, Nat.reduceEqDiff, Nat.reduceAdd, reduceIte, reduceCtorEq]; refine ⟨rfl, ?_, ?_, ?_, rfl, ?_, ?_, ?_, ?_⟩; (iterate 6 (focus (first | rfl | (simp [CXB, map_take, List.length_map, List.getElem_map, bytK, Bool.not_false]; done) | (simp [CXB, List.length_map, List.getElem_map, bytK, Bool.not_false]; omega) | (dsimp only; omega)))); simp only [EFB, Nat.reduceSub, Nat.reduceAdd, Nat.reduceLT, reduceIte]) | fail)) | ((with_reducible refine step_go ?_); (fail_if_success with_reducible refine call_go ?_); simp only [ENB, Nat.reduceAdd, Nat.reduceSub, Nat.reduceMul, Nat.reduceLeDiff, Nat.reduceBEq, Nat.reduceBNe, Nat.reduceEqDiff, Nat.reduceLT, reduceIte, reduceCtorEq, Int.reduceToNat, tiAll, List.length_map, List.getElem_map, bytK, Bool.not_false]) | ((with_reducible refine lexd_nil ?_ ?_); focus (first | kernel_rfl | with_unfolding_all rfl)) | ((with_reducible refine guard_go ?_); refine lex_gone rfl rfl ?_; simp only [EVB, Nat.reduceEqDiff, reduceIte]) | ((first | ((with_reducible refine guard_go ?_); refine lex_guard rfl rfl (fun hg KS hKS => ?_) (fun hg => ?_)) | ((with_reducible refine guardd_go ?_); refine lexd_guard rfl rfl (fun hg KS hKS => ?_) (fun hg => ?_)) | ((with_reducible refine cond_go ?_); refine cond_k rfl (fun hg => ?_) (fun hg => ?_)) | (with_reducible refine And.intro (fun hg => ?_) (fun hg => ?_)) | fail) <;> first | (exact absurd hg (by decide)) | ((try simp only [CNL] at hg) <;> first | (exfalso; omega) | (exact (tf (by assumption) hg).elim) | (exact (tf hg (by assumption)).elim) | ((try with_reducible (have hT0 : True := hg; clear hT0 hg)); first | (with_reducible refine wpc_go ?_) | (try simp only [EVB, Nat.reduceEqDiff, reduceIte])))) | ((with_reducible refine hKS _ _ _ _ ?_); clear hKS; clear KS; simp only [EVB, Nat.reduceEqDiff, reduceIte]) | ((with_reducible refine And.intro ?_ ?_); focus (first | omega | exact u8_le _ | exact flat_intK _ | exact flat_bytK _ | (fail) | decide | (simp only [List.length_map, List.getElem_map, bytK, Bool.not_false]; done))) | ((with_reducible refine ex_p ?_ (fun hh => ?_)); focus (first | omega | (simp only [List.length_map, List.getElem_map, bytK, Bool.not_false]; omega))) | (with_reducible first | refine skip_k ?_ | refine exit_k ?_ | refine ret_k ?_ | fail) | ((with_reducible refine hK _ _ _ ?_); clear hK hE hT; clear K) | ((with_reducible first | refine hE _ _ _ _ ?_ | refine hT _ _ _ ?_ | fail); (first | (clear hK hE hT; clear K) | (clear hR hE hT; clear K) | skip); try simp only [Nat.reduceEqDiff, IFB, reduceIte]) | ((with_reducible apply_assumption -symm -exfalso); try simp only [Nat.reduceEqDiff, IFB, reduceIte]) | fail)
      all_goals (refine post_a hres (.inl rfl) ?_; simp only [RSB, ENB, Nat.reduceAdd, Nat.reduceSub, Nat.reduceMul, Nat.reduceLeDiff, Nat.reduceBEq, Nat.reduceBNe, Nat.reduceEqDiff, Nat.reduceLT, reduceIte, reduceCtorEq, Int.reduceToNat, tiAll, true_and]; simp only [MAB, Nat.reduceEqDiff, Nat.reduceAdd, reduceIte, reduceCtorEq]; refine ⟨rfl, rfl, ?_, ?_, ?_⟩ <;> (first | rfl | (simp [WKB, Nat.add_comm, true_and]; done) | (simp only [WKB, Nat.reduceEqDiff, reduceIte])))

def commitOk (c : CommitD) : Bool := decide (1 ≤ c.Epoch ∧ c.Epoch ≤ 1000000 ∧ 1 ≤ c.Graph ∧ c.Graph ≤ c.Epoch ∧ 0 ≤ c.GSum ∧ c.GSum ≤ 4294967295 ∧ 0 ≤ c.VSum ∧ c.VSum ≤ 4294967295 ∧ (c.Has = false → c.VSum = 0))

theorem commitOk_yes {e g s v : Int} {h : Bool} (h1 : 1 ≤ e ∧ e ≤ 1000000 ∧ 1 ≤ g ∧ g ≤ e ∧ 0 ≤ s ∧ s ≤ 4294967295 ∧ 0 ≤ v ∧ v ≤ 4294967295) (h2 : h = true ∨ v = 0) : commitOk ⟨e, g, s, h, v⟩ = true := by
  unfold commitOk
  rw [decide_eq_true_eq]
  refine ⟨h1.1, h1.2.1, h1.2.2.1, h1.2.2.2.1, h1.2.2.2.2.1, h1.2.2.2.2.2.1, h1.2.2.2.2.2.2.1, h1.2.2.2.2.2.2.2, fun hf => ?_⟩
  rcases h2 with h2 | h2
  · rw [h2] at hf; cases hf
  · exact h2
theorem commitOk_no {e g s v : Int} {h : Bool} (h1 : ¬ (1 ≤ e ∧ e ≤ 1000000 ∧ 1 ≤ g ∧ g ≤ e ∧ 0 ≤ s ∧ s ≤ 4294967295 ∧ 0 ≤ v ∧ v ≤ 4294967295) ∨ (h = false ∧ v ≠ 0)) : commitOk ⟨e, g, s, h, v⟩ = false := by
  unfold commitOk
  rw [decide_eq_false_iff_not]
  rintro ⟨a1, a2, a3, a4, a5, a6, a7, a8, a9⟩
  rcases h1 with h1 | ⟨h1, h2⟩
  · exact h1 ⟨a1, a2, a3, a4, a5, a6, a7, a8⟩
  · exact h2 (a9 h1)

theorem l15Sum_k (n : Int) : FnOK Try.prog 166 ⟨0, [], [.c (.v (.int .i64 n))], .c (.v (.bool (decide (0 ≤ n ∧ n ≤ 4294967295)))), [], 0⟩ := by
  refine fnOK_of true mixed Try.func166 rfl (by rfl) (by rfl) ?_
  have hres := congrArg Array.toList Try.results166
  simp only [Try.ntmps166, BGB, Nat.reduceAdd, Nat.reduceSub]
  repeat' (first | (with_reducible first | refine seq_k fun K hK hE hT => ?_ | refine block_k fun K hK hE hT => ?_ | refine region_k ?_ | refine lex_nil ?_ | fail) | ((with_reducible refine draw_k ?_ ?_); focus (first | rfl | kernel_rfl)) | ((with_reducible first | refine lex_move ?_ | refine lex_assign ?_); simp only [EVB, Nat.reduceEqDiff, reduceIte]) | (with_reducible first | refine lex_cons fun KS hKS => ?_ | refine lexd_cons fun KS hKS => ?_ | fail) | ((with_reducible refine call_go ?_); fail) | ((with_reducible refine step_go ?_); (fail_if_success with_reducible refine call_go ?_); simp only [ENB, Nat.reduceAdd, Nat.reduceSub, Nat.reduceMul, Nat.reduceLeDiff, Nat.reduceBEq, Nat.reduceBNe, Nat.reduceEqDiff, Nat.reduceLT, reduceIte, reduceCtorEq, Int.reduceToNat, tiAll, true_and]) | ((with_reducible refine lexd_nil ?_ ?_); focus (first | kernel_rfl | with_unfolding_all rfl)) | ((with_reducible refine guard_go ?_); refine lex_gone rfl rfl ?_; simp only [EVB, Nat.reduceEqDiff, reduceIte]) | ((first | ((with_reducible refine guard_go ?_); refine lex_guard rfl rfl (fun hg KS hKS => ?_) (fun hg => ?_)) | ((with_reducible refine guardd_go ?_); refine lexd_guard rfl rfl (fun hg KS hKS => ?_) (fun hg => ?_)) | ((with_reducible refine cond_go ?_); refine cond_k rfl (fun hg => ?_) (fun hg => ?_)) | (with_reducible refine And.intro (fun hg => ?_) (fun hg => ?_)) | fail) <;> first | (exact absurd hg (by decide)) | ((try simp only [CNL] at hg) <;> first | (exfalso; omega) | (exact (tf (by assumption) hg).elim) | (exact (tf hg (by assumption)).elim) | ((try with_reducible (have hT0 : True := hg; clear hT0 hg)); first | (with_reducible refine wpc_go ?_) | (try simp only [EVB, Nat.reduceEqDiff, reduceIte])))) | ((with_reducible refine hKS _ _ _ _ ?_); clear hKS; clear KS; simp only [EVB, Nat.reduceEqDiff, reduceIte]) | ((with_reducible refine And.intro ?_ ?_); focus (first | omega | exact u8_le _ | exact flat_intK _ | exact flat_bytK _ | (fail) | decide | (simp only [true_and]; done))) | ((with_reducible refine ex_p ?_ (fun hh => ?_)); focus (first | omega | (simp only [true_and]; omega))) | (with_reducible first | refine skip_k ?_ | refine exit_k ?_ | refine ret_k ?_ | fail) | ((with_reducible refine hK _ _ _ ?_); clear hK hE hT; clear K) | ((with_reducible first | refine hE _ _ _ _ ?_ | refine hT _ _ _ ?_ | fail); (first | (clear hK hE hT; clear K) | (clear hR hE hT; clear K) | skip); try simp only [Nat.reduceEqDiff, IFB, reduceIte]) | ((with_reducible apply_assumption -symm -exfalso); try simp only [Nat.reduceEqDiff, IFB, reduceIte]) | fail)
  all_goals (refine post_a hres (.inl rfl) ?_; simp only [RSB, ENB, Nat.reduceAdd, Nat.reduceSub, Nat.reduceMul, Nat.reduceLeDiff, Nat.reduceBEq, Nat.reduceBNe, Nat.reduceEqDiff, Nat.reduceLT, reduceIte, reduceCtorEq, Int.reduceToNat, tiAll, true_and]; simp only [MAB, Nat.reduceEqDiff, Nat.reduceAdd, reduceIte, reduceCtorEq]; refine ⟨rfl, rfl, ?_, ?_, ?_⟩ <;> (first | rfl | (simp [WKB, Nat.add_comm, true_and]; done) | (simp only [WKB, Nat.reduceEqDiff, reduceIte])))
  all_goals (refine congrArg (fun b => SV.c (CV.v (Value.bool b))) ?_; symm; first | (rw [decide_eq_false_iff_not]; omega) | (rw [decide_eq_true_eq]; omega) | (rw [decide_eq_decide]; omega) | (rw [Bool.eq_iff_iff]; simp only [decide_eq_true_eq, beq_iff_eq]; omega))


set_option maxHeartbeats 2000000 in
theorem implCommitOk_k (c : CommitD) : FnOK Try.prog 108 ⟨0, [], [.agg [.v (.int .i64 c.Epoch), .v (.int .i64 c.Graph), .v (.int .i64 c.GSum), .v (.bool c.Has), .v (.int .i64 c.VSum)]], .c (.v (.bool (commitOk c))), [], 0⟩ := by
  obtain ⟨e, g, s, h, v⟩ := c
  refine fnOK_of true mixed Try.func108 rfl (by rfl) (by rfl) ?_
  have hres := congrArg Array.toList Try.results108
  simp only [Try.ntmps108, BGB, Nat.reduceAdd, Nat.reduceSub]
  repeat' (first | (with_reducible first | refine seq_k fun K hK hE hT => ?_ | refine block_k fun K hK hE hT => ?_ | refine region_k ?_ | refine lex_nil ?_ | fail) | ((with_reducible refine draw_k ?_ ?_); focus (first | rfl | kernel_rfl)) | ((with_reducible first | refine lex_move ?_ | refine lex_assign ?_); simp only [EVB, Nat.reduceEqDiff, reduceIte]) | (with_reducible first | refine lex_cons fun KS hKS => ?_ | refine lexd_cons fun KS hKS => ?_ | fail) | ((with_reducible refine call_go ?_); fail) | ((with_reducible refine step_go ?_); (fail_if_success with_reducible refine call_go ?_); simp only [ENB, Nat.reduceAdd, Nat.reduceSub, Nat.reduceMul, Nat.reduceLeDiff, Nat.reduceBEq, Nat.reduceBNe, Nat.reduceEqDiff, Nat.reduceLT, reduceIte, reduceCtorEq, Int.reduceToNat, tiAll, true_and]) | ((with_reducible refine lexd_nil ?_ ?_); focus (first | kernel_rfl | with_unfolding_all rfl)) | ((with_reducible refine guard_go ?_); refine lex_gone rfl rfl ?_; simp only [EVB, Nat.reduceEqDiff, reduceIte]) | ((first | ((with_reducible refine guard_go ?_); refine lex_guard rfl rfl (fun hg KS hKS => ?_) (fun hg => ?_)) | ((with_reducible refine guardd_go ?_); refine lexd_guard rfl rfl (fun hg KS hKS => ?_) (fun hg => ?_)) | ((with_reducible refine cond_go ?_); refine cond_k rfl (fun hg => ?_) (fun hg => ?_)) | (with_reducible refine And.intro (fun hg => ?_) (fun hg => ?_)) | fail) <;> first | (exact absurd hg (by decide)) | ((try simp only [CNL] at hg) <;> first | (exfalso; omega) | (exact (tf (by assumption) hg).elim) | (exact (tf hg (by assumption)).elim) | ((try with_reducible (have hT0 : True := hg; clear hT0 hg)); first | (with_reducible refine wpc_go ?_) | (try simp only [EVB, Nat.reduceEqDiff, reduceIte])))) | ((with_reducible refine hKS _ _ _ _ ?_); clear hKS; clear KS; simp only [EVB, Nat.reduceEqDiff, reduceIte]) | ((with_reducible refine And.intro ?_ ?_); focus (first | omega | exact u8_le _ | exact flat_intK _ | exact flat_bytK _ | (fail) | decide | (simp only [true_and]; done))) | ((with_reducible refine ex_p ?_ (fun hh => ?_)); focus (first | omega | (simp only [true_and]; omega))) | (with_reducible first | refine skip_k ?_ | refine exit_k ?_ | refine ret_k ?_ | fail) | ((with_reducible refine hK _ _ _ ?_); clear hK hE hT; clear K) | ((with_reducible first | refine hE _ _ _ _ ?_ | refine hT _ _ _ ?_ | fail); (first | (clear hK hE hT; clear K) | (clear hR hE hT; clear K) | skip); try simp only [Nat.reduceEqDiff, IFB, reduceIte]) | ((with_reducible apply_assumption -symm -exfalso); try simp only [Nat.reduceEqDiff, IFB, reduceIte]) | fail)
  all_goals first
    | (have e1 : commitOk ⟨e, g, s, h, v⟩ = false := commitOk_no (.inl (by omega))
       (refine post_a hres (.inl rfl) ?_; simp only [RSB, ENB, Nat.reduceAdd, Nat.reduceSub, Nat.reduceMul, Nat.reduceLeDiff, Nat.reduceBEq, Nat.reduceBNe, Nat.reduceEqDiff, Nat.reduceLT, reduceIte, reduceCtorEq, Int.reduceToNat, tiAll, e1]; simp only [MAB, Nat.reduceEqDiff, Nat.reduceAdd, reduceIte, reduceCtorEq]; refine ⟨rfl, rfl, ?_, ?_, ?_⟩ <;> (first | rfl | (simp [WKB, Nat.add_comm, e1]; done) | (simp only [WKB, Nat.reduceEqDiff, reduceIte]))))
    | (have e1 : commitOk ⟨e, g, s, h, v⟩ = false := commitOk_no (.inr ⟨by assumption, by omega⟩)
       (refine post_a hres (.inl rfl) ?_; simp only [RSB, ENB, Nat.reduceAdd, Nat.reduceSub, Nat.reduceMul, Nat.reduceLeDiff, Nat.reduceBEq, Nat.reduceBNe, Nat.reduceEqDiff, Nat.reduceLT, reduceIte, reduceCtorEq, Int.reduceToNat, tiAll, e1]; simp only [MAB, Nat.reduceEqDiff, Nat.reduceAdd, reduceIte, reduceCtorEq]; refine ⟨rfl, rfl, ?_, ?_, ?_⟩ <;> (first | rfl | (simp [WKB, Nat.add_comm, e1]; done) | (simp only [WKB, Nat.reduceEqDiff, reduceIte]))))
    | (have e1 : commitOk ⟨e, g, s, h, v⟩ = true := commitOk_yes (by omega) (.inl (by assumption))
       (refine post_a hres (.inl rfl) ?_; simp only [RSB, ENB, Nat.reduceAdd, Nat.reduceSub, Nat.reduceMul, Nat.reduceLeDiff, Nat.reduceBEq, Nat.reduceBNe, Nat.reduceEqDiff, Nat.reduceLT, reduceIte, reduceCtorEq, Int.reduceToNat, tiAll, e1]; simp only [MAB, Nat.reduceEqDiff, Nat.reduceAdd, reduceIte, reduceCtorEq]; refine ⟨rfl, rfl, ?_, ?_, ?_⟩ <;> (first | rfl | (simp [WKB, Nat.add_comm, e1]; done) | (simp only [WKB, Nat.reduceEqDiff, reduceIte]))))
    | (have e1 : commitOk ⟨e, g, s, h, v⟩ = true := commitOk_yes (by omega) (.inr (by omega))
       (refine post_a hres (.inl rfl) ?_; simp only [RSB, ENB, Nat.reduceAdd, Nat.reduceSub, Nat.reduceMul, Nat.reduceLeDiff, Nat.reduceBEq, Nat.reduceBNe, Nat.reduceEqDiff, Nat.reduceLT, reduceIte, reduceCtorEq, Int.reduceToNat, tiAll, e1]; simp only [MAB, Nat.reduceEqDiff, Nat.reduceAdd, reduceIte, reduceCtorEq]; refine ⟨rfl, rfl, ?_, ?_, ?_⟩ <;> (first | rfl | (simp [WKB, Nat.add_comm, e1]; done) | (simp only [WKB, Nat.reduceEqDiff, reduceIte]))))
    | (have e1 : commitOk ⟨e, g, s, h, v⟩ = (v == 0) := by
         by_cases hv : v = 0
         · rw [commitOk_yes (by omega) (.inr hv), hv]; rfl
         · rw [commitOk_no (.inr ⟨by assumption, hv⟩)]; simp [hv]
       (refine post_a hres (.inl rfl) ?_; simp only [RSB, ENB, Nat.reduceAdd, Nat.reduceSub, Nat.reduceMul, Nat.reduceLeDiff, Nat.reduceBEq, Nat.reduceBNe, Nat.reduceEqDiff, Nat.reduceLT, reduceIte, reduceCtorEq, Int.reduceToNat, tiAll, e1]; simp only [MAB, Nat.reduceEqDiff, Nat.reduceAdd, reduceIte, reduceCtorEq]; refine ⟨rfl, rfl, ?_, ?_, ?_⟩ <;> (first | rfl | (simp [WKB, Nat.add_comm, e1]; done) | (simp only [WKB, Nat.reduceEqDiff, reduceIte]))))
    | skip

set_option maxHeartbeats 2000000 in
theorem specCommitOk_k (c : CommitD) : FnOK Try.prog 105 ⟨0, [], [.agg [.v (.int .i64 c.Epoch), .v (.int .i64 c.Graph), .v (.int .i64 c.GSum), .v (.bool c.Has), .v (.int .i64 c.VSum)]], .c (.v (.bool (commitOk c))), [], 0⟩ := by
  obtain ⟨e, g, s, h, v⟩ := c
  refine fnOK_of true mixed Try.func105 rfl (by rfl) (by rfl) ?_
  have hres := congrArg Array.toList Try.results105
  simp only [Try.ntmps105, BGB, Nat.reduceAdd, Nat.reduceSub]
  repeat' (first | (with_reducible first | refine seq_k fun K hK hE hT => ?_ | refine block_k fun K hK hE hT => ?_ | refine region_k ?_ | refine lex_nil ?_ | fail) | ((with_reducible refine draw_k ?_ ?_); focus (first | rfl | kernel_rfl)) | ((with_reducible first | refine lex_move ?_ | refine lex_assign ?_); simp only [EVB, Nat.reduceEqDiff, reduceIte]) | (with_reducible first | refine lex_cons fun KS hKS => ?_ | refine lexd_cons fun KS hKS => ?_ | fail) | ((with_reducible refine call_go ?_); (first | (refine call_a (l15Sum_k s) rfl rfl ?_; simp only [ENB, Nat.reduceAdd, Nat.reduceSub, Nat.reduceMul, Nat.reduceLeDiff, Nat.reduceBEq, Nat.reduceBNe, Nat.reduceEqDiff, Nat.reduceLT, reduceIte, reduceCtorEq, Int.reduceToNat, tiAll, true_and]; simp only [MAB, Nat.reduceEqDiff, Nat.reduceAdd, reduceIte, reduceCtorEq]; refine ⟨rfl, ?_, ?_, ?_, rfl, ?_, ?_, ?_, ?_⟩; (iterate 6 (focus (first | rfl | (simp [CXB, map_take, true_and]; done) | (simp [CXB, true_and]; omega) | (dsimp only; omega)))); simp only [EFB, Nat.reduceSub, Nat.reduceAdd, Nat.reduceLT, reduceIte]) | (refine call_a (l15Sum_k v) rfl rfl ?_; simp only [ENB, Nat.reduceAdd, Nat.reduceSub, Nat.reduceMul, Nat.reduceLeDiff, Nat.reduceBEq, Nat.reduceBNe, Nat.reduceEqDiff, Nat.reduceLT, reduceIte, reduceCtorEq, Int.reduceToNat, tiAll, true_and]; simp only [MAB, Nat.reduceEqDiff, Nat.reduceAdd, reduceIte, reduceCtorEq]; refine ⟨rfl, ?_, ?_, ?_, rfl, ?_, ?_, ?_, ?_⟩; (iterate 6 (focus (first | rfl | (simp [CXB, map_take, true_and]; done) | (simp [CXB, true_and]; omega) | (dsimp only; omega)))); simp only [EFB, Nat.reduceSub, Nat.reduceAdd, Nat.reduceLT, reduceIte]) | fail)) | ((with_reducible refine step_go ?_); (fail_if_success with_reducible refine call_go ?_); simp only [ENB, Nat.reduceAdd, Nat.reduceSub, Nat.reduceMul, Nat.reduceLeDiff, Nat.reduceBEq, Nat.reduceBNe, Nat.reduceEqDiff, Nat.reduceLT, reduceIte, reduceCtorEq, Int.reduceToNat, tiAll, true_and]) | ((with_reducible refine lexd_nil ?_ ?_); focus (first | kernel_rfl | with_unfolding_all rfl)) | ((with_reducible refine guard_go ?_); refine lex_gone rfl rfl ?_; simp only [EVB, Nat.reduceEqDiff, reduceIte]) | ((first | ((with_reducible refine guard_go ?_); refine lex_guard rfl rfl (fun hg KS hKS => ?_) (fun hg => ?_)) | ((with_reducible refine guardd_go ?_); refine lexd_guard rfl rfl (fun hg KS hKS => ?_) (fun hg => ?_)) | ((with_reducible refine cond_go ?_); refine cond_k rfl (fun hg => ?_) (fun hg => ?_)) | (with_reducible refine And.intro (fun hg => ?_) (fun hg => ?_)) | fail) <;> first | (exact absurd hg (by decide)) | ((try simp only [CNL] at hg) <;> first | (exfalso; omega) | (exact (tf (by assumption) hg).elim) | (exact (tf hg (by assumption)).elim) | ((try with_reducible (have hT0 : True := hg; clear hT0 hg)); first | (with_reducible refine wpc_go ?_) | (try simp only [EVB, Nat.reduceEqDiff, reduceIte])))) | ((with_reducible refine hKS _ _ _ _ ?_); clear hKS; clear KS; simp only [EVB, Nat.reduceEqDiff, reduceIte]) | ((with_reducible refine And.intro ?_ ?_); focus (first | omega | exact u8_le _ | exact flat_intK _ | exact flat_bytK _ | (fail) | decide | (simp only [true_and]; done))) | ((with_reducible refine ex_p ?_ (fun hh => ?_)); focus (first | omega | (simp only [true_and]; omega))) | (with_reducible first | refine skip_k ?_ | refine exit_k ?_ | refine ret_k ?_ | fail) | ((with_reducible refine hK _ _ _ ?_); clear hK hE hT; clear K) | ((with_reducible first | refine hE _ _ _ _ ?_ | refine hT _ _ _ ?_ | fail); (first | (clear hK hE hT; clear K) | (clear hR hE hT; clear K) | skip); try simp only [Nat.reduceEqDiff, IFB, reduceIte]) | ((with_reducible apply_assumption -symm -exfalso); try simp only [Nat.reduceEqDiff, IFB, reduceIte]) | fail)
  all_goals first
    | (have e1 : commitOk ⟨e, g, s, h, v⟩ = false := commitOk_no (.inl (by omega))
       (refine post_a hres (.inl rfl) ?_; simp only [RSB, ENB, Nat.reduceAdd, Nat.reduceSub, Nat.reduceMul, Nat.reduceLeDiff, Nat.reduceBEq, Nat.reduceBNe, Nat.reduceEqDiff, Nat.reduceLT, reduceIte, reduceCtorEq, Int.reduceToNat, tiAll, e1]; simp only [MAB, Nat.reduceEqDiff, Nat.reduceAdd, reduceIte, reduceCtorEq]; refine ⟨rfl, rfl, ?_, ?_, ?_⟩ <;> (first | rfl | (simp [WKB, Nat.add_comm, e1]; done) | (simp only [WKB, Nat.reduceEqDiff, reduceIte]))))
    | (have e1 : commitOk ⟨e, g, s, h, v⟩ = false := commitOk_no (.inr ⟨by assumption, by omega⟩)
       (refine post_a hres (.inl rfl) ?_; simp only [RSB, ENB, Nat.reduceAdd, Nat.reduceSub, Nat.reduceMul, Nat.reduceLeDiff, Nat.reduceBEq, Nat.reduceBNe, Nat.reduceEqDiff, Nat.reduceLT, reduceIte, reduceCtorEq, Int.reduceToNat, tiAll, e1]; simp only [MAB, Nat.reduceEqDiff, Nat.reduceAdd, reduceIte, reduceCtorEq]; refine ⟨rfl, rfl, ?_, ?_, ?_⟩ <;> (first | rfl | (simp [WKB, Nat.add_comm, e1]; done) | (simp only [WKB, Nat.reduceEqDiff, reduceIte]))))
    | (have e1 : commitOk ⟨e, g, s, h, v⟩ = true := commitOk_yes (by omega) (.inl (by assumption))
       (refine post_a hres (.inl rfl) ?_; simp only [RSB, ENB, Nat.reduceAdd, Nat.reduceSub, Nat.reduceMul, Nat.reduceLeDiff, Nat.reduceBEq, Nat.reduceBNe, Nat.reduceEqDiff, Nat.reduceLT, reduceIte, reduceCtorEq, Int.reduceToNat, tiAll, e1]; simp only [MAB, Nat.reduceEqDiff, Nat.reduceAdd, reduceIte, reduceCtorEq]; refine ⟨rfl, rfl, ?_, ?_, ?_⟩ <;> (first | rfl | (simp [WKB, Nat.add_comm, e1]; done) | (simp only [WKB, Nat.reduceEqDiff, reduceIte]))))
    | (have e1 : commitOk ⟨e, g, s, h, v⟩ = true := commitOk_yes (by omega) (.inr (by omega))
       (refine post_a hres (.inl rfl) ?_; simp only [RSB, ENB, Nat.reduceAdd, Nat.reduceSub, Nat.reduceMul, Nat.reduceLeDiff, Nat.reduceBEq, Nat.reduceBNe, Nat.reduceEqDiff, Nat.reduceLT, reduceIte, reduceCtorEq, Int.reduceToNat, tiAll, e1]; simp only [MAB, Nat.reduceEqDiff, Nat.reduceAdd, reduceIte, reduceCtorEq]; refine ⟨rfl, rfl, ?_, ?_, ?_⟩ <;> (first | rfl | (simp [WKB, Nat.add_comm, e1]; done) | (simp only [WKB, Nat.reduceEqDiff, reduceIte]))))
    | (have e1 : commitOk ⟨e, g, s, h, v⟩ = (v == 0) := by
         by_cases hv : v = 0
         · rw [commitOk_yes (by omega) (.inr hv), hv]; rfl
         · rw [commitOk_no (.inr ⟨by assumption, hv⟩)]; simp [hv]
       (refine post_a hres (.inl rfl) ?_; simp only [RSB, ENB, Nat.reduceAdd, Nat.reduceSub, Nat.reduceMul, Nat.reduceLeDiff, Nat.reduceBEq, Nat.reduceBNe, Nat.reduceEqDiff, Nat.reduceLT, reduceIte, reduceCtorEq, Int.reduceToNat, tiAll, e1]; simp only [MAB, Nat.reduceEqDiff, Nat.reduceAdd, reduceIte, reduceCtorEq]; refine ⟨rfl, rfl, ?_, ?_, ?_⟩ <;> (first | rfl | (simp [WKB, Nat.add_comm, e1]; done) | (simp only [WKB, Nat.reduceEqDiff, reduceIte]))))
    | skip

end Go.Proofs.Ytmdajpgemcaefaa
