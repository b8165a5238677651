/-
  Contracts of the functions on sets, by the engine: the test of a bit, SetOk, Has. No conditions of its own.
-/
import Derived.Test.YtmdajpgemcaefaaH2
import Derived.Test.YtmdajpgemcaefaaSetM
namespace Go.Proofs.Ytmdajpgemcaefaa
set_option linter.unusedSimpArgs false
set_option linter.unusedVariables false
open Go.RowKit

theorem bit_shr (l : List UInt8) (v : Nat) (hv : v / 8 < l.length) : (bits BinOp.and IntKind.u8 ((l[v / 8].toNat : Int).fdiv (2 ^ min ((v : Int) % 8).toNat IntKind.u8.bits)) 1 == 1) = bitAt l v := by
  have h1 : ((v : Int) % 8).toNat = v % 8 := by omega
  have h2 : min (v % 8) IntKind.u8.bits = v % 8 := Nat.min_eq_left (by have : IntKind.u8.bits = 8 := rfl; omega)
  rw [h1, h2, Int.fdiv_eq_ediv_of_nonneg _ (Int.pow_nonneg (by decide)), bit_val]
  simp [bitAt, hv]

theorem implhas_k (n : Int) (l : List UInt8) (v : Nat) (hv : v / 8 < l.length) (hv' : v ≤ 1099511627776) :
    FnOK Try.prog 137 ⟨1, [(0, some (.ro (l.map bytK)))], [.agg [.v (.int .i64 n), .sl 0 1 0 l.length], .c (.v (.int .i64 (v : Int)))], .c (.v (.bool (bitAt l v))), [], 1⟩ := by
  have q2 : ((v : Int) / 8).toNat = v / 8 := by omega
  refine fnOK_of true mixed Try.func137 rfl (by rfl) (by rfl) ?_
  have hres := congrArg Array.toList Try.results137
  simp only [Try.ntmps137, List.length_cons, List.length_nil, Nat.reduceAdd, Nat.reduceSub, List.replicate_succ, List.replicate_zero, List.cons_append, List.nil_append]
  repeat' (first
  | (with_reducible first | refine seq_k fun K hK hE hT => ?_ | refine block_k fun K hK hE hT => ?_ | refine region_k ?_ | refine lex_nil ?_ | fail)
  | ((with_reducible refine draw_k ?_ ?_); focus (first | rfl | kernel_rfl))
  | ((with_reducible first | refine lex_move ?_ | refine lex_assign ?_); simp only [EVB, Nat.reduceEqDiff, reduceIte])
  | (with_reducible first | refine lex_cons fun KS hKS => ?_ | refine lexd_cons fun KS hKS => ?_ | fail)
  | ((with_reducible refine call_go ?_); fail)
  | ((with_reducible refine step_go ?_); (fail_if_success with_reducible refine call_go ?_); simp only [ENB, Nat.reduceAdd, Nat.reduceSub, Nat.reduceMul, Nat.reduceLeDiff, Nat.reduceBEq, Nat.reduceBNe, Nat.reduceEqDiff, Nat.reduceLT, reduceIte, reduceCtorEq, Int.reduceToNat, tiAll, List.length_map, List.getElem_map, bytK, q2])
  | ((with_reducible refine lexd_nil ?_ ?_); focus (first | kernel_rfl | with_unfolding_all rfl))
  | ((with_reducible refine guard_go ?_); refine lex_gone rfl rfl ?_; simp only [EVB, Nat.reduceEqDiff, reduceIte])
  | ((first | ((with_reducible refine guard_go ?_); refine lex_guard rfl rfl (fun hg KS hKS => ?_) (fun hg => ?_)) | ((with_reducible refine guardd_go ?_); refine lexd_guard rfl rfl (fun hg KS hKS => ?_) (fun hg => ?_)) | fail) <;> first | (exact absurd hg (by decide)) | ((try simp only [CNL] at hg) <;> first | (exfalso; omega) | (exact (tf (by assumption) hg).elim) | (exact (tf hg (by assumption)).elim) | ((try with_reducible (have hT0 : True := hg; clear hT0 hg)); try simp only [EVB, Nat.reduceEqDiff, reduceIte])))
  | ((with_reducible refine hKS _ _ _ _ ?_); clear hKS; clear KS; simp only [EVB, Nat.reduceEqDiff, reduceIte])
  | ((first | ((with_reducible refine cond_go ?_); refine cond_k rfl (fun hc => ?_) (fun hc => ?_)) | (with_reducible refine And.intro (fun hc => ?_) (fun hc => ?_)) | fail) <;> first | (exact absurd hc (by decide)) | ((try simp only [CNL] at hc) <;> first | (exfalso; omega) | (exact (tf (by assumption) hc).elim) | (exact (tf hc (by assumption)).elim) | skip))
  | ((with_reducible refine And.intro ?_ ?_); focus (first | omega | exact u8_le _ | exact flat_intK _ | exact flat_bytK _ | (fail) | decide | (simp only [List.length_map, List.getElem_map, bytK, q2]; done)))
  | ((with_reducible refine ex_p ?_ (fun hh => ?_)); focus (first | omega | (simp only [List.length_map, List.getElem_map, bytK, q2]; omega)))
  | (with_reducible first | refine skip_k ?_ | refine exit_k ?_ | refine ret_k ?_ | fail)
  | ((with_reducible refine hK _ _ _ ?_); clear hK hE hT; clear K)
  | ((with_reducible first | refine hE _ _ _ _ ?_ | refine hT _ _ _ ?_ | fail); (first | (clear hK hE hT; clear K) | (clear hR hE hT; clear K) | skip); try simp only [Nat.reduceEqDiff, if_true, if_false, reduceIte])
  | ((with_reducible apply_assumption -symm -exfalso); try simp only [Nat.reduceEqDiff, if_true, if_false, reduceIte])
  | fail)
  (refine post_a hres (.inl rfl) ?_; simp only [RSB, ENB, Nat.reduceAdd, Nat.reduceSub, Nat.reduceMul, Nat.reduceLeDiff, Nat.reduceBEq, Nat.reduceBNe, Nat.reduceEqDiff, Nat.reduceLT, reduceIte, reduceCtorEq, Int.reduceToNat, tiAll, bit_shr l v hv, exists_eq_left']; simp only [MAB, Nat.reduceEqDiff, Nat.reduceAdd, reduceIte, reduceCtorEq]; refine ⟨rfl, rfl, ?_, ?_, ?_⟩ <;> (first | rfl | (simp [WKB, Nat.add_comm, bit_shr l v hv]; done) | (simp only [WKB, Nat.reduceEqDiff, reduceIte, List.forall_mem_cons, List.not_mem_nil, false_implies, implies_true])))

theorem setOk_no (n : Int) (l : List UInt8) (h : ¬ (0 ≤ n ∧ n ≤ 150 ∧ l.length = (n.toNat + 7) / 8)) : setOk n l = false := by
  rw [Bool.eq_false_iff]
  intro h'
  unfold setOk at h'
  simp only [decide_eq_true_eq] at h'
  exact h ⟨h'.1, h'.2.1, h'.2.2.1⟩

theorem setOk_hit (m k : Nat) (l : List UInt8) (h1 : m ≤ k) (h2 : k < 8 * l.length) (hb : bitAt l k = true) : setOk (m : Int) l = false := by
  rw [Bool.eq_false_iff]
  intro h'
  unfold setOk at h'
  simp only [decide_eq_true_eq] at h'
  have := h'.2.2.2 k h2 (by simpa using h1)
  rw [this] at hb; cases hb

theorem setOk_end (m k : Nat) (l : List UInt8) (hm : m ≤ 150) (hl : l.length = (m + 7) / 8) (h2 : 8 * l.length ≤ k) (h : ∀ j, m ≤ j → j < k → bitAt l j = false) : setOk (m : Int) l = true := by
  unfold setOk
  simp only [decide_eq_true_eq]
  exact ⟨by omega, by omega, by simpa using hl, fun v hv hmv => h v (by simpa using hmv) (by omega)⟩

theorem setOk_len {n : Int} {l : List UInt8} (h : setOk n l = true) : 0 ≤ n ∧ n ≤ 150 ∧ l.length = (n.toNat + 7) / 8 ∧ l.length ≤ 19 := by
  unfold setOk at h
  simp only [decide_eq_true_eq] at h
  refine ⟨h.1, h.2.1, h.2.2.1, ?_⟩
  have := h.1
  have := h.2.1
  have := h.2.2.1
  omega


set_option maxHeartbeats 2000000 in
theorem implSetOk_k (n : Int) (l : List UInt8) (hl : l.length ≤ 1048576) :
    FnOK Try.prog 74 ⟨1, [(0, some (.ro (l.map bytK)))], [.agg [.v (.int .i64 n), .sl 0 1 0 l.length]], .c (.v (.bool (setOk n l))), [], 1⟩ := by
  refine fnOK_of true mixed Try.func74 rfl (by rfl) (by rfl) ?_
  have hres := congrArg Array.toList Try.results74
  simp only [Try.ntmps74, List.length_cons, List.length_nil, Nat.reduceAdd, Nat.reduceSub, List.replicate_succ, List.replicate_zero, List.cons_append, List.nil_append]
  repeat' (first
  | (with_reducible first | refine seq_k fun K hK hE hT => ?_ | refine block_k fun K hK hE hT => ?_ | refine region_k ?_ | refine lex_nil ?_ | fail)
  | ((with_reducible refine draw_k ?_ ?_); focus (first | rfl | kernel_rfl))
  | ((with_reducible first | refine lex_move ?_ | refine lex_assign ?_); simp only [EVB, Nat.reduceEqDiff, reduceIte])
  | (with_reducible first | refine lex_cons fun KS hKS => ?_ | refine lexd_cons fun KS hKS => ?_ | fail)
  | ((with_reducible refine call_go ?_); fail)
  | ((with_reducible refine step_go ?_); (fail_if_success with_reducible refine call_go ?_); simp only [ENB, Nat.reduceAdd, Nat.reduceSub, Nat.reduceMul, Nat.reduceLeDiff, Nat.reduceBEq, Nat.reduceBNe, Nat.reduceEqDiff, Nat.reduceLT, reduceIte, reduceCtorEq, Int.reduceToNat, tiAll, List.length_map, List.getElem_map, bytK])
  | ((with_reducible refine lexd_nil ?_ ?_); focus (first | kernel_rfl | with_unfolding_all rfl))
  | ((with_reducible refine guard_go ?_); refine lex_gone rfl rfl ?_; simp only [EVB, Nat.reduceEqDiff, reduceIte])
  | ((first | ((with_reducible refine guard_go ?_); refine lex_guard rfl rfl (fun hg KS hKS => ?_) (fun hg => ?_)) | ((with_reducible refine guardd_go ?_); refine lexd_guard rfl rfl (fun hg KS hKS => ?_) (fun hg => ?_)) | fail) <;> first | (exact absurd hg (by decide)) | ((try simp only [CNL] at hg) <;> first | (exfalso; omega) | (exact (tf (by assumption) hg).elim) | (exact (tf hg (by assumption)).elim) | ((try with_reducible (have hT0 : True := hg; clear hT0 hg)); try simp only [EVB, Nat.reduceEqDiff, reduceIte])))
  | ((with_reducible refine hKS _ _ _ _ ?_); clear hKS; clear KS; simp only [EVB, Nat.reduceEqDiff, reduceIte])
  | ((first | ((with_reducible refine cond_go ?_); refine cond_k rfl (fun hc => ?_) (fun hc => ?_)) | (with_reducible refine And.intro (fun hc => ?_) (fun hc => ?_)) | fail) <;> first | (exact absurd hc (by decide)) | ((try simp only [CNL] at hc) <;> first | (exfalso; omega) | (exact (tf (by assumption) hc).elim) | (exact (tf hc (by assumption)).elim) | skip))
  | ((with_reducible refine And.intro ?_ ?_); focus (first | omega | exact u8_le _ | exact flat_intK _ | exact flat_bytK _ | (fail) | decide | (simp only [List.length_map, List.getElem_map, bytK]; done)))
  | ((with_reducible refine ex_p ?_ (fun hh => ?_)); focus (first | omega | (simp only [List.length_map, List.getElem_map, bytK]; omega)))
  | (with_reducible first | refine skip_k ?_ | refine exit_k ?_ | refine ret_k ?_ | fail)
  | ((with_reducible refine hK _ _ _ ?_); clear hK hE hT; clear K)
  | ((with_reducible first | refine hE _ _ _ _ ?_ | refine hT _ _ _ ?_ | fail); (first | (clear hK hE hT; clear K) | (clear hR hE hT; clear K) | skip); try simp only [Nat.reduceEqDiff, if_true, if_false, reduceIte])
  | ((with_reducible apply_assumption -symm -exfalso); try simp only [Nat.reduceEqDiff, if_true, if_false, reduceIte])
  | fail)
  · (refine post_a hres (.inl rfl) ?_; simp only [RSB, ENB, Nat.reduceAdd, Nat.reduceSub, Nat.reduceMul, Nat.reduceLeDiff, Nat.reduceBEq, Nat.reduceBNe, Nat.reduceEqDiff, Nat.reduceLT, reduceIte, reduceCtorEq, Int.reduceToNat, tiAll, setOk_no n l (by omega), exists_eq_left']; simp only [MAB, Nat.reduceEqDiff, Nat.reduceAdd, reduceIte, reduceCtorEq]; refine ⟨rfl, rfl, ?_, ?_, ?_⟩ <;> (first | rfl | (simp [WKB, Nat.add_comm, setOk_no n l (by omega)]; done) | (simp only [WKB, Nat.reduceEqDiff, reduceIte, List.forall_mem_cons, List.not_mem_nil, false_implies, implies_true])))
  · obtain ⟨m, rfl⟩ := Int.eq_ofNat_of_zero_le (show 0 ≤ n by assumption)
    have hm : m ≤ 150 := by omega
    have hlm : l.length = (m + 7) / 8 := by omega
    refine loop_v (X := {k : Nat // (m ≤ k ∧ k ≤ 8 * l.length) ∧ Rnd (∀ j, m ≤ j → j < k → bitAt l j = false)}) [] (fun x => [(3, .c (.v (.int .i64 ((x.1 : Nat) : Int))))]) (fun x => [(0, some (.ro (l.map bytK))), (1, some (.box 26 [.v (.int .i64 (m : Int)), .sl 0 1 0 l.length]))]) 2 (fun x => 8 * l.length - x.1) ⟨m, ⟨Nat.le_refl _, by omega⟩, ⟨fun j h1 h2 => by omega⟩⟩ ?_
    simp only [KPB, Nat.reduceBEq, Nat.reduceBNe, Nat.reduceAdd, reduceIte]
    refine ⟨?_, ?_⟩
    · (refine wk_a ?_; simp only [MAB, Nat.reduceEqDiff, Nat.reduceAdd, reduceIte, reduceCtorEq]; refine ⟨rfl, rfl, (by decide), ?_, ?_⟩; all_goals (first | (simp only [WKB, Nat.reduceEqDiff, reduceIte, List.forall_mem_cons, List.not_mem_nil, false_implies, implies_true, true_and, Nat.reduceLT, Nat.zero_lt_succ]; done) | (simp [WKB, Nat.reduceEqDiff, reduceIte, List.forall_mem_cons, List.not_mem_nil, false_implies, implies_true, true_and]; done) | simp only [WKB, Nat.reduceEqDiff, reduceIte, List.forall_mem_cons, List.not_mem_nil, false_implies, implies_true]))
    · rintro ⟨k, ⟨hk1, hk2⟩, hk⟩ K hR hE hT
      skip
      repeat' (first
  | (with_reducible first | refine seq_k fun K hK hE hT => ?_ | refine block_k fun K hK hE hT => ?_ | refine region_k ?_ | refine lex_nil ?_ | fail)
  | ((with_reducible refine draw_k ?_ ?_); focus (first | rfl | kernel_rfl))
  | ((with_reducible first | refine lex_move ?_ | refine lex_assign ?_); simp only [EVB, Nat.reduceEqDiff, reduceIte])
  | (with_reducible first | refine lex_cons fun KS hKS => ?_ | refine lexd_cons fun KS hKS => ?_ | fail)
  | ((with_reducible refine call_go ?_); (first | ((first | refine call_a (implhas_k (m : Int) l k (by omega) (by omega)) rfl rfl ?_ | fail); simp only [ENB, Nat.reduceAdd, Nat.reduceSub, Nat.reduceMul, Nat.reduceLeDiff, Nat.reduceBEq, Nat.reduceBNe, Nat.reduceEqDiff, Nat.reduceLT, reduceIte, reduceCtorEq, Int.reduceToNat, tiAll, List.length_map, List.getElem_map, bytK, true_and]; simp only [MAB, Nat.reduceEqDiff, Nat.reduceAdd, reduceIte, reduceCtorEq]; refine ⟨rfl, ?_, ?_, ?_, rfl, ?_, ?_, (by dsimp only; omega), ?_⟩; (focus (first | rfl | (simp [CXB, List.length_map, List.getElem_map, bytK, true_and]; done) | (simp [CXB, List.length_map, List.getElem_map, bytK, true_and]; omega))); (focus (simp [CXB])); (focus (simp [CXB, map_take, List.length_map, List.getElem_map, bytK, true_and]; done)); (focus (simp [CXB])); (focus (simp [CXB])); simp only [EFB, Nat.reduceSub, Nat.reduceAdd, Nat.reduceLT, reduceIte]) | fail))
  | ((with_reducible refine step_go ?_); (fail_if_success with_reducible refine call_go ?_); simp only [ENB, Nat.reduceAdd, Nat.reduceSub, Nat.reduceMul, Nat.reduceLeDiff, Nat.reduceBEq, Nat.reduceBNe, Nat.reduceEqDiff, Nat.reduceLT, reduceIte, reduceCtorEq, Int.reduceToNat, tiAll, List.length_map, List.getElem_map, bytK, true_and])
  | ((with_reducible refine lexd_nil ?_ ?_); focus (first | kernel_rfl | with_unfolding_all rfl))
  | ((with_reducible refine guard_go ?_); refine lex_gone rfl rfl ?_; simp only [EVB, Nat.reduceEqDiff, reduceIte])
  | ((first | ((with_reducible refine guard_go ?_); refine lex_guard rfl rfl (fun hg KS hKS => ?_) (fun hg => ?_)) | ((with_reducible refine guardd_go ?_); refine lexd_guard rfl rfl (fun hg KS hKS => ?_) (fun hg => ?_)) | fail) <;> first | (exact absurd hg (by decide)) | ((try simp only [CNL] at hg) <;> first | (exfalso; omega) | (exact (tf (by assumption) hg).elim) | (exact (tf hg (by assumption)).elim) | ((try with_reducible (have hT0 : True := hg; clear hT0 hg)); try simp only [EVB, Nat.reduceEqDiff, reduceIte])))
  | ((with_reducible refine hKS _ _ _ _ ?_); clear hKS; clear KS; simp only [EVB, Nat.reduceEqDiff, reduceIte])
  | ((first | ((with_reducible refine cond_go ?_); refine cond_k rfl (fun hc => ?_) (fun hc => ?_)) | (with_reducible refine And.intro (fun hc => ?_) (fun hc => ?_)) | fail) <;> first | (exact absurd hc (by decide)) | ((try simp only [CNL] at hc) <;> first | (exfalso; omega) | (exact (tf (by assumption) hc).elim) | (exact (tf hc (by assumption)).elim) | skip))
  | ((with_reducible refine And.intro ?_ ?_); focus (first | omega | exact u8_le _ | exact flat_intK _ | exact flat_bytK _ | (fail) | decide | (simp only [List.length_map, List.getElem_map, bytK, true_and]; done)))
  | ((with_reducible refine ex_p ?_ (fun hh => ?_)); focus (first | omega | (simp only [List.length_map, List.getElem_map, bytK, true_and]; omega)))
  | (with_reducible first | refine skip_k ?_ | refine exit_k ?_ | refine ret_k ?_ | fail)
  | ((with_reducible refine hK _ _ _ ?_); clear hK hE hT; clear K)
  | ((with_reducible first | refine hE _ _ _ _ ?_ | refine hT _ _ _ ?_ | fail); (first | (clear hK hE hT; clear K) | (clear hR hE hT; clear K) | skip); try simp only [Nat.reduceEqDiff, if_true, if_false, reduceIte])
  | ((with_reducible apply_assumption -symm -exfalso); try simp only [Nat.reduceEqDiff, if_true, if_false, reduceIte])
  | fail)
      · have hb : bitAt l k = true := by assumption
        (refine post_a hres (.inl rfl) ?_; simp only [RSB, ENB, Nat.reduceAdd, Nat.reduceSub, Nat.reduceMul, Nat.reduceLeDiff, Nat.reduceBEq, Nat.reduceBNe, Nat.reduceEqDiff, Nat.reduceLT, reduceIte, reduceCtorEq, Int.reduceToNat, tiAll, setOk_hit m k l hk1 (by omega) hb, exists_eq_left']; simp only [MAB, Nat.reduceEqDiff, Nat.reduceAdd, reduceIte, reduceCtorEq]; refine ⟨rfl, rfl, ?_, ?_, ?_⟩ <;> (first | rfl | (simp [WKB, Nat.add_comm, setOk_hit m k l hk1 (by omega) hb]; done) | (simp only [WKB, Nat.reduceEqDiff, reduceIte, List.forall_mem_cons, List.not_mem_nil, false_implies, implies_true])))
      · have hb : bitAt l k = false := by assumption
        have hn : ∀ j, m ≤ j → j < k + 1 → bitAt l j = false := fun j h1 h2 => by
          by_cases hj : j = k
          · subst hj; exact hb
          · exact hk.out j h1 (by omega)
        (refine hR.out ⟨k + 1, ⟨by omega, by omega⟩, ⟨hn⟩⟩ _ _ _ (by simp only; omega) ?_; (refine wk_a ?_; simp only [MAB, Nat.reduceEqDiff, Nat.reduceAdd, reduceIte, reduceCtorEq]; refine ⟨rfl, rfl, (by decide), ?_, ?_⟩; all_goals (first | (simp only [WKB, Nat.reduceEqDiff, reduceIte, List.forall_mem_cons, List.not_mem_nil, false_implies, implies_true, true_and, Nat.reduceLT, Nat.zero_lt_succ]; done) | (simp [WKB, Nat.reduceEqDiff, reduceIte, List.forall_mem_cons, List.not_mem_nil, false_implies, implies_true, true_and]; done) | simp only [WKB, Nat.reduceEqDiff, reduceIte, List.forall_mem_cons, List.not_mem_nil, false_implies, implies_true])))
      · (refine post_a hres (.inl rfl) ?_; simp only [RSB, ENB, Nat.reduceAdd, Nat.reduceSub, Nat.reduceMul, Nat.reduceLeDiff, Nat.reduceBEq, Nat.reduceBNe, Nat.reduceEqDiff, Nat.reduceLT, reduceIte, reduceCtorEq, Int.reduceToNat, tiAll, setOk_end m k l hm hlm (by omega) hk.out, exists_eq_left']; simp only [MAB, Nat.reduceEqDiff, Nat.reduceAdd, reduceIte, reduceCtorEq]; refine ⟨rfl, rfl, ?_, ?_, ?_⟩ <;> (first | rfl | (simp [WKB, Nat.add_comm, setOk_end m k l hm hlm (by omega) hk.out]; done) | (simp only [WKB, Nat.reduceEqDiff, reduceIte, List.forall_mem_cons, List.not_mem_nil, false_implies, implies_true])))
  · (refine post_a hres (.inl rfl) ?_; simp only [RSB, ENB, Nat.reduceAdd, Nat.reduceSub, Nat.reduceMul, Nat.reduceLeDiff, Nat.reduceBEq, Nat.reduceBNe, Nat.reduceEqDiff, Nat.reduceLT, reduceIte, reduceCtorEq, Int.reduceToNat, tiAll, setOk_no n l (by omega), exists_eq_left']; simp only [MAB, Nat.reduceEqDiff, Nat.reduceAdd, reduceIte, reduceCtorEq]; refine ⟨rfl, rfl, ?_, ?_, ?_⟩ <;> (first | rfl | (simp [WKB, Nat.add_comm, setOk_no n l (by omega)]; done) | (simp only [WKB, Nat.reduceEqDiff, reduceIte, List.forall_mem_cons, List.not_mem_nil, false_implies, implies_true])))
  · (refine post_a hres (.inl rfl) ?_; simp only [RSB, ENB, Nat.reduceAdd, Nat.reduceSub, Nat.reduceMul, Nat.reduceLeDiff, Nat.reduceBEq, Nat.reduceBNe, Nat.reduceEqDiff, Nat.reduceLT, reduceIte, reduceCtorEq, Int.reduceToNat, tiAll, setOk_no n l (by omega), exists_eq_left']; simp only [MAB, Nat.reduceEqDiff, Nat.reduceAdd, reduceIte, reduceCtorEq]; refine ⟨rfl, rfl, ?_, ?_, ?_⟩ <;> (first | rfl | (simp [WKB, Nat.add_comm, setOk_no n l (by omega)]; done) | (simp only [WKB, Nat.reduceEqDiff, reduceIte, List.forall_mem_cons, List.not_mem_nil, false_implies, implies_true])))

theorem l09Bit_w (v : Nat) (hv : v ≤ 1099511627776) : FnOK Try.prog 138 ⟨0, [], [.c (.v (.int .i64 (v : Int)))], .c (.v (.int .i64 (bitW v))), [], 0⟩ := l09Bit_k v hv

set_option maxHeartbeats 2000000 in
theorem specSetOk_k (n : Int) (l : List UInt8) (hl : l.length ≤ 1048576) :
    FnOK Try.prog 85 ⟨1, [(0, some (.ro (l.map bytK)))], [.agg [.v (.int .i64 n), .sl 0 1 0 l.length]], .c (.v (.bool (setOk n l))), [], 1⟩ := by
  refine fnOK_of true mixed Try.func85 rfl (by rfl) (by rfl) ?_
  have hres := congrArg Array.toList Try.results85
  simp only [Try.ntmps85, List.length_cons, List.length_nil, Nat.reduceAdd, Nat.reduceSub, List.replicate_succ, List.replicate_zero, List.cons_append, List.nil_append]
  repeat' (first
  | (with_reducible first | refine seq_k fun K hK hE hT => ?_ | refine block_k fun K hK hE hT => ?_ | refine region_k ?_ | refine lex_nil ?_ | fail)
  | ((with_reducible refine draw_k ?_ ?_); focus (first | rfl | kernel_rfl))
  | ((with_reducible first | refine lex_move ?_ | refine lex_assign ?_); simp only [EVB, Nat.reduceEqDiff, reduceIte])
  | (with_reducible first | refine lex_cons fun KS hKS => ?_ | refine lexd_cons fun KS hKS => ?_ | fail)
  | ((with_reducible refine call_go ?_); fail)
  | ((with_reducible refine step_go ?_); (fail_if_success with_reducible refine call_go ?_); simp only [ENB, Nat.reduceAdd, Nat.reduceSub, Nat.reduceMul, Nat.reduceLeDiff, Nat.reduceBEq, Nat.reduceBNe, Nat.reduceEqDiff, Nat.reduceLT, reduceIte, reduceCtorEq, Int.reduceToNat, tiAll, List.length_map, List.getElem_map, bytK])
  | ((with_reducible refine lexd_nil ?_ ?_); focus (first | kernel_rfl | with_unfolding_all rfl))
  | ((with_reducible refine guard_go ?_); refine lex_gone rfl rfl ?_; simp only [EVB, Nat.reduceEqDiff, reduceIte])
  | ((first | ((with_reducible refine guard_go ?_); refine lex_guard rfl rfl (fun hg KS hKS => ?_) (fun hg => ?_)) | ((with_reducible refine guardd_go ?_); refine lexd_guard rfl rfl (fun hg KS hKS => ?_) (fun hg => ?_)) | fail) <;> first | (exact absurd hg (by decide)) | ((try simp only [CNL] at hg) <;> first | (exfalso; omega) | (exact (tf (by assumption) hg).elim) | (exact (tf hg (by assumption)).elim) | ((try with_reducible (have hT0 : True := hg; clear hT0 hg)); try simp only [EVB, Nat.reduceEqDiff, reduceIte])))
  | ((with_reducible refine hKS _ _ _ _ ?_); clear hKS; clear KS; simp only [EVB, Nat.reduceEqDiff, reduceIte])
  | ((first | ((with_reducible refine cond_go ?_); refine cond_k rfl (fun hc => ?_) (fun hc => ?_)) | (with_reducible refine And.intro (fun hc => ?_) (fun hc => ?_)) | fail) <;> first | (exact absurd hc (by decide)) | ((try simp only [CNL] at hc) <;> first | (exfalso; omega) | (exact (tf (by assumption) hc).elim) | (exact (tf hc (by assumption)).elim) | skip))
  | ((with_reducible refine And.intro ?_ ?_); focus (first | omega | exact u8_le _ | exact flat_intK _ | exact flat_bytK _ | (fail) | decide | (simp only [List.length_map, List.getElem_map, bytK]; done)))
  | ((with_reducible refine ex_p ?_ (fun hh => ?_)); focus (first | omega | (simp only [List.length_map, List.getElem_map, bytK]; omega)))
  | (with_reducible first | refine skip_k ?_ | refine exit_k ?_ | refine ret_k ?_ | fail)
  | ((with_reducible refine hK _ _ _ ?_); clear hK hE hT; clear K)
  | ((with_reducible first | refine hE _ _ _ _ ?_ | refine hT _ _ _ ?_ | fail); (first | (clear hK hE hT; clear K) | (clear hR hE hT; clear K) | skip); try simp only [Nat.reduceEqDiff, if_true, if_false, reduceIte])
  | ((with_reducible apply_assumption -symm -exfalso); try simp only [Nat.reduceEqDiff, if_true, if_false, reduceIte])
  | fail)
  · (refine post_a hres (.inl rfl) ?_; simp only [RSB, ENB, Nat.reduceAdd, Nat.reduceSub, Nat.reduceMul, Nat.reduceLeDiff, Nat.reduceBEq, Nat.reduceBNe, Nat.reduceEqDiff, Nat.reduceLT, reduceIte, reduceCtorEq, Int.reduceToNat, tiAll, setOk_no n l (by omega), exists_eq_left']; simp only [MAB, Nat.reduceEqDiff, Nat.reduceAdd, reduceIte, reduceCtorEq]; refine ⟨rfl, rfl, ?_, ?_, ?_⟩ <;> (first | rfl | (simp [WKB, Nat.add_comm, setOk_no n l (by omega)]; done) | (simp only [WKB, Nat.reduceEqDiff, reduceIte, List.forall_mem_cons, List.not_mem_nil, false_implies, implies_true])))
  · obtain ⟨m, rfl⟩ := Int.eq_ofNat_of_zero_le (show 0 ≤ n by assumption)
    have hm : m ≤ 150 := by omega
    have hlm : l.length = (m + 7) / 8 := by omega
    refine loop_v (X := {k : Nat // (m ≤ k ∧ k ≤ 8 * l.length) ∧ Rnd (∀ j, m ≤ j → j < k → bitAt l j = false)}) [] (fun x => [(3, .c (.v (.int .i64 ((x.1 : Nat) : Int))))]) (fun x => [(0, some (.ro (l.map bytK))), (1, some (.box 26 [.v (.int .i64 (m : Int)), .sl 0 1 0 l.length]))]) 2 (fun x => 8 * l.length - x.1) ⟨m, ⟨Nat.le_refl _, by omega⟩, ⟨fun j h1 h2 => by omega⟩⟩ ?_
    simp only [KPB, Nat.reduceBEq, Nat.reduceBNe, Nat.reduceAdd, reduceIte]
    refine ⟨?_, ?_⟩
    · (refine wk_a ?_; simp only [MAB, Nat.reduceEqDiff, Nat.reduceAdd, reduceIte, reduceCtorEq]; refine ⟨rfl, rfl, (by decide), ?_, ?_⟩; all_goals (first | (simp only [WKB, Nat.reduceEqDiff, reduceIte, List.forall_mem_cons, List.not_mem_nil, false_implies, implies_true, true_and, Nat.reduceLT, Nat.zero_lt_succ]; done) | (simp [WKB, Nat.reduceEqDiff, reduceIte, List.forall_mem_cons, List.not_mem_nil, false_implies, implies_true, true_and]; done) | simp only [WKB, Nat.reduceEqDiff, reduceIte, List.forall_mem_cons, List.not_mem_nil, false_implies, implies_true]))
    · rintro ⟨k, ⟨hk1, hk2⟩, hk⟩ K hR hE hT
      have q2 : ((k : Int) / 8).toNat = k / 8 := by omega
      obtain ⟨hw1, hw2⟩ := bitW_le k
      have q0 : ∀ h : k / 8 < l.length, 0 ≤ (l[k / 8].toNat : Int) / bitW k := fun h => Int.ediv_nonneg (by omega) (by omega)
      repeat' (first
  | (with_reducible first | refine seq_k fun K hK hE hT => ?_ | refine block_k fun K hK hE hT => ?_ | refine region_k ?_ | refine lex_nil ?_ | fail)
  | ((with_reducible refine draw_k ?_ ?_); focus (first | rfl | kernel_rfl))
  | ((with_reducible first | refine lex_move ?_ | refine lex_assign ?_); simp only [EVB, Nat.reduceEqDiff, reduceIte])
  | (with_reducible first | refine lex_cons fun KS hKS => ?_ | refine lexd_cons fun KS hKS => ?_ | fail)
  | ((with_reducible refine call_go ?_); (first | ((first | refine call_a (l09Bit_w k (by omega)) rfl rfl ?_ | fail); simp only [ENB, Nat.reduceAdd, Nat.reduceSub, Nat.reduceMul, Nat.reduceLeDiff, Nat.reduceBEq, Nat.reduceBNe, Nat.reduceEqDiff, Nat.reduceLT, reduceIte, reduceCtorEq, Int.reduceToNat, tiAll, List.length_map, List.getElem_map, bytK, q2]; simp only [MAB, Nat.reduceEqDiff, Nat.reduceAdd, reduceIte, reduceCtorEq]; refine ⟨rfl, ?_, ?_, ?_, rfl, ?_, ?_, (by dsimp only; omega), ?_⟩; (focus (first | rfl | (simp [CXB, List.length_map, List.getElem_map, bytK, q2]; done) | (simp [CXB, List.length_map, List.getElem_map, bytK, q2]; omega))); (focus (simp [CXB])); (focus (simp [CXB, map_take, List.length_map, List.getElem_map, bytK, q2]; done)); (focus (simp [CXB])); (focus (simp [CXB])); simp only [EFB, Nat.reduceSub, Nat.reduceAdd, Nat.reduceLT, reduceIte]) | fail))
  | ((with_reducible refine step_go ?_); (fail_if_success with_reducible refine call_go ?_); simp only [ENB, Nat.reduceAdd, Nat.reduceSub, Nat.reduceMul, Nat.reduceLeDiff, Nat.reduceBEq, Nat.reduceBNe, Nat.reduceEqDiff, Nat.reduceLT, reduceIte, reduceCtorEq, Int.reduceToNat, tiAll, List.length_map, List.getElem_map, bytK, q2])
  | ((with_reducible refine lexd_nil ?_ ?_); focus (first | kernel_rfl | with_unfolding_all rfl))
  | ((with_reducible refine guard_go ?_); refine lex_gone rfl rfl ?_; simp only [EVB, Nat.reduceEqDiff, reduceIte])
  | ((first | ((with_reducible refine guard_go ?_); refine lex_guard rfl rfl (fun hg KS hKS => ?_) (fun hg => ?_)) | ((with_reducible refine guardd_go ?_); refine lexd_guard rfl rfl (fun hg KS hKS => ?_) (fun hg => ?_)) | fail) <;> first | (exact absurd hg (by decide)) | ((try simp only [CNL] at hg) <;> first | (exfalso; omega) | (exact (tf (by assumption) hg).elim) | (exact (tf hg (by assumption)).elim) | ((try with_reducible (have hT0 : True := hg; clear hT0 hg)); try simp only [EVB, Nat.reduceEqDiff, reduceIte])))
  | ((with_reducible refine hKS _ _ _ _ ?_); clear hKS; clear KS; simp only [EVB, Nat.reduceEqDiff, reduceIte])
  | ((first | ((with_reducible refine cond_go ?_); refine cond_k rfl (fun hc => ?_) (fun hc => ?_)) | (with_reducible refine And.intro (fun hc => ?_) (fun hc => ?_)) | fail) <;> first | (exact absurd hc (by decide)) | ((try simp only [CNL] at hc) <;> first | (exfalso; omega) | (exact (tf (by assumption) hc).elim) | (exact (tf hc (by assumption)).elim) | skip))
  | ((with_reducible refine And.intro ?_ ?_); focus (first | omega | exact u8_le _ | exact flat_intK _ | exact flat_bytK _ | (exact q0 _) | decide | (simp only [List.length_map, List.getElem_map, bytK, q2]; done)))
  | ((with_reducible refine ex_p ?_ (fun hh => ?_)); focus (first | omega | (simp only [List.length_map, List.getElem_map, bytK, q2]; omega)))
  | (with_reducible first | refine skip_k ?_ | refine exit_k ?_ | refine ret_k ?_ | fail)
  | ((with_reducible refine hK _ _ _ ?_); clear hK hE hT; clear K)
  | ((with_reducible first | refine hE _ _ _ _ ?_ | refine hT _ _ _ ?_ | fail); (first | (clear hK hE hT; clear K) | (clear hR hE hT; clear K) | skip); try simp only [Nat.reduceEqDiff, if_true, if_false, reduceIte])
  | ((with_reducible apply_assumption -symm -exfalso); try simp only [Nat.reduceEqDiff, if_true, if_false, reduceIte])
  | fail)
      · have hb : bitAt l k = true := by rw [← bit_quo l k (by omega), beq_iff_eq]; assumption
        (refine post_a hres (.inl rfl) ?_; simp only [RSB, ENB, Nat.reduceAdd, Nat.reduceSub, Nat.reduceMul, Nat.reduceLeDiff, Nat.reduceBEq, Nat.reduceBNe, Nat.reduceEqDiff, Nat.reduceLT, reduceIte, reduceCtorEq, Int.reduceToNat, tiAll, setOk_hit m k l hk1 (by omega) hb, exists_eq_left']; simp only [MAB, Nat.reduceEqDiff, Nat.reduceAdd, reduceIte, reduceCtorEq]; refine ⟨rfl, rfl, ?_, ?_, ?_⟩ <;> (first | rfl | (simp [WKB, Nat.add_comm, setOk_hit m k l hk1 (by omega) hb]; done) | (simp only [WKB, Nat.reduceEqDiff, reduceIte, List.forall_mem_cons, List.not_mem_nil, false_implies, implies_true])))
      · have hb : bitAt l k = false := by rw [← bit_quo l k (by omega), beq_eq_false_iff_ne]; assumption
        have hn : ∀ j, m ≤ j → j < k + 1 → bitAt l j = false := fun j h1 h2 => by
          by_cases hj : j = k
          · subst hj; exact hb
          · exact hk.out j h1 (by omega)
        (refine hR.out ⟨k + 1, ⟨by omega, by omega⟩, ⟨hn⟩⟩ _ _ _ (by simp only; omega) ?_; (refine wk_a ?_; simp only [MAB, Nat.reduceEqDiff, Nat.reduceAdd, reduceIte, reduceCtorEq]; refine ⟨rfl, rfl, (by decide), ?_, ?_⟩; all_goals (first | (simp only [WKB, Nat.reduceEqDiff, reduceIte, List.forall_mem_cons, List.not_mem_nil, false_implies, implies_true, true_and, Nat.reduceLT, Nat.zero_lt_succ]; done) | (simp [WKB, Nat.reduceEqDiff, reduceIte, List.forall_mem_cons, List.not_mem_nil, false_implies, implies_true, true_and]; done) | simp only [WKB, Nat.reduceEqDiff, reduceIte, List.forall_mem_cons, List.not_mem_nil, false_implies, implies_true])))
      · (refine post_a hres (.inl rfl) ?_; simp only [RSB, ENB, Nat.reduceAdd, Nat.reduceSub, Nat.reduceMul, Nat.reduceLeDiff, Nat.reduceBEq, Nat.reduceBNe, Nat.reduceEqDiff, Nat.reduceLT, reduceIte, reduceCtorEq, Int.reduceToNat, tiAll, setOk_end m k l hm hlm (by omega) hk.out, exists_eq_left']; simp only [MAB, Nat.reduceEqDiff, Nat.reduceAdd, reduceIte, reduceCtorEq]; refine ⟨rfl, rfl, ?_, ?_, ?_⟩ <;> (first | rfl | (simp [WKB, Nat.add_comm, setOk_end m k l hm hlm (by omega) hk.out]; done) | (simp only [WKB, Nat.reduceEqDiff, reduceIte, List.forall_mem_cons, List.not_mem_nil, false_implies, implies_true])))
  · (refine post_a hres (.inl rfl) ?_; simp only [RSB, ENB, Nat.reduceAdd, Nat.reduceSub, Nat.reduceMul, Nat.reduceLeDiff, Nat.reduceBEq, Nat.reduceBNe, Nat.reduceEqDiff, Nat.reduceLT, reduceIte, reduceCtorEq, Int.reduceToNat, tiAll, setOk_no n l (by omega), exists_eq_left']; simp only [MAB, Nat.reduceEqDiff, Nat.reduceAdd, reduceIte, reduceCtorEq]; refine ⟨rfl, rfl, ?_, ?_, ?_⟩ <;> (first | rfl | (simp [WKB, Nat.add_comm, setOk_no n l (by omega)]; done) | (simp only [WKB, Nat.reduceEqDiff, reduceIte, List.forall_mem_cons, List.not_mem_nil, false_implies, implies_true])))
  · (refine post_a hres (.inl rfl) ?_; simp only [RSB, ENB, Nat.reduceAdd, Nat.reduceSub, Nat.reduceMul, Nat.reduceLeDiff, Nat.reduceBEq, Nat.reduceBNe, Nat.reduceEqDiff, Nat.reduceLT, reduceIte, reduceCtorEq, Int.reduceToNat, tiAll, setOk_no n l (by omega), exists_eq_left']; simp only [MAB, Nat.reduceEqDiff, Nat.reduceAdd, reduceIte, reduceCtorEq]; refine ⟨rfl, rfl, ?_, ?_, ?_⟩ <;> (first | rfl | (simp [WKB, Nat.add_comm, setOk_no n l (by omega)]; done) | (simp only [WKB, Nat.reduceEqDiff, reduceIte, List.forall_mem_cons, List.not_mem_nil, false_implies, implies_true])))

/-- Is the vertex a member? -/
def hasL (n : Int) (l : List UInt8) (v : Int) : Bool := setOk n l && decide (0 ≤ v ∧ v < n) && bitAt l v.toNat


set_option maxHeartbeats 2000000 in
theorem implHas_k (n : Int) (l : List UInt8) (hl : l.length ≤ 1048576) (v : Int) :
    FnOK Try.prog 70 ⟨1, [(0, some (.ro (l.map bytK)))], [.agg [.v (.int .i64 n), .sl 0 1 0 l.length], .c (.v (.int .i64 v))], .c (.v (.bool (hasL n l v))), [], 1⟩ := by
  cases ho : setOk n l with
  | false =>
    have hs := implSetOk_k n l hl
    rw [ho] at hs
    refine fnOK_of true mixed Try.func70 rfl (by rfl) (by rfl) ?_
    have hres := congrArg Array.toList Try.results70
    simp only [Try.ntmps70, List.length_cons, List.length_nil, Nat.reduceAdd, Nat.reduceSub, List.replicate_succ, List.replicate_zero, List.cons_append, List.nil_append]
    repeat' (first
  | (with_reducible first | refine seq_k fun K hK hE hT => ?_ | refine block_k fun K hK hE hT => ?_ | refine region_k ?_ | refine lex_nil ?_ | fail)
  | ((with_reducible refine draw_k ?_ ?_); focus (first | rfl | kernel_rfl))
  | ((with_reducible first | refine lex_move ?_ | refine lex_assign ?_); simp only [EVB, Nat.reduceEqDiff, reduceIte])
  | (with_reducible first | refine lex_cons fun KS hKS => ?_ | refine lexd_cons fun KS hKS => ?_ | fail)
  | ((with_reducible refine call_go ?_); (first | ((first | refine call_a (hs) rfl rfl ?_ | fail); simp only [ENB, Nat.reduceAdd, Nat.reduceSub, Nat.reduceMul, Nat.reduceLeDiff, Nat.reduceBEq, Nat.reduceBNe, Nat.reduceEqDiff, Nat.reduceLT, reduceIte, reduceCtorEq, Int.reduceToNat, tiAll, List.length_map, List.getElem_map, bytK]; simp only [MAB, Nat.reduceEqDiff, Nat.reduceAdd, reduceIte, reduceCtorEq]; refine ⟨rfl, ?_, ?_, ?_, rfl, ?_, ?_, (by dsimp only; omega), ?_⟩; (focus (first | rfl | (simp [CXB, List.length_map, List.getElem_map, bytK]; done) | (simp [CXB, List.length_map, List.getElem_map, bytK]; omega))); (focus (simp [CXB])); (focus (simp [CXB, map_take, List.length_map, List.getElem_map, bytK]; done)); (focus (simp [CXB])); (focus (simp [CXB])); simp only [EFB, Nat.reduceSub, Nat.reduceAdd, Nat.reduceLT, reduceIte]) | fail))
  | ((with_reducible refine step_go ?_); (fail_if_success with_reducible refine call_go ?_); simp only [ENB, Nat.reduceAdd, Nat.reduceSub, Nat.reduceMul, Nat.reduceLeDiff, Nat.reduceBEq, Nat.reduceBNe, Nat.reduceEqDiff, Nat.reduceLT, reduceIte, reduceCtorEq, Int.reduceToNat, tiAll, List.length_map, List.getElem_map, bytK])
  | ((with_reducible refine lexd_nil ?_ ?_); focus (first | kernel_rfl | with_unfolding_all rfl))
  | ((with_reducible refine guard_go ?_); refine lex_gone rfl rfl ?_; simp only [EVB, Nat.reduceEqDiff, reduceIte])
  | ((first | ((with_reducible refine guard_go ?_); refine lex_guard rfl rfl (fun hg KS hKS => ?_) (fun hg => ?_)) | ((with_reducible refine guardd_go ?_); refine lexd_guard rfl rfl (fun hg KS hKS => ?_) (fun hg => ?_)) | fail) <;> first | (exact absurd hg (by decide)) | ((try simp only [CNL] at hg) <;> first | (exfalso; omega) | (exact (tf (by assumption) hg).elim) | (exact (tf hg (by assumption)).elim) | ((try with_reducible (have hT0 : True := hg; clear hT0 hg)); try simp only [EVB, Nat.reduceEqDiff, reduceIte])))
  | ((with_reducible refine hKS _ _ _ _ ?_); clear hKS; clear KS; simp only [EVB, Nat.reduceEqDiff, reduceIte])
  | ((first | ((with_reducible refine cond_go ?_); refine cond_k rfl (fun hc => ?_) (fun hc => ?_)) | (with_reducible refine And.intro (fun hc => ?_) (fun hc => ?_)) | fail) <;> first | (exact absurd hc (by decide)) | ((try simp only [CNL] at hc) <;> first | (exfalso; omega) | (exact (tf (by assumption) hc).elim) | (exact (tf hc (by assumption)).elim) | skip))
  | ((with_reducible refine And.intro ?_ ?_); focus (first | omega | exact u8_le _ | exact flat_intK _ | exact flat_bytK _ | (fail) | decide | (simp only [List.length_map, List.getElem_map, bytK]; done)))
  | ((with_reducible refine ex_p ?_ (fun hh => ?_)); focus (first | omega | (simp only [List.length_map, List.getElem_map, bytK]; omega)))
  | (with_reducible first | refine skip_k ?_ | refine exit_k ?_ | refine ret_k ?_ | fail)
  | ((with_reducible refine hK _ _ _ ?_); clear hK hE hT; clear K)
  | ((with_reducible first | refine hE _ _ _ _ ?_ | refine hT _ _ _ ?_ | fail); (first | (clear hK hE hT; clear K) | (clear hR hE hT; clear K) | skip); try simp only [Nat.reduceEqDiff, if_true, if_false, reduceIte])
  | ((with_reducible apply_assumption -symm -exfalso); try simp only [Nat.reduceEqDiff, if_true, if_false, reduceIte])
  | fail)
    (refine post_a hres (.inl rfl) ?_; simp only [RSB, ENB, Nat.reduceAdd, Nat.reduceSub, Nat.reduceMul, Nat.reduceLeDiff, Nat.reduceBEq, Nat.reduceBNe, Nat.reduceEqDiff, Nat.reduceLT, reduceIte, reduceCtorEq, Int.reduceToNat, tiAll, hasL, ho, Bool.false_and, exists_eq_left']; simp only [MAB, Nat.reduceEqDiff, Nat.reduceAdd, reduceIte, reduceCtorEq]; refine ⟨rfl, rfl, ?_, ?_, ?_⟩ <;> (first | rfl | (simp [WKB, Nat.add_comm, hasL, ho, Bool.false_and]; done) | (simp only [WKB, Nat.reduceEqDiff, reduceIte, List.forall_mem_cons, List.not_mem_nil, false_implies, implies_true])))
  | true =>
    obtain ⟨h1, h2, h3, h4⟩ := setOk_len ho
    have hs := implSetOk_k n l hl
    rw [ho] at hs
    by_cases hv : 0 ≤ v ∧ v < n
    · obtain ⟨k, rfl⟩ := Int.eq_ofNat_of_zero_le hv.1
      have hk : k / 8 < l.length := by omega
      have e : hasL n l (k : Int) = bitAt l k := by unfold hasL; simp [ho, hv.2]
      skip
      refine fnOK_of true mixed Try.func70 rfl (by rfl) (by rfl) ?_
      have hres := congrArg Array.toList Try.results70
      simp only [Try.ntmps70, List.length_cons, List.length_nil, Nat.reduceAdd, Nat.reduceSub, List.replicate_succ, List.replicate_zero, List.cons_append, List.nil_append]
      repeat' (first
  | (with_reducible first | refine seq_k fun K hK hE hT => ?_ | refine block_k fun K hK hE hT => ?_ | refine region_k ?_ | refine lex_nil ?_ | fail)
  | ((with_reducible refine draw_k ?_ ?_); focus (first | rfl | kernel_rfl))
  | ((with_reducible first | refine lex_move ?_ | refine lex_assign ?_); simp only [EVB, Nat.reduceEqDiff, reduceIte])
  | (with_reducible first | refine lex_cons fun KS hKS => ?_ | refine lexd_cons fun KS hKS => ?_ | fail)
  | ((with_reducible refine call_go ?_); (first | ((first | refine call_a (hs) rfl rfl ?_ | refine call_a (implhas_k n l k hk (by omega)) rfl rfl ?_ | fail); simp only [ENB, Nat.reduceAdd, Nat.reduceSub, Nat.reduceMul, Nat.reduceLeDiff, Nat.reduceBEq, Nat.reduceBNe, Nat.reduceEqDiff, Nat.reduceLT, reduceIte, reduceCtorEq, Int.reduceToNat, tiAll, List.length_map, List.getElem_map, bytK, true_and]; simp only [MAB, Nat.reduceEqDiff, Nat.reduceAdd, reduceIte, reduceCtorEq]; refine ⟨rfl, ?_, ?_, ?_, rfl, ?_, ?_, (by dsimp only; omega), ?_⟩; (focus (first | rfl | (simp [CXB, List.length_map, List.getElem_map, bytK, true_and]; done) | (simp [CXB, List.length_map, List.getElem_map, bytK, true_and]; omega))); (focus (simp [CXB])); (focus (simp [CXB, map_take, List.length_map, List.getElem_map, bytK, true_and]; done)); (focus (simp [CXB])); (focus (simp [CXB])); simp only [EFB, Nat.reduceSub, Nat.reduceAdd, Nat.reduceLT, reduceIte]) | fail))
  | ((with_reducible refine step_go ?_); (fail_if_success with_reducible refine call_go ?_); simp only [ENB, Nat.reduceAdd, Nat.reduceSub, Nat.reduceMul, Nat.reduceLeDiff, Nat.reduceBEq, Nat.reduceBNe, Nat.reduceEqDiff, Nat.reduceLT, reduceIte, reduceCtorEq, Int.reduceToNat, tiAll, List.length_map, List.getElem_map, bytK, true_and])
  | ((with_reducible refine lexd_nil ?_ ?_); focus (first | kernel_rfl | with_unfolding_all rfl))
  | ((with_reducible refine guard_go ?_); refine lex_gone rfl rfl ?_; simp only [EVB, Nat.reduceEqDiff, reduceIte])
  | ((first | ((with_reducible refine guard_go ?_); refine lex_guard rfl rfl (fun hg KS hKS => ?_) (fun hg => ?_)) | ((with_reducible refine guardd_go ?_); refine lexd_guard rfl rfl (fun hg KS hKS => ?_) (fun hg => ?_)) | fail) <;> first | (exact absurd hg (by decide)) | ((try simp only [CNL] at hg) <;> first | (exfalso; omega) | (exact (tf (by assumption) hg).elim) | (exact (tf hg (by assumption)).elim) | ((try with_reducible (have hT0 : True := hg; clear hT0 hg)); try simp only [EVB, Nat.reduceEqDiff, reduceIte])))
  | ((with_reducible refine hKS _ _ _ _ ?_); clear hKS; clear KS; simp only [EVB, Nat.reduceEqDiff, reduceIte])
  | ((first | ((with_reducible refine cond_go ?_); refine cond_k rfl (fun hc => ?_) (fun hc => ?_)) | (with_reducible refine And.intro (fun hc => ?_) (fun hc => ?_)) | fail) <;> first | (exact absurd hc (by decide)) | ((try simp only [CNL] at hc) <;> first | (exfalso; omega) | (exact (tf (by assumption) hc).elim) | (exact (tf hc (by assumption)).elim) | skip))
  | ((with_reducible refine And.intro ?_ ?_); focus (first | omega | exact u8_le _ | exact flat_intK _ | exact flat_bytK _ | (fail) | decide | (simp only [List.length_map, List.getElem_map, bytK, true_and]; done)))
  | ((with_reducible refine ex_p ?_ (fun hh => ?_)); focus (first | omega | (simp only [List.length_map, List.getElem_map, bytK, true_and]; omega)))
  | (with_reducible first | refine skip_k ?_ | refine exit_k ?_ | refine ret_k ?_ | fail)
  | ((with_reducible refine hK _ _ _ ?_); clear hK hE hT; clear K)
  | ((with_reducible first | refine hE _ _ _ _ ?_ | refine hT _ _ _ ?_ | fail); (first | (clear hK hE hT; clear K) | (clear hR hE hT; clear K) | skip); try simp only [Nat.reduceEqDiff, if_true, if_false, reduceIte])
  | ((with_reducible apply_assumption -symm -exfalso); try simp only [Nat.reduceEqDiff, if_true, if_false, reduceIte])
  | fail)
      (refine post_a hres (.inl rfl) ?_; simp only [RSB, ENB, Nat.reduceAdd, Nat.reduceSub, Nat.reduceMul, Nat.reduceLeDiff, Nat.reduceBEq, Nat.reduceBNe, Nat.reduceEqDiff, Nat.reduceLT, reduceIte, reduceCtorEq, Int.reduceToNat, tiAll, e, exists_eq_left']; simp only [MAB, Nat.reduceEqDiff, Nat.reduceAdd, reduceIte, reduceCtorEq]; refine ⟨rfl, rfl, ?_, ?_, ?_⟩ <;> (first | rfl | (simp [WKB, Nat.add_comm, e]; done) | (simp only [WKB, Nat.reduceEqDiff, reduceIte, List.forall_mem_cons, List.not_mem_nil, false_implies, implies_true])))
    · have e : hasL n l v = false := by unfold hasL; simp [ho]; intro a b; exact absurd ⟨a, b⟩ hv
      refine fnOK_of true mixed Try.func70 rfl (by rfl) (by rfl) ?_
      have hres := congrArg Array.toList Try.results70
      simp only [Try.ntmps70, List.length_cons, List.length_nil, Nat.reduceAdd, Nat.reduceSub, List.replicate_succ, List.replicate_zero, List.cons_append, List.nil_append]
      repeat' (first
  | (with_reducible first | refine seq_k fun K hK hE hT => ?_ | refine block_k fun K hK hE hT => ?_ | refine region_k ?_ | refine lex_nil ?_ | fail)
  | ((with_reducible refine draw_k ?_ ?_); focus (first | rfl | kernel_rfl))
  | ((with_reducible first | refine lex_move ?_ | refine lex_assign ?_); simp only [EVB, Nat.reduceEqDiff, reduceIte])
  | (with_reducible first | refine lex_cons fun KS hKS => ?_ | refine lexd_cons fun KS hKS => ?_ | fail)
  | ((with_reducible refine call_go ?_); (first | ((first | refine call_a (hs) rfl rfl ?_ | fail); simp only [ENB, Nat.reduceAdd, Nat.reduceSub, Nat.reduceMul, Nat.reduceLeDiff, Nat.reduceBEq, Nat.reduceBNe, Nat.reduceEqDiff, Nat.reduceLT, reduceIte, reduceCtorEq, Int.reduceToNat, tiAll, List.length_map, List.getElem_map, bytK]; simp only [MAB, Nat.reduceEqDiff, Nat.reduceAdd, reduceIte, reduceCtorEq]; refine ⟨rfl, ?_, ?_, ?_, rfl, ?_, ?_, (by dsimp only; omega), ?_⟩; (focus (first | rfl | (simp [CXB, List.length_map, List.getElem_map, bytK]; done) | (simp [CXB, List.length_map, List.getElem_map, bytK]; omega))); (focus (simp [CXB])); (focus (simp [CXB, map_take, List.length_map, List.getElem_map, bytK]; done)); (focus (simp [CXB])); (focus (simp [CXB])); simp only [EFB, Nat.reduceSub, Nat.reduceAdd, Nat.reduceLT, reduceIte]) | fail))
  | ((with_reducible refine step_go ?_); (fail_if_success with_reducible refine call_go ?_); simp only [ENB, Nat.reduceAdd, Nat.reduceSub, Nat.reduceMul, Nat.reduceLeDiff, Nat.reduceBEq, Nat.reduceBNe, Nat.reduceEqDiff, Nat.reduceLT, reduceIte, reduceCtorEq, Int.reduceToNat, tiAll, List.length_map, List.getElem_map, bytK])
  | ((with_reducible refine lexd_nil ?_ ?_); focus (first | kernel_rfl | with_unfolding_all rfl))
  | ((with_reducible refine guard_go ?_); refine lex_gone rfl rfl ?_; simp only [EVB, Nat.reduceEqDiff, reduceIte])
  | ((first | ((with_reducible refine guard_go ?_); refine lex_guard rfl rfl (fun hg KS hKS => ?_) (fun hg => ?_)) | ((with_reducible refine guardd_go ?_); refine lexd_guard rfl rfl (fun hg KS hKS => ?_) (fun hg => ?_)) | fail) <;> first | (exact absurd hg (by decide)) | ((try simp only [CNL] at hg) <;> first | (exfalso; omega) | (exact (tf (by assumption) hg).elim) | (exact (tf hg (by assumption)).elim) | ((try with_reducible (have hT0 : True := hg; clear hT0 hg)); try simp only [EVB, Nat.reduceEqDiff, reduceIte])))
  | ((with_reducible refine hKS _ _ _ _ ?_); clear hKS; clear KS; simp only [EVB, Nat.reduceEqDiff, reduceIte])
  | ((first | ((with_reducible refine cond_go ?_); refine cond_k rfl (fun hc => ?_) (fun hc => ?_)) | (with_reducible refine And.intro (fun hc => ?_) (fun hc => ?_)) | fail) <;> first | (exact absurd hc (by decide)) | ((try simp only [CNL] at hc) <;> first | (exfalso; omega) | (exact (tf (by assumption) hc).elim) | (exact (tf hc (by assumption)).elim) | skip))
  | ((with_reducible refine And.intro ?_ ?_); focus (first | omega | exact u8_le _ | exact flat_intK _ | exact flat_bytK _ | (fail) | decide | (simp only [List.length_map, List.getElem_map, bytK]; done)))
  | ((with_reducible refine ex_p ?_ (fun hh => ?_)); focus (first | omega | (simp only [List.length_map, List.getElem_map, bytK]; omega)))
  | (with_reducible first | refine skip_k ?_ | refine exit_k ?_ | refine ret_k ?_ | fail)
  | ((with_reducible refine hK _ _ _ ?_); clear hK hE hT; clear K)
  | ((with_reducible first | refine hE _ _ _ _ ?_ | refine hT _ _ _ ?_ | fail); (first | (clear hK hE hT; clear K) | (clear hR hE hT; clear K) | skip); try simp only [Nat.reduceEqDiff, if_true, if_false, reduceIte])
  | ((with_reducible apply_assumption -symm -exfalso); try simp only [Nat.reduceEqDiff, if_true, if_false, reduceIte])
  | fail)
      all_goals (refine post_a hres (.inl rfl) ?_; simp only [RSB, ENB, Nat.reduceAdd, Nat.reduceSub, Nat.reduceMul, Nat.reduceLeDiff, Nat.reduceBEq, Nat.reduceBNe, Nat.reduceEqDiff, Nat.reduceLT, reduceIte, reduceCtorEq, Int.reduceToNat, tiAll, e, exists_eq_left']; simp only [MAB, Nat.reduceEqDiff, Nat.reduceAdd, reduceIte, reduceCtorEq]; refine ⟨rfl, rfl, ?_, ?_, ?_⟩ <;> (first | rfl | (simp [WKB, Nat.add_comm, e]; done) | (simp only [WKB, Nat.reduceEqDiff, reduceIte, List.forall_mem_cons, List.not_mem_nil, false_implies, implies_true])))

set_option maxHeartbeats 2000000 in
theorem specHas_k (n : Int) (l : List UInt8) (hl : l.length ≤ 1048576) (v : Int) :
    FnOK Try.prog 71 ⟨1, [(0, some (.ro (l.map bytK)))], [.agg [.v (.int .i64 n), .sl 0 1 0 l.length], .c (.v (.int .i64 v))], .c (.v (.bool (hasL n l v))), [], 1⟩ := by
  cases ho : setOk n l with
  | false =>
    have hs := specSetOk_k n l hl
    rw [ho] at hs
    refine fnOK_of true mixed Try.func71 rfl (by rfl) (by rfl) ?_
    have hres := congrArg Array.toList Try.results71
    simp only [Try.ntmps71, List.length_cons, List.length_nil, Nat.reduceAdd, Nat.reduceSub, List.replicate_succ, List.replicate_zero, List.cons_append, List.nil_append]
    repeat' (first
  | (with_reducible first | refine seq_k fun K hK hE hT => ?_ | refine block_k fun K hK hE hT => ?_ | refine region_k ?_ | refine lex_nil ?_ | fail)
  | ((with_reducible refine draw_k ?_ ?_); focus (first | rfl | kernel_rfl))
  | ((with_reducible first | refine lex_move ?_ | refine lex_assign ?_); simp only [EVB, Nat.reduceEqDiff, reduceIte])
  | (with_reducible first | refine lex_cons fun KS hKS => ?_ | refine lexd_cons fun KS hKS => ?_ | fail)
  | ((with_reducible refine call_go ?_); (first | ((first | refine call_a (hs) rfl rfl ?_ | fail); simp only [ENB, Nat.reduceAdd, Nat.reduceSub, Nat.reduceMul, Nat.reduceLeDiff, Nat.reduceBEq, Nat.reduceBNe, Nat.reduceEqDiff, Nat.reduceLT, reduceIte, reduceCtorEq, Int.reduceToNat, tiAll, List.length_map, List.getElem_map, bytK]; simp only [MAB, Nat.reduceEqDiff, Nat.reduceAdd, reduceIte, reduceCtorEq]; refine ⟨rfl, ?_, ?_, ?_, rfl, ?_, ?_, (by dsimp only; omega), ?_⟩; (focus (first | rfl | (simp [CXB, List.length_map, List.getElem_map, bytK]; done) | (simp [CXB, List.length_map, List.getElem_map, bytK]; omega))); (focus (simp [CXB])); (focus (simp [CXB, map_take, List.length_map, List.getElem_map, bytK]; done)); (focus (simp [CXB])); (focus (simp [CXB])); simp only [EFB, Nat.reduceSub, Nat.reduceAdd, Nat.reduceLT, reduceIte]) | fail))
  | ((with_reducible refine step_go ?_); (fail_if_success with_reducible refine call_go ?_); simp only [ENB, Nat.reduceAdd, Nat.reduceSub, Nat.reduceMul, Nat.reduceLeDiff, Nat.reduceBEq, Nat.reduceBNe, Nat.reduceEqDiff, Nat.reduceLT, reduceIte, reduceCtorEq, Int.reduceToNat, tiAll, List.length_map, List.getElem_map, bytK])
  | ((with_reducible refine lexd_nil ?_ ?_); focus (first | kernel_rfl | with_unfolding_all rfl))
  | ((with_reducible refine guard_go ?_); refine lex_gone rfl rfl ?_; simp only [EVB, Nat.reduceEqDiff, reduceIte])
  | ((first | ((with_reducible refine guard_go ?_); refine lex_guard rfl rfl (fun hg KS hKS => ?_) (fun hg => ?_)) | ((with_reducible refine guardd_go ?_); refine lexd_guard rfl rfl (fun hg KS hKS => ?_) (fun hg => ?_)) | fail) <;> first | (exact absurd hg (by decide)) | ((try simp only [CNL] at hg) <;> first | (exfalso; omega) | (exact (tf (by assumption) hg).elim) | (exact (tf hg (by assumption)).elim) | ((try with_reducible (have hT0 : True := hg; clear hT0 hg)); try simp only [EVB, Nat.reduceEqDiff, reduceIte])))
  | ((with_reducible refine hKS _ _ _ _ ?_); clear hKS; clear KS; simp only [EVB, Nat.reduceEqDiff, reduceIte])
  | ((first | ((with_reducible refine cond_go ?_); refine cond_k rfl (fun hc => ?_) (fun hc => ?_)) | (with_reducible refine And.intro (fun hc => ?_) (fun hc => ?_)) | fail) <;> first | (exact absurd hc (by decide)) | ((try simp only [CNL] at hc) <;> first | (exfalso; omega) | (exact (tf (by assumption) hc).elim) | (exact (tf hc (by assumption)).elim) | skip))
  | ((with_reducible refine And.intro ?_ ?_); focus (first | omega | exact u8_le _ | exact flat_intK _ | exact flat_bytK _ | (fail) | decide | (simp only [List.length_map, List.getElem_map, bytK]; done)))
  | ((with_reducible refine ex_p ?_ (fun hh => ?_)); focus (first | omega | (simp only [List.length_map, List.getElem_map, bytK]; omega)))
  | (with_reducible first | refine skip_k ?_ | refine exit_k ?_ | refine ret_k ?_ | fail)
  | ((with_reducible refine hK _ _ _ ?_); clear hK hE hT; clear K)
  | ((with_reducible first | refine hE _ _ _ _ ?_ | refine hT _ _ _ ?_ | fail); (first | (clear hK hE hT; clear K) | (clear hR hE hT; clear K) | skip); try simp only [Nat.reduceEqDiff, if_true, if_false, reduceIte])
  | ((with_reducible apply_assumption -symm -exfalso); try simp only [Nat.reduceEqDiff, if_true, if_false, reduceIte])
  | fail)
    (refine post_a hres (.inl rfl) ?_; simp only [RSB, ENB, Nat.reduceAdd, Nat.reduceSub, Nat.reduceMul, Nat.reduceLeDiff, Nat.reduceBEq, Nat.reduceBNe, Nat.reduceEqDiff, Nat.reduceLT, reduceIte, reduceCtorEq, Int.reduceToNat, tiAll, hasL, ho, Bool.false_and, exists_eq_left']; simp only [MAB, Nat.reduceEqDiff, Nat.reduceAdd, reduceIte, reduceCtorEq]; refine ⟨rfl, rfl, ?_, ?_, ?_⟩ <;> (first | rfl | (simp [WKB, Nat.add_comm, hasL, ho, Bool.false_and]; done) | (simp only [WKB, Nat.reduceEqDiff, reduceIte, List.forall_mem_cons, List.not_mem_nil, false_implies, implies_true])))
  | true =>
    obtain ⟨h1, h2, h3, h4⟩ := setOk_len ho
    have hs := specSetOk_k n l hl
    rw [ho] at hs
    by_cases hv : 0 ≤ v ∧ v < n
    · obtain ⟨k, rfl⟩ := Int.eq_ofNat_of_zero_le hv.1
      have hk : k / 8 < l.length := by omega
      have e : hasL n l (k : Int) = bitAt l k := by unfold hasL; simp [ho, hv.2]
      have q2 : ((k : Int) / 8).toNat = k / 8 := by omega
      obtain ⟨hw1, hw2⟩ := bitW_le k
      have q0 : ∀ h : k / 8 < l.length, 0 ≤ (l[k / 8].toNat : Int) / bitW k := fun h => Int.ediv_nonneg (by omega) (by omega)
      have q3 := bit_quo l k hk
      refine fnOK_of true mixed Try.func71 rfl (by rfl) (by rfl) ?_
      have hres := congrArg Array.toList Try.results71
      simp only [Try.ntmps71, List.length_cons, List.length_nil, Nat.reduceAdd, Nat.reduceSub, List.replicate_succ, List.replicate_zero, List.cons_append, List.nil_append]
      repeat' (first
  | (with_reducible first | refine seq_k fun K hK hE hT => ?_ | refine block_k fun K hK hE hT => ?_ | refine region_k ?_ | refine lex_nil ?_ | fail)
  | ((with_reducible refine draw_k ?_ ?_); focus (first | rfl | kernel_rfl))
  | ((with_reducible first | refine lex_move ?_ | refine lex_assign ?_); simp only [EVB, Nat.reduceEqDiff, reduceIte])
  | (with_reducible first | refine lex_cons fun KS hKS => ?_ | refine lexd_cons fun KS hKS => ?_ | fail)
  | ((with_reducible refine call_go ?_); (first | ((first | refine call_a (hs) rfl rfl ?_ | refine call_a (l09Bit_w k (by omega)) rfl rfl ?_ | fail); simp only [ENB, Nat.reduceAdd, Nat.reduceSub, Nat.reduceMul, Nat.reduceLeDiff, Nat.reduceBEq, Nat.reduceBNe, Nat.reduceEqDiff, Nat.reduceLT, reduceIte, reduceCtorEq, Int.reduceToNat, tiAll, List.length_map, List.getElem_map, bytK, q2, q3]; simp only [MAB, Nat.reduceEqDiff, Nat.reduceAdd, reduceIte, reduceCtorEq]; refine ⟨rfl, ?_, ?_, ?_, rfl, ?_, ?_, (by dsimp only; omega), ?_⟩; (focus (first | rfl | (simp [CXB, List.length_map, List.getElem_map, bytK, q2, q3]; done) | (simp [CXB, List.length_map, List.getElem_map, bytK, q2, q3]; omega))); (focus (simp [CXB])); (focus (simp [CXB, map_take, List.length_map, List.getElem_map, bytK, q2, q3]; done)); (focus (simp [CXB])); (focus (simp [CXB])); simp only [EFB, Nat.reduceSub, Nat.reduceAdd, Nat.reduceLT, reduceIte]) | fail))
  | ((with_reducible refine step_go ?_); (fail_if_success with_reducible refine call_go ?_); simp only [ENB, Nat.reduceAdd, Nat.reduceSub, Nat.reduceMul, Nat.reduceLeDiff, Nat.reduceBEq, Nat.reduceBNe, Nat.reduceEqDiff, Nat.reduceLT, reduceIte, reduceCtorEq, Int.reduceToNat, tiAll, List.length_map, List.getElem_map, bytK, q2, q3])
  | ((with_reducible refine lexd_nil ?_ ?_); focus (first | kernel_rfl | with_unfolding_all rfl))
  | ((with_reducible refine guard_go ?_); refine lex_gone rfl rfl ?_; simp only [EVB, Nat.reduceEqDiff, reduceIte])
  | ((first | ((with_reducible refine guard_go ?_); refine lex_guard rfl rfl (fun hg KS hKS => ?_) (fun hg => ?_)) | ((with_reducible refine guardd_go ?_); refine lexd_guard rfl rfl (fun hg KS hKS => ?_) (fun hg => ?_)) | fail) <;> first | (exact absurd hg (by decide)) | ((try simp only [CNL] at hg) <;> first | (exfalso; omega) | (exact (tf (by assumption) hg).elim) | (exact (tf hg (by assumption)).elim) | ((try with_reducible (have hT0 : True := hg; clear hT0 hg)); try simp only [EVB, Nat.reduceEqDiff, reduceIte])))
  | ((with_reducible refine hKS _ _ _ _ ?_); clear hKS; clear KS; simp only [EVB, Nat.reduceEqDiff, reduceIte])
  | ((first | ((with_reducible refine cond_go ?_); refine cond_k rfl (fun hc => ?_) (fun hc => ?_)) | (with_reducible refine And.intro (fun hc => ?_) (fun hc => ?_)) | fail) <;> first | (exact absurd hc (by decide)) | ((try simp only [CNL] at hc) <;> first | (exfalso; omega) | (exact (tf (by assumption) hc).elim) | (exact (tf hc (by assumption)).elim) | skip))
  | ((with_reducible refine And.intro ?_ ?_); focus (first | omega | exact u8_le _ | exact flat_intK _ | exact flat_bytK _ | (exact q0 _) | decide | (simp only [List.length_map, List.getElem_map, bytK, q2, q3]; done)))
  | ((with_reducible refine ex_p ?_ (fun hh => ?_)); focus (first | omega | (simp only [List.length_map, List.getElem_map, bytK, q2, q3]; omega)))
  | (with_reducible first | refine skip_k ?_ | refine exit_k ?_ | refine ret_k ?_ | fail)
  | ((with_reducible refine hK _ _ _ ?_); clear hK hE hT; clear K)
  | ((with_reducible first | refine hE _ _ _ _ ?_ | refine hT _ _ _ ?_ | fail); (first | (clear hK hE hT; clear K) | (clear hR hE hT; clear K) | skip); try simp only [Nat.reduceEqDiff, if_true, if_false, reduceIte])
  | ((with_reducible apply_assumption -symm -exfalso); try simp only [Nat.reduceEqDiff, if_true, if_false, reduceIte])
  | fail)
      (refine post_a hres (.inl rfl) ?_; simp only [RSB, ENB, Nat.reduceAdd, Nat.reduceSub, Nat.reduceMul, Nat.reduceLeDiff, Nat.reduceBEq, Nat.reduceBNe, Nat.reduceEqDiff, Nat.reduceLT, reduceIte, reduceCtorEq, Int.reduceToNat, tiAll, e, exists_eq_left']; simp only [MAB, Nat.reduceEqDiff, Nat.reduceAdd, reduceIte, reduceCtorEq]; refine ⟨rfl, rfl, ?_, ?_, ?_⟩ <;> (first | rfl | (simp [WKB, Nat.add_comm, e]; done) | (simp only [WKB, Nat.reduceEqDiff, reduceIte, List.forall_mem_cons, List.not_mem_nil, false_implies, implies_true])))
    · have e : hasL n l v = false := by unfold hasL; simp [ho]; intro a b; exact absurd ⟨a, b⟩ hv
      refine fnOK_of true mixed Try.func71 rfl (by rfl) (by rfl) ?_
      have hres := congrArg Array.toList Try.results71
      simp only [Try.ntmps71, List.length_cons, List.length_nil, Nat.reduceAdd, Nat.reduceSub, List.replicate_succ, List.replicate_zero, List.cons_append, List.nil_append]
      repeat' (first
  | (with_reducible first | refine seq_k fun K hK hE hT => ?_ | refine block_k fun K hK hE hT => ?_ | refine region_k ?_ | refine lex_nil ?_ | fail)
  | ((with_reducible refine draw_k ?_ ?_); focus (first | rfl | kernel_rfl))
  | ((with_reducible first | refine lex_move ?_ | refine lex_assign ?_); simp only [EVB, Nat.reduceEqDiff, reduceIte])
  | (with_reducible first | refine lex_cons fun KS hKS => ?_ | refine lexd_cons fun KS hKS => ?_ | fail)
  | ((with_reducible refine call_go ?_); (first | ((first | refine call_a (hs) rfl rfl ?_ | fail); simp only [ENB, Nat.reduceAdd, Nat.reduceSub, Nat.reduceMul, Nat.reduceLeDiff, Nat.reduceBEq, Nat.reduceBNe, Nat.reduceEqDiff, Nat.reduceLT, reduceIte, reduceCtorEq, Int.reduceToNat, tiAll, List.length_map, List.getElem_map, bytK]; simp only [MAB, Nat.reduceEqDiff, Nat.reduceAdd, reduceIte, reduceCtorEq]; refine ⟨rfl, ?_, ?_, ?_, rfl, ?_, ?_, (by dsimp only; omega), ?_⟩; (focus (first | rfl | (simp [CXB, List.length_map, List.getElem_map, bytK]; done) | (simp [CXB, List.length_map, List.getElem_map, bytK]; omega))); (focus (simp [CXB])); (focus (simp [CXB, map_take, List.length_map, List.getElem_map, bytK]; done)); (focus (simp [CXB])); (focus (simp [CXB])); simp only [EFB, Nat.reduceSub, Nat.reduceAdd, Nat.reduceLT, reduceIte]) | fail))
  | ((with_reducible refine step_go ?_); (fail_if_success with_reducible refine call_go ?_); simp only [ENB, Nat.reduceAdd, Nat.reduceSub, Nat.reduceMul, Nat.reduceLeDiff, Nat.reduceBEq, Nat.reduceBNe, Nat.reduceEqDiff, Nat.reduceLT, reduceIte, reduceCtorEq, Int.reduceToNat, tiAll, List.length_map, List.getElem_map, bytK])
  | ((with_reducible refine lexd_nil ?_ ?_); focus (first | kernel_rfl | with_unfolding_all rfl))
  | ((with_reducible refine guard_go ?_); refine lex_gone rfl rfl ?_; simp only [EVB, Nat.reduceEqDiff, reduceIte])
  | ((first | ((with_reducible refine guard_go ?_); refine lex_guard rfl rfl (fun hg KS hKS => ?_) (fun hg => ?_)) | ((with_reducible refine guardd_go ?_); refine lexd_guard rfl rfl (fun hg KS hKS => ?_) (fun hg => ?_)) | fail) <;> first | (exact absurd hg (by decide)) | ((try simp only [CNL] at hg) <;> first | (exfalso; omega) | (exact (tf (by assumption) hg).elim) | (exact (tf hg (by assumption)).elim) | ((try with_reducible (have hT0 : True := hg; clear hT0 hg)); try simp only [EVB, Nat.reduceEqDiff, reduceIte])))
  | ((with_reducible refine hKS _ _ _ _ ?_); clear hKS; clear KS; simp only [EVB, Nat.reduceEqDiff, reduceIte])
  | ((first | ((with_reducible refine cond_go ?_); refine cond_k rfl (fun hc => ?_) (fun hc => ?_)) | (with_reducible refine And.intro (fun hc => ?_) (fun hc => ?_)) | fail) <;> first | (exact absurd hc (by decide)) | ((try simp only [CNL] at hc) <;> first | (exfalso; omega) | (exact (tf (by assumption) hc).elim) | (exact (tf hc (by assumption)).elim) | skip))
  | ((with_reducible refine And.intro ?_ ?_); focus (first | omega | exact u8_le _ | exact flat_intK _ | exact flat_bytK _ | (fail) | decide | (simp only [List.length_map, List.getElem_map, bytK]; done)))
  | ((with_reducible refine ex_p ?_ (fun hh => ?_)); focus (first | omega | (simp only [List.length_map, List.getElem_map, bytK]; omega)))
  | (with_reducible first | refine skip_k ?_ | refine exit_k ?_ | refine ret_k ?_ | fail)
  | ((with_reducible refine hK _ _ _ ?_); clear hK hE hT; clear K)
  | ((with_reducible first | refine hE _ _ _ _ ?_ | refine hT _ _ _ ?_ | fail); (first | (clear hK hE hT; clear K) | (clear hR hE hT; clear K) | skip); try simp only [Nat.reduceEqDiff, if_true, if_false, reduceIte])
  | ((with_reducible apply_assumption -symm -exfalso); try simp only [Nat.reduceEqDiff, if_true, if_false, reduceIte])
  | fail)
      all_goals (refine post_a hres (.inl rfl) ?_; simp only [RSB, ENB, Nat.reduceAdd, Nat.reduceSub, Nat.reduceMul, Nat.reduceLeDiff, Nat.reduceBEq, Nat.reduceBNe, Nat.reduceEqDiff, Nat.reduceLT, reduceIte, reduceCtorEq, Int.reduceToNat, tiAll, e, exists_eq_left']; simp only [MAB, Nat.reduceEqDiff, Nat.reduceAdd, reduceIte, reduceCtorEq]; refine ⟨rfl, rfl, ?_, ?_, ?_⟩ <;> (first | rfl | (simp [WKB, Nat.add_comm, e]; done) | (simp only [WKB, Nat.reduceEqDiff, reduceIte, List.forall_mem_cons, List.not_mem_nil, false_implies, implies_true])))

end Go.Proofs.Ytmdajpgemcaefaa
