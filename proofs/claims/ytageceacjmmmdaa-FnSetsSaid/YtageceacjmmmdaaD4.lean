/-
  Contracts: sets and numbers, drawn. No conditions of its own.
-/
import Derived.Test.YtageceacjmmmdaaD1
import Derived.Test.YtageceacjmmmdaaK4
namespace Go.Proofs.Ytageceacjmmmdaa
set_option linter.unusedSimpArgs false
set_option linter.unusedVariables false
set_option linter.unusedSimpArgs false
set_option linter.unusedVariables false
open Go.RowKit

def dwTo (b : List UInt8) (n : Int) (l : List UInt8) (c : Cu) : Nat → List UInt8 × Cu
  | 0 => (l, c)
  | k + 1 => (addL n (dwTo b n l c k).1 (bwV b (dwTo b n l c k).2 (n + 1)), bwC b (dwTo b n l c k).2 (n + 1))
theorem dwTo_ok (b : List UInt8) {n : Int} {l : List UInt8} (c : Cu) (h : setOk n l = true) : ∀ k, setOk n (dwTo b n l c k).1 = true ∧ (dwTo b n l c k).1.length = l.length
  | 0 => ⟨h, rfl⟩
  | k + 1 => by
    obtain ⟨h1, h2⟩ := dwTo_ok b c h k
    refine ⟨?_, by show (addL n _ _).length = _; rw [addL_len, h2]⟩
    show setOk n (addL n _ _) = true
    obtain ⟨m, rfl⟩ := Int.eq_ofNat_of_zero_le (setOk_len h).1
    unfold addL
    split
    · rename_i hv
      obtain ⟨v, hv'⟩ := Int.eq_ofNat_of_zero_le hv.1
      rw [hv'] at hv ⊢
      rw [Int.toNat_natCast]
      exact setBit_ok h1 (by omega)
    · exact h1
theorem dwTo_le {b : List UInt8} (n : Int) (l : List UInt8) {c : Cu} (hb : b.length ≤ 1048576) (h : c.i ≤ 1048576) : ∀ k, (dwTo b n l c k).2.i ≤ 1048576
  | 0 => h
  | k + 1 => bwC_le hb (dwTo_le n l hb h k) _

def sdA (b : List UInt8) (c : Cu) : Bool := bwV b c 4 == 0
def sdK (b : List UInt8) (c : Cu) : Nat := (bwV b (bwC b c 4) 6).toNat
def sdT (b : List UInt8) (c : Cu) (n : Nat) : List UInt8 × Cu := dwTo b n (newL n (sdA b c)) (bwC b (bwC b c 4) 6) (sdK b c)
theorem sdT_ok (b : List UInt8) (c : Cu) {n : Nat} (h : n ≤ 150) : setOk (n : Int) (sdT b c n).1 = true ∧ (sdT b c n).1.length = (n + 7) / 8 := by
  have h1 : setOk (n : Int) (newL n (sdA b c)) = true := by
    rw [newL_in h]
    split
    · exact fullTo_ok n n h (Nat.le_refl _)
    · exact fullTo_ok n 0 h (Nat.zero_le _)
  obtain ⟨h2, h3⟩ := dwTo_ok b (bwC b (bwC b c 4) 6) h1 (sdK b c)
  refine ⟨h2, ?_⟩
  have := (setOk_len h2).2.2.1
  simp only [Int.toNat_natCast] at this
  exact this

set_option maxHeartbeats 4000000 in
theorem l09Draw_k (b : List UInt8) (c : Cu) (n : Nat) (hb : b.length ≤ 1048576) (hc : c.i ≤ 1048576) (hn : n ≤ 150) : FnOK Try.prog 87 ⟨2, [(0, some (.ro (b.map bytK))), (1, some (.box 113 [.sl 0 1 0 b.length, .v (.int .i64 (c.i : Int)), .v (.int .i64 c.h)]))], [.c (.ptr 1 0 0), .c (.v (.int .i64 (n : Int)))],
    .agg [.v (.int .i64 (n : Int)), .sl 2 1 0 (sdT b c n).1.length], [(1, some (.box 113 [.sl 0 1 0 b.length, .v (.int .i64 ((sdT b c n).2.i : Int)), .v (.int .i64 (sdT b c n).2.h)])), (2, some (.row 5 ((sdT b c n).1.map bytK)))], 3⟩ := by
  have k0 := l01Below_k b c 4 hb hc (by decide)
  have k1 := specSetNew_k (n : Int) (sdA b c)
  have k2 := l01Below_k b (bwC b c 4) 6 hb (bwC_le hb hc _) (by decide)
  have r2 := bwV_rng b (bwC b c 4) (n := 6) (by decide)
  have hm : bwV b (bwC b c 4) 6 = (sdK b c : Int) := by unfold sdK; omega
  have hm6 : sdK b c < 6 := by unfold sdK; omega
  rw [hm] at k2
  obtain ⟨n1, n2⟩ := newN_in hn
  rw [n1, n2] at k1
  have hl0 : setOk (n : Int) (newL n (sdA b c)) = true := by
    rw [newL_in hn]
    split
    · exact fullTo_ok n n hn (Nat.le_refl _)
    · exact fullTo_ok n 0 hn (Nat.zero_le _)
  have hA : (bwV b c 4 == 0) = sdA b c := rfl
  have eT : sdT b c n = dwTo b n (newL n (sdA b c)) (bwC b (bwC b c 4) 6) (sdK b c) := rfl
  rw [eT]
  obtain ⟨m, hmm⟩ : ∃ m, m = sdK b c := ⟨_, rfl⟩
  obtain ⟨l, hl⟩ : ∃ l, l = newL (n : Int) (sdA b c) := ⟨_, rfl⟩
  rw [← hmm] at k2 hm6 ⊢
  rw [← hl] at k1 hl0 ⊢
  have hll := (setOk_len hl0).2.2.2
  refine fnOK_of true mixed Try.func87 rfl (by rfl) (by rfl) ?_
  have hres := congrArg Array.toList Try.results87
  simp only [Try.ntmps87, BGB, Nat.reduceAdd, Nat.reduceSub]
  repeat' (first | (with_reducible first | refine seq_k fun K hK hE hT => ?_ | refine block_k fun K hK hE hT => ?_ | refine region_k ?_ | refine lex_nil ?_ | fail) | ((with_reducible refine draw_k ?_ ?_); focus (first | rfl | kernel_rfl)) | ((with_reducible first | refine lex_move ?_ | refine lex_assign ?_); simp only [EVB, Nat.reduceEqDiff, reduceIte]) | (with_reducible first | refine lex_cons fun KS hKS => ?_ | refine lexd_cons fun KS hKS => ?_ | fail) | ((with_reducible refine call_go ?_); (first | ((first | refine call_a (k1) rfl rfl ?_ | fail); simp only [ENB, Nat.reduceAdd, Nat.reduceSub, Nat.reduceMul, Nat.reduceLeDiff, Nat.reduceBEq, Nat.reduceBNe, Nat.reduceEqDiff, Nat.reduceLT, reduceIte, reduceCtorEq, Int.reduceToNat, tiAll, hA]; simp only [MAB, Nat.reduceEqDiff, Nat.reduceAdd, reduceIte, reduceCtorEq]; refine ⟨rfl, ?_, ?_, ?_, rfl, ?_, ?_, ?_, ?_⟩; (iterate 6 (focus (first | rfl | (simp [CXB, map_take, hA]; done) | (simp [CXB, hA]; omega) | (dsimp only; omega)))); simp only [EFB, Nat.reduceSub, Nat.reduceAdd, Nat.reduceLT, reduceIte]) | (refine call_a (k0) rfl rfl ?_; simp only [ENB, Nat.reduceAdd, Nat.reduceSub, Nat.reduceMul, Nat.reduceLeDiff, Nat.reduceBEq, Nat.reduceBNe, Nat.reduceEqDiff, Nat.reduceLT, reduceIte, reduceCtorEq, Int.reduceToNat, tiAll, hA]; simp only [MAB, Nat.reduceEqDiff, Nat.reduceAdd, reduceIte, reduceCtorEq]; refine ⟨rfl, ?_, ?_, ?_, rfl, ?_, ?_, ?_, ?_⟩; (iterate 6 (focus (first | rfl | (simp [CXB, map_take, hA]; done) | (simp [CXB, hA]; omega) | (dsimp only; omega)))); simp only [EFB, Nat.reduceSub, Nat.reduceAdd, Nat.reduceLT, reduceIte]) | (refine call_a (k2) rfl rfl ?_; simp only [ENB, Nat.reduceAdd, Nat.reduceSub, Nat.reduceMul, Nat.reduceLeDiff, Nat.reduceBEq, Nat.reduceBNe, Nat.reduceEqDiff, Nat.reduceLT, reduceIte, reduceCtorEq, Int.reduceToNat, tiAll, hA]; simp only [MAB, Nat.reduceEqDiff, Nat.reduceAdd, reduceIte, reduceCtorEq]; refine ⟨rfl, ?_, ?_, ?_, rfl, ?_, ?_, ?_, ?_⟩; (iterate 6 (focus (first | rfl | (simp [CXB, map_take, hA]; done) | (simp [CXB, hA]; omega) | (dsimp only; omega)))); simp only [EFB, Nat.reduceSub, Nat.reduceAdd, Nat.reduceLT, reduceIte]) | fail)) | ((with_reducible refine step_go ?_); (fail_if_success with_reducible refine call_go ?_); simp only [ENB, Nat.reduceAdd, Nat.reduceSub, Nat.reduceMul, Nat.reduceLeDiff, Nat.reduceBEq, Nat.reduceBNe, Nat.reduceEqDiff, Nat.reduceLT, reduceIte, reduceCtorEq, Int.reduceToNat, tiAll, hA]) | ((with_reducible refine lexd_nil ?_ ?_); focus (first | kernel_rfl | with_unfolding_all rfl)) | ((with_reducible refine guard_go ?_); refine lex_gone rfl rfl ?_; simp only [EVB, Nat.reduceEqDiff, reduceIte]) | ((first | ((with_reducible refine guard_go ?_); refine lex_guard rfl rfl (fun hg KS hKS => ?_) (fun hg => ?_)) | ((with_reducible refine guardd_go ?_); refine lexd_guard rfl rfl (fun hg KS hKS => ?_) (fun hg => ?_)) | ((with_reducible refine cond_go ?_); refine cond_k rfl (fun hg => ?_) (fun hg => ?_)) | (with_reducible refine And.intro (fun hg => ?_) (fun hg => ?_)) | fail) <;> first | (exact absurd hg (by decide)) | ((try simp only [CNL] at hg) <;> first | (exfalso; omega) | (exact (tf (by assumption) hg).elim) | (exact (tf hg (by assumption)).elim) | ((try with_reducible (have hT0 : True := hg; clear hT0 hg)); first | (with_reducible refine wpc_go ?_) | (try simp only [EVB, Nat.reduceEqDiff, reduceIte])))) | ((with_reducible refine hKS _ _ _ _ ?_); clear hKS; clear KS; simp only [EVB, Nat.reduceEqDiff, reduceIte]) | ((with_reducible refine And.intro ?_ ?_); focus (first | omega | exact u8_le _ | exact flat_intK _ | exact flat_bytK _ | (fail) | decide | (simp only [hA]; done))) | ((with_reducible refine ex_p ?_ (fun hh => ?_)); focus (first | omega | (simp only [hA]; omega))) | (with_reducible first | refine skip_k ?_ | refine exit_k ?_ | refine ret_k ?_ | fail) | ((with_reducible refine hK _ _ _ ?_); clear hK hE hT; clear K) | ((with_reducible first | refine hE _ _ _ _ ?_ | refine hT _ _ _ ?_ | fail); (first | (clear hK hE hT; clear K) | (clear hR hE hT; clear K) | skip); try simp only [Nat.reduceEqDiff, IFB, reduceIte]) | ((with_reducible apply_assumption -symm -exfalso); try simp only [Nat.reduceEqDiff, IFB, reduceIte]) | fail)
  refine loop_v (X := {k : Nat // k ≤ m}) [8, 13, 14, 22, 27] (fun x => [(7, .c (.v (.int .i64 ((m : Int) - ((x.1 : Nat) : Int)))))]) (fun x => [(0, some (.ro (b.map bytK))), (1, some (.box 113 [.sl 0 1 0 b.length, .v (.int .i64 ((dwTo b n l (bwC b (bwC b c 4) 6) x.1).2.i : Int)), .v (.int .i64 (dwTo b n l (bwC b (bwC b c 4) 6) x.1).2.h)])), (2, some (.box 35 [.v (.int .i64 0), .nil])), (3, some (.row 5 ((dwTo b n l (bwC b (bwC b c 4) 6) x.1).1.map bytK))), (4, some (.box 35 [.v (.int .i64 (n : Int)), .sl 3 1 0 l.length]))]) 5 (fun x => m - x.1) ⟨0, by omega⟩ ?_
  simp only [KPB, Nat.reduceBEq, Nat.reduceBNe, Nat.reduceAdd, reduceIte]
  refine ⟨?_, ?_⟩
  · (refine wk_a ?_; simp only [MAB, Nat.reduceEqDiff, Nat.reduceAdd, reduceIte, reduceCtorEq]; refine ⟨rfl, rfl, (by decide), ?_, ?_⟩; all_goals (first | (simp only [WKB, Nat.reduceEqDiff, reduceIte, dwTo, Nat.reduceLT, Nat.zero_lt_succ]; done) | (simp [WKB, Nat.reduceEqDiff, reduceIte, dwTo]; done) | simp only [WKB, Nat.reduceEqDiff, reduceIte]))
  · rintro ⟨k, hk⟩ K hR hE hT
    obtain ⟨o1, o2⟩ := dwTo_ok b (bwC b (bwC b c 4) 6) hl0 k
    rcases Nat.lt_or_ge k m with hlt | hge
    case inr =>
      obtain rfl : k = m := by omega
      repeat' (first | (with_reducible first | refine seq_k fun K hK hE hT => ?_ | refine block_k fun K hK hE hT => ?_ | refine region_k ?_ | refine lex_nil ?_ | fail) | ((with_reducible refine draw_k ?_ ?_); focus (first | rfl | kernel_rfl)) | ((with_reducible first | refine lex_move ?_ | refine lex_assign ?_); simp only [EVB, Nat.reduceEqDiff, reduceIte]) | (with_reducible first | refine lex_cons fun KS hKS => ?_ | refine lexd_cons fun KS hKS => ?_ | fail) | ((with_reducible refine call_go ?_); fail) | ((with_reducible refine step_go ?_); (fail_if_success with_reducible refine call_go ?_); simp only [ENB, Nat.reduceAdd, Nat.reduceSub, Nat.reduceMul, Nat.reduceLeDiff, Nat.reduceBEq, Nat.reduceBNe, Nat.reduceEqDiff, Nat.reduceLT, reduceIte, reduceCtorEq, Int.reduceToNat, tiAll, true_and]) | ((with_reducible refine lexd_nil ?_ ?_); focus (first | kernel_rfl | with_unfolding_all rfl)) | ((with_reducible refine guard_go ?_); refine lex_gone rfl rfl ?_; simp only [EVB, Nat.reduceEqDiff, reduceIte]) | ((first | ((with_reducible refine guard_go ?_); refine lex_guard rfl rfl (fun hg KS hKS => ?_) (fun hg => ?_)) | ((with_reducible refine guardd_go ?_); refine lexd_guard rfl rfl (fun hg KS hKS => ?_) (fun hg => ?_)) | ((with_reducible refine cond_go ?_); refine cond_k rfl (fun hg => ?_) (fun hg => ?_)) | (with_reducible refine And.intro (fun hg => ?_) (fun hg => ?_)) | fail) <;> first | (exact absurd hg (by decide)) | ((try simp only [CNL] at hg) <;> first | (exfalso; omega) | (exact (tf (by assumption) hg).elim) | (exact (tf hg (by assumption)).elim) | ((try with_reducible (have hT0 : True := hg; clear hT0 hg)); first | (with_reducible refine wpc_go ?_) | (try simp only [EVB, Nat.reduceEqDiff, reduceIte])))) | ((with_reducible refine hKS _ _ _ _ ?_); clear hKS; clear KS; simp only [EVB, Nat.reduceEqDiff, reduceIte]) | ((with_reducible refine And.intro ?_ ?_); focus (first | omega | exact u8_le _ | exact flat_intK _ | exact flat_bytK _ | (fail) | decide | (simp only [true_and]; done))) | ((with_reducible refine ex_p ?_ (fun hh => ?_)); focus (first | omega | (simp only [true_and]; omega))) | (with_reducible first | refine skip_k ?_ | refine exit_k ?_ | refine ret_k ?_ | fail) | ((with_reducible refine hK _ _ _ ?_); clear hK hE hT; clear K) | ((with_reducible first | refine hE _ _ _ _ ?_ | refine hT _ _ _ ?_ | fail); (first | (clear hK hE hT; clear K) | (clear hR hE hT; clear K) | skip); try simp only [Nat.reduceEqDiff, IFB, reduceIte]) | ((with_reducible apply_assumption -symm -exfalso); try simp only [Nat.reduceEqDiff, IFB, reduceIte]) | fail)
      (refine post_a hres (.inl rfl) ?_; simp only [RSB, ENB, Nat.reduceAdd, Nat.reduceSub, Nat.reduceMul, Nat.reduceLeDiff, Nat.reduceBEq, Nat.reduceBNe, Nat.reduceEqDiff, Nat.reduceLT, reduceIte, reduceCtorEq, Int.reduceToNat, tiAll, o2]; simp only [MAB, Nat.reduceEqDiff, Nat.reduceAdd, reduceIte, reduceCtorEq]; refine ⟨rfl, rfl, ?_, ?_, ?_⟩ <;> (first | rfl | (simp [WKB, Nat.add_comm, o2]; done) | (simp only [WKB, Nat.reduceEqDiff, reduceIte])))
    case inl =>
      have hci : (dwTo b n l (bwC b (bwC b c 4) 6) k).2.i ≤ 1048576 := dwTo_le _ _ hb (bwC_le hb (bwC_le hb hc _) _) k
      have kb := l01Below_k b (dwTo b n l (bwC b (bwC b c 4) 6) k).2 ((n : Int) + 1) hb hci (by omega)
      have kw := specWith_k (n : Int) (dwTo b n l (bwC b (bwC b c 4) 6) k).1 (by omega) (bwV b (dwTo b n l (bwC b (bwC b c 4) 6) k).2 ((n : Int) + 1))
      obtain ⟨w1, w2⟩ := withL_add (bwV b (dwTo b n l (bwC b (bwC b c 4) 6) k).2 ((n : Int) + 1)) o1
      rw [w1, w2, addL_len, o2] at kw
      have e1 : (m : Int) - (k : Int) - 1 = (m : Int) - ((k + 1 : Nat) : Int) := by omega
      repeat' (first | (with_reducible first | refine seq_k fun K hK hE hT => ?_ | refine block_k fun K hK hE hT => ?_ | refine region_k ?_ | refine lex_nil ?_ | fail) | ((with_reducible refine draw_k ?_ ?_); focus (first | rfl | kernel_rfl)) | ((with_reducible first | refine lex_move ?_ | refine lex_assign ?_); simp only [EVB, Nat.reduceEqDiff, reduceIte]) | (with_reducible first | refine lex_cons fun KS hKS => ?_ | refine lexd_cons fun KS hKS => ?_ | fail) | ((with_reducible refine call_go ?_); (first | ((first | refine call_a (kb) rfl rfl ?_ | refine call_a (kw) rfl rfl ?_ | fail); simp only [ENB, Nat.reduceAdd, Nat.reduceSub, Nat.reduceMul, Nat.reduceLeDiff, Nat.reduceBEq, Nat.reduceBNe, Nat.reduceEqDiff, Nat.reduceLT, reduceIte, reduceCtorEq, Int.reduceToNat, tiAll, o2]; simp only [MAB, Nat.reduceEqDiff, Nat.reduceAdd, reduceIte, reduceCtorEq]; refine ⟨rfl, ?_, ?_, ?_, rfl, ?_, ?_, ?_, ?_⟩; (iterate 6 (focus (first | rfl | (simp [CXB, map_take, o2]; done) | (simp [CXB, o2]; omega) | (dsimp only; omega)))); simp only [EFB, Nat.reduceSub, Nat.reduceAdd, Nat.reduceLT, reduceIte]) | fail)) | ((with_reducible refine step_go ?_); (fail_if_success with_reducible refine call_go ?_); simp only [ENB, Nat.reduceAdd, Nat.reduceSub, Nat.reduceMul, Nat.reduceLeDiff, Nat.reduceBEq, Nat.reduceBNe, Nat.reduceEqDiff, Nat.reduceLT, reduceIte, reduceCtorEq, Int.reduceToNat, tiAll, o2]) | ((with_reducible refine lexd_nil ?_ ?_); focus (first | kernel_rfl | with_unfolding_all rfl)) | ((with_reducible refine guard_go ?_); refine lex_gone rfl rfl ?_; simp only [EVB, Nat.reduceEqDiff, reduceIte]) | ((first | ((with_reducible refine guard_go ?_); refine lex_guard rfl rfl (fun hg KS hKS => ?_) (fun hg => ?_)) | ((with_reducible refine guardd_go ?_); refine lexd_guard rfl rfl (fun hg KS hKS => ?_) (fun hg => ?_)) | ((with_reducible refine cond_go ?_); refine cond_k rfl (fun hg => ?_) (fun hg => ?_)) | (with_reducible refine And.intro (fun hg => ?_) (fun hg => ?_)) | fail) <;> first | (exact absurd hg (by decide)) | ((try simp only [CNL] at hg) <;> first | (exfalso; omega) | (exact (tf (by assumption) hg).elim) | (exact (tf hg (by assumption)).elim) | ((try with_reducible (have hT0 : True := hg; clear hT0 hg)); first | (with_reducible refine wpc_go ?_) | (try simp only [EVB, Nat.reduceEqDiff, reduceIte])))) | ((with_reducible refine hKS _ _ _ _ ?_); clear hKS; clear KS; simp only [EVB, Nat.reduceEqDiff, reduceIte]) | ((with_reducible refine And.intro ?_ ?_); focus (first | omega | exact u8_le _ | exact flat_intK _ | exact flat_bytK _ | (fail) | decide | (simp only [o2]; done))) | ((with_reducible refine ex_p ?_ (fun hh => ?_)); focus (first | omega | (simp only [o2]; omega))) | (with_reducible first | refine skip_k ?_ | refine exit_k ?_ | refine ret_k ?_ | fail) | ((with_reducible refine hK _ _ _ ?_); clear hK hE hT; clear K) | ((with_reducible first | refine hE _ _ _ _ ?_ | refine hT _ _ _ ?_ | fail); (first | (clear hK hE hT; clear K) | (clear hR hE hT; clear K) | skip); try simp only [Nat.reduceEqDiff, IFB, reduceIte]) | ((with_reducible apply_assumption -symm -exfalso); try simp only [Nat.reduceEqDiff, IFB, reduceIte]) | fail)
      (refine hR.out ⟨k + 1, by omega⟩ _ _ _ (by simp only; omega) ?_; (refine wk_a ?_; simp only [MAB, Nat.reduceEqDiff, Nat.reduceAdd, reduceIte, reduceCtorEq]; refine ⟨rfl, rfl, (by decide), ?_, ?_⟩; all_goals (first | (simp only [WKB, Nat.reduceEqDiff, reduceIte, dwTo, e1, o2, Nat.reduceLT, Nat.zero_lt_succ]; done) | (simp [WKB, Nat.reduceEqDiff, reduceIte, dwTo, e1, o2]; done) | simp only [WKB, Nat.reduceEqDiff, reduceIte])))

def msN (b : List UInt8) : Nat := (1 + bwV b (newC b) 30).toNat
def msL (b : List UInt8) : List UInt8 := (sdT b (bwC b (newC b) 30) (msN b)).1
theorem msN_rng (b : List UInt8) : 1 ≤ msN b ∧ msN b ≤ 30 ∧ 1 + bwV b (newC b) 30 = (msN b : Int) := by
  have r := bwV_rng b (newC b) (n := 30) (by decide)
  unfold msN
  omega
theorem msL_ok (b : List UInt8) : setOk (msN b : Int) (msL b) = true := (sdT_ok b _ (by have := msN_rng b; omega)).1

set_option maxHeartbeats 2000000 in
theorem makeSet_k (b : List UInt8) (hb : b.length ≤ 1048576) : FnOK Try.prog 18 ⟨1, [(0, some (.ro (b.map bytK)))], [.c (.sl 0 1 0 b.length)],
    .agg [.v (.int .i64 (msN b : Int)), .sl 1 1 0 (msL b).length], [(1, some (.row 5 ((msL b).map bytK)))], 2⟩ := by
  obtain ⟨n1, n2, n3⟩ := msN_rng b
  have k0 := l01New_k b hb
  have k1 := l01Below_k b (newC b) 30 hb (newC_le b) (by decide)
  have k2 := l09Draw_k b (bwC b (newC b) 30) (msN b) hb (bwC_le hb (newC_le b) _) (by omega)
  refine fnOK_of true mixed Try.func18 rfl (by rfl) (by rfl) ?_
  have hres := congrArg Array.toList Try.results18
  simp only [Try.ntmps18, BGB, Nat.reduceAdd, Nat.reduceSub]
  repeat' (first | (with_reducible first | refine seq_k fun K hK hE hT => ?_ | refine block_k fun K hK hE hT => ?_ | refine region_k ?_ | refine lex_nil ?_ | fail) | ((with_reducible refine draw_k ?_ ?_); focus (first | rfl | kernel_rfl)) | ((with_reducible first | refine lex_move ?_ | refine lex_assign ?_); simp only [EVB, Nat.reduceEqDiff, reduceIte]) | (with_reducible first | refine lex_cons fun KS hKS => ?_ | refine lexd_cons fun KS hKS => ?_ | fail) | ((with_reducible refine call_go ?_); (first | ((first | refine call_a (k0) rfl rfl ?_ | refine call_a (k1) rfl rfl ?_ | refine call_a (k2) rfl rfl ?_ | fail); simp only [ENB, Nat.reduceAdd, Nat.reduceSub, Nat.reduceMul, Nat.reduceLeDiff, Nat.reduceBEq, Nat.reduceBNe, Nat.reduceEqDiff, Nat.reduceLT, reduceIte, reduceCtorEq, Int.reduceToNat, tiAll, n3]; simp only [MAB, Nat.reduceEqDiff, Nat.reduceAdd, reduceIte, reduceCtorEq]; refine ⟨rfl, ?_, ?_, ?_, rfl, ?_, ?_, ?_, ?_⟩; (iterate 6 (focus (first | rfl | (simp [CXB, map_take, n3]; done) | (simp [CXB, n3]; omega) | (dsimp only; omega)))); simp only [EFB, Nat.reduceSub, Nat.reduceAdd, Nat.reduceLT, reduceIte]) | fail)) | ((with_reducible refine step_go ?_); (fail_if_success with_reducible refine call_go ?_); simp only [ENB, Nat.reduceAdd, Nat.reduceSub, Nat.reduceMul, Nat.reduceLeDiff, Nat.reduceBEq, Nat.reduceBNe, Nat.reduceEqDiff, Nat.reduceLT, reduceIte, reduceCtorEq, Int.reduceToNat, tiAll, n3]) | ((with_reducible refine lexd_nil ?_ ?_); focus (first | kernel_rfl | with_unfolding_all rfl)) | ((with_reducible refine guard_go ?_); refine lex_gone rfl rfl ?_; simp only [EVB, Nat.reduceEqDiff, reduceIte]) | ((first | ((with_reducible refine guard_go ?_); refine lex_guard rfl rfl (fun hg KS hKS => ?_) (fun hg => ?_)) | ((with_reducible refine guardd_go ?_); refine lexd_guard rfl rfl (fun hg KS hKS => ?_) (fun hg => ?_)) | ((with_reducible refine cond_go ?_); refine cond_k rfl (fun hg => ?_) (fun hg => ?_)) | (with_reducible refine And.intro (fun hg => ?_) (fun hg => ?_)) | fail) <;> first | (exact absurd hg (by decide)) | ((try simp only [CNL] at hg) <;> first | (exfalso; omega) | (exact (tf (by assumption) hg).elim) | (exact (tf hg (by assumption)).elim) | ((try with_reducible (have hT0 : True := hg; clear hT0 hg)); first | (with_reducible refine wpc_go ?_) | (try simp only [EVB, Nat.reduceEqDiff, reduceIte])))) | ((with_reducible refine hKS _ _ _ _ ?_); clear hKS; clear KS; simp only [EVB, Nat.reduceEqDiff, reduceIte]) | ((with_reducible refine And.intro ?_ ?_); focus (first | omega | exact u8_le _ | exact flat_intK _ | exact flat_bytK _ | (fail) | decide | (simp only [n3]; done))) | ((with_reducible refine ex_p ?_ (fun hh => ?_)); focus (first | omega | (simp only [n3]; omega))) | (with_reducible first | refine skip_k ?_ | refine exit_k ?_ | refine ret_k ?_ | fail) | ((with_reducible refine hK _ _ _ ?_); clear hK hE hT; clear K) | ((with_reducible first | refine hE _ _ _ _ ?_ | refine hT _ _ _ ?_ | fail); (first | (clear hK hE hT; clear K) | (clear hR hE hT; clear K) | skip); try simp only [Nat.reduceEqDiff, IFB, reduceIte]) | ((with_reducible apply_assumption -symm -exfalso); try simp only [Nat.reduceEqDiff, IFB, reduceIte]) | fail)
  (refine post_a hres (.inl rfl) ?_; simp only [RSB, ENB, Nat.reduceAdd, Nat.reduceSub, Nat.reduceMul, Nat.reduceLeDiff, Nat.reduceBEq, Nat.reduceBNe, Nat.reduceEqDiff, Nat.reduceLT, reduceIte, reduceCtorEq, Int.reduceToNat, tiAll, msL]; simp only [MAB, Nat.reduceEqDiff, Nat.reduceAdd, reduceIte, reduceCtorEq]; refine ⟨rfl, rfl, ?_, ?_, ?_⟩ <;> (first | rfl | (simp [WKB, Nat.add_comm, msL]; done) | (simp only [WKB, Nat.reduceEqDiff, reduceIte])))

def mnC (b : List UInt8) : Cu := ⟨(newC b).i, IntKind.i64.wrap ((newC b).h + 777)⟩
def mnV (b : List UInt8) (n : Int) : Int := bwV b (mnC b) n

set_option maxHeartbeats 2000000 in
theorem makeNum_k (b : List UInt8) (n : Int) (hb : b.length ≤ 1048576) (hn : n ≤ 256) : FnOK Try.prog 19 ⟨1, [(0, some (.ro (b.map bytK)))], [.c (.sl 0 1 0 b.length), .c (.v (.int .i64 n))],
    .c (.v (.int .i64 (mnV b n))), [], 1⟩ := by
  have k0 := l01New_k b hb
  have k1 := l01Below_k b ⟨(newC b).i, IntKind.i64.wrap ((newC b).h + 777)⟩ n hb (newC_le b) hn
  dsimp only at k1
  refine fnOK_of false mixed Try.func19 rfl (by rfl) (by rfl) ?_
  have hres := congrArg Array.toList Try.results19
  simp only [Try.ntmps19, BGB, Nat.reduceAdd, Nat.reduceSub]
  repeat' (first | (with_reducible first | refine seq_k fun K hK hE hT => ?_ | refine block_k fun K hK hE hT => ?_ | refine region_k ?_ | refine lex_nil ?_ | fail) | ((with_reducible refine draw_k ?_ ?_); focus (first | rfl | kernel_rfl)) | ((with_reducible first | refine lex_move ?_ | refine lex_assign ?_); simp only [EVB, Nat.reduceEqDiff, reduceIte]) | (with_reducible first | refine lex_cons fun KS hKS => ?_ | refine lexd_cons fun KS hKS => ?_ | fail) | ((with_reducible refine call_go ?_); (first | ((first | refine call_a (k0) rfl rfl ?_ | refine call_a (k1) rfl rfl ?_ | fail); simp only [ENB, Nat.reduceAdd, Nat.reduceSub, Nat.reduceMul, Nat.reduceLeDiff, Nat.reduceBEq, Nat.reduceBNe, Nat.reduceEqDiff, Nat.reduceLT, reduceIte, reduceCtorEq, Int.reduceToNat, tiAll, true_and]; simp only [MAB, Nat.reduceEqDiff, Nat.reduceAdd, reduceIte, reduceCtorEq]; refine ⟨rfl, ?_, ?_, ?_, rfl, ?_, ?_, ?_, ?_⟩; (iterate 6 (focus (first | rfl | (simp [CXB, map_take, true_and]; done) | (simp [CXB, true_and]; omega) | (dsimp only; omega)))); simp only [EFB, Nat.reduceSub, Nat.reduceAdd, Nat.reduceLT, reduceIte]) | fail)) | ((with_reducible refine step_go ?_); (fail_if_success with_reducible refine call_go ?_); simp only [ENB, Nat.reduceAdd, Nat.reduceSub, Nat.reduceMul, Nat.reduceLeDiff, Nat.reduceBEq, Nat.reduceBNe, Nat.reduceEqDiff, Nat.reduceLT, reduceIte, reduceCtorEq, Int.reduceToNat, tiAll, true_and]) | ((with_reducible refine lexd_nil ?_ ?_); focus (first | kernel_rfl | with_unfolding_all rfl)) | ((with_reducible refine guard_go ?_); refine lex_gone rfl rfl ?_; simp only [EVB, Nat.reduceEqDiff, reduceIte]) | ((first | ((with_reducible refine guard_go ?_); refine lex_guard rfl rfl (fun hg KS hKS => ?_) (fun hg => ?_)) | ((with_reducible refine guardd_go ?_); refine lexd_guard rfl rfl (fun hg KS hKS => ?_) (fun hg => ?_)) | ((with_reducible refine cond_go ?_); refine cond_k rfl (fun hg => ?_) (fun hg => ?_)) | (with_reducible refine And.intro (fun hg => ?_) (fun hg => ?_)) | fail) <;> first | (exact absurd hg (by decide)) | ((try simp only [CNL] at hg) <;> first | (exfalso; omega) | (exact (tf (by assumption) hg).elim) | (exact (tf hg (by assumption)).elim) | ((try with_reducible (have hT0 : True := hg; clear hT0 hg)); first | (with_reducible refine wpc_go ?_) | (try simp only [EVB, Nat.reduceEqDiff, reduceIte])))) | ((with_reducible refine hKS _ _ _ _ ?_); clear hKS; clear KS; simp only [EVB, Nat.reduceEqDiff, reduceIte]) | ((with_reducible refine And.intro ?_ ?_); focus (first | omega | exact u8_le _ | exact flat_intK _ | exact flat_bytK _ | (fail) | decide | (simp only [true_and]; done))) | ((with_reducible refine ex_p ?_ (fun hh => ?_)); focus (first | omega | (simp only [true_and]; omega))) | (with_reducible first | refine skip_k ?_ | refine exit_k ?_ | refine ret_k ?_ | fail) | ((with_reducible refine hK _ _ _ ?_); clear hK hE hT; clear K) | ((with_reducible first | refine hE _ _ _ _ ?_ | refine hT _ _ _ ?_ | fail); (first | (clear hK hE hT; clear K) | (clear hR hE hT; clear K) | skip); try simp only [Nat.reduceEqDiff, IFB, reduceIte]) | ((with_reducible apply_assumption -symm -exfalso); try simp only [Nat.reduceEqDiff, IFB, reduceIte]) | fail)
  all_goals (refine post_a hres (.inl rfl) ?_; simp only [RSB, ENB, Nat.reduceAdd, Nat.reduceSub, Nat.reduceMul, Nat.reduceLeDiff, Nat.reduceBEq, Nat.reduceBNe, Nat.reduceEqDiff, Nat.reduceLT, reduceIte, reduceCtorEq, Int.reduceToNat, tiAll, mnV, mnC]; simp only [MAB, Nat.reduceEqDiff, Nat.reduceAdd, reduceIte, reduceCtorEq]; refine ⟨rfl, rfl, ?_, ?_, ?_⟩ <;> (first | rfl | (simp [WKB, Nat.add_comm, mnV, mnC]; done) | (simp only [WKB, Nat.reduceEqDiff, reduceIte])))

end Go.Proofs.Ytageceacjmmmdaa
