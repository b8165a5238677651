/-
  Contracts: what an update is asked, drawn. No conditions of its own.
-/
import Derived.Test.YtageceacjmmmdaaD2
namespace Go.Proofs.Ytageceacjmmmdaa
set_option linter.unusedSimpArgs false
set_option linter.unusedVariables false
set_option linter.unusedSimpArgs false
set_option linter.unusedVariables false
open Go.RowKit

def vwsTo (b : List UInt8) (p : Int) (c : Cu) : Nat → List ViewD × Cu
  | 0 => ([], c)
  | k + 1 => ((vwsTo b p c k).1 ++ [viewV b (vwsTo b p c k).2 p], viewC b (vwsTo b p c k).2 p)
theorem vwsTo_len (b : List UInt8) (p : Int) (c : Cu) : ∀ k, (vwsTo b p c k).1.length = k
  | 0 => rfl
  | k + 1 => by
    show ((vwsTo b p c k).1 ++ [_]).length = _
    rw [List.length_append, vwsTo_len b p c k]
    rfl
theorem vwsTo_le {b : List UInt8} (p : Int) {c : Cu} (hb : b.length ≤ 1048576) (h : c.i ≤ 1048576) : ∀ k, (vwsTo b p c k).2.i ≤ 1048576
  | 0 => h
  | k + 1 => viewC_le hb (vwsTo_le p hb h k) p
theorem vwsTo_ok (b : List UInt8) (p : Int) (c : Cu) : ∀ k, (vwsTo b p c k).1.all viewOk = true
  | 0 => rfl
  | k + 1 => by
    show ((vwsTo b p c k).1 ++ [_]).all viewOk = true
    rw [List.all_append, vwsTo_ok b p c k]
    simp only [List.all_cons, List.all_nil, viewV_ok, Bool.and_self]

def mvJ (b : List UInt8) : JobD := jobV b (newC b) 9
def mvC (b : List UInt8) : Cu := jobC b (newC b) 9
def mvN (b : List UInt8) : Nat := (bwV b (mvC b) 7).toNat
def mvS (b : List UInt8) : List ViewD × Cu := vwsTo b (mvJ b).Prog (bwC b (mvC b) 7) (mvN b)
def mvL (b : List UInt8) : List ViewD := (mvS b).1
def mvV (b : List UInt8) : Int := bwV b (mvS b).2 9
def mvX (b : List UInt8) : Int := bwV b (bwC b (mvS b).2 9) 9

theorem mvC_le {b : List UInt8} (hb : b.length ≤ 1048576) : (mvC b).i ≤ 1048576 := jobC_le hb (newC_le b) _

set_option maxHeartbeats 4000000 in
theorem makeViews_k (b : List UInt8) (hb : b.length ≤ 1048576) : FnOK Try.prog 15 ⟨1, [(0, some (.ro (b.map bytK)))], [.c (.sl 0 1 0 b.length)],
    .tup [.inr [.v (.int .i64 (mvJ b).Prog), .v (.int .i64 (mvJ b).Src)], .inl (.v (.int .i64 (mvV b))), .inl (.v (.int .i64 (mvX b))), .inl (.sl 1 4 0 (mvL b).length)], [(1, some (.row 32 ((mvL b).map ViewD.k)))], 2⟩ := by
  have k0 := l01New_k b hb
  have k1 := l10Job_k b (newC b) 9 hb (newC_le b) (by decide)
  have k2 := l01Below_k b (mvC b) 7 hb (mvC_le hb) (by decide)
  have h3 : (mvS b).2.i ≤ 1048576 := vwsTo_le _ hb (bwC_le hb (mvC_le hb) _) _
  have k3 := l01Below_k b (mvS b).2 9 hb h3 (by decide)
  have k4 := l01Below_k b (bwC b (mvS b).2 9) 9 hb (bwC_le hb h3 _) (by decide)
  have r2 := bwV_rng b (mvC b) (n := 7) (by decide)
  have hn : bwV b (mvC b) 7 = (mvN b : Int) := by unfold mvN; omega
  have hn7 : mvN b < 7 := by unfold mvN; omega
  rw [hn] at k2
  change FnOK _ _ ⟨_, _, _, .agg [.v (.int .i64 (mvJ b).Prog), .v (.int .i64 (mvJ b).Src)], [(1, some (.box 113 [.sl 0 1 0 b.length, .v (.int .i64 ((mvC b).i : Int)), .v (.int .i64 (mvC b).h)]))], _⟩ at k1
  refine fnOK_of true mixed Try.func15 rfl (by rfl) (by rfl) ?_
  have hres := congrArg Array.toList Try.results15
  simp only [Try.ntmps15, BGB, Nat.reduceAdd, Nat.reduceSub]
  repeat' (first | (with_reducible first | refine seq_k fun K hK hE hT => ?_ | refine block_k fun K hK hE hT => ?_ | refine region_k ?_ | refine lex_nil ?_ | fail) | ((with_reducible refine draw_k ?_ ?_); focus (first | rfl | kernel_rfl)) | ((with_reducible first | refine lex_move ?_ | refine lex_assign ?_); simp only [EVB, Nat.reduceEqDiff, reduceIte]) | (with_reducible first | refine lex_cons fun KS hKS => ?_ | refine lexd_cons fun KS hKS => ?_ | fail) | ((with_reducible refine call_go ?_); (first | ((first | refine call_a (k0) rfl rfl ?_ | refine call_a (k1) rfl rfl ?_ | refine call_a (k2) rfl rfl ?_ | fail); simp only [ENB, Nat.reduceAdd, Nat.reduceSub, Nat.reduceMul, Nat.reduceLeDiff, Nat.reduceBEq, Nat.reduceBNe, Nat.reduceEqDiff, Nat.reduceLT, reduceIte, reduceCtorEq, Int.reduceToNat, tiAll, true_and]; simp only [MAB, Nat.reduceEqDiff, Nat.reduceAdd, reduceIte, reduceCtorEq]; refine ⟨rfl, ?_, ?_, ?_, rfl, ?_, ?_, ?_, ?_⟩; (iterate 6 (focus (first | rfl | (simp [CXB, map_take, true_and]; done) | (simp [CXB, true_and]; omega) | (dsimp only; omega)))); simp only [EFB, Nat.reduceSub, Nat.reduceAdd, Nat.reduceLT, reduceIte]) | fail)) | ((with_reducible refine step_go ?_); (fail_if_success with_reducible refine call_go ?_); simp only [ENB, Nat.reduceAdd, Nat.reduceSub, Nat.reduceMul, Nat.reduceLeDiff, Nat.reduceBEq, Nat.reduceBNe, Nat.reduceEqDiff, Nat.reduceLT, reduceIte, reduceCtorEq, Int.reduceToNat, tiAll, true_and]) | ((with_reducible refine lexd_nil ?_ ?_); focus (first | kernel_rfl | with_unfolding_all rfl)) | ((with_reducible refine guard_go ?_); refine lex_gone rfl rfl ?_; simp only [EVB, Nat.reduceEqDiff, reduceIte]) | ((first | ((with_reducible refine guard_go ?_); refine lex_guard rfl rfl (fun hg KS hKS => ?_) (fun hg => ?_)) | ((with_reducible refine guardd_go ?_); refine lexd_guard rfl rfl (fun hg KS hKS => ?_) (fun hg => ?_)) | ((with_reducible refine cond_go ?_); refine cond_k rfl (fun hg => ?_) (fun hg => ?_)) | (with_reducible refine And.intro (fun hg => ?_) (fun hg => ?_)) | fail) <;> first | (exact absurd hg (by decide)) | ((try simp only [CNL] at hg) <;> first | (exfalso; omega) | (exact (tf (by assumption) hg).elim) | (exact (tf hg (by assumption)).elim) | ((try with_reducible (have hT0 : True := hg; clear hT0 hg)); first | (with_reducible refine wpc_go ?_) | (try simp only [EVB, Nat.reduceEqDiff, reduceIte])))) | ((with_reducible refine hKS _ _ _ _ ?_); clear hKS; clear KS; simp only [EVB, Nat.reduceEqDiff, reduceIte]) | ((with_reducible refine And.intro ?_ ?_); focus (first | omega | exact u8_le _ | exact flat_intK _ | exact flat_bytK _ | (fail) | decide | (simp only [true_and]; done))) | ((with_reducible refine ex_p ?_ (fun hh => ?_)); focus (first | omega | (simp only [true_and]; omega))) | (with_reducible first | refine skip_k ?_ | refine exit_k ?_ | refine ret_k ?_ | fail) | ((with_reducible refine hK _ _ _ ?_); clear hK hE hT; clear K) | ((with_reducible first | refine hE _ _ _ _ ?_ | refine hT _ _ _ ?_ | fail); (first | (clear hK hE hT; clear K) | (clear hR hE hT; clear K) | skip); try simp only [Nat.reduceEqDiff, IFB, reduceIte]) | ((with_reducible apply_assumption -symm -exfalso); try simp only [Nat.reduceEqDiff, IFB, reduceIte]) | fail)
  refine loop_v (X := {k : Nat // k ≤ mvN b}) [14] (fun x => [(8, .c (.sl 4 4 0 (vwsTo b (mvJ b).Prog (bwC b (mvC b) 7) x.1).1.length)), (9, .c (.v (.int .i64 ((mvN b : Int) - ((x.1 : Nat) : Int)))))]) (fun x => [(0, some (.ro (b.map bytK))), (1, some (.box 24 [.v (.int .i64 0), .v (.int .i64 0)])), (2, some (.box 113 [.sl 0 1 0 b.length, .v (.int .i64 ((vwsTo b (mvJ b).Prog (bwC b (mvC b) 7) x.1).2.i : Int)), .v (.int .i64 (vwsTo b (mvJ b).Prog (bwC b (mvC b) 7) x.1).2.h)])), (3, some (.box 24 [.v (.int .i64 (mvJ b).Prog), .v (.int .i64 (mvJ b).Src)])), (4, some (.row 32 ((vwsTo b (mvJ b).Prog (bwC b (mvC b) 7) x.1).1.map ViewD.k)))]) 5 (fun x => mvN b - x.1) ⟨0, by omega⟩ ?_
  simp only [KPB, Nat.reduceBEq, Nat.reduceBNe, Nat.reduceAdd, reduceIte]
  refine ⟨?_, ?_⟩
  · (refine wk_a ?_; simp only [MAB, Nat.reduceEqDiff, Nat.reduceAdd, reduceIte, reduceCtorEq]; refine ⟨rfl, rfl, (by decide), ?_, ?_⟩; all_goals (first | (simp only [WKB, Nat.reduceEqDiff, reduceIte, vwsTo, Nat.reduceLT, Nat.zero_lt_succ]; done) | (simp [WKB, Nat.reduceEqDiff, reduceIte, vwsTo]; done) | simp only [WKB, Nat.reduceEqDiff, reduceIte]))
  · rintro ⟨k, hk⟩ K hR hE hT
    rcases Nat.lt_or_ge k (mvN b) with hlt | hge
    case inr =>
      obtain rfl : k = mvN b := by omega
      rw [show vwsTo b (mvJ b).Prog (bwC b (mvC b) 7) (mvN b) = mvS b from rfl] at *
      repeat' (first | (with_reducible first | refine seq_k fun K hK hE hT => ?_ | refine block_k fun K hK hE hT => ?_ | refine region_k ?_ | refine lex_nil ?_ | fail) | ((with_reducible refine draw_k ?_ ?_); focus (first | rfl | kernel_rfl)) | ((with_reducible first | refine lex_move ?_ | refine lex_assign ?_); simp only [EVB, Nat.reduceEqDiff, reduceIte]) | (with_reducible first | refine lex_cons fun KS hKS => ?_ | refine lexd_cons fun KS hKS => ?_ | fail) | ((with_reducible refine call_go ?_); (first | (refine call_a (k3) rfl rfl ?_; simp only [ENB, Nat.reduceAdd, Nat.reduceSub, Nat.reduceMul, Nat.reduceLeDiff, Nat.reduceBEq, Nat.reduceBNe, Nat.reduceEqDiff, Nat.reduceLT, reduceIte, reduceCtorEq, Int.reduceToNat, tiAll, true_and]; simp only [MAB, Nat.reduceEqDiff, Nat.reduceAdd, reduceIte, reduceCtorEq]; refine ⟨rfl, ?_, ?_, ?_, rfl, ?_, ?_, ?_, ?_⟩; (iterate 6 (focus (first | rfl | (simp [CXB, map_take, true_and]; done) | (simp [CXB, true_and]; omega) | (dsimp only; omega)))); simp only [EFB, Nat.reduceSub, Nat.reduceAdd, Nat.reduceLT, reduceIte]) | (refine call_a (k4) rfl rfl ?_; simp only [ENB, Nat.reduceAdd, Nat.reduceSub, Nat.reduceMul, Nat.reduceLeDiff, Nat.reduceBEq, Nat.reduceBNe, Nat.reduceEqDiff, Nat.reduceLT, reduceIte, reduceCtorEq, Int.reduceToNat, tiAll, true_and]; simp only [MAB, Nat.reduceEqDiff, Nat.reduceAdd, reduceIte, reduceCtorEq]; refine ⟨rfl, ?_, ?_, ?_, rfl, ?_, ?_, ?_, ?_⟩; (iterate 6 (focus (first | rfl | (simp [CXB, map_take, true_and]; done) | (simp [CXB, true_and]; omega) | (dsimp only; omega)))); simp only [EFB, Nat.reduceSub, Nat.reduceAdd, Nat.reduceLT, reduceIte]) | fail)) | ((with_reducible refine step_go ?_); (fail_if_success with_reducible refine call_go ?_); simp only [ENB, Nat.reduceAdd, Nat.reduceSub, Nat.reduceMul, Nat.reduceLeDiff, Nat.reduceBEq, Nat.reduceBNe, Nat.reduceEqDiff, Nat.reduceLT, reduceIte, reduceCtorEq, Int.reduceToNat, tiAll, true_and]) | ((with_reducible refine lexd_nil ?_ ?_); focus (first | kernel_rfl | with_unfolding_all rfl)) | ((with_reducible refine guard_go ?_); refine lex_gone rfl rfl ?_; simp only [EVB, Nat.reduceEqDiff, reduceIte]) | ((first | ((with_reducible refine guard_go ?_); refine lex_guard rfl rfl (fun hg KS hKS => ?_) (fun hg => ?_)) | ((with_reducible refine guardd_go ?_); refine lexd_guard rfl rfl (fun hg KS hKS => ?_) (fun hg => ?_)) | ((with_reducible refine cond_go ?_); refine cond_k rfl (fun hg => ?_) (fun hg => ?_)) | (with_reducible refine And.intro (fun hg => ?_) (fun hg => ?_)) | fail) <;> first | (exact absurd hg (by decide)) | ((try simp only [CNL] at hg) <;> first | (exfalso; omega) | (exact (tf (by assumption) hg).elim) | (exact (tf hg (by assumption)).elim) | ((try with_reducible (have hT0 : True := hg; clear hT0 hg)); first | (with_reducible refine wpc_go ?_) | (try simp only [EVB, Nat.reduceEqDiff, reduceIte])))) | ((with_reducible refine hKS _ _ _ _ ?_); clear hKS; clear KS; simp only [EVB, Nat.reduceEqDiff, reduceIte]) | ((with_reducible refine And.intro ?_ ?_); focus (first | omega | exact u8_le _ | exact flat_intK _ | exact flat_bytK _ | (fail) | decide | (simp only [true_and]; done))) | ((with_reducible refine ex_p ?_ (fun hh => ?_)); focus (first | omega | (simp only [true_and]; omega))) | (with_reducible first | refine skip_k ?_ | refine exit_k ?_ | refine ret_k ?_ | fail) | ((with_reducible refine hK _ _ _ ?_); clear hK hE hT; clear K) | ((with_reducible first | refine hE _ _ _ _ ?_ | refine hT _ _ _ ?_ | fail); (first | (clear hK hE hT; clear K) | (clear hR hE hT; clear K) | skip); try simp only [Nat.reduceEqDiff, IFB, reduceIte]) | ((with_reducible apply_assumption -symm -exfalso); try simp only [Nat.reduceEqDiff, IFB, reduceIte]) | fail)
      all_goals (refine post_a hres (.inl rfl) ?_; simp only [RSB, ENB, Nat.reduceAdd, Nat.reduceSub, Nat.reduceMul, Nat.reduceLeDiff, Nat.reduceBEq, Nat.reduceBNe, Nat.reduceEqDiff, Nat.reduceLT, reduceIte, reduceCtorEq, Int.reduceToNat, tiAll, mvL, mvV, mvX]; simp only [MAB, Nat.reduceEqDiff, Nat.reduceAdd, reduceIte, reduceCtorEq]; refine ⟨rfl, rfl, ?_, ?_, ?_⟩ <;> (first | rfl | (simp [WKB, Nat.add_comm, mvL, mvV, mvX]; done) | (simp only [WKB, Nat.reduceEqDiff, reduceIte])))
    case inl =>
      obtain ⟨s, hs⟩ : ∃ s, s = vwsTo b (mvJ b).Prog (bwC b (mvC b) 7) k := ⟨_, rfl⟩
      have hl := vwsTo_len b (mvJ b).Prog (bwC b (mvC b) 7) k
      have e : vwsTo b (mvJ b).Prog (bwC b (mvC b) 7) (k + 1) = (s.1 ++ [viewV b s.2 (mvJ b).Prog], viewC b s.2 (mvJ b).Prog) := by rw [hs]; rfl
      have h4 := vwsTo_le (mvJ b).Prog hb (bwC_le hb (mvC_le hb) 7) k
      rw [← hs] at hl h4
      have kv := l10View_k b s.2 (mvJ b).Prog hb h4
      rw [← hs]
      repeat' (first | (with_reducible first | refine seq_k fun K hK hE hT => ?_ | refine block_k fun K hK hE hT => ?_ | refine region_k ?_ | refine lex_nil ?_ | fail) | ((with_reducible refine draw_k ?_ ?_); focus (first | rfl | kernel_rfl)) | ((with_reducible first | refine lex_move ?_ | refine lex_assign ?_); simp only [EVB, Nat.reduceEqDiff, reduceIte]) | (with_reducible first | refine lex_cons fun KS hKS => ?_ | refine lexd_cons fun KS hKS => ?_ | fail) | ((with_reducible refine call_go ?_); (first | ((first | refine call_a (kv) rfl rfl ?_ | fail); simp only [ENB, Nat.reduceAdd, Nat.reduceSub, Nat.reduceMul, Nat.reduceLeDiff, Nat.reduceBEq, Nat.reduceBNe, Nat.reduceEqDiff, Nat.reduceLT, reduceIte, reduceCtorEq, Int.reduceToNat, tiAll, List.length_map]; simp only [MAB, Nat.reduceEqDiff, Nat.reduceAdd, reduceIte, reduceCtorEq]; refine ⟨rfl, ?_, ?_, ?_, rfl, ?_, ?_, ?_, ?_⟩; (iterate 6 (focus (first | rfl | (simp [CXB, map_take, List.length_map]; done) | (simp [CXB, List.length_map]; omega) | (dsimp only; omega)))); simp only [EFB, Nat.reduceSub, Nat.reduceAdd, Nat.reduceLT, reduceIte]) | fail)) | ((with_reducible refine step_go ?_); (fail_if_success with_reducible refine call_go ?_); simp only [ENB, Nat.reduceAdd, Nat.reduceSub, Nat.reduceMul, Nat.reduceLeDiff, Nat.reduceBEq, Nat.reduceBNe, Nat.reduceEqDiff, Nat.reduceLT, reduceIte, reduceCtorEq, Int.reduceToNat, tiAll, List.length_map]) | ((with_reducible refine lexd_nil ?_ ?_); focus (first | kernel_rfl | with_unfolding_all rfl)) | ((with_reducible refine guard_go ?_); refine lex_gone rfl rfl ?_; simp only [EVB, Nat.reduceEqDiff, reduceIte]) | ((first | ((with_reducible refine guard_go ?_); refine lex_guard rfl rfl (fun hg KS hKS => ?_) (fun hg => ?_)) | ((with_reducible refine guardd_go ?_); refine lexd_guard rfl rfl (fun hg KS hKS => ?_) (fun hg => ?_)) | ((with_reducible refine cond_go ?_); refine cond_k rfl (fun hg => ?_) (fun hg => ?_)) | (with_reducible refine And.intro (fun hg => ?_) (fun hg => ?_)) | fail) <;> first | (exact absurd hg (by decide)) | ((try simp only [CNL] at hg) <;> first | (exfalso; omega) | (exact (tf (by assumption) hg).elim) | (exact (tf hg (by assumption)).elim) | ((try with_reducible (have hT0 : True := hg; clear hT0 hg)); first | (with_reducible refine wpc_go ?_) | (try simp only [EVB, Nat.reduceEqDiff, reduceIte])))) | ((with_reducible refine hKS _ _ _ _ ?_); clear hKS; clear KS; simp only [EVB, Nat.reduceEqDiff, reduceIte]) | ((with_reducible refine And.intro ?_ ?_); focus (first | omega | exact u8_le _ | exact flat_intK _ | exact flat_bytK _ | (fail) | decide | (simp only [List.length_map]; done))) | ((with_reducible refine ex_p ?_ (fun hh => ?_)); focus (first | omega | (simp only [List.length_map]; omega))) | (with_reducible first | refine skip_k ?_ | refine exit_k ?_ | refine ret_k ?_ | fail) | ((with_reducible refine hK _ _ _ ?_); clear hK hE hT; clear K) | ((with_reducible first | refine hE _ _ _ _ ?_ | refine hT _ _ _ ?_ | fail); (first | (clear hK hE hT; clear K) | (clear hR hE hT; clear K) | skip); try simp only [Nat.reduceEqDiff, IFB, reduceIte]) | ((with_reducible apply_assumption -symm -exfalso); try simp only [Nat.reduceEqDiff, IFB, reduceIte]) | fail)
      have e2 : (mvN b : Int) - (k : Int) - 1 = (mvN b : Int) - ((k + 1 : Nat) : Int) := by omega
      (refine hR.out ⟨k + 1, by omega⟩ _ _ _ (by simp only; omega) ?_; (refine wk_a ?_; simp only [MAB, Nat.reduceEqDiff, Nat.reduceAdd, reduceIte, reduceCtorEq]; refine ⟨rfl, rfl, (by decide), ?_, ?_⟩; all_goals (first | (simp only [WKB, Nat.reduceEqDiff, reduceIte, e, e2, ViewD.k, List.length_append, List.length_singleton, List.map_append, List.map_cons, List.map_nil, Nat.reduceLT, Nat.zero_lt_succ]; done) | (simp [WKB, Nat.reduceEqDiff, reduceIte, e, e2, ViewD.k, List.length_append, List.length_singleton, List.map_append, List.map_cons, List.map_nil]; done) | simp only [WKB, Nat.reduceEqDiff, reduceIte])))

end Go.Proofs.Ytageceacjmmmdaa
