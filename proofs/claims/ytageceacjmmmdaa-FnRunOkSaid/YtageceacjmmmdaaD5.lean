/-
  Contracts: graphs and runs, drawn. No conditions of its own.
-/
import Derived.Test.YtageceacjmmmdaaD2
import Derived.Test.YtageceacjmmmdaaFX3
namespace Go.Proofs.Ytageceacjmmmdaa
set_option linter.unusedSimpArgs false
set_option linter.unusedVariables false
set_option linter.unusedSimpArgs false
set_option linter.unusedVariables false
set_option linter.defProp false
open Go.RowKit

def edV (b : List UInt8) (n : Int) (c : Cu) : EdgeD := ⟨bwV b c n, bwV b (bwC b c n) n, bwV b (bwC b (bwC b c n) n) 8⟩
def edC (b : List UInt8) (n : Int) (c : Cu) : Cu := bwC b (bwC b (bwC b c n) n) 8
def egTo (b : List UInt8) (n : Int) (c : Cu) : Nat → List EdgeD × Cu
  | 0 => ([], c)
  | k + 1 => ((egTo b n c k).1 ++ [edV b n (egTo b n c k).2], edC b n (egTo b n c k).2)
theorem egTo_len (b : List UInt8) (n : Int) (c : Cu) : ∀ k, (egTo b n c k).1.length = k
  | 0 => rfl
  | k + 1 => by
    show ((egTo b n c k).1 ++ [_]).length = _
    rw [List.length_append, egTo_len b n c k]
    rfl
theorem egTo_le {b : List UInt8} (n : Int) {c : Cu} (hb : b.length ≤ 1048576) (h : c.i ≤ 1048576) : ∀ k, (egTo b n c k).2.i ≤ 1048576
  | 0 => h
  | k + 1 => bwC_le hb (bwC_le hb (bwC_le hb (egTo_le n hb h k) _) _) _
theorem egTo_ok (b : List UInt8) {n : Int} (hn : 0 < n) (c : Cu) : ∀ k, (egTo b n c k).1.all (edgeOk n) = true
  | 0 => rfl
  | k + 1 => by
    show ((egTo b n c k).1 ++ [_]).all (edgeOk n) = true
    rw [List.all_append, egTo_ok b hn c k]
    generalize (egTo b n c k).2 = d
    have h1 := bwV_rng b d hn
    have h2 := bwV_rng b (bwC b d n) hn
    have h3 := bwV_rng b (bwC b (bwC b d n) n) (n := 8) (by decide)
    simp only [List.all_cons, List.all_nil, Bool.and_true, Bool.true_and, edV, edgeOk]
    rw [decide_eq_true_eq]
    omega

def gdM (b : List UInt8) (c : Cu) : Nat := (bwV b (bwC b c 9) 14).toNat
def gdS (b : List UInt8) (c : Cu) : List EdgeD × Cu := egTo b (bwV b c 9) (bwC b (bwC b c 9) 14) (gdM b c)
def gdG (b : List UInt8) (c : Cu) : GraphD := if bwV b c 9 = 0 then ⟨0, []⟩ else ⟨bwV b c 9, (gdS b c).1⟩
def gdC (b : List UInt8) (c : Cu) : Cu := if bwV b c 9 = 0 then bwC b c 9 else (gdS b c).2
theorem gdC_le {b : List UInt8} {c : Cu} (hb : b.length ≤ 1048576) (h : c.i ≤ 1048576) : (gdC b c).i ≤ 1048576 := by
  unfold gdC
  split
  · exact bwC_le hb h _
  · exact egTo_le _ hb (bwC_le hb (bwC_le hb h _) _) _

set_option maxHeartbeats 4000000 in
theorem l04Draw_k (b : List UInt8) (c : Cu) (hb : b.length ≤ 1048576) (hc : c.i ≤ 1048576) : FnOK Try.prog 179 ⟨2, [(0, some (.ro (b.map bytK))), (1, some (.box 113 [.sl 0 1 0 b.length, .v (.int .i64 (c.i : Int)), .v (.int .i64 c.h)]))], [.c (.ptr 1 0 0)],
    .agg [.v (.int .i64 (gdG b c).N), .sl 2 3 0 ((gdG b c).Edges).length], [(1, some (.box 113 [.sl 0 1 0 b.length, .v (.int .i64 ((gdC b c).i : Int)), .v (.int .i64 (gdC b c).h)])), (2, some (.row 196 (((gdG b c).Edges).map EdgeD.k)))], 3⟩ := by
  have k0 := l01Below_k b c 9 hb hc (by decide)
  have r0 := bwV_rng b c (n := 9) (by decide)
  by_cases hz : bwV b c 9 = 0
  · have e1 : gdG b c = ⟨0, []⟩ := by unfold gdG; rw [if_pos hz]
    have e2 : gdC b c = bwC b c 9 := by unfold gdC; rw [if_pos hz]
    rw [e1, e2]
    rw [hz] at k0
    refine fnOK_of true mixed Try.func179 rfl (by rfl) (by rfl) ?_
    have hres := congrArg Array.toList Try.results179
    simp only [Try.ntmps179, BGB, seval]
    repeat' (first | (with_reducible first | refine seq_k fun K hK hE hT => ?_ | refine block_k fun K hK hE hT => ?_ | refine region_k ?_ | refine lex_nil ?_ | fail) | ((with_reducible refine draw_k ?_ ?_); focus (first | rfl | kernel_rfl)) | ((with_reducible first | refine lex_move ?_ | refine lex_assign ?_); simp only [EVB, seval]) | (with_reducible first | refine lex_cons fun KS hKS => ?_ | refine lexd_cons fun KS hKS => ?_ | refine skip_k ?_ | refine exit_k ?_ | refine ret_k ?_ | fail) | ((with_reducible refine call_go ?_); (first | ((first | refine call_a (k0) rfl rfl ?_ | fail); simp only [ENB, seval, tiAll, true_and]; simp only [MAB, seval]; refine ⟨rfl, ?_, ?_, ?_, rfl, ?_, ?_, ?_, ?_⟩; (iterate 6 (focus (first | rfl | (simp [CXB, map_take, true_and]; done) | (simp [CXB, true_and]; omega) | (dsimp only; omega)))); simp only [EFB, seval]) | fail)) | ((with_reducible refine step_go ?_); (fail_if_success with_reducible refine call_go ?_); simp only [ENB, seval, tiAll, true_and]) | ((with_reducible refine lexd_nil ?_ ?_); focus (first | kernel_rfl | with_unfolding_all rfl)) | ((with_reducible refine guard_go ?_); refine lex_gone rfl rfl ?_; simp only [EVB, seval]) | ((first | ((with_reducible refine guard_go ?_); refine lex_guard rfl rfl (fun hg KS hKS => ?_) (fun hg => ?_)) | ((with_reducible refine guardd_go ?_); refine lexd_guard rfl rfl (fun hg KS hKS => ?_) (fun hg => ?_)) | ((with_reducible refine cond_go ?_); refine cond_k rfl (fun hg => ?_) (fun hg => ?_)) | (with_reducible refine And.intro (fun hg => ?_) (fun hg => ?_)) | fail) <;> first | (exact absurd hg (by decide)) | ((try simp only [CNL] at hg) <;> first | (exfalso; omega) | (exact (tf (by assumption) hg).elim) | (exact (tf hg (by assumption)).elim) | ((try with_reducible (have hT0 : True := hg; clear hT0 hg)); first | (with_reducible refine wpc_go ?_) | (try simp only [EVB, seval])))) | ((with_reducible refine hKS _ _ _ _ ?_); clear hKS; clear KS; simp only [EVB, seval]) | ((with_reducible refine And.intro ?_ ?_); focus (first | omega | exact u8_le _ | exact flat_intK _ | exact flat_bytK _ | (fail) | decide | (simp only [true_and]; done))) | ((with_reducible refine ex_p ?_ (fun hh => ?_)); focus (first | omega | (simp only [true_and]; omega))) | ((with_reducible refine hK _ _ _ ?_); clear hK hE hT; clear K) | ((with_reducible first | refine hE _ _ _ _ ?_ | refine hT _ _ _ ?_ | fail); (first | (clear hK hE hT; clear K) | (clear hR hE hT; clear K) | skip); try simp only [IFB, seval]) | ((with_reducible apply_assumption -symm -exfalso); try simp only [IFB, seval]) | fail)
    (refine post_a hres (.inl rfl) ?_; simp only [RSB, ENB, seval, tiAll, true_and]; simp only [MAB, seval]; refine ⟨rfl, rfl, ?_, ?_, ?_⟩ <;> (first | rfl | (simp [WKB, Nat.add_comm, true_and]; done) | (simp only [WKB, seval])))
  · have e1 : gdG b c = ⟨bwV b c 9, (gdS b c).1⟩ := by unfold gdG; rw [if_neg hz]
    have e2 : gdC b c = (gdS b c).2 := by unfold gdC; rw [if_neg hz]
    rw [e1, e2]
    have k1 := l01Below_k b (bwC b c 9) 14 hb (bwC_le hb hc _) (by decide)
    have r1 := bwV_rng b (bwC b c 9) (n := 14) (by decide)
    have hm : bwV b (bwC b c 9) 14 = (gdM b c : Int) := by unfold gdM; omega
    rw [hm] at k1 r1
    have eS : gdS b c = egTo b (bwV b c 9) (bwC b (bwC b c 9) 14) (gdM b c) := rfl
    rw [eS]
    obtain ⟨m, hmm⟩ : ∃ m, m = gdM b c := ⟨_, rfl⟩
    obtain ⟨n, hnn⟩ : ∃ n, n = bwV b c 9 := ⟨_, rfl⟩
    rw [← hmm] at k1 r1 ⊢
    rw [← hnn] at k0 r0 hz ⊢
    clear hmm hnn eS e1 e2 hm
    refine fnOK_of true mixed Try.func179 rfl (by rfl) (by rfl) ?_
    have hres := congrArg Array.toList Try.results179
    simp only [Try.ntmps179, BGB, seval]
    repeat' (first | (with_reducible first | refine seq_k fun K hK hE hT => ?_ | refine block_k fun K hK hE hT => ?_ | refine region_k ?_ | refine lex_nil ?_ | fail) | ((with_reducible refine draw_k ?_ ?_); focus (first | rfl | kernel_rfl)) | ((with_reducible first | refine lex_move ?_ | refine lex_assign ?_); simp only [EVB, seval]) | (with_reducible first | refine lex_cons fun KS hKS => ?_ | refine lexd_cons fun KS hKS => ?_ | refine skip_k ?_ | refine exit_k ?_ | refine ret_k ?_ | fail) | ((with_reducible refine call_go ?_); (first | (refine call_a (k0) rfl rfl ?_; simp only [ENB, seval, tiAll, true_and]; simp only [MAB, seval]; refine ⟨rfl, ?_, ?_, ?_, rfl, ?_, ?_, ?_, ?_⟩; (iterate 6 (focus (first | rfl | (simp [CXB, map_take, true_and]; done) | (simp [CXB, true_and]; omega) | (dsimp only; omega)))); simp only [EFB, seval]) | (refine call_a (k1) rfl rfl ?_; simp only [ENB, seval, tiAll, true_and]; simp only [MAB, seval]; refine ⟨rfl, ?_, ?_, ?_, rfl, ?_, ?_, ?_, ?_⟩; (iterate 6 (focus (first | rfl | (simp [CXB, map_take, true_and]; done) | (simp [CXB, true_and]; omega) | (dsimp only; omega)))); simp only [EFB, seval]) | fail)) | ((with_reducible refine step_go ?_); (fail_if_success with_reducible refine call_go ?_); simp only [ENB, seval, tiAll, true_and]) | ((with_reducible refine lexd_nil ?_ ?_); focus (first | kernel_rfl | with_unfolding_all rfl)) | ((with_reducible refine guard_go ?_); refine lex_gone rfl rfl ?_; simp only [EVB, seval]) | ((first | ((with_reducible refine guard_go ?_); refine lex_guard rfl rfl (fun hg KS hKS => ?_) (fun hg => ?_)) | ((with_reducible refine guardd_go ?_); refine lexd_guard rfl rfl (fun hg KS hKS => ?_) (fun hg => ?_)) | ((with_reducible refine cond_go ?_); refine cond_k rfl (fun hg => ?_) (fun hg => ?_)) | (with_reducible refine And.intro (fun hg => ?_) (fun hg => ?_)) | fail) <;> first | (exact absurd hg (by decide)) | ((try simp only [CNL] at hg) <;> first | (exfalso; omega) | (exact (tf (by assumption) hg).elim) | (exact (tf hg (by assumption)).elim) | ((try with_reducible (have hT0 : True := hg; clear hT0 hg)); first | (with_reducible refine wpc_go ?_) | (try simp only [EVB, seval])))) | ((with_reducible refine hKS _ _ _ _ ?_); clear hKS; clear KS; simp only [EVB, seval]) | ((with_reducible refine And.intro ?_ ?_); focus (first | omega | exact u8_le _ | exact flat_intK _ | exact flat_bytK _ | (fail) | decide | (simp only [true_and]; done))) | ((with_reducible refine ex_p ?_ (fun hh => ?_)); focus (first | omega | (simp only [true_and]; omega))) | ((with_reducible refine hK _ _ _ ?_); clear hK hE hT; clear K) | ((with_reducible first | refine hE _ _ _ _ ?_ | refine hT _ _ _ ?_ | fail); (first | (clear hK hE hT; clear K) | (clear hR hE hT; clear K) | skip); try simp only [IFB, seval]) | ((with_reducible apply_assumption -symm -exfalso); try simp only [IFB, seval]) | fail)
    refine loop_v (X := {k : Nat // k ≤ m}) [19, 31, 32] (fun x => [(4, .c (.v (.int .i64 ((m : Int) - ((x.1 : Nat) : Int)))))]) (fun x => [(0, some (.ro (b.map bytK))), (1, some (.box 113 [.sl 0 1 0 b.length, .v (.int .i64 ((egTo b n (bwC b (bwC b c 9) 14) x.1).2.i : Int)), .v (.int .i64 (egTo b n (bwC b (bwC b c 9) 14) x.1).2.h)])), (2, some (.box 64 [.v (.int .i64 0), .nil])), (3, some (.box 64 [.v (.int .i64 n), .sl 4 3 0 (egTo b n (bwC b (bwC b c 9) 14) x.1).1.length])), (4, some (.row 196 ((egTo b n (bwC b (bwC b c 9) 14) x.1).1.map EdgeD.k)))]) 5 (fun x => m - x.1) ⟨0, by omega⟩ ?_
    simp only [KPB, seval]
    refine ⟨?_, ?_⟩
    · (refine wk_a ?_; simp only [MAB, seval]; refine ⟨rfl, rfl, (by decide), ?_, ?_⟩; all_goals (first | (simp only [WKB, seval, egTo, Nat.reduceLT, Nat.zero_lt_succ]; done) | (simp [WKB, seval, egTo]; done) | simp only [WKB, seval]))
    · rintro ⟨k, hk⟩ K hR hE hT
      have o1 := egTo_len b n (bwC b (bwC b c 9) 14) k
      rcases Nat.lt_or_ge k m with hlt | hge
      case inr =>
        obtain rfl : k = m := by omega
        repeat' (first | (with_reducible first | refine seq_k fun K hK hE hT => ?_ | refine block_k fun K hK hE hT => ?_ | refine region_k ?_ | refine lex_nil ?_ | fail) | ((with_reducible refine draw_k ?_ ?_); focus (first | rfl | kernel_rfl)) | ((with_reducible first | refine lex_move ?_ | refine lex_assign ?_); simp only [EVB, seval]) | (with_reducible first | refine lex_cons fun KS hKS => ?_ | refine lexd_cons fun KS hKS => ?_ | refine skip_k ?_ | refine exit_k ?_ | refine ret_k ?_ | fail) | ((with_reducible refine call_go ?_); fail) | ((with_reducible refine step_go ?_); (fail_if_success with_reducible refine call_go ?_); simp only [ENB, seval, tiAll, true_and]) | ((with_reducible refine lexd_nil ?_ ?_); focus (first | kernel_rfl | with_unfolding_all rfl)) | ((with_reducible refine guard_go ?_); refine lex_gone rfl rfl ?_; simp only [EVB, seval]) | ((first | ((with_reducible refine guard_go ?_); refine lex_guard rfl rfl (fun hg KS hKS => ?_) (fun hg => ?_)) | ((with_reducible refine guardd_go ?_); refine lexd_guard rfl rfl (fun hg KS hKS => ?_) (fun hg => ?_)) | ((with_reducible refine cond_go ?_); refine cond_k rfl (fun hg => ?_) (fun hg => ?_)) | (with_reducible refine And.intro (fun hg => ?_) (fun hg => ?_)) | fail) <;> first | (exact absurd hg (by decide)) | ((try simp only [CNL] at hg) <;> first | (exfalso; omega) | (exact (tf (by assumption) hg).elim) | (exact (tf hg (by assumption)).elim) | ((try with_reducible (have hT0 : True := hg; clear hT0 hg)); first | (with_reducible refine wpc_go ?_) | (try simp only [EVB, seval])))) | ((with_reducible refine hKS _ _ _ _ ?_); clear hKS; clear KS; simp only [EVB, seval]) | ((with_reducible refine And.intro ?_ ?_); focus (first | omega | exact u8_le _ | exact flat_intK _ | exact flat_bytK _ | (fail) | decide | (simp only [true_and]; done))) | ((with_reducible refine ex_p ?_ (fun hh => ?_)); focus (first | omega | (simp only [true_and]; omega))) | ((with_reducible refine hK _ _ _ ?_); clear hK hE hT; clear K) | ((with_reducible first | refine hE _ _ _ _ ?_ | refine hT _ _ _ ?_ | fail); (first | (clear hK hE hT; clear K) | (clear hR hE hT; clear K) | skip); try simp only [IFB, seval]) | ((with_reducible apply_assumption -symm -exfalso); try simp only [IFB, seval]) | fail)
        (refine post_a hres (.inl rfl) ?_; simp only [RSB, ENB, seval, tiAll, true_and]; simp only [MAB, seval]; refine ⟨rfl, rfl, ?_, ?_, ?_⟩ <;> (first | rfl | (simp [WKB, Nat.add_comm, true_and]; done) | (simp only [WKB, seval])))
      case inl =>
        have hci : (egTo b n (bwC b (bwC b c 9) 14) k).2.i ≤ 1048576 := egTo_le _ hb (bwC_le hb (bwC_le hb hc _) _) k
        have kb := l01Below_k b (egTo b n (bwC b (bwC b c 9) 14) k).2 n hb hci (by omega)
        have kc := l01Below_k b (bwC b (egTo b n (bwC b (bwC b c 9) 14) k).2 n) n hb (bwC_le hb hci _) (by omega)
        have kd := l01Below_k b (bwC b (bwC b (egTo b n (bwC b (bwC b c 9) 14) k).2 n) n) 8 hb (bwC_le hb (bwC_le hb hci _) _) (by decide)
        have e1 : (m : Int) - (k : Int) - 1 = (m : Int) - ((k + 1 : Nat) : Int) := by omega
        repeat' (first | (with_reducible first | refine seq_k fun K hK hE hT => ?_ | refine block_k fun K hK hE hT => ?_ | refine region_k ?_ | refine lex_nil ?_ | fail) | ((with_reducible refine draw_k ?_ ?_); focus (first | rfl | kernel_rfl)) | ((with_reducible first | refine lex_move ?_ | refine lex_assign ?_); simp only [EVB, seval]) | (with_reducible first | refine lex_cons fun KS hKS => ?_ | refine lexd_cons fun KS hKS => ?_ | refine skip_k ?_ | refine exit_k ?_ | refine ret_k ?_ | fail) | ((with_reducible refine call_go ?_); (first | (refine call_a (kb) rfl rfl ?_; simp only [ENB, seval, tiAll, List.length_map, o1]; simp only [MAB, seval]; refine ⟨rfl, ?_, ?_, ?_, rfl, ?_, ?_, ?_, ?_⟩; (iterate 6 (focus (first | rfl | (simp [CXB, map_take, List.length_map, o1]; done) | (simp [CXB, List.length_map, o1]; omega) | (dsimp only; omega)))); simp only [EFB, seval]) | (refine call_a (kc) rfl rfl ?_; simp only [ENB, seval, tiAll, List.length_map, o1]; simp only [MAB, seval]; refine ⟨rfl, ?_, ?_, ?_, rfl, ?_, ?_, ?_, ?_⟩; (iterate 6 (focus (first | rfl | (simp [CXB, map_take, List.length_map, o1]; done) | (simp [CXB, List.length_map, o1]; omega) | (dsimp only; omega)))); simp only [EFB, seval]) | (refine call_a (kd) rfl rfl ?_; simp only [ENB, seval, tiAll, List.length_map, o1]; simp only [MAB, seval]; refine ⟨rfl, ?_, ?_, ?_, rfl, ?_, ?_, ?_, ?_⟩; (iterate 6 (focus (first | rfl | (simp [CXB, map_take, List.length_map, o1]; done) | (simp [CXB, List.length_map, o1]; omega) | (dsimp only; omega)))); simp only [EFB, seval]) | fail)) | ((with_reducible refine step_go ?_); (fail_if_success with_reducible refine call_go ?_); simp only [ENB, seval, tiAll, List.length_map, o1]) | ((with_reducible refine lexd_nil ?_ ?_); focus (first | kernel_rfl | with_unfolding_all rfl)) | ((with_reducible refine guard_go ?_); refine lex_gone rfl rfl ?_; simp only [EVB, seval]) | ((first | ((with_reducible refine guard_go ?_); refine lex_guard rfl rfl (fun hg KS hKS => ?_) (fun hg => ?_)) | ((with_reducible refine guardd_go ?_); refine lexd_guard rfl rfl (fun hg KS hKS => ?_) (fun hg => ?_)) | ((with_reducible refine cond_go ?_); refine cond_k rfl (fun hg => ?_) (fun hg => ?_)) | (with_reducible refine And.intro (fun hg => ?_) (fun hg => ?_)) | fail) <;> first | (exact absurd hg (by decide)) | ((try simp only [CNL] at hg) <;> first | (exfalso; omega) | (exact (tf (by assumption) hg).elim) | (exact (tf hg (by assumption)).elim) | ((try with_reducible (have hT0 : True := hg; clear hT0 hg)); first | (with_reducible refine wpc_go ?_) | (try simp only [EVB, seval])))) | ((with_reducible refine hKS _ _ _ _ ?_); clear hKS; clear KS; simp only [EVB, seval]) | ((with_reducible refine And.intro ?_ ?_); focus (first | omega | exact u8_le _ | exact flat_intK _ | exact flat_bytK _ | (fail) | decide | (simp only [List.length_map, o1]; done))) | ((with_reducible refine ex_p ?_ (fun hh => ?_)); focus (first | omega | (simp only [List.length_map, o1]; omega))) | ((with_reducible refine hK _ _ _ ?_); clear hK hE hT; clear K) | ((with_reducible first | refine hE _ _ _ _ ?_ | refine hT _ _ _ ?_ | fail); (first | (clear hK hE hT; clear K) | (clear hR hE hT; clear K) | skip); try simp only [IFB, seval]) | ((with_reducible apply_assumption -symm -exfalso); try simp only [IFB, seval]) | fail)
        (refine hR.out ⟨k + 1, by omega⟩ _ _ _ (by simp only; omega) ?_; (refine wk_a ?_; simp only [MAB, seval]; refine ⟨rfl, rfl, (by decide), ?_, ?_⟩; all_goals (first | (simp only [WKB, seval, egTo, e1, o1, edV, edC, EdgeD.k, Nat.reduceLT, Nat.zero_lt_succ]; done) | (simp [WKB, seval, egTo, e1, o1, edV, edC, EdgeD.k]; done) | simp only [WKB, seval])))

/-! A graph with a vertex, and a run over it. -/

def mrG (b : List UInt8) (c : Cu) : GraphD := if (gdG b c).N = 0 then ⟨1, (gdG b c).Edges⟩ else gdG b c
def mrJ (b : List UInt8) (c : Cu) : JobD := jobV b (gdC b c) (mrG b c).N
def mrC (b : List UInt8) (c : Cu) : Cu := jobC b (gdC b c) (mrG b c).N
def mrK (b : List UInt8) (c : Cu) : Nat := (bwV b (mrC b c) 4).toNat
def mrR (b : List UInt8) (c : Cu) : RunD := raR (mrG b c) (runNew (mrG b c) (mrJ b c)) (mrK b c)

theorem mrG_ok (b : List UInt8) (c : Cu) : graphOk (mrG b c) = true ∧ 0 < (mrG b c).N ∧ (mrG b c).N ≤ 9 := by
  have r0 := bwV_rng b c (n := 9) (by decide)
  have r1 := bwV_rng b (bwC b c 9) (n := 14) (by decide)
  by_cases hz : bwV b c 9 = 0
  · have e1 : gdG b c = ⟨0, []⟩ := by unfold gdG; rw [if_pos hz]
    have e2 : mrG b c = ⟨1, []⟩ := by unfold mrG; rw [e1]; rfl
    rw [e2]
    exact ⟨rfl, by decide, by decide⟩
  · have e1 : gdG b c = ⟨bwV b c 9, (gdS b c).1⟩ := by unfold gdG; rw [if_neg hz]
    have e2 : mrG b c = ⟨bwV b c 9, (gdS b c).1⟩ := by unfold mrG; rw [e1]; exact if_neg hz
    rw [e2]
    have o1 : (gdS b c).1.length = gdM b c := egTo_len b _ _ _
    have o2 : gdM b c < 14 := by unfold gdM; omega
    refine ⟨?_, by show 0 < bwV b c 9; omega, by show bwV b c 9 ≤ 9; omega⟩
    unfold graphOk
    rw [Bool.and_eq_true, decide_eq_true_eq]
    exact ⟨⟨r0.1, by show bwV b c 9 ≤ 150; omega, by show (gdS b c).1.length ≤ 400; omega⟩, egTo_ok b (by omega) _ _⟩
theorem mrJ_ok (b : List UInt8) (c : Cu) : jobOk (mrG b c).N (mrJ b c) = true := by
  have h1 := jobV_rng b (gdC b c) (mrG b c).N
  have h2 := jobV_src b (gdC b c) (mrG_ok b c).2.1
  unfold jobOk
  rw [decide_eq_true_eq]
  exact ⟨h1.1, h1.2, fun _ => ⟨h2.1, h2.2.1⟩, h2.2.2⟩
theorem mrK_rng (b : List UInt8) (c : Cu) : bwV b (mrC b c) 4 = (mrK b c : Int) ∧ mrK b c ≤ 4 := by
  have r0 := bwV_rng b (mrC b c) (n := 4) (by decide)
  unfold mrK
  omega
theorem mr_begun (b : List UInt8) (c : Cu) : Begun (mrG b c) (mrR b c) := begun_of (mrG_ok b c).1 (mrJ_ok b c) _ (mrK_rng b c).2

theorem runOk_small {g : GraphD} {r : RunD} (h : runOk g r = true) : r.Vals.length ≤ 150 ∧ r.EVals.length ≤ 400 ∧ r.Next.Bits.length ≤ 19 := by
  obtain ⟨hin, _⟩ := runOk_in h
  obtain ⟨⟨g1, g2, g3⟩, _⟩ := graphOk_out hin.go
  have := hin.vl
  have := hin.el
  have := (setOk_len hin.so).2.2.2
  omega

set_option maxHeartbeats 4000000 in
theorem l11Draw_k (b : List UInt8) (c : Cu) (hb : b.length ≤ 1048576) (hc : c.i ≤ 1048576) : FnOK Try.prog 119 ⟨2, [(0, some (.ro (b.map bytK))), (1, some (.box 113 [.sl 0 1 0 b.length, .v (.int .i64 (c.i : Int)), .v (.int .i64 c.h)]))], [.c (.ptr 1 0 0)],
    .tup [.inr [.v (.int .i64 (mrG b c).N), .sl 2 3 0 ((mrG b c).Edges).length], .inr [.v (.int .i64 (mrR b c).Job.Prog), .v (.int .i64 (mrR b c).Job.Src), .v (.int .i64 (mrR b c).Iter), .v (.bool (mrR b c).Done), .sl 3 1 0 ((mrR b c).Vals).length, .sl 4 1 0 ((mrR b c).EVals).length, .v (.int .i64 (mrR b c).Next.N), .sl 5 1 0 ((mrR b c).Next.Bits).length]], [(1, some (.box 113 [.sl 0 1 0 b.length, .v (.int .i64 ((bwC b (mrC b c) 4).i : Int)), .v (.int .i64 (bwC b (mrC b c) 4).h)])), (2, some (.row 196 (((mrG b c).Edges).map EdgeD.k))), (3, some (.row 3 (((mrR b c).Vals).map intK))), (4, some (.row 3 (((mrR b c).EVals).map intK))), (5, some (.row 5 (((mrR b c).Next.Bits).map bytK)))], 6⟩ := by
  have k0 := l04Draw_k b c hb hc
  have hg := mrG_ok b c
  have k1 := l10Job_k b (gdC b c) (mrG b c).N hb (gdC_le hb hc) (by omega)
  have hgl := (graphOk_out hg.1).1.2.2
  have k2 := specRunNew_k (mrG b c) (mrJ b c) (by omega)
  rw [hg.1, mrJ_ok b c] at k2
  have hro := runNew_ok hg.1 (mrJ_ok b c)
  have hrs := runOk_small hro
  have k3 := l01Below_k b (mrC b c) 4 hb (jobC_le hb (gdC_le hb hc) _) (by decide)
  obtain ⟨m1, m2⟩ := mrK_rng b c
  rw [m1] at k3
  have k4 := specRunAll_k (mrG b c) (runNew (mrG b c) (mrJ b c)) (mrK b c) (by omega) (by omega) (by omega)
  change FnOK _ _ ⟨_, _, _, .agg [.v (.int .i64 (mrJ b c).Prog), .v (.int .i64 (mrJ b c).Src)], [(1, some (.box 113 [.sl 0 1 0 b.length, .v (.int .i64 ((mrC b c).i : Int)), .v (.int .i64 (mrC b c).h)]))], _⟩ at k1
  change FnOK _ _ ⟨_, _, _, .agg [.v (.int .i64 (mrR b c).Job.Prog), .v (.int .i64 (mrR b c).Job.Src), .v (.int .i64 (mrR b c).Iter), .v (.bool (mrR b c).Done), .sl 4 1 0 ((mrR b c).Vals).length, .sl 5 1 0 ((mrR b c).EVals).length, .v (.int .i64 (mrR b c).Next.N), .sl 6 1 0 ((mrR b c).Next.Bits).length], [(4, some (.row 3 (((mrR b c).Vals).map intK))), (5, some (.row 3 (((mrR b c).EVals).map intK))), (6, some (.row 5 (((mrR b c).Next.Bits).map bytK)))], _⟩ at k4
  by_cases hz : (gdG b c).N = 0
  · have e : mrG b c = ⟨1, (gdG b c).Edges⟩ := by unfold mrG; rw [if_pos hz]
    have e' : (mrG b c).N = 1 := by rw [e]
    have e'' : (mrG b c).Edges = (gdG b c).Edges := by rw [e]
    simp only [e', e''] at k1 k2 k4 ⊢
    refine fnOK_of true mixed Try.func119 rfl (by rfl) (by rfl) ?_
    have hres := congrArg Array.toList Try.results119
    simp only [Try.ntmps119, BGB, seval]
    repeat' (first | (with_reducible first | refine seq_k fun K hK hE hT => ?_ | refine block_k fun K hK hE hT => ?_ | refine region_k ?_ | refine lex_nil ?_ | fail) | ((with_reducible refine draw_k ?_ ?_); focus (first | rfl | kernel_rfl)) | ((with_reducible first | refine lex_move ?_ | refine lex_assign ?_); simp only [EVB, seval]) | (with_reducible first | refine lex_cons fun KS hKS => ?_ | refine lexd_cons fun KS hKS => ?_ | refine skip_k ?_ | refine exit_k ?_ | refine ret_k ?_ | fail) | ((with_reducible refine call_go ?_); (first | ((first | refine call_a (k0) rfl rfl ?_ | refine call_a (k1) rfl rfl ?_ | refine call_a (k2) rfl rfl ?_ | refine call_a (k3) rfl rfl ?_ | refine call_a (k4) rfl rfl ?_ | fail); simp only [ENB, seval, tiAll, true_and]; simp only [MAB, seval]; refine ⟨rfl, ?_, ?_, ?_, rfl, ?_, ?_, ?_, ?_⟩; (iterate 6 (focus (first | rfl | (simp [CXB, map_take, true_and]; done) | (simp [CXB, true_and]; omega) | (dsimp only; omega)))); simp only [EFB, seval]) | fail)) | ((with_reducible refine step_go ?_); (fail_if_success with_reducible refine call_go ?_); simp only [ENB, seval, tiAll, true_and]) | ((with_reducible refine lexd_nil ?_ ?_); focus (first | kernel_rfl | with_unfolding_all rfl)) | ((with_reducible refine guard_go ?_); refine lex_gone rfl rfl ?_; simp only [EVB, seval]) | ((first | ((with_reducible refine guard_go ?_); refine lex_guard rfl rfl (fun hg KS hKS => ?_) (fun hg => ?_)) | ((with_reducible refine guardd_go ?_); refine lexd_guard rfl rfl (fun hg KS hKS => ?_) (fun hg => ?_)) | ((with_reducible refine cond_go ?_); refine cond_k rfl (fun hg => ?_) (fun hg => ?_)) | (with_reducible refine And.intro (fun hg => ?_) (fun hg => ?_)) | fail) <;> first | (exact absurd hg (by decide)) | ((try simp only [CNL] at hg) <;> first | (exfalso; omega) | (exact (tf (by assumption) hg).elim) | (exact (tf hg (by assumption)).elim) | ((try with_reducible (have hT0 : True := hg; clear hT0 hg)); first | (with_reducible refine wpc_go ?_) | (try simp only [EVB, seval])))) | ((with_reducible refine hKS _ _ _ _ ?_); clear hKS; clear KS; simp only [EVB, seval]) | ((with_reducible refine And.intro ?_ ?_); focus (first | omega | exact u8_le _ | exact flat_intK _ | exact flat_bytK _ | (fail) | decide | (simp only [true_and]; done))) | ((with_reducible refine ex_p ?_ (fun hh => ?_)); focus (first | omega | (simp only [true_and]; omega))) | ((with_reducible refine hK _ _ _ ?_); clear hK hE hT; clear K) | ((with_reducible first | refine hE _ _ _ _ ?_ | refine hT _ _ _ ?_ | fail); (first | (clear hK hE hT; clear K) | (clear hR hE hT; clear K) | skip); try simp only [IFB, seval]) | ((with_reducible apply_assumption -symm -exfalso); try simp only [IFB, seval]) | fail)
    (refine post_a hres (.inl rfl) ?_; simp only [RSB, ENB, seval, tiAll, true_and]; simp only [MAB, seval]; refine ⟨rfl, rfl, ?_, ?_, ?_⟩ <;> (first | rfl | (simp [WKB, Nat.add_comm, true_and]; done) | (simp only [WKB, seval])))
  · have e : mrG b c = gdG b c := by unfold mrG; rw [if_neg hz]
    simp only [e] at k1 k2 k4 ⊢
    refine fnOK_of true mixed Try.func119 rfl (by rfl) (by rfl) ?_
    have hres := congrArg Array.toList Try.results119
    simp only [Try.ntmps119, BGB, seval]
    repeat' (first | (with_reducible first | refine seq_k fun K hK hE hT => ?_ | refine block_k fun K hK hE hT => ?_ | refine region_k ?_ | refine lex_nil ?_ | fail) | ((with_reducible refine draw_k ?_ ?_); focus (first | rfl | kernel_rfl)) | ((with_reducible first | refine lex_move ?_ | refine lex_assign ?_); simp only [EVB, seval]) | (with_reducible first | refine lex_cons fun KS hKS => ?_ | refine lexd_cons fun KS hKS => ?_ | refine skip_k ?_ | refine exit_k ?_ | refine ret_k ?_ | fail) | ((with_reducible refine call_go ?_); (first | ((first | refine call_a (k0) rfl rfl ?_ | refine call_a (k1) rfl rfl ?_ | refine call_a (k2) rfl rfl ?_ | refine call_a (k3) rfl rfl ?_ | refine call_a (k4) rfl rfl ?_ | fail); simp only [ENB, seval, tiAll, true_and]; simp only [MAB, seval]; refine ⟨rfl, ?_, ?_, ?_, rfl, ?_, ?_, ?_, ?_⟩; (iterate 6 (focus (first | rfl | (simp [CXB, map_take, true_and]; done) | (simp [CXB, true_and]; omega) | (dsimp only; omega)))); simp only [EFB, seval]) | fail)) | ((with_reducible refine step_go ?_); (fail_if_success with_reducible refine call_go ?_); simp only [ENB, seval, tiAll, true_and]) | ((with_reducible refine lexd_nil ?_ ?_); focus (first | kernel_rfl | with_unfolding_all rfl)) | ((with_reducible refine guard_go ?_); refine lex_gone rfl rfl ?_; simp only [EVB, seval]) | ((first | ((with_reducible refine guard_go ?_); refine lex_guard rfl rfl (fun hg KS hKS => ?_) (fun hg => ?_)) | ((with_reducible refine guardd_go ?_); refine lexd_guard rfl rfl (fun hg KS hKS => ?_) (fun hg => ?_)) | ((with_reducible refine cond_go ?_); refine cond_k rfl (fun hg => ?_) (fun hg => ?_)) | (with_reducible refine And.intro (fun hg => ?_) (fun hg => ?_)) | fail) <;> first | (exact absurd hg (by decide)) | ((try simp only [CNL] at hg) <;> first | (exfalso; omega) | (exact (tf (by assumption) hg).elim) | (exact (tf hg (by assumption)).elim) | ((try with_reducible (have hT0 : True := hg; clear hT0 hg)); first | (with_reducible refine wpc_go ?_) | (try simp only [EVB, seval])))) | ((with_reducible refine hKS _ _ _ _ ?_); clear hKS; clear KS; simp only [EVB, seval]) | ((with_reducible refine And.intro ?_ ?_); focus (first | omega | exact u8_le _ | exact flat_intK _ | exact flat_bytK _ | (fail) | decide | (simp only [true_and]; done))) | ((with_reducible refine ex_p ?_ (fun hh => ?_)); focus (first | omega | (simp only [true_and]; omega))) | ((with_reducible refine hK _ _ _ ?_); clear hK hE hT; clear K) | ((with_reducible first | refine hE _ _ _ _ ?_ | refine hT _ _ _ ?_ | fail); (first | (clear hK hE hT; clear K) | (clear hR hE hT; clear K) | skip); try simp only [IFB, seval]) | ((with_reducible apply_assumption -symm -exfalso); try simp only [IFB, seval]) | fail)
    (refine post_a hres (.inl rfl) ?_; simp only [RSB, ENB, seval, tiAll, true_and]; simp only [MAB, seval]; refine ⟨rfl, rfl, ?_, ?_, ?_⟩ <;> (first | rfl | (simp [WKB, Nat.add_comm, true_and]; done) | (simp only [WKB, seval])))

set_option maxHeartbeats 2000000 in
theorem makeRun_k (b : List UInt8) (hb : b.length ≤ 1048576) : FnOK Try.prog 42 ⟨1, [(0, some (.ro (b.map bytK)))], [.c (.sl 0 1 0 b.length)],
    .tup [.inr [.v (.int .i64 (mrG b (newC b)).N), .sl 1 3 0 ((mrG b (newC b)).Edges).length], .inr [.v (.int .i64 (mrR b (newC b)).Job.Prog), .v (.int .i64 (mrR b (newC b)).Job.Src), .v (.int .i64 (mrR b (newC b)).Iter), .v (.bool (mrR b (newC b)).Done), .sl 2 1 0 ((mrR b (newC b)).Vals).length, .sl 3 1 0 ((mrR b (newC b)).EVals).length, .v (.int .i64 (mrR b (newC b)).Next.N), .sl 4 1 0 ((mrR b (newC b)).Next.Bits).length]], [(1, some (.row 196 (((mrG b (newC b)).Edges).map EdgeD.k))), (2, some (.row 3 (((mrR b (newC b)).Vals).map intK))), (3, some (.row 3 (((mrR b (newC b)).EVals).map intK))), (4, some (.row 5 (((mrR b (newC b)).Next.Bits).map bytK)))], 5⟩ := by
  have k0 := l01New_k b hb
  have k1 := l11Draw_k b (newC b) hb (newC_le b)
  refine fnOK_of true mixed Try.func42 rfl (by rfl) (by rfl) ?_
  have hres := congrArg Array.toList Try.results42
  simp only [Try.ntmps42, BGB, seval]
  repeat' (first | (with_reducible first | refine seq_k fun K hK hE hT => ?_ | refine block_k fun K hK hE hT => ?_ | refine region_k ?_ | refine lex_nil ?_ | fail) | ((with_reducible refine draw_k ?_ ?_); focus (first | rfl | kernel_rfl)) | ((with_reducible first | refine lex_move ?_ | refine lex_assign ?_); simp only [EVB, seval]) | (with_reducible first | refine lex_cons fun KS hKS => ?_ | refine lexd_cons fun KS hKS => ?_ | refine skip_k ?_ | refine exit_k ?_ | refine ret_k ?_ | fail) | ((with_reducible refine call_go ?_); (first | ((first | refine call_a (k0) rfl rfl ?_ | refine call_a (k1) rfl rfl ?_ | fail); simp only [ENB, seval, tiAll, true_and]; simp only [MAB, seval]; refine ⟨rfl, ?_, ?_, ?_, rfl, ?_, ?_, ?_, ?_⟩; (iterate 6 (focus (first | rfl | (simp [CXB, map_take, true_and]; done) | (simp [CXB, true_and]; omega) | (dsimp only; omega)))); simp only [EFB, seval]) | fail)) | ((with_reducible refine step_go ?_); (fail_if_success with_reducible refine call_go ?_); simp only [ENB, seval, tiAll, true_and]) | ((with_reducible refine lexd_nil ?_ ?_); focus (first | kernel_rfl | with_unfolding_all rfl)) | ((with_reducible refine guard_go ?_); refine lex_gone rfl rfl ?_; simp only [EVB, seval]) | ((first | ((with_reducible refine guard_go ?_); refine lex_guard rfl rfl (fun hg KS hKS => ?_) (fun hg => ?_)) | ((with_reducible refine guardd_go ?_); refine lexd_guard rfl rfl (fun hg KS hKS => ?_) (fun hg => ?_)) | ((with_reducible refine cond_go ?_); refine cond_k rfl (fun hg => ?_) (fun hg => ?_)) | (with_reducible refine And.intro (fun hg => ?_) (fun hg => ?_)) | fail) <;> first | (exact absurd hg (by decide)) | ((try simp only [CNL] at hg) <;> first | (exfalso; omega) | (exact (tf (by assumption) hg).elim) | (exact (tf hg (by assumption)).elim) | ((try with_reducible (have hT0 : True := hg; clear hT0 hg)); first | (with_reducible refine wpc_go ?_) | (try simp only [EVB, seval])))) | ((with_reducible refine hKS _ _ _ _ ?_); clear hKS; clear KS; simp only [EVB, seval]) | ((with_reducible refine And.intro ?_ ?_); focus (first | omega | exact u8_le _ | exact flat_intK _ | exact flat_bytK _ | (fail) | decide | (simp only [true_and]; done))) | ((with_reducible refine ex_p ?_ (fun hh => ?_)); focus (first | omega | (simp only [true_and]; omega))) | ((with_reducible refine hK _ _ _ ?_); clear hK hE hT; clear K) | ((with_reducible first | refine hE _ _ _ _ ?_ | refine hT _ _ _ ?_ | fail); (first | (clear hK hE hT; clear K) | (clear hR hE hT; clear K) | skip); try simp only [IFB, seval]) | ((with_reducible apply_assumption -symm -exfalso); try simp only [IFB, seval]) | fail)
  (refine post_a hres (.inl rfl) ?_; simp only [RSB, ENB, seval, tiAll, true_and]; simp only [MAB, seval]; refine ⟨rfl, rfl, ?_, ?_, ?_⟩ <;> (first | rfl | (simp [WKB, Nat.add_comm, true_and]; done) | (simp only [WKB, seval])))

end Go.Proofs.Ytageceacjmmmdaa
