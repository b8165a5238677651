/-
  Contracts: new runs. No conditions of its own.
-/
import Derived.Test.YtageceacjmmmdaaK5
namespace Go.Proofs.Ytageceacjmmmdaa
set_option linter.unusedSimpArgs false
set_option linter.unusedVariables false
set_option linter.unusedSimpArgs false
set_option linter.unusedVariables false
set_option linter.defProp false
open Go.RowKit

def edgeFe (j : JobD) (l : List EdgeD) (e : EdgeD) : Int := firstEdge j e.From e.To (degN l l.length e.From.toNat)
def fvTo (j : JobD) (k : Nat) : List Int := (List.range k).map fun (v : Nat) => firstVal j (v : Int)
theorem fvTo_len (j : JobD) (k : Nat) : (fvTo j k).length = k := by simp [fvTo]
theorem fvTo_succ (j : JobD) (k : Nat) : fvTo j (k + 1) = fvTo j k ++ [firstVal j (k : Int)] := by simp [fvTo, List.range_succ]
def feTo (j : JobD) (l : List EdgeD) (k : Nat) : List Int := (l.take k).map (edgeFe j l)
theorem feTo_len (j : JobD) (l : List EdgeD) (k : Nat) (h : k ≤ l.length) : (feTo j l k).length = k := by simp [feTo]; omega
theorem feTo_succ (j : JobD) (l : List EdgeD) (k : Nat) (h : k < l.length) : feTo j l (k + 1) = feTo j l k ++ [edgeFe j l l[k]] := by
  unfold feTo
  rw [List.take_succ_eq_append_getElem h, List.map_append]
  rfl
theorem feTo_end (j : JobD) (l : List EdgeD) : feTo j l l.length = l.map (edgeFe j l) := by simp [feTo]
theorem outDegs_get {g : GraphD} (h : graphOk g = true) (v : Nat) (hv : v < (outDegs g).length) : (outDegs g)[v] = (degN g.Edges g.Edges.length v : Int) := by
  have e : outDegs g = (List.range g.N.toNat).map fun v => (degN g.Edges g.Edges.length v : Int) := by unfold outDegs; rw [if_pos h]
  simp [e]

def runNew (g : GraphD) (j : JobD) : RunD :=
  if graphOk g && jobOk g.N j then ⟨j, 0, g.N == 0, fvTo j g.N.toNat, feTo j g.Edges g.Edges.length, ⟨g.N, newL g.N true⟩⟩ else ⟨⟨0, 0⟩, 0, false, [], [], ⟨0, []⟩⟩


set_option maxHeartbeats 8000000 in
theorem specRunNew_k (g : GraphD) (j : JobD) (hl : g.Edges.length ≤ 1048576) : FnOK Try.prog 180 ⟨1, [(0, some (.ro ((g.Edges).map EdgeD.k)))], [.agg [.v (.int .i64 g.N), .sl 0 3 0 (g.Edges).length], .agg [.v (.int .i64 j.Prog), .v (.int .i64 j.Src)]], .tup [.inr [.v (.int .i64 (runNew g j).Job.Prog), .v (.int .i64 (runNew g j).Job.Src), .v (.int .i64 (runNew g j).Iter), .v (.bool (runNew g j).Done), .sl 1 1 0 ((runNew g j).Vals).length, .sl 2 1 0 ((runNew g j).EVals).length, .v (.int .i64 (runNew g j).Next.N), .sl 3 1 0 ((runNew g j).Next.Bits).length], .inl (.v (.bool (graphOk g && jobOk g.N j)))], [(1, some (.row 3 (((runNew g j).Vals).map intK))), (2, some (.row 3 (((runNew g j).EVals).map intK))), (3, some (.row 5 (((runNew g j).Next.Bits).map bytK)))], 4⟩ := by
  have hs := specGraphOk_k g (by omega)
  have hj := specJobOk_k g.N j
  cases ho : (graphOk g && jobOk g.N j) with
  | false =>
    have e : runNew g j = ⟨⟨0, 0⟩, 0, false, [], [], ⟨0, []⟩⟩ := by unfold runNew; rw [ho]; rfl
    rw [e]
    obtain ⟨v1, e1⟩ : ∃ v, v = graphOk g := ⟨_, rfl⟩
    obtain ⟨v2, e2⟩ : ∃ v, v = jobOk g.N j := ⟨_, rfl⟩
    rw [← e1] at hs
    rw [← e2] at hj
    rw [← e1, ← e2] at ho
    have ho' : v1 = true → v2 = true → False := fun a b => by rw [a, b] at ho; cases ho
    refine fnOK_of true mixed Try.func180 rfl (by rfl) (by rfl) ?_
    have hres := congrArg Array.toList Try.results180
    simp only [Try.ntmps180, BGB, seval]
    repeat' (first | (with_reducible first | refine seq_k fun K hK hE hT => ?_ | refine block_k fun K hK hE hT => ?_ | refine region_k ?_ | refine lex_nil ?_ | fail) | ((with_reducible refine draw_k ?_ ?_); focus (first | rfl | kernel_rfl)) | ((with_reducible first | refine lex_move ?_ | refine lex_assign ?_); simp only [EVB, seval]) | (with_reducible first | refine lex_cons fun KS hKS => ?_ | refine lexd_cons fun KS hKS => ?_ | refine skip_k ?_ | refine exit_k ?_ | refine ret_k ?_ | fail) | ((with_reducible refine call_go ?_); (first | ((first | refine call_a (hs) rfl rfl ?_ | refine call_a (hj) rfl rfl ?_ | fail); simp only [ENB, seval, tiAll, true_and]; simp only [MAB, seval]; refine ⟨rfl, ?_, ?_, ?_, rfl, ?_, ?_, ?_, ?_⟩; (iterate 6 (focus (first | rfl | (simp [CXB, map_take, true_and]; done) | (simp [CXB, true_and]; omega) | (dsimp only; omega)))); simp only [EFB, seval]) | fail)) | ((with_reducible refine step_go ?_); (fail_if_success with_reducible refine call_go ?_); simp only [ENB, seval, tiAll, true_and]) | ((with_reducible refine lexd_nil ?_ ?_); focus (first | kernel_rfl | with_unfolding_all rfl)) | ((with_reducible refine guard_go ?_); refine lex_gone rfl rfl ?_; simp only [EVB, seval]) | ((first | ((with_reducible refine guard_go ?_); refine lex_guard rfl rfl (fun hg KS hKS => ?_) (fun hg => ?_)) | ((with_reducible refine guardd_go ?_); refine lexd_guard rfl rfl (fun hg KS hKS => ?_) (fun hg => ?_)) | ((with_reducible refine cond_go ?_); refine cond_k rfl (fun hg => ?_) (fun hg => ?_)) | (with_reducible refine And.intro (fun hg => ?_) (fun hg => ?_)) | fail) <;> first | (exact absurd hg (by decide)) | ((try simp only [CNL] at hg) <;> first | (exfalso; omega) | (exact (tf (by assumption) hg).elim) | (exact (tf hg (by assumption)).elim) | ((try with_reducible (have hT0 : True := hg; clear hT0 hg)); first | (with_reducible refine wpc_go ?_) | (try simp only [EVB, seval])))) | ((with_reducible refine hKS _ _ _ _ ?_); clear hKS; clear KS; simp only [EVB, seval]) | ((with_reducible refine And.intro ?_ ?_); focus (first | omega | exact u8_le _ | exact flat_intK _ | exact flat_bytK _ | (fail) | decide | (simp only [true_and]; done))) | ((with_reducible refine ex_p ?_ (fun hh => ?_)); focus (first | omega | (simp only [true_and]; omega))) | ((with_reducible refine hK _ _ _ ?_); clear hK hE hT; clear K) | ((with_reducible first | refine hE _ _ _ _ ?_ | refine hT _ _ _ ?_ | fail); (first | (clear hK hE hT; clear K) | (clear hR hE hT; clear K) | skip); try simp only [IFB, seval]) | ((with_reducible apply_assumption -symm -exfalso); try simp only [IFB, seval]) | fail)
    all_goals first
      | (exact (ho' (by assumption) (by assumption)).elim)
      | skip
    all_goals (refine post_a hres (.inl rfl) ?_; simp only [RSB, ENB, seval, tiAll, true_and]; simp only [MAB, seval]; refine ⟨rfl, rfl, ?_, ?_, ?_⟩ <;> (first | rfl | (simp [WKB, Nat.add_comm, true_and]; done) | (simp only [WKB, seval])))
  | true =>
    have e : runNew g j = ⟨j, 0, g.N == 0, fvTo j g.N.toNat, feTo j g.Edges g.Edges.length, ⟨g.N, newL g.N true⟩⟩ := by unfold runNew; rw [ho]; rfl
    rw [e]
    rw [Bool.and_eq_true] at ho
    obtain ⟨ho, hjo⟩ := ho
    rw [ho] at hs
    rw [hjo] at hj
    have hd := specOutDegs_k g hl
    have hn := specSetNew_k g.N true
    obtain ⟨h1, h2, h3, h4⟩ := graphOk_in ho
    have hdl : (outDegs g).length = g.N.toNat := by unfold outDegs; rw [ho]; simp
    obtain ⟨n, l⟩ := g
    dsimp only at *
    obtain ⟨m, rfl⟩ := Int.eq_ofNat_of_zero_le h1
    simp only [Int.toNat_natCast] at hdl ⊢
    obtain ⟨e1, e2⟩ := newN_in (n := m) (by omega)
    rw [e1, e2] at hn
    have hnl : (newL (m : Int) true).length = (m + 7) / 8 := by rw [newL_in (by omega), fullTo_len]
    rw [hnl] at hn ⊢
    refine fnOK_of true mixed Try.func180 rfl (by rfl) (by rfl) ?_
    have hres := congrArg Array.toList Try.results180
    simp only [Try.ntmps180, BGB, seval]
    repeat' (first | (with_reducible first | refine seq_k fun K hK hE hT => ?_ | refine block_k fun K hK hE hT => ?_ | refine region_k ?_ | refine lex_nil ?_ | fail) | ((with_reducible refine draw_k ?_ ?_); focus (first | rfl | kernel_rfl)) | ((with_reducible first | refine lex_move ?_ | refine lex_assign ?_); simp only [EVB, seval]) | (with_reducible first | refine lex_cons fun KS hKS => ?_ | refine lexd_cons fun KS hKS => ?_ | refine skip_k ?_ | refine exit_k ?_ | refine ret_k ?_ | fail) | ((with_reducible refine call_go ?_); (first | ((first | refine call_a (hs) rfl rfl ?_ | refine call_a (hj) rfl rfl ?_ | refine call_a (hn) rfl rfl ?_ | fail); simp only [ENB, seval, tiAll, true_and]; simp only [MAB, seval]; refine ⟨rfl, ?_, ?_, ?_, rfl, ?_, ?_, ?_, ?_⟩; (iterate 6 (focus (first | rfl | (simp [CXB, map_take, true_and]; done) | (simp [CXB, true_and]; omega) | (dsimp only; omega)))); simp only [EFB, seval]) | fail)) | ((with_reducible refine step_go ?_); (fail_if_success with_reducible refine call_go ?_); simp only [ENB, seval, tiAll, true_and]) | ((with_reducible refine lexd_nil ?_ ?_); focus (first | kernel_rfl | with_unfolding_all rfl)) | ((with_reducible refine guard_go ?_); refine lex_gone rfl rfl ?_; simp only [EVB, seval]) | ((first | ((with_reducible refine guard_go ?_); refine lex_guard rfl rfl (fun hg KS hKS => ?_) (fun hg => ?_)) | ((with_reducible refine guardd_go ?_); refine lexd_guard rfl rfl (fun hg KS hKS => ?_) (fun hg => ?_)) | ((with_reducible refine cond_go ?_); refine cond_k rfl (fun hg => ?_) (fun hg => ?_)) | (with_reducible refine And.intro (fun hg => ?_) (fun hg => ?_)) | fail) <;> first | (exact absurd hg (by decide)) | ((try simp only [CNL] at hg) <;> first | (exfalso; omega) | (exact (tf (by assumption) hg).elim) | (exact (tf hg (by assumption)).elim) | ((try with_reducible (have hT0 : True := hg; clear hT0 hg)); first | (with_reducible refine wpc_go ?_) | (try simp only [EVB, seval])))) | ((with_reducible refine hKS _ _ _ _ ?_); clear hKS; clear KS; simp only [EVB, seval]) | ((with_reducible refine And.intro ?_ ?_); focus (first | omega | exact u8_le _ | exact flat_intK _ | exact flat_bytK _ | (fail) | decide | (simp only [true_and]; done))) | ((with_reducible refine ex_p ?_ (fun hh => ?_)); focus (first | omega | (simp only [true_and]; omega))) | ((with_reducible refine hK _ _ _ ?_); clear hK hE hT; clear K) | ((with_reducible first | refine hE _ _ _ _ ?_ | refine hT _ _ _ ?_ | fail); (first | (clear hK hE hT; clear K) | (clear hR hE hT; clear K) | skip); try simp only [IFB, seval]) | ((with_reducible apply_assumption -symm -exfalso); try simp only [IFB, seval]) | fail)
    have hn2 : ∀ k, k ≤ m → (fvTo j k).length = k := fun k _ => fvTo_len j k
    refine loop_v (X := {k : Nat // k ≤ m}) [] (fun x => [(9, .c (.v (.int .i64 ((x.1 : Nat) : Int))))]) (fun x => [(0, some (.ro (l.map EdgeD.k))), (1, some (.box 64 [.v (.int .i64 (m : Int)), .sl 0 3 0 l.length])), (2, some (.box 24 [.v (.int .i64 j.Prog), .v (.int .i64 j.Src)])), (3, some (.box 66 [.v (.int .i64 0), .v (.int .i64 0), .v (.int .i64 0), .v (.bool false), .nil, .nil, .v (.int .i64 0), .nil])), (4, some (.row 5 ((newL (m : Int) true).map bytK))), (6, some (.box 66 [.v (.int .i64 j.Prog), .v (.int .i64 j.Src), .v (.int .i64 0), .v (.bool ((m : Int) == 0)), .sl 7 1 0 x.1, .nil, .v (.int .i64 (m : Int)), .sl 4 1 0 ((m + 7) / 8)])), (7, some (.row 3 ((fvTo j x.1).map intK)))]) 8 (fun x => m - x.1) ⟨0, by omega⟩ ?_
    simp only [KPB, seval]
    refine ⟨?_, ?_⟩
    · (refine wk_a ?_; simp only [MAB, seval]; refine ⟨rfl, rfl, (by decide), ?_, ?_⟩; all_goals (first | (simp only [WKB, seval, fvTo, List.range_zero, List.map_nil, Nat.reduceLT, Nat.zero_lt_succ]; done) | (simp [WKB, seval, fvTo, List.range_zero, List.map_nil]; done) | simp only [WKB, seval]))
    · rintro ⟨k, hk⟩ K hR hE hT
      have hkl := fvTo_len j k
      rcases Nat.lt_or_ge k m with hlt | hge
      case inl =>
        repeat' (first | (with_reducible first | refine seq_k fun K hK hE hT => ?_ | refine block_k fun K hK hE hT => ?_ | refine region_k ?_ | refine lex_nil ?_ | fail) | ((with_reducible refine draw_k ?_ ?_); focus (first | rfl | kernel_rfl)) | ((with_reducible first | refine lex_move ?_ | refine lex_assign ?_); simp only [EVB, seval]) | (with_reducible first | refine lex_cons fun KS hKS => ?_ | refine lexd_cons fun KS hKS => ?_ | refine skip_k ?_ | refine exit_k ?_ | refine ret_k ?_ | fail) | ((with_reducible refine call_go ?_); (first | ((first | refine call_a (specFirstVal_k j (k : Int)) rfl rfl ?_ | fail); simp only [ENB, seval, tiAll, List.length_map, hkl]; simp only [MAB, seval]; refine ⟨rfl, ?_, ?_, ?_, rfl, ?_, ?_, ?_, ?_⟩; (iterate 6 (focus (first | rfl | (simp [CXB, map_take, List.length_map, hkl]; done) | (simp [CXB, List.length_map, hkl]; omega) | (dsimp only; omega)))); simp only [EFB, seval]) | fail)) | ((with_reducible refine step_go ?_); (fail_if_success with_reducible refine call_go ?_); simp only [ENB, seval, tiAll, List.length_map, hkl]) | ((with_reducible refine lexd_nil ?_ ?_); focus (first | kernel_rfl | with_unfolding_all rfl)) | ((with_reducible refine guard_go ?_); refine lex_gone rfl rfl ?_; simp only [EVB, seval]) | ((first | ((with_reducible refine guard_go ?_); refine lex_guard rfl rfl (fun hg KS hKS => ?_) (fun hg => ?_)) | ((with_reducible refine guardd_go ?_); refine lexd_guard rfl rfl (fun hg KS hKS => ?_) (fun hg => ?_)) | ((with_reducible refine cond_go ?_); refine cond_k rfl (fun hg => ?_) (fun hg => ?_)) | (with_reducible refine And.intro (fun hg => ?_) (fun hg => ?_)) | fail) <;> first | (exact absurd hg (by decide)) | ((try simp only [CNL] at hg) <;> first | (exfalso; omega) | (exact (tf (by assumption) hg).elim) | (exact (tf hg (by assumption)).elim) | ((try with_reducible (have hT0 : True := hg; clear hT0 hg)); first | (with_reducible refine wpc_go ?_) | (try simp only [EVB, seval])))) | ((with_reducible refine hKS _ _ _ _ ?_); clear hKS; clear KS; simp only [EVB, seval]) | ((with_reducible refine And.intro ?_ ?_); focus (first | omega | exact u8_le _ | exact flat_intK _ | exact flat_bytK _ | (exact flat_intK _) | decide | (simp only [List.length_map, hkl]; done))) | ((with_reducible refine ex_p ?_ (fun hh => ?_)); focus (first | omega | (simp only [List.length_map, hkl]; omega))) | ((with_reducible refine hK _ _ _ ?_); clear hK hE hT; clear K) | ((with_reducible first | refine hE _ _ _ _ ?_ | refine hT _ _ _ ?_ | fail); (first | (clear hK hE hT; clear K) | (clear hR hE hT; clear K) | skip); try simp only [IFB, seval]) | ((with_reducible apply_assumption -symm -exfalso); try simp only [IFB, seval]) | fail)
        have e := fvTo_succ j k
        (refine hR.out ⟨k + 1, by omega⟩ _ _ _ (by simp only; omega) ?_; (refine wk_a ?_; simp only [MAB, seval]; refine ⟨rfl, rfl, (by decide), ?_, ?_⟩; all_goals (first | (simp only [WKB, seval, e, List.map_append, intK, List.map_cons, List.map_nil, Nat.reduceLT, Nat.zero_lt_succ]; done) | (simp [WKB, seval, e, List.map_append, intK, List.map_cons, List.map_nil]; done) | simp only [WKB, seval])))
      case inr =>
        obtain rfl : m = k := by omega
        repeat' (first | (with_reducible first | refine seq_k fun K hK hE hT => ?_ | refine block_k fun K hK hE hT => ?_ | refine region_k ?_ | refine lex_nil ?_ | fail) | ((with_reducible refine draw_k ?_ ?_); focus (first | rfl | kernel_rfl)) | ((with_reducible first | refine lex_move ?_ | refine lex_assign ?_); simp only [EVB, seval]) | (with_reducible first | refine lex_cons fun KS hKS => ?_ | refine lexd_cons fun KS hKS => ?_ | refine skip_k ?_ | refine exit_k ?_ | refine ret_k ?_ | fail) | ((with_reducible refine call_go ?_); (first | ((first | refine call_a (hd) rfl rfl ?_ | fail); simp only [ENB, seval, tiAll, List.length_map, hkl]; simp only [MAB, seval]; refine ⟨rfl, ?_, ?_, ?_, rfl, ?_, ?_, ?_, ?_⟩; (iterate 6 (focus (first | rfl | (simp [CXB, map_take, List.length_map, hkl]; done) | (simp [CXB, List.length_map, hkl]; omega) | (dsimp only; omega)))); simp only [EFB, seval]) | fail)) | ((with_reducible refine step_go ?_); (fail_if_success with_reducible refine call_go ?_); simp only [ENB, seval, tiAll, List.length_map, hkl]) | ((with_reducible refine lexd_nil ?_ ?_); focus (first | kernel_rfl | with_unfolding_all rfl)) | ((with_reducible refine guard_go ?_); refine lex_gone rfl rfl ?_; simp only [EVB, seval]) | ((first | ((with_reducible refine guard_go ?_); refine lex_guard rfl rfl (fun hg KS hKS => ?_) (fun hg => ?_)) | ((with_reducible refine guardd_go ?_); refine lexd_guard rfl rfl (fun hg KS hKS => ?_) (fun hg => ?_)) | ((with_reducible refine cond_go ?_); refine cond_k rfl (fun hg => ?_) (fun hg => ?_)) | (with_reducible refine And.intro (fun hg => ?_) (fun hg => ?_)) | fail) <;> first | (exact absurd hg (by decide)) | ((try simp only [CNL] at hg) <;> first | (exfalso; omega) | (exact (tf (by assumption) hg).elim) | (exact (tf hg (by assumption)).elim) | ((try with_reducible (have hT0 : True := hg; clear hT0 hg)); first | (with_reducible refine wpc_go ?_) | (try simp only [EVB, seval])))) | ((with_reducible refine hKS _ _ _ _ ?_); clear hKS; clear KS; simp only [EVB, seval]) | ((with_reducible refine And.intro ?_ ?_); focus (first | omega | exact u8_le _ | exact flat_intK _ | exact flat_bytK _ | (fail) | decide | (simp only [List.length_map, hkl]; done))) | ((with_reducible refine ex_p ?_ (fun hh => ?_)); focus (first | omega | (simp only [List.length_map, hkl]; omega))) | ((with_reducible refine hK _ _ _ ?_); clear hK hE hT; clear K) | ((with_reducible first | refine hE _ _ _ _ ?_ | refine hT _ _ _ ?_ | fail); (first | (clear hK hE hT; clear K) | (clear hR hE hT; clear K) | skip); try simp only [IFB, seval]) | ((with_reducible apply_assumption -symm -exfalso); try simp only [IFB, seval]) | fail)
        refine loop_v (X := {i : Nat // i ≤ l.length}) [] (fun x => [(55, .c (.v (.int .i64 ((x.1 : Nat) : Int))))]) (fun x => [(0, some (.ro (l.map EdgeD.k))), (1, some (.box 64 [.v (.int .i64 (m : Int)), .sl 0 3 0 l.length])), (2, some (.box 24 [.v (.int .i64 j.Prog), .v (.int .i64 j.Src)])), (3, some (.box 66 [.v (.int .i64 0), .v (.int .i64 0), .v (.int .i64 0), .v (.bool false), .nil, .nil, .v (.int .i64 0), .nil])), (4, some (.row 5 ((newL (m : Int) true).map bytK))), (6, some (.box 66 [.v (.int .i64 j.Prog), .v (.int .i64 j.Src), .v (.int .i64 0), .v (.bool ((m : Int) == 0)), .sl 7 1 0 m, .sl 9 1 0 x.1, .v (.int .i64 (m : Int)), .sl 4 1 0 ((m + 7) / 8)])), (7, some (.row 3 ((fvTo j m).map intK))), (8, some (.row 3 ((outDegs ⟨(m : Int), l⟩).map intK))), (9, some (.row 3 ((feTo j l x.1).map intK)))]) 10 (fun x => l.length - x.1) ⟨0, by omega⟩ ?_
        simp only [KPB, seval]
        refine ⟨?_, ?_⟩
        · (refine wk_a ?_; simp only [MAB, seval]; refine ⟨rfl, rfl, (by decide), ?_, ?_⟩; all_goals (first | (simp only [WKB, seval, feTo, List.take_zero, List.map_nil, Nat.reduceLT, Nat.zero_lt_succ]; done) | (simp [WKB, seval, feTo, List.take_zero, List.map_nil]; done) | simp only [WKB, seval]))
        · rintro ⟨i, hi⟩ K hR hE hT
          have hil := feTo_len j l i hi
          rcases Nat.lt_or_ge i l.length with hlt | hge
          case inl =>
            obtain ⟨q1, q2, _⟩ := h4 i hlt
            obtain ⟨v, hv⟩ := Int.eq_ofNat_of_zero_le q1
            have hvm : v < m := by omega
            have hdv := outDegs_get (g := ⟨(m : Int), l⟩) ho v (by omega)
            dsimp only at hdv
            have e := feTo_succ j l i hlt
            have e3 : edgeFe j l l[i] = firstEdge j (v : Int) l[i].To (degN l l.length v : Int) := by unfold edgeFe; rw [hv]; simp
            rw [e3] at e
            repeat' (first | (with_reducible first | refine seq_k fun K hK hE hT => ?_ | refine block_k fun K hK hE hT => ?_ | refine region_k ?_ | refine lex_nil ?_ | fail) | ((with_reducible refine draw_k ?_ ?_); focus (first | rfl | kernel_rfl)) | ((with_reducible first | refine lex_move ?_ | refine lex_assign ?_); simp only [EVB, seval]) | (with_reducible first | refine lex_cons fun KS hKS => ?_ | refine lexd_cons fun KS hKS => ?_ | refine skip_k ?_ | refine exit_k ?_ | refine ret_k ?_ | fail) | ((with_reducible refine call_go ?_); (first | ((first | refine call_a (specFirstEdge_k j (v : Int) (l[i]'hlt).To (degN l l.length v : Int)) rfl rfl ?_ | fail); simp only [ENB, seval, tiAll, List.length_map, List.getElem_map, EdgeD.k, hv, hdl, intK, hdv, hil]; simp only [MAB, seval]; refine ⟨rfl, ?_, ?_, ?_, rfl, ?_, ?_, ?_, ?_⟩; (iterate 6 (focus (first | rfl | (simp [CXB, map_take, List.length_map, List.getElem_map, EdgeD.k, hv, hdl, intK, hdv, hil]; done) | (simp [CXB, List.length_map, List.getElem_map, EdgeD.k, hv, hdl, intK, hdv, hil]; omega) | (dsimp only; omega)))); simp only [EFB, seval]) | fail)) | ((with_reducible refine step_go ?_); (fail_if_success with_reducible refine call_go ?_); simp only [ENB, seval, tiAll, List.length_map, List.getElem_map, EdgeD.k, hv, hdl, intK, hdv, hil]) | ((with_reducible refine lexd_nil ?_ ?_); focus (first | kernel_rfl | with_unfolding_all rfl)) | ((with_reducible refine guard_go ?_); refine lex_gone rfl rfl ?_; simp only [EVB, seval]) | ((first | ((with_reducible refine guard_go ?_); refine lex_guard rfl rfl (fun hg KS hKS => ?_) (fun hg => ?_)) | ((with_reducible refine guardd_go ?_); refine lexd_guard rfl rfl (fun hg KS hKS => ?_) (fun hg => ?_)) | ((with_reducible refine cond_go ?_); refine cond_k rfl (fun hg => ?_) (fun hg => ?_)) | (with_reducible refine And.intro (fun hg => ?_) (fun hg => ?_)) | fail) <;> first | (exact absurd hg (by decide)) | ((try simp only [CNL] at hg) <;> first | (exfalso; omega) | (exact (tf (by assumption) hg).elim) | (exact (tf hg (by assumption)).elim) | ((try with_reducible (have hT0 : True := hg; clear hT0 hg)); first | (with_reducible refine wpc_go ?_) | (try simp only [EVB, seval])))) | ((with_reducible refine hKS _ _ _ _ ?_); clear hKS; clear KS; simp only [EVB, seval]) | ((with_reducible refine And.intro ?_ ?_); focus (first | omega | exact u8_le _ | exact flat_intK _ | exact flat_bytK _ | (exact flat_intK _) | decide | (simp only [List.length_map, List.getElem_map, EdgeD.k, hv, hdl, intK, hdv, hil]; done))) | ((with_reducible refine ex_p ?_ (fun hh => ?_)); focus (first | omega | (simp only [List.length_map, List.getElem_map, EdgeD.k, hv, hdl, intK, hdv, hil]; omega))) | ((with_reducible refine hK _ _ _ ?_); clear hK hE hT; clear K) | ((with_reducible first | refine hE _ _ _ _ ?_ | refine hT _ _ _ ?_ | fail); (first | (clear hK hE hT; clear K) | (clear hR hE hT; clear K) | skip); try simp only [IFB, seval]) | ((with_reducible apply_assumption -symm -exfalso); try simp only [IFB, seval]) | fail)
            (refine hR.out ⟨i + 1, by omega⟩ _ _ _ (by simp only; omega) ?_; (refine wk_a ?_; simp only [MAB, seval]; refine ⟨rfl, rfl, (by decide), ?_, ?_⟩; all_goals (first | (simp only [WKB, seval, e, List.map_append, intK, List.map_cons, List.map_nil, Nat.reduceLT, Nat.zero_lt_succ]; done) | (simp [WKB, seval, e, List.map_append, intK, List.map_cons, List.map_nil]; done) | simp only [WKB, seval])))
          case inr =>
            obtain rfl : i = l.length := by omega
            repeat' (first | (with_reducible first | refine seq_k fun K hK hE hT => ?_ | refine block_k fun K hK hE hT => ?_ | refine region_k ?_ | refine lex_nil ?_ | fail) | ((with_reducible refine draw_k ?_ ?_); focus (first | rfl | kernel_rfl)) | ((with_reducible first | refine lex_move ?_ | refine lex_assign ?_); simp only [EVB, seval]) | (with_reducible first | refine lex_cons fun KS hKS => ?_ | refine lexd_cons fun KS hKS => ?_ | refine skip_k ?_ | refine exit_k ?_ | refine ret_k ?_ | fail) | ((with_reducible refine call_go ?_); fail) | ((with_reducible refine step_go ?_); (fail_if_success with_reducible refine call_go ?_); simp only [ENB, seval, tiAll, List.length_map]) | ((with_reducible refine lexd_nil ?_ ?_); focus (first | kernel_rfl | with_unfolding_all rfl)) | ((with_reducible refine guard_go ?_); refine lex_gone rfl rfl ?_; simp only [EVB, seval]) | ((first | ((with_reducible refine guard_go ?_); refine lex_guard rfl rfl (fun hg KS hKS => ?_) (fun hg => ?_)) | ((with_reducible refine guardd_go ?_); refine lexd_guard rfl rfl (fun hg KS hKS => ?_) (fun hg => ?_)) | ((with_reducible refine cond_go ?_); refine cond_k rfl (fun hg => ?_) (fun hg => ?_)) | (with_reducible refine And.intro (fun hg => ?_) (fun hg => ?_)) | fail) <;> first | (exact absurd hg (by decide)) | ((try simp only [CNL] at hg) <;> first | (exfalso; omega) | (exact (tf (by assumption) hg).elim) | (exact (tf hg (by assumption)).elim) | ((try with_reducible (have hT0 : True := hg; clear hT0 hg)); first | (with_reducible refine wpc_go ?_) | (try simp only [EVB, seval])))) | ((with_reducible refine hKS _ _ _ _ ?_); clear hKS; clear KS; simp only [EVB, seval]) | ((with_reducible refine And.intro ?_ ?_); focus (first | omega | exact u8_le _ | exact flat_intK _ | exact flat_bytK _ | (fail) | decide | (simp only [List.length_map]; done))) | ((with_reducible refine ex_p ?_ (fun hh => ?_)); focus (first | omega | (simp only [List.length_map]; omega))) | ((with_reducible refine hK _ _ _ ?_); clear hK hE hT; clear K) | ((with_reducible first | refine hE _ _ _ _ ?_ | refine hT _ _ _ ?_ | fail); (first | (clear hK hE hT; clear K) | (clear hR hE hT; clear K) | skip); try simp only [IFB, seval]) | ((with_reducible apply_assumption -symm -exfalso); try simp only [IFB, seval]) | fail)
            (refine post_a hres (.inl rfl) ?_; simp only [RSB, ENB, seval, tiAll, hkl, hil, hnl]; simp only [MAB, seval]; refine ⟨rfl, rfl, ?_, ?_, ?_⟩ <;> (first | rfl | (simp [WKB, Nat.add_comm, hkl, hil, hnl]; done) | (simp only [WKB, seval])))

theorem runNew_small (g : GraphD) (j : JobD) : (runNew g j).Vals.length ≤ 400 ∧ (runNew g j).EVals.length ≤ 400 ∧ (runNew g j).Next.Bits.length ≤ 400 := by
  unfold runNew
  cases ho : (graphOk g && jobOk g.N j) with
  | false => simp
  | true =>
    rw [Bool.and_eq_true] at ho
    obtain ⟨h1, h2, h3, _⟩ := graphOk_in ho.1
    rw [if_pos rfl]
    dsimp only
    rw [fvTo_len, feTo_len _ _ _ (Nat.le_refl _)]
    obtain ⟨m, hm⟩ := Int.eq_ofNat_of_zero_le h1
    rw [hm] at h2 ⊢
    rw [newL_in (by omega), fullTo_len]
    exact ⟨by simp; omega, h3, by omega⟩

end Go.Proofs.Ytageceacjmmmdaa
