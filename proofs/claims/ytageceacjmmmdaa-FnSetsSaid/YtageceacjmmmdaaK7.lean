/-
  Contracts: the union of sets. No conditions of its own.
-/
import Derived.Test.YtageceacjmmmdaaK4
namespace Go.Proofs.Ytageceacjmmmdaa
set_option linter.unusedSimpArgs false
set_option linter.unusedVariables false
set_option linter.unusedSimpArgs false
set_option linter.unusedVariables false
open Go.RowKit

theorem mem_fm {l : List UInt8} : ∀ {k : Nat} {v : Int}, v ∈ fm (memI l) k ↔ ∃ u : Nat, v = u ∧ u < k ∧ bitAt l u = true
  | 0, v => by simp [fm_zero]
  | k + 1, v => by
    have ih := mem_fm (l := l) (k := k) (v := v)
    cases h : bitAt l k with
    | true =>
      rw [fm_some (memI_hit h), List.mem_append, ih]
      constructor
      · rintro (⟨u, h1, h2, h3⟩ | h1)
        · exact ⟨u, h1, by omega, h3⟩
        · simp at h1; exact ⟨k, h1, by omega, h⟩
      · rintro ⟨u, h1, h2, h3⟩
        by_cases hu : u = k
        · right; subst hu; simp [h1]
        · exact .inl ⟨u, h1, by omega, h3⟩
    | false =>
      rw [fm_none (memI_miss h), ih]
      constructor
      · rintro ⟨u, h1, h2, h3⟩; exact ⟨u, h1, by omega, h3⟩
      · rintro ⟨u, h1, h2, h3⟩
        refine ⟨u, h1, ?_, h3⟩
        by_cases hu : u = k
        · subst hu; rw [h] at h3; cases h3
        · omega

theorem setAll_fm {n : Nat} {l m : List UInt8} (hl : setOk (n : Int) l = true) (hm : setOk (n : Int) m = true) : setAll l (fm (memI m) n) = eitherL l m := by
  have h1 := (setOk_len hl).2.2.1
  have h2 := (setOk_len hm).2.2.1
  have hlm : l.length = m.length := by omega
  have hin : ∀ v ∈ fm (memI m) n, v.toNat / 8 < l.length := by
    intro v hv
    obtain ⟨u, rfl, hu, _⟩ := mem_fm.1 hv
    simp at h1 ⊢
    omega
  apply bits_ext (by rw [setAll_len]; simp [eitherL]; omega)
  intro v hv
  rw [setAll_len] at hv
  rw [bitAt_setAll _ _ hin, bitAt_either hlm, Bool.eq_iff_iff]
  simp only [Bool.or_eq_true, List.any_eq_true, decide_eq_true_eq]
  constructor
  · rintro (h | ⟨x, hx, rfl⟩)
    · exact .inl h
    · obtain ⟨u, rfl, hu, hb⟩ := mem_fm.1 hx
      right; simpa using hb
  · rintro (h | h)
    · exact .inl h
    · right
      refine ⟨(v : Int), mem_fm.2 ⟨v, rfl, ?_, h⟩, by simp⟩
      unfold setOk at hm
      simp only [decide_eq_true_eq] at hm
      by_cases hvn : v < n
      · exact hvn
      · have := hm.2.2.2 v (by omega) (by simp; omega)
        rw [this] at h; cases h

def eitherTo (l m : List UInt8) (j : Nat) : List UInt8 := (eitherL l m).take j ++ l.drop j

theorem eitherTo_len {l m : List UInt8} (h : l.length = m.length) (j : Nat) : (eitherTo l m j).length = l.length := by
  simp [eitherTo, eitherL]; omega

theorem eitherTo_zero (l m : List UInt8) : eitherTo l m 0 = l := by simp [eitherTo]

theorem eitherTo_end {l m : List UInt8} (h : l.length = m.length) : eitherTo l m m.length = eitherL l m := by
  have e : (eitherL l m).length = m.length := by simp [eitherL]; omega
  unfold eitherTo
  rw [← e, List.take_length, List.drop_eq_nil_of_le (by omega), List.append_nil]

theorem eitherTo_get {l m : List UInt8} (h : l.length = m.length) {j : Nat} (hj : j < m.length) (hj' : j < (eitherTo l m j).length) : (eitherTo l m j)[j] = l[j] := by
  have e : (eitherTo l m j)[j]? = l[j]? := by
    simp only [eitherTo, eitherL, List.getElem?_append, List.getElem?_take, List.length_take, List.length_zipWith, List.getElem?_drop]
    grind
  rw [List.getElem?_eq_getElem hj', List.getElem?_eq_getElem (by omega)] at e
  exact Option.some.inj e

theorem eitherTo_set {l m : List UInt8} (h : l.length = m.length) {j : Nat} (hj : j < m.length) : (eitherTo l m j).set j (orB l[j] m[j]) = eitherTo l m (j + 1) := by
  apply List.ext_getElem?
  intro i
  simp only [eitherTo, eitherL, List.getElem?_set, List.getElem?_append, List.getElem?_take, List.length_take, List.length_zipWith, List.length_append, List.length_drop, List.getElem?_drop, List.getElem?_zipWith]
  grind

theorem or_u8 (x y : UInt8) : bits BinOp.or IntKind.u8 (x.toNat : Int) (y.toNat : Int) = ((orB x y).toNat : Int) := by
  have hx := x.toNat_lt
  have hy := y.toNat_lt
  have ho : x.toNat ||| y.toNat < 2 ^ 8 := Nat.or_lt_two_pow (by omega) (by omega)
  unfold orB
  rw [u8_or_nat _ _ (by omega) (by omega), ofNat_toNat _ ho]

theorem either_row {l m : List UInt8} (h : l.length = m.length) {j : Nat} (hj : j < m.length) : ((eitherTo l m j).map bytK).set j [DC.v (.int .u8 ((orB l[j] m[j]).toNat : Int))] = (eitherTo l m (j + 1)).map bytK := by
  rw [← eitherTo_set h hj, List.map_set]
  rfl

def eitherOk (x y : SetD) : Bool := setOk x.N x.Bits && setOk y.N y.Bits && (x.N == y.N)
def eitherR (x y : SetD) : SetD := if eitherOk x y then ⟨x.N, eitherL x.Bits y.Bits⟩ else ⟨0, []⟩

theorem setAll_take (l : List UInt8) (vs : List Int) (k : Nat) (h : k < vs.length) : setAll l (vs.take (k + 1)) = setBit (setAll l (vs.take k)) vs[k].toNat := by
  unfold setAll
  rw [List.take_succ_eq_append_getElem h, List.foldl_append]
  rfl


set_option maxHeartbeats 8000000 in
theorem implEither_k (x y : SetD) (hx : (x.Bits).length ≤ 1048576) (hy : (y.Bits).length ≤ 1048576) : FnOK Try.prog 24 ⟨2, [(0, some (.ro ((x.Bits).map bytK))), (1, some (.ro ((y.Bits).map bytK)))], [.agg [.v (.int .i64 x.N), .sl 0 1 0 (x.Bits).length], .agg [.v (.int .i64 y.N), .sl 1 1 0 (y.Bits).length]], .tup [.inr [.v (.int .i64 (eitherR x y).N), .sl 2 1 0 ((eitherR x y).Bits).length], .inl (.v (.bool (eitherOk x y)))], [(2, some (.row 5 (((eitherR x y).Bits).map bytK)))], 3⟩ := by
  have s1 := implSetOk_k x.N x.Bits hx
  have s2 := implSetOk_k y.N y.Bits hy
  cases ho : eitherOk x y with
  | false =>
    have e : eitherR x y = ⟨0, []⟩ := by unfold eitherR; rw [ho]; rfl
    rw [e]
    unfold eitherOk at ho
    obtain ⟨v1, e1⟩ : ∃ v, v = setOk x.N x.Bits := ⟨_, rfl⟩
    obtain ⟨v2, e2⟩ : ∃ v, v = setOk y.N y.Bits := ⟨_, rfl⟩
    rw [← e1] at s1
    rw [← e2] at s2
    rw [← e1, ← e2] at ho
    have ho' : v1 = true → v2 = true → x.N = y.N → False := fun a b c => by rw [a, b, c] at ho; simp at ho
    refine fnOK_of true mixed Try.func24 rfl (by rfl) (by rfl) ?_
    have hres := congrArg Array.toList Try.results24
    simp only [Try.ntmps24, BGB, Nat.reduceAdd, Nat.reduceSub]
    repeat' (first | (with_reducible first | refine seq_k fun K hK hE hT => ?_ | refine block_k fun K hK hE hT => ?_ | refine region_k ?_ | refine lex_nil ?_ | fail) | ((with_reducible refine draw_k ?_ ?_); focus (first | rfl | kernel_rfl)) | ((with_reducible first | refine lex_move ?_ | refine lex_assign ?_); simp only [EVB, Nat.reduceEqDiff, reduceIte]) | (with_reducible first | refine lex_cons fun KS hKS => ?_ | refine lexd_cons fun KS hKS => ?_ | fail) | ((with_reducible refine call_go ?_); (first | (refine call_a (s1) rfl rfl ?_; simp only [ENB, Nat.reduceAdd, Nat.reduceSub, Nat.reduceMul, Nat.reduceLeDiff, Nat.reduceBEq, Nat.reduceBNe, Nat.reduceEqDiff, Nat.reduceLT, reduceIte, reduceCtorEq, Int.reduceToNat, tiAll, List.length_map]; simp only [MAB, Nat.reduceEqDiff, Nat.reduceAdd, reduceIte, reduceCtorEq]; refine ⟨rfl, ?_, ?_, ?_, rfl, ?_, ?_, ?_, ?_⟩; (iterate 6 (focus (first | rfl | (simp [CXB, map_take, List.length_map]; done) | (simp [CXB, List.length_map]; omega) | (dsimp only; omega)))); simp only [EFB, Nat.reduceSub, Nat.reduceAdd, Nat.reduceLT, reduceIte]) | (refine call_a (s2) rfl rfl ?_; simp only [ENB, Nat.reduceAdd, Nat.reduceSub, Nat.reduceMul, Nat.reduceLeDiff, Nat.reduceBEq, Nat.reduceBNe, Nat.reduceEqDiff, Nat.reduceLT, reduceIte, reduceCtorEq, Int.reduceToNat, tiAll, List.length_map]; simp only [MAB, Nat.reduceEqDiff, Nat.reduceAdd, reduceIte, reduceCtorEq]; refine ⟨rfl, ?_, ?_, ?_, rfl, ?_, ?_, ?_, ?_⟩; (iterate 6 (focus (first | rfl | (simp [CXB, map_take, List.length_map]; done) | (simp [CXB, List.length_map]; omega) | (dsimp only; omega)))); simp only [EFB, Nat.reduceSub, Nat.reduceAdd, Nat.reduceLT, reduceIte]) | fail)) | ((with_reducible refine step_go ?_); (fail_if_success with_reducible refine call_go ?_); simp only [ENB, Nat.reduceAdd, Nat.reduceSub, Nat.reduceMul, Nat.reduceLeDiff, Nat.reduceBEq, Nat.reduceBNe, Nat.reduceEqDiff, Nat.reduceLT, reduceIte, reduceCtorEq, Int.reduceToNat, tiAll, List.length_map]) | ((with_reducible refine lexd_nil ?_ ?_); focus (first | kernel_rfl | with_unfolding_all rfl)) | ((with_reducible refine guard_go ?_); refine lex_gone rfl rfl ?_; simp only [EVB, Nat.reduceEqDiff, reduceIte]) | ((first | ((with_reducible refine guard_go ?_); refine lex_guard rfl rfl (fun hg KS hKS => ?_) (fun hg => ?_)) | ((with_reducible refine guardd_go ?_); refine lexd_guard rfl rfl (fun hg KS hKS => ?_) (fun hg => ?_)) | ((with_reducible refine cond_go ?_); refine cond_k rfl (fun hg => ?_) (fun hg => ?_)) | (with_reducible refine And.intro (fun hg => ?_) (fun hg => ?_)) | fail) <;> first | (exact absurd hg (by decide)) | ((try simp only [CNL] at hg) <;> first | (exfalso; omega) | (exact (tf (by assumption) hg).elim) | (exact (tf hg (by assumption)).elim) | ((try with_reducible (have hT0 : True := hg; clear hT0 hg)); first | (with_reducible refine wpc_go ?_) | (try simp only [EVB, Nat.reduceEqDiff, reduceIte])))) | ((with_reducible refine hKS _ _ _ _ ?_); clear hKS; clear KS; simp only [EVB, Nat.reduceEqDiff, reduceIte]) | ((with_reducible refine And.intro ?_ ?_); focus (first | omega | exact u8_le _ | exact flat_intK _ | exact flat_bytK _ | (fail) | decide | (simp only [List.length_map]; done))) | ((with_reducible refine ex_p ?_ (fun hh => ?_)); focus (first | omega | (simp only [List.length_map]; omega))) | (with_reducible first | refine skip_k ?_ | refine exit_k ?_ | refine ret_k ?_ | fail) | ((with_reducible refine hK _ _ _ ?_); clear hK hE hT; clear K) | ((with_reducible first | refine hE _ _ _ _ ?_ | refine hT _ _ _ ?_ | fail); (first | (clear hK hE hT; clear K) | (clear hR hE hT; clear K) | skip); try simp only [Nat.reduceEqDiff, IFB, reduceIte]) | ((with_reducible apply_assumption -symm -exfalso); try simp only [Nat.reduceEqDiff, IFB, reduceIte]) | fail)
    all_goals first
      | (exact (ho' (by assumption) (by assumption) (by assumption)).elim)
      | skip
    all_goals (refine post_a hres (.inl rfl) ?_; simp only [RSB, ENB, Nat.reduceAdd, Nat.reduceSub, Nat.reduceMul, Nat.reduceLeDiff, Nat.reduceBEq, Nat.reduceBNe, Nat.reduceEqDiff, Nat.reduceLT, reduceIte, reduceCtorEq, Int.reduceToNat, tiAll, true_and]; simp only [MAB, Nat.reduceEqDiff, Nat.reduceAdd, reduceIte, reduceCtorEq]; refine ⟨rfl, rfl, ?_, ?_, ?_⟩ <;> (first | rfl | (simp [WKB, Nat.add_comm, true_and]; done) | (simp only [WKB, Nat.reduceEqDiff, reduceIte])))
  | true =>
    have e : eitherR x y = ⟨x.N, eitherL x.Bits y.Bits⟩ := by unfold eitherR; rw [ho]; rfl
    rw [e]
    unfold eitherOk at ho
    simp only [Bool.and_eq_true, beq_iff_eq] at ho
    obtain ⟨⟨o1, o2⟩, o3⟩ := ho
    obtain ⟨n, l⟩ := x
    obtain ⟨n', m⟩ := y
    dsimp only at *
    subst o3
    rw [o1] at s1
    rw [o2] at s2
    obtain ⟨h1, h2, h3, h4⟩ := setOk_len o1
    obtain ⟨_, _, h5, h6⟩ := setOk_len o2
    have hlm : l.length = m.length := by omega
    have hel : (eitherL l m).length = l.length := by simp [eitherL]; omega
    obtain ⟨q, rfl⟩ := Int.eq_ofNat_of_zero_le h1
    simp only [Int.toNat_natCast] at h3 h5
    have hx_none := hx
    skip
    refine fnOK_of true mixed Try.func24 rfl (by rfl) (by rfl) ?_
    have hres := congrArg Array.toList Try.results24
    simp only [Try.ntmps24, BGB, Nat.reduceAdd, Nat.reduceSub]
    repeat' (first | (with_reducible first | refine seq_k fun K hK hE hT => ?_ | refine block_k fun K hK hE hT => ?_ | refine region_k ?_ | refine lex_nil ?_ | fail) | ((with_reducible refine draw_k ?_ ?_); focus (first | rfl | kernel_rfl)) | ((with_reducible first | refine lex_move ?_ | refine lex_assign ?_); simp only [EVB, Nat.reduceEqDiff, reduceIte]) | (with_reducible first | refine lex_cons fun KS hKS => ?_ | refine lexd_cons fun KS hKS => ?_ | fail) | ((with_reducible refine call_go ?_); (first | ((first | refine call_a (copySet_k ⟨(q : Int), l⟩ hx) rfl rfl ?_ | refine call_a (hx_none) rfl rfl ?_ | fail); simp only [ENB, Nat.reduceAdd, Nat.reduceSub, Nat.reduceMul, Nat.reduceLeDiff, Nat.reduceBEq, Nat.reduceBNe, Nat.reduceEqDiff, Nat.reduceLT, reduceIte, reduceCtorEq, Int.reduceToNat, tiAll, List.length_map]; simp only [MAB, Nat.reduceEqDiff, Nat.reduceAdd, reduceIte, reduceCtorEq]; refine ⟨rfl, ?_, ?_, ?_, rfl, ?_, ?_, ?_, ?_⟩; (iterate 6 (focus (first | rfl | (simp [CXB, map_take, List.length_map]; done) | (simp [CXB, List.length_map]; omega) | (dsimp only; omega)))); simp only [EFB, Nat.reduceSub, Nat.reduceAdd, Nat.reduceLT, reduceIte]) | (refine call_a (s1) rfl rfl ?_; simp only [ENB, Nat.reduceAdd, Nat.reduceSub, Nat.reduceMul, Nat.reduceLeDiff, Nat.reduceBEq, Nat.reduceBNe, Nat.reduceEqDiff, Nat.reduceLT, reduceIte, reduceCtorEq, Int.reduceToNat, tiAll, List.length_map]; simp only [MAB, Nat.reduceEqDiff, Nat.reduceAdd, reduceIte, reduceCtorEq]; refine ⟨rfl, ?_, ?_, ?_, rfl, ?_, ?_, ?_, ?_⟩; (iterate 6 (focus (first | rfl | (simp [CXB, map_take, List.length_map]; done) | (simp [CXB, List.length_map]; omega) | (dsimp only; omega)))); simp only [EFB, Nat.reduceSub, Nat.reduceAdd, Nat.reduceLT, reduceIte]) | (refine call_a (s2) rfl rfl ?_; simp only [ENB, Nat.reduceAdd, Nat.reduceSub, Nat.reduceMul, Nat.reduceLeDiff, Nat.reduceBEq, Nat.reduceBNe, Nat.reduceEqDiff, Nat.reduceLT, reduceIte, reduceCtorEq, Int.reduceToNat, tiAll, List.length_map]; simp only [MAB, Nat.reduceEqDiff, Nat.reduceAdd, reduceIte, reduceCtorEq]; refine ⟨rfl, ?_, ?_, ?_, rfl, ?_, ?_, ?_, ?_⟩; (iterate 6 (focus (first | rfl | (simp [CXB, map_take, List.length_map]; done) | (simp [CXB, List.length_map]; omega) | (dsimp only; omega)))); simp only [EFB, Nat.reduceSub, Nat.reduceAdd, Nat.reduceLT, reduceIte]) | fail)) | ((with_reducible refine step_go ?_); (fail_if_success with_reducible refine call_go ?_); simp only [ENB, Nat.reduceAdd, Nat.reduceSub, Nat.reduceMul, Nat.reduceLeDiff, Nat.reduceBEq, Nat.reduceBNe, Nat.reduceEqDiff, Nat.reduceLT, reduceIte, reduceCtorEq, Int.reduceToNat, tiAll, List.length_map]) | ((with_reducible refine lexd_nil ?_ ?_); focus (first | kernel_rfl | with_unfolding_all rfl)) | ((with_reducible refine guard_go ?_); refine lex_gone rfl rfl ?_; simp only [EVB, Nat.reduceEqDiff, reduceIte]) | ((first | ((with_reducible refine guard_go ?_); refine lex_guard rfl rfl (fun hg KS hKS => ?_) (fun hg => ?_)) | ((with_reducible refine guardd_go ?_); refine lexd_guard rfl rfl (fun hg KS hKS => ?_) (fun hg => ?_)) | ((with_reducible refine cond_go ?_); refine cond_k rfl (fun hg => ?_) (fun hg => ?_)) | (with_reducible refine And.intro (fun hg => ?_) (fun hg => ?_)) | fail) <;> first | (exact absurd hg (by decide)) | ((try simp only [CNL] at hg) <;> first | (exfalso; omega) | (exact (tf (by assumption) hg).elim) | (exact (tf hg (by assumption)).elim) | ((try with_reducible (have hT0 : True := hg; clear hT0 hg)); first | (with_reducible refine wpc_go ?_) | (try simp only [EVB, Nat.reduceEqDiff, reduceIte])))) | ((with_reducible refine hKS _ _ _ _ ?_); clear hKS; clear KS; simp only [EVB, Nat.reduceEqDiff, reduceIte]) | ((with_reducible refine And.intro ?_ ?_); focus (first | omega | exact u8_le _ | exact flat_intK _ | exact flat_bytK _ | (fail) | decide | (simp only [List.length_map]; done))) | ((with_reducible refine ex_p ?_ (fun hh => ?_)); focus (first | omega | (simp only [List.length_map]; omega))) | (with_reducible first | refine skip_k ?_ | refine exit_k ?_ | refine ret_k ?_ | fail) | ((with_reducible refine hK _ _ _ ?_); clear hK hE hT; clear K) | ((with_reducible first | refine hE _ _ _ _ ?_ | refine hT _ _ _ ?_ | fail); (first | (clear hK hE hT; clear K) | (clear hR hE hT; clear K) | skip); try simp only [Nat.reduceEqDiff, IFB, reduceIte]) | ((with_reducible apply_assumption -symm -exfalso); try simp only [Nat.reduceEqDiff, IFB, reduceIte]) | fail)
    refine loop_v (X := {k : Nat // k ≤ m.length}) [] (fun x => [(30, .c (.v (.int .i64 ((x.1 : Nat) : Int))))]) (fun x => [(0, some (.ro (l.map bytK))), (1, some (.ro (m.map bytK))), (2, some (.box 35 [.v (.int .i64 (q : Int)), .sl 0 1 0 l.length])), (3, some (.box 35 [.v (.int .i64 (q : Int)), .sl 1 1 0 m.length])), (4, some (.box 35 [.v (.int .i64 0), .nil])), (6, some (.box 35 [.v (.int .i64 (q : Int)), .sl 5 1 0 l.length])), (5, some (.row 5 ((eitherTo l m x.1).map bytK)))]) 7 (fun x => m.length - x.1) ⟨0, by omega⟩ ?_
    simp only [KPB, Nat.reduceBEq, Nat.reduceBNe, Nat.reduceAdd, reduceIte]
    refine ⟨?_, ?_⟩
    · (refine wk_a ?_; simp only [MAB, Nat.reduceEqDiff, Nat.reduceAdd, reduceIte, reduceCtorEq]; refine ⟨rfl, rfl, (by decide), ?_, ?_⟩; all_goals (first | (simp only [WKB, Nat.reduceEqDiff, reduceIte, eitherTo_zero, Nat.reduceLT, Nat.zero_lt_succ]; done) | (simp [WKB, Nat.reduceEqDiff, reduceIte, eitherTo_zero]; done) | simp only [WKB, Nat.reduceEqDiff, reduceIte]))
    · rintro ⟨k, hk⟩ K hR hE hT
      rcases Nat.lt_or_ge k (m.length) with hlt | hge
      case inr =>
        repeat' (first | (with_reducible first | refine seq_k fun K hK hE hT => ?_ | refine block_k fun K hK hE hT => ?_ | refine region_k ?_ | refine lex_nil ?_ | fail) | ((with_reducible refine draw_k ?_ ?_); focus (first | rfl | kernel_rfl)) | ((with_reducible first | refine lex_move ?_ | refine lex_assign ?_); simp only [EVB, Nat.reduceEqDiff, reduceIte]) | (with_reducible first | refine lex_cons fun KS hKS => ?_ | refine lexd_cons fun KS hKS => ?_ | fail) | ((with_reducible refine call_go ?_); fail) | ((with_reducible refine step_go ?_); (fail_if_success with_reducible refine call_go ?_); simp only [ENB, Nat.reduceAdd, Nat.reduceSub, Nat.reduceMul, Nat.reduceLeDiff, Nat.reduceBEq, Nat.reduceBNe, Nat.reduceEqDiff, Nat.reduceLT, reduceIte, reduceCtorEq, Int.reduceToNat, tiAll, List.length_map]) | ((with_reducible refine lexd_nil ?_ ?_); focus (first | kernel_rfl | with_unfolding_all rfl)) | ((with_reducible refine guard_go ?_); refine lex_gone rfl rfl ?_; simp only [EVB, Nat.reduceEqDiff, reduceIte]) | ((first | ((with_reducible refine guard_go ?_); refine lex_guard rfl rfl (fun hg KS hKS => ?_) (fun hg => ?_)) | ((with_reducible refine guardd_go ?_); refine lexd_guard rfl rfl (fun hg KS hKS => ?_) (fun hg => ?_)) | ((with_reducible refine cond_go ?_); refine cond_k rfl (fun hg => ?_) (fun hg => ?_)) | (with_reducible refine And.intro (fun hg => ?_) (fun hg => ?_)) | fail) <;> first | (exact absurd hg (by decide)) | ((try simp only [CNL] at hg) <;> first | (exfalso; omega) | (exact (tf (by assumption) hg).elim) | (exact (tf hg (by assumption)).elim) | ((try with_reducible (have hT0 : True := hg; clear hT0 hg)); first | (with_reducible refine wpc_go ?_) | (try simp only [EVB, Nat.reduceEqDiff, reduceIte])))) | ((with_reducible refine hKS _ _ _ _ ?_); clear hKS; clear KS; simp only [EVB, Nat.reduceEqDiff, reduceIte]) | ((with_reducible refine And.intro ?_ ?_); focus (first | omega | exact u8_le _ | exact flat_intK _ | exact flat_bytK _ | (fail) | decide | (simp only [List.length_map]; done))) | ((with_reducible refine ex_p ?_ (fun hh => ?_)); focus (first | omega | (simp only [List.length_map]; omega))) | (with_reducible first | refine skip_k ?_ | refine exit_k ?_ | refine ret_k ?_ | fail) | ((with_reducible refine hK _ _ _ ?_); clear hK hE hT; clear K) | ((with_reducible first | refine hE _ _ _ _ ?_ | refine hT _ _ _ ?_ | fail); (first | (clear hK hE hT; clear K) | (clear hR hE hT; clear K) | skip); try simp only [Nat.reduceEqDiff, IFB, reduceIte]) | ((with_reducible apply_assumption -symm -exfalso); try simp only [Nat.reduceEqDiff, IFB, reduceIte]) | fail)
        obtain rfl : k = m.length := by omega
        (refine post_a hres (.inl rfl) ?_; simp only [RSB, ENB, Nat.reduceAdd, Nat.reduceSub, Nat.reduceMul, Nat.reduceLeDiff, Nat.reduceBEq, Nat.reduceBNe, Nat.reduceEqDiff, Nat.reduceLT, reduceIte, reduceCtorEq, Int.reduceToNat, tiAll, hel, eitherTo_end hlm]; simp only [MAB, Nat.reduceEqDiff, Nat.reduceAdd, reduceIte, reduceCtorEq]; refine ⟨rfl, rfl, ?_, ?_, ?_⟩ <;> (first | rfl | (simp [WKB, Nat.add_comm, hel, eitherTo_end hlm]; done) | (simp only [WKB, Nat.reduceEqDiff, reduceIte])))
      case inl =>
        have e2 := either_row hlm hlt
        have e3 := eitherTo_len hlm k
        have e4 := eitherTo_get hlm hlt (by omega)
        have e5 := or_u8 (l[k]'(by omega)) m[k]
        repeat' (first | (with_reducible first | refine seq_k fun K hK hE hT => ?_ | refine block_k fun K hK hE hT => ?_ | refine region_k ?_ | refine lex_nil ?_ | fail) | ((with_reducible refine draw_k ?_ ?_); focus (first | rfl | kernel_rfl)) | ((with_reducible first | refine lex_move ?_ | refine lex_assign ?_); simp only [EVB, Nat.reduceEqDiff, reduceIte]) | (with_reducible first | refine lex_cons fun KS hKS => ?_ | refine lexd_cons fun KS hKS => ?_ | fail) | ((with_reducible refine call_go ?_); fail) | ((with_reducible refine step_go ?_); (fail_if_success with_reducible refine call_go ?_); simp only [ENB, Nat.reduceAdd, Nat.reduceSub, Nat.reduceMul, Nat.reduceLeDiff, Nat.reduceBEq, Nat.reduceBNe, Nat.reduceEqDiff, Nat.reduceLT, reduceIte, reduceCtorEq, Int.reduceToNat, tiAll, List.length_map, List.getElem_map, bytK, intK, e3, e4, e5, e2]) | ((with_reducible refine lexd_nil ?_ ?_); focus (first | kernel_rfl | with_unfolding_all rfl)) | ((with_reducible refine guard_go ?_); refine lex_gone rfl rfl ?_; simp only [EVB, Nat.reduceEqDiff, reduceIte]) | ((first | ((with_reducible refine guard_go ?_); refine lex_guard rfl rfl (fun hg KS hKS => ?_) (fun hg => ?_)) | ((with_reducible refine guardd_go ?_); refine lexd_guard rfl rfl (fun hg KS hKS => ?_) (fun hg => ?_)) | ((with_reducible refine cond_go ?_); refine cond_k rfl (fun hg => ?_) (fun hg => ?_)) | (with_reducible refine And.intro (fun hg => ?_) (fun hg => ?_)) | fail) <;> first | (exact absurd hg (by decide)) | ((try simp only [CNL] at hg) <;> first | (exfalso; omega) | (exact (tf (by assumption) hg).elim) | (exact (tf hg (by assumption)).elim) | ((try with_reducible (have hT0 : True := hg; clear hT0 hg)); first | (with_reducible refine wpc_go ?_) | (try simp only [EVB, Nat.reduceEqDiff, reduceIte])))) | ((with_reducible refine hKS _ _ _ _ ?_); clear hKS; clear KS; simp only [EVB, Nat.reduceEqDiff, reduceIte]) | ((with_reducible refine And.intro ?_ ?_); focus (first | omega | exact u8_le _ | exact flat_intK _ | exact flat_bytK _ | (fail) | decide | (simp only [List.length_map, List.getElem_map, bytK, intK, e3, e4, e5, e2]; done))) | ((with_reducible refine ex_p ?_ (fun hh => ?_)); focus (first | omega | (simp only [List.length_map, List.getElem_map, bytK, intK, e3, e4, e5, e2]; omega))) | (with_reducible first | refine skip_k ?_ | refine exit_k ?_ | refine ret_k ?_ | fail) | ((with_reducible refine hK _ _ _ ?_); clear hK hE hT; clear K) | ((with_reducible first | refine hE _ _ _ _ ?_ | refine hT _ _ _ ?_ | fail); (first | (clear hK hE hT; clear K) | (clear hR hE hT; clear K) | skip); try simp only [Nat.reduceEqDiff, IFB, reduceIte]) | ((with_reducible apply_assumption -symm -exfalso); try simp only [Nat.reduceEqDiff, IFB, reduceIte]) | fail)
        (refine hR.out ⟨k + 1, by omega⟩ _ _ _ (by simp only; omega) ?_; (refine wk_a ?_; simp only [MAB, Nat.reduceEqDiff, Nat.reduceAdd, reduceIte, reduceCtorEq]; refine ⟨rfl, rfl, (by decide), ?_, ?_⟩; all_goals (first | (simp only [WKB, Nat.reduceEqDiff, reduceIte, e3, e4, e5, e2, Nat.reduceLT, Nat.zero_lt_succ]; done) | (simp [WKB, Nat.reduceEqDiff, reduceIte, e3, e4, e5, e2]; done) | simp only [WKB, Nat.reduceEqDiff, reduceIte])))

theorem setAll_nil (l : List UInt8) : setAll l [] = l := rfl

end Go.Proofs.Ytageceacjmmmdaa
