/-
  Contracts: the reference's batches and merging. No conditions of its own.
-/
import Derived.Test.YtcbnfkbnbdbfoaaGO
import Derived.Test.YtcbnfkbnbdbfoaaCT4
namespace Go.Proofs.Ytcbnfkbnbdbfoaa
set_option linter.unusedSimpArgs false
set_option linter.unusedVariables false
set_option linter.unusedSimpArgs false
set_option linter.unusedVariables false
set_option linter.defProp false
set_option maxRecDepth 20000
open Go.RowKit
attribute [local irreducible] lexD

def batK (T : Nat) (b : List RecD) : List DC := [.sl T 3 (b.map RecD.k)]
def natK (n : Nat) : List DC := [.v (.int .i64 (n : Int))]
theorem pcN_last {m size k : Nat} (h : 0 < size) (hk : k * size < m) (hm : m ≤ (k + 1) * size) : pcN m size = k + 1 := by
  unfold pcN
  rw [Nat.succ_mul] at hm
  have e : m + size - 1 = (m - 1 - k * size) + size * (k + 1) := by
    have : size * (k + 1) = k * size + size := by rw [Nat.mul_succ, Nat.mul_comm]
    omega
  rw [e, Nat.add_mul_div_left _ _ h, Nat.div_eq_of_lt (by omega)]
  omega
theorem pcN_more {m size k : Nat} (h : 0 < size) (hm : (k + 1) * size < m) : k + 1 < pcN m size := by
  have h1 := (pcN_cov (m := m) h).1
  rcases Nat.lt_or_ge (k + 1) (pcN m size) with q | q
  · exact q
  · have := Nat.mul_le_mul_right size q
    omega
theorem pcN_in {m size k : Nat} (h : 0 < size) (hk : k * size < m) : k < pcN m size := by
  have h1 := (pcN_cov (m := m) h).1
  rcases Nat.lt_or_ge k (pcN m size) with q | q
  · exact q
  · have := Nat.mul_le_mul_right size q
    omega
theorem pcN_le {m size : Nat} (h : 0 < size) : pcN m size ≤ m := by
  rcases Nat.eq_zero_or_pos (pcN m size) with q | q
  · omega
  · have h1 := (pcN_cov (m := m) h).2 (pcN m size - 1) (by omega)
    have h2 : pcN m size - 1 ≤ (pcN m size - 1) * size := Nat.le_mul_of_pos_right _ h
    omega

set_option maxHeartbeats 8000000 in
theorem specBatches_k (l : List RecD) (sz : Nat) (h : 0 < sz) (hsz : sz ≤ 9223372036854775807) (hl : l.length ≤ 1048576) : FnOK Try.prog 133 ⟨1, [(0, some (.ro (l.map RecD.k)))], [.c (.sl 0 3 0 l.length), .c (.v (.int .i64 (sz : Int)))], .c (.sl 1 1 0 (pcN l.length sz)), [(1, some (.nst 201 ((cutR l sz (pcN l.length sz)).map (batK 137)) none))], 2⟩ := by
  have hcl := cutR_len l sz
  refine fnOK_of true mixed Try.func133 rfl (by rfl) (by rfl) ?_
  have hres := congrArg Array.toList Try.results133
  simp only [Try.ntmps133, BGB, seval]
  (have gx := @List.length_map.{0,0}; refine go ?_; (repeat' (first | exact Ef.mk | refine Lf.mk ?_ ?_ | refine fun (K : KT) hK hE hT => ?_ | refine fun (KS : Eff → Prop) hKS => ?_ | refine fun (D : List Keys → Prop) hD => ?_ | refine fun (hg : (_ : Prop)) => ?_ | fail)); all_goals (first | (refine Wr.mk ?_; (try clear gx); repeat (first | (clear hK hE hT; clear K) | (clear hR hE hT; clear K))) | assumption | skip))
  refine loop_v (X := {k : Nat // k ≤ l.length ∧ (k * sz ≤ l.length ∧ (k * sz < l.length ∨ k = 0))}) [8] (fun x => [(5, .c (.sl 1 1 0 x.1)), (6, .c (.v (.int .i64 ((x.1 * sz : Nat) : Int))))]) (fun x => [(0, some (.ro (l.map RecD.k))), (1, some (.nst 201 ((cutR l sz x.1).map (batK 137)) none))]) 2 (fun x => l.length - x.1) ⟨0, by omega, by omega, .inr rfl⟩ ?_
  simp only [KPB, seval]
  refine ⟨?_, ?_⟩
  · (refine wk_a ?_; simp only [MAB, seval]; refine ⟨rfl, rfl, (by decide), ?_, ?_⟩; all_goals (first | (simp only [WKB, seval, cutR, List.map_nil, Nat.zero_mul, Nat.reduceLT, Nat.zero_lt_succ]; done) | (simp [WKB, seval, cutR, List.map_nil, Nat.zero_mul]; done) | simp only [WKB, seval]))
  · rintro ⟨k, hk, hk2, hk3⟩ K hR hE hT
    have lck := hcl k
    rcases Nat.lt_or_ge (k * sz) l.length with hlt | hge
    case inr =>
      have e0 : k = 0 := by omega
      have e1 : pcN l.length sz = k := by
        have := pcN_le (m := l.length) h
        subst e0; omega
      obtain ⟨fr, hfr⟩ : ∃ fr, fr = k * sz := ⟨_, rfl⟩
      simp only [← hfr] at hge hk2 ⊢
      (have gx := @List.length_map.{0,0}; refine go ?_; (repeat' (first | exact Ef.mk | refine Lf.mk ?_ ?_ | refine fun (K : KT) hK hE hT => ?_ | refine fun (KS : Eff → Prop) hKS => ?_ | refine fun (D : List Keys → Prop) hD => ?_ | refine fun (hg : (_ : Prop)) => ?_ | fail)); all_goals (first | (refine Wr.mk ?_; (try clear gx); repeat (first | (clear hK hE hT; clear K) | (clear hR hE hT; clear K))) | assumption | skip))
      (refine post_a hres (.inl rfl) ?_; simp only [RSB, ENB, seval, tiAll, e1]; simp only [MAB, seval]; refine ⟨rfl, rfl, ?_, ?_, ?_⟩ <;> (first | rfl | (simp [WKB, Nat.add_comm, e1]; done) | (simp only [WKB, seval])))
    case inl =>
      have hcs : cutR l sz (k + 1) = cutR l sz k ++ [srtR ((l.drop (k * sz)).take sz)] := rfl
      obtain ⟨C, hC⟩ : ∃ C, C = (l.drop (k * sz)).take sz := ⟨_, rfl⟩
      have hm := Nat.succ_mul k sz
      have hkl : k < l.length := by
        have : k ≤ k * sz := Nat.le_mul_of_pos_right _ h
        omega
      have hpm := pcN_more (m := l.length) (k := k) h
      have hpl := pcN_last h hlt
      rw [Nat.succ_eq_add_one] at hm
      rw [← hC] at hcs
      obtain ⟨D, hD⟩ : ∃ D, D = cutR l sz k := ⟨_, rfl⟩
      rw [← hD] at hcs lck ⊢
      obtain ⟨P, hP⟩ : ∃ P, P = pcN l.length sz := ⟨_, rfl⟩
      rw [← hP] at hpm hpl
      have lC : C.length = min sz (l.length - k * sz) := by rw [hC, List.length_take, List.length_drop]
      have cs := specSortOne_k C (by omega)
      have lS := srtR_len C
      obtain ⟨S, hS⟩ : ∃ S, S = srtR C := ⟨_, rfl⟩
      rw [← hS] at cs lS hcs
      have hCm : C.map RecD.k = ((l.map RecD.k).drop (k * sz)).take sz := by rw [hC, List.map_take, List.map_drop]
      obtain ⟨fr, hfr⟩ : ∃ fr, fr = k * sz := ⟨_, rfl⟩
      simp only [← hfr] at hlt hk2 hm lC hCm ⊢
      by_cases hse : sz < l.length - fr
      case pos =>
        have lC2 : C.length = sz := by omega
        rw [lC2, hCm] at cs
        have e1 : (fr : Int) + (sz : Int) = ((fr + sz : Nat) : Int) := by omega
        have e2 : fr + sz - fr = sz := by omega
        have e3 : (l.length : Int) - (fr : Int) = ((l.length - fr : Nat) : Int) := by omega
        rw [lC2] at lS
        (have gx := And.intro (@List.length_map.{0,0}) (And.intro (@litN) (And.intro (@e1) (And.intro @e2 @e3))); have q1 := cs; refine go ?_; (repeat' (first | exact Ef.mk | refine Lf.mk ?_ ?_ | refine fun (K : KT) hK hE hT => ?_ | refine fun (KS : Eff → Prop) hKS => ?_ | refine fun (D : List Keys → Prop) hD => ?_ | refine fun (hg : (_ : Prop)) => ?_ | fail)); all_goals (first | (refine Wr.mk ?_; (try clear gx); (try clear q1); repeat (first | (clear hK hE hT; clear K) | (clear hR hE hT; clear K))) | assumption | skip))
        refine hR.out ⟨k + 1, by omega, by omega, .inl (by omega)⟩ _ _ _ (by simp only; omega) ?_
        (refine wk_a ?_; simp only [MAB, seval]; refine ⟨rfl, rfl, (by decide), ?_, ?_⟩; all_goals (first | (simp only [WKB, seval, hcs, hm, batK, List.map_append, List.map_cons, List.map_nil, lS, Nat.reduceLT, Nat.zero_lt_succ]; done) | (simp [WKB, seval, hcs, hm, batK, List.map_append, List.map_cons, List.map_nil, lS]; done) | simp only [WKB, seval]))
      case neg =>
        have lC2 : C.length = l.length - fr := by omega
        have ePk : P = k + 1 := hpl (by omega)
        have hCm2 : C.map RecD.k = ((l.map RecD.k).drop fr).take (l.length - fr) := by
          rw [hCm, List.take_of_length_le (by rw [List.length_drop, List.length_map]; omega), List.take_of_length_le (by rw [List.length_drop, List.length_map]; omega)]
        rw [lC2, hCm2] at cs
        have e3 : (l.length : Int) - (fr : Int) = ((l.length - fr : Nat) : Int) := by omega
        rw [lC2] at lS
        (have gx := And.intro (@List.length_map.{0,0}) (And.intro @litN @e3); have q1 := cs; refine go ?_; (repeat' (first | exact Ef.mk | refine Lf.mk ?_ ?_ | refine fun (K : KT) hK hE hT => ?_ | refine fun (KS : Eff → Prop) hKS => ?_ | refine fun (D : List Keys → Prop) hD => ?_ | refine fun (hg : (_ : Prop)) => ?_ | fail)); all_goals (first | (refine Wr.mk ?_; (try clear gx); (try clear q1); repeat (first | (clear hK hE hT; clear K) | (clear hR hE hT; clear K))) | assumption | skip))
        (refine post_a hres (.inl rfl) ?_; simp only [RSB, ENB, seval, tiAll, ← hP, ePk, hcs, batK, List.map_append, List.map_cons, List.map_nil, lS]; simp only [MAB, seval]; refine ⟨rfl, rfl, ?_, ?_, ?_⟩ <;> (first | rfl | (simp [WKB, Nat.add_comm, ← hP, ePk, hcs, batK, List.map_append, List.map_cons, List.map_nil, lS]; done) | (simp only [WKB, seval])))

end Go.Proofs.Ytcbnfkbnbdbfoaa
