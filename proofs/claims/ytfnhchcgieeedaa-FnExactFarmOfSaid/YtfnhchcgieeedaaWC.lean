/-
  A row seen as a shorter one; the front of a list. No conditions of its own.
-/
import Derived.Test.YtfnhchcgieeedaaS1
namespace Go.Proofs.Ytfnhchcgieeedaa
set_option linter.unusedSimpArgs false
set_option linter.unusedVariables false
set_option linter.unusedSimpArgs false
set_option linter.unusedVariables false
set_option linter.defProp false
open Go.RowKit

/-- A row of which only the first elements are looked at from now on. -/
theorem wk_cut {n0 : Nat} {sl : List SV} {H : Heap} {nx g T : Nat} {es : List (List DC)} (n : Nat) (hg : hget H g = some (.row T es)) : Wk n0 (sl, H, nx) (sl, hput H g (some (.row T (es.take n))), nx) := by
  rintro X a w _ ⟨V, ρ, hV, hn0, hst⟩
  obtain ⟨hVg, hrow, hsg⟩ := hst.mem.dom g _ hg
  have hro : Holds V ρ w (ρ g) (.row T (es.take n)) := by
    obtain ⟨h0, h1, h2, h3, h4, h5, h6⟩ := hrow
    have hle : (es.take n).length ≤ es.length := by rw [List.length_take]; omega
    refine ⟨h0, h1, by omega, fun e he => h3 e (List.mem_of_mem_take he), fun e he => h4 e (List.mem_of_mem_take he), h5, fun b hb => ?_⟩
    obtain ⟨h7, cur, h8, h9, h10⟩ := h6 b hb
    refine ⟨h7, cur, h8, h9, ?_⟩
    have e1 : flatE es = flatE (es.take n) ++ flatE (es.drop n) := by
      unfold flatE
      rw [← List.flatMap_append, List.take_append_drop]
    have e2 : (flatE (es.take n)).length = (es.take n).length * (ρ g).sz := flatE_len fun e he => h3 e (List.mem_of_mem_take he)
    have e3 := congrArg (List.take ((es.take n).length * (ρ g).sz)) h10
    rw [List.take_take, Nat.min_eq_left (Nat.mul_le_mul_right _ hle), e1, List.take_left' e2] at e3
    exact e3
  have hH : ∀ k, hget (hput H g (some (.row T (es.take n)))) k = if k = g then some (.row T (es.take n)) else hget H k := hget_hput H g _
  refine ⟨V, ρ, hV, hn0, ⟨hst.slots, hst.defers, ⟨fun k blk hb => ?_, fun k k' blk blk' hkk hb hb' b hF hF' => ?_⟩, fun k blk hb b hF => ?_, fun k blk hb b hF => ?_, hst.os, hst.tape, hst.output, hst.size, hst.block, hst.le⟩⟩
  · rw [hH] at hb
    split at hb
    · rename_i e; subst e; cases hb
      exact ⟨hVg, hro, hsg⟩
    · exact hst.mem.dom k blk hb
  · rw [hH] at hb hb'
    split at hb
    · rename_i e; subst e; cases hb
      split at hb'
      · rename_i e'; exact absurd e'.symm hkk
      · exact hst.mem.sep k k' (.row T es) _ hkk hg hb' b hF hF'
    · split at hb'
      · rename_i e; subst e
        exact hst.mem.sep k k' _ _ hkk hb hg b hF hF'
      · exact hst.mem.sep k k' _ _ hkk hb hb' b hF hF'
  · rw [hH] at hb
    split at hb
    · rename_i e; subst e; cases hb
      exact hst.base k (.row T es) hg b hF
    · exact hst.base k blk hb b hF
  · rw [hH] at hb
    split at hb
    · rename_i e; subst e
      exact hst.foot k _ hg b hF
    · exact hst.foot k blk hb b hF

theorem tw_lt {α : Type} {p : α → Bool} : ∀ {l : List α} {j : Nat}, j < (l.takeWhile p).length → ∃ h : j < l.length, p l[j] = true
  | [], j, h => by simp at h
  | x :: l, j, h => by
    rw [List.takeWhile_cons] at h
    split at h
    · rename_i hp
      cases j with
      | zero => exact ⟨by simp, hp⟩
      | succ j =>
        obtain ⟨q1, q2⟩ := tw_lt (l := l) (j := j) (by simpa using h)
        exact ⟨by simpa using q1, q2⟩
    · simp at h
theorem tw_end {α : Type} {p : α → Bool} : ∀ {l : List α} (h : (l.takeWhile p).length < l.length), p l[(l.takeWhile p).length] = false
  | [], h => by simp at h
  | x :: l, h => by
    by_cases hp : p x = true
    · have e : ((x :: l).takeWhile p).length = (l.takeWhile p).length + 1 := by rw [List.takeWhile_cons, if_pos hp]; rfl
      simp only [e] at h ⊢
      exact tw_end (l := l) (by simpa using h)
    · have e : ((x :: l).takeWhile p).length = 0 := by rw [List.takeWhile_cons, if_neg hp]; rfl
      simp only [e, List.getElem_cons_zero]
      simpa using hp

theorem lit0 {K : IntKind} {P : Nat → Prop} : (∃ x : Nat, (∃ k, SV.c (CV.v (Value.int K 0)) = SV.c (CV.v (Value.int k (x : Int)))) ∧ P x) ↔ P 0 := by
  constructor
  · rintro ⟨x, ⟨k, h⟩, hp⟩
    have : (0 : Int) = (x : Int) := by injection h with h; injection h with h; injection h
    obtain rfl : x = 0 := by omega
    exact hp
  · intro h; exact ⟨0, ⟨K, rfl⟩, h⟩
theorem litI {K : IntKind} {m : Nat} {P : Nat → Prop} : (∃ x : Nat, (∃ k, SV.c (CV.v (Value.int K (OfNat.ofNat m))) = SV.c (CV.v (Value.int k (x : Int)))) ∧ P x) ↔ P (OfNat.ofNat m) := by
  constructor
  · rintro ⟨x, ⟨k, h⟩, hp⟩
    have h2 : ((m : Nat) : Int) = (x : Int) := by injection h with h; injection h with h; injection h
    obtain rfl : x = m := by omega
    exact hp
  · intro h; exact ⟨m, ⟨K, rfl⟩, h⟩
theorem litN {K : IntKind} {m : Nat} {P : Nat → Prop} : (∃ x : Nat, (∃ k, SV.c (CV.v (Value.int K (m : Int))) = SV.c (CV.v (Value.int k (x : Int)))) ∧ P x) ↔ P m := by
  constructor
  · rintro ⟨x, ⟨k, h⟩, hp⟩
    have h2 : ((m : Nat) : Int) = (x : Int) := by injection h with h; injection h with h; injection h
    obtain rfl : x = m := by omega
    exact hp
  · intro h; exact ⟨m, ⟨K, rfl⟩, h⟩

end Go.Proofs.Ytfnhchcgieeedaa
