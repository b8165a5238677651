/-
  A map of files gone through in whatever order: plain, no conditions of its own.
-/
import Derived.Test.YtfnhchcgieeedaaDK2
namespace Go.Proofs.Ytfnhchcgieeedaa
set_option linter.unusedSimpArgs false
set_option linter.unusedVariables false
set_option linter.unusedSimpArgs false
set_option linter.unusedVariables false
set_option linter.defProp false
open Go.RowKit

theorem lkF_mem {M : List FileD} (h : srtF M) {f : FileD} (hf : f ∈ M) : lkF M f.Name = some f.Data := by
  induction M with
  | nil => cases hf
  | cons g M ih =>
    obtain ⟨h1, h2⟩ := List.pairwise_cons.1 h
    rw [lkF_cons]
    rcases List.mem_cons.1 hf with rfl | hf
    · rw [if_pos rfl]
    · rw [if_neg (bl_ne (h1 f hf)), ih h2 hf]
theorem perm_less {f : FileD} : ∀ {R : List FileD}, R.Pairwise (fun a b => a.Name ≠ b.Name) → f ∈ R → R.Perm (f :: lessF R f.Name)
  | g :: R, h, hf => by
    obtain ⟨h1, h2⟩ := List.pairwise_cons.1 h
    rcases List.mem_cons.1 hf with rfl | hf
    · have e : lessF (f :: R) f.Name = R := by
        unfold lessF
        rw [List.filter_cons, if_neg (by simp), List.filter_eq_self]
        intro a ha
        simpa using (h1 a ha).symm
      rw [e]
    · have e : lessF (g :: R) f.Name = g :: lessF R f.Name := by simp [lessF, h1 f hf]
      rw [e]
      exact ((perm_less h2 hf).cons g).trans (List.Perm.swap f g _)

/-- P has come, in this order; what is left is told by left. -/
def RgI (M P : List FileD) (left : List UInt8 → Bool) : Prop := ∃ R, (P ++ R).Perm M ∧ ∀ s, left s = decide (∃ f ∈ R, f.Name = s)
theorem rg_start {M : List FileD} : RgI M [] (fun s => (lkF M s).isSome) := by
  refine ⟨M, List.Perm.refl _, fun s => ?_⟩
  show (lkF M s).isSome = decide (∃ f ∈ M, f.Name = s)
  rw [Bool.eq_iff_iff, decide_eq_true_eq]
  constructor
  · intro h
    obtain ⟨d, e⟩ := Option.isSome_iff_exists.1 h
    obtain ⟨f, h1, h2, _⟩ := lkF_some e
    exact ⟨f, h1, h2⟩
  · rintro ⟨f, h1, h2⟩
    cases e : lkF M s with
    | none => exact absurd h2 (lkF_none e f h1)
    | some d => rfl
theorem rg_next {M P : List FileD} {left : List UInt8 → Bool} {s q : List UInt8} (hs : srtF M) (h : RgI M P left) (hl : left s = true) (hq : lkF M s = some q) : RgI M (P ++ [⟨s, q⟩]) (fun a => left a && !decide (a = s)) := by
  obtain ⟨R, hp, hR⟩ := h
  rw [hR s, decide_eq_true_eq] at hl
  obtain ⟨f, hf, rfl⟩ := hl
  have hfM : f ∈ M := hp.subset (by simp [hf])
  rw [lkF_mem hs hfM] at hq
  have ef : (⟨f.Name, q⟩ : FileD) = f := by cases f; cases hq; rfl
  rw [ef]
  have hne : R.Pairwise (fun a b => a.Name ≠ b.Name) := by
    have h1 : M.Pairwise (fun a b => a.Name ≠ b.Name) := hs.imp fun h => bl_ne h
    have h2 := (hp.pairwise_iff (fun {a b} (h : a.Name ≠ b.Name) => h.symm)).2 h1
    exact (List.pairwise_append.1 h2).2.1
  refine ⟨lessF R f.Name, ?_, fun a => ?_⟩
  · rw [List.append_assoc]
    exact ((perm_less hne hf).symm.append_left P).trans hp
  · show (left a && !decide (a = f.Name)) = decide (∃ g ∈ lessF R f.Name, g.Name = a)
    rw [hR a, Bool.eq_iff_iff]
    simp only [Bool.and_eq_true, decide_eq_true_eq, Bool.not_eq_true', decide_eq_false_iff_not]
    constructor
    · rintro ⟨⟨g, g1, g2⟩, h⟩
      exact ⟨g, List.mem_filter.2 ⟨g1, by simpa [g2] using h⟩, g2⟩
    · rintro ⟨g, g1, g2⟩
      obtain ⟨g3, g4⟩ := List.mem_filter.1 g1
      exact ⟨⟨g, g3, g2⟩, by simpa [g2] using g4⟩
theorem rg_end {M P : List FileD} {left : List UInt8 → Bool} (h : RgI M P left) (h0 : ∀ s, left s = false) : P.Perm M := by
  obtain ⟨R, hp, hR⟩ := h
  cases R with
  | nil => simpa using hp
  | cons f R =>
    have := (hR f.Name).symm.trans (h0 _)
    simp at this
theorem byF_app : ∀ (l m : List FileD), byF (l ++ m) = byF l + byF m
  | [], m => by simp [byF]
  | f :: l, m => by simp only [List.cons_append, byF, byF_app l m]; omega
theorem byF_perm {l m : List FileD} (h : l.Perm m) : byF l = byF m := by
  induction h with
  | nil => rfl
  | cons x _ ih => simp only [byF, ih]
  | swap x y l => simp only [byF]; omega
  | trans _ _ h1 h2 => exact h1.trans h2
theorem rg_by {M P : List FileD} {left : List UInt8 → Bool} (h : RgI M P left) : byF P ≤ byF M := by
  obtain ⟨R, hp, _⟩ := h
  have := byF_perm hp
  rw [byF_app] at this
  omega
theorem byF_get : ∀ {M : List FileD} {s q : List UInt8}, lkF M s = some q → q.length ≤ byF M
  | f :: M, s, q, h => by
    rw [lkF_cons] at h
    simp only [byF]
    split at h
    · cases h; omega
    · have := byF_get h; omega

end Go.Proofs.Ytfnhchcgieeedaa
