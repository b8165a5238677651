/-
  Lists of files grow slowly: plain, no conditions of its own.
-/
import Derived.Test.YtfnhchcgieeedaaDK3
namespace Go.Proofs.Ytfnhchcgieeedaa
set_option linter.unusedSimpArgs false
set_option linter.unusedVariables false
set_option linter.unusedSimpArgs false
set_option linter.unusedVariables false
set_option linter.defProp false
open Go.RowKit

theorem mkF_len (M : List FileD) (o : FsOpD) : (mkF M o).length ≤ M.length + 1 := by
  have h : ∀ s, (lessF M s).length ≤ M.length := fun s => List.length_filter_le _ _
  unfold mkF withF
  split
  · rw [insF_len]; have := h o.Name; simp only at this ⊢; omega
  · split
    · rw [insF_len]; have := h o.Name; simp only at this ⊢; omega
    · split
      · rw [insF_len]
        have h1 : (lessF (lessF M o.Name) o.To).length ≤ (lessF M o.Name).length := List.length_filter_le _ _
        have := h o.Name
        simp only at h1 ⊢
        omega
      · have := h o.Name; omega
theorem stF_len (M : List FileD) (l : List FsOpD) : ∀ k, (stF M l k).length ≤ M.length + k
  | 0 => by rw [stF_zero]; omega
  | k + 1 => by
    rcases Nat.lt_or_ge k l.length with hk | hk
    · rw [stF_succ hk]
      have := stF_len M l k
      have := mkF_len (stF M l k) l[k]
      omega
    · have := stF_len M l k
      unfold stF at this ⊢
      rw [List.take_of_length_le (by omega)] at this ⊢
      omega
theorem byF_ge : ∀ {M : List FileD} {f : FileD}, f ∈ M → f.Data.length ≤ byF M
  | g :: M, f, h => by
    simp only [byF]
    rcases List.mem_cons.1 h with rfl | h
    · omega
    · have := byF_ge h; omega
theorem okF_by {room : Int} {M : List FileD} {l : List FsOpD} {k : Nat} (h : okF room M l k) (hk : k ≤ l.length) : (byF (stF M l k) : Int) ≤ room := by
  cases k with
  | zero => rw [stF_zero]; exact h.1
  | succ k => exact (h.2 k (by omega) (by omega)).2.2
theorem okF_succ {room : Int} {M : List FileD} {l : List FsOpD} {k : Nat} (h : okF room M l k) (hk : k < l.length) (h1 : opO l[k] = true) (h2 : fitsF (stF M l k) l[k] = true) (h3 : (byF (stF M l (k + 1)) : Int) ≤ room) : okF room M l (k + 1) :=
  ⟨h.1, fun j hj hjk => by
    by_cases e : j = k
    · subst e; exact ⟨h1, h2, h3⟩
    · exact h.2 j hj (by omega)⟩
theorem okF_mono {room : Int} {M : List FileD} {l : List FsOpD} {k m : Nat} (h : okF room M l m) (hk : k ≤ m) : okF room M l k := ⟨h.1, fun j hj hjk => h.2 j hj (by omega)⟩
theorem opO_kind {o : FsOpD} (h : opO o = true) : 1 ≤ o.Kind ∧ o.Kind ≤ 4 := by
  by_cases h1 : o.Kind = 1 ∨ o.Kind = 2 ∨ o.Kind = 3 ∨ o.Kind = 4
  · omega
  · rw [opO_n (by omega)] at h; cases h

end Go.Proofs.Ytfnhchcgieeedaa
