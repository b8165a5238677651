/-
  A larger bound cuts no more intervals: plain. No conditions of its own.
-/
import Derived.Test.YtfnhchcgieeedaaGreatMCT
namespace Go.Proofs.YtfnhchcgieeedaaGreat
set_option linter.unusedSimpArgs false
set_option linter.unusedVariables false
set_option linter.unusedSimpArgs false
set_option linter.unusedVariables false
set_option linter.defProp false
open Go.RowKit

theorem ct_mono {d : List Int} (hd : ∀ v, 0 ≤ d.getD v 0 ∧ d.getD v 0 ≤ 400) {b : Int} (h : 1 ≤ b) : ∀ v, (ctTo d b v).1.length < (ctTo d 1 v).1.length ∨ ((ctTo d b v).1.length = (ctTo d 1 v).1.length ∧ (ctTo d b v).2 ≤ (ctTo d 1 v).2)
  | 0 => .inr ⟨rfl, Int.le_refl _⟩
  | v + 1 => by
    have ih := ct_mono hd h v
    have h1 := hd v
    have h2 := ctTo_rng (b := 1) hd v
    rw [ctTo, ctTo]
    split
    · split
      · simp only [List.length_append, List.length_cons, List.length_nil]
        rcases ih with ih | ih
        · exact .inl (by omega)
        · exact .inr ⟨by omega, Int.le_refl _⟩
      · simp only [List.length_append, List.length_cons, List.length_nil]
        omega
    · split
      · simp only [List.length_append, List.length_cons, List.length_nil]
        omega
      · dsimp only
        omega

theorem cut_mono {g : GraphD} {b : Int} (h : cutOk g b = true) : (cutL g b).length ≤ (cutL g 1).length := by
  obtain ⟨hg, h1, h2⟩ := cutOk_out h
  have h3 : cutOk g 1 = true := by unfold cutOk; rw [hg]; rfl
  rw [cut_yes h, cut_yes h3, List.length_append, List.length_append]
  have := ct_mono (d := inDegs g) (inDegs_rng g) h1 g.N.toNat
  omega

end Go.Proofs.YtfnhchcgieeedaaGreat

