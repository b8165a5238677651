/-
  The data of the types View out of their form. No conditions of its own.
-/
import Derived.Test.YtmdajpgemcaefaaSh
import Derived.Test.YtmdajpgemcaefaaG3
namespace Go.Proofs.Ytmdajpgemcaefaa
set_option linter.unusedSimpArgs false
set_option linter.unusedVariables false
set_option maxRecDepth 20000
open Go.RowKit

def ViewD.rng (x : ViewD) : Prop := (True) ∧ (True) ∧ (I64 x.W) ∧ (I64 x.Val)

theorem sh_View {d : Nat} {ds : List DC} (h : Sh Try.prog (d + 2) 175 ds) : ∃ x : ViewD, ds = x.k ∧ x.rng := by
  unfold Sh at h
  rw [Try.underlying175] at h
  simp only [ShF] at h
  obtain ⟨d0, s0, rfl, h0, hr0⟩ := h
  obtain ⟨d1, s1, rfl, h1, hr1⟩ := hr0
  obtain ⟨d2, s2, rfl, h2, hr2⟩ := hr1
  obtain ⟨d3, s3, rfl, h3, hr3⟩ := hr2
  subst hr3
  obtain ⟨xIn, rfl⟩ := sh_bool h0
  have rxIn : True := trivial
  obtain ⟨xOut, rfl⟩ := sh_bool h1
  have rxOut : True := trivial
  obtain ⟨xW, rfl, rxW⟩ := sh_int h2
  obtain ⟨xVal, rfl, rxVal⟩ := sh_int h3
  exact ⟨⟨xIn, xOut, xW, xVal⟩, rfl, ⟨rxIn, rxOut, rxW, rxVal⟩⟩

end Go.Proofs.Ytmdajpgemcaefaa