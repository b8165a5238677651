import Derived.Test.YtcbnfkbnbdbfoaaGreatSh
import Derived.Test.YtcbnfkbnbdbfoaaGreatMG
namespace Go.Proofs.YtcbnfkbnbdbfoaaGreat
set_option linter.unusedSimpArgs false
set_option linter.unusedVariables false
set_option linter.defProp false
set_option maxRecDepth 20000
open Go.RowKit
def SEdgeD.rng (x : SEdgeD) : Prop := (I64 x.From) ∧ (I64 x.To) ∧ (I64 x.W) ∧ (I64 x.Index) ∧ (I64 x.Val)
theorem sh_SEdge {d : Nat} {ds : List DC} (h : Sh Tryz.prog (d + 2) 167 ds) : ∃ x : SEdgeD, ds = x.k ∧ x.rng := by
  unfold Sh at h
  rw [Tryz.underlying167] at h
  simp only [ShF] at h
  obtain ⟨d0, s0, rfl, h0, hr0⟩ := h
  obtain ⟨d1, s1, rfl, h1, hr1⟩ := hr0
  obtain ⟨d2, s2, rfl, h2, hr2⟩ := hr1
  obtain ⟨d3, s3, rfl, h3, hr3⟩ := hr2
  obtain ⟨d4, s4, rfl, h4, hr4⟩ := hr3
  subst hr4
  obtain ⟨xFrom, rfl, rxFrom⟩ := sh_int h0
  obtain ⟨xTo, rfl, rxTo⟩ := sh_int h1
  obtain ⟨xW, rfl, rxW⟩ := sh_int h2
  obtain ⟨xIndex, rfl, rxIndex⟩ := sh_int h3
  obtain ⟨xVal, rfl, rxVal⟩ := sh_int h4
  exact ⟨⟨xFrom, xTo, xW, xIndex, xVal⟩, rfl, ⟨rxFrom, rxTo, rxW, rxIndex, rxVal⟩⟩
end Go.Proofs.YtcbnfkbnbdbfoaaGreat