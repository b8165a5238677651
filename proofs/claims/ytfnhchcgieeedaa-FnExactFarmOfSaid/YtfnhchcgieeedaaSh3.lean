/-
  The data of the types Edge, Graph out of their form. No conditions of its own.
-/
import Derived.Test.YtfnhchcgieeedaaSh
import Derived.Test.YtfnhchcgieeedaaMGD
namespace Go.Proofs.Ytfnhchcgieeedaa
set_option linter.unusedSimpArgs false
set_option linter.unusedVariables false
set_option linter.unusedSimpArgs false
set_option linter.unusedVariables false
set_option linter.defProp false
set_option maxRecDepth 20000
open Go.RowKit

def EdgeD.rng (x : EdgeD) : Prop := (I64 x.From) ∧ (I64 x.To) ∧ (I64 x.W)

theorem sh_Edge {d : Nat} {ds : List DC} (h : Sh Try.prog (d + 2) 133 ds) : ∃ x : EdgeD, ds = x.k ∧ x.rng := by
  unfold Sh at h
  rw [Try.underlying133] at h
  simp only [ShF] at h
  obtain ⟨d0, s0, rfl, h0, hr0⟩ := h
  obtain ⟨d1, s1, rfl, h1, hr1⟩ := hr0
  obtain ⟨d2, s2, rfl, h2, hr2⟩ := hr1
  subst hr2
  obtain ⟨xFrom, rfl, rxFrom⟩ := sh_int h0
  obtain ⟨xTo, rfl, rxTo⟩ := sh_int h1
  obtain ⟨xW, rfl, rxW⟩ := sh_int h2
  exact ⟨⟨xFrom, xTo, xW⟩, rfl, ⟨rxFrom, rxTo, rxW⟩⟩

def GraphD.rng (x : GraphD) : Prop := (I64 x.N) ∧ ((x.Edges).length ≤ maxLen ∧ ∀ y ∈ x.Edges, EdgeD.rng y)

theorem sh_Graph {d : Nat} {ds : List DC} (h : Sh Try.prog (d + 4) 24 ds) : ∃ x : GraphD, ds = [.v (.int .i64 x.N), .sl 133 3 (x.Edges.map EdgeD.k)] ∧ x.rng := by
  unfold Sh at h
  rw [Try.underlying24] at h
  simp only [ShF] at h
  obtain ⟨d0, s0, rfl, h0, hr0⟩ := h
  obtain ⟨d1, s1, rfl, h1, hr1⟩ := hr0
  subst hr1
  replace h0 : Sh Try.prog ((d + 2) + 1) 3 d0 := h0
  obtain ⟨xN, rfl, rxN⟩ := sh_int h0
  obtain ⟨esxEdges, rfl, lxEdges, axEdges⟩ := sh_slice (Try.underlying22) h1
  obtain ⟨xEdges, rfl, qxEdges⟩ := list_of (k := EdgeD.k) (R := EdgeD.rng) fun el he => sh_Edge (axEdges el he)
  have rxEdges : (xEdges).length ≤ maxLen ∧ ∀ y ∈ xEdges, EdgeD.rng y := ⟨by simpa using lxEdges, qxEdges⟩
  rw [show Try.prog.cellsOf 133 = 3 from by kernel_rfl]
  exact ⟨⟨xN, xEdges⟩, rfl, ⟨rxN, rxEdges⟩⟩

end Go.Proofs.Ytfnhchcgieeedaa