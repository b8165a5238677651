import Derived.Test.YtcbnfkbnbdbfoaaGreatShE
import Derived.Test.YtcbnfkbnbdbfoaaGreatMH
namespace Go.Proofs.YtcbnfkbnbdbfoaaGreat
set_option linter.unusedSimpArgs false
set_option linter.unusedVariables false
set_option linter.defProp false
set_option maxRecDepth 20000
open Go.RowKit
def ShardD.rng (x : ShardD) : Prop := (I64 x.Lo) ∧ (I64 x.Hi) ∧ ((x.Edges).length ≤ maxLen ∧ ∀ y ∈ x.Edges, SEdgeD.rng y)
theorem sh_Shard {d : Nat} {ds : List DC} (h : Sh Tryz.prog (d + 4) 206 ds) : ∃ x : ShardD, ds = [.v (.int .i64 x.Lo), .v (.int .i64 x.Hi), .sl 167 5 (x.Edges.map SEdgeD.k)] ∧ x.rng := by
  unfold Sh at h
  rw [Tryz.underlying206] at h
  simp only [ShF] at h
  obtain ⟨d0, s0, rfl, h0, hr0⟩ := h
  obtain ⟨d1, s1, rfl, h1, hr1⟩ := hr0
  obtain ⟨d2, s2, rfl, h2, hr2⟩ := hr1
  subst hr2
  replace h0 : Sh Tryz.prog ((d + 2) + 1) 3 d0 := h0
  obtain ⟨xLo, rfl, rxLo⟩ := sh_int h0
  replace h1 : Sh Tryz.prog ((d + 2) + 1) 3 d1 := h1
  obtain ⟨xHi, rfl, rxHi⟩ := sh_int h1
  obtain ⟨esxEdges, rfl, lxEdges, axEdges⟩ := sh_slice (Tryz.underlying204) h2
  obtain ⟨xEdges, rfl, qxEdges⟩ := list_of (k := SEdgeD.k) (R := SEdgeD.rng) fun el he => sh_SEdge (axEdges el he)
  have rxEdges : (xEdges).length ≤ maxLen ∧ ∀ y ∈ xEdges, SEdgeD.rng y := ⟨by simpa using lxEdges, qxEdges⟩
  rw [show Tryz.prog.cellsOf 167 = 5 from by kernel_rfl]
  exact ⟨⟨xLo, xHi, xEdges⟩, rfl, ⟨rxLo, rxHi, rxEdges⟩⟩
def FarmD.rng (x : FarmD) : Prop := (I64 x.N) ∧ ((x.Ends).length ≤ maxLen ∧ ∀ y ∈ x.Ends, I64 y) ∧ ((x.Shards).length ≤ maxLen ∧ ∀ y ∈ x.Shards, ShardD.rng y)
theorem sh_Farm {d : Nat} {ds : List DC} (h : Sh Tryz.prog (d + 6) 30 ds) : ∃ x : FarmD, ds = [.v (.int .i64 x.N), .sl 3 1 (x.Ends.map intK), .sl 206 3 (x.Shards.map (ShardD.k 167))] ∧ x.rng := by
  unfold Sh at h
  rw [Tryz.underlying30] at h
  simp only [ShF] at h
  obtain ⟨d0, s0, rfl, h0, hr0⟩ := h
  obtain ⟨d1, s1, rfl, h1, hr1⟩ := hr0
  obtain ⟨d2, s2, rfl, h2, hr2⟩ := hr1
  subst hr2
  replace h0 : Sh Tryz.prog ((d + 4) + 1) 3 d0 := h0
  obtain ⟨xN, rfl, rxN⟩ := sh_int h0
  replace h1 : Sh Tryz.prog ((d + 3) + 2) 24 d1 := h1
  obtain ⟨esxEnds, rfl, lxEnds, axEnds⟩ := sh_slice (Tryz.underlying24) h1
  obtain ⟨xEnds, rfl, qxEnds⟩ := list_of (k := intK) (R := I64) fun el he => sh_intK (axEnds el he)
  have rxEnds : (xEnds).length ≤ maxLen ∧ ∀ y ∈ xEnds, I64 y := ⟨by simpa using lxEnds, qxEnds⟩
  rw [show Tryz.prog.cellsOf 3 = 1 from by kernel_rfl]
  obtain ⟨esxShards, rfl, lxShards, axShards⟩ := sh_slice (Tryz.underlying28) h2
  obtain ⟨xShards, rfl, qxShards⟩ := list_of (k := (ShardD.k 167)) (R := ShardD.rng) fun el he => sh_Shard (axShards el he)
  have rxShards : (xShards).length ≤ maxLen ∧ ∀ y ∈ xShards, ShardD.rng y := ⟨by simpa using lxShards, qxShards⟩
  rw [show Tryz.prog.cellsOf 206 = 3 from by kernel_rfl]
  exact ⟨⟨xN, xEnds, xShards⟩, rfl, ⟨rxN, rxEnds, rxShards⟩⟩
end Go.Proofs.YtcbnfkbnbdbfoaaGreat