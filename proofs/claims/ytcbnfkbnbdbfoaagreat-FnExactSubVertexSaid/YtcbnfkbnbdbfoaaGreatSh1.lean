/-
  The data of the types Loc, Sub out of their form. No conditions of its own.
-/
import Derived.Test.YtcbnfkbnbdbfoaaGreatShE
import Derived.Test.YtcbnfkbnbdbfoaaGreatH1
namespace Go.Proofs.YtcbnfkbnbdbfoaaGreat
set_option linter.unusedSimpArgs false
set_option linter.unusedVariables false
set_option linter.unusedSimpArgs false
set_option linter.unusedVariables false
set_option linter.defProp false
set_option maxRecDepth 20000
open Go.RowKit

def LocD.rng (x : LocD) : Prop := (I64 x.Shard) ∧ (I64 x.At) ∧ (SEdgeD.rng x.Edge)

theorem sh_Loc {d : Nat} {ds : List DC} (h : Sh Tryz.prog (d + 3) 169 ds) : ∃ x : LocD, ds = x.k ∧ x.rng := by
  unfold Sh at h
  rw [Tryz.underlying169] at h
  simp only [ShF] at h
  obtain ⟨d0, s0, rfl, h0, hr0⟩ := h
  obtain ⟨d1, s1, rfl, h1, hr1⟩ := hr0
  obtain ⟨d2, s2, rfl, h2, hr2⟩ := hr1
  subst hr2
  replace h0 : Sh Tryz.prog ((d + 1) + 1) 3 d0 := h0
  obtain ⟨xShard, rfl, rxShard⟩ := sh_int h0
  replace h1 : Sh Tryz.prog ((d + 1) + 1) 3 d1 := h1
  obtain ⟨xAt, rfl, rxAt⟩ := sh_int h1
  obtain ⟨xEdge, rfl, rxEdge⟩ := sh_SEdge h2
  exact ⟨⟨xShard, xAt, xEdge⟩, rfl, ⟨rxShard, rxAt, rxEdge⟩⟩

def SubD.rng (x : SubD) : Prop := (I64 x.P) ∧ (I64 x.Lo) ∧ (I64 x.Hi) ∧ ((x.Locs).length ≤ maxLen ∧ ∀ y ∈ x.Locs, LocD.rng y) ∧ (I64 x.Reads)

theorem sh_Sub {d : Nat} {ds : List DC} (h : Sh Tryz.prog (d + 5) 35 ds) : ∃ x : SubD, ds = [.v (.int .i64 x.P), .v (.int .i64 x.Lo), .v (.int .i64 x.Hi), .sl 169 7 (x.Locs.map LocD.k), .v (.int .i64 x.Reads)] ∧ x.rng := by
  unfold Sh at h
  rw [Tryz.underlying35] at h
  simp only [ShF] at h
  obtain ⟨d0, s0, rfl, h0, hr0⟩ := h
  obtain ⟨d1, s1, rfl, h1, hr1⟩ := hr0
  obtain ⟨d2, s2, rfl, h2, hr2⟩ := hr1
  obtain ⟨d3, s3, rfl, h3, hr3⟩ := hr2
  obtain ⟨d4, s4, rfl, h4, hr4⟩ := hr3
  subst hr4
  replace h0 : Sh Tryz.prog ((d + 3) + 1) 3 d0 := h0
  obtain ⟨xP, rfl, rxP⟩ := sh_int h0
  replace h1 : Sh Tryz.prog ((d + 3) + 1) 3 d1 := h1
  obtain ⟨xLo, rfl, rxLo⟩ := sh_int h1
  replace h2 : Sh Tryz.prog ((d + 3) + 1) 3 d2 := h2
  obtain ⟨xHi, rfl, rxHi⟩ := sh_int h2
  obtain ⟨esxLocs, rfl, lxLocs, axLocs⟩ := sh_slice (Tryz.underlying33) h3
  obtain ⟨xLocs, rfl, qxLocs⟩ := list_of (k := LocD.k) (R := LocD.rng) fun el he => sh_Loc (axLocs el he)
  have rxLocs : (xLocs).length ≤ maxLen ∧ ∀ y ∈ xLocs, LocD.rng y := ⟨by simpa using lxLocs, qxLocs⟩
  rw [show Tryz.prog.cellsOf 169 = 7 from by kernel_rfl]
  replace h4 : Sh Tryz.prog ((d + 3) + 1) 3 d4 := h4
  obtain ⟨xReads, rfl, rxReads⟩ := sh_int h4
  exact ⟨⟨xP, xLo, xHi, xLocs, xReads⟩, rfl, ⟨rxP, rxLo, rxHi, rxLocs, rxReads⟩⟩

end Go.Proofs.YtcbnfkbnbdbfoaaGreat