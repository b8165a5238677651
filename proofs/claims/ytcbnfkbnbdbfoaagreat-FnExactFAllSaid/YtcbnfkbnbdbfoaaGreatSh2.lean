import Derived.Test.YtcbnfkbnbdbfoaaGreatSh
import Derived.Test.YtcbnfkbnbdbfoaaGreatMGE
namespace Go.Proofs.YtcbnfkbnbdbfoaaGreat
set_option linter.unusedSimpArgs false
set_option linter.unusedVariables false
set_option linter.defProp false
set_option maxRecDepth 20000
open Go.RowKit
def JobD.rng (x : JobD) : Prop := (I64 x.Prog) ∧ (I64 x.Src)
theorem sh_Job {d : Nat} {ds : List DC} (h : Sh Tryz.prog (d + 2) 23 ds) : ∃ x : JobD, ds = x.k ∧ x.rng := by
  unfold Sh at h
  rw [Tryz.underlying23] at h
  simp only [ShF] at h
  obtain ⟨d0, s0, rfl, h0, hr0⟩ := h
  obtain ⟨d1, s1, rfl, h1, hr1⟩ := hr0
  subst hr1
  obtain ⟨xProg, rfl, rxProg⟩ := sh_int h0
  obtain ⟨xSrc, rfl, rxSrc⟩ := sh_int h1
  exact ⟨⟨xProg, xSrc⟩, rfl, ⟨rxProg, rxSrc⟩⟩
def SetD.rng (x : SetD) : Prop := (I64 x.N) ∧ ((x.Bits).length ≤ maxLen ∧ ∀ y ∈ x.Bits, (fun _ => True) y)
theorem sh_Set {d : Nat} {ds : List DC} (h : Sh Tryz.prog (d + 3) 27 ds) : ∃ x : SetD, ds = [.v (.int .i64 x.N), .sl 5 1 (x.Bits.map bytK)] ∧ x.rng := by
  unfold Sh at h
  rw [Tryz.underlying27] at h
  simp only [ShF] at h
  obtain ⟨d0, s0, rfl, h0, hr0⟩ := h
  obtain ⟨d1, s1, rfl, h1, hr1⟩ := hr0
  subst hr1
  replace h0 : Sh Tryz.prog ((d + 1) + 1) 3 d0 := h0
  obtain ⟨xN, rfl, rxN⟩ := sh_int h0
  obtain ⟨esxBits, rfl, lxBits, axBits⟩ := sh_slice (Tryz.underlying25) h1
  obtain ⟨xBits, rfl, qxBits⟩ := list_of (k := bytK) (R := (fun _ => True)) fun el he => sh_bytK (axBits el he)
  have rxBits : (xBits).length ≤ maxLen ∧ ∀ y ∈ xBits, (fun _ => True) y := ⟨by simpa using lxBits, qxBits⟩
  rw [show Tryz.prog.cellsOf 5 = 1 from by kernel_rfl]
  exact ⟨⟨xN, xBits⟩, rfl, ⟨rxN, rxBits⟩⟩
def RunD.rng (x : RunD) : Prop := (JobD.rng x.Job) ∧ (I64 x.Iter) ∧ (True) ∧ ((x.Vals).length ≤ maxLen ∧ ∀ y ∈ x.Vals, I64 y) ∧ ((x.EVals).length ≤ maxLen ∧ ∀ y ∈ x.EVals, I64 y) ∧ (SetD.rng x.Next)
def ValuesD.rng (x : ValuesD) : Prop := (JobD.rng x.Job) ∧ (I64 x.Iter) ∧ ((x.Vals).length ≤ maxLen ∧ ∀ y ∈ x.Vals, I64 y) ∧ ((x.EVals).length ≤ maxLen ∧ ∀ y ∈ x.EVals, I64 y) ∧ (SetD.rng x.Next)
end Go.Proofs.YtcbnfkbnbdbfoaaGreat