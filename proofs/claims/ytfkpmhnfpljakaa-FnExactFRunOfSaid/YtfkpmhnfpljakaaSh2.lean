/-
  The data of the types Job, Set, Run, Values out of their form. No conditions of its own.
-/
import Derived.Test.YtfkpmhnfpljakaaSh
import Derived.Test.YtfkpmhnfpljakaaH2
namespace Go.Proofs.Ytfkpmhnfpljakaa
set_option linter.unusedSimpArgs false
set_option linter.unusedVariables false
set_option linter.unusedSimpArgs false
set_option linter.unusedVariables false
set_option linter.defProp false
set_option maxRecDepth 20000
open Go.RowKit

def JobD.rng (x : JobD) : Prop := (I64 x.Prog) ∧ (I64 x.Src)

theorem sh_Job {d : Nat} {ds : List DC} (h : Sh Try.prog (d + 2) 47 ds) : ∃ x : JobD, ds = x.k ∧ x.rng := by
  unfold Sh at h
  rw [Try.underlying47] at h
  simp only [ShF] at h
  obtain ⟨d0, s0, rfl, h0, hr0⟩ := h
  obtain ⟨d1, s1, rfl, h1, hr1⟩ := hr0
  subst hr1
  obtain ⟨xProg, rfl, rxProg⟩ := sh_int h0
  obtain ⟨xSrc, rfl, rxSrc⟩ := sh_int h1
  exact ⟨⟨xProg, xSrc⟩, rfl, ⟨rxProg, rxSrc⟩⟩

def SetD.rng (x : SetD) : Prop := (I64 x.N) ∧ ((x.Bits).length ≤ maxLen ∧ ∀ y ∈ x.Bits, (fun _ => True) y)

theorem sh_Set {d : Nat} {ds : List DC} (h : Sh Try.prog (d + 3) 50 ds) : ∃ x : SetD, ds = [.v (.int .i64 x.N), .sl 5 1 (x.Bits.map bytK)] ∧ x.rng := by
  unfold Sh at h
  rw [Try.underlying50] at h
  simp only [ShF] at h
  obtain ⟨d0, s0, rfl, h0, hr0⟩ := h
  obtain ⟨d1, s1, rfl, h1, hr1⟩ := hr0
  subst hr1
  replace h0 : Sh Try.prog ((d + 1) + 1) 3 d0 := h0
  obtain ⟨xN, rfl, rxN⟩ := sh_int h0
  obtain ⟨esxBits, rfl, lxBits, axBits⟩ := sh_slice (Try.underlying48) h1
  obtain ⟨xBits, rfl, qxBits⟩ := list_of (k := bytK) (R := (fun _ => True)) fun el he => sh_bytK (axBits el he)
  have rxBits : (xBits).length ≤ maxLen ∧ ∀ y ∈ xBits, (fun _ => True) y := ⟨by simpa using lxBits, qxBits⟩
  rw [show Try.prog.cellsOf 5 = 1 from by kernel_rfl]
  exact ⟨⟨xN, xBits⟩, rfl, ⟨rxN, rxBits⟩⟩

def RunD.rng (x : RunD) : Prop := (JobD.rng x.Job) ∧ (I64 x.Iter) ∧ (True) ∧ ((x.Vals).length ≤ maxLen ∧ ∀ y ∈ x.Vals, I64 y) ∧ ((x.EVals).length ≤ maxLen ∧ ∀ y ∈ x.EVals, I64 y) ∧ (SetD.rng x.Next)

theorem sh_Run {d : Nat} {ds : List DC} (h : Sh Try.prog (d + 4) 69 ds) : ∃ x : RunD, ds = [.v (.int .i64 x.Job.Prog), .v (.int .i64 x.Job.Src), .v (.int .i64 x.Iter), .v (.bool x.Done), .sl 3 1 (x.Vals.map intK), .sl 3 1 (x.EVals.map intK), .v (.int .i64 x.Next.N), .sl 5 1 (x.Next.Bits.map bytK)] ∧ x.rng := by
  unfold Sh at h
  rw [Try.underlying69] at h
  simp only [ShF] at h
  obtain ⟨d0, s0, rfl, h0, hr0⟩ := h
  obtain ⟨d1, s1, rfl, h1, hr1⟩ := hr0
  obtain ⟨d2, s2, rfl, h2, hr2⟩ := hr1
  obtain ⟨d3, s3, rfl, h3, hr3⟩ := hr2
  obtain ⟨d4, s4, rfl, h4, hr4⟩ := hr3
  obtain ⟨d5, s5, rfl, h5, hr5⟩ := hr4
  subst hr5
  replace h0 : Sh Try.prog ((d + 1) + 2) 47 d0 := h0
  obtain ⟨xJob, rfl, rxJob⟩ := sh_Job h0
  replace h1 : Sh Try.prog ((d + 2) + 1) 3 d1 := h1
  obtain ⟨xIter, rfl, rxIter⟩ := sh_int h1
  replace h2 : Sh Try.prog ((d + 2) + 1) 4 d2 := h2
  obtain ⟨xDone, rfl⟩ := sh_bool h2
  have rxDone : True := trivial
  replace h3 : Sh Try.prog ((d + 1) + 2) 22 d3 := h3
  obtain ⟨esxVals, rfl, lxVals, axVals⟩ := sh_slice (Try.underlying22) h3
  obtain ⟨xVals, rfl, qxVals⟩ := list_of (k := intK) (R := I64) fun el he => sh_intK (axVals el he)
  have rxVals : (xVals).length ≤ maxLen ∧ ∀ y ∈ xVals, I64 y := ⟨by simpa using lxVals, qxVals⟩
  rw [show Try.prog.cellsOf 3 = 1 from by kernel_rfl]
  replace h4 : Sh Try.prog ((d + 1) + 2) 22 d4 := h4
  obtain ⟨esxEVals, rfl, lxEVals, axEVals⟩ := sh_slice (Try.underlying22) h4
  obtain ⟨xEVals, rfl, qxEVals⟩ := list_of (k := intK) (R := I64) fun el he => sh_intK (axEVals el he)
  have rxEVals : (xEVals).length ≤ maxLen ∧ ∀ y ∈ xEVals, I64 y := ⟨by simpa using lxEVals, qxEVals⟩
  rw [show Try.prog.cellsOf 3 = 1 from by kernel_rfl]
  obtain ⟨xNext, rfl, rxNext⟩ := sh_Set h5
  exact ⟨⟨xJob, xIter, xDone, xVals, xEVals, xNext⟩, rfl, ⟨rxJob, rxIter, rxDone, rxVals, rxEVals, rxNext⟩⟩

def ValuesD.rng (x : ValuesD) : Prop := (JobD.rng x.Job) ∧ (I64 x.Iter) ∧ ((x.Vals).length ≤ maxLen ∧ ∀ y ∈ x.Vals, I64 y) ∧ ((x.EVals).length ≤ maxLen ∧ ∀ y ∈ x.EVals, I64 y) ∧ (SetD.rng x.Next)

end Go.Proofs.Ytfkpmhnfpljakaa