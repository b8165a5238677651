import Derived.Test.YtcbnfkbnbdbfoaaGreatSh2
import Derived.Test.YtcbnfkbnbdbfoaaGreatSh5
import Derived.Test.YtcbnfkbnbdbfoaaGreatH6
namespace Go.Proofs.YtcbnfkbnbdbfoaaGreat
set_option linter.unusedSimpArgs false
set_option linter.unusedVariables false
set_option linter.defProp false
set_option maxRecDepth 20000
open Go.RowKit
def FRunD.rng (x : FRunD) : Prop := (JobD.rng x.Job) ∧ (I64 x.Iter) ∧ (True) ∧ ((x.Vals).length ≤ maxLen ∧ ∀ y ∈ x.Vals, I64 y) ∧ (SetD.rng x.Next) ∧ (FarmD.rng x.Farm)
theorem sh_FRun {d : Nat} {ds : List DC} (h : Sh Tryz.prog (d + 7) 32 ds) : ∃ x : FRunD, ds = [.v (.int .i64 x.Job.Prog), .v (.int .i64 x.Job.Src), .v (.int .i64 x.Iter), .v (.bool x.Done), .sl 3 1 (x.Vals.map intK), .v (.int .i64 x.Next.N), .sl 5 1 (x.Next.Bits.map bytK), .v (.int .i64 x.Farm.N), .sl 3 1 (x.Farm.Ends.map intK), .sl 206 3 (x.Farm.Shards.map (ShardD.k 167))] ∧ x.rng := by
  unfold Sh at h
  rw [Tryz.underlying32] at h
  simp only [ShF] at h
  obtain ⟨d0, s0, rfl, h0, hr0⟩ := h
  obtain ⟨d1, s1, rfl, h1, hr1⟩ := hr0
  obtain ⟨d2, s2, rfl, h2, hr2⟩ := hr1
  obtain ⟨d3, s3, rfl, h3, hr3⟩ := hr2
  obtain ⟨d4, s4, rfl, h4, hr4⟩ := hr3
  obtain ⟨d5, s5, rfl, h5, hr5⟩ := hr4
  subst hr5
  replace h0 : Sh Tryz.prog ((d + 4) + 2) 23 d0 := h0
  obtain ⟨xJob, rfl, rxJob⟩ := sh_Job h0
  replace h1 : Sh Tryz.prog ((d + 5) + 1) 3 d1 := h1
  obtain ⟨xIter, rfl, rxIter⟩ := sh_int h1
  replace h2 : Sh Tryz.prog ((d + 5) + 1) 4 d2 := h2
  obtain ⟨xDone, rfl⟩ := sh_bool h2
  have rxDone : True := trivial
  replace h3 : Sh Tryz.prog ((d + 4) + 2) 24 d3 := h3
  obtain ⟨esxVals, rfl, lxVals, axVals⟩ := sh_slice (Tryz.underlying24) h3
  obtain ⟨xVals, rfl, qxVals⟩ := list_of (k := intK) (R := I64) fun el he => sh_intK (axVals el he)
  have rxVals : (xVals).length ≤ maxLen ∧ ∀ y ∈ xVals, I64 y := ⟨by simpa using lxVals, qxVals⟩
  rw [show Tryz.prog.cellsOf 3 = 1 from by kernel_rfl]
  replace h4 : Sh Tryz.prog ((d + 3) + 3) 27 d4 := h4
  obtain ⟨xNext, rfl, rxNext⟩ := sh_Set h4
  obtain ⟨xFarm, rfl, rxFarm⟩ := sh_Farm h5
  exact ⟨⟨xJob, xIter, xDone, xVals, xNext, xFarm⟩, rfl, ⟨rxJob, rxIter, rxDone, rxVals, rxNext, rxFarm⟩⟩
end Go.Proofs.YtcbnfkbnbdbfoaaGreat