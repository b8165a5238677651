/-
  The data of the types File, FsOp, Disk out of their form. No conditions of its own.
-/
import Derived.Test.YtfnhchcgieeedaaSh
import Derived.Test.YtfnhchcgieeedaaDH4
namespace Go.Proofs.Ytfnhchcgieeedaa
set_option linter.unusedSimpArgs false
set_option linter.unusedVariables false
set_option linter.unusedSimpArgs false
set_option linter.unusedVariables false
set_option linter.defProp false
set_option maxRecDepth 20000
open Go.RowKit

theorem sh_txt {d : Nat} {ds : List DC} (h : Sh Try.prog (d + 1) 9 ds) : ∃ z : List UInt8, ds = [.v (.string (txt z))] ∧ z.length ≤ maxLen := by
  unfold Sh at h
  rw [Try.underlying9] at h
  obtain ⟨s, rfl, hs⟩ := h
  refine ⟨s.toList, ?_, by rw [ByteArray.toList_eq, Array.length_toList]; exact hs⟩
  have : txt s.toList = s := by rw [ByteArray.toList_eq]; cases s; simp [txt]
  rw [this]

def FileD.rng (x : FileD) : Prop := x.Name.length ≤ maxLen ∧ x.Data.length ≤ maxLen
def FsOpD.rng (x : FsOpD) : Prop := I64 x.Kind ∧ x.Name.length ≤ maxLen ∧ x.To.length ≤ maxLen ∧ x.Data.length ≤ maxLen
def DiskD.rng (x : DiskD) : Prop := I64 x.Room ∧ I64 x.Fuse ∧ (x.Files.length ≤ maxLen ∧ ∀ y ∈ x.Files, FileD.rng y) ∧ (x.Wait.length ≤ maxLen ∧ ∀ y ∈ x.Wait, FsOpD.rng y)

theorem sh_File {d : Nat} {ds : List DC} (h : Sh Try.prog (d + 3) 139 ds) : ∃ x : FileD, ds = FileD.k 5 x ∧ x.rng := by
  unfold Sh at h
  rw [Try.underlying139] at h
  simp only [ShF] at h
  obtain ⟨d0, s0, rfl, h0, hr0⟩ := h
  obtain ⟨d1, s1, rfl, h1, hr1⟩ := hr0
  subst hr1
  replace h0 : Sh Try.prog ((d + 1) + 1) 9 d0 := h0
  obtain ⟨a, rfl, ra⟩ := sh_txt h0
  obtain ⟨es, rfl, le, ae⟩ := sh_slice (Try.underlying62) h1
  obtain ⟨b, rfl, _⟩ := list_of (k := bytK) (R := fun _ => True) fun el he => sh_bytK (ae el he)
  rw [show Try.prog.cellsOf 5 = 1 from by kernel_rfl]
  exact ⟨⟨a, b⟩, rfl, ra, by simpa using le⟩

theorem sh_FsOp {d : Nat} {ds : List DC} (h : Sh Try.prog (d + 3) 141 ds) : ∃ x : FsOpD, ds = FsOpD.k 5 x ∧ x.rng := by
  unfold Sh at h
  rw [Try.underlying141] at h
  simp only [ShF] at h
  obtain ⟨d0, s0, rfl, h0, hr0⟩ := h
  obtain ⟨d1, s1, rfl, h1, hr1⟩ := hr0
  obtain ⟨d2, s2, rfl, h2, hr2⟩ := hr1
  obtain ⟨d3, s3, rfl, h3, hr3⟩ := hr2
  subst hr3
  replace h0 : Sh Try.prog ((d + 1) + 1) 3 d0 := h0
  obtain ⟨z, rfl, rz⟩ := sh_int h0
  replace h1 : Sh Try.prog ((d + 1) + 1) 9 d1 := h1
  obtain ⟨a, rfl, ra⟩ := sh_txt h1
  replace h2 : Sh Try.prog ((d + 1) + 1) 9 d2 := h2
  obtain ⟨c, rfl, rc⟩ := sh_txt h2
  obtain ⟨es, rfl, le, ae⟩ := sh_slice (Try.underlying62) h3
  obtain ⟨b, rfl, _⟩ := list_of (k := bytK) (R := fun _ => True) fun el he => sh_bytK (ae el he)
  rw [show Try.prog.cellsOf 5 = 1 from by kernel_rfl]
  exact ⟨⟨z, a, c, b⟩, rfl, rz, ra, rc, by simpa using le⟩

theorem sh_Disk {d : Nat} {ds : List DC} (h : Sh Try.prog (d + 5) 44 ds) : ∃ x : DiskD, ds = [.v (.int .i64 x.Room), .v (.int .i64 x.Fuse), .sl 139 2 (x.Files.map (FileD.k 5)), .sl 141 4 (x.Wait.map (FsOpD.k 5))] ∧ x.rng := by
  unfold Sh at h
  rw [Try.underlying44] at h
  simp only [ShF] at h
  obtain ⟨d0, s0, rfl, h0, hr0⟩ := h
  obtain ⟨d1, s1, rfl, h1, hr1⟩ := hr0
  obtain ⟨d2, s2, rfl, h2, hr2⟩ := hr1
  obtain ⟨d3, s3, rfl, h3, hr3⟩ := hr2
  subst hr3
  replace h0 : Sh Try.prog ((d + 3) + 1) 3 d0 := h0
  obtain ⟨r, rfl, rr⟩ := sh_int h0
  replace h1 : Sh Try.prog ((d + 3) + 1) 3 d1 := h1
  obtain ⟨f, rfl, rf⟩ := sh_int h1
  obtain ⟨es, rfl, le, ae⟩ := sh_slice (Try.underlying41) h2
  obtain ⟨F, rfl, qF⟩ := list_of (k := FileD.k 5) (R := FileD.rng) fun el he => sh_File (ae el he)
  rw [show Try.prog.cellsOf 139 = 2 from by kernel_rfl]
  obtain ⟨es, rfl, le', ae⟩ := sh_slice (Try.underlying42) h3
  obtain ⟨W, rfl, qW⟩ := list_of (k := FsOpD.k 5) (R := FsOpD.rng) fun el he => sh_FsOp (ae el he)
  rw [show Try.prog.cellsOf 141 = 4 from by kernel_rfl]
  exact ⟨⟨r, f, F, W⟩, rfl, rr, rf, ⟨by simpa using le, qF⟩, ⟨by simpa using le', qW⟩⟩

end Go.Proofs.Ytfnhchcgieeedaa
