/-
  Operations on lists of files: plain, no conditions of its own.
-/
import Derived.Test.YtfnhchcgieeedaaDI1
namespace Go.Proofs.Ytfnhchcgieeedaa
set_option linter.unusedSimpArgs false
set_option linter.unusedVariables false
set_option linter.unusedSimpArgs false
set_option linter.unusedVariables false
set_option linter.defProp false
open Go.RowKit

def fitsF (M : List FileD) (o : FsOpD) : Bool :=
  if o.Kind = 1 then (lkF M o.Name).isSome || decide (M.length < 12) else if o.Kind = 3 then (lkF M o.Name).isSome && !decide (o.To = o.Name) else (lkF M o.Name).isSome
/-- The list behind an operation that fits. -/
def mkF (M : List FileD) (o : FsOpD) : List FileD :=
  if o.Kind = 1 then withF M ⟨o.Name, []⟩
  else if o.Kind = 2 then withF M ⟨o.Name, (lkF M o.Name).getD [] ++ o.Data⟩
  else if o.Kind = 3 then withF (lessF M o.Name) ⟨o.To, (lkF M o.Name).getD []⟩
  else lessF M o.Name

theorem mkF_srt {M : List FileD} (h : srtF M) (o : FsOpD) : srtF (mkF M o) := by
  unfold mkF
  split
  · exact withF_srt h _
  · split
    · exact withF_srt h _
    · split
      · exact withF_srt (lessF_srt h _) _
      · exact lessF_srt h _

theorem lkF_snoc {M : List FileD} {f : FileD} (h : srtF (M ++ [f])) (s : List UInt8) : lkF (M ++ [f]) s = if s = f.Name then some f.Data else lkF M s := by
  induction M with
  | nil =>
    rw [List.nil_append, lkF_cons, lkF_nil]
    by_cases e : f.Name = s
    · rw [if_pos e, if_pos e.symm]
    · rw [if_neg e, if_neg fun h => e h.symm]
  | cons g M ih =>
    rw [List.cons_append] at h ⊢
    obtain ⟨h1, h2⟩ := List.pairwise_cons.1 h
    rw [lkF_cons, ih h2, lkF_cons]
    by_cases e : g.Name = s
    · rw [if_pos e, if_pos e, if_neg fun h => bl_ne (h1 f (by simp)) (e.trans h)]
    · rw [if_neg e, if_neg e]
theorem snoc_new {M : List FileD} {f : FileD} (h : srtF (M ++ [f])) : lkF M f.Name = none := by
  cases e : lkF M f.Name with
  | none => rfl
  | some d =>
    obtain ⟨g, g1, g2, _⟩ := lkF_some e
    exact absurd g2 (bl_ne ((List.pairwise_append.1 h).2.2 g g1 f (by simp)))
theorem isPut_snoc {M : List FileD} {f : FileD} (h : srtF (M ++ [f])) : IsPut M f.Name f.Data (M ++ [f]) := by
  refine ⟨fun x => lkF_snoc h x, ?_⟩
  rw [snoc_new h]
  simp
theorem take_snoc {l : List FileD} {k : Nat} (h : k < l.length) : l.take (k + 1) = l.take k ++ [l[k]] := List.take_succ_eq_append_getElem h

/-- The list behind the first k operations. -/
def stF (M : List FileD) (l : List FsOpD) (k : Nat) : List FileD := (l.take k).foldl mkF M
theorem stF_zero (M : List FileD) (l : List FsOpD) : stF M l 0 = M := by simp [stF]
theorem stF_succ {M : List FileD} {l : List FsOpD} {k : Nat} (h : k < l.length) : stF M l (k + 1) = mkF (stF M l k) l[k] := by
  unfold stF
  rw [List.take_succ_eq_append_getElem h, List.foldl_append]
  rfl
theorem stF_srt {M : List FileD} (h : srtF M) (l : List FsOpD) : ∀ k, srtF (stF M l k)
  | 0 => by rw [stF_zero]; exact h
  | k + 1 => by
    rcases Nat.lt_or_ge k l.length with hk | hk
    · rw [stF_succ hk]; exact mkF_srt (stF_srt h l k) _
    · have := stF_srt h l k
      unfold stF at this ⊢
      rw [List.take_of_length_le (by omega)] at this ⊢
      exact this
/-- The first k operations fit one behind the other, and nothing grows too large. -/
def okF (room : Int) (M : List FileD) (l : List FsOpD) (k : Nat) : Prop := (byF M : Int) ≤ room ∧ ∀ j (hj : j < l.length), j < k → opO l[j] = true ∧ fitsF (stF M l j) l[j] = true ∧ (byF (stF M l (j + 1)) : Int) ≤ room
/-- A disk's head. -/
def hdD (d : DiskD) : Prop := (0 ≤ d.Room ∧ d.Room ≤ 200000) ∧ (-1 ≤ d.Fuse ∧ d.Fuse ≤ 2000) ∧ d.Files.length ≤ 12 ∧ d.Wait.length ≤ 60
def diskP (d : DiskD) : Prop := hdD d ∧ (∀ f ∈ d.Files, nameO f.Name = true) ∧ srtF d.Files ∧ okF d.Room d.Files d.Wait d.Wait.length
noncomputable def diskO (d : DiskD) : Bool := @decide (diskP d) (Classical.propDecidable _)
/-- What is seen of a disk. -/
def seenF (d : DiskD) : List FileD := stF d.Files d.Wait d.Wait.length

end Go.Proofs.Ytfnhchcgieeedaa
