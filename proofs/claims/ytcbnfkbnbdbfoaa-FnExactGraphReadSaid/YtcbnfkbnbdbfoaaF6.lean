/-
  Contracts: the file of values. No conditions of its own.
-/
import Derived.Test.YtcbnfkbnbdbfoaaF3
import Derived.Test.YtcbnfkbnbdbfoaaF4
import Derived.Test.YtcbnfkbnbdbfoaaMKA
import Derived.Test.YtcbnfkbnbdbfoaaMGE
namespace Go.Proofs.Ytcbnfkbnbdbfoaa
set_option linter.unusedSimpArgs false
set_option linter.unusedVariables false
set_option linter.unusedSimpArgs false
set_option linter.unusedVariables false
set_option linter.defProp false
set_option maxRecDepth 20000
open Go.RowKit

def vfC (v : ValuesD) : Prop := 1 ≤ v.Job.Prog ∧ v.Job.Prog ≤ 4 ∧ 0 ≤ v.Job.Src ∧ v.Job.Src ≤ 150 ∧ 0 ≤ v.Iter ∧ v.Iter ≤ 1000
def vfO (v : ValuesD) : Prop := vfC v ∧ v.Vals.all valOk = true ∧ v.EVals.all valOk = true ∧ setOk v.Next.N v.Next.Bits = true ∧ lbO v.Vals = true ∧ lbO v.EVals = true
instance (v : ValuesD) : Decidable (vfO v) := by unfold vfO vfC; exact inferInstance
def vf0 (v : ValuesD) : List UInt8 := varB v.Job.Prog.toNat ++ varB v.Job.Src.toNat ++ varB v.Iter.toNat
def vf1 (v : ValuesD) : List UInt8 := vf0 v ++ lbL v.Vals ++ lbL v.EVals ++ varB v.Next.N.toNat
def vfD (v : ValuesD) : List UInt8 := vf1 v ++ v.Next.Bits
/-- The file, and whether there is one. -/
def vfR (v : ValuesD) : List UInt8 := if vfO v then fbR 2 (vfD v) else []
def vfB (v : ValuesD) : Bool := decide (vfO v) && frO 2 (vfD v)
theorem vf_no {v : ValuesD} (h : ¬ vfO v) : vfR v = [] ∧ vfB v = false := by
  unfold vfR vfB
  rw [if_neg h, decide_eq_false h]
  exact ⟨rfl, rfl⟩
theorem vf_yes {v : ValuesD} (h : vfO v) : vfR v = fbR 2 (vfD v) ∧ vfB v = frO 2 (vfD v) := by
  unfold vfR vfB
  rw [if_pos h, decide_eq_true h]
  exact ⟨rfl, Bool.true_and _⟩
theorem lbO_len {l : List Int} (h : lbO l = true) : l.length ≤ 400 := by
  unfold lbO at h
  rw [Bool.and_eq_true, decide_eq_true_eq] at h
  exact h.1
theorem lbL_len {l : List Int} (h : lbO l = true) : (lbL l).length ≤ 2407 := by
  have h1 := lbO_len h
  have := lbT_len h1 l.length
  unfold lbL; omega
theorem lbR_yes {l : List Int} (h : lbO l = true) : lbR l = lbL l := by unfold lbR; rw [h]; rfl

structure VfY (v : ValuesD) where
  p : Nat
  s : Nat
  i : Nat
  n : Nat
  hp : v.Job.Prog = (p : Int)
  hs : v.Job.Src = (s : Int)
  hi : v.Iter = (i : Int)
  hn : v.Next.N = (n : Int)
  bp : p ≤ 4
  bs : s ≤ 150
  bi : i ≤ 1000
  bn : n ≤ 150
  bb : v.Next.Bits.length ≤ 19
theorem vf_nats {v : ValuesD} (h : vfO v) : ∃ _ : VfY v, True := by
  obtain ⟨⟨h1, h2, h3, h4, h5, h6⟩, _, _, h7, _⟩ := h
  obtain ⟨g1, g2, g3, g4⟩ := setOk_len h7
  exact ⟨⟨v.Job.Prog.toNat, v.Job.Src.toNat, v.Iter.toNat, v.Next.N.toNat, by omega, by omega, by omega, by omega, by omega, by omega, by omega, by omega, g4⟩, trivial⟩

end Go.Proofs.Ytcbnfkbnbdbfoaa
