/-
  Contracts: lists encoded. No conditions of its own.
-/
import Derived.Test.YtcbnfkbnbdbfoaaGO
import Derived.Test.YtcbnfkbnbdbfoaaMNA
import Derived.Test.YtcbnfkbnbdbfoaaF2
namespace Go.Proofs.Ytcbnfkbnbdbfoaa
set_option linter.unusedSimpArgs false
set_option linter.unusedVariables false
set_option linter.unusedSimpArgs false
set_option linter.unusedVariables false
set_option linter.defProp false
open Go.RowKit

def lbO (l : List Int) : Bool := decide (l.length ≤ 400) && l.all pvO
/-- The first k numbers of a list behind its length. -/
def lbT (l : List Int) (k : Nat) : List UInt8 := varB l.length ++ (l.take k).flatMap fun n => fixB n.toNat
def lbL (l : List Int) : List UInt8 := lbT l l.length
def lbR (l : List Int) : List UInt8 := if lbO l then lbL l else []

theorem lbT_zero (l : List Int) : lbT l 0 = varB l.length := by simp [lbT]
theorem lbT_succ {l : List Int} {k : Nat} (h : k < l.length) : lbT l (k + 1) = lbT l k ++ fixB l[k].toNat := by
  unfold lbT
  rw [List.take_succ_eq_append_getElem h, List.flatMap_append, List.append_assoc]
  simp
theorem lbT_len {l : List Int} (hl : l.length ≤ 400) : ∀ k, (lbT l k).length ≤ 7 + 6 * k
  | 0 => by rw [lbT_zero]; have := varB_len7 (n := l.length) (by omega); omega
  | k + 1 => by
    have ih := lbT_len hl k
    rcases Nat.lt_or_ge k l.length with h | h
    · rw [lbT_succ h, List.length_append, fixB_len]; omega
    · unfold lbT at ih ⊢
      rw [List.take_of_length_le (by omega)] at ih ⊢
      omega

/-- The first numbers of a list are in range. -/
def prO (l : List Int) (k : Nat) : Prop := ∀ i (h : i < l.length), i < k → pvO l[i] = true
theorem prO_succ {l : List Int} {k : Nat} (h : prO l k) (hk : k < l.length) (hv : pvO l[k] = true) : prO l (k + 1) := fun i hi hik => by
  by_cases e : i = k
  · subst e; exact hv
  · exact h i hi (by omega)
theorem lbO_end {l : List Int} (hl : l.length ≤ 400) (h : prO l l.length) : lbO l = true := by
  unfold lbO
  rw [decide_eq_true hl, Bool.true_and, List.all_eq_true]
  intro x hx
  obtain ⟨i, hi, rfl⟩ := List.mem_iff_getElem.1 hx
  exact h i hi hi
theorem lbO_bad {l : List Int} {k : Nat} (hk : k < l.length) (hv : pvO l[k] = false) : lbO l = false := by
  unfold lbO
  cases h : l.all pvO with
  | false => rw [Bool.and_false]
  | true =>
    rw [List.all_eq_true] at h
    rw [h _ (List.getElem_mem hk)] at hv
    cases hv
theorem lbO_long {l : List Int} (h : ¬ l.length ≤ 400) : lbO l = false := by
  unfold lbO
  rw [decide_eq_false h]
  rfl

end Go.Proofs.Ytcbnfkbnbdbfoaa
