/-
  Lists of what a function gives for the first numbers. No conditions of its own.
-/
import Derived.Test.YtfkpmhnfpljakaaS1
namespace Go.Proofs.Ytfkpmhnfpljakaa
set_option linter.unusedSimpArgs false
set_option linter.unusedVariables false
set_option linter.unusedSimpArgs false
set_option linter.unusedVariables false
set_option linter.defProp false
open Go.RowKit

section
variable {α : Type}
/-- what f gives for the first k numbers -/
def fm (f : Nat → Option α) (k : Nat) : List α := (List.range k).filterMap f
theorem fm_zero (f : Nat → Option α) : fm f 0 = [] := rfl
theorem fm_some {f : Nat → Option α} {k : Nat} {x : α} (h : f k = some x) : fm f (k + 1) = fm f k ++ [x] := by
  simp [fm, List.range_succ, List.filterMap_append, h]
theorem fm_none {f : Nat → Option α} {k : Nat} (h : f k = none) : fm f (k + 1) = fm f k := by
  simp [fm, List.range_succ, List.filterMap_append, h]
theorem fm_len (f : Nat → Option α) : ∀ k, (fm f k).length ≤ k
  | 0 => Nat.le_refl _
  | k + 1 => by
    have := fm_len f k
    cases h : f k with
    | none => rw [fm_none h]; omega
    | some x => rw [fm_some h]; simp; omega
end

end Go.Proofs.Ytfkpmhnfpljakaa
