/-
  Valid farms are small: plain. No conditions of its own.
-/
import Derived.Test.YtfkpmhnfpljakaaN8
namespace Go.Proofs.Ytfkpmhnfpljakaa
set_option linter.unusedSimpArgs false
set_option linter.unusedVariables false
set_option linter.unusedSimpArgs false
set_option linter.unusedVariables false
set_option linter.defProp false
set_option maxRecDepth 20000
open Go.RowKit

theorem jn1_ge {l : List ShardD} : ∀ {k : Nat}, jn1 l k → k ≤ l.length → (k : Int) ≤ lastH l k
  | 0, _, _ => by rw [lastH_zero]; simp
  | k + 1, h, hk => by
    have ih := jn1_ge (k := k) (fun i hi hik => h i hi (by omega)) (by omega)
    obtain ⟨a, b⟩ := h k (by omega) (by omega)
    have c := a.1
    unfold shHead at c
    rw [lastH_succ (by omega)]
    omega
structure GfOk (f : FarmD) : Prop where
  n : 0 ≤ f.N ∧ f.N ≤ 150
  l : f.Shards.length ≤ 150
  e : f.Ends.length = f.Shards.length
  s : ∀ i (h : i < f.Shards.length), ShOk f.Shards[i]
  c : edSum f.Shards ≤ 400
theorem gf_ok {f : FarmD} (h : FarmOk f) : GfOk f := by
  obtain ⟨_, h2, _, h4⟩ := h
  obtain ⟨a, b, c, d, e, _⟩ := h4
  have := jn1_ge c (Nat.le_refl _)
  exact ⟨⟨a, b⟩, by omega, h2.symm, fun i hi => (c i hi hi).1, e⟩

end Go.Proofs.Ytfkpmhnfpljakaa
