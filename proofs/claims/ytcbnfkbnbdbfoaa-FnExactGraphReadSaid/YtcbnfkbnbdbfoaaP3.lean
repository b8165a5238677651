/-
  Farms encoded: plain; by the program. No conditions of its own.
-/
import Derived.Test.YtcbnfkbnbdbfoaaGO
import Derived.Test.YtcbnfkbnbdbfoaaMNB
import Derived.Test.YtcbnfkbnbdbfoaaF3
import Derived.Test.YtcbnfkbnbdbfoaaP2
namespace Go.Proofs.Ytcbnfkbnbdbfoaa
set_option linter.unusedSimpArgs false
set_option linter.unusedVariables false
set_option linter.unusedSimpArgs false
set_option linter.unusedVariables false
set_option linter.defProp false
set_option maxRecDepth 20000
open Go.RowKit

def gfT (f : FarmD) (k : Nat) : List UInt8 := varB f.N.toNat ++ varB f.Ends.length ++ (f.Shards.take k).flatMap shB
theorem gfT_zero (f : FarmD) : gfT f 0 = varB f.N.toNat ++ varB f.Ends.length := by simp [gfT]
theorem gfT_succ {f : FarmD} {k : Nat} (h : k < f.Shards.length) : gfT f (k + 1) = gfT f k ++ shB f.Shards[k] := by
  unfold gfT
  rw [List.take_succ_eq_append_getElem h, List.flatMap_append, ← List.append_assoc]
  simp
theorem gfT_len {f : FarmD} (h : GfOk f) : ∀ k, k ≤ f.Shards.length → (gfT f k).length ≤ 14 + 21 * k + 28 * edSum (f.Shards.take k)
  | 0, _ => by
    have := h.n
    have a := varB_len7 (n := f.N.toNat) (by omega)
    have b := varB_len7 (n := f.Ends.length) (by have := h.e; have := h.l; omega)
    rw [gfT_zero, List.length_append]; omega
  | k + 1, hk => by
    have ih := gfT_len h k (by omega)
    have := shB_len (h.s k (by omega))
    rw [gfT_succ (by omega), List.length_append, edSum_snoc (by omega)]; omega
theorem gfT_max {f : FarmD} (h : GfOk f) {k : Nat} (hk : k ≤ f.Shards.length) : (gfT f k).length ≤ 20000 := by
  have a := gfT_len h k hk
  have b := edSum_le f.Shards k
  have := h.l
  have := h.c
  omega
def gfD (f : FarmD) : List UInt8 := gfT f f.Shards.length
noncomputable def gfB (f : FarmD) : Bool := if pB (FarmOk f) then frO 1 (gfD f) else false
noncomputable def gfR (f : FarmD) : List UInt8 := if pB (FarmOk f) then fbR 1 (gfD f) else []
theorem gf_yes {f : FarmD} (h : FarmOk f) : gfB f = frO 1 (gfD f) ∧ gfR f = fbR 1 (gfD f) := by
  unfold gfB gfR; rw [pB_t h]; exact ⟨rfl, rfl⟩
theorem gf_no {f : FarmD} (h : ¬ FarmOk f) : gfB f = false ∧ gfR f = [] := by
  unfold gfB gfR; rw [pB_f h]; exact ⟨rfl, rfl⟩

end Go.Proofs.Ytcbnfkbnbdbfoaa
