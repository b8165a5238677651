/-
  Contracts: a commit's data and its reading. No conditions of its own.
-/
import Derived.Test.YtcbnfkbnbdbfoaaGO
import Derived.Test.YtcbnfkbnbdbfoaaR5
namespace Go.Proofs.Ytcbnfkbnbdbfoaa
set_option linter.unusedSimpArgs false
set_option linter.unusedVariables false
set_option linter.unusedSimpArgs false
set_option linter.unusedVariables false
set_option linter.defProp false
open Go.RowKit

def bitI (x : Bool) : Int := if x then 1 else 0

def datN (c : CommitD) : List Int := [c.Epoch, c.Graph, c.GSum, bitI c.Has, c.VSum]
def datL (c : CommitD) : List UInt8 := (datN c).foldl pvL []
theorem datN_len (c : CommitD) : (datN c).length = 5 := rfl

theorem pvL_len (l : List UInt8) (n : Int) : (pvL l n).length ≤ l.length + 7 := by
  by_cases hn : 0 ≤ n ∧ n ≤ 281474976710655
  · obtain ⟨m, rfl⟩ := Int.eq_ofNat_of_zero_le hn.1
    rw [(pvL_yes (by omega)).1, List.length_append]
    have := varB_len7 (n := m) (by omega)
    omega
  · rw [(pvL_no hn).1]
    simp
theorem pvF_len (ns : List Int) : ∀ l : List UInt8, (ns.foldl pvL l).length ≤ l.length + 7 * ns.length := by
  induction ns with
  | nil => intro l; simp
  | cons n ns ih =>
    intro l
    have h1 := ih (pvL l n)
    have h2 := pvL_len l n
    simp only [List.foldl_cons, List.length_cons]
    omega
theorem pvF_take (ns : List Int) (l : List UInt8) (k : Nat) (h : k < ns.length) : (ns.take (k + 1)).foldl pvL l = pvL ((ns.take k).foldl pvL l) ns[k] := by
  rw [List.take_succ_eq_append_getElem h, List.foldl_append]
  rfl

end Go.Proofs.Ytcbnfkbnbdbfoaa
