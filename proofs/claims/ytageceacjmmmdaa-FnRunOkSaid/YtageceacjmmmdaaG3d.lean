/-
  Data of View. No conditions of its own.
-/
import Derived.Test.YtageceacjmmmdaaS1
namespace Go.Proofs.Ytageceacjmmmdaa
set_option linter.unusedSimpArgs false
set_option linter.unusedVariables false
set_option linter.unusedSimpArgs false
set_option linter.unusedVariables false
set_option linter.defProp false
open Go.RowKit

structure ViewD where
  In : Bool
  Out : Bool
  W : Int
  Val : Int
deriving DecidableEq

def ViewD.k (x : ViewD) : List DC := [.v (.bool x.In), .v (.bool x.Out), .v (.int .i64 x.W), .v (.int .i64 x.Val)]
def ViewD.s (x : ViewD) : List CV := [.v (.bool x.In), .v (.bool x.Out), .v (.int .i64 x.W), .v (.int .i64 x.Val)]
theorem flat_View (l : List ViewD) : ∀ e ∈ l.map ViewD.k, ∀ c ∈ e, DC.flat c := flat_map (fun x c hc => by simp only [ViewD.k, List.mem_cons, List.not_mem_nil, or_false] at hc; rcases hc with rfl | rfl | rfl | rfl <;> exact ⟨_, rfl, rfl⟩) l
/-- marked cells -/
def ViewD.q (q : Nat) : List DC := [.v (.bool (((q : Int)) % 3 == 0)), .v (.bool (((q : Int) + 1) % 3 == 0)), .v (.int .i64 ((q : Int) + 1 + 1)), .v (.int .i64 ((q : Int) + 1 + 1 + 1))]
def ViewD.g (k i : Nat) : List DC := ViewD.q (k + 4 * i)

end Go.Proofs.Ytageceacjmmmdaa
