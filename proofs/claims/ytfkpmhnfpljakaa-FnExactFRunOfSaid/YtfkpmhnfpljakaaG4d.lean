/-
  Data of Edge. No conditions of its own.
-/
import Derived.Test.YtfkpmhnfpljakaaS1
namespace Go.Proofs.Ytfkpmhnfpljakaa
set_option linter.unusedSimpArgs false
set_option linter.unusedVariables false
set_option linter.unusedSimpArgs false
set_option linter.unusedVariables false
set_option linter.defProp false
open Go.RowKit

structure EdgeD where
  From : Int
  To : Int
  W : Int
deriving DecidableEq

def EdgeD.k (x : EdgeD) : List DC := [.v (.int .i64 x.From), .v (.int .i64 x.To), .v (.int .i64 x.W)]
def EdgeD.s (x : EdgeD) : List CV := [.v (.int .i64 x.From), .v (.int .i64 x.To), .v (.int .i64 x.W)]
theorem flat_Edge (l : List EdgeD) : ∀ e ∈ l.map EdgeD.k, ∀ c ∈ e, DC.flat c := flat_map (fun x c hc => by simp only [EdgeD.k, List.mem_cons, List.not_mem_nil, or_false] at hc; rcases hc with rfl | rfl | rfl <;> exact ⟨_, rfl, rfl⟩) l
/-- marked cells -/
def EdgeD.q (q : Nat) : List DC := [.v (.int .i64 ((q : Int))), .v (.int .i64 ((q : Int) + 1)), .v (.int .i64 ((q : Int) + 1 + 1))]
def EdgeD.g (k i : Nat) : List DC := EdgeD.q (k + 3 * i)

end Go.Proofs.Ytfkpmhnfpljakaa
