/-
  Data of Job, Commit. No conditions of its own.
-/
import Derived.Test.YtfkpmhnfpljakaaS1
namespace Go.Proofs.Ytfkpmhnfpljakaa
set_option linter.unusedSimpArgs false
set_option linter.unusedVariables false
set_option linter.unusedSimpArgs false
set_option linter.unusedVariables false
set_option linter.defProp false
open Go.RowKit

structure JobD where
  Prog : Int
  Src : Int
deriving DecidableEq

def JobD.k (x : JobD) : List DC := [.v (.int .i64 x.Prog), .v (.int .i64 x.Src)]
def JobD.s (x : JobD) : List CV := [.v (.int .i64 x.Prog), .v (.int .i64 x.Src)]
theorem flat_Job (l : List JobD) : ∀ e ∈ l.map JobD.k, ∀ c ∈ e, DC.flat c := flat_map (fun x c hc => by simp only [JobD.k, List.mem_cons, List.not_mem_nil, or_false] at hc; rcases hc with rfl | rfl <;> exact ⟨_, rfl, rfl⟩) l
/-- marked cells -/
def JobD.q (q : Nat) : List DC := [.v (.int .i64 ((q : Int))), .v (.int .i64 ((q : Int) + 1))]
def JobD.g (k i : Nat) : List DC := JobD.q (k + 2 * i)

structure CommitD where
  Epoch : Int
  Graph : Int
  GSum : Int
  Has : Bool
  VSum : Int
deriving DecidableEq

def CommitD.k (x : CommitD) : List DC := [.v (.int .i64 x.Epoch), .v (.int .i64 x.Graph), .v (.int .i64 x.GSum), .v (.bool x.Has), .v (.int .i64 x.VSum)]
def CommitD.s (x : CommitD) : List CV := [.v (.int .i64 x.Epoch), .v (.int .i64 x.Graph), .v (.int .i64 x.GSum), .v (.bool x.Has), .v (.int .i64 x.VSum)]
theorem flat_Commit (l : List CommitD) : ∀ e ∈ l.map CommitD.k, ∀ c ∈ e, DC.flat c := flat_map (fun x c hc => by simp only [CommitD.k, List.mem_cons, List.not_mem_nil, or_false] at hc; rcases hc with rfl | rfl | rfl | rfl | rfl <;> exact ⟨_, rfl, rfl⟩) l
/-- marked cells -/
def CommitD.q (q : Nat) : List DC := [.v (.int .i64 ((q : Int))), .v (.int .i64 ((q : Int) + 1)), .v (.int .i64 ((q : Int) + 1 + 1)), .v (.bool (((q : Int) + 1 + 1 + 1) % 3 == 0)), .v (.int .i64 ((q : Int) + 1 + 1 + 1 + 1))]
def CommitD.g (k i : Nat) : List DC := CommitD.q (k + 5 * i)

end Go.Proofs.Ytfkpmhnfpljakaa
