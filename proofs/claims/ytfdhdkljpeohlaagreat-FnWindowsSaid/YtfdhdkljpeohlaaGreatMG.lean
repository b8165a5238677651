/-
  The engine, texts G0 G1 G2 in one. No conditions of its own.
-/
import Derived.Test.YtfdhdkljpeohlaaGreatGO
import Derived.Test.YtfdhdkljpeohlaaGreatS1
namespace Go.Proofs.YtfdhdkljpeohlaaGreat
set_option linter.unusedSimpArgs false
set_option linter.unusedVariables false
set_option linter.unusedSimpArgs false
set_option linter.unusedVariables false
set_option linter.defProp false
open Go.RowKit

end Go.Proofs.YtfdhdkljpeohlaaGreat
namespace Go.Proofs.YtfdhdkljpeohlaaGreat
set_option linter.unusedSimpArgs false
set_option linter.unusedVariables false
set_option linter.defProp false
open Go.RowKit

structure SEdgeD where
  From : Int
  To : Int
  W : Int
  Index : Int
  Val : Int
deriving DecidableEq

def SEdgeD.k (x : SEdgeD) : List DC := [.v (.int .i64 x.From), .v (.int .i64 x.To), .v (.int .i64 x.W), .v (.int .i64 x.Index), .v (.int .i64 x.Val)]
def SEdgeD.s (x : SEdgeD) : List CV := [.v (.int .i64 x.From), .v (.int .i64 x.To), .v (.int .i64 x.W), .v (.int .i64 x.Index), .v (.int .i64 x.Val)]
theorem flat_SEdge (l : List SEdgeD) : ∀ e ∈ l.map SEdgeD.k, ∀ c ∈ e, DC.flat c := flat_map (fun x c hc => by simp only [SEdgeD.k, List.mem_cons, List.not_mem_nil, or_false] at hc; rcases hc with rfl | rfl | rfl | rfl | rfl <;> exact ⟨_, rfl, rfl⟩) l
/-- marked cells -/
def SEdgeD.q (q : Nat) : List DC := [.v (.int .i64 ((q : Int))), .v (.int .i64 ((q : Int) + 1)), .v (.int .i64 ((q : Int) + 1 + 1)), .v (.int .i64 ((q : Int) + 1 + 1 + 1)), .v (.int .i64 ((q : Int) + 1 + 1 + 1 + 1))]
def SEdgeD.g (k i : Nat) : List DC := SEdgeD.q (k + 5 * i)

end Go.Proofs.YtfdhdkljpeohlaaGreat
namespace Go.Proofs.YtfdhdkljpeohlaaGreat
set_option linter.unusedSimpArgs false
set_option linter.unusedVariables false
set_option linter.defProp false
set_option maxRecDepth 20000
open Go.RowKit

structure LocD where
  Shard : Int
  At : Int
  Edge : SEdgeD
deriving DecidableEq

def LocD.k (x : LocD) : List DC := [.v (.int .i64 x.Shard), .v (.int .i64 x.At), .v (.int .i64 x.Edge.From), .v (.int .i64 x.Edge.To), .v (.int .i64 x.Edge.W), .v (.int .i64 x.Edge.Index), .v (.int .i64 x.Edge.Val)]
def LocD.s (x : LocD) : List CV := [.v (.int .i64 x.Shard), .v (.int .i64 x.At), .v (.int .i64 x.Edge.From), .v (.int .i64 x.Edge.To), .v (.int .i64 x.Edge.W), .v (.int .i64 x.Edge.Index), .v (.int .i64 x.Edge.Val)]
theorem flat_Loc (l : List LocD) : ∀ e ∈ l.map LocD.k, ∀ c ∈ e, DC.flat c := flat_map (fun x c hc => by simp only [LocD.k, List.mem_cons, List.not_mem_nil, or_false] at hc; rcases hc with rfl | rfl | rfl | rfl | rfl | rfl | rfl <;> exact ⟨_, rfl, rfl⟩) l
/-- marked cells -/
def LocD.q (q : Nat) : List DC := [.v (.int .i64 ((q : Int))), .v (.int .i64 ((q : Int) + 1)), .v (.int .i64 ((q : Int) + 1 + 1)), .v (.int .i64 ((q : Int) + 1 + 1 + 1)), .v (.int .i64 ((q : Int) + 1 + 1 + 1 + 1)), .v (.int .i64 ((q : Int) + 1 + 1 + 1 + 1 + 1)), .v (.int .i64 ((q : Int) + 1 + 1 + 1 + 1 + 1 + 1))]
def LocD.g (k i : Nat) : List DC := LocD.q (k + 7 * i)

end Go.Proofs.YtfdhdkljpeohlaaGreat
