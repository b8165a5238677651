/-
  The engine, texts G4d H3d G5d H2d G3d in one. No conditions of its own.
-/
import Derived.Test.YtfnhchcgieeedaaS1
namespace Go.Proofs.Ytfnhchcgieeedaa
set_option linter.unusedSimpArgs false
set_option linter.unusedVariables false
set_option linter.unusedSimpArgs false
set_option linter.unusedVariables false
set_option linter.defProp false
open Go.RowKit

structure EdgeD where
  From : Int
  To : Int
  W : Int
deriving DecidableEq

def EdgeD.k (x : EdgeD) : List DC := [.v (.int .i64 x.From), .v (.int .i64 x.To), .v (.int .i64 x.W)]
def EdgeD.s (x : EdgeD) : List CV := [.v (.int .i64 x.From), .v (.int .i64 x.To), .v (.int .i64 x.W)]
theorem flat_Edge (l : List EdgeD) : ∀ e ∈ l.map EdgeD.k, ∀ c ∈ e, DC.flat c := flat_map (fun x c hc => by simp only [EdgeD.k, List.mem_cons, List.not_mem_nil, or_false] at hc; rcases hc with rfl | rfl | rfl <;> exact ⟨_, rfl, rfl⟩) l
/-- marked cells -/
def EdgeD.q (q : Nat) : List DC := [.v (.int .i64 ((q : Int))), .v (.int .i64 ((q : Int) + 1)), .v (.int .i64 ((q : Int) + 1 + 1))]
def EdgeD.g (k i : Nat) : List DC := EdgeD.q (k + 3 * i)

end Go.Proofs.Ytfnhchcgieeedaa

namespace Go.Proofs.Ytfnhchcgieeedaa
set_option linter.unusedSimpArgs false
set_option linter.unusedVariables false
set_option linter.defProp false
open Go.RowKit

structure GraphD where
  N : Int
  Edges : List EdgeD
deriving DecidableEq

end Go.Proofs.Ytfnhchcgieeedaa

namespace Go.Proofs.Ytfnhchcgieeedaa
set_option linter.unusedSimpArgs false
set_option linter.unusedVariables false
set_option linter.defProp false
open Go.RowKit

structure JobD where
  Prog : Int
  Src : Int
deriving DecidableEq

def JobD.k (x : JobD) : List DC := [.v (.int .i64 x.Prog), .v (.int .i64 x.Src)]
def JobD.s (x : JobD) : List CV := [.v (.int .i64 x.Prog), .v (.int .i64 x.Src)]
theorem flat_Job (l : List JobD) : ∀ e ∈ l.map JobD.k, ∀ c ∈ e, DC.flat c := flat_map (fun x c hc => by simp only [JobD.k, List.mem_cons, List.not_mem_nil, or_false] at hc; rcases hc with rfl | rfl <;> exact ⟨_, rfl, rfl⟩) l
/-- marked cells -/
def JobD.q (q : Nat) : List DC := [.v (.int .i64 ((q : Int))), .v (.int .i64 ((q : Int) + 1))]
def JobD.g (k i : Nat) : List DC := JobD.q (k + 2 * i)

structure CommitD where
  Epoch : Int
  Graph : Int
  GSum : Int
  Has : Bool
  VSum : Int
deriving DecidableEq

def CommitD.k (x : CommitD) : List DC := [.v (.int .i64 x.Epoch), .v (.int .i64 x.Graph), .v (.int .i64 x.GSum), .v (.bool x.Has), .v (.int .i64 x.VSum)]
def CommitD.s (x : CommitD) : List CV := [.v (.int .i64 x.Epoch), .v (.int .i64 x.Graph), .v (.int .i64 x.GSum), .v (.bool x.Has), .v (.int .i64 x.VSum)]
theorem flat_Commit (l : List CommitD) : ∀ e ∈ l.map CommitD.k, ∀ c ∈ e, DC.flat c := flat_map (fun x c hc => by simp only [CommitD.k, List.mem_cons, List.not_mem_nil, or_false] at hc; rcases hc with rfl | rfl | rfl | rfl | rfl <;> exact ⟨_, rfl, rfl⟩) l
/-- marked cells -/
def CommitD.q (q : Nat) : List DC := [.v (.int .i64 ((q : Int))), .v (.int .i64 ((q : Int) + 1)), .v (.int .i64 ((q : Int) + 1 + 1)), .v (.bool (((q : Int) + 1 + 1 + 1) % 3 == 0)), .v (.int .i64 ((q : Int) + 1 + 1 + 1 + 1))]
def CommitD.g (k i : Nat) : List DC := CommitD.q (k + 5 * i)

end Go.Proofs.Ytfnhchcgieeedaa

namespace Go.Proofs.Ytfnhchcgieeedaa
set_option linter.unusedSimpArgs false
set_option linter.unusedVariables false
set_option linter.defProp false
open Go.RowKit

structure SetD where
  N : Int
  Bits : List UInt8
deriving DecidableEq

structure RunD where
  Job : JobD
  Iter : Int
  Done : Bool
  Vals : List Int
  EVals : List Int
  Next : SetD
deriving DecidableEq

structure ValuesD where
  Job : JobD
  Iter : Int
  Vals : List Int
  EVals : List Int
  Next : SetD
deriving DecidableEq

end Go.Proofs.Ytfnhchcgieeedaa

namespace Go.Proofs.Ytfnhchcgieeedaa
set_option linter.unusedSimpArgs false
set_option linter.unusedVariables false
set_option linter.defProp false
open Go.RowKit

structure ViewD where
  In : Bool
  Out : Bool
  W : Int
  Val : Int
deriving DecidableEq

def ViewD.k (x : ViewD) : List DC := [.v (.bool x.In), .v (.bool x.Out), .v (.int .i64 x.W), .v (.int .i64 x.Val)]
def ViewD.s (x : ViewD) : List CV := [.v (.bool x.In), .v (.bool x.Out), .v (.int .i64 x.W), .v (.int .i64 x.Val)]
theorem flat_View (l : List ViewD) : ∀ e ∈ l.map ViewD.k, ∀ c ∈ e, DC.flat c := flat_map (fun x c hc => by simp only [ViewD.k, List.mem_cons, List.not_mem_nil, or_false] at hc; rcases hc with rfl | rfl | rfl | rfl <;> exact ⟨_, rfl, rfl⟩) l
/-- marked cells -/
def ViewD.q (q : Nat) : List DC := [.v (.bool (((q : Int)) % 3 == 0)), .v (.bool (((q : Int) + 1) % 3 == 0)), .v (.int .i64 ((q : Int) + 1 + 1)), .v (.int .i64 ((q : Int) + 1 + 1 + 1))]
def ViewD.g (k i : Nat) : List DC := ViewD.q (k + 4 * i)

end Go.Proofs.Ytfnhchcgieeedaa
