/-
  The engine, texts H4 N1 H5 in one. No conditions of its own.
-/
import Derived.Test.YtfdhdkljpeohlaaGreatGO
import Derived.Test.YtfdhdkljpeohlaaGreatMG
namespace Go.Proofs.YtfdhdkljpeohlaaGreat
set_option linter.unusedSimpArgs false
set_option linter.unusedVariables false
set_option linter.unusedSimpArgs false
set_option linter.unusedVariables false
set_option linter.defProp false
open Go.RowKit

structure ShardD where
  Lo : Int
  Hi : Int
  Edges : List SEdgeD
deriving DecidableEq

end Go.Proofs.YtfdhdkljpeohlaaGreat
namespace Go.Proofs.YtfdhdkljpeohlaaGreat
set_option linter.unusedSimpArgs false
set_option linter.unusedVariables false
set_option linter.defProp false
open Go.RowKit

/-- A shard's cells; T: the type of its edges. -/
def ShardD.k (T : Nat) (x : ShardD) : List DC := [.v (.int .i64 x.Lo), .v (.int .i64 x.Hi), .sl T 5 (x.Edges.map SEdgeD.k)]
/-- A marked shard's cells. -/
def ShardD.q (T q n : Nat) : List DC := [.v (.int .i64 (q : Int)), .v (.int .i64 ((q : Int) + 1)), .sl T 5 ((List.range n).map (SEdgeD.g (q + 2)))]
def edSum : List ShardD → Nat
  | [] => 0
  | s :: l => s.Edges.length + edSum l
theorem edSum_snoc : ∀ {l : List ShardD} {k : Nat} (h : k < l.length), edSum (l.take (k + 1)) = edSum (l.take k) + l[k].Edges.length
  | s :: l, 0, h => by simp [edSum]
  | s :: l, k + 1, h => by
    have := edSum_snoc (l := l) (k := k) (by simpa using h)
    simp only [List.take_succ_cons, edSum, List.getElem_cons_succ, this]; omega
theorem edSum_le : ∀ (l : List ShardD) (k : Nat), edSum (l.take k) ≤ edSum l
  | [], k => by simp
  | s :: l, 0 => by simp [edSum]
  | s :: l, k + 1 => by have := edSum_le l k; simp only [List.take_succ_cons, edSum]; omega
theorem set_modify {α : Type} (l : List α) (i : Nat) (a : α) (f : α → α) : (l.set i a).modify i f = l.set i (f a) := by
  apply List.ext_getElem?
  intro j
  rw [List.getElem?_modify, List.getElem?_set, List.getElem?_set]
  by_cases h : i = j
  · subst h; simp
  · simp [h]
theorem modify_set' {α : Type} (l : List α) (i : Nat) (h : i < l.length) (f : α → α) : l.modify i f = l.set i (f l[i]) := by
  apply List.ext_getElem?
  intro j
  rw [List.getElem?_modify, List.getElem?_set]
  by_cases hj : i = j
  · subst hj; simp [h]
  · simp [hj]

end Go.Proofs.YtfdhdkljpeohlaaGreat

namespace Go.Proofs.YtfdhdkljpeohlaaGreat
set_option linter.unusedSimpArgs false
set_option linter.unusedVariables false
set_option linter.defProp false
open Go.RowKit

structure FarmD where
  N : Int
  Ends : List Int
  Shards : List ShardD
deriving DecidableEq

end Go.Proofs.YtfdhdkljpeohlaaGreat
