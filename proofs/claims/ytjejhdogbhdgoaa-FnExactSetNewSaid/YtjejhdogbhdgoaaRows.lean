/-
  No cell of these rows narrows 'for every input' (looked for: loops, veiled, ifaces, maps, wideKeys, modest, calm, conditions, laid).
  DERIVED. THE GIVEN ROWS OF THIS SEAT. 12 by the template 'for every input the law returns true; each argument reads behind the call as it read before'; 0 by the template 'total and deterministic' (their statements: YtjejhdogbhdgoaaTotals.lean).
  GIVEN WITH THE SEED: the statements are not yours to turn. If you find one false, say at which input.
  Laid BY PROGRAM, IN A SANDBOX (cutbox-rows.mjs): the forced cells as the released guide's own fill.sh prints them over the translation 8e84221ccf00c572… (all of the seat's roots in one cut). By AI agents, Wed Nov 11 2026. No macro, syntax, notation, axiom, sorry.
-/
import Derived.Test.YtjejhdogbhdgoaaChecked
import GoSem.Claim
import GoSem.ClaimJoined
import GoSem.ClaimMapViews
import Derived.JoinedTies
import Derived.KernelRfl
namespace Go.Proofs.Ytjejhdogbhdgoaa
/- THE CELL 'sum', in the pinned program and in every row, IS THE sha256 OF THE DUMP (.gsa) THAT YtjejhdogbhdgoaaProg.lean LOADS. Nothing in Lean hashes anything: it is a label: what it is worth is what the hold of that sum in a sandbox is worth. -/
noncomputable def Try.pinned : Pinned := { name := "ytjejhdogbhdgoaa", sum := "8e84221ccf00c57250f67655f2fbea4f1e65400937f2d6367d217becd0d71c05", checked := Try.checked }
namespace Rows
def none {H : Type} : Left H := { results := [], args := [] }

/-- 'laws.FnExactAddCap': WHATEVER THE INPUT: true; the input reads as it did. -/
def fnExactAddCapSpec : ChangeSpec := { name := "fnExactAddCap", fn := fun _ => fun
  | [d1, d2] => { results := [.lit (.bool true)], args := [d1, d2] }
  | _ => none }
def fnExactAddCapRow : OpenClaim := { program := "ytjejhdogbhdgoaa", sum := "8e84221ccf00c57250f67655f2fbea4f1e65400937f2d6367d217becd0d71c05", func := "loop.example/g00671/laws.FnExactAddCap", spec := "fnExactAddCap", apart := false }
def FnExactAddCapSaid : Prop := fnExactAddCapRow.holds Try.pinned (OpenSpec.ofChange fnExactAddCapSpec)

/-- ITS FALSE NEIGHBOUR: 'it returns false'. Refute it at one input. -/
def fnExactAddCapWrong : ChangeSpec := { name := "fnExactAddCap", fn := fun _ => fun
  | [d1, d2] => { results := [.lit (.bool false)], args := [d1, d2] }
  | _ => none }
def FnExactAddCapWrongFalsely : Prop := fnExactAddCapRow.holds Try.pinned (OpenSpec.ofChange fnExactAddCapWrong)

/-- 'laws.FnExactCommitOk': WHATEVER THE INPUT: true; the input reads as it did. -/
def fnExactCommitOkSpec : ChangeSpec := { name := "fnExactCommitOk", fn := fun _ => fun
  | [d] => { results := [.lit (.bool true)], args := [d] }
  | _ => none }
def fnExactCommitOkRow : OpenClaim := { program := "ytjejhdogbhdgoaa", sum := "8e84221ccf00c57250f67655f2fbea4f1e65400937f2d6367d217becd0d71c05", func := "loop.example/g00671/laws.FnExactCommitOk", spec := "fnExactCommitOk", apart := false }
def FnExactCommitOkSaid : Prop := fnExactCommitOkRow.holds Try.pinned (OpenSpec.ofChange fnExactCommitOkSpec)

/-- ITS FALSE NEIGHBOUR: 'it returns false'. Refute it at one input. -/
def fnExactCommitOkWrong : ChangeSpec := { name := "fnExactCommitOk", fn := fun _ => fun
  | [d] => { results := [.lit (.bool false)], args := [d] }
  | _ => none }
def FnExactCommitOkWrongFalsely : Prop := fnExactCommitOkRow.holds Try.pinned (OpenSpec.ofChange fnExactCommitOkWrong)

/-- 'laws.FnExactJobOk': WHATEVER THE INPUT: true; the input reads as it did. -/
def fnExactJobOkSpec : ChangeSpec := { name := "fnExactJobOk", fn := fun _ => fun
  | [d1, d2] => { results := [.lit (.bool true)], args := [d1, d2] }
  | _ => none }
def fnExactJobOkRow : OpenClaim := { program := "ytjejhdogbhdgoaa", sum := "8e84221ccf00c57250f67655f2fbea4f1e65400937f2d6367d217becd0d71c05", func := "loop.example/g00671/laws.FnExactJobOk", spec := "fnExactJobOk", apart := false }
def FnExactJobOkSaid : Prop := fnExactJobOkRow.holds Try.pinned (OpenSpec.ofChange fnExactJobOkSpec)

/-- ITS FALSE NEIGHBOUR: 'it returns false'. Refute it at one input. -/
def fnExactJobOkWrong : ChangeSpec := { name := "fnExactJobOk", fn := fun _ => fun
  | [d1, d2] => { results := [.lit (.bool false)], args := [d1, d2] }
  | _ => none }
def FnExactJobOkWrongFalsely : Prop := fnExactJobOkRow.holds Try.pinned (OpenSpec.ofChange fnExactJobOkWrong)

/-- 'laws.FnExactFirstEdge': WHATEVER THE INPUT: true; the input reads as it did. -/
def fnExactFirstEdgeSpec : ChangeSpec := { name := "fnExactFirstEdge", fn := fun _ => fun
  | [d1, d2, d3, d4] => { results := [.lit (.bool true)], args := [d1, d2, d3, d4] }
  | _ => none }
def fnExactFirstEdgeRow : OpenClaim := { program := "ytjejhdogbhdgoaa", sum := "8e84221ccf00c57250f67655f2fbea4f1e65400937f2d6367d217becd0d71c05", func := "loop.example/g00671/laws.FnExactFirstEdge", spec := "fnExactFirstEdge", apart := false }
def FnExactFirstEdgeSaid : Prop := fnExactFirstEdgeRow.holds Try.pinned (OpenSpec.ofChange fnExactFirstEdgeSpec)

/-- ITS FALSE NEIGHBOUR: 'it returns false'. Refute it at one input. -/
def fnExactFirstEdgeWrong : ChangeSpec := { name := "fnExactFirstEdge", fn := fun _ => fun
  | [d1, d2, d3, d4] => { results := [.lit (.bool false)], args := [d1, d2, d3, d4] }
  | _ => none }
def FnExactFirstEdgeWrongFalsely : Prop := fnExactFirstEdgeRow.holds Try.pinned (OpenSpec.ofChange fnExactFirstEdgeWrong)

/-- 'laws.FnExactFirstVal': WHATEVER THE INPUT: true; the input reads as it did. -/
def fnExactFirstValSpec : ChangeSpec := { name := "fnExactFirstVal", fn := fun _ => fun
  | [d1, d2] => { results := [.lit (.bool true)], args := [d1, d2] }
  | _ => none }
def fnExactFirstValRow : OpenClaim := { program := "ytjejhdogbhdgoaa", sum := "8e84221ccf00c57250f67655f2fbea4f1e65400937f2d6367d217becd0d71c05", func := "loop.example/g00671/laws.FnExactFirstVal", spec := "fnExactFirstVal", apart := false }
def FnExactFirstValSaid : Prop := fnExactFirstValRow.holds Try.pinned (OpenSpec.ofChange fnExactFirstValSpec)

/-- ITS FALSE NEIGHBOUR: 'it returns false'. Refute it at one input. -/
def fnExactFirstValWrong : ChangeSpec := { name := "fnExactFirstVal", fn := fun _ => fun
  | [d1, d2] => { results := [.lit (.bool false)], args := [d1, d2] }
  | _ => none }
def FnExactFirstValWrongFalsely : Prop := fnExactFirstValRow.holds Try.pinned (OpenSpec.ofChange fnExactFirstValWrong)

/-- 'laws.FnExactSetOk': WHATEVER THE INPUT: true; the input reads as it did. -/
def fnExactSetOkSpec : ChangeSpec := { name := "fnExactSetOk", fn := fun _ => fun
  | [d] => { results := [.lit (.bool true)], args := [d] }
  | _ => none }
def fnExactSetOkRow : OpenClaim := { program := "ytjejhdogbhdgoaa", sum := "8e84221ccf00c57250f67655f2fbea4f1e65400937f2d6367d217becd0d71c05", func := "loop.example/g00671/laws.FnExactSetOk", spec := "fnExactSetOk", apart := false }
def FnExactSetOkSaid : Prop := fnExactSetOkRow.holds Try.pinned (OpenSpec.ofChange fnExactSetOkSpec)

/-- ITS FALSE NEIGHBOUR: 'it returns false'. Refute it at one input. -/
def fnExactSetOkWrong : ChangeSpec := { name := "fnExactSetOk", fn := fun _ => fun
  | [d] => { results := [.lit (.bool false)], args := [d] }
  | _ => none }
def FnExactSetOkWrongFalsely : Prop := fnExactSetOkRow.holds Try.pinned (OpenSpec.ofChange fnExactSetOkWrong)

/-- 'laws.FnExactHas': WHATEVER THE INPUT: true; the input reads as it did. -/
def fnExactHasSpec : ChangeSpec := { name := "fnExactHas", fn := fun _ => fun
  | [d1, d2] => { results := [.lit (.bool true)], args := [d1, d2] }
  | _ => none }
def fnExactHasRow : OpenClaim := { program := "ytjejhdogbhdgoaa", sum := "8e84221ccf00c57250f67655f2fbea4f1e65400937f2d6367d217becd0d71c05", func := "loop.example/g00671/laws.FnExactHas", spec := "fnExactHas", apart := false }
def FnExactHasSaid : Prop := fnExactHasRow.holds Try.pinned (OpenSpec.ofChange fnExactHasSpec)

/-- ITS FALSE NEIGHBOUR: 'it returns false'. Refute it at one input. -/
def fnExactHasWrong : ChangeSpec := { name := "fnExactHas", fn := fun _ => fun
  | [d1, d2] => { results := [.lit (.bool false)], args := [d1, d2] }
  | _ => none }
def FnExactHasWrongFalsely : Prop := fnExactHasRow.holds Try.pinned (OpenSpec.ofChange fnExactHasWrong)

/-- 'laws.FnExactSetNew': WHATEVER THE INPUT: true; the input reads as it did. -/
def fnExactSetNewSpec : ChangeSpec := { name := "fnExactSetNew", fn := fun _ => fun
  | [d1, d2] => { results := [.lit (.bool true)], args := [d1, d2] }
  | _ => none }
def fnExactSetNewRow : OpenClaim := { program := "ytjejhdogbhdgoaa", sum := "8e84221ccf00c57250f67655f2fbea4f1e65400937f2d6367d217becd0d71c05", func := "loop.example/g00671/laws.FnExactSetNew", spec := "fnExactSetNew", apart := false }
def FnExactSetNewSaid : Prop := fnExactSetNewRow.holds Try.pinned (OpenSpec.ofChange fnExactSetNewSpec)

/-- ITS FALSE NEIGHBOUR: 'it returns false'. Refute it at one input. -/
def fnExactSetNewWrong : ChangeSpec := { name := "fnExactSetNew", fn := fun _ => fun
  | [d1, d2] => { results := [.lit (.bool false)], args := [d1, d2] }
  | _ => none }
def FnExactSetNewWrongFalsely : Prop := fnExactSetNewRow.holds Try.pinned (OpenSpec.ofChange fnExactSetNewWrong)

/-- 'laws.FnExactDigest': WHATEVER THE INPUT: true; the input reads as it did. -/
def fnExactDigestSpec : ChangeSpec := { name := "fnExactDigest", fn := fun _ => fun
  | [d] => { results := [.lit (.bool true)], args := [d] }
  | _ => none }
def fnExactDigestRow : OpenClaim := { program := "ytjejhdogbhdgoaa", sum := "8e84221ccf00c57250f67655f2fbea4f1e65400937f2d6367d217becd0d71c05", func := "loop.example/g00671/laws.FnExactDigest", spec := "fnExactDigest", apart := false }
def FnExactDigestSaid : Prop := fnExactDigestRow.holds Try.pinned (OpenSpec.ofChange fnExactDigestSpec)

/-- ITS FALSE NEIGHBOUR: 'it returns false'. Refute it at one input. -/
def fnExactDigestWrong : ChangeSpec := { name := "fnExactDigest", fn := fun _ => fun
  | [d] => { results := [.lit (.bool false)], args := [d] }
  | _ => none }
def FnExactDigestWrongFalsely : Prop := fnExactDigestRow.holds Try.pinned (OpenSpec.ofChange fnExactDigestWrong)

/-- 'laws.FnExactMembers': WHATEVER THE INPUT: true; the input reads as it did. -/
def fnExactMembersSpec : ChangeSpec := { name := "fnExactMembers", fn := fun _ => fun
  | [d] => { results := [.lit (.bool true)], args := [d] }
  | _ => none }
def fnExactMembersRow : OpenClaim := { program := "ytjejhdogbhdgoaa", sum := "8e84221ccf00c57250f67655f2fbea4f1e65400937f2d6367d217becd0d71c05", func := "loop.example/g00671/laws.FnExactMembers", spec := "fnExactMembers", apart := false }
def FnExactMembersSaid : Prop := fnExactMembersRow.holds Try.pinned (OpenSpec.ofChange fnExactMembersSpec)

/-- ITS FALSE NEIGHBOUR: 'it returns false'. Refute it at one input. -/
def fnExactMembersWrong : ChangeSpec := { name := "fnExactMembers", fn := fun _ => fun
  | [d] => { results := [.lit (.bool false)], args := [d] }
  | _ => none }
def FnExactMembersWrongFalsely : Prop := fnExactMembersRow.holds Try.pinned (OpenSpec.ofChange fnExactMembersWrong)

/-- 'laws.FnExactWithout': WHATEVER THE INPUT: true; the input reads as it did. -/
def fnExactWithoutSpec : ChangeSpec := { name := "fnExactWithout", fn := fun _ => fun
  | [d1, d2] => { results := [.lit (.bool true)], args := [d1, d2] }
  | _ => none }
def fnExactWithoutRow : OpenClaim := { program := "ytjejhdogbhdgoaa", sum := "8e84221ccf00c57250f67655f2fbea4f1e65400937f2d6367d217becd0d71c05", func := "loop.example/g00671/laws.FnExactWithout", spec := "fnExactWithout", apart := false }
def FnExactWithoutSaid : Prop := fnExactWithoutRow.holds Try.pinned (OpenSpec.ofChange fnExactWithoutSpec)

/-- ITS FALSE NEIGHBOUR: 'it returns false'. Refute it at one input. -/
def fnExactWithoutWrong : ChangeSpec := { name := "fnExactWithout", fn := fun _ => fun
  | [d1, d2] => { results := [.lit (.bool false)], args := [d1, d2] }
  | _ => none }
def FnExactWithoutWrongFalsely : Prop := fnExactWithoutRow.holds Try.pinned (OpenSpec.ofChange fnExactWithoutWrong)

/-- 'laws.FnExactWith': WHATEVER THE INPUT: true; the input reads as it did. -/
def fnExactWithSpec : ChangeSpec := { name := "fnExactWith", fn := fun _ => fun
  | [d1, d2] => { results := [.lit (.bool true)], args := [d1, d2] }
  | _ => none }
def fnExactWithRow : OpenClaim := { program := "ytjejhdogbhdgoaa", sum := "8e84221ccf00c57250f67655f2fbea4f1e65400937f2d6367d217becd0d71c05", func := "loop.example/g00671/laws.FnExactWith", spec := "fnExactWith", apart := false }
def FnExactWithSaid : Prop := fnExactWithRow.holds Try.pinned (OpenSpec.ofChange fnExactWithSpec)

/-- ITS FALSE NEIGHBOUR: 'it returns false'. Refute it at one input. -/
def fnExactWithWrong : ChangeSpec := { name := "fnExactWith", fn := fun _ => fun
  | [d1, d2] => { results := [.lit (.bool false)], args := [d1, d2] }
  | _ => none }
def FnExactWithWrongFalsely : Prop := fnExactWithRow.holds Try.pinned (OpenSpec.ofChange fnExactWithWrong)

/- THE SECOND FORM. 'bulk': how many values and letters a reading holds, each counted each time it is reached (what is shared counts as often as it is met; a slice's spare places count too). A statement '..UptoSaid' is the law's where the arguments, and the package variables that the reading takes, are together of bulk at most 1048576: NARROWER than '..Said'. Prove '..Said' where nothing that the law and all that it calls make is longer than what came in: it says more and counts as full. Else prove '..UptoSaid'. A law counts once. -/
mutual
def uptoBulk {H : Type} : DataW H → Nat
  | .lit (.string bytes) => bytes.length + 1
  | .lit _ => 1
  | .nil => 1
  | .ptr d => uptoBulk d + 1
  | .slice elems spare => uptoBulkAll elems + uptoBulkAll spare + 1
  | .agg parts => uptoBulkAll parts + 1
  | .iface _ d => uptoBulk d + 1
  | .map entries => uptoBulkEntries entries + 1
  | .held _ => 1
def uptoBulkAll {H : Type} : List (DataW H) → Nat
  | [] => 0
  | d :: r => uptoBulk d + uptoBulkAll r
def uptoBulkEntries {H : Type} : List (Lit × DataW H) → Nat
  | [] => 0
  | x :: r => uptoBulkEntry x + uptoBulkEntries r
def uptoBulkEntry {H : Type} : Lit × DataW H → Nat
  | (.string bytes, d) => bytes.length + uptoBulk d + 1
  | (_, d) => uptoBulk d + 1
 end
def uptoSmall : (H : Type) → List (DataW H) → Bool := fun _ ds => decide (uptoBulkAll ds ≤ 1048576)
def OpenSpec.upto (s : _root_.Go.ChangeSpec) : _root_.Go.OpenSpec := { _root_.Go.OpenSpec.ofChange s with cond := some uptoSmall }

/-- 'laws.FnExactAddCap', WHERE WHAT IT READS IS OF BULK AT MOST 1048576: true; the input reads as it did. -/
def fnExactAddCapUptoRow : OpenClaim := { program := "ytjejhdogbhdgoaa", sum := "8e84221ccf00c57250f67655f2fbea4f1e65400937f2d6367d217becd0d71c05", func := "loop.example/g00671/laws.FnExactAddCap", spec := "fnExactAddCap", apart := false, narrowed := true }
def FnExactAddCapUptoSaid : Prop := fnExactAddCapUptoRow.holds Try.pinned (OpenSpec.upto fnExactAddCapSpec)

/-- 'laws.FnExactCommitOk', WHERE WHAT IT READS IS OF BULK AT MOST 1048576: true; the input reads as it did. -/
def fnExactCommitOkUptoRow : OpenClaim := { program := "ytjejhdogbhdgoaa", sum := "8e84221ccf00c57250f67655f2fbea4f1e65400937f2d6367d217becd0d71c05", func := "loop.example/g00671/laws.FnExactCommitOk", spec := "fnExactCommitOk", apart := false, narrowed := true }
def FnExactCommitOkUptoSaid : Prop := fnExactCommitOkUptoRow.holds Try.pinned (OpenSpec.upto fnExactCommitOkSpec)

/-- 'laws.FnExactJobOk', WHERE WHAT IT READS IS OF BULK AT MOST 1048576: true; the input reads as it did. -/
def fnExactJobOkUptoRow : OpenClaim := { program := "ytjejhdogbhdgoaa", sum := "8e84221ccf00c57250f67655f2fbea4f1e65400937f2d6367d217becd0d71c05", func := "loop.example/g00671/laws.FnExactJobOk", spec := "fnExactJobOk", apart := false, narrowed := true }
def FnExactJobOkUptoSaid : Prop := fnExactJobOkUptoRow.holds Try.pinned (OpenSpec.upto fnExactJobOkSpec)

/-- 'laws.FnExactFirstEdge', WHERE WHAT IT READS IS OF BULK AT MOST 1048576: true; the input reads as it did. -/
def fnExactFirstEdgeUptoRow : OpenClaim := { program := "ytjejhdogbhdgoaa", sum := "8e84221ccf00c57250f67655f2fbea4f1e65400937f2d6367d217becd0d71c05", func := "loop.example/g00671/laws.FnExactFirstEdge", spec := "fnExactFirstEdge", apart := false, narrowed := true }
def FnExactFirstEdgeUptoSaid : Prop := fnExactFirstEdgeUptoRow.holds Try.pinned (OpenSpec.upto fnExactFirstEdgeSpec)

/-- 'laws.FnExactFirstVal', WHERE WHAT IT READS IS OF BULK AT MOST 1048576: true; the input reads as it did. -/
def fnExactFirstValUptoRow : OpenClaim := { program := "ytjejhdogbhdgoaa", sum := "8e84221ccf00c57250f67655f2fbea4f1e65400937f2d6367d217becd0d71c05", func := "loop.example/g00671/laws.FnExactFirstVal", spec := "fnExactFirstVal", apart := false, narrowed := true }
def FnExactFirstValUptoSaid : Prop := fnExactFirstValUptoRow.holds Try.pinned (OpenSpec.upto fnExactFirstValSpec)

/-- 'laws.FnExactSetOk', WHERE WHAT IT READS IS OF BULK AT MOST 1048576: true; the input reads as it did. -/
def fnExactSetOkUptoRow : OpenClaim := { program := "ytjejhdogbhdgoaa", sum := "8e84221ccf00c57250f67655f2fbea4f1e65400937f2d6367d217becd0d71c05", func := "loop.example/g00671/laws.FnExactSetOk", spec := "fnExactSetOk", apart := false, narrowed := true }
def FnExactSetOkUptoSaid : Prop := fnExactSetOkUptoRow.holds Try.pinned (OpenSpec.upto fnExactSetOkSpec)

/-- 'laws.FnExactHas', WHERE WHAT IT READS IS OF BULK AT MOST 1048576: true; the input reads as it did. -/
def fnExactHasUptoRow : OpenClaim := { program := "ytjejhdogbhdgoaa", sum := "8e84221ccf00c57250f67655f2fbea4f1e65400937f2d6367d217becd0d71c05", func := "loop.example/g00671/laws.FnExactHas", spec := "fnExactHas", apart := false, narrowed := true }
def FnExactHasUptoSaid : Prop := fnExactHasUptoRow.holds Try.pinned (OpenSpec.upto fnExactHasSpec)

/-- 'laws.FnExactSetNew', WHERE WHAT IT READS IS OF BULK AT MOST 1048576: true; the input reads as it did. -/
def fnExactSetNewUptoRow : OpenClaim := { program := "ytjejhdogbhdgoaa", sum := "8e84221ccf00c57250f67655f2fbea4f1e65400937f2d6367d217becd0d71c05", func := "loop.example/g00671/laws.FnExactSetNew", spec := "fnExactSetNew", apart := false, narrowed := true }
def FnExactSetNewUptoSaid : Prop := fnExactSetNewUptoRow.holds Try.pinned (OpenSpec.upto fnExactSetNewSpec)

/-- 'laws.FnExactDigest', WHERE WHAT IT READS IS OF BULK AT MOST 1048576: true; the input reads as it did. -/
def fnExactDigestUptoRow : OpenClaim := { program := "ytjejhdogbhdgoaa", sum := "8e84221ccf00c57250f67655f2fbea4f1e65400937f2d6367d217becd0d71c05", func := "loop.example/g00671/laws.FnExactDigest", spec := "fnExactDigest", apart := false, narrowed := true }
def FnExactDigestUptoSaid : Prop := fnExactDigestUptoRow.holds Try.pinned (OpenSpec.upto fnExactDigestSpec)

/-- 'laws.FnExactMembers', WHERE WHAT IT READS IS OF BULK AT MOST 1048576: true; the input reads as it did. -/
def fnExactMembersUptoRow : OpenClaim := { program := "ytjejhdogbhdgoaa", sum := "8e84221ccf00c57250f67655f2fbea4f1e65400937f2d6367d217becd0d71c05", func := "loop.example/g00671/laws.FnExactMembers", spec := "fnExactMembers", apart := false, narrowed := true }
def FnExactMembersUptoSaid : Prop := fnExactMembersUptoRow.holds Try.pinned (OpenSpec.upto fnExactMembersSpec)

/-- 'laws.FnExactWithout', WHERE WHAT IT READS IS OF BULK AT MOST 1048576: true; the input reads as it did. -/
def fnExactWithoutUptoRow : OpenClaim := { program := "ytjejhdogbhdgoaa", sum := "8e84221ccf00c57250f67655f2fbea4f1e65400937f2d6367d217becd0d71c05", func := "loop.example/g00671/laws.FnExactWithout", spec := "fnExactWithout", apart := false, narrowed := true }
def FnExactWithoutUptoSaid : Prop := fnExactWithoutUptoRow.holds Try.pinned (OpenSpec.upto fnExactWithoutSpec)

/-- 'laws.FnExactWith', WHERE WHAT IT READS IS OF BULK AT MOST 1048576: true; the input reads as it did. -/
def fnExactWithUptoRow : OpenClaim := { program := "ytjejhdogbhdgoaa", sum := "8e84221ccf00c57250f67655f2fbea4f1e65400937f2d6367d217becd0d71c05", func := "loop.example/g00671/laws.FnExactWith", spec := "fnExactWith", apart := false, narrowed := true }
def FnExactWithUptoSaid : Prop := fnExactWithUptoRow.holds Try.pinned (OpenSpec.upto fnExactWithSpec)

end Rows
end Go.Proofs.Ytjejhdogbhdgoaa
