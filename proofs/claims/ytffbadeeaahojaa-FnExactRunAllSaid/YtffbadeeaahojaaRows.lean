/-
  No cell of these rows narrows 'for every input' (looked for: loops, veiled, ifaces, maps, wideKeys, modest, calm, conditions, laid).
  DERIVED. THE GIVEN ROWS OF THIS SEAT. 5 by the template 'for every input the law returns true; each argument reads behind the call as it read before'; 0 by the template 'total and deterministic' (their statements: YtffbadeeaahojaaTotals.lean).
  GIVEN WITH THE SEED: the statements are not yours to turn. If you find one false, say at which input.
  Laid BY PROGRAM, IN A SANDBOX (cutbox-rows.mjs): the forced cells as the released guide's own fill.sh prints them over the translation f2bf94423e83b956… (all of the seat's roots in one cut). By AI agents, Wed Nov 11 2026. No macro, syntax, notation, axiom, sorry.
-/
import Derived.Test.YtffbadeeaahojaaChecked
import GoSem.Claim
import GoSem.ClaimJoined
import GoSem.ClaimMapViews
import Derived.JoinedTies
import Derived.KernelRfl
namespace Go.Proofs.Ytffbadeeaahojaa
/- THE CELL 'sum', in the pinned program and in every row, IS THE sha256 OF THE DUMP (.gsa) THAT YtffbadeeaahojaaProg.lean LOADS. Nothing in Lean hashes anything: it is a label: what it is worth is what the hold of that sum in a sandbox is worth. -/
noncomputable def Try.pinned : Pinned := { name := "ytffbadeeaahojaa", sum := "f2bf94423e83b956849a327930f32bf5c02b6c68ad05f06436ae27bfd303e539", checked := Try.checked }
namespace Rows
def none {H : Type} : Left H := { results := [], args := [] }

/-- 'laws.FnExactRunVertex': WHATEVER THE INPUT: true; the input reads as it did. -/
def fnExactRunVertexSpec : ChangeSpec := { name := "fnExactRunVertex", fn := fun _ => fun
  | [d1, d2, d3, d4] => { results := [.lit (.bool true)], args := [d1, d2, d3, d4] }
  | _ => none }
def fnExactRunVertexRow : OpenClaim := { program := "ytffbadeeaahojaa", sum := "f2bf94423e83b956849a327930f32bf5c02b6c68ad05f06436ae27bfd303e539", func := "loop.example/g00671/laws.FnExactRunVertex", spec := "fnExactRunVertex", apart := false }
def FnExactRunVertexSaid : Prop := fnExactRunVertexRow.holds Try.pinned (OpenSpec.ofChange fnExactRunVertexSpec)

/-- ITS FALSE NEIGHBOUR: 'it returns false'. Refute it at one input. -/
def fnExactRunVertexWrong : ChangeSpec := { name := "fnExactRunVertex", fn := fun _ => fun
  | [d1, d2, d3, d4] => { results := [.lit (.bool false)], args := [d1, d2, d3, d4] }
  | _ => none }
def FnExactRunVertexWrongFalsely : Prop := fnExactRunVertexRow.holds Try.pinned (OpenSpec.ofChange fnExactRunVertexWrong)

/-- 'laws.FnExactRunIter': WHATEVER THE INPUT: true; the input reads as it did. -/
def fnExactRunIterSpec : ChangeSpec := { name := "fnExactRunIter", fn := fun _ => fun
  | [d1, d2] => { results := [.lit (.bool true)], args := [d1, d2] }
  | _ => none }
def fnExactRunIterRow : OpenClaim := { program := "ytffbadeeaahojaa", sum := "f2bf94423e83b956849a327930f32bf5c02b6c68ad05f06436ae27bfd303e539", func := "loop.example/g00671/laws.FnExactRunIter", spec := "fnExactRunIter", apart := false }
def FnExactRunIterSaid : Prop := fnExactRunIterRow.holds Try.pinned (OpenSpec.ofChange fnExactRunIterSpec)

/-- ITS FALSE NEIGHBOUR: 'it returns false'. Refute it at one input. -/
def fnExactRunIterWrong : ChangeSpec := { name := "fnExactRunIter", fn := fun _ => fun
  | [d1, d2] => { results := [.lit (.bool false)], args := [d1, d2] }
  | _ => none }
def FnExactRunIterWrongFalsely : Prop := fnExactRunIterRow.holds Try.pinned (OpenSpec.ofChange fnExactRunIterWrong)

/-- 'laws.FnExactRunAll': WHATEVER THE INPUT: true; the input reads as it did. -/
def fnExactRunAllSpec : ChangeSpec := { name := "fnExactRunAll", fn := fun _ => fun
  | [d1, d2, d3] => { results := [.lit (.bool true)], args := [d1, d2, d3] }
  | _ => none }
def fnExactRunAllRow : OpenClaim := { program := "ytffbadeeaahojaa", sum := "f2bf94423e83b956849a327930f32bf5c02b6c68ad05f06436ae27bfd303e539", func := "loop.example/g00671/laws.FnExactRunAll", spec := "fnExactRunAll", apart := false }
def FnExactRunAllSaid : Prop := fnExactRunAllRow.holds Try.pinned (OpenSpec.ofChange fnExactRunAllSpec)

/-- ITS FALSE NEIGHBOUR: 'it returns false'. Refute it at one input. -/
def fnExactRunAllWrong : ChangeSpec := { name := "fnExactRunAll", fn := fun _ => fun
  | [d1, d2, d3] => { results := [.lit (.bool false)], args := [d1, d2, d3] }
  | _ => none }
def FnExactRunAllWrongFalsely : Prop := fnExactRunAllRow.holds Try.pinned (OpenSpec.ofChange fnExactRunAllWrong)

/-- 'laws.FnRunOk': WHATEVER THE INPUT: true; the input reads as it did. -/
def fnRunOkSpec : ChangeSpec := { name := "fnRunOk", fn := fun _ => fun
  | [d] => { results := [.lit (.bool true)], args := [d] }
  | _ => none }
def fnRunOkRow : OpenClaim := { program := "ytffbadeeaahojaa", sum := "f2bf94423e83b956849a327930f32bf5c02b6c68ad05f06436ae27bfd303e539", func := "loop.example/g00671/laws.FnRunOk", spec := "fnRunOk", apart := false }
def FnRunOkSaid : Prop := fnRunOkRow.holds Try.pinned (OpenSpec.ofChange fnRunOkSpec)

/-- ITS FALSE NEIGHBOUR: 'it returns false'. Refute it at one input. -/
def fnRunOkWrong : ChangeSpec := { name := "fnRunOk", fn := fun _ => fun
  | [d] => { results := [.lit (.bool false)], args := [d] }
  | _ => none }
def FnRunOkWrongFalsely : Prop := fnRunOkRow.holds Try.pinned (OpenSpec.ofChange fnRunOkWrong)

/-- 'laws.FnFix': WHATEVER THE INPUT: true; the input reads as it did. -/
def fnFixSpec : ChangeSpec := { name := "fnFix", fn := fun _ => fun
  | [d] => { results := [.lit (.bool true)], args := [d] }
  | _ => none }
def fnFixRow : OpenClaim := { program := "ytffbadeeaahojaa", sum := "f2bf94423e83b956849a327930f32bf5c02b6c68ad05f06436ae27bfd303e539", func := "loop.example/g00671/laws.FnFix", spec := "fnFix", apart := false }
def FnFixSaid : Prop := fnFixRow.holds Try.pinned (OpenSpec.ofChange fnFixSpec)

/-- ITS FALSE NEIGHBOUR: 'it returns false'. Refute it at one input. -/
def fnFixWrong : ChangeSpec := { name := "fnFix", fn := fun _ => fun
  | [d] => { results := [.lit (.bool false)], args := [d] }
  | _ => none }
def FnFixWrongFalsely : Prop := fnFixRow.holds Try.pinned (OpenSpec.ofChange fnFixWrong)

/- THE SECOND FORM. 'bulk': how many values and letters a reading holds, each counted each time it is reached (what is shared counts as often as it is met; a slice's spare places count too). A statement '..UptoSaid' is the law's where the arguments, and the package variables that the reading takes, are together of bulk at most 1048576: NARROWER than '..Said'. Prove '..Said' where nothing that the law and all that it calls make is longer than what came in: it says more and counts as full. Else prove '..UptoSaid'. A law counts once. -/
mutual
def uptoBulk {H : Type} : DataW H → Nat
  | .lit (.string bytes) => bytes.length + 1
  | .lit _ => 1
  | .nil => 1
  | .ptr d => uptoBulk d + 1
  | .slice elems spare => uptoBulkAll elems + uptoBulkAll spare + 1
  | .agg parts => uptoBulkAll parts + 1
  | .iface _ d => uptoBulk d + 1
  | .map entries => uptoBulkEntries entries + 1
  | .held _ => 1
def uptoBulkAll {H : Type} : List (DataW H) → Nat
  | [] => 0
  | d :: r => uptoBulk d + uptoBulkAll r
def uptoBulkEntries {H : Type} : List (Lit × DataW H) → Nat
  | [] => 0
  | x :: r => uptoBulkEntry x + uptoBulkEntries r
def uptoBulkEntry {H : Type} : Lit × DataW H → Nat
  | (.string bytes, d) => bytes.length + uptoBulk d + 1
  | (_, d) => uptoBulk d + 1
 end
def uptoSmall : (H : Type) → List (DataW H) → Bool := fun _ ds => decide (uptoBulkAll ds ≤ 1048576)
def OpenSpec.upto (s : _root_.Go.ChangeSpec) : _root_.Go.OpenSpec := { _root_.Go.OpenSpec.ofChange s with cond := some uptoSmall }

/-- 'laws.FnExactRunVertex', WHERE WHAT IT READS IS OF BULK AT MOST 1048576: true; the input reads as it did. -/
def fnExactRunVertexUptoRow : OpenClaim := { program := "ytffbadeeaahojaa", sum := "f2bf94423e83b956849a327930f32bf5c02b6c68ad05f06436ae27bfd303e539", func := "loop.example/g00671/laws.FnExactRunVertex", spec := "fnExactRunVertex", apart := false, narrowed := true }
def FnExactRunVertexUptoSaid : Prop := fnExactRunVertexUptoRow.holds Try.pinned (OpenSpec.upto fnExactRunVertexSpec)

/-- 'laws.FnExactRunIter', WHERE WHAT IT READS IS OF BULK AT MOST 1048576: true; the input reads as it did. -/
def fnExactRunIterUptoRow : OpenClaim := { program := "ytffbadeeaahojaa", sum := "f2bf94423e83b956849a327930f32bf5c02b6c68ad05f06436ae27bfd303e539", func := "loop.example/g00671/laws.FnExactRunIter", spec := "fnExactRunIter", apart := false, narrowed := true }
def FnExactRunIterUptoSaid : Prop := fnExactRunIterUptoRow.holds Try.pinned (OpenSpec.upto fnExactRunIterSpec)

/-- 'laws.FnExactRunAll', WHERE WHAT IT READS IS OF BULK AT MOST 1048576: true; the input reads as it did. -/
def fnExactRunAllUptoRow : OpenClaim := { program := "ytffbadeeaahojaa", sum := "f2bf94423e83b956849a327930f32bf5c02b6c68ad05f06436ae27bfd303e539", func := "loop.example/g00671/laws.FnExactRunAll", spec := "fnExactRunAll", apart := false, narrowed := true }
def FnExactRunAllUptoSaid : Prop := fnExactRunAllUptoRow.holds Try.pinned (OpenSpec.upto fnExactRunAllSpec)

/-- 'laws.FnRunOk', WHERE WHAT IT READS IS OF BULK AT MOST 1048576: true; the input reads as it did. -/
def fnRunOkUptoRow : OpenClaim := { program := "ytffbadeeaahojaa", sum := "f2bf94423e83b956849a327930f32bf5c02b6c68ad05f06436ae27bfd303e539", func := "loop.example/g00671/laws.FnRunOk", spec := "fnRunOk", apart := false, narrowed := true }
def FnRunOkUptoSaid : Prop := fnRunOkUptoRow.holds Try.pinned (OpenSpec.upto fnRunOkSpec)

/-- 'laws.FnFix', WHERE WHAT IT READS IS OF BULK AT MOST 1048576: true; the input reads as it did. -/
def fnFixUptoRow : OpenClaim := { program := "ytffbadeeaahojaa", sum := "f2bf94423e83b956849a327930f32bf5c02b6c68ad05f06436ae27bfd303e539", func := "loop.example/g00671/laws.FnFix", spec := "fnFix", apart := false, narrowed := true }
def FnFixUptoSaid : Prop := fnFixUptoRow.holds Try.pinned (OpenSpec.upto fnFixSpec)

end Rows
end Go.Proofs.Ytffbadeeaahojaa
