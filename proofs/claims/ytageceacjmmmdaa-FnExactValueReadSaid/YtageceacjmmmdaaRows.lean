/-
  No cell of these rows narrows 'for every input' (looked for: loops, veiled, ifaces, maps, wideKeys, modest, calm, conditions, laid).
  DERIVED. THE GIVEN ROWS OF THIS SEAT. 12 by the template 'for every input the law returns true; each argument reads behind the call as it read before'; 0 by the template 'total and deterministic' (their statements: YtageceacjmmmdaaTotals.lean).
  GIVEN WITH THE SEED: the statements are not yours to turn. If you find one false, say at which input.
  Laid BY PROGRAM, IN A SANDBOX (cutbox-rows.mjs): the forced cells as the released guide's own fill.sh prints them over the translation 5c118d79cab0e662… (all of the seat's roots in one cut). By AI agents, Wed Nov 11 2026. No macro, syntax, notation, axiom, sorry.
-/
import Derived.Test.YtageceacjmmmdaaChecked
import GoSem.Claim
import GoSem.ClaimJoined
import GoSem.ClaimMapViews
import Derived.JoinedTies
import Derived.KernelRfl
namespace Go.Proofs.Ytageceacjmmmdaa
/- THE CELL 'sum', in the pinned program and in every row, IS THE sha256 OF THE DUMP (.gsa) THAT YtageceacjmmmdaaProg.lean LOADS. Nothing in Lean hashes anything: it is a label: what it is worth is what the hold of that sum in a sandbox is worth. -/
noncomputable def Try.pinned : Pinned := { name := "ytageceacjmmmdaa", sum := "5c118d79cab0e6624643d04d526cda74cbb02fd0fc7bbac083ead2fa324720c9", checked := Try.checked }
namespace Rows
def none {H : Type} : Left H := { results := [], args := [] }

/-- 'laws.FnUpdate': WHATEVER THE INPUT: true; the input reads as it did. -/
def fnUpdateSpec : ChangeSpec := { name := "fnUpdate", fn := fun _ => fun
  | [d] => { results := [.lit (.bool true)], args := [d] }
  | _ => none }
def fnUpdateRow : OpenClaim := { program := "ytageceacjmmmdaa", sum := "5c118d79cab0e6624643d04d526cda74cbb02fd0fc7bbac083ead2fa324720c9", func := "loop.example/g00671/laws.FnUpdate", spec := "fnUpdate", apart := false }
def FnUpdateSaid : Prop := fnUpdateRow.holds Try.pinned (OpenSpec.ofChange fnUpdateSpec)

/-- ITS FALSE NEIGHBOUR: 'it returns false'. Refute it at one input. -/
def fnUpdateWrong : ChangeSpec := { name := "fnUpdate", fn := fun _ => fun
  | [d] => { results := [.lit (.bool false)], args := [d] }
  | _ => none }
def FnUpdateWrongFalsely : Prop := fnUpdateRow.holds Try.pinned (OpenSpec.ofChange fnUpdateWrong)

/-- 'laws.FnSets': WHATEVER THE INPUT: true; the input reads as it did. -/
def fnSetsSpec : ChangeSpec := { name := "fnSets", fn := fun _ => fun
  | [d] => { results := [.lit (.bool true)], args := [d] }
  | _ => none }
def fnSetsRow : OpenClaim := { program := "ytageceacjmmmdaa", sum := "5c118d79cab0e6624643d04d526cda74cbb02fd0fc7bbac083ead2fa324720c9", func := "loop.example/g00671/laws.FnSets", spec := "fnSets", apart := false }
def FnSetsSaid : Prop := fnSetsRow.holds Try.pinned (OpenSpec.ofChange fnSetsSpec)

/-- ITS FALSE NEIGHBOUR: 'it returns false'. Refute it at one input. -/
def fnSetsWrong : ChangeSpec := { name := "fnSets", fn := fun _ => fun
  | [d] => { results := [.lit (.bool false)], args := [d] }
  | _ => none }
def FnSetsWrongFalsely : Prop := fnSetsRow.holds Try.pinned (OpenSpec.ofChange fnSetsWrong)

/-- 'laws.FnExactValueFile': WHATEVER THE INPUT: true; the input reads as it did. -/
def fnExactValueFileSpec : ChangeSpec := { name := "fnExactValueFile", fn := fun _ => fun
  | [d] => { results := [.lit (.bool true)], args := [d] }
  | _ => none }
def fnExactValueFileRow : OpenClaim := { program := "ytageceacjmmmdaa", sum := "5c118d79cab0e6624643d04d526cda74cbb02fd0fc7bbac083ead2fa324720c9", func := "loop.example/g00671/laws.FnExactValueFile", spec := "fnExactValueFile", apart := false }
def FnExactValueFileSaid : Prop := fnExactValueFileRow.holds Try.pinned (OpenSpec.ofChange fnExactValueFileSpec)

/-- ITS FALSE NEIGHBOUR: 'it returns false'. Refute it at one input. -/
def fnExactValueFileWrong : ChangeSpec := { name := "fnExactValueFile", fn := fun _ => fun
  | [d] => { results := [.lit (.bool false)], args := [d] }
  | _ => none }
def FnExactValueFileWrongFalsely : Prop := fnExactValueFileRow.holds Try.pinned (OpenSpec.ofChange fnExactValueFileWrong)

/-- 'laws.FnExactValueRead': WHATEVER THE INPUT: true; the input reads as it did. -/
def fnExactValueReadSpec : ChangeSpec := { name := "fnExactValueRead", fn := fun _ => fun
  | [d] => { results := [.lit (.bool true)], args := [d] }
  | _ => none }
def fnExactValueReadRow : OpenClaim := { program := "ytageceacjmmmdaa", sum := "5c118d79cab0e6624643d04d526cda74cbb02fd0fc7bbac083ead2fa324720c9", func := "loop.example/g00671/laws.FnExactValueRead", spec := "fnExactValueRead", apart := false }
def FnExactValueReadSaid : Prop := fnExactValueReadRow.holds Try.pinned (OpenSpec.ofChange fnExactValueReadSpec)

/-- ITS FALSE NEIGHBOUR: 'it returns false'. Refute it at one input. -/
def fnExactValueReadWrong : ChangeSpec := { name := "fnExactValueRead", fn := fun _ => fun
  | [d] => { results := [.lit (.bool false)], args := [d] }
  | _ => none }
def FnExactValueReadWrongFalsely : Prop := fnExactValueReadRow.holds Try.pinned (OpenSpec.ofChange fnExactValueReadWrong)

/-- 'laws.FnRunOk': WHATEVER THE INPUT: true; the input reads as it did. -/
def fnRunOkSpec : ChangeSpec := { name := "fnRunOk", fn := fun _ => fun
  | [d] => { results := [.lit (.bool true)], args := [d] }
  | _ => none }
def fnRunOkRow : OpenClaim := { program := "ytageceacjmmmdaa", sum := "5c118d79cab0e6624643d04d526cda74cbb02fd0fc7bbac083ead2fa324720c9", func := "loop.example/g00671/laws.FnRunOk", spec := "fnRunOk", apart := false }
def FnRunOkSaid : Prop := fnRunOkRow.holds Try.pinned (OpenSpec.ofChange fnRunOkSpec)

/-- ITS FALSE NEIGHBOUR: 'it returns false'. Refute it at one input. -/
def fnRunOkWrong : ChangeSpec := { name := "fnRunOk", fn := fun _ => fun
  | [d] => { results := [.lit (.bool false)], args := [d] }
  | _ => none }
def FnRunOkWrongFalsely : Prop := fnRunOkRow.holds Try.pinned (OpenSpec.ofChange fnRunOkWrong)

/-- 'laws.FnFix': WHATEVER THE INPUT: true; the input reads as it did. -/
def fnFixSpec : ChangeSpec := { name := "fnFix", fn := fun _ => fun
  | [d] => { results := [.lit (.bool true)], args := [d] }
  | _ => none }
def fnFixRow : OpenClaim := { program := "ytageceacjmmmdaa", sum := "5c118d79cab0e6624643d04d526cda74cbb02fd0fc7bbac083ead2fa324720c9", func := "loop.example/g00671/laws.FnFix", spec := "fnFix", apart := false }
def FnFixSaid : Prop := fnFixRow.holds Try.pinned (OpenSpec.ofChange fnFixSpec)

/-- ITS FALSE NEIGHBOUR: 'it returns false'. Refute it at one input. -/
def fnFixWrong : ChangeSpec := { name := "fnFix", fn := fun _ => fun
  | [d] => { results := [.lit (.bool false)], args := [d] }
  | _ => none }
def FnFixWrongFalsely : Prop := fnFixRow.holds Try.pinned (OpenSpec.ofChange fnFixWrong)

/-- 'laws.FnExactFarmOk': WHATEVER THE INPUT: true; the input reads as it did. -/
def fnExactFarmOkSpec : ChangeSpec := { name := "fnExactFarmOk", fn := fun _ => fun
  | [d] => { results := [.lit (.bool true)], args := [d] }
  | _ => none }
def fnExactFarmOkRow : OpenClaim := { program := "ytageceacjmmmdaa", sum := "5c118d79cab0e6624643d04d526cda74cbb02fd0fc7bbac083ead2fa324720c9", func := "loop.example/g00671/laws.FnExactFarmOk", spec := "fnExactFarmOk", apart := false }
def FnExactFarmOkSaid : Prop := fnExactFarmOkRow.holds Try.pinned (OpenSpec.ofChange fnExactFarmOkSpec)

/-- ITS FALSE NEIGHBOUR: 'it returns false'. Refute it at one input. -/
def fnExactFarmOkWrong : ChangeSpec := { name := "fnExactFarmOk", fn := fun _ => fun
  | [d] => { results := [.lit (.bool false)], args := [d] }
  | _ => none }
def FnExactFarmOkWrongFalsely : Prop := fnExactFarmOkRow.holds Try.pinned (OpenSpec.ofChange fnExactFarmOkWrong)

/-- 'laws.FnExactFarmVals': WHATEVER THE INPUT: true; the input reads as it did. -/
def fnExactFarmValsSpec : ChangeSpec := { name := "fnExactFarmVals", fn := fun _ => fun
  | [d] => { results := [.lit (.bool true)], args := [d] }
  | _ => none }
def fnExactFarmValsRow : OpenClaim := { program := "ytageceacjmmmdaa", sum := "5c118d79cab0e6624643d04d526cda74cbb02fd0fc7bbac083ead2fa324720c9", func := "loop.example/g00671/laws.FnExactFarmVals", spec := "fnExactFarmVals", apart := false }
def FnExactFarmValsSaid : Prop := fnExactFarmValsRow.holds Try.pinned (OpenSpec.ofChange fnExactFarmValsSpec)

/-- ITS FALSE NEIGHBOUR: 'it returns false'. Refute it at one input. -/
def fnExactFarmValsWrong : ChangeSpec := { name := "fnExactFarmVals", fn := fun _ => fun
  | [d] => { results := [.lit (.bool false)], args := [d] }
  | _ => none }
def FnExactFarmValsWrongFalsely : Prop := fnExactFarmValsRow.holds Try.pinned (OpenSpec.ofChange fnExactFarmValsWrong)

/-- 'laws.FnExactFarmGraph': WHATEVER THE INPUT: true; the input reads as it did. -/
def fnExactFarmGraphSpec : ChangeSpec := { name := "fnExactFarmGraph", fn := fun _ => fun
  | [d] => { results := [.lit (.bool true)], args := [d] }
  | _ => none }
def fnExactFarmGraphRow : OpenClaim := { program := "ytageceacjmmmdaa", sum := "5c118d79cab0e6624643d04d526cda74cbb02fd0fc7bbac083ead2fa324720c9", func := "loop.example/g00671/laws.FnExactFarmGraph", spec := "fnExactFarmGraph", apart := false }
def FnExactFarmGraphSaid : Prop := fnExactFarmGraphRow.holds Try.pinned (OpenSpec.ofChange fnExactFarmGraphSpec)

/-- ITS FALSE NEIGHBOUR: 'it returns false'. Refute it at one input. -/
def fnExactFarmGraphWrong : ChangeSpec := { name := "fnExactFarmGraph", fn := fun _ => fun
  | [d] => { results := [.lit (.bool false)], args := [d] }
  | _ => none }
def FnExactFarmGraphWrongFalsely : Prop := fnExactFarmGraphRow.holds Try.pinned (OpenSpec.ofChange fnExactFarmGraphWrong)

/-- 'laws.FnExactFarmWith': WHATEVER THE INPUT: true; the input reads as it did. -/
def fnExactFarmWithSpec : ChangeSpec := { name := "fnExactFarmWith", fn := fun _ => fun
  | [d1, d2] => { results := [.lit (.bool true)], args := [d1, d2] }
  | _ => none }
def fnExactFarmWithRow : OpenClaim := { program := "ytageceacjmmmdaa", sum := "5c118d79cab0e6624643d04d526cda74cbb02fd0fc7bbac083ead2fa324720c9", func := "loop.example/g00671/laws.FnExactFarmWith", spec := "fnExactFarmWith", apart := false }
def FnExactFarmWithSaid : Prop := fnExactFarmWithRow.holds Try.pinned (OpenSpec.ofChange fnExactFarmWithSpec)

/-- ITS FALSE NEIGHBOUR: 'it returns false'. Refute it at one input. -/
def fnExactFarmWithWrong : ChangeSpec := { name := "fnExactFarmWith", fn := fun _ => fun
  | [d1, d2] => { results := [.lit (.bool false)], args := [d1, d2] }
  | _ => none }
def FnExactFarmWithWrongFalsely : Prop := fnExactFarmWithRow.holds Try.pinned (OpenSpec.ofChange fnExactFarmWithWrong)

/-- 'laws.FnExactGraphFile': WHATEVER THE INPUT: true; the input reads as it did. -/
def fnExactGraphFileSpec : ChangeSpec := { name := "fnExactGraphFile", fn := fun _ => fun
  | [d] => { results := [.lit (.bool true)], args := [d] }
  | _ => none }
def fnExactGraphFileRow : OpenClaim := { program := "ytageceacjmmmdaa", sum := "5c118d79cab0e6624643d04d526cda74cbb02fd0fc7bbac083ead2fa324720c9", func := "loop.example/g00671/laws.FnExactGraphFile", spec := "fnExactGraphFile", apart := false }
def FnExactGraphFileSaid : Prop := fnExactGraphFileRow.holds Try.pinned (OpenSpec.ofChange fnExactGraphFileSpec)

/-- ITS FALSE NEIGHBOUR: 'it returns false'. Refute it at one input. -/
def fnExactGraphFileWrong : ChangeSpec := { name := "fnExactGraphFile", fn := fun _ => fun
  | [d] => { results := [.lit (.bool false)], args := [d] }
  | _ => none }
def FnExactGraphFileWrongFalsely : Prop := fnExactGraphFileRow.holds Try.pinned (OpenSpec.ofChange fnExactGraphFileWrong)

/-- 'laws.FnExactGraphRead': WHATEVER THE INPUT: true; the input reads as it did. -/
def fnExactGraphReadSpec : ChangeSpec := { name := "fnExactGraphRead", fn := fun _ => fun
  | [d] => { results := [.lit (.bool true)], args := [d] }
  | _ => none }
def fnExactGraphReadRow : OpenClaim := { program := "ytageceacjmmmdaa", sum := "5c118d79cab0e6624643d04d526cda74cbb02fd0fc7bbac083ead2fa324720c9", func := "loop.example/g00671/laws.FnExactGraphRead", spec := "fnExactGraphRead", apart := false }
def FnExactGraphReadSaid : Prop := fnExactGraphReadRow.holds Try.pinned (OpenSpec.ofChange fnExactGraphReadSpec)

/-- ITS FALSE NEIGHBOUR: 'it returns false'. Refute it at one input. -/
def fnExactGraphReadWrong : ChangeSpec := { name := "fnExactGraphRead", fn := fun _ => fun
  | [d] => { results := [.lit (.bool false)], args := [d] }
  | _ => none }
def FnExactGraphReadWrongFalsely : Prop := fnExactGraphReadRow.holds Try.pinned (OpenSpec.ofChange fnExactGraphReadWrong)

/- THE SECOND FORM. 'bulk': how many values and letters a reading holds, each counted each time it is reached (what is shared counts as often as it is met; a slice's spare places count too). A statement '..UptoSaid' is the law's where the arguments, and the package variables that the reading takes, are together of bulk at most 1048576: NARROWER than '..Said'. Prove '..Said' where nothing that the law and all that it calls make is longer than what came in: it says more and counts as full. Else prove '..UptoSaid'. A law counts once. -/
mutual
def uptoBulk {H : Type} : DataW H → Nat
  | .lit (.string bytes) => bytes.length + 1
  | .lit _ => 1
  | .nil => 1
  | .ptr d => uptoBulk d + 1
  | .slice elems spare => uptoBulkAll elems + uptoBulkAll spare + 1
  | .agg parts => uptoBulkAll parts + 1
  | .iface _ d => uptoBulk d + 1
  | .map entries => uptoBulkEntries entries + 1
  | .held _ => 1
def uptoBulkAll {H : Type} : List (DataW H) → Nat
  | [] => 0
  | d :: r => uptoBulk d + uptoBulkAll r
def uptoBulkEntries {H : Type} : List (Lit × DataW H) → Nat
  | [] => 0
  | x :: r => uptoBulkEntry x + uptoBulkEntries r
def uptoBulkEntry {H : Type} : Lit × DataW H → Nat
  | (.string bytes, d) => bytes.length + uptoBulk d + 1
  | (_, d) => uptoBulk d + 1
 end
def uptoSmall : (H : Type) → List (DataW H) → Bool := fun _ ds => decide (uptoBulkAll ds ≤ 1048576)
def OpenSpec.upto (s : _root_.Go.ChangeSpec) : _root_.Go.OpenSpec := { _root_.Go.OpenSpec.ofChange s with cond := some uptoSmall }

/-- 'laws.FnUpdate', WHERE WHAT IT READS IS OF BULK AT MOST 1048576: true; the input reads as it did. -/
def fnUpdateUptoRow : OpenClaim := { program := "ytageceacjmmmdaa", sum := "5c118d79cab0e6624643d04d526cda74cbb02fd0fc7bbac083ead2fa324720c9", func := "loop.example/g00671/laws.FnUpdate", spec := "fnUpdate", apart := false, narrowed := true }
def FnUpdateUptoSaid : Prop := fnUpdateUptoRow.holds Try.pinned (OpenSpec.upto fnUpdateSpec)

/-- 'laws.FnSets', WHERE WHAT IT READS IS OF BULK AT MOST 1048576: true; the input reads as it did. -/
def fnSetsUptoRow : OpenClaim := { program := "ytageceacjmmmdaa", sum := "5c118d79cab0e6624643d04d526cda74cbb02fd0fc7bbac083ead2fa324720c9", func := "loop.example/g00671/laws.FnSets", spec := "fnSets", apart := false, narrowed := true }
def FnSetsUptoSaid : Prop := fnSetsUptoRow.holds Try.pinned (OpenSpec.upto fnSetsSpec)

/-- 'laws.FnExactValueFile', WHERE WHAT IT READS IS OF BULK AT MOST 1048576: true; the input reads as it did. -/
def fnExactValueFileUptoRow : OpenClaim := { program := "ytageceacjmmmdaa", sum := "5c118d79cab0e6624643d04d526cda74cbb02fd0fc7bbac083ead2fa324720c9", func := "loop.example/g00671/laws.FnExactValueFile", spec := "fnExactValueFile", apart := false, narrowed := true }
def FnExactValueFileUptoSaid : Prop := fnExactValueFileUptoRow.holds Try.pinned (OpenSpec.upto fnExactValueFileSpec)

/-- 'laws.FnExactValueRead', WHERE WHAT IT READS IS OF BULK AT MOST 1048576: true; the input reads as it did. -/
def fnExactValueReadUptoRow : OpenClaim := { program := "ytageceacjmmmdaa", sum := "5c118d79cab0e6624643d04d526cda74cbb02fd0fc7bbac083ead2fa324720c9", func := "loop.example/g00671/laws.FnExactValueRead", spec := "fnExactValueRead", apart := false, narrowed := true }
def FnExactValueReadUptoSaid : Prop := fnExactValueReadUptoRow.holds Try.pinned (OpenSpec.upto fnExactValueReadSpec)

/-- 'laws.FnRunOk', WHERE WHAT IT READS IS OF BULK AT MOST 1048576: true; the input reads as it did. -/
def fnRunOkUptoRow : OpenClaim := { program := "ytageceacjmmmdaa", sum := "5c118d79cab0e6624643d04d526cda74cbb02fd0fc7bbac083ead2fa324720c9", func := "loop.example/g00671/laws.FnRunOk", spec := "fnRunOk", apart := false, narrowed := true }
def FnRunOkUptoSaid : Prop := fnRunOkUptoRow.holds Try.pinned (OpenSpec.upto fnRunOkSpec)

/-- 'laws.FnFix', WHERE WHAT IT READS IS OF BULK AT MOST 1048576: true; the input reads as it did. -/
def fnFixUptoRow : OpenClaim := { program := "ytageceacjmmmdaa", sum := "5c118d79cab0e6624643d04d526cda74cbb02fd0fc7bbac083ead2fa324720c9", func := "loop.example/g00671/laws.FnFix", spec := "fnFix", apart := false, narrowed := true }
def FnFixUptoSaid : Prop := fnFixUptoRow.holds Try.pinned (OpenSpec.upto fnFixSpec)

/-- 'laws.FnExactFarmOk', WHERE WHAT IT READS IS OF BULK AT MOST 1048576: true; the input reads as it did. -/
def fnExactFarmOkUptoRow : OpenClaim := { program := "ytageceacjmmmdaa", sum := "5c118d79cab0e6624643d04d526cda74cbb02fd0fc7bbac083ead2fa324720c9", func := "loop.example/g00671/laws.FnExactFarmOk", spec := "fnExactFarmOk", apart := false, narrowed := true }
def FnExactFarmOkUptoSaid : Prop := fnExactFarmOkUptoRow.holds Try.pinned (OpenSpec.upto fnExactFarmOkSpec)

/-- 'laws.FnExactFarmVals', WHERE WHAT IT READS IS OF BULK AT MOST 1048576: true; the input reads as it did. -/
def fnExactFarmValsUptoRow : OpenClaim := { program := "ytageceacjmmmdaa", sum := "5c118d79cab0e6624643d04d526cda74cbb02fd0fc7bbac083ead2fa324720c9", func := "loop.example/g00671/laws.FnExactFarmVals", spec := "fnExactFarmVals", apart := false, narrowed := true }
def FnExactFarmValsUptoSaid : Prop := fnExactFarmValsUptoRow.holds Try.pinned (OpenSpec.upto fnExactFarmValsSpec)

/-- 'laws.FnExactFarmGraph', WHERE WHAT IT READS IS OF BULK AT MOST 1048576: true; the input reads as it did. -/
def fnExactFarmGraphUptoRow : OpenClaim := { program := "ytageceacjmmmdaa", sum := "5c118d79cab0e6624643d04d526cda74cbb02fd0fc7bbac083ead2fa324720c9", func := "loop.example/g00671/laws.FnExactFarmGraph", spec := "fnExactFarmGraph", apart := false, narrowed := true }
def FnExactFarmGraphUptoSaid : Prop := fnExactFarmGraphUptoRow.holds Try.pinned (OpenSpec.upto fnExactFarmGraphSpec)

/-- 'laws.FnExactFarmWith', WHERE WHAT IT READS IS OF BULK AT MOST 1048576: true; the input reads as it did. -/
def fnExactFarmWithUptoRow : OpenClaim := { program := "ytageceacjmmmdaa", sum := "5c118d79cab0e6624643d04d526cda74cbb02fd0fc7bbac083ead2fa324720c9", func := "loop.example/g00671/laws.FnExactFarmWith", spec := "fnExactFarmWith", apart := false, narrowed := true }
def FnExactFarmWithUptoSaid : Prop := fnExactFarmWithUptoRow.holds Try.pinned (OpenSpec.upto fnExactFarmWithSpec)

/-- 'laws.FnExactGraphFile', WHERE WHAT IT READS IS OF BULK AT MOST 1048576: true; the input reads as it did. -/
def fnExactGraphFileUptoRow : OpenClaim := { program := "ytageceacjmmmdaa", sum := "5c118d79cab0e6624643d04d526cda74cbb02fd0fc7bbac083ead2fa324720c9", func := "loop.example/g00671/laws.FnExactGraphFile", spec := "fnExactGraphFile", apart := false, narrowed := true }
def FnExactGraphFileUptoSaid : Prop := fnExactGraphFileUptoRow.holds Try.pinned (OpenSpec.upto fnExactGraphFileSpec)

/-- 'laws.FnExactGraphRead', WHERE WHAT IT READS IS OF BULK AT MOST 1048576: true; the input reads as it did. -/
def fnExactGraphReadUptoRow : OpenClaim := { program := "ytageceacjmmmdaa", sum := "5c118d79cab0e6624643d04d526cda74cbb02fd0fc7bbac083ead2fa324720c9", func := "loop.example/g00671/laws.FnExactGraphRead", spec := "fnExactGraphRead", apart := false, narrowed := true }
def FnExactGraphReadUptoSaid : Prop := fnExactGraphReadUptoRow.holds Try.pinned (OpenSpec.upto fnExactGraphReadSpec)

end Rows
end Go.Proofs.Ytageceacjmmmdaa
