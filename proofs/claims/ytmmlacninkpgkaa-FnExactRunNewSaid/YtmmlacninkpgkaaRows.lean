/-
  No cell of these rows narrows 'for every input' (looked for: loops, veiled, ifaces, maps, wideKeys, modest, calm, conditions, laid).
  DERIVED. THE GIVEN ROWS OF THIS SEAT. 12 by the template 'for every input the law returns true; each argument reads behind the call as it read before'; 0 by the template 'total and deterministic' (their statements: YtmmlacninkpgkaaTotals.lean).
  GIVEN WITH THE SEED: the statements are not yours to turn. If you find one false, say at which input.
  Laid BY PROGRAM, IN A SANDBOX (cutbox-rows.mjs): the forced cells as the released guide's own fill.sh prints them over the translation 2bbbe0d24f6caf14… (all of the seat's roots in one cut). By AI agents, Wed Nov 11 2026. No macro, syntax, notation, axiom, sorry.
-/
import Derived.Test.YtmmlacninkpgkaaChecked
import GoSem.Claim
import GoSem.ClaimJoined
import GoSem.ClaimMapViews
import Derived.JoinedTies
import Derived.KernelRfl
namespace Go.Proofs.Ytmmlacninkpgkaa
/- THE CELL 'sum', in the pinned program and in every row, IS THE sha256 OF THE DUMP (.gsa) THAT YtmmlacninkpgkaaProg.lean LOADS. Nothing in Lean hashes anything: it is a label: what it is worth is what the hold of that sum in a sandbox is worth. -/
noncomputable def Try.pinned : Pinned := { name := "ytmmlacninkpgkaa", sum := "2bbbe0d24f6caf144b33cc3b8e5d74f903a0de7fd1e17ee41a35cb3187a6cdbd", checked := Try.checked }
namespace Rows
def none {H : Type} : Left H := { results := [], args := [] }

/-- 'laws.FnExactCommitRead': WHATEVER THE INPUT: true; the input reads as it did. -/
def fnExactCommitReadSpec : ChangeSpec := { name := "fnExactCommitRead", fn := fun _ => fun
  | [d] => { results := [.lit (.bool true)], args := [d] }
  | _ => none }
def fnExactCommitReadRow : OpenClaim := { program := "ytmmlacninkpgkaa", sum := "2bbbe0d24f6caf144b33cc3b8e5d74f903a0de7fd1e17ee41a35cb3187a6cdbd", func := "loop.example/g00671/laws.FnExactCommitRead", spec := "fnExactCommitRead", apart := false }
def FnExactCommitReadSaid : Prop := fnExactCommitReadRow.holds Try.pinned (OpenSpec.ofChange fnExactCommitReadSpec)

/-- ITS FALSE NEIGHBOUR: 'it returns false'. Refute it at one input. -/
def fnExactCommitReadWrong : ChangeSpec := { name := "fnExactCommitRead", fn := fun _ => fun
  | [d] => { results := [.lit (.bool false)], args := [d] }
  | _ => none }
def FnExactCommitReadWrongFalsely : Prop := fnExactCommitReadRow.holds Try.pinned (OpenSpec.ofChange fnExactCommitReadWrong)

/-- 'laws.FnExactEither': WHATEVER THE INPUT: true; the input reads as it did. -/
def fnExactEitherSpec : ChangeSpec := { name := "fnExactEither", fn := fun _ => fun
  | [d1, d2] => { results := [.lit (.bool true)], args := [d1, d2] }
  | _ => none }
def fnExactEitherRow : OpenClaim := { program := "ytmmlacninkpgkaa", sum := "2bbbe0d24f6caf144b33cc3b8e5d74f903a0de7fd1e17ee41a35cb3187a6cdbd", func := "loop.example/g00671/laws.FnExactEither", spec := "fnExactEither", apart := false }
def FnExactEitherSaid : Prop := fnExactEitherRow.holds Try.pinned (OpenSpec.ofChange fnExactEitherSpec)

/-- ITS FALSE NEIGHBOUR: 'it returns false'. Refute it at one input. -/
def fnExactEitherWrong : ChangeSpec := { name := "fnExactEither", fn := fun _ => fun
  | [d1, d2] => { results := [.lit (.bool false)], args := [d1, d2] }
  | _ => none }
def FnExactEitherWrongFalsely : Prop := fnExactEitherRow.holds Try.pinned (OpenSpec.ofChange fnExactEitherWrong)

/-- 'laws.FnSets': WHATEVER THE INPUT: true; the input reads as it did. -/
def fnSetsSpec : ChangeSpec := { name := "fnSets", fn := fun _ => fun
  | [d] => { results := [.lit (.bool true)], args := [d] }
  | _ => none }
def fnSetsRow : OpenClaim := { program := "ytmmlacninkpgkaa", sum := "2bbbe0d24f6caf144b33cc3b8e5d74f903a0de7fd1e17ee41a35cb3187a6cdbd", func := "loop.example/g00671/laws.FnSets", spec := "fnSets", apart := false }
def FnSetsSaid : Prop := fnSetsRow.holds Try.pinned (OpenSpec.ofChange fnSetsSpec)

/-- ITS FALSE NEIGHBOUR: 'it returns false'. Refute it at one input. -/
def fnSetsWrong : ChangeSpec := { name := "fnSets", fn := fun _ => fun
  | [d] => { results := [.lit (.bool false)], args := [d] }
  | _ => none }
def FnSetsWrongFalsely : Prop := fnSetsRow.holds Try.pinned (OpenSpec.ofChange fnSetsWrong)

/-- 'laws.FnExactSubViews': WHATEVER THE INPUT: true; the input reads as it did. -/
def fnExactSubViewsSpec : ChangeSpec := { name := "fnExactSubViews", fn := fun _ => fun
  | [d1, d2] => { results := [.lit (.bool true)], args := [d1, d2] }
  | _ => none }
def fnExactSubViewsRow : OpenClaim := { program := "ytmmlacninkpgkaa", sum := "2bbbe0d24f6caf144b33cc3b8e5d74f903a0de7fd1e17ee41a35cb3187a6cdbd", func := "loop.example/g00671/laws.FnExactSubViews", spec := "fnExactSubViews", apart := false }
def FnExactSubViewsSaid : Prop := fnExactSubViewsRow.holds Try.pinned (OpenSpec.ofChange fnExactSubViewsSpec)

/-- ITS FALSE NEIGHBOUR: 'it returns false'. Refute it at one input. -/
def fnExactSubViewsWrong : ChangeSpec := { name := "fnExactSubViews", fn := fun _ => fun
  | [d1, d2] => { results := [.lit (.bool false)], args := [d1, d2] }
  | _ => none }
def FnExactSubViewsWrongFalsely : Prop := fnExactSubViewsRow.holds Try.pinned (OpenSpec.ofChange fnExactSubViewsWrong)

/-- 'laws.FnExactValuesOf': WHATEVER THE INPUT: true; the input reads as it did. -/
def fnExactValuesOfSpec : ChangeSpec := { name := "fnExactValuesOf", fn := fun _ => fun
  | [d] => { results := [.lit (.bool true)], args := [d] }
  | _ => none }
def fnExactValuesOfRow : OpenClaim := { program := "ytmmlacninkpgkaa", sum := "2bbbe0d24f6caf144b33cc3b8e5d74f903a0de7fd1e17ee41a35cb3187a6cdbd", func := "loop.example/g00671/laws.FnExactValuesOf", spec := "fnExactValuesOf", apart := false }
def FnExactValuesOfSaid : Prop := fnExactValuesOfRow.holds Try.pinned (OpenSpec.ofChange fnExactValuesOfSpec)

/-- ITS FALSE NEIGHBOUR: 'it returns false'. Refute it at one input. -/
def fnExactValuesOfWrong : ChangeSpec := { name := "fnExactValuesOf", fn := fun _ => fun
  | [d] => { results := [.lit (.bool false)], args := [d] }
  | _ => none }
def FnExactValuesOfWrongFalsely : Prop := fnExactValuesOfRow.holds Try.pinned (OpenSpec.ofChange fnExactValuesOfWrong)

/-- 'laws.FnUpdate': WHATEVER THE INPUT: true; the input reads as it did. -/
def fnUpdateSpec : ChangeSpec := { name := "fnUpdate", fn := fun _ => fun
  | [d] => { results := [.lit (.bool true)], args := [d] }
  | _ => none }
def fnUpdateRow : OpenClaim := { program := "ytmmlacninkpgkaa", sum := "2bbbe0d24f6caf144b33cc3b8e5d74f903a0de7fd1e17ee41a35cb3187a6cdbd", func := "loop.example/g00671/laws.FnUpdate", spec := "fnUpdate", apart := false }
def FnUpdateSaid : Prop := fnUpdateRow.holds Try.pinned (OpenSpec.ofChange fnUpdateSpec)

/-- ITS FALSE NEIGHBOUR: 'it returns false'. Refute it at one input. -/
def fnUpdateWrong : ChangeSpec := { name := "fnUpdate", fn := fun _ => fun
  | [d] => { results := [.lit (.bool false)], args := [d] }
  | _ => none }
def FnUpdateWrongFalsely : Prop := fnUpdateRow.holds Try.pinned (OpenSpec.ofChange fnUpdateWrong)

/-- 'laws.FnExactRunOk': WHATEVER THE INPUT: true; the input reads as it did. -/
def fnExactRunOkSpec : ChangeSpec := { name := "fnExactRunOk", fn := fun _ => fun
  | [d1, d2] => { results := [.lit (.bool true)], args := [d1, d2] }
  | _ => none }
def fnExactRunOkRow : OpenClaim := { program := "ytmmlacninkpgkaa", sum := "2bbbe0d24f6caf144b33cc3b8e5d74f903a0de7fd1e17ee41a35cb3187a6cdbd", func := "loop.example/g00671/laws.FnExactRunOk", spec := "fnExactRunOk", apart := false }
def FnExactRunOkSaid : Prop := fnExactRunOkRow.holds Try.pinned (OpenSpec.ofChange fnExactRunOkSpec)

/-- ITS FALSE NEIGHBOUR: 'it returns false'. Refute it at one input. -/
def fnExactRunOkWrong : ChangeSpec := { name := "fnExactRunOk", fn := fun _ => fun
  | [d1, d2] => { results := [.lit (.bool false)], args := [d1, d2] }
  | _ => none }
def FnExactRunOkWrongFalsely : Prop := fnExactRunOkRow.holds Try.pinned (OpenSpec.ofChange fnExactRunOkWrong)

/-- 'laws.FnExactUpdate': WHATEVER THE INPUT: true; the input reads as it did. -/
def fnExactUpdateSpec : ChangeSpec := { name := "fnExactUpdate", fn := fun _ => fun
  | [d1, d2, d3, d4] => { results := [.lit (.bool true)], args := [d1, d2, d3, d4] }
  | _ => none }
def fnExactUpdateRow : OpenClaim := { program := "ytmmlacninkpgkaa", sum := "2bbbe0d24f6caf144b33cc3b8e5d74f903a0de7fd1e17ee41a35cb3187a6cdbd", func := "loop.example/g00671/laws.FnExactUpdate", spec := "fnExactUpdate", apart := false }
def FnExactUpdateSaid : Prop := fnExactUpdateRow.holds Try.pinned (OpenSpec.ofChange fnExactUpdateSpec)

/-- ITS FALSE NEIGHBOUR: 'it returns false'. Refute it at one input. -/
def fnExactUpdateWrong : ChangeSpec := { name := "fnExactUpdate", fn := fun _ => fun
  | [d1, d2, d3, d4] => { results := [.lit (.bool false)], args := [d1, d2, d3, d4] }
  | _ => none }
def FnExactUpdateWrongFalsely : Prop := fnExactUpdateRow.holds Try.pinned (OpenSpec.ofChange fnExactUpdateWrong)

/-- 'laws.FnExactFarmOk': WHATEVER THE INPUT: true; the input reads as it did. -/
def fnExactFarmOkSpec : ChangeSpec := { name := "fnExactFarmOk", fn := fun _ => fun
  | [d] => { results := [.lit (.bool true)], args := [d] }
  | _ => none }
def fnExactFarmOkRow : OpenClaim := { program := "ytmmlacninkpgkaa", sum := "2bbbe0d24f6caf144b33cc3b8e5d74f903a0de7fd1e17ee41a35cb3187a6cdbd", func := "loop.example/g00671/laws.FnExactFarmOk", spec := "fnExactFarmOk", apart := false }
def FnExactFarmOkSaid : Prop := fnExactFarmOkRow.holds Try.pinned (OpenSpec.ofChange fnExactFarmOkSpec)

/-- ITS FALSE NEIGHBOUR: 'it returns false'. Refute it at one input. -/
def fnExactFarmOkWrong : ChangeSpec := { name := "fnExactFarmOk", fn := fun _ => fun
  | [d] => { results := [.lit (.bool false)], args := [d] }
  | _ => none }
def FnExactFarmOkWrongFalsely : Prop := fnExactFarmOkRow.holds Try.pinned (OpenSpec.ofChange fnExactFarmOkWrong)

/-- 'laws.FnExactValueFile': WHATEVER THE INPUT: true; the input reads as it did. -/
def fnExactValueFileSpec : ChangeSpec := { name := "fnExactValueFile", fn := fun _ => fun
  | [d] => { results := [.lit (.bool true)], args := [d] }
  | _ => none }
def fnExactValueFileRow : OpenClaim := { program := "ytmmlacninkpgkaa", sum := "2bbbe0d24f6caf144b33cc3b8e5d74f903a0de7fd1e17ee41a35cb3187a6cdbd", func := "loop.example/g00671/laws.FnExactValueFile", spec := "fnExactValueFile", apart := false }
def FnExactValueFileSaid : Prop := fnExactValueFileRow.holds Try.pinned (OpenSpec.ofChange fnExactValueFileSpec)

/-- ITS FALSE NEIGHBOUR: 'it returns false'. Refute it at one input. -/
def fnExactValueFileWrong : ChangeSpec := { name := "fnExactValueFile", fn := fun _ => fun
  | [d] => { results := [.lit (.bool false)], args := [d] }
  | _ => none }
def FnExactValueFileWrongFalsely : Prop := fnExactValueFileRow.holds Try.pinned (OpenSpec.ofChange fnExactValueFileWrong)

/-- 'laws.FnExactFarmVals': WHATEVER THE INPUT: true; the input reads as it did. -/
def fnExactFarmValsSpec : ChangeSpec := { name := "fnExactFarmVals", fn := fun _ => fun
  | [d] => { results := [.lit (.bool true)], args := [d] }
  | _ => none }
def fnExactFarmValsRow : OpenClaim := { program := "ytmmlacninkpgkaa", sum := "2bbbe0d24f6caf144b33cc3b8e5d74f903a0de7fd1e17ee41a35cb3187a6cdbd", func := "loop.example/g00671/laws.FnExactFarmVals", spec := "fnExactFarmVals", apart := false }
def FnExactFarmValsSaid : Prop := fnExactFarmValsRow.holds Try.pinned (OpenSpec.ofChange fnExactFarmValsSpec)

/-- ITS FALSE NEIGHBOUR: 'it returns false'. Refute it at one input. -/
def fnExactFarmValsWrong : ChangeSpec := { name := "fnExactFarmVals", fn := fun _ => fun
  | [d] => { results := [.lit (.bool false)], args := [d] }
  | _ => none }
def FnExactFarmValsWrongFalsely : Prop := fnExactFarmValsRow.holds Try.pinned (OpenSpec.ofChange fnExactFarmValsWrong)

/-- 'laws.FnExactRunNew': WHATEVER THE INPUT: true; the input reads as it did. -/
def fnExactRunNewSpec : ChangeSpec := { name := "fnExactRunNew", fn := fun _ => fun
  | [d1, d2] => { results := [.lit (.bool true)], args := [d1, d2] }
  | _ => none }
def fnExactRunNewRow : OpenClaim := { program := "ytmmlacninkpgkaa", sum := "2bbbe0d24f6caf144b33cc3b8e5d74f903a0de7fd1e17ee41a35cb3187a6cdbd", func := "loop.example/g00671/laws.FnExactRunNew", spec := "fnExactRunNew", apart := false }
def FnExactRunNewSaid : Prop := fnExactRunNewRow.holds Try.pinned (OpenSpec.ofChange fnExactRunNewSpec)

/-- ITS FALSE NEIGHBOUR: 'it returns false'. Refute it at one input. -/
def fnExactRunNewWrong : ChangeSpec := { name := "fnExactRunNew", fn := fun _ => fun
  | [d1, d2] => { results := [.lit (.bool false)], args := [d1, d2] }
  | _ => none }
def FnExactRunNewWrongFalsely : Prop := fnExactRunNewRow.holds Try.pinned (OpenSpec.ofChange fnExactRunNewWrong)

/- THE SECOND FORM. 'bulk': how many values and letters a reading holds, each counted each time it is reached (what is shared counts as often as it is met; a slice's spare places count too). A statement '..UptoSaid' is the law's where the arguments, and the package variables that the reading takes, are together of bulk at most 1048576: NARROWER than '..Said'. Prove '..Said' where nothing that the law and all that it calls make is longer than what came in: it says more and counts as full. Else prove '..UptoSaid'. A law counts once. -/
mutual
def uptoBulk {H : Type} : DataW H → Nat
  | .lit (.string bytes) => bytes.length + 1
  | .lit _ => 1
  | .nil => 1
  | .ptr d => uptoBulk d + 1
  | .slice elems spare => uptoBulkAll elems + uptoBulkAll spare + 1
  | .agg parts => uptoBulkAll parts + 1
  | .iface _ d => uptoBulk d + 1
  | .map entries => uptoBulkEntries entries + 1
  | .held _ => 1
def uptoBulkAll {H : Type} : List (DataW H) → Nat
  | [] => 0
  | d :: r => uptoBulk d + uptoBulkAll r
def uptoBulkEntries {H : Type} : List (Lit × DataW H) → Nat
  | [] => 0
  | x :: r => uptoBulkEntry x + uptoBulkEntries r
def uptoBulkEntry {H : Type} : Lit × DataW H → Nat
  | (.string bytes, d) => bytes.length + uptoBulk d + 1
  | (_, d) => uptoBulk d + 1
 end
def uptoSmall : (H : Type) → List (DataW H) → Bool := fun _ ds => decide (uptoBulkAll ds ≤ 1048576)
def OpenSpec.upto (s : _root_.Go.ChangeSpec) : _root_.Go.OpenSpec := { _root_.Go.OpenSpec.ofChange s with cond := some uptoSmall }

/-- 'laws.FnExactCommitRead', WHERE WHAT IT READS IS OF BULK AT MOST 1048576: true; the input reads as it did. -/
def fnExactCommitReadUptoRow : OpenClaim := { program := "ytmmlacninkpgkaa", sum := "2bbbe0d24f6caf144b33cc3b8e5d74f903a0de7fd1e17ee41a35cb3187a6cdbd", func := "loop.example/g00671/laws.FnExactCommitRead", spec := "fnExactCommitRead", apart := false, narrowed := true }
def FnExactCommitReadUptoSaid : Prop := fnExactCommitReadUptoRow.holds Try.pinned (OpenSpec.upto fnExactCommitReadSpec)

/-- 'laws.FnExactEither', WHERE WHAT IT READS IS OF BULK AT MOST 1048576: true; the input reads as it did. -/
def fnExactEitherUptoRow : OpenClaim := { program := "ytmmlacninkpgkaa", sum := "2bbbe0d24f6caf144b33cc3b8e5d74f903a0de7fd1e17ee41a35cb3187a6cdbd", func := "loop.example/g00671/laws.FnExactEither", spec := "fnExactEither", apart := false, narrowed := true }
def FnExactEitherUptoSaid : Prop := fnExactEitherUptoRow.holds Try.pinned (OpenSpec.upto fnExactEitherSpec)

/-- 'laws.FnSets', WHERE WHAT IT READS IS OF BULK AT MOST 1048576: true; the input reads as it did. -/
def fnSetsUptoRow : OpenClaim := { program := "ytmmlacninkpgkaa", sum := "2bbbe0d24f6caf144b33cc3b8e5d74f903a0de7fd1e17ee41a35cb3187a6cdbd", func := "loop.example/g00671/laws.FnSets", spec := "fnSets", apart := false, narrowed := true }
def FnSetsUptoSaid : Prop := fnSetsUptoRow.holds Try.pinned (OpenSpec.upto fnSetsSpec)

/-- 'laws.FnExactSubViews', WHERE WHAT IT READS IS OF BULK AT MOST 1048576: true; the input reads as it did. -/
def fnExactSubViewsUptoRow : OpenClaim := { program := "ytmmlacninkpgkaa", sum := "2bbbe0d24f6caf144b33cc3b8e5d74f903a0de7fd1e17ee41a35cb3187a6cdbd", func := "loop.example/g00671/laws.FnExactSubViews", spec := "fnExactSubViews", apart := false, narrowed := true }
def FnExactSubViewsUptoSaid : Prop := fnExactSubViewsUptoRow.holds Try.pinned (OpenSpec.upto fnExactSubViewsSpec)

/-- 'laws.FnExactValuesOf', WHERE WHAT IT READS IS OF BULK AT MOST 1048576: true; the input reads as it did. -/
def fnExactValuesOfUptoRow : OpenClaim := { program := "ytmmlacninkpgkaa", sum := "2bbbe0d24f6caf144b33cc3b8e5d74f903a0de7fd1e17ee41a35cb3187a6cdbd", func := "loop.example/g00671/laws.FnExactValuesOf", spec := "fnExactValuesOf", apart := false, narrowed := true }
def FnExactValuesOfUptoSaid : Prop := fnExactValuesOfUptoRow.holds Try.pinned (OpenSpec.upto fnExactValuesOfSpec)

/-- 'laws.FnUpdate', WHERE WHAT IT READS IS OF BULK AT MOST 1048576: true; the input reads as it did. -/
def fnUpdateUptoRow : OpenClaim := { program := "ytmmlacninkpgkaa", sum := "2bbbe0d24f6caf144b33cc3b8e5d74f903a0de7fd1e17ee41a35cb3187a6cdbd", func := "loop.example/g00671/laws.FnUpdate", spec := "fnUpdate", apart := false, narrowed := true }
def FnUpdateUptoSaid : Prop := fnUpdateUptoRow.holds Try.pinned (OpenSpec.upto fnUpdateSpec)

/-- 'laws.FnExactRunOk', WHERE WHAT IT READS IS OF BULK AT MOST 1048576: true; the input reads as it did. -/
def fnExactRunOkUptoRow : OpenClaim := { program := "ytmmlacninkpgkaa", sum := "2bbbe0d24f6caf144b33cc3b8e5d74f903a0de7fd1e17ee41a35cb3187a6cdbd", func := "loop.example/g00671/laws.FnExactRunOk", spec := "fnExactRunOk", apart := false, narrowed := true }
def FnExactRunOkUptoSaid : Prop := fnExactRunOkUptoRow.holds Try.pinned (OpenSpec.upto fnExactRunOkSpec)

/-- 'laws.FnExactUpdate', WHERE WHAT IT READS IS OF BULK AT MOST 1048576: true; the input reads as it did. -/
def fnExactUpdateUptoRow : OpenClaim := { program := "ytmmlacninkpgkaa", sum := "2bbbe0d24f6caf144b33cc3b8e5d74f903a0de7fd1e17ee41a35cb3187a6cdbd", func := "loop.example/g00671/laws.FnExactUpdate", spec := "fnExactUpdate", apart := false, narrowed := true }
def FnExactUpdateUptoSaid : Prop := fnExactUpdateUptoRow.holds Try.pinned (OpenSpec.upto fnExactUpdateSpec)

/-- 'laws.FnExactFarmOk', WHERE WHAT IT READS IS OF BULK AT MOST 1048576: true; the input reads as it did. -/
def fnExactFarmOkUptoRow : OpenClaim := { program := "ytmmlacninkpgkaa", sum := "2bbbe0d24f6caf144b33cc3b8e5d74f903a0de7fd1e17ee41a35cb3187a6cdbd", func := "loop.example/g00671/laws.FnExactFarmOk", spec := "fnExactFarmOk", apart := false, narrowed := true }
def FnExactFarmOkUptoSaid : Prop := fnExactFarmOkUptoRow.holds Try.pinned (OpenSpec.upto fnExactFarmOkSpec)

/-- 'laws.FnExactValueFile', WHERE WHAT IT READS IS OF BULK AT MOST 1048576: true; the input reads as it did. -/
def fnExactValueFileUptoRow : OpenClaim := { program := "ytmmlacninkpgkaa", sum := "2bbbe0d24f6caf144b33cc3b8e5d74f903a0de7fd1e17ee41a35cb3187a6cdbd", func := "loop.example/g00671/laws.FnExactValueFile", spec := "fnExactValueFile", apart := false, narrowed := true }
def FnExactValueFileUptoSaid : Prop := fnExactValueFileUptoRow.holds Try.pinned (OpenSpec.upto fnExactValueFileSpec)

/-- 'laws.FnExactFarmVals', WHERE WHAT IT READS IS OF BULK AT MOST 1048576: true; the input reads as it did. -/
def fnExactFarmValsUptoRow : OpenClaim := { program := "ytmmlacninkpgkaa", sum := "2bbbe0d24f6caf144b33cc3b8e5d74f903a0de7fd1e17ee41a35cb3187a6cdbd", func := "loop.example/g00671/laws.FnExactFarmVals", spec := "fnExactFarmVals", apart := false, narrowed := true }
def FnExactFarmValsUptoSaid : Prop := fnExactFarmValsUptoRow.holds Try.pinned (OpenSpec.upto fnExactFarmValsSpec)

/-- 'laws.FnExactRunNew', WHERE WHAT IT READS IS OF BULK AT MOST 1048576: true; the input reads as it did. -/
def fnExactRunNewUptoRow : OpenClaim := { program := "ytmmlacninkpgkaa", sum := "2bbbe0d24f6caf144b33cc3b8e5d74f903a0de7fd1e17ee41a35cb3187a6cdbd", func := "loop.example/g00671/laws.FnExactRunNew", spec := "fnExactRunNew", apart := false, narrowed := true }
def FnExactRunNewUptoSaid : Prop := fnExactRunNewUptoRow.holds Try.pinned (OpenSpec.upto fnExactRunNewSpec)

end Rows
end Go.Proofs.Ytmmlacninkpgkaa
