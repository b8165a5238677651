/-
  No cell of these rows narrows 'for every input' (looked for: loops, veiled, ifaces, maps, wideKeys, modest, calm, conditions, laid).
  DERIVED. THE GIVEN ROWS OF THIS SEAT. 12 by the template 'for every input the law returns true; each argument reads behind the call as it read before'; 0 by the template 'total and deterministic' (their statements: YtmdajpgemcaefaaTotals.lean).
  GIVEN WITH THE SEED: the statements are not yours to turn. If you find one false, say at which input.
  Laid BY PROGRAM, IN A SANDBOX (cutbox-rows.mjs): the forced cells as the released guide's own fill.sh prints them over the translation f5559e1077079e7c… (all of the seat's roots in one cut). By AI agents, Wed Nov 11 2026. No macro, syntax, notation, axiom, sorry.
-/
import Derived.Test.YtmdajpgemcaefaaChecked
import GoSem.Claim
import GoSem.ClaimJoined
import GoSem.ClaimMapViews
import Derived.JoinedTies
import Derived.KernelRfl
namespace Go.Proofs.Ytmdajpgemcaefaa
/- THE CELL 'sum', in the pinned program and in every row, IS THE sha256 OF THE DUMP (.gsa) THAT YtmdajpgemcaefaaProg.lean LOADS. Nothing in Lean hashes anything: it is a label: what it is worth is what the hold of that sum in a sandbox is worth. -/
noncomputable def Try.pinned : Pinned := { name := "ytmdajpgemcaefaa", sum := "f5559e1077079e7c404739d0ad3a29517f907a830b2162bfa0744696365b1290", checked := Try.checked }
namespace Rows
def none {H : Type} : Left H := { results := [], args := [] }

/-- 'laws.FnExactEither': WHATEVER THE INPUT: true; the input reads as it did. -/
def fnExactEitherSpec : ChangeSpec := { name := "fnExactEither", fn := fun _ => fun
  | [d1, d2] => { results := [.lit (.bool true)], args := [d1, d2] }
  | _ => none }
def fnExactEitherRow : OpenClaim := { program := "ytmdajpgemcaefaa", sum := "f5559e1077079e7c404739d0ad3a29517f907a830b2162bfa0744696365b1290", func := "loop.example/g00671/laws.FnExactEither", spec := "fnExactEither", apart := false }
def FnExactEitherSaid : Prop := fnExactEitherRow.holds Try.pinned (OpenSpec.ofChange fnExactEitherSpec)

/-- ITS FALSE NEIGHBOUR: 'it returns false'. Refute it at one input. -/
def fnExactEitherWrong : ChangeSpec := { name := "fnExactEither", fn := fun _ => fun
  | [d1, d2] => { results := [.lit (.bool false)], args := [d1, d2] }
  | _ => none }
def FnExactEitherWrongFalsely : Prop := fnExactEitherRow.holds Try.pinned (OpenSpec.ofChange fnExactEitherWrong)

/-- 'laws.FnExactRunOf': WHATEVER THE INPUT: true; the input reads as it did. -/
def fnExactRunOfSpec : ChangeSpec := { name := "fnExactRunOf", fn := fun _ => fun
  | [d1, d2] => { results := [.lit (.bool true)], args := [d1, d2] }
  | _ => none }
def fnExactRunOfRow : OpenClaim := { program := "ytmdajpgemcaefaa", sum := "f5559e1077079e7c404739d0ad3a29517f907a830b2162bfa0744696365b1290", func := "loop.example/g00671/laws.FnExactRunOf", spec := "fnExactRunOf", apart := false }
def FnExactRunOfSaid : Prop := fnExactRunOfRow.holds Try.pinned (OpenSpec.ofChange fnExactRunOfSpec)

/-- ITS FALSE NEIGHBOUR: 'it returns false'. Refute it at one input. -/
def fnExactRunOfWrong : ChangeSpec := { name := "fnExactRunOf", fn := fun _ => fun
  | [d1, d2] => { results := [.lit (.bool false)], args := [d1, d2] }
  | _ => none }
def FnExactRunOfWrongFalsely : Prop := fnExactRunOfRow.holds Try.pinned (OpenSpec.ofChange fnExactRunOfWrong)

/-- 'laws.FnExactViews': WHATEVER THE INPUT: true; the input reads as it did. -/
def fnExactViewsSpec : ChangeSpec := { name := "fnExactViews", fn := fun _ => fun
  | [d1, d2, d3] => { results := [.lit (.bool true)], args := [d1, d2, d3] }
  | _ => none }
def fnExactViewsRow : OpenClaim := { program := "ytmdajpgemcaefaa", sum := "f5559e1077079e7c404739d0ad3a29517f907a830b2162bfa0744696365b1290", func := "loop.example/g00671/laws.FnExactViews", spec := "fnExactViews", apart := false }
def FnExactViewsSaid : Prop := fnExactViewsRow.holds Try.pinned (OpenSpec.ofChange fnExactViewsSpec)

/-- ITS FALSE NEIGHBOUR: 'it returns false'. Refute it at one input. -/
def fnExactViewsWrong : ChangeSpec := { name := "fnExactViews", fn := fun _ => fun
  | [d1, d2, d3] => { results := [.lit (.bool false)], args := [d1, d2, d3] }
  | _ => none }
def FnExactViewsWrongFalsely : Prop := fnExactViewsRow.holds Try.pinned (OpenSpec.ofChange fnExactViewsWrong)

/-- 'laws.FnExactCommitRead': WHATEVER THE INPUT: true; the input reads as it did. -/
def fnExactCommitReadSpec : ChangeSpec := { name := "fnExactCommitRead", fn := fun _ => fun
  | [d] => { results := [.lit (.bool true)], args := [d] }
  | _ => none }
def fnExactCommitReadRow : OpenClaim := { program := "ytmdajpgemcaefaa", sum := "f5559e1077079e7c404739d0ad3a29517f907a830b2162bfa0744696365b1290", func := "loop.example/g00671/laws.FnExactCommitRead", spec := "fnExactCommitRead", apart := false }
def FnExactCommitReadSaid : Prop := fnExactCommitReadRow.holds Try.pinned (OpenSpec.ofChange fnExactCommitReadSpec)

/-- ITS FALSE NEIGHBOUR: 'it returns false'. Refute it at one input. -/
def fnExactCommitReadWrong : ChangeSpec := { name := "fnExactCommitRead", fn := fun _ => fun
  | [d] => { results := [.lit (.bool false)], args := [d] }
  | _ => none }
def FnExactCommitReadWrongFalsely : Prop := fnExactCommitReadRow.holds Try.pinned (OpenSpec.ofChange fnExactCommitReadWrong)

/-- 'laws.FnExactValueRead': WHATEVER THE INPUT: true; the input reads as it did. -/
def fnExactValueReadSpec : ChangeSpec := { name := "fnExactValueRead", fn := fun _ => fun
  | [d] => { results := [.lit (.bool true)], args := [d] }
  | _ => none }
def fnExactValueReadRow : OpenClaim := { program := "ytmdajpgemcaefaa", sum := "f5559e1077079e7c404739d0ad3a29517f907a830b2162bfa0744696365b1290", func := "loop.example/g00671/laws.FnExactValueRead", spec := "fnExactValueRead", apart := false }
def FnExactValueReadSaid : Prop := fnExactValueReadRow.holds Try.pinned (OpenSpec.ofChange fnExactValueReadSpec)

/-- ITS FALSE NEIGHBOUR: 'it returns false'. Refute it at one input. -/
def fnExactValueReadWrong : ChangeSpec := { name := "fnExactValueRead", fn := fun _ => fun
  | [d] => { results := [.lit (.bool false)], args := [d] }
  | _ => none }
def FnExactValueReadWrongFalsely : Prop := fnExactValueReadRow.holds Try.pinned (OpenSpec.ofChange fnExactValueReadWrong)

/-- 'laws.FnExactGraphRead': WHATEVER THE INPUT: true; the input reads as it did. -/
def fnExactGraphReadSpec : ChangeSpec := { name := "fnExactGraphRead", fn := fun _ => fun
  | [d] => { results := [.lit (.bool true)], args := [d] }
  | _ => none }
def fnExactGraphReadRow : OpenClaim := { program := "ytmdajpgemcaefaa", sum := "f5559e1077079e7c404739d0ad3a29517f907a830b2162bfa0744696365b1290", func := "loop.example/g00671/laws.FnExactGraphRead", spec := "fnExactGraphRead", apart := false }
def FnExactGraphReadSaid : Prop := fnExactGraphReadRow.holds Try.pinned (OpenSpec.ofChange fnExactGraphReadSpec)

/-- ITS FALSE NEIGHBOUR: 'it returns false'. Refute it at one input. -/
def fnExactGraphReadWrong : ChangeSpec := { name := "fnExactGraphRead", fn := fun _ => fun
  | [d] => { results := [.lit (.bool false)], args := [d] }
  | _ => none }
def FnExactGraphReadWrongFalsely : Prop := fnExactGraphReadRow.holds Try.pinned (OpenSpec.ofChange fnExactGraphReadWrong)

/-- 'laws.FnExactValueFile': WHATEVER THE INPUT: true; the input reads as it did. -/
def fnExactValueFileSpec : ChangeSpec := { name := "fnExactValueFile", fn := fun _ => fun
  | [d] => { results := [.lit (.bool true)], args := [d] }
  | _ => none }
def fnExactValueFileRow : OpenClaim := { program := "ytmdajpgemcaefaa", sum := "f5559e1077079e7c404739d0ad3a29517f907a830b2162bfa0744696365b1290", func := "loop.example/g00671/laws.FnExactValueFile", spec := "fnExactValueFile", apart := false }
def FnExactValueFileSaid : Prop := fnExactValueFileRow.holds Try.pinned (OpenSpec.ofChange fnExactValueFileSpec)

/-- ITS FALSE NEIGHBOUR: 'it returns false'. Refute it at one input. -/
def fnExactValueFileWrong : ChangeSpec := { name := "fnExactValueFile", fn := fun _ => fun
  | [d] => { results := [.lit (.bool false)], args := [d] }
  | _ => none }
def FnExactValueFileWrongFalsely : Prop := fnExactValueFileRow.holds Try.pinned (OpenSpec.ofChange fnExactValueFileWrong)

/-- 'laws.FnExactGraphFile': WHATEVER THE INPUT: true; the input reads as it did. -/
def fnExactGraphFileSpec : ChangeSpec := { name := "fnExactGraphFile", fn := fun _ => fun
  | [d] => { results := [.lit (.bool true)], args := [d] }
  | _ => none }
def fnExactGraphFileRow : OpenClaim := { program := "ytmdajpgemcaefaa", sum := "f5559e1077079e7c404739d0ad3a29517f907a830b2162bfa0744696365b1290", func := "loop.example/g00671/laws.FnExactGraphFile", spec := "fnExactGraphFile", apart := false }
def FnExactGraphFileSaid : Prop := fnExactGraphFileRow.holds Try.pinned (OpenSpec.ofChange fnExactGraphFileSpec)

/-- ITS FALSE NEIGHBOUR: 'it returns false'. Refute it at one input. -/
def fnExactGraphFileWrong : ChangeSpec := { name := "fnExactGraphFile", fn := fun _ => fun
  | [d] => { results := [.lit (.bool false)], args := [d] }
  | _ => none }
def FnExactGraphFileWrongFalsely : Prop := fnExactGraphFileRow.holds Try.pinned (OpenSpec.ofChange fnExactGraphFileWrong)

/-- 'laws.FnSets': WHATEVER THE INPUT: true; the input reads as it did. -/
def fnSetsSpec : ChangeSpec := { name := "fnSets", fn := fun _ => fun
  | [d] => { results := [.lit (.bool true)], args := [d] }
  | _ => none }
def fnSetsRow : OpenClaim := { program := "ytmdajpgemcaefaa", sum := "f5559e1077079e7c404739d0ad3a29517f907a830b2162bfa0744696365b1290", func := "loop.example/g00671/laws.FnSets", spec := "fnSets", apart := false }
def FnSetsSaid : Prop := fnSetsRow.holds Try.pinned (OpenSpec.ofChange fnSetsSpec)

/-- ITS FALSE NEIGHBOUR: 'it returns false'. Refute it at one input. -/
def fnSetsWrong : ChangeSpec := { name := "fnSets", fn := fun _ => fun
  | [d] => { results := [.lit (.bool false)], args := [d] }
  | _ => none }
def FnSetsWrongFalsely : Prop := fnSetsRow.holds Try.pinned (OpenSpec.ofChange fnSetsWrong)

/-- 'laws.FnExactUpdate': WHATEVER THE INPUT: true; the input reads as it did. -/
def fnExactUpdateSpec : ChangeSpec := { name := "fnExactUpdate", fn := fun _ => fun
  | [d1, d2, d3, d4] => { results := [.lit (.bool true)], args := [d1, d2, d3, d4] }
  | _ => none }
def fnExactUpdateRow : OpenClaim := { program := "ytmdajpgemcaefaa", sum := "f5559e1077079e7c404739d0ad3a29517f907a830b2162bfa0744696365b1290", func := "loop.example/g00671/laws.FnExactUpdate", spec := "fnExactUpdate", apart := false }
def FnExactUpdateSaid : Prop := fnExactUpdateRow.holds Try.pinned (OpenSpec.ofChange fnExactUpdateSpec)

/-- ITS FALSE NEIGHBOUR: 'it returns false'. Refute it at one input. -/
def fnExactUpdateWrong : ChangeSpec := { name := "fnExactUpdate", fn := fun _ => fun
  | [d1, d2, d3, d4] => { results := [.lit (.bool false)], args := [d1, d2, d3, d4] }
  | _ => none }
def FnExactUpdateWrongFalsely : Prop := fnExactUpdateRow.holds Try.pinned (OpenSpec.ofChange fnExactUpdateWrong)

/-- 'laws.FnUpdate': WHATEVER THE INPUT: true; the input reads as it did. -/
def fnUpdateSpec : ChangeSpec := { name := "fnUpdate", fn := fun _ => fun
  | [d] => { results := [.lit (.bool true)], args := [d] }
  | _ => none }
def fnUpdateRow : OpenClaim := { program := "ytmdajpgemcaefaa", sum := "f5559e1077079e7c404739d0ad3a29517f907a830b2162bfa0744696365b1290", func := "loop.example/g00671/laws.FnUpdate", spec := "fnUpdate", apart := false }
def FnUpdateSaid : Prop := fnUpdateRow.holds Try.pinned (OpenSpec.ofChange fnUpdateSpec)

/-- ITS FALSE NEIGHBOUR: 'it returns false'. Refute it at one input. -/
def fnUpdateWrong : ChangeSpec := { name := "fnUpdate", fn := fun _ => fun
  | [d] => { results := [.lit (.bool false)], args := [d] }
  | _ => none }
def FnUpdateWrongFalsely : Prop := fnUpdateRow.holds Try.pinned (OpenSpec.ofChange fnUpdateWrong)

/-- 'laws.FnExactFarmOk': WHATEVER THE INPUT: true; the input reads as it did. -/
def fnExactFarmOkSpec : ChangeSpec := { name := "fnExactFarmOk", fn := fun _ => fun
  | [d] => { results := [.lit (.bool true)], args := [d] }
  | _ => none }
def fnExactFarmOkRow : OpenClaim := { program := "ytmdajpgemcaefaa", sum := "f5559e1077079e7c404739d0ad3a29517f907a830b2162bfa0744696365b1290", func := "loop.example/g00671/laws.FnExactFarmOk", spec := "fnExactFarmOk", apart := false }
def FnExactFarmOkSaid : Prop := fnExactFarmOkRow.holds Try.pinned (OpenSpec.ofChange fnExactFarmOkSpec)

/-- ITS FALSE NEIGHBOUR: 'it returns false'. Refute it at one input. -/
def fnExactFarmOkWrong : ChangeSpec := { name := "fnExactFarmOk", fn := fun _ => fun
  | [d] => { results := [.lit (.bool false)], args := [d] }
  | _ => none }
def FnExactFarmOkWrongFalsely : Prop := fnExactFarmOkRow.holds Try.pinned (OpenSpec.ofChange fnExactFarmOkWrong)

/- THE SECOND FORM. 'bulk': how many values and letters a reading holds, each counted each time it is reached (what is shared counts as often as it is met; a slice's spare places count too). A statement '..UptoSaid' is the law's where the arguments, and the package variables that the reading takes, are together of bulk at most 1048576: NARROWER than '..Said'. Prove '..Said' where nothing that the law and all that it calls make is longer than what came in: it says more and counts as full. Else prove '..UptoSaid'. A law counts once. -/
mutual
def uptoBulk {H : Type} : DataW H → Nat
  | .lit (.string bytes) => bytes.length + 1
  | .lit _ => 1
  | .nil => 1
  | .ptr d => uptoBulk d + 1
  | .slice elems spare => uptoBulkAll elems + uptoBulkAll spare + 1
  | .agg parts => uptoBulkAll parts + 1
  | .iface _ d => uptoBulk d + 1
  | .map entries => uptoBulkEntries entries + 1
  | .held _ => 1
def uptoBulkAll {H : Type} : List (DataW H) → Nat
  | [] => 0
  | d :: r => uptoBulk d + uptoBulkAll r
def uptoBulkEntries {H : Type} : List (Lit × DataW H) → Nat
  | [] => 0
  | x :: r => uptoBulkEntry x + uptoBulkEntries r
def uptoBulkEntry {H : Type} : Lit × DataW H → Nat
  | (.string bytes, d) => bytes.length + uptoBulk d + 1
  | (_, d) => uptoBulk d + 1
 end
def uptoSmall : (H : Type) → List (DataW H) → Bool := fun _ ds => decide (uptoBulkAll ds ≤ 1048576)
def OpenSpec.upto (s : _root_.Go.ChangeSpec) : _root_.Go.OpenSpec := { _root_.Go.OpenSpec.ofChange s with cond := some uptoSmall }

/-- 'laws.FnExactEither', WHERE WHAT IT READS IS OF BULK AT MOST 1048576: true; the input reads as it did. -/
def fnExactEitherUptoRow : OpenClaim := { program := "ytmdajpgemcaefaa", sum := "f5559e1077079e7c404739d0ad3a29517f907a830b2162bfa0744696365b1290", func := "loop.example/g00671/laws.FnExactEither", spec := "fnExactEither", apart := false, narrowed := true }
def FnExactEitherUptoSaid : Prop := fnExactEitherUptoRow.holds Try.pinned (OpenSpec.upto fnExactEitherSpec)

/-- 'laws.FnExactRunOf', WHERE WHAT IT READS IS OF BULK AT MOST 1048576: true; the input reads as it did. -/
def fnExactRunOfUptoRow : OpenClaim := { program := "ytmdajpgemcaefaa", sum := "f5559e1077079e7c404739d0ad3a29517f907a830b2162bfa0744696365b1290", func := "loop.example/g00671/laws.FnExactRunOf", spec := "fnExactRunOf", apart := false, narrowed := true }
def FnExactRunOfUptoSaid : Prop := fnExactRunOfUptoRow.holds Try.pinned (OpenSpec.upto fnExactRunOfSpec)

/-- 'laws.FnExactViews', WHERE WHAT IT READS IS OF BULK AT MOST 1048576: true; the input reads as it did. -/
def fnExactViewsUptoRow : OpenClaim := { program := "ytmdajpgemcaefaa", sum := "f5559e1077079e7c404739d0ad3a29517f907a830b2162bfa0744696365b1290", func := "loop.example/g00671/laws.FnExactViews", spec := "fnExactViews", apart := false, narrowed := true }
def FnExactViewsUptoSaid : Prop := fnExactViewsUptoRow.holds Try.pinned (OpenSpec.upto fnExactViewsSpec)

/-- 'laws.FnExactCommitRead', WHERE WHAT IT READS IS OF BULK AT MOST 1048576: true; the input reads as it did. -/
def fnExactCommitReadUptoRow : OpenClaim := { program := "ytmdajpgemcaefaa", sum := "f5559e1077079e7c404739d0ad3a29517f907a830b2162bfa0744696365b1290", func := "loop.example/g00671/laws.FnExactCommitRead", spec := "fnExactCommitRead", apart := false, narrowed := true }
def FnExactCommitReadUptoSaid : Prop := fnExactCommitReadUptoRow.holds Try.pinned (OpenSpec.upto fnExactCommitReadSpec)

/-- 'laws.FnExactValueRead', WHERE WHAT IT READS IS OF BULK AT MOST 1048576: true; the input reads as it did. -/
def fnExactValueReadUptoRow : OpenClaim := { program := "ytmdajpgemcaefaa", sum := "f5559e1077079e7c404739d0ad3a29517f907a830b2162bfa0744696365b1290", func := "loop.example/g00671/laws.FnExactValueRead", spec := "fnExactValueRead", apart := false, narrowed := true }
def FnExactValueReadUptoSaid : Prop := fnExactValueReadUptoRow.holds Try.pinned (OpenSpec.upto fnExactValueReadSpec)

/-- 'laws.FnExactGraphRead', WHERE WHAT IT READS IS OF BULK AT MOST 1048576: true; the input reads as it did. -/
def fnExactGraphReadUptoRow : OpenClaim := { program := "ytmdajpgemcaefaa", sum := "f5559e1077079e7c404739d0ad3a29517f907a830b2162bfa0744696365b1290", func := "loop.example/g00671/laws.FnExactGraphRead", spec := "fnExactGraphRead", apart := false, narrowed := true }
def FnExactGraphReadUptoSaid : Prop := fnExactGraphReadUptoRow.holds Try.pinned (OpenSpec.upto fnExactGraphReadSpec)

/-- 'laws.FnExactValueFile', WHERE WHAT IT READS IS OF BULK AT MOST 1048576: true; the input reads as it did. -/
def fnExactValueFileUptoRow : OpenClaim := { program := "ytmdajpgemcaefaa", sum := "f5559e1077079e7c404739d0ad3a29517f907a830b2162bfa0744696365b1290", func := "loop.example/g00671/laws.FnExactValueFile", spec := "fnExactValueFile", apart := false, narrowed := true }
def FnExactValueFileUptoSaid : Prop := fnExactValueFileUptoRow.holds Try.pinned (OpenSpec.upto fnExactValueFileSpec)

/-- 'laws.FnExactGraphFile', WHERE WHAT IT READS IS OF BULK AT MOST 1048576: true; the input reads as it did. -/
def fnExactGraphFileUptoRow : OpenClaim := { program := "ytmdajpgemcaefaa", sum := "f5559e1077079e7c404739d0ad3a29517f907a830b2162bfa0744696365b1290", func := "loop.example/g00671/laws.FnExactGraphFile", spec := "fnExactGraphFile", apart := false, narrowed := true }
def FnExactGraphFileUptoSaid : Prop := fnExactGraphFileUptoRow.holds Try.pinned (OpenSpec.upto fnExactGraphFileSpec)

/-- 'laws.FnSets', WHERE WHAT IT READS IS OF BULK AT MOST 1048576: true; the input reads as it did. -/
def fnSetsUptoRow : OpenClaim := { program := "ytmdajpgemcaefaa", sum := "f5559e1077079e7c404739d0ad3a29517f907a830b2162bfa0744696365b1290", func := "loop.example/g00671/laws.FnSets", spec := "fnSets", apart := false, narrowed := true }
def FnSetsUptoSaid : Prop := fnSetsUptoRow.holds Try.pinned (OpenSpec.upto fnSetsSpec)

/-- 'laws.FnExactUpdate', WHERE WHAT IT READS IS OF BULK AT MOST 1048576: true; the input reads as it did. -/
def fnExactUpdateUptoRow : OpenClaim := { program := "ytmdajpgemcaefaa", sum := "f5559e1077079e7c404739d0ad3a29517f907a830b2162bfa0744696365b1290", func := "loop.example/g00671/laws.FnExactUpdate", spec := "fnExactUpdate", apart := false, narrowed := true }
def FnExactUpdateUptoSaid : Prop := fnExactUpdateUptoRow.holds Try.pinned (OpenSpec.upto fnExactUpdateSpec)

/-- 'laws.FnUpdate', WHERE WHAT IT READS IS OF BULK AT MOST 1048576: true; the input reads as it did. -/
def fnUpdateUptoRow : OpenClaim := { program := "ytmdajpgemcaefaa", sum := "f5559e1077079e7c404739d0ad3a29517f907a830b2162bfa0744696365b1290", func := "loop.example/g00671/laws.FnUpdate", spec := "fnUpdate", apart := false, narrowed := true }
def FnUpdateUptoSaid : Prop := fnUpdateUptoRow.holds Try.pinned (OpenSpec.upto fnUpdateSpec)

/-- 'laws.FnExactFarmOk', WHERE WHAT IT READS IS OF BULK AT MOST 1048576: true; the input reads as it did. -/
def fnExactFarmOkUptoRow : OpenClaim := { program := "ytmdajpgemcaefaa", sum := "f5559e1077079e7c404739d0ad3a29517f907a830b2162bfa0744696365b1290", func := "loop.example/g00671/laws.FnExactFarmOk", spec := "fnExactFarmOk", apart := false, narrowed := true }
def FnExactFarmOkUptoSaid : Prop := fnExactFarmOkUptoRow.holds Try.pinned (OpenSpec.upto fnExactFarmOkSpec)

end Rows
end Go.Proofs.Ytmdajpgemcaefaa
