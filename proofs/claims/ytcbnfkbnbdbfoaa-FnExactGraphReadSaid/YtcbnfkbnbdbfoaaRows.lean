/-
  No cell of these rows narrows 'for every input' (looked for: loops, veiled, ifaces, maps, wideKeys, modest, calm, conditions, laid).
  DERIVED. THE GIVEN ROWS OF THIS SEAT. 5 by the template 'for every input the law returns true; each argument reads behind the call as it read before'; 0 by the template 'total and deterministic' (their statements: YtcbnfkbnbdbfoaaTotals.lean).
  GIVEN WITH THE SEED: the statements are not yours to turn. If you find one false, say at which input.
  Laid BY PROGRAM, IN A SANDBOX (cutbox-rows.mjs): the forced cells as the released guide's own fill.sh prints them over the translation 9c39f14cb904abd5… (all of the seat's roots in one cut). By AI agents, Wed Nov 11 2026. No macro, syntax, notation, axiom, sorry.
-/
import Derived.Test.YtcbnfkbnbdbfoaaChecked
import GoSem.Claim
import GoSem.ClaimJoined
import GoSem.ClaimMapViews
import Derived.JoinedTies
import Derived.KernelRfl
namespace Go.Proofs.Ytcbnfkbnbdbfoaa
/- THE CELL 'sum', in the pinned program and in every row, IS THE sha256 OF THE DUMP (.gsa) THAT YtcbnfkbnbdbfoaaProg.lean LOADS. Nothing in Lean hashes anything: it is a label: what it is worth is what the hold of that sum in a sandbox is worth. -/
noncomputable def Try.pinned : Pinned := { name := "ytcbnfkbnbdbfoaa", sum := "9c39f14cb904abd5d517fc3d1fdd364651d6341da7c6f07c34877254f68ac52d", checked := Try.checked }
namespace Rows
def none {H : Type} : Left H := { results := [], args := [] }

/-- 'laws.FnExactLoad': WHATEVER THE INPUT: true; the input reads as it did. -/
def fnExactLoadSpec : ChangeSpec := { name := "fnExactLoad", fn := fun _ => fun
  | [d1, d2] => { results := [.lit (.bool true)], args := [d1, d2] }
  | _ => none }
def fnExactLoadRow : OpenClaim := { program := "ytcbnfkbnbdbfoaa", sum := "9c39f14cb904abd5d517fc3d1fdd364651d6341da7c6f07c34877254f68ac52d", func := "loop.example/g00671/laws.FnExactLoad", spec := "fnExactLoad", inPlace := ["internal/reflectlite.ValueOf", "internal/reflectlite.Swapper", "(internal/reflectlite.Value).Len"], unfollowed := true, recurses := true, apart := false }
def FnExactLoadSaid : Prop := fnExactLoadRow.holds Try.pinned (OpenSpec.ofChange fnExactLoadSpec)

/-- ITS FALSE NEIGHBOUR: 'it returns false'. Refute it at one input. -/
def fnExactLoadWrong : ChangeSpec := { name := "fnExactLoad", fn := fun _ => fun
  | [d1, d2] => { results := [.lit (.bool false)], args := [d1, d2] }
  | _ => none }
def FnExactLoadWrongFalsely : Prop := fnExactLoadRow.holds Try.pinned (OpenSpec.ofChange fnExactLoadWrong)

/-- 'laws.FnExactResidents': WHATEVER THE INPUT: true; the input reads as it did. -/
def fnExactResidentsSpec : ChangeSpec := { name := "fnExactResidents", fn := fun _ => fun
  | [d] => { results := [.lit (.bool true)], args := [d] }
  | _ => none }
def fnExactResidentsRow : OpenClaim := { program := "ytcbnfkbnbdbfoaa", sum := "9c39f14cb904abd5d517fc3d1fdd364651d6341da7c6f07c34877254f68ac52d", func := "loop.example/g00671/laws.FnExactResidents", spec := "fnExactResidents", inPlace := ["internal/reflectlite.ValueOf", "internal/reflectlite.Swapper", "(internal/reflectlite.Value).Len"], unfollowed := true, recurses := true, apart := false }
def FnExactResidentsSaid : Prop := fnExactResidentsRow.holds Try.pinned (OpenSpec.ofChange fnExactResidentsSpec)

/-- ITS FALSE NEIGHBOUR: 'it returns false'. Refute it at one input. -/
def fnExactResidentsWrong : ChangeSpec := { name := "fnExactResidents", fn := fun _ => fun
  | [d] => { results := [.lit (.bool false)], args := [d] }
  | _ => none }
def FnExactResidentsWrongFalsely : Prop := fnExactResidentsRow.holds Try.pinned (OpenSpec.ofChange fnExactResidentsWrong)

/-- 'laws.FnExactFarmOf': WHATEVER THE INPUT: true; the input reads as it did. -/
def fnExactFarmOfSpec : ChangeSpec := { name := "fnExactFarmOf", fn := fun _ => fun
  | [d1, d2, d3] => { results := [.lit (.bool true)], args := [d1, d2, d3] }
  | _ => none }
def fnExactFarmOfRow : OpenClaim := { program := "ytcbnfkbnbdbfoaa", sum := "9c39f14cb904abd5d517fc3d1fdd364651d6341da7c6f07c34877254f68ac52d", func := "loop.example/g00671/laws.FnExactFarmOf", spec := "fnExactFarmOf", inPlace := ["internal/reflectlite.ValueOf", "internal/reflectlite.Swapper", "(internal/reflectlite.Value).Len"], unfollowed := true, recurses := true, apart := false }
def FnExactFarmOfSaid : Prop := fnExactFarmOfRow.holds Try.pinned (OpenSpec.ofChange fnExactFarmOfSpec)

/-- ITS FALSE NEIGHBOUR: 'it returns false'. Refute it at one input. -/
def fnExactFarmOfWrong : ChangeSpec := { name := "fnExactFarmOf", fn := fun _ => fun
  | [d1, d2, d3] => { results := [.lit (.bool false)], args := [d1, d2, d3] }
  | _ => none }
def FnExactFarmOfWrongFalsely : Prop := fnExactFarmOfRow.holds Try.pinned (OpenSpec.ofChange fnExactFarmOfWrong)

/-- 'laws.FnFarm': WHATEVER THE INPUT: true; the input reads as it did. -/
def fnFarmSpec : ChangeSpec := { name := "fnFarm", fn := fun _ => fun
  | [d] => { results := [.lit (.bool true)], args := [d] }
  | _ => none }
def fnFarmRow : OpenClaim := { program := "ytcbnfkbnbdbfoaa", sum := "9c39f14cb904abd5d517fc3d1fdd364651d6341da7c6f07c34877254f68ac52d", func := "loop.example/g00671/laws.FnFarm", spec := "fnFarm", inPlace := ["internal/reflectlite.ValueOf", "internal/reflectlite.Swapper", "(internal/reflectlite.Value).Len"], unfollowed := true, recurses := true, apart := false }
def FnFarmSaid : Prop := fnFarmRow.holds Try.pinned (OpenSpec.ofChange fnFarmSpec)

/-- ITS FALSE NEIGHBOUR: 'it returns false'. Refute it at one input. -/
def fnFarmWrong : ChangeSpec := { name := "fnFarm", fn := fun _ => fun
  | [d] => { results := [.lit (.bool false)], args := [d] }
  | _ => none }
def FnFarmWrongFalsely : Prop := fnFarmRow.holds Try.pinned (OpenSpec.ofChange fnFarmWrong)

/-- 'laws.FnExactGraphRead': WHATEVER THE INPUT: true; the input reads as it did. -/
def fnExactGraphReadSpec : ChangeSpec := { name := "fnExactGraphRead", fn := fun _ => fun
  | [d] => { results := [.lit (.bool true)], args := [d] }
  | _ => none }
def fnExactGraphReadRow : OpenClaim := { program := "ytcbnfkbnbdbfoaa", sum := "9c39f14cb904abd5d517fc3d1fdd364651d6341da7c6f07c34877254f68ac52d", func := "loop.example/g00671/laws.FnExactGraphRead", spec := "fnExactGraphRead", apart := false }
def FnExactGraphReadSaid : Prop := fnExactGraphReadRow.holds Try.pinned (OpenSpec.ofChange fnExactGraphReadSpec)

/-- ITS FALSE NEIGHBOUR: 'it returns false'. Refute it at one input. -/
def fnExactGraphReadWrong : ChangeSpec := { name := "fnExactGraphRead", fn := fun _ => fun
  | [d] => { results := [.lit (.bool false)], args := [d] }
  | _ => none }
def FnExactGraphReadWrongFalsely : Prop := fnExactGraphReadRow.holds Try.pinned (OpenSpec.ofChange fnExactGraphReadWrong)

/- THE SECOND FORM. 'bulk': how many values and letters a reading holds, each counted each time it is reached (what is shared counts as often as it is met; a slice's spare places count too). A statement '..UptoSaid' is the law's where the arguments, and the package variables that the reading takes, are together of bulk at most 1048576: NARROWER than '..Said'. Prove '..Said' where nothing that the law and all that it calls make is longer than what came in: it says more and counts as full. Else prove '..UptoSaid'. A law counts once. -/
mutual
def uptoBulk {H : Type} : DataW H → Nat
  | .lit (.string bytes) => bytes.length + 1
  | .lit _ => 1
  | .nil => 1
  | .ptr d => uptoBulk d + 1
  | .slice elems spare => uptoBulkAll elems + uptoBulkAll spare + 1
  | .agg parts => uptoBulkAll parts + 1
  | .iface _ d => uptoBulk d + 1
  | .map entries => uptoBulkEntries entries + 1
  | .held _ => 1
def uptoBulkAll {H : Type} : List (DataW H) → Nat
  | [] => 0
  | d :: r => uptoBulk d + uptoBulkAll r
def uptoBulkEntries {H : Type} : List (Lit × DataW H) → Nat
  | [] => 0
  | x :: r => uptoBulkEntry x + uptoBulkEntries r
def uptoBulkEntry {H : Type} : Lit × DataW H → Nat
  | (.string bytes, d) => bytes.length + uptoBulk d + 1
  | (_, d) => uptoBulk d + 1
 end
def uptoSmall : (H : Type) → List (DataW H) → Bool := fun _ ds => decide (uptoBulkAll ds ≤ 1048576)
def OpenSpec.upto (s : _root_.Go.ChangeSpec) : _root_.Go.OpenSpec := { _root_.Go.OpenSpec.ofChange s with cond := some uptoSmall }

/-- 'laws.FnExactLoad', WHERE WHAT IT READS IS OF BULK AT MOST 1048576: true; the input reads as it did. -/
def fnExactLoadUptoRow : OpenClaim := { program := "ytcbnfkbnbdbfoaa", sum := "9c39f14cb904abd5d517fc3d1fdd364651d6341da7c6f07c34877254f68ac52d", func := "loop.example/g00671/laws.FnExactLoad", spec := "fnExactLoad", inPlace := ["internal/reflectlite.ValueOf", "internal/reflectlite.Swapper", "(internal/reflectlite.Value).Len"], unfollowed := true, recurses := true, apart := false, narrowed := true }
def FnExactLoadUptoSaid : Prop := fnExactLoadUptoRow.holds Try.pinned (OpenSpec.upto fnExactLoadSpec)

/-- 'laws.FnExactResidents', WHERE WHAT IT READS IS OF BULK AT MOST 1048576: true; the input reads as it did. -/
def fnExactResidentsUptoRow : OpenClaim := { program := "ytcbnfkbnbdbfoaa", sum := "9c39f14cb904abd5d517fc3d1fdd364651d6341da7c6f07c34877254f68ac52d", func := "loop.example/g00671/laws.FnExactResidents", spec := "fnExactResidents", inPlace := ["internal/reflectlite.ValueOf", "internal/reflectlite.Swapper", "(internal/reflectlite.Value).Len"], unfollowed := true, recurses := true, apart := false, narrowed := true }
def FnExactResidentsUptoSaid : Prop := fnExactResidentsUptoRow.holds Try.pinned (OpenSpec.upto fnExactResidentsSpec)

/-- 'laws.FnExactFarmOf', WHERE WHAT IT READS IS OF BULK AT MOST 1048576: true; the input reads as it did. -/
def fnExactFarmOfUptoRow : OpenClaim := { program := "ytcbnfkbnbdbfoaa", sum := "9c39f14cb904abd5d517fc3d1fdd364651d6341da7c6f07c34877254f68ac52d", func := "loop.example/g00671/laws.FnExactFarmOf", spec := "fnExactFarmOf", inPlace := ["internal/reflectlite.ValueOf", "internal/reflectlite.Swapper", "(internal/reflectlite.Value).Len"], unfollowed := true, recurses := true, apart := false, narrowed := true }
def FnExactFarmOfUptoSaid : Prop := fnExactFarmOfUptoRow.holds Try.pinned (OpenSpec.upto fnExactFarmOfSpec)

/-- 'laws.FnFarm', WHERE WHAT IT READS IS OF BULK AT MOST 1048576: true; the input reads as it did. -/
def fnFarmUptoRow : OpenClaim := { program := "ytcbnfkbnbdbfoaa", sum := "9c39f14cb904abd5d517fc3d1fdd364651d6341da7c6f07c34877254f68ac52d", func := "loop.example/g00671/laws.FnFarm", spec := "fnFarm", inPlace := ["internal/reflectlite.ValueOf", "internal/reflectlite.Swapper", "(internal/reflectlite.Value).Len"], unfollowed := true, recurses := true, apart := false, narrowed := true }
def FnFarmUptoSaid : Prop := fnFarmUptoRow.holds Try.pinned (OpenSpec.upto fnFarmSpec)

/-- 'laws.FnExactGraphRead', WHERE WHAT IT READS IS OF BULK AT MOST 1048576: true; the input reads as it did. -/
def fnExactGraphReadUptoRow : OpenClaim := { program := "ytcbnfkbnbdbfoaa", sum := "9c39f14cb904abd5d517fc3d1fdd364651d6341da7c6f07c34877254f68ac52d", func := "loop.example/g00671/laws.FnExactGraphRead", spec := "fnExactGraphRead", apart := false, narrowed := true }
def FnExactGraphReadUptoSaid : Prop := fnExactGraphReadUptoRow.holds Try.pinned (OpenSpec.upto fnExactGraphReadSpec)

end Rows
end Go.Proofs.Ytcbnfkbnbdbfoaa
