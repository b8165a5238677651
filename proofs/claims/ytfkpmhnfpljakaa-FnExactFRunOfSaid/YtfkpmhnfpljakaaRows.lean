/-
  No cell of these rows narrows 'for every input' (looked for: loops, veiled, ifaces, maps, wideKeys, modest, calm, conditions, laid).
  DERIVED. THE GIVEN ROWS OF THIS SEAT. 8 by the template 'for every input the law returns true; each argument reads behind the call as it read before'; 0 by the template 'total and deterministic' (their statements: YtfkpmhnfpljakaaTotals.lean).
  GIVEN WITH THE SEED: the statements are not yours to turn. If you find one false, say at which input.
  Laid BY PROGRAM, IN A SANDBOX (cutbox-rows.mjs): the forced cells as the released guide's own fill.sh prints them over the translation f1fc13276256513f… (all of the seat's roots in one cut). By AI agents, Wed Nov 11 2026. No macro, syntax, notation, axiom, sorry.
-/
import Derived.Test.YtfkpmhnfpljakaaChecked
import GoSem.Claim
import GoSem.ClaimJoined
import GoSem.ClaimMapViews
import Derived.JoinedTies
import Derived.KernelRfl
namespace Go.Proofs.Ytfkpmhnfpljakaa
/- THE CELL 'sum', in the pinned program and in every row, IS THE sha256 OF THE DUMP (.gsa) THAT YtfkpmhnfpljakaaProg.lean LOADS. Nothing in Lean hashes anything: it is a label: what it is worth is what the hold of that sum in a sandbox is worth. -/
noncomputable def Try.pinned : Pinned := { name := "ytfkpmhnfpljakaa", sum := "f1fc13276256513f8cd1a7e6658f0ab38a7d81b754b9abac955f38727dad22b9", checked := Try.checked }
namespace Rows
def none {H : Type} : Left H := { results := [], args := [] }

/-- 'laws.FnExactPut': WHATEVER THE INPUT: true; the input reads as it did. -/
def fnExactPutSpec : ChangeSpec := { name := "fnExactPut", fn := fun _ => fun
  | [d1, d2] => { results := [.lit (.bool true)], args := [d1, d2] }
  | _ => none }
def fnExactPutRow : OpenClaim := { program := "ytfkpmhnfpljakaa", sum := "f1fc13276256513f8cd1a7e6658f0ab38a7d81b754b9abac955f38727dad22b9", func := "loop.example/g00671/laws.FnExactPut", spec := "fnExactPut", apart := false }
def FnExactPutSaid : Prop := fnExactPutRow.holds Try.pinned (OpenSpec.ofChange fnExactPutSpec)

/-- ITS FALSE NEIGHBOUR: 'it returns false'. Refute it at one input. -/
def fnExactPutWrong : ChangeSpec := { name := "fnExactPut", fn := fun _ => fun
  | [d1, d2] => { results := [.lit (.bool false)], args := [d1, d2] }
  | _ => none }
def FnExactPutWrongFalsely : Prop := fnExactPutRow.holds Try.pinned (OpenSpec.ofChange fnExactPutWrong)

/-- 'laws.FnExactFRunOk': WHATEVER THE INPUT: true; the input reads as it did. -/
def fnExactFRunOkSpec : ChangeSpec := { name := "fnExactFRunOk", fn := fun _ => fun
  | [d] => { results := [.lit (.bool true)], args := [d] }
  | _ => none }
def fnExactFRunOkRow : OpenClaim := { program := "ytfkpmhnfpljakaa", sum := "f1fc13276256513f8cd1a7e6658f0ab38a7d81b754b9abac955f38727dad22b9", func := "loop.example/g00671/laws.FnExactFRunOk", spec := "fnExactFRunOk", apart := false }
def FnExactFRunOkSaid : Prop := fnExactFRunOkRow.holds Try.pinned (OpenSpec.ofChange fnExactFRunOkSpec)

/-- ITS FALSE NEIGHBOUR: 'it returns false'. Refute it at one input. -/
def fnExactFRunOkWrong : ChangeSpec := { name := "fnExactFRunOk", fn := fun _ => fun
  | [d] => { results := [.lit (.bool false)], args := [d] }
  | _ => none }
def FnExactFRunOkWrongFalsely : Prop := fnExactFRunOkRow.holds Try.pinned (OpenSpec.ofChange fnExactFRunOkWrong)

/-- 'laws.FnExactBack': WHATEVER THE INPUT: true; the input reads as it did. -/
def fnExactBackSpec : ChangeSpec := { name := "fnExactBack", fn := fun _ => fun
  | [d] => { results := [.lit (.bool true)], args := [d] }
  | _ => none }
def fnExactBackRow : OpenClaim := { program := "ytfkpmhnfpljakaa", sum := "f1fc13276256513f8cd1a7e6658f0ab38a7d81b754b9abac955f38727dad22b9", func := "loop.example/g00671/laws.FnExactBack", spec := "fnExactBack", apart := false }
def FnExactBackSaid : Prop := fnExactBackRow.holds Try.pinned (OpenSpec.ofChange fnExactBackSpec)

/-- ITS FALSE NEIGHBOUR: 'it returns false'. Refute it at one input. -/
def fnExactBackWrong : ChangeSpec := { name := "fnExactBack", fn := fun _ => fun
  | [d] => { results := [.lit (.bool false)], args := [d] }
  | _ => none }
def FnExactBackWrongFalsely : Prop := fnExactBackRow.holds Try.pinned (OpenSpec.ofChange fnExactBackWrong)

/-- 'laws.FnExactFRunOf': WHATEVER THE INPUT: true; the input reads as it did. -/
def fnExactFRunOfSpec : ChangeSpec := { name := "fnExactFRunOf", fn := fun _ => fun
  | [d1, d2] => { results := [.lit (.bool true)], args := [d1, d2] }
  | _ => none }
def fnExactFRunOfRow : OpenClaim := { program := "ytfkpmhnfpljakaa", sum := "f1fc13276256513f8cd1a7e6658f0ab38a7d81b754b9abac955f38727dad22b9", func := "loop.example/g00671/laws.FnExactFRunOf", spec := "fnExactFRunOf", apart := false }
def FnExactFRunOfSaid : Prop := fnExactFRunOfRow.holds Try.pinned (OpenSpec.ofChange fnExactFRunOfSpec)

/-- ITS FALSE NEIGHBOUR: 'it returns false'. Refute it at one input. -/
def fnExactFRunOfWrong : ChangeSpec := { name := "fnExactFRunOf", fn := fun _ => fun
  | [d1, d2] => { results := [.lit (.bool false)], args := [d1, d2] }
  | _ => none }
def FnExactFRunOfWrongFalsely : Prop := fnExactFRunOfRow.holds Try.pinned (OpenSpec.ofChange fnExactFRunOfWrong)

/-- 'laws.FnExactLoad': WHATEVER THE INPUT: true; the input reads as it did. -/
def fnExactLoadSpec : ChangeSpec := { name := "fnExactLoad", fn := fun _ => fun
  | [d1, d2] => { results := [.lit (.bool true)], args := [d1, d2] }
  | _ => none }
def fnExactLoadRow : OpenClaim := { program := "ytfkpmhnfpljakaa", sum := "f1fc13276256513f8cd1a7e6658f0ab38a7d81b754b9abac955f38727dad22b9", func := "loop.example/g00671/laws.FnExactLoad", spec := "fnExactLoad", inPlace := ["internal/reflectlite.ValueOf", "internal/reflectlite.Swapper", "(internal/reflectlite.Value).Len"], unfollowed := true, recurses := true, apart := false }
def FnExactLoadSaid : Prop := fnExactLoadRow.holds Try.pinned (OpenSpec.ofChange fnExactLoadSpec)

/-- ITS FALSE NEIGHBOUR: 'it returns false'. Refute it at one input. -/
def fnExactLoadWrong : ChangeSpec := { name := "fnExactLoad", fn := fun _ => fun
  | [d1, d2] => { results := [.lit (.bool false)], args := [d1, d2] }
  | _ => none }
def FnExactLoadWrongFalsely : Prop := fnExactLoadRow.holds Try.pinned (OpenSpec.ofChange fnExactLoadWrong)

/-- 'laws.FnExactResidents': WHATEVER THE INPUT: true; the input reads as it did. -/
def fnExactResidentsSpec : ChangeSpec := { name := "fnExactResidents", fn := fun _ => fun
  | [d] => { results := [.lit (.bool true)], args := [d] }
  | _ => none }
def fnExactResidentsRow : OpenClaim := { program := "ytfkpmhnfpljakaa", sum := "f1fc13276256513f8cd1a7e6658f0ab38a7d81b754b9abac955f38727dad22b9", func := "loop.example/g00671/laws.FnExactResidents", spec := "fnExactResidents", inPlace := ["internal/reflectlite.ValueOf", "internal/reflectlite.Swapper", "(internal/reflectlite.Value).Len"], unfollowed := true, recurses := true, apart := false }
def FnExactResidentsSaid : Prop := fnExactResidentsRow.holds Try.pinned (OpenSpec.ofChange fnExactResidentsSpec)

/-- ITS FALSE NEIGHBOUR: 'it returns false'. Refute it at one input. -/
def fnExactResidentsWrong : ChangeSpec := { name := "fnExactResidents", fn := fun _ => fun
  | [d] => { results := [.lit (.bool false)], args := [d] }
  | _ => none }
def FnExactResidentsWrongFalsely : Prop := fnExactResidentsRow.holds Try.pinned (OpenSpec.ofChange fnExactResidentsWrong)

/-- 'laws.FnExactFarmOf': WHATEVER THE INPUT: true; the input reads as it did. -/
def fnExactFarmOfSpec : ChangeSpec := { name := "fnExactFarmOf", fn := fun _ => fun
  | [d1, d2, d3] => { results := [.lit (.bool true)], args := [d1, d2, d3] }
  | _ => none }
def fnExactFarmOfRow : OpenClaim := { program := "ytfkpmhnfpljakaa", sum := "f1fc13276256513f8cd1a7e6658f0ab38a7d81b754b9abac955f38727dad22b9", func := "loop.example/g00671/laws.FnExactFarmOf", spec := "fnExactFarmOf", inPlace := ["internal/reflectlite.ValueOf", "internal/reflectlite.Swapper", "(internal/reflectlite.Value).Len"], unfollowed := true, recurses := true, apart := false }
def FnExactFarmOfSaid : Prop := fnExactFarmOfRow.holds Try.pinned (OpenSpec.ofChange fnExactFarmOfSpec)

/-- ITS FALSE NEIGHBOUR: 'it returns false'. Refute it at one input. -/
def fnExactFarmOfWrong : ChangeSpec := { name := "fnExactFarmOf", fn := fun _ => fun
  | [d1, d2, d3] => { results := [.lit (.bool false)], args := [d1, d2, d3] }
  | _ => none }
def FnExactFarmOfWrongFalsely : Prop := fnExactFarmOfRow.holds Try.pinned (OpenSpec.ofChange fnExactFarmOfWrong)

/-- 'laws.FnFarm': WHATEVER THE INPUT: true; the input reads as it did. -/
def fnFarmSpec : ChangeSpec := { name := "fnFarm", fn := fun _ => fun
  | [d] => { results := [.lit (.bool true)], args := [d] }
  | _ => none }
def fnFarmRow : OpenClaim := { program := "ytfkpmhnfpljakaa", sum := "f1fc13276256513f8cd1a7e6658f0ab38a7d81b754b9abac955f38727dad22b9", func := "loop.example/g00671/laws.FnFarm", spec := "fnFarm", inPlace := ["internal/reflectlite.ValueOf", "internal/reflectlite.Swapper", "(internal/reflectlite.Value).Len"], unfollowed := true, recurses := true, apart := false }
def FnFarmSaid : Prop := fnFarmRow.holds Try.pinned (OpenSpec.ofChange fnFarmSpec)

/-- ITS FALSE NEIGHBOUR: 'it returns false'. Refute it at one input. -/
def fnFarmWrong : ChangeSpec := { name := "fnFarm", fn := fun _ => fun
  | [d] => { results := [.lit (.bool false)], args := [d] }
  | _ => none }
def FnFarmWrongFalsely : Prop := fnFarmRow.holds Try.pinned (OpenSpec.ofChange fnFarmWrong)

/- THE SECOND FORM. 'bulk': how many values and letters a reading holds, each counted each time it is reached (what is shared counts as often as it is met; a slice's spare places count too). A statement '..UptoSaid' is the law's where the arguments, and the package variables that the reading takes, are together of bulk at most 1048576: NARROWER than '..Said'. Prove '..Said' where nothing that the law and all that it calls make is longer than what came in: it says more and counts as full. Else prove '..UptoSaid'. A law counts once. -/
mutual
def uptoBulk {H : Type} : DataW H → Nat
  | .lit (.string bytes) => bytes.length + 1
  | .lit _ => 1
  | .nil => 1
  | .ptr d => uptoBulk d + 1
  | .slice elems spare => uptoBulkAll elems + uptoBulkAll spare + 1
  | .agg parts => uptoBulkAll parts + 1
  | .iface _ d => uptoBulk d + 1
  | .map entries => uptoBulkEntries entries + 1
  | .held _ => 1
def uptoBulkAll {H : Type} : List (DataW H) → Nat
  | [] => 0
  | d :: r => uptoBulk d + uptoBulkAll r
def uptoBulkEntries {H : Type} : List (Lit × DataW H) → Nat
  | [] => 0
  | x :: r => uptoBulkEntry x + uptoBulkEntries r
def uptoBulkEntry {H : Type} : Lit × DataW H → Nat
  | (.string bytes, d) => bytes.length + uptoBulk d + 1
  | (_, d) => uptoBulk d + 1
 end
def uptoSmall : (H : Type) → List (DataW H) → Bool := fun _ ds => decide (uptoBulkAll ds ≤ 1048576)
def OpenSpec.upto (s : _root_.Go.ChangeSpec) : _root_.Go.OpenSpec := { _root_.Go.OpenSpec.ofChange s with cond := some uptoSmall }

/-- 'laws.FnExactPut', WHERE WHAT IT READS IS OF BULK AT MOST 1048576: true; the input reads as it did. -/
def fnExactPutUptoRow : OpenClaim := { program := "ytfkpmhnfpljakaa", sum := "f1fc13276256513f8cd1a7e6658f0ab38a7d81b754b9abac955f38727dad22b9", func := "loop.example/g00671/laws.FnExactPut", spec := "fnExactPut", apart := false, narrowed := true }
def FnExactPutUptoSaid : Prop := fnExactPutUptoRow.holds Try.pinned (OpenSpec.upto fnExactPutSpec)

/-- 'laws.FnExactFRunOk', WHERE WHAT IT READS IS OF BULK AT MOST 1048576: true; the input reads as it did. -/
def fnExactFRunOkUptoRow : OpenClaim := { program := "ytfkpmhnfpljakaa", sum := "f1fc13276256513f8cd1a7e6658f0ab38a7d81b754b9abac955f38727dad22b9", func := "loop.example/g00671/laws.FnExactFRunOk", spec := "fnExactFRunOk", apart := false, narrowed := true }
def FnExactFRunOkUptoSaid : Prop := fnExactFRunOkUptoRow.holds Try.pinned (OpenSpec.upto fnExactFRunOkSpec)

/-- 'laws.FnExactBack', WHERE WHAT IT READS IS OF BULK AT MOST 1048576: true; the input reads as it did. -/
def fnExactBackUptoRow : OpenClaim := { program := "ytfkpmhnfpljakaa", sum := "f1fc13276256513f8cd1a7e6658f0ab38a7d81b754b9abac955f38727dad22b9", func := "loop.example/g00671/laws.FnExactBack", spec := "fnExactBack", apart := false, narrowed := true }
def FnExactBackUptoSaid : Prop := fnExactBackUptoRow.holds Try.pinned (OpenSpec.upto fnExactBackSpec)

/-- 'laws.FnExactFRunOf', WHERE WHAT IT READS IS OF BULK AT MOST 1048576: true; the input reads as it did. -/
def fnExactFRunOfUptoRow : OpenClaim := { program := "ytfkpmhnfpljakaa", sum := "f1fc13276256513f8cd1a7e6658f0ab38a7d81b754b9abac955f38727dad22b9", func := "loop.example/g00671/laws.FnExactFRunOf", spec := "fnExactFRunOf", apart := false, narrowed := true }
def FnExactFRunOfUptoSaid : Prop := fnExactFRunOfUptoRow.holds Try.pinned (OpenSpec.upto fnExactFRunOfSpec)

/-- 'laws.FnExactLoad', WHERE WHAT IT READS IS OF BULK AT MOST 1048576: true; the input reads as it did. -/
def fnExactLoadUptoRow : OpenClaim := { program := "ytfkpmhnfpljakaa", sum := "f1fc13276256513f8cd1a7e6658f0ab38a7d81b754b9abac955f38727dad22b9", func := "loop.example/g00671/laws.FnExactLoad", spec := "fnExactLoad", inPlace := ["internal/reflectlite.ValueOf", "internal/reflectlite.Swapper", "(internal/reflectlite.Value).Len"], unfollowed := true, recurses := true, apart := false, narrowed := true }
def FnExactLoadUptoSaid : Prop := fnExactLoadUptoRow.holds Try.pinned (OpenSpec.upto fnExactLoadSpec)

/-- 'laws.FnExactResidents', WHERE WHAT IT READS IS OF BULK AT MOST 1048576: true; the input reads as it did. -/
def fnExactResidentsUptoRow : OpenClaim := { program := "ytfkpmhnfpljakaa", sum := "f1fc13276256513f8cd1a7e6658f0ab38a7d81b754b9abac955f38727dad22b9", func := "loop.example/g00671/laws.FnExactResidents", spec := "fnExactResidents", inPlace := ["internal/reflectlite.ValueOf", "internal/reflectlite.Swapper", "(internal/reflectlite.Value).Len"], unfollowed := true, recurses := true, apart := false, narrowed := true }
def FnExactResidentsUptoSaid : Prop := fnExactResidentsUptoRow.holds Try.pinned (OpenSpec.upto fnExactResidentsSpec)

/-- 'laws.FnExactFarmOf', WHERE WHAT IT READS IS OF BULK AT MOST 1048576: true; the input reads as it did. -/
def fnExactFarmOfUptoRow : OpenClaim := { program := "ytfkpmhnfpljakaa", sum := "f1fc13276256513f8cd1a7e6658f0ab38a7d81b754b9abac955f38727dad22b9", func := "loop.example/g00671/laws.FnExactFarmOf", spec := "fnExactFarmOf", inPlace := ["internal/reflectlite.ValueOf", "internal/reflectlite.Swapper", "(internal/reflectlite.Value).Len"], unfollowed := true, recurses := true, apart := false, narrowed := true }
def FnExactFarmOfUptoSaid : Prop := fnExactFarmOfUptoRow.holds Try.pinned (OpenSpec.upto fnExactFarmOfSpec)

/-- 'laws.FnFarm', WHERE WHAT IT READS IS OF BULK AT MOST 1048576: true; the input reads as it did. -/
def fnFarmUptoRow : OpenClaim := { program := "ytfkpmhnfpljakaa", sum := "f1fc13276256513f8cd1a7e6658f0ab38a7d81b754b9abac955f38727dad22b9", func := "loop.example/g00671/laws.FnFarm", spec := "fnFarm", inPlace := ["internal/reflectlite.ValueOf", "internal/reflectlite.Swapper", "(internal/reflectlite.Value).Len"], unfollowed := true, recurses := true, apart := false, narrowed := true }
def FnFarmUptoSaid : Prop := fnFarmUptoRow.holds Try.pinned (OpenSpec.upto fnFarmSpec)

end Rows
end Go.Proofs.Ytfkpmhnfpljakaa
