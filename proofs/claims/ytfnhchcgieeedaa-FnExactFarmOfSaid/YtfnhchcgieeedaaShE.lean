/-
  The data of the types SEdge out of their form. No conditions of its own.
-/
import Derived.Test.YtfnhchcgieeedaaSh
import Derived.Test.YtfnhchcgieeedaaMG
namespace Go.Proofs.Ytfnhchcgieeedaa
set_option linter.unusedSimpArgs false
set_option linter.unusedVariables false
set_option linter.unusedSimpArgs false
set_option linter.unusedVariables false
set_option linter.defProp false
set_option maxRecDepth 20000
open Go.RowKit

def SEdgeD.rng (x : SEdgeD) : Prop := (I64 x.From) ∧ (I64 x.To) ∧ (I64 x.W) ∧ (I64 x.Index) ∧ (I64 x.Val)

end Go.Proofs.Ytfnhchcgieeedaa