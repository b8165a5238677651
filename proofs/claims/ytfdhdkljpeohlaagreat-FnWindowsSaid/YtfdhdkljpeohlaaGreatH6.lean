/-
  Contracts of the law's helpers for FRun. No conditions of its own.
-/
import Derived.Test.YtfdhdkljpeohlaaGreatGO
import Derived.Test.YtfdhdkljpeohlaaGreatMGE
import Derived.Test.YtfdhdkljpeohlaaGreatMH
namespace Go.Proofs.YtfdhdkljpeohlaaGreat
set_option linter.unusedSimpArgs false
set_option linter.unusedVariables false
set_option linter.unusedSimpArgs false
set_option linter.unusedVariables false
set_option linter.defProp false
set_option maxRecDepth 20000
open Go.RowKit

structure FRunD where
  Job : JobD
  Iter : Int
  Done : Bool
  Vals : List Int
  Next : SetD
  Farm : FarmD
deriving DecidableEq

end Go.Proofs.YtfdhdkljpeohlaaGreat
