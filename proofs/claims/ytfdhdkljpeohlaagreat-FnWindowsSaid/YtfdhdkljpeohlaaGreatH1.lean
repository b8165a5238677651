/-
  Contracts of the law's helpers for Sub. No conditions of its own.
-/
import Derived.Test.YtfdhdkljpeohlaaGreatGO
import Derived.Test.YtfdhdkljpeohlaaGreatMG
namespace Go.Proofs.YtfdhdkljpeohlaaGreat
set_option linter.unusedSimpArgs false
set_option linter.unusedVariables false
set_option linter.unusedSimpArgs false
set_option linter.unusedVariables false
set_option linter.defProp false
set_option maxRecDepth 20000
open Go.RowKit

structure SubD where
  P : Int
  Lo : Int
  Hi : Int
  Locs : List LocD
  Reads : Int
deriving DecidableEq

end Go.Proofs.YtfdhdkljpeohlaaGreat
