/-
  A row of the call's own is from now on only read. No conditions of its own.
-/
import Derived.Test.YtfdhdkljpeohlaaGreatS1
namespace Go.Proofs.YtfdhdkljpeohlaaGreat
set_option linter.unusedSimpArgs false
set_option linter.unusedVariables false
set_option linter.unusedSimpArgs false
set_option linter.unusedVariables false
set_option linter.defProp false
open Go.RowKit

end Go.Proofs.YtfdhdkljpeohlaaGreat

