/-
  The engine, texts G5 H2 in one. No conditions of its own.
-/
import Derived.Test.YtfdhdkljpeohlaaGreatGO
import Derived.Test.YtfdhdkljpeohlaaGreatDF
import Derived.Test.YtfdhdkljpeohlaaGreatS1
import Derived.Test.YtfdhdkljpeohlaaGreatMG
namespace Go.Proofs.YtfdhdkljpeohlaaGreat
set_option linter.unusedSimpArgs false
set_option linter.unusedVariables false
set_option linter.unusedSimpArgs false
set_option linter.unusedVariables false
set_option linter.defProp false
open Go.RowKit

end Go.Proofs.YtfdhdkljpeohlaaGreat

namespace Go.Proofs.YtfdhdkljpeohlaaGreat
set_option linter.unusedSimpArgs false
set_option linter.unusedVariables false
set_option linter.defProp false
open Go.RowKit

end Go.Proofs.YtfdhdkljpeohlaaGreat

