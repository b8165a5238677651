/-
  Contracts: two jobs compared. No conditions of its own.
-/
import Derived.Test.YtcbnfkbnbdbfoaaS1
import Derived.Laws.StructEq
namespace Go.Proofs.Ytcbnfkbnbdbfoaa
set_option linter.unusedSimpArgs false
set_option linter.unusedVariables false
set_option linter.unusedSimpArgs false
set_option linter.unusedVariables false
set_option linter.defProp false
open Go.RowKit

end Go.Proofs.Ytcbnfkbnbdbfoaa
