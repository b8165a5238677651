/-
  Data of Graph. No conditions of its own.
-/
import Derived.Test.YtfkpmhnfpljakaaS1
import Derived.Test.YtfkpmhnfpljakaaG4d
namespace Go.Proofs.Ytfkpmhnfpljakaa
set_option linter.unusedSimpArgs false
set_option linter.unusedVariables false
set_option linter.unusedSimpArgs false
set_option linter.unusedVariables false
set_option linter.defProp false
open Go.RowKit

structure GraphD where
  N : Int
  Edges : List EdgeD
deriving DecidableEq

end Go.Proofs.Ytfkpmhnfpljakaa
