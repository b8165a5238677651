/-
  Data of Graph. No conditions of its own.
-/
import Derived.Test.YtageceacjmmmdaaS1
import Derived.Test.YtageceacjmmmdaaG4d
namespace Go.Proofs.Ytageceacjmmmdaa
set_option linter.unusedSimpArgs false
set_option linter.unusedVariables false
set_option linter.unusedSimpArgs false
set_option linter.unusedVariables false
set_option linter.defProp false
open Go.RowKit

structure GraphD where
  N : Int
  Edges : List EdgeD
deriving DecidableEq

end Go.Proofs.Ytageceacjmmmdaa
