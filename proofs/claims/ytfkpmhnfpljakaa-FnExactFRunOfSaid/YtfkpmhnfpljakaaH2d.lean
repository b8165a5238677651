/-
  Data of Set, Run, Values. No conditions of its own.
-/
import Derived.Test.YtfkpmhnfpljakaaS1
import Derived.Test.YtfkpmhnfpljakaaG5d
namespace Go.Proofs.Ytfkpmhnfpljakaa
set_option linter.unusedSimpArgs false
set_option linter.unusedVariables false
set_option linter.unusedSimpArgs false
set_option linter.unusedVariables false
set_option linter.defProp false
open Go.RowKit

structure SetD where
  N : Int
  Bits : List UInt8
deriving DecidableEq

structure RunD where
  Job : JobD
  Iter : Int
  Done : Bool
  Vals : List Int
  EVals : List Int
  Next : SetD
deriving DecidableEq

structure ValuesD where
  Job : JobD
  Iter : Int
  Vals : List Int
  EVals : List Int
  Next : SetD
deriving DecidableEq

end Go.Proofs.Ytfkpmhnfpljakaa
