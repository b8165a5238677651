/-
  The data of the types Shard, Farm out of their form. No conditions of its own.
-/
import Derived.Test.YtfnhchcgieeedaaShE
import Derived.Test.YtfnhchcgieeedaaMH
namespace Go.Proofs.Ytfnhchcgieeedaa
set_option linter.unusedSimpArgs false
set_option linter.unusedVariables false
set_option linter.unusedSimpArgs false
set_option linter.unusedVariables false
set_option linter.defProp false
set_option maxRecDepth 20000
open Go.RowKit

def ShardD.rng (x : ShardD) : Prop := (I64 x.Lo) ∧ (I64 x.Hi) ∧ ((x.Edges).length ≤ maxLen ∧ ∀ y ∈ x.Edges, SEdgeD.rng y)

def FarmD.rng (x : FarmD) : Prop := (I64 x.N) ∧ ((x.Ends).length ≤ maxLen ∧ ∀ y ∈ x.Ends, I64 y) ∧ ((x.Shards).length ≤ maxLen ∧ ∀ y ∈ x.Shards, ShardD.rng y)

end Go.Proofs.Ytfnhchcgieeedaa