/-
  graph.Longest: contract.
-/
import Derived.Laws.Small
import Derived.Test.YtgafjjgnbcjmpaaGreatBz5
import Derived.Test.YtgafjjgnbcjmpaaGreatBz17
namespace Go.Proofs.YtgafjjgnbcjmpaaGreat
open Go.RowKit
attribute [local go_sem] Oper.semAt_some wide_fn wide_depth wide_fn' wide_depth'

end Go.Proofs.YtgafjjgnbcjmpaaGreat

/-
  rescriptlaw26.live: contract.
-/
namespace Go.Proofs.YtgafjjgnbcjmpaaGreat
open Go.RowKit

abbrev cI (l : List Int) : Obj := .cells (ints .i64 l).toArray 3
end Go.Proofs.YtgafjjgnbcjmpaaGreat
