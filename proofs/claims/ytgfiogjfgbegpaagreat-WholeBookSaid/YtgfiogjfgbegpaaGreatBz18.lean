/-
  graph.Longest: contract.
-/
import Derived.Laws.Small
import Derived.Test.YtgfiogjfgbegpaaGreatBz5
import Derived.Test.YtgfiogjfgbegpaaGreatBz17
namespace Go.Proofs.YtgfiogjfgbegpaaGreat
open Go.RowKit
attribute [local go_sem] Oper.semAt_some wide_fn wide_depth wide_fn' wide_depth'

end Go.Proofs.YtgfiogjfgbegpaaGreat

/-
  rescriptlaw26.live: contract.
-/
namespace Go.Proofs.YtgfiogjfgbegpaaGreat
open Go.RowKit

end Go.Proofs.YtgfiogjfgbegpaaGreat
