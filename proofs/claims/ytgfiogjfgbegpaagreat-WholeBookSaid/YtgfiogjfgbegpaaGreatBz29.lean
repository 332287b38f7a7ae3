/-
  scalar.Digits, rescriptref21.digits: contracts; a number's digits (plain).
-/
import Derived.Sort.WalkB12
import Derived.Lib.SlicesMore
import Derived.Deep.LoopGhost
import Derived.Deep.DrawnRows
import Derived.BigRegion
import Derived.Laws.OwnMore
import Derived.Deep.AppendLies
import Derived.Test.YtgfiogjfgbegpaaGreatBz13
import Derived.Test.YtgfiogjfgbegpaaGreatBz24
namespace Go.Proofs.YtgfiogjfgbegpaaGreat
open Go Go.RowKit Go.WideShapes Go.Sort

end Go.Proofs.YtgfiogjfgbegpaaGreat
