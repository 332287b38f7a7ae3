/-
  What the walk is told of a step, a retry that came in: their cells' forms. Conditions: none of the program's.
-/
import Derived.Test.YtgfiogjfgbegpaaGreatBz11
import Derived.Test.YtgfiogjfgbegpaaGreatBz15
namespace Go.Proofs.YtgfiogjfgbegpaaGreat
open Go Go.RowKit Go.ChangeShapes Go.WideShapes Go.ChangeAt

end Go.Proofs.YtgfiogjfgbegpaaGreat
