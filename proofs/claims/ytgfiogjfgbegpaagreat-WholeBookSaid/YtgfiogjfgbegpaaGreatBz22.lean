/-
  What the walk is told of a slice of slices of numbers, and of a slice of bools, that came in. Conditions: none of the program's.
-/
import Derived.Test.YtgfiogjfgbegpaaGreatBz14
import Derived.Test.YtgfiogjfgbegpaaGreatBz15
namespace Go.Proofs.YtgfiogjfgbegpaaGreat
open Go Go.RowKit Go.ChangeShapes Go.WideShapes Go.ChangeAt

end Go.Proofs.YtgfiogjfgbegpaaGreat
