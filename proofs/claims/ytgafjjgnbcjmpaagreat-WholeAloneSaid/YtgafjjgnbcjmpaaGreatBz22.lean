/-
  What the walk is told of a slice of slices of numbers, and of a slice of bools, that came in. Conditions: none of the program's.
-/
import Derived.Test.YtgafjjgnbcjmpaaGreatBz14
import Derived.Test.YtgafjjgnbcjmpaaGreatBz15
namespace Go.Proofs.YtgafjjgnbcjmpaaGreat
open Go Go.RowKit Go.ChangeShapes Go.WideShapes Go.ChangeAt

end Go.Proofs.YtgafjjgnbcjmpaaGreat
