/-
  What the walk is told of a step, a retry that came in: their cells' forms. Conditions: none of the program's.
-/
import Derived.Test.YtgfiogjfgbegpaaGreatBz11
import Derived.Test.YtgfiogjfgbegpaaGreatBz15
namespace Go.Proofs.YtgfiogjfgbegpaaGreat
open Go Go.RowKit Go.ChangeShapes Go.WideShapes Go.ChangeAt

/-- A retry as a value. -/
def retryV (m f k : Int) : Value := .agg #[.int .i64 m, .int .i64 f, .int .i64 k]

def I64 (n : Int) : Prop := -9223372036854775808 ≤ n ∧ n ≤ 9223372036854775807

end Go.Proofs.YtgfiogjfgbegpaaGreat
