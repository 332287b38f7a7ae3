/-
  What the walk is told of a step, a retry that came in: their cells' forms. Conditions: none of the program's.
-/
import Derived.Test.YtgafjjgnbcjmpaaGreatBz11
import Derived.Test.YtgafjjgnbcjmpaaGreatBz15
namespace Go.Proofs.YtgafjjgnbcjmpaaGreat
open Go Go.RowKit Go.ChangeShapes Go.WideShapes Go.ChangeAt

theorem Tryz.stepTypes : Tryz.prog.cellTypes Tryz.prog.depth 29 = some [9, 9, 9, 22, 3, 3, 3, 3, 5, 9, 22, 25, 3] := by kernel_rfl
/-- A retry as a value. -/
def retryV (m f k : Int) : Value := .agg #[.int .i64 m, .int .i64 f, .int .i64 k]

def I64 (n : Int) : Prop := -9223372036854775808 ≤ n ∧ n ≤ 9223372036854775807

end Go.Proofs.YtgafjjgnbcjmpaaGreat
