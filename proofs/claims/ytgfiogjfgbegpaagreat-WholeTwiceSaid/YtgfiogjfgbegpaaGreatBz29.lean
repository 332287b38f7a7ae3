/-
  scalar.Digits, rescriptref21.digits: contracts; a number's digits (plain).
-/
import Derived.Sort.WalkB12
import Derived.Lib.SlicesMore
import Derived.Deep.LoopGhost
import Derived.Deep.DrawnRows
import Derived.BigRegion
import Derived.Laws.OwnMore
import Derived.Deep.AppendLies
import Derived.Test.YtgfiogjfgbegpaaGreatBz13
import Derived.Test.YtgfiogjfgbegpaaGreatBz24
namespace Go.Proofs.YtgfiogjfgbegpaaGreat
open Go Go.RowKit Go.WideShapes Go.Sort

/-- A number's digits, the greatest first. -/
def digN (n : Nat) : List Nat := if n < 10 then [48 + n] else digN (n / 10) ++ [48 + n % 10]
termination_by n
/-- The text of a number, as scalar.Digits gives it. -/
def digS (n : Int) : ByteArray := if 0 ≤ n ∧ n ≤ 999999999 then mkS (digN n.toNat) else { data := #[] }
def hiD (m : Nat) : List Nat := if m < 10 then [] else digN (m / 10)
end Go.Proofs.YtgfiogjfgbegpaaGreat
