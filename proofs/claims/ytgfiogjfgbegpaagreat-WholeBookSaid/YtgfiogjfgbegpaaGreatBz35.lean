/-
  scalar.Number, block.At: contracts.
-/
import Derived.Lib.ConvBytes
import Derived.Test.YtgfiogjfgbegpaaGreatBz24
import Derived.Test.YtgfiogjfgbegpaaGreatBz33
namespace Go.Proofs.YtgfiogjfgbegpaaGreat
open Go.RowKit Go.WideShapes

theorem str_empty {s : ByteArray} : s.toList.isEmpty = decide (s.size = 0) := by
  rw [Lib.toList_data, Bool.eq_iff_iff, decide_eq_true_eq, List.isEmpty_iff, Array.toList_eq_nil_iff, ← Array.size_eq_zero_iff]; rfl
end Go.Proofs.YtgfiogjfgbegpaaGreat

/-
  slices.IndexFunc on steps, def.Index; scalar.Number, block.At: contracts.
-/
namespace Go.Proofs.YtgfiogjfgbegpaaGreat
open Go.RowKit Go.WideShapes

def idxStep : List StepD → ByteArray → Nat → Int
  | [], _, _ => -1
  | a :: l, n, i => if a.name = n then (i : Int) else idxStep l n (i + 1)
end Go.Proofs.YtgfiogjfgbegpaaGreat
