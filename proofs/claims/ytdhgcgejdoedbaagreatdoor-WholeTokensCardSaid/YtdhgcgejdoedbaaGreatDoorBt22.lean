/-
  scalar.Number, block.At: contracts.
-/
import Derived.Lib.ConvBytes
import Derived.Test.YtdhgcgejdoedbaaGreatDoorBt16
import Derived.Test.YtdhgcgejdoedbaaGreatDoorBt21
namespace Go.Proofs.YtdhgcgejdoedbaaGreatDoor
open Go.RowKit Go.WideShapes

theorem str_empty {s : ByteArray} : s.toList.isEmpty = decide (s.size = 0) := by
  rw [Lib.toList_data, Bool.eq_iff_iff, decide_eq_true_eq, List.isEmpty_iff, Array.toList_eq_nil_iff, ← Array.size_eq_zero_iff]; rfl
end Go.Proofs.YtdhgcgejdoedbaaGreatDoor
