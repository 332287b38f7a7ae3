/-
  The builtins min and max on two numbers. Conditions: none of the program's.
-/
import Derived.Test.YtdhgcgejdoedbaaGreatDoorRows
import Derived.WalkKit
import Derived.Laws.Small
namespace Go.Proofs.YtdhgcgejdoedbaaGreatDoor
open Go Go.RowKit

theorem run_min2 {P : Program} (ts : Array TypeId) (t : TypeId) (x y : Int) (w : World) : (Builtin.min_ ts t #[.int .i64 x, .int .i64 y]).run P w = .ok (.int .i64 (min x y)) w := by
  have := run_min_int2 (P := P) (w := w) ts t .i64 .i64 x y
  rw [this]; congr 2; omega
end Go.Proofs.YtdhgcgejdoedbaaGreatDoor
