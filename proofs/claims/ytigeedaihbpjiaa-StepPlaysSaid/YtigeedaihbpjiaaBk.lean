/-
  backoff: live.
-/
import Derived.Test.YtigeedaihbpjiaaBj
namespace Go.Proofs.Ytigeedaihbpjiaa
open Go.RowKit

theorem live29_1 : ints .i64 (bList 5 3 3) = [.int .i64 5, .int .i64 15, .int .i64 45] := by rw [show bList 5 3 3 = [5, 15, 45] by decide +kernel]; rfl
theorem live29_2 : waitI 5 3 9 = 1000 ∧ waitI 5 3 0 = 0 ∧ bSum 5 3 (wN 4) = 65 ∧ moreB 4 3 = true ∧ moreB 4 4 = false ∧ spanI 4 5 3 10 = 105 ∧ spanI 0 0 0 0 = 100 ∧ wN 4 = 3 := by decide +kernel

theorem boxed3_below {w w' : World} {B : Nat} {m f k : Int} (h : Boxed3 w B m f k) (hb : Below w.heap.size w w') : Boxed3 w' B m f k := (hb.block B (Array.getElem?_eq_some_iff.1 h).1).trans h

end Go.Proofs.Ytigeedaihbpjiaa
