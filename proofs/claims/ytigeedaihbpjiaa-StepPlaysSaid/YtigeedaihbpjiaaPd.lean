/-
  backoff: the rows of a plan. Nothing of the program.
-/
import Derived.Test.YtigeedaihbpjiaaPc
namespace Go.Proofs.Ytigeedaihbpjiaa
open Go

/-- The tick at which the try i + 1 begins. -/
def planAt (a L f k : Int) (i : Nat) : Int := a + i * L + bSum f k i
def wins (a L f k : Int) : Nat → List Value
  | 0 => []
  | n + 1 => wins a L f k n ++ [.int .i64 ((n : Int) + 1), .int .i64 (planAt a L f k n), .int .i64 (planAt a L f k n + L)]
theorem wins_len (a L f k : Int) (n : Nat) : (wins a L f k n).length = n * 3 := by
  induction n with
  | zero => rfl
  | succ n ih => simp [wins, ih]; omega
theorem wins_get (a L f k : Int) (n i : Nat) (h : i < n) :
    (wins a L f k n)[i * 3]? = some (.int .i64 ((i : Int) + 1)) ∧ (wins a L f k n)[i * 3 + 1]? = some (.int .i64 (planAt a L f k i)) ∧ (wins a L f k n)[i * 3 + 2]? = some (.int .i64 (planAt a L f k i + L)) := by
  induction n with
  | zero => omega
  | succ n ih =>
    have hl := wins_len a L f k n
    simp only [wins]
    rcases Nat.lt_or_ge i n with h1 | h1
    · obtain ⟨e0, e1, e2⟩ := ih h1
      refine ⟨?_, ?_, ?_⟩
      · rw [List.getElem?_append_left (by omega)]; exact e0
      · rw [List.getElem?_append_left (by omega)]; exact e1
      · rw [List.getElem?_append_left (by omega)]; exact e2
    · obtain rfl : i = n := by omega
      refine ⟨?_, ?_, ?_⟩
      · rw [List.getElem?_append_right (by omega), show i * 3 - (wins a L f k i).length = 0 by omega]; rfl
      · rw [List.getElem?_append_right (by omega), show i * 3 + 1 - (wins a L f k i).length = 1 by omega]; rfl
      · rw [List.getElem?_append_right (by omega), show i * 3 + 2 - (wins a L f k i).length = 2 by omega]; rfl
theorem planAt_zero (a L f k : Int) : planAt a L f k 0 = a := by simp [planAt, bSum]
theorem planAt_succ (a L f k : Int) (i : Nat) : planAt a L f k i + L + bSeq f k i = planAt a L f k (i + 1) := by
  unfold planAt; simp only [bSum]
  have : ((i + 1 : Nat) : Int) * L = i * L + L := by rw [Int.natCast_add, Int.add_mul]; simp
  omega
theorem planAt_range {a L f k : Int} {i : Nat} (ha : -1099511627776 ≤ a ∧ a ≤ 1099511627776) (hL : 0 ≤ L ∧ L ≤ 10000) (hi : i ≤ 10) : -1099511627776 ≤ planAt a L f k i ∧ planAt a L f k i ≤ 1099511827776 := by
  have h1 := bSum_range f k i
  have h2 : 0 ≤ (i : Int) * L := Int.mul_nonneg (by omega) hL.1
  have h3 : (i : Int) * L ≤ 10 * 10000 := Int.mul_le_mul (by omega) hL.2 hL.1 (by omega)
  unfold planAt; omega
def atI (n : Int) : Int := min (max n (-1099511627776)) 1099511627776
theorem atI_range (n : Int) : -1099511627776 ≤ atI n ∧ atI n ≤ 1099511627776 := by unfold atI; omega
end Go.Proofs.Ytigeedaihbpjiaa
