/-
  backoff: sums, and the reference's step. Nothing of the program.
-/
import Derived.Test.YtigeedaihbpjiaaPb
import Derived.Test.YtigeedaihbpjiaaPv
namespace Go.Proofs.Ytigeedaihbpjiaa
open Go

/-- How many are waited for. -/
def wN (m : Int) : Nat := (bMost m - 1).toNat
theorem wN_le (m : Int) : wN m ≤ 9 := by have := bMost_range m; unfold wN; omega
def bSum (f k : Int) : Nat → Int
  | 0 => 0
  | i + 1 => bSum f k i + bSeq f k i
theorem bSum_range (f k : Int) (i : Nat) : 0 ≤ bSum f k i ∧ bSum f k i ≤ 1000 * i := by
  induction i with
  | zero => simp [bSum]
  | succ i ih => have := bSeq_range f k i; simp only [bSum]; omega
/-- How long is waited behind a try. -/
def waitI (f k t : Int) : Int := if t < 1 then 0 else bSeq f k ((min t 20).toNat - 1)
theorem waitI_range (f k t : Int) : 0 ≤ waitI f k t ∧ waitI f k t ≤ 1000 := by unfold waitI; split; omega; exact bSeq_range _ _ _
theorem waitI_succ (f k : Int) (i : Nat) (h : i < 20) : waitI f k ((i : Int) + 1) = bSeq f k i := by
  unfold waitI; rw [if_neg (by omega)]; congr 1; omega
theorem bList_get (f k : Int) (n i : Nat) (h : i < n) : (ints .i64 (bList f k n))[i]? = some (.int .i64 (bSeq f k i)) := by
  simp [ints, bList, h]
/-- The reference's factor, as it stands. -/
def rFac (k : Int) : Int := max (or0 k 1) 0
theorem rFac_bFac (k : Int) : bFac k = min (rFac k) 1000 := by unfold bFac rFac; rfl
/-- One step of the reference's: n > 1000 / factor, so 1000. -/
theorem rStep_hi {f k n : Int} {i : Nat} (hn : n = bSeq f k i) (hf : 0 < rFac k) (h : 1000 / rFac k < n) : bSeq f k (i + 1) = 1000 := by
  have hr := bSeq_range f k i
  have hb := rFac_bFac k
  simp only [bSeq]
  rw [← hn] at hr ⊢
  have h1 : 1000 < n * rFac k := by
    have := Int.lt_mul_of_ediv_lt hf h
    exact this
  rcases Int.le_total (rFac k) 1000 with h2 | h2
  · rw [hb, Int.min_eq_left h2]; omega
  · rw [hb, Int.min_eq_right h2]
    have : 0 ≤ 1000 / rFac k := Int.ediv_nonneg (by omega) (by omega)
    omega
theorem rStep_lo {f k n : Int} {i : Nat} (hn : n = bSeq f k i) (h : ¬ (0 < rFac k ∧ 1000 / rFac k < n)) : bSeq f k (i + 1) = n * rFac k ∧ n * rFac k ≤ 1000 ∧ 0 ≤ n * rFac k := by
  have hr := bSeq_range f k i
  have hb := rFac_bFac k
  have h0 : 0 ≤ rFac k := by unfold rFac; omega
  simp only [bSeq]
  rw [← hn] at hr ⊢
  have hnn := Int.mul_nonneg hr.1 h0
  by_cases hp : 0 < rFac k
  · have hq : n ≤ 1000 / rFac k := by omega
    have h1 : n * rFac k ≤ 1000 := (Int.le_ediv_iff_mul_le hp).1 hq
    refine ⟨?_, h1, hnn⟩
    rcases Int.le_total (rFac k) 1000 with h2 | h2
    · rw [hb, Int.min_eq_left h2]; omega
    · rw [hb, Int.min_eq_right h2]
      rcases Int.lt_or_le 1000 (rFac k) with h3 | h3
      · have : (1000 : Int) / rFac k = 0 := Int.ediv_eq_zero_of_lt (by omega) h3
        have : n = 0 := by omega
        subst this; rw [Int.zero_mul, Int.zero_mul]; rfl
      · have : rFac k = 1000 := by omega
        rw [this] at h1 ⊢; omega
  · have : rFac k = 0 := by omega
    rw [hb, this]; simp [show min (0:Int) 1000 = 0 from rfl]
theorem rFirst (f k : Int) : min (max f 0) 1000 = bSeq f k 0 := rfl
/-- With a factor of 0 and up nobody waits less behind a later try. -/
theorem bSeq_mono {f k : Int} (hk : 0 ≤ k) (i j : Nat) (h : i ≤ j) : bSeq f k i ≤ bSeq f k j := by
  induction h with
  | refl => omega
  | @step j _ ih =>
    have hb := bSeq_range f k j
    have h1 : 1 ≤ bFac k := by unfold bFac or0; split <;> omega
    have h2 := Int.mul_le_mul_of_nonneg_left h1 hb.1
    simp only [bSeq]; omega
theorem waitI_mono {f k a b : Int} (hk : 0 ≤ k) (h : a ≤ b) : waitI f k a ≤ waitI f k b := by
  unfold waitI
  split
  · split
    · omega
    · exact (bSeq_range _ _ _).1
  · rw [if_neg (by omega)]
    exact bSeq_mono hk _ _ (by omega)
end Go.Proofs.Ytigeedaihbpjiaa
