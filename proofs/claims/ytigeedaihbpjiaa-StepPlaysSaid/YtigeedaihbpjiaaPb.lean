/-
  backoff: the plain functions and laws. Nothing of the program.
-/
import Derived.Laws.BitsAllLaws
namespace Go.Proofs.Ytigeedaihbpjiaa
open Go

/-- x, or d where x is 0. -/
def or0 (x d : Int) : Int := if x = 0 then d else x
def bMost (m : Int) : Int := min (max (or0 m 1) 0) 10
def bFirst (f : Int) : Int := min (max f 0) 1000
def bFac (k : Int) : Int := min (max (or0 k 1) 0) 1000
/-- What is waited behind the try i + 1. -/
def bSeq (f k : Int) : Nat → Int
  | 0 => bFirst f
  | i + 1 => min (bSeq f k i * bFac k) 1000

theorem bMost_range (m : Int) : 0 ≤ bMost m ∧ bMost m ≤ 10 := by unfold bMost; omega
theorem bFirst_range (f : Int) : 0 ≤ bFirst f ∧ bFirst f ≤ 1000 := by unfold bFirst; omega
theorem bFac_range (k : Int) : 0 ≤ bFac k ∧ bFac k ≤ 1000 := by unfold bFac; omega
theorem bSeq_range (f k : Int) (i : Nat) : 0 ≤ bSeq f k i ∧ bSeq f k i ≤ 1000 := by
  induction i with
  | zero => exact bFirst_range f
  | succ i ih =>
    have h := bFac_range k
    have : 0 ≤ bSeq f k i * bFac k := Int.mul_nonneg ih.1 h.1
    simp only [bSeq]; omega
theorem bSeq_mul (f k : Int) (i : Nat) : 0 ≤ bSeq f k i * bFac k ∧ bSeq f k i * bFac k ≤ 1000000 := by
  have h1 := bSeq_range f k i
  have h2 := bFac_range k
  refine ⟨Int.mul_nonneg h1.1 h2.1, ?_⟩
  have := Int.mul_le_mul h1.2 h2.2 h2.1 (by omega)
  omega

def bList (f k : Int) (n : Nat) : List Int := (List.range n).map (bSeq f k)
theorem bList_len (f k : Int) (n : Nat) : (bList f k n).length = n := by simp [bList]
theorem bList_succ (f k : Int) (n : Nat) : bList f k (n + 1) = bList f k n ++ [bSeq f k n] := by simp [bList, List.range_succ]
theorem bList_prefix (f k : Int) (a b : Nat) (h : a ≤ b) : bList f k a <+: bList f k b := by
  refine ⟨(List.range' a (b - a)).map (bSeq f k), ?_⟩
  unfold bList
  rw [← List.map_append]
  congr 1
  have := List.range'_append_1 (s := 0) (m := a) (n := b - a)
  rw [Nat.zero_add] at this
  rw [List.range_eq_range', List.range_eq_range', this]
  congr 1; omega
/-- A beginning of the list is the list of its length. -/
theorem bList_pre {f k : Int} {n : Nat} {pre : List Int} (h : pre <+: bList f k n) : pre = bList f k pre.length ∧ pre.length ≤ n := by
  have hl := h.length_le
  rw [bList_len] at hl
  refine ⟨?_, hl⟩
  have h2 := bList_prefix f k pre.length n hl
  obtain ⟨t1, e1⟩ := h
  obtain ⟨t2, e2⟩ := h2
  have : (pre ++ t1).take pre.length = (bList f k pre.length ++ t2).take pre.length := by rw [e1, e2]
  rw [List.take_left] at this
  conv at this => rhs; rw [show pre.length = (bList f k pre.length).length from (bList_len _ _ _).symm]
  rw [bList_len, List.take_left' (bList_len _ _ _)] at this
  exact this
theorem bList_next {f k : Int} {n : Nat} {pre : List Int} {x : Int} (h : pre ++ [x] <+: bList f k n) : pre = bList f k pre.length ∧ x = bSeq f k pre.length ∧ pre.length < n := by
  obtain ⟨h1, h2⟩ := bList_pre h
  simp only [List.length_append, List.length_singleton] at h1 h2
  rw [bList_succ] at h1
  have := List.append_inj' h1 rfl
  simp at this
  exact ⟨this.1, this.2, by omega⟩
end Go.Proofs.Ytigeedaihbpjiaa
