/-
  varint: the plain functions and laws. Nothing of the program.
-/
import Derived.Laws.BitsAllLaws
import Derived.Laws.Bits64
namespace Go.Proofs.YtgfiogjfgbegpaaGreat
open Go

def u8s (l : List Nat) : List Value := l.map fun b : Nat => .int .u8 (b : Int)
def ints (k : IntKind) (l : List Int) : List Value := l.map fun b => .int k b
def u64s (l : List Nat) : List Value := l.map fun b : Nat => .int .u64 (b : Int)
@[simp] theorem u64s_length (l : List Nat) : (u64s l).length = l.length := by simp [u64s]
@[simp] theorem u8s_length (l : List Nat) : (u8s l).length = l.length := by simp [u8s]
@[simp] theorem ints_length (k : IntKind) (l : List Int) : (ints k l).length = l.length := by simp [ints]

def AllLt (m : Nat) (l : List Nat) : Prop := ∀ b ∈ l, b < m
theorem AllLt.get {m : Nat} {l : List Nat} (h : AllLt m l) (i : Nat) (hm : 0 < m) : l[i]?.getD 0 < m := by
  cases hi : l[i]? with
  | none => simpa using hm
  | some b => simpa using h b (List.mem_of_getElem? hi)

end Go.Proofs.YtgfiogjfgbegpaaGreat

/-
  backoff: the plain functions and laws. Nothing of the program.
-/
namespace Go.Proofs.YtgfiogjfgbegpaaGreat
open Go

def or0 (x d : Int) : Int := if x = 0 then d else x
def bMost (m : Int) : Int := min (max (or0 m 1) 0) 10
def bFirst (f : Int) : Int := min (max f 0) 1000
def bFac (k : Int) : Int := min (max (or0 k 1) 0) 1000
def bSeq (f k : Int) : Nat → Int
  | 0 => bFirst f
  | i + 1 => min (bSeq f k i * bFac k) 1000

theorem bMost_range (m : Int) : 0 ≤ bMost m ∧ bMost m ≤ 10 := by unfold bMost; omega
theorem bFirst_range (f : Int) : 0 ≤ bFirst f ∧ bFirst f ≤ 1000 := by unfold bFirst; omega
theorem bFac_range (k : Int) : 0 ≤ bFac k ∧ bFac k ≤ 1000 := by unfold bFac; omega
theorem bSeq_range (f k : Int) (i : Nat) : 0 ≤ bSeq f k i ∧ bSeq f k i ≤ 1000 := by
  induction i with
  | zero => exact bFirst_range f
  | succ i ih =>
    have h := bFac_range k
    have : 0 ≤ bSeq f k i * bFac k := Int.mul_nonneg ih.1 h.1
    simp only [bSeq]; omega
theorem bSeq_mul (f k : Int) (i : Nat) : 0 ≤ bSeq f k i * bFac k ∧ bSeq f k i * bFac k ≤ 1000000 := by
  have h1 := bSeq_range f k i
  have h2 := bFac_range k
  refine ⟨Int.mul_nonneg h1.1 h2.1, ?_⟩
  have := Int.mul_le_mul h1.2 h2.2 h2.1 (by omega)
  omega

def bList (f k : Int) (n : Nat) : List Int := (List.range n).map (bSeq f k)
theorem bList_len (f k : Int) (n : Nat) : (bList f k n).length = n := by simp [bList]
theorem bList_succ (f k : Int) (n : Nat) : bList f k (n + 1) = bList f k n ++ [bSeq f k n] := by simp [bList, List.range_succ]
theorem bList_prefix (f k : Int) (a b : Nat) (h : a ≤ b) : bList f k a <+: bList f k b := by
  refine ⟨(List.range' a (b - a)).map (bSeq f k), ?_⟩
  unfold bList
  rw [← List.map_append]
  congr 1
  have := List.range'_append_1 (s := 0) (m := a) (n := b - a)
  rw [Nat.zero_add] at this
  rw [List.range_eq_range', List.range_eq_range', this]
  congr 1; omega
theorem bList_pre {f k : Int} {n : Nat} {pre : List Int} (h : pre <+: bList f k n) : pre = bList f k pre.length ∧ pre.length ≤ n := by
  have hl := h.length_le
  rw [bList_len] at hl
  refine ⟨?_, hl⟩
  have h2 := bList_prefix f k pre.length n hl
  obtain ⟨t1, e1⟩ := h
  obtain ⟨t2, e2⟩ := h2
  have : (pre ++ t1).take pre.length = (bList f k pre.length ++ t2).take pre.length := by rw [e1, e2]
  rw [List.take_left] at this
  conv at this => rhs; rw [show pre.length = (bList f k pre.length).length from (bList_len _ _ _).symm]
  rw [bList_len, List.take_left' (bList_len _ _ _)] at this
  exact this
theorem bList_next {f k : Int} {n : Nat} {pre : List Int} {x : Int} (h : pre ++ [x] <+: bList f k n) : pre = bList f k pre.length ∧ x = bSeq f k pre.length ∧ pre.length < n := by
  obtain ⟨h1, h2⟩ := bList_pre h
  simp only [List.length_append, List.length_singleton] at h1 h2
  rw [bList_succ] at h1
  have := List.append_inj' h1 rfl
  simp at this
  exact ⟨this.1, this.2, by omega⟩
end Go.Proofs.YtgfiogjfgbegpaaGreat

/-
  backoff: sums, and the reference's step. Nothing of the program.
-/
namespace Go.Proofs.YtgfiogjfgbegpaaGreat
open Go

def wN (m : Int) : Nat := (bMost m - 1).toNat
theorem wN_le (m : Int) : wN m ≤ 9 := by have := bMost_range m; unfold wN; omega
def bSum (f k : Int) : Nat → Int
  | 0 => 0
  | i + 1 => bSum f k i + bSeq f k i
theorem bSum_range (f k : Int) (i : Nat) : 0 ≤ bSum f k i ∧ bSum f k i ≤ 1000 * i := by
  induction i with
  | zero => simp [bSum]
  | succ i ih => have := bSeq_range f k i; simp only [bSum]; omega
def waitI (f k t : Int) : Int := if t < 1 then 0 else bSeq f k ((min t 20).toNat - 1)
theorem waitI_range (f k t : Int) : 0 ≤ waitI f k t ∧ waitI f k t ≤ 1000 := by unfold waitI; split; omega; exact bSeq_range _ _ _
theorem bList_get (f k : Int) (n i : Nat) (h : i < n) : (ints .i64 (bList f k n))[i]? = some (.int .i64 (bSeq f k i)) := by
  simp [ints, bList, h]
end Go.Proofs.YtgfiogjfgbegpaaGreat

/-
  backoff: the rows of a plan. Nothing of the program.
-/
namespace Go.Proofs.YtgfiogjfgbegpaaGreat
open Go

end Go.Proofs.YtgfiogjfgbegpaaGreat
