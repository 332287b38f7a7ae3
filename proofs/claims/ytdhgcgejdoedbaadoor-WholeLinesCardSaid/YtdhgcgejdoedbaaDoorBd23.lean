/-
  scalar.Number, block.At: contracts.
-/
import Derived.Lib.ConvBytes
import Derived.Test.YtdhgcgejdoedbaaDoorBd16
import Derived.Test.YtdhgcgejdoedbaaDoorBd22
namespace Go.Proofs.YtdhgcgejdoedbaaDoor
open Go.RowKit Go.WideShapes

/-- The number that digits are. -/
def isDig (b : Nat) : Bool := decide (48 ≤ b) && decide (b ≤ 57)
def valN (l : List Nat) : Nat := l.foldl (fun n b => n * 10 + (b - 48)) 0
def numOk (l : List Nat) : Bool := decide (0 < l.length) && decide (l.length ≤ 9) && !(decide (1 < l.length) && decide (l.head?.getD 0 = 48)) && l.all isDig
def numN (l : List Nat) : Nat × Int := if numOk l then (valN l, 0) else (0, 3)
theorem valN_snoc (l : List Nat) (b : Nat) : valN (l ++ [b]) = valN l * 10 + (b - 48) := by simp [valN]
theorem valN_lt : ∀ (n : Nat) (l : List Nat), l.length = n → l.all isDig = true → valN l < 10 ^ n := by
  intro n
  induction n with
  | zero => intro l hl _; simp [List.length_eq_zero_iff.1 hl, valN]
  | succ n ih =>
    intro l hl h
    have hne : l ≠ [] := by intro e; simp [e] at hl
    obtain ⟨m, b, rfl⟩ : ∃ m b, l = m ++ [b] := ⟨l.dropLast, l.getLast hne, (List.dropLast_concat_getLast hne).symm⟩
    rw [List.all_append, Bool.and_eq_true] at h
    have h1 := ih m (by simpa using hl) h.1
    have h2 := h.2
    simp [isDig] at h2
    rw [valN_snoc, Nat.pow_succ]
    omega
theorem valN_9 {l : List Nat} (hl : l.length ≤ 9) (h : l.all isDig = true) : valN l < 1000000000 := by
  have h1 := valN_lt l.length l rfl h
  have h2 : 10 ^ l.length ≤ 10 ^ 9 := Nat.pow_le_pow_right (by omega) hl
  omega
theorem str_empty {s : ByteArray} : s.toList.isEmpty = decide (s.size = 0) := by
  rw [Lib.toList_data, Bool.eq_iff_iff, decide_eq_true_eq, List.isEmpty_iff, Array.toList_eq_nil_iff, ← Array.size_eq_zero_iff]; rfl
theorem numN_no {l : List Nat} (h : numOk l = false) : numN l = (0, 3) := by unfold numN; rw [h]; rfl
theorem numN_go {l : List Nat} (h0 : 0 < l.length) (h9 : l.length ≤ 9) (hz : ¬ (1 < l.length ∧ l.head?.getD 0 = 48)) : numN l = if l.all isDig then (valN l, 0) else (0, 3) := by
  have : numOk l = l.all isDig := by
    unfold numOk
    have : (decide (1 < l.length) && decide (l.head?.getD 0 = 48)) = false := by rw [Bool.eq_false_iff]; intro h; simp at h; exact hz (by simpa using h)
    rw [decide_eq_true h0, decide_eq_true h9, this]; simp
  unfold numN; rw [this]
theorem digs_no {l : List Nat} {k : Nat} (hk : k < l.length) (h : isDig (l[k]?.getD 0) = false) : l.all isDig = false := by
  rw [Bool.eq_false_iff]; intro ha
  rw [List.all_eq_true] at ha
  have := ha l[k] (List.getElem_mem hk)
  simp [hk] at h
  rw [this] at h; cases h
theorem digs_go {l : List Nat} {k : Nat} (hk : k < l.length) (h0 : (l.take k).all isDig = true) (h : isDig (l[k]?.getD 0) = true) : (l.take (k + 1)).all isDig = true ∧ valN (l.take (k + 1)) = valN (l.take k) * 10 + (l[k]?.getD 0 - 48) := by
  rw [List.take_succ_eq_append_getElem hk, List.all_append, valN_snoc]
  simp [hk] at h
  simp [h0, h, hk]

end Go.Proofs.YtdhgcgejdoedbaaDoor
