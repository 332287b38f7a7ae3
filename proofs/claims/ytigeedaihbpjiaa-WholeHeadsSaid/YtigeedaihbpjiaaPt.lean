/-
  tag: numbers of so many bytes. Nothing of the program.
-/
import Derived.Test.YtigeedaihbpjiaaPv
namespace Go.Proofs.Ytigeedaihbpjiaa
open Go

def fixL : Nat → Nat → List Nat
  | 0, _ => []
  | k + 1, n => n % 256 :: fixL k (n / 256)
def unfixL : List Nat → Nat
  | [] => 0
  | b :: bs => b + 256 * unfixL bs
theorem fixL_len (k n : Nat) : (fixL k n).length = k := by induction k generalizing n with | zero => rfl | succ k ih => simp [fixL, ih]
theorem fixL_lt (k n : Nat) : AllLt 256 (fixL k n) := by
  induction k generalizing n with
  | zero => intro b hb; cases hb
  | succ k ih =>
    intro b hb
    rcases List.mem_cons.1 hb with rfl | hb
    · omega
    · exact ih _ b hb
theorem fixL_succ (k n : Nat) : fixL (k + 1) n = fixL k n ++ [n / 256 ^ k % 256] := by
  induction k generalizing n with
  | zero => simp [fixL]
  | succ k ih =>
    rw [fixL, ih (n / 256), fixL, List.cons_append, Nat.div_div_eq_div_mul, Nat.pow_succ, Nat.mul_comm 256]
theorem unfixL_snoc (l : List Nat) (b : Nat) : unfixL (l ++ [b]) = unfixL l + b * 256 ^ l.length := by
  induction l with
  | nil => simp [unfixL]
  | cons a l ih => simp only [List.cons_append, unfixL, ih, List.length_cons, Nat.pow_succ, Nat.mul_add]; rw [Nat.mul_comm (256 ^ l.length) 256, Nat.mul_left_comm]; omega
theorem unfixL_lt (l : List Nat) (h : AllLt 256 l) : unfixL l < 256 ^ l.length := by
  induction l with
  | nil => simp [unfixL]
  | cons a l ih =>
    have h1 := h a (by simp)
    have h2 := ih (fun b hb => h b (by simp [hb]))
    simp only [unfixL, List.length_cons, Nat.pow_succ]; omega
theorem unfix_fix (k n : Nat) : unfixL (fixL k n) = n % 256 ^ k := by
  induction k generalizing n with
  | zero => simp [fixL, unfixL, Nat.mod_one]
  | succ k ih =>
    simp only [fixL, unfixL, ih]
    rw [Nat.pow_succ, Nat.mul_comm (256 ^ k) 256, Nat.mod_mul]
theorem unfix_take (l : List Nat) (j : Nat) (h : j < l.length) : unfixL (l.take (j + 1)) = unfixL (l.take j) + l[j]?.getD 0 * 256 ^ j := by
  rw [List.take_succ_eq_append_getElem h, unfixL_snoc, List.length_take, Nat.min_eq_left (by omega)]
  simp [h]
theorem allLt_take {m : Nat} {l : List Nat} (h : AllLt m l) (j : Nat) : AllLt m (l.take j) := fun b hb => h b (List.mem_of_mem_take hb)
theorem pow256 (j : Nat) (hj : j ≤ 7) : 256 ^ j ≤ 72057594037927936 := by
  have : 256 ^ j ≤ 256 ^ 7 := Nat.pow_le_pow_right (by decide) hj
  exact Nat.le_trans this (by decide)
theorem rd_step (acc b j : Nat) (hacc : acc < 256 ^ j) (hj : j ≤ 7) (hb : b < 256) :
    bits .or .u64 (acc : Int) (IntKind.u64.wrap ((b : Int) * 2 ^ (8 * j))) = ((acc + b * 256 ^ j : Nat) : Int) := by
  have hp := pow256 j hj
  have hlt : b * 256 ^ j ≤ 255 * 256 ^ j := Nat.mul_le_mul_right _ (by omega)
  have e : (2 : Nat) ^ (8 * j) = 256 ^ j := by rw [Nat.pow_mul]
  have e2 : ((b : Int) * 2 ^ (8 * j)) = ((b * 256 ^ j : Nat) : Int) := by rw [← e]; simp
  rw [IntKind.wrap_u64, e2, Int.emod_eq_of_lt (by omega) (by omega), u64_or_nat acc (b * 256 ^ j) (by omega) (by omega), Nat.or_comm, nat_join (8 * j) (b * 256 ^ j) acc (by rw [e]; simp) (by rw [e]; exact hacc), Nat.add_comm]
theorem fixL_prefix (n a b : Nat) (h : a ≤ b) : fixL a n <+: fixL b n := by
  induction h with
  | refl => exact List.prefix_refl _
  | @step m _ ih => rw [fixL_succ]; exact ih.trans (List.prefix_append _ _)
def readL (k : Nat) (l : List Nat) : Nat × Int := if l.length < k then (0, 4) else (unfixL (l.take k), 0)
end Go.Proofs.Ytigeedaihbpjiaa
