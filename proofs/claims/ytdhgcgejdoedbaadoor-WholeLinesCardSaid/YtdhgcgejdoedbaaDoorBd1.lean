/-
  varint: the plain functions and laws. Nothing of the program.
-/
import Derived.Laws.BitsAllLaws
import Derived.Laws.Bits64
namespace Go.Proofs.YtdhgcgejdoedbaaDoor
open Go

theorem u8_clear7 (b : Nat) (hb : b < 256) : bits .andNot .u8 (b : Int) 128 = ((b % 128 : Nat) : Int) := by
  have h := u8_andNot_nat b 128 hb (by omega)
  rw [show ((128 : Nat) : Int) = 128 from rfl] at h
  rw [h, show (255 - 128 : Nat) = 127 from rfl, nat_mask7]

theorem u64_join (a c k : Nat) (ha : a < 128 ^ k) (_hk : k ≤ 9) (hc : a + c * 128 ^ k < 18446744073709551616) :
    bits .or .u64 (a : Int) ((c : Int) * 2 ^ (7 * k)) = ((a + c * 128 ^ k : Nat) : Int) := by
  have e : (2 : Nat) ^ (7 * k) = 128 ^ k := by rw [Nat.pow_mul]
  have e2 : ((c : Int) * 2 ^ (7 * k)) = ((c * 128 ^ k : Nat) : Int) := by rw [← e]; simp
  rw [e2, u64_or_nat a (c * 128 ^ k) (by omega) (by omega), Nat.or_comm, nat_join (7 * k) (c * 128 ^ k) a (by rw [e]; simp) (by rw [e]; exact ha), Nat.add_comm]

theorem pow_bound (k : Nat) (h : k ≤ 8) : 128 ^ k ≤ 72057594037927936 := by
  have := Nat.pow_le_pow_right (n := 128) (by omega) h
  simpa using this

theorem get_step (acc b k : Nat) (hacc : acc < 128 ^ k) (hk : k ≤ 8) (hb : b < 256) :
    bits .or .u64 (acc : Int) (IntKind.u64.wrap (IntKind.u64.wrap (bits .andNot .u8 (b : Int) 128) * 2 ^ (7 * k))) = ((acc + b % 128 * 128 ^ k : Nat) : Int) := by
  have hp := pow_bound k hk
  have hlt : b % 128 * 128 ^ k ≤ 127 * 128 ^ k := Nat.mul_le_mul_right _ (by omega)
  have e : (2 : Nat) ^ (7 * k) = 128 ^ k := by rw [Nat.pow_mul]
  rw [u8_clear7 b hb, IntKind.wrap_u64 ((b % 128 : Nat) : Int), Int.emod_eq_of_lt (by omega) (by omega), IntKind.wrap_u64]
  have e2 : (((b % 128 : Nat) : Int) * 2 ^ (7 * k)) = ((b % 128 * 128 ^ k : Nat) : Int) := by rw [← e]; simp
  rw [Int.emod_eq_of_lt (by rw [e2]; omega) (by rw [e2]; omega)]
  exact u64_join acc (b % 128) k hacc (by omega) (by omega)

theorem get_step9 (acc b : Nat) (hacc : acc < 128 ^ 9) (hb : b ≤ 1) :
    bits .or .u64 (acc : Int) (IntKind.u64.wrap (IntKind.u64.wrap (bits .andNot .u8 (b : Int) 128) * 9223372036854775808)) = ((acc + b % 128 * 128 ^ 9 : Nat) : Int) := by
  have h9 : (128 : Nat) ^ 9 = 9223372036854775808 := by decide
  rw [u8_clear7 b (by omega), IntKind.wrap_u64 ((b % 128 : Nat) : Int), Int.emod_eq_of_lt (by omega) (by omega), IntKind.wrap_u64, Int.emod_eq_of_lt (by omega) (by omega)]
  have := u64_join acc (b % 128) 9 hacc (by omega) (by rw [h9] at *; omega)
  rw [← this]; rfl

theorem get_bound (acc b k : Nat) (hacc : acc < 128 ^ k) : acc + b % 128 * 128 ^ k < 128 ^ (k + 1) := by
  have hlt : b % 128 * 128 ^ k ≤ 127 * 128 ^ k := Nat.mul_le_mul_right _ (by omega)
  rw [Nat.pow_succ]; omega

/-- Bytes, numbers: as cells. -/
def u8s (l : List Nat) : List Value := l.map fun b : Nat => .int .u8 (b : Int)
def ints (k : IntKind) (l : List Int) : List Value := l.map fun b => .int k b
def u64s (l : List Nat) : List Value := l.map fun b : Nat => .int .u64 (b : Int)
theorem u64s_get (l : List Nat) (i : Nat) (h : i < l.length) : (u64s l)[i]? = some (.int .u64 ((l[i]?.getD 0 : Nat) : Int)) := by simp [u64s, h]
@[simp] theorem u64s_length (l : List Nat) : (u64s l).length = l.length := by simp [u64s]
theorem u8s_get (l : List Nat) (i : Nat) (h : i < l.length) : (u8s l)[i]? = some (.int .u8 ((l[i]?.getD 0 : Nat) : Int)) := by simp [u8s, h]
theorem ints_get (k : IntKind) (l : List Int) (i : Nat) (h : i < l.length) : (ints k l)[i]? = some (.int k (l[i]?.getD 0)) := by simp [ints, h]
@[simp] theorem u8s_length (l : List Nat) : (u8s l).length = l.length := by simp [u8s]
@[simp] theorem ints_length (k : IntKind) (l : List Int) : (ints k l).length = l.length := by simp [ints]

def AllLt (m : Nat) (l : List Nat) : Prop := ∀ b ∈ l, b < m
theorem AllLt.get {m : Nat} {l : List Nat} (h : AllLt m l) (i : Nat) (hm : 0 < m) : l[i]?.getD 0 < m := by
  cases hi : l[i]? with
  | none => simpa using hm
  | some b => simpa using h b (List.mem_of_getElem? hi)

/-- The sevens of a number, the lowest first, and whether others follow; f: fuel. -/
def sevL : Nat → Nat → List (Int × Bool)
  | 0, n => [((n : Int) % 128, decide ((128 : Int) ≤ n))]
  | f + 1, n => ((n : Int) % 128, decide ((128 : Int) ≤ n)) :: if n < 128 then [] else sevL f (n / 128)

theorem sevL_lt (f n : Nat) (h : n < 128) : sevL f n = [((n : Int) % 128, decide ((128 : Int) ≤ n))] := by
  cases f <;> simp [sevL, h]
theorem sevL_ge (f n : Nat) (h : ¬ n < 128) : sevL (f + 1) n = ((n : Int) % 128, decide ((128 : Int) ≤ n)) :: sevL f (n / 128) := by
  simp [sevL, h]

theorem sevL_len (f n : Nat) : (sevL f n).length ≤ f + 1 := by
  induction f generalizing n with
  | zero => simp [sevL]
  | succ f ih => simp only [sevL]; split <;> simp; exact ih _

def putB (x : Int × Bool) : Value := .int .u8 (if x.2 = true then bits .or .u8 x.1 128 else x.1)


/-- varint.Put. -/
def putL : Nat → Nat → List Nat
  | 0, n => [n]
  | f + 1, n => if n < 128 then [n] else (n % 128 + 128) :: putL f (n / 128)

theorem u8_or128 (n : Nat) : bits .or .u8 ((n : Int) % 128) 128 = ((n % 128 + 128 : Nat) : Int) := by
  have h := u8_or_nat (n % 128) 128 (by omega) (by omega)
  rw [show ((128 : Nat) : Int) = 128 from rfl, Int.natCast_emod] at h
  rw [show ((128 : Nat) : Int) = 128 from rfl] at h
  rw [h, Nat.or_comm, nat_join 7 128 (n % 128) (by decide) (by omega), Nat.add_comm]

theorem sevL_put (f n : Nat) (h : n < 128 ^ (f + 1)) : (sevL f n).map putB = u8s (putL f n) := by
  induction f generalizing n with
  | zero => simp [sevL, putL, u8s, putB]; omega
  | succ f ih =>
    by_cases hlt : n < 128
    · rw [sevL_lt _ _ hlt]; simp [putL, u8s, putB, hlt]; omega
    · rw [sevL_ge _ _ hlt]
      have := ih (n / 128) (by rw [Nat.pow_succ] at h; omega)
      simp only [List.map_cons, this, putL, hlt, if_false, u8s, putB]
      have h128 : (128 : Int) ≤ (n : Int) := by omega
      simp only [h128, decide_true, if_true, u8_or128]
theorem sevL_len' (f n : Nat) : (sevL f n).length = (putL f n).length := by
  induction f generalizing n with
  | zero => rfl
  | succ f ih => simp only [sevL, putL]; split <;> simp [ih]
theorem putL_len (f n : Nat) : (putL f n).length ≤ f + 1 := by rw [← sevL_len']; exact sevL_len f n
theorem putL_lt (f n : Nat) (h : n < 128) : putL f n = [n] := by cases f <;> simp [putL, h]
theorem putL_ge (f n : Nat) (h : ¬ n < 128) : putL (f + 1) n = (n % 128 + 128) :: putL f (n / 128) := by simp [putL, h]

/-- varint.Get: the number, how many bytes, what is wrong. -/
def getGo : Nat → Nat → List Nat → Nat × Nat × Nat
  | _, _, [] => (0, 0, 4)
  | i, acc, b :: bs =>
    if i = 9 ∧ 128 ≤ b then (0, 0, 2) else if i = 9 ∧ 1 < b then (0, 0, 1) else
    if b < 128 then (acc + b % 128 * 128 ^ i, i + 1, 0) else getGo (i + 1) (acc + b % 128 * 128 ^ i) bs
def getL (bs : List Nat) : Nat × Nat × Nat := getGo 0 0 bs

theorem getGo_drop (bs : List Nat) (k acc b : Nat) (hk : k < bs.length) (hb : bs[k]?.getD 0 = b) :
    getGo k acc (bs.drop k) = if k = 9 ∧ 128 ≤ b then (0, 0, 2) else if k = 9 ∧ 1 < b then (0, 0, 1) else
    if b < 128 then (acc + b % 128 * 128 ^ k, k + 1, 0) else getGo (k + 1) (acc + b % 128 * 128 ^ k) (bs.drop (k + 1)) := by
  rw [List.drop_eq_getElem_cons hk]
  have : bs[k] = b := by rw [← hb]; simp [hk]
  rw [this]; rfl
theorem getGo_end (bs : List Nat) (k acc : Nat) (hk : bs.length ≤ k) : getGo k acc (bs.drop k) = (0, 0, 4) := by
  rw [List.drop_of_length_le hk]; cases k <;> rfl

/-- Numbers with a sign. -/
def zigN (n : Int) : Int := if 0 ≤ n then 2 * n else -2 * n - 1
theorem u64_xor_ones (a : Nat) (ha : a < 18446744073709551616) : bits .xor .u64 (a : Int) 18446744073709551615 = 18446744073709551615 - (a : Int) := by
  show IntKind.u64.wrap ((BitVec.ofInt 64 (a : Int) ^^^ BitVec.ofInt 64 18446744073709551615).toNat : Int) = _
  rw [show BitVec.ofInt 64 18446744073709551615 = BitVec.allOnes 64 from rfl, BitVec.xor_allOnes, BitVec.toNat_not, ofInt_u64 a ha, IntKind.wrap_u64]
  omega
theorem u64_xor_zero (a : Nat) (ha : a < 18446744073709551616) : bits .xor .u64 (a : Int) 0 = (a : Int) := by
  have := u64_xor_nat a 0 ha (by omega)
  simpa using this
theorem i64_not (n : Nat) (h : n < 9223372036854775808) : bits .xor .i64 (-1) (n : Int) = -(n : Int) - 1 := by
  show IntKind.i64.wrap ((BitVec.ofInt 64 (-1) ^^^ BitVec.ofInt 64 (n : Int)).toNat : Int) = _
  rw [show BitVec.ofInt 64 (-1) = BitVec.allOnes 64 from rfl, BitVec.allOnes_xor, BitVec.toNat_not, ofInt_u64 n (by omega)]; simp [IntKind.wrap, IntKind.bits, IntKind.signed]
  omega
theorem zig_bits (n : Int) (h1 : -9223372036854775808 ≤ n) (h2 : n ≤ 9223372036854775807) :
    bits .xor .u64 (IntKind.u64.wrap (IntKind.u64.wrap n * 2)) (IntKind.u64.wrap (n / 9223372036854775808)) = zigN n := by
  unfold zigN
  by_cases hn : 0 ≤ n
  · rw [if_pos hn, show n / 9223372036854775808 = 0 by omega, IntKind.wrap_u64, IntKind.wrap_u64, IntKind.wrap_u64]
    obtain ⟨m, hm⟩ : ∃ m : Nat, (m : Int) = n % 18446744073709551616 * 2 % 18446744073709551616 := ⟨(n % 18446744073709551616 * 2 % 18446744073709551616).toNat, by omega⟩
    rw [← hm, show (0 : Int) % 18446744073709551616 = 0 from rfl, u64_xor_zero m (by omega)]; omega
  · rw [if_neg hn, show n / 9223372036854775808 = -1 by omega, IntKind.wrap_u64, IntKind.wrap_u64, IntKind.wrap_u64]
    obtain ⟨m, hm⟩ : ∃ m : Nat, (m : Int) = n % 18446744073709551616 * 2 % 18446744073709551616 := ⟨(n % 18446744073709551616 * 2 % 18446744073709551616).toNat, by omega⟩
    rw [← hm, show (-1 : Int) % 18446744073709551616 = 18446744073709551615 from rfl, u64_xor_ones m (by omega)]; omega
def zagN (n : Nat) : Int := if n % 2 = 1 then -(((n / 2 : Nat) : Int)) - 1 else ((n / 2 : Nat) : Int)

theorem zag_zig (n : Int) (h1 : -9223372036854775808 ≤ n) (h2 : n ≤ 9223372036854775807) : zagN (zigN n).toNat = n := by
  unfold zagN zigN; split <;> split <;> omega
theorem zig_zag (u : Nat) : zigN (zagN u) = u := by
  unfold zagN zigN; split <;> split <;> omega
theorem zigN_range (n : Int) (h1 : -9223372036854775808 ≤ n) (h2 : n ≤ 9223372036854775807) : 0 ≤ zigN n ∧ zigN n < 18446744073709551616 := by
  unfold zigN; split <;> omega
theorem zagN_range (u : Nat) (h : u < 18446744073709551616) : -9223372036854775808 ≤ zagN u ∧ zagN u ≤ 9223372036854775807 := by
  unfold zagN; split <;> omega

/-- What is read is a number of 64 bits. -/
theorem getGo_bound (bs : List Nat) (hb : AllLt 256 bs) (k acc : Nat) (hk : k ≤ 9) (hacc : acc < 128 ^ k) : (getGo k acc bs).1 < 18446744073709551616 ∧ (getGo k acc bs).2.1 ≤ k + bs.length ∧ (getGo k acc bs).2.2 ≤ 4 := by
  induction bs generalizing k acc with
  | nil => simp [getGo]
  | cons b bs ih =>
    have hb0 : b < 256 := hb b (by simp)
    simp only [getGo]
    split
    · simp
    · split
      · simp
      · have hgb := get_bound acc b k hacc
        split
        · refine ⟨?_, by simp, by simp⟩
          by_cases h9 : k = 9
          · subst h9
            have : b ≤ 1 := by omega
            have h9 : (128 : Nat) ^ 9 = 9223372036854775808 := by decide
            rw [h9] at *; simp only; omega
          · have := pow_bound k (by omega)
            simp only
            rw [Nat.pow_succ] at hgb; omega
        · have := ih (fun x hx => hb x (by simp [hx])) (k + 1) (acc + b % 128 * 128 ^ k) (by omega) hgb
          simp only [List.length_cons]; omega

theorem rget_step (acc b k M : Nat) (hM : M = 128 ^ k) (hacc : acc < 128 ^ k) (hk : k ≤ 8) :
    IntKind.u64.wrap ((acc : Int) + IntKind.u64.wrap ((b : Int) % 128 * (M : Int))) = ((acc + b % 128 * 128 ^ k : Nat) : Int) ∧ IntKind.u64.wrap ((M : Int) * 128) = ((128 ^ (k + 1) : Nat) : Int) := by
  subst hM
  have hp := pow_bound k hk
  have hlt : b % 128 * 128 ^ k ≤ 127 * 128 ^ k := Nat.mul_le_mul_right _ (by omega)
  have e : (b : Int) % 128 * ((128 ^ k : Nat) : Int) = ((b % 128 * 128 ^ k : Nat) : Int) := by rw [Int.natCast_mul, Int.natCast_emod]; rfl
  rw [e, IntKind.wrap_u64, IntKind.wrap_u64, IntKind.wrap_u64, Nat.pow_succ]
  generalize b % 128 * 128 ^ k = x at *
  generalize 128 ^ k = y at *
  omega

/-- varint.All. -/
def allGo : Nat → Nat → List Nat → List Nat → List Nat × Nat × Nat
  | 0, _, acc, _ => (acc, 0, 0)
  | f + 1, at_, acc, bs => if bs = [] then (acc, 0, 0) else if (getL bs).2.2 = 0 then allGo f (at_ + (getL bs).2.1) (acc ++ [(getL bs).1]) (bs.drop (getL bs).2.1) else ([], (getL bs).2.2, at_)
def allL (bs : List Nat) : List Nat × Nat × Nat := allGo bs.length 0 [] bs

theorem allGo_nil (f a : Nat) (acc : List Nat) : allGo f a acc [] = (acc, 0, 0) := by cases f <;> simp [allGo]
theorem allGo_ok (f a : Nat) (acc bs : List Nat) (h : bs ≠ []) (he : (getL bs).2.2 = 0) :
    allGo (f + 1) a acc bs = allGo f (a + (getL bs).2.1) (acc ++ [(getL bs).1]) (bs.drop (getL bs).2.1) := by simp [allGo, h, he]
theorem allGo_err (f a : Nat) (acc bs : List Nat) (h : bs ≠ []) (he : (getL bs).2.2 ≠ 0) :
    allGo (f + 1) a acc bs = ([], (getL bs).2.2, a) := by simp [allGo, h, he]
theorem getGo_pos (bs : List Nat) (k acc : Nat) (h : (getGo k acc bs).2.2 = 0) : k + 1 ≤ (getGo k acc bs).2.1 := by
  induction bs generalizing k acc with
  | nil => simp [getGo] at h
  | cons b bs ih =>
    simp only [getGo] at h ⊢
    split
    · rename_i h1; simp [h1] at h
    · split
      · rename_i h1 h2; rw [if_neg h1, if_pos h2] at h; simp at h
      · rename_i h1 h2
        rw [if_neg h1, if_neg h2] at h
        split
        · simp
        · rename_i h3
          rw [if_neg h3] at h
          have := ih _ _ h; omega

end Go.Proofs.YtdhgcgejdoedbaaDoor
