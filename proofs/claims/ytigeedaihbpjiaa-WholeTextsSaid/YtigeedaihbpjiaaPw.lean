/-
  varint: plain laws of writing and reading.
-/
import Derived.Test.YtigeedaihbpjiaaPv
namespace Go.Proofs.Ytigeedaihbpjiaa
open Go

theorem getGo_put (f k acc m : Nat) (bh : List Nat) (hf : f + k = 9) (hacc : acc < 128 ^ k) (hm : m < 128 ^ (f + 1)) (hb : acc + m * 128 ^ k < 18446744073709551616) :
    getGo k acc (putL f m ++ bh) = (acc + m * 128 ^ k, k + (putL f m).length, 0) := by
  induction f generalizing k acc m with
  | zero =>
    obtain rfl : k = 9 := by omega
    have h9 : (128 : Nat) ^ 9 = 9223372036854775808 := by decide
    have hm1 : m ≤ 1 := by rw [h9] at hb; omega
    simp only [putL, List.cons_append, List.nil_append, getGo, List.length_singleton]
    rw [if_neg (by omega), if_neg (by omega), if_pos (by omega), Nat.mod_eq_of_lt (by omega)]
  | succ f ih =>
    by_cases hlt : m < 128
    · rw [putL_lt _ _ hlt]
      simp only [List.cons_append, List.nil_append, getGo, List.length_singleton]
      rw [if_neg (by omega), if_neg (by omega), if_pos hlt, Nat.mod_eq_of_lt hlt]
    · rw [putL_ge _ _ hlt]
      simp only [List.cons_append, getGo, List.length_cons]
      rw [if_neg (by omega), if_neg (by omega), if_neg (by omega)]
      have e : acc + (m % 128 + 128) % 128 * 128 ^ k + m / 128 * 128 ^ (k + 1) = acc + m * 128 ^ k := by
        rw [Nat.add_mod_right, Nat.mod_mod, Nat.pow_succ, Nat.add_assoc, Nat.mul_comm (128 ^ k) 128, ← Nat.mul_assoc, ← Nat.add_mul]
        congr 2; omega
      have e' : (m % 128 + 128) % 128 = m % 128 := by omega
      rw [ih (k + 1) _ (m / 128) (by omega) ?_ (by rw [Nat.pow_succ] at hm; omega) (by rw [e]; exact hb), e]
      · simp; omega
      · have := get_bound acc (m % 128 + 128) k hacc; exact this

theorem getL_put (n : Nat) (hn : n < 18446744073709551616) (bh : List Nat) : getL (putL 9 n ++ bh) = (n, (putL 9 n).length, 0) := by
  have := getGo_put 9 0 0 n bh rfl (by omega) (by omega) (by omega)
  simpa [getL] using this

theorem putL_pos (f n : Nat) : 1 ≤ (putL f n).length := by cases f <;> simp [putL]; split <;> simp

theorem putL_all (f n : Nat) (hn : n < 128 ^ (f + 1)) : AllLt 256 (putL f n) := by
  induction f generalizing n with
  | zero => intro b hb; simp [putL] at hb; simp at hn; omega
  | succ f ih =>
    by_cases hlt : n < 128
    · rw [putL_lt _ _ hlt]; intro b hb; simp at hb; omega
    · rw [putL_ge _ _ hlt]; intro b hb
      rcases List.mem_cons.1 hb with rfl | hb
      · omega
      · exact ih (n / 128) (by rw [Nat.pow_succ] at hn; omega) b hb
theorem putL9_all (n : Nat) (hn : n < 18446744073709551616) : AllLt 256 (putL 9 n) := putL_all 9 n (by omega)

theorem shortB_put (n : Nat) (hn : n < 18446744073709551616) : decide ((getL (putL 9 n)).2.2 = 0 ∧ (getL (putL 9 n)).2.1 = (putL 9 (getL (putL 9 n)).1).length) = true := by
  have := getL_put n hn []
  rw [List.append_nil] at this
  rw [this]; simp

theorem putL_mono (f a b : Nat) (h : a ≤ b) : (putL f a).length ≤ (putL f b).length := by
  induction f generalizing a b with
  | zero => simp [putL]
  | succ f ih =>
    by_cases hlt : a < 128
    · rw [putL_lt _ _ hlt]; exact putL_pos _ _
    · rw [putL_ge _ _ hlt, putL_ge _ _ (by omega)]
      simp only [List.length_cons]
      have := ih (a / 128) (b / 128) (by omega)
      omega

theorem getGo_take (bs : List Nat) (k acc N j : Nat) (hb : AllLt 256 bs) (hk : k ≤ 9) (h : getGo k acc bs = (N, j, 0)) :
    ∃ m, N = acc + m * 128 ^ k ∧ (putL (9 - k) m).length ≤ j - k ∧ ((putL (9 - k) m).length = j - k → bs.take (j - k) = putL (9 - k) m) ∧ k < j ∧ j - k ≤ bs.length := by
  induction bs generalizing k acc with
  | nil => simp [getGo] at h
  | cons b bs ih =>
    have hb0 : b < 256 := hb b (by simp)
    simp only [getGo] at h
    split at h
    · simp at h
    · split at h
      · simp at h
      · rename_i h1 h2
        split at h
        · rename_i h3
          simp only [Prod.mk.injEq] at h
          obtain ⟨rfl, rfl, _⟩ := h
          refine ⟨b % 128, rfl, ?_, ?_, by omega, by simp⟩
          · rw [putL_lt _ _ (by omega)]; simp
          · intro _; rw [putL_lt _ _ (by omega), show k + 1 - k = 1 by omega]; simp; omega
        · rename_i h3
          have hk8 : k ≤ 8 := by
            rcases Nat.lt_or_ge k 9 with h | h
            · omega
            · exfalso; apply h1; constructor <;> omega
          obtain ⟨m', e1, e2, e3, e4, e5⟩ := ih (k + 1) _ (fun x hx => hb x (by simp [hx])) (by omega) h
          have hp := putL_pos (9 - (k + 1)) m'
          refine ⟨b % 128 + 128 * m', ?_, ?_, ?_, by omega, by simp; omega⟩
          · rw [e1, Nat.pow_succ, Nat.add_mul, Nat.mul_comm 128 m', Nat.mul_comm (128 ^ k) 128, Nat.mul_assoc m' 128 (128 ^ k), Nat.add_assoc]
          · by_cases hm' : m' = 0
            · subst hm'; rw [putL_lt _ _ (by omega)]; simp; omega
            · rw [show 9 - k = (9 - (k + 1)) + 1 by omega, putL_ge _ _ (by omega), show (b % 128 + 128 * m') / 128 = m' by omega]
              rw [List.length_cons]; omega
          · by_cases hm' : m' = 0
            · subst hm'; rw [putL_lt _ _ (by omega)]
              intro hl; simp at hl; omega
            · rw [show 9 - k = (9 - (k + 1)) + 1 by omega, putL_ge _ _ (by omega), show (b % 128 + 128 * m') / 128 = m' by omega, show (b % 128 + 128 * m') % 128 + 128 = b by omega]
              intro hl
              simp only [List.length_cons] at hl
              rw [show j - k = (j - (k + 1)) + 1 by omega, List.take_succ_cons, e3 (by omega)]

theorem short_take (bs : List Nat) (hb : AllLt 256 bs) (h0 : (getL bs).2.2 = 0) (h : (getL bs).2.1 = (putL 9 (getL bs).1).length) :
    putL 9 (getL bs).1 = bs.take (getL bs).2.1 ∧ (getL bs).2.1 ≤ bs.length := by
  have eg : getGo 0 0 bs = ((getL bs).1, (getL bs).2.1, (getL bs).2.2) := rfl
  rw [h0] at eg
  obtain ⟨m, e1, _, e3, e4, e5⟩ := getGo_take bs 0 0 (getL bs).1 (getL bs).2.1 hb (by omega) eg
  have : (getL bs).1 = m := by simpa using e1
  rw [← this] at e3
  exact ⟨(e3 (by rw [← h]; rfl)).symm, e5⟩

/-- Numbers, one behind the other. -/
def putsL (l : List Nat) : List Nat := l.flatMap (putL 9)
theorem putsL_snoc (l : List Nat) (n : Nat) : putsL (l ++ [n]) = putsL l ++ putL 9 n := by simp [putsL]
theorem putsL_len (l : List Nat) : (putsL l).length ≤ 10 * l.length := by
  induction l with
  | nil => simp [putsL]
  | cons n l ih =>
    have h := putL_len 9 n
    have : putsL (n :: l) = putL 9 n ++ putsL l := by simp [putsL]
    rw [this]; simp; omega
theorem putsL_all (l : List Nat) (h : AllLt 18446744073709551616 l) : AllLt 256 (putsL l) := by
  intro b hb
  simp only [putsL, List.mem_flatMap] at hb
  obtain ⟨n, hn, hb⟩ := hb
  exact putL9_all n (h n hn) b hb
theorem allGo_puts (l : List Nat) (hl : AllLt 18446744073709551616 l) (f a : Nat) (acc : List Nat) (hf : (putsL l).length ≤ f) : allGo f a acc (putsL l) = (acc ++ l, 0, 0) := by
  induction l generalizing f a acc with
  | nil => rw [show putsL [] = [] from rfl, allGo_nil]; simp
  | cons n l ih =>
    have e : putsL (n :: l) = putL 9 n ++ putsL l := by simp [putsL]
    have hp := putL_pos 9 n
    have hn := hl n (by simp)
    rw [e] at hf ⊢
    rw [List.length_append] at hf
    cases f with
    | zero => omega
    | succ f =>
      have hg := getL_put n hn (putsL l)
      rw [allGo_ok f a acc _ (by intro h; have := congrArg List.length h; rw [List.length_append, List.length_nil] at this; omega) (by rw [hg]), hg]
      simp only [List.drop_left]
      rw [ih (fun x hx => hl x (by simp [hx])) f _ _ (by omega)]
      simp
theorem allL_puts (l : List Nat) (hl : AllLt 18446744073709551616 l) : allL (putsL l) = (l, 0, 0) := by
  have := allGo_puts l hl (putsL l).length 0 [] (Nat.le_refl _)
  simpa [allL] using this
theorem allGo_all (f a : Nat) (acc bs : List Nat) (hb : AllLt 256 bs) (ha : AllLt 18446744073709551616 acc) : AllLt 18446744073709551616 (allGo f a acc bs).1 ∧ (allGo f a acc bs).1.length ≤ acc.length + f := by
  induction f generalizing a acc bs with
  | zero => exact ⟨ha, by simp [allGo]⟩
  | succ f ih =>
    simp only [allGo]
    split
    · exact ⟨ha, by simp⟩
    · split
      · have hbd := getGo_bound bs hb 0 0 (by omega) (by omega)
        have := ih (a + (getL bs).2.1) (acc ++ [(getL bs).1]) (bs.drop (getL bs).2.1) (fun x hx => hb x (List.mem_of_mem_drop hx)) (fun x hx => by
          rcases List.mem_append.1 hx with h | h
          · exact ha x h
          · simp at h; subst h; exact hbd.1)
        refine ⟨this.1, ?_⟩
        have h2 := this.2; simp at h2; omega
      · exact ⟨by intro x hx; simp at hx, by simp⟩

end Go.Proofs.Ytigeedaihbpjiaa
