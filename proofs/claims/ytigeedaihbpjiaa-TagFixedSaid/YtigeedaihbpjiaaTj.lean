/-
  The law TagFixed: its walk.
-/
import Derived.Test.YtigeedaihbpjiaaTg
import Derived.Test.YtigeedaihbpjiaaTi
namespace Go.Proofs.Ytigeedaihbpjiaa
open Go.RowKit

theorem readL_ok {k : Nat} {bs : List Nat} (h : k ≤ bs.length) : readL k bs = (unfixL (bs.take k), 0) := by unfold readL; rw [if_neg (by omega)]
theorem readL_short {k : Nat} {bs : List Nat} (h : bs.length < k) : readL k bs = (0, 4) := by unfold readL; rw [if_pos h]
theorem readL_fix (k n : Nat) (h : n < 256 ^ k) : readL k (fixL k n) = (n, 0) := by
  rw [readL_ok (by rw [fixL_len]; exact Nat.le_refl _), List.take_of_length_le (by rw [fixL_len]; exact Nat.le_refl _), unfix_fix, Nat.mod_eq_of_lt h]
theorem width_cases (wi : Nat) : (wi = 1 ∧ widthN wi = 8) ∨ (wi ≠ 1 ∧ wi = 5 ∧ widthN wi = 4) ∨ (wi ≠ 1 ∧ wi ≠ 5 ∧ widthN wi = 0) := by
  unfold widthN
  by_cases h1 : wi = 1
  · simp [h1]
  · by_cases h5 : wi = 5
    · simp [h5]
    · simp [h1, h5]

set_option maxRecDepth 100000 in
set_option maxHeartbeats 1000000 in
theorem TagFixed_any (m n : Nat) (bs : List Nat) (v : Value) (wi : Nat) (w : World) (hm : m < 4294967296) (hn : n < 18446744073709551616) (hb : AllLt 256 bs) (hr : RdS w v 1 bs.length (u8s bs)) (hw : wi < 256) :
    Calls Try.prog 4 #[.int .u32 m, .int .u64 n, v, .int .u8 wi] w fun e w' => e = .returned (.bool true) ∧ Below w.heap.size w w' := by
  have HR := Lib.hid hr
  have HX4 : Hid (unfixL (bs.take 4) < 4294967296) := Lib.hid (Nat.lt_of_lt_of_le (unfixL_lt _ (allLt_take hb 4)) (Nat.pow_le_pow_right (n := 256) (j := 4) (by decide) (by rw [List.length_take]; omega)))
  have HX8 : Hid (unfixL (bs.take 8) < 18446744073709551616) := Lib.hid (Nat.lt_of_lt_of_le (unfixL_lt _ (allLt_take hb 8)) (Nat.pow_le_pow_right (n := 256) (j := 8) (by decide) (by rw [List.length_take]; omega)))
  have H4 := Lib.hid (fun w' h => Get32_any bs v w' hb h)
  have H8 := Lib.hid (fun w' h => Get64_any bs v w' hb h)
  have HU4 := Lib.hid (fun w' hl h => rUnfix_any 4 bs v w' (.inl rfl) hl hb h)
  have HU8 := Lib.hid (fun w' hl h => rUnfix_any 8 bs v w' (.inr rfl) hl hb h)
  obtain ⟨a, c, rfl⟩ := hr.form
  clear hr hb
  have HF4 := Lib.hid (readL_fix 4 m hm)
  have HF8 := Lib.hid (readL_fix 8 n hn)
  have HW := Lib.hid (width_cases wi)
  go_enter Try.func4, Try.ntmps4
  go_wp2_with fail
  refine (live02_any _).mono ?_
  rintro e w1 ⟨rfl, hb1⟩
  go_wp2_with fail
  refine (Fix32_any m _ hm).mono ?_
  rintro e w2 ⟨v2, rfl, ho2, hb2⟩
  have HO2 := Lib.hid (RdS.of_owns ho2)
  obtain ⟨a2, c2, rfl⟩ := (RdS.of_owns ho2).form
  have hB2 := bthen hb1 (Nat.le_refl _) hb2
  clear ho2
  go_wp2_with fail
  refine (Fix64_any n _ hn).mono ?_
  rintro e w3 ⟨v3, rfl, ho3, hb3⟩
  have HO3 := Lib.hid (RdS.of_owns ho3)
  obtain ⟨a3, c3, rfl⟩ := (RdS.of_owns ho3).form
  have hB3 := bthen hB2 (Nat.le_refl _) hb3
  clear ho3
  go_wp2_with fail
  refine (rFix_any m 4 _ (by omega) (by omega)).mono ?_
  rintro e w4 ⟨v4, rfl, ho4, hb4⟩
  have HO4 := Lib.hid (RdS.of_owns ho4)
  obtain ⟨a4, c4, rfl⟩ := (RdS.of_owns ho4).form
  have hB4 := bthen hB3 (Nat.le_refl _) hb4
  clear ho4
  go_wp2_with fail
  have HZ4 := Lib.hid ((HO2.out.below hb3).below hb4)
  refine (Same_true _ _ (fixL 4 m) _ (by rw [fixL_len]; exact HZ4.out) (by rw [fixL_len]; exact HO4.out)).mono ?_
  rintro e w5 ⟨rfl, hb5⟩
  have hB5 := bthen hB4 (Nat.le_refl _) hb5
  go_wp2_with fail
  refine (rFix_any n 8 _ hn (by omega)).mono ?_
  rintro e w6 ⟨v6, rfl, ho6, hb6⟩
  have HO6 := Lib.hid (RdS.of_owns ho6)
  obtain ⟨a6, c6, rfl⟩ := (RdS.of_owns ho6).form
  have hB6 := bthen hB5 (Nat.le_refl _) hb6
  clear ho6
  go_wp2_with fail
  have HZ6 := Lib.hid (((HO3.out.below hb4).below hb5).below hb6)
  refine (Same_true _ _ (fixL 8 n) _ (by rw [fixL_len]; exact HZ6.out) (by rw [fixL_len]; exact HO6.out)).mono ?_
  rintro e w7 ⟨rfl, hb7⟩
  have hB7 := bthen hB6 (Nat.le_refl _) hb7
  go_wp2_with fail
  have HZ7 := Lib.hid (((HZ4.out.below hb5).below hb6).below hb7)
  refine (Get32_any (fixL 4 m) _ _ (fixL_lt _ _) (by rw [fixL_len]; exact HZ7.out)).mono ?_
  rintro e w' ⟨rfl, rfl⟩
  rw [HF4.out]
  dsimp only
  go_wp2_with fail
  have HZ8 := Lib.hid (HZ6.out.below hb7)
  refine (Get64_any (fixL 8 n) _ _ (fixL_lt _ _) (by rw [fixL_len]; exact HZ8.out)).mono ?_
  rintro e w' ⟨rfl, rfl⟩
  rw [HF8.out]
  dsimp only
  have HRb := Lib.hid (HR.out.below hB7)
  clear hb2 hb3 hb4 hb5 hb6 hb7 HZ4 HZ6 HZ7 HZ8 HO2 HO3 HO4 HO6 hB2 hB3 hB4 hB5 hB6 hb1
  go_wp2_with fail
  refine (H4.out _ HRb.out).mono ?_
  rintro e w' ⟨rfl, rfl⟩
  have hx8 : unfixL (bs.take 8) < 18446744073709551616 := HX8.out
  have hx4 : unfixL (bs.take 4) < 4294967296 := HX4.out
  have hcs : bs.length < 4 ∨ (4 ≤ bs.length ∧ bs.length < 8) ∨ 8 ≤ bs.length := by omega
  rcases hcs with hc | hc | hc
  · skip
    have h4d : decide (bs.length < 4) = true := by simp; omega
    have h4e : decide (4 ≤ bs.length) = false := by simp; omega
    have h8d : decide (bs.length < 8) = true := by simp; omega
    have h8e : decide (8 ≤ bs.length) = false := by simp; omega
    rw [readL_short (show bs.length < 4 by omega)]
    dsimp only
    go_wp2_with fail
    refine (H8.out _ HRb.out).mono ?_
    rintro e w' ⟨rfl, rfl⟩
    rw [readL_short (show bs.length < 8 by omega)]
    dsimp only
    go_wp2_with fail
    refine (Width_any _ _ hw).mono ?_
    rintro e w' ⟨rfl, rfl⟩
    have HB := Lib.hid hB7
    clear hB7
    rcases HW.out with ⟨e1, e2⟩ | ⟨e1, e5, e2⟩ | ⟨e1, e5, e2⟩
    · rw [e2]
      have f1 : ((wi : Int) == 1) = true := by simp; omega
      have f5 : ((wi : Int) == 5) = false := by simp; omega
      clear e1 e2 HW
      go_wp2_with fail
      refine (Wire_any _ _ hw).mono ?_
      rintro e w' ⟨rfl, rfl⟩
      go_wp2
      go_ret
      exact ⟨by simp, HB.out⟩
    · rw [e2]
      have f1 : ((wi : Int) == 1) = false := by simp; omega
      have f5 : ((wi : Int) == 5) = true := by simp; omega
      clear e1 e2 e5 HW
      go_wp2_with fail
      refine (Wire_any _ _ hw).mono ?_
      rintro e w' ⟨rfl, rfl⟩
      go_wp2
      go_ret
      exact ⟨by simp, HB.out⟩
    · rw [e2]
      have f1 : ((wi : Int) == 1) = false := by simp; omega
      have f5 : ((wi : Int) == 5) = false := by simp; omega
      clear e1 e2 e5 HW
      go_wp2_with fail
      refine (Wire_any _ _ hw).mono ?_
      rintro e w' ⟨rfl, rfl⟩
      go_wp2
      go_ret
      exact ⟨by simp, HB.out⟩
  · skip
    have h4d : decide (bs.length < 4) = false := by simp; omega
    have h4e : decide (4 ≤ bs.length) = true := by simp; omega
    have h8d : decide (bs.length < 8) = true := by simp; omega
    have h8e : decide (8 ≤ bs.length) = false := by simp; omega
    rw [readL_ok (show 4 ≤ bs.length by omega)]
    dsimp only
    go_wp2_with fail
    refine (H8.out _ HRb.out).mono ?_
    rintro e w' ⟨rfl, rfl⟩
    rw [readL_short (show bs.length < 8 by omega)]
    dsimp only
    go_wp2_with fail
    refine (HU4.out _ (by omega) HRb.out).mono ?_
    rintro e w' ⟨rfl, rfl⟩
    go_wp2_with fail
    refine (Width_any _ _ hw).mono ?_
    rintro e w' ⟨rfl, rfl⟩
    have HB := Lib.hid hB7
    clear hB7
    rcases HW.out with ⟨e1, e2⟩ | ⟨e1, e5, e2⟩ | ⟨e1, e5, e2⟩
    · rw [e2]
      have f1 : ((wi : Int) == 1) = true := by simp; omega
      have f5 : ((wi : Int) == 5) = false := by simp; omega
      clear e1 e2 HW
      go_wp2_with fail
      refine (Wire_any _ _ hw).mono ?_
      rintro e w' ⟨rfl, rfl⟩
      go_wp2
      go_ret
      exact ⟨by simp, HB.out⟩
    · rw [e2]
      have f1 : ((wi : Int) == 1) = false := by simp; omega
      have f5 : ((wi : Int) == 5) = true := by simp; omega
      clear e1 e2 e5 HW
      go_wp2_with fail
      refine (Wire_any _ _ hw).mono ?_
      rintro e w' ⟨rfl, rfl⟩
      go_wp2
      go_ret
      exact ⟨by simp, HB.out⟩
    · rw [e2]
      have f1 : ((wi : Int) == 1) = false := by simp; omega
      have f5 : ((wi : Int) == 5) = false := by simp; omega
      clear e1 e2 e5 HW
      go_wp2_with fail
      refine (Wire_any _ _ hw).mono ?_
      rintro e w' ⟨rfl, rfl⟩
      go_wp2
      go_ret
      exact ⟨by simp, HB.out⟩
  · skip
    have h4d : decide (bs.length < 4) = false := by simp; omega
    have h4e : decide (4 ≤ bs.length) = true := by simp; omega
    have h8d : decide (bs.length < 8) = false := by simp; omega
    have h8e : decide (8 ≤ bs.length) = true := by simp; omega
    rw [readL_ok (show 4 ≤ bs.length by omega)]
    dsimp only
    go_wp2_with fail
    refine (H8.out _ HRb.out).mono ?_
    rintro e w' ⟨rfl, rfl⟩
    rw [readL_ok (show 8 ≤ bs.length by omega)]
    dsimp only
    go_wp2_with fail
    refine (HU4.out _ (by omega) HRb.out).mono ?_
    rintro e w' ⟨rfl, rfl⟩
    go_wp2_with fail
    refine (HU8.out _ (by omega) HRb.out).mono ?_
    rintro e w' ⟨rfl, rfl⟩
    go_wp2_with fail
    refine (Width_any _ _ hw).mono ?_
    rintro e w' ⟨rfl, rfl⟩
    have HB := Lib.hid hB7
    clear hB7
    rcases HW.out with ⟨e1, e2⟩ | ⟨e1, e5, e2⟩ | ⟨e1, e5, e2⟩
    · rw [e2]
      have f1 : ((wi : Int) == 1) = true := by simp; omega
      have f5 : ((wi : Int) == 5) = false := by simp; omega
      clear e1 e2 HW
      go_wp2_with fail
      refine (Wire_any _ _ hw).mono ?_
      rintro e w' ⟨rfl, rfl⟩
      go_wp2
      go_ret
      exact ⟨by simp, HB.out⟩
    · rw [e2]
      have f1 : ((wi : Int) == 1) = false := by simp; omega
      have f5 : ((wi : Int) == 5) = true := by simp; omega
      clear e1 e2 e5 HW
      go_wp2_with fail
      refine (Wire_any _ _ hw).mono ?_
      rintro e w' ⟨rfl, rfl⟩
      go_wp2
      go_ret
      exact ⟨by simp, HB.out⟩
    · rw [e2]
      have f1 : ((wi : Int) == 1) = false := by simp; omega
      have f5 : ((wi : Int) == 5) = false := by simp; omega
      clear e1 e2 e5 HW
      go_wp2_with fail
      refine (Wire_any _ _ hw).mono ?_
      rintro e w' ⟨rfl, rfl⟩
      go_wp2
      go_ret
      exact ⟨by simp, HB.out⟩
end Go.Proofs.Ytigeedaihbpjiaa
