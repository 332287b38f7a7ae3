/-
  tag: Split and Head, and the reference's: contracts.
-/
import Derived.Test.YtigeedaihbpjiaaTb
namespace Go.Proofs.Ytigeedaihbpjiaa
open Go.RowKit

def splT (n : Nat) : Int × Int × Int := if fitsB ((n : Int) / 8) then (if wireB (n % 8) then ((n : Int) / 8, (n : Int) % 8, 0) else (0, 0, 7)) else (0, 0, 1)
def tupS (x : Int × Int × Int) : Value := .tuple #[.int .i64 x.1, .int .u8 x.2.1, .int .i64 x.2.2]

theorem fits8 (n : Nat) (w : World) (hn : n < 18446744073709551616) : Calls Try.prog 73 #[.int .u64 ((n : Int) / 8)] w fun e w' => e = .returned (.bool (fitsB ((n : Int) / 8))) ∧ w = w' := by
  have := fits_any (n / 8) w (by omega)
  rwa [Int.natCast_ediv] at this
theorem width8 (n : Nat) (w : World) : Calls Try.prog 28 #[.int .u8 ((n : Int) % 8)] w fun e w' => e = .returned (.tuple #[.int .i64 (widthN (n % 8)), .bool (wireB (n % 8))]) ∧ w = w' := by
  have := Width_any (n % 8) w (by omega)
  rwa [Int.natCast_emod] at this
theorem wire8 (n : Nat) (w : World) : Calls Try.prog 29 #[.int .u8 ((n : Int) % 8)] w fun e w' => e = .returned (.bool (wireB (n % 8))) ∧ w = w' := by
  have := Wire_any (n % 8) w (by omega)
  rwa [Int.natCast_emod] at this

set_option maxRecDepth 100000 in
set_option maxHeartbeats 1000000 in
theorem Split_any (n : Nat) (w : World) (hn : n < 18446744073709551616) : Calls Try.prog 19 #[.int .u64 n] w fun e w' => e = .returned (tupS (splT n)) ∧ w = w' := by
  by_cases hf : fitsB ((n : Int) / 8) = true
  · by_cases hb : wireB (n % 8) = true
    · have e : splT n = ((n : Int) / 8, (n : Int) % 8, 0) := by unfold splT; rw [if_pos hf, if_pos hb]
      rw [e]
      have HF := Lib.hid hf
      have HB := Lib.hid hb
      clear e hf hb
      go_enter Try.func19, Try.ntmps19
      go_wp2_with fail
      refine (fits8 n _ hn).mono ?_
      rintro e w' ⟨rfl, rfl⟩
      rw [HF.out]
      go_wp2_with fail
      refine (width8 n _).mono ?_
      rintro e w' ⟨rfl, rfl⟩
      rw [HB.out]
      go_wp2
      go_ret3
      exact ⟨rfl, rfl⟩
    · have hb' : wireB (n % 8) = false := by simpa using hb
      have e : splT n = (0, 0, 7) := by unfold splT; rw [if_pos hf, hb']; rfl
      rw [e]
      have HF := Lib.hid hf
      have HB := Lib.hid hb'
      clear e hf hb hb'
      go_enter Try.func19, Try.ntmps19
      go_wp2_with fail
      refine (fits8 n _ hn).mono ?_
      rintro e w' ⟨rfl, rfl⟩
      rw [HF.out]
      go_wp2_with fail
      refine (width8 n _).mono ?_
      rintro e w' ⟨rfl, rfl⟩
      rw [HB.out]
      go_wp2
      go_ret3
      exact ⟨rfl, rfl⟩
  · have hf' : fitsB ((n : Int) / 8) = false := by simpa using hf
    have e : splT n = (0, 0, 1) := by unfold splT; rw [hf']; rfl
    rw [e]
    have HF := Lib.hid hf'
    clear e hf hf'
    go_enter Try.func19, Try.ntmps19
    go_wp2_with fail
    refine (fits8 n _ hn).mono ?_
    rintro e w' ⟨rfl, rfl⟩
    rw [HF.out]
    go_wp2
    go_ret3
    exact ⟨rfl, rfl⟩

/-- A tag's bytes. -/
def headL (n : Int) (w : Nat) : List Nat := if (mkT n w).2 = 0 then putL 9 (mkT n w).1.toNat else []
theorem mkT_range (n : Int) (w : Nat) (hw : w < 256) : 0 ≤ (mkT n w).1 ∧ (mkT n w).1 < 4294967552 := by
  unfold mkT
  split
  · rename_i h
    unfold fitsB at h
    have := of_decide_eq_true h
    split
    · dsimp only; omega
    · dsimp only; omega
  · dsimp only; omega
theorem mkT_errno (n : Int) (w : Nat) : (mkT n w).2 = 0 ∨ (mkT n w).2 = 1 ∨ (mkT n w).2 = 7 := by
  unfold mkT; split
  · split <;> simp
  · simp

set_option maxRecDepth 100000 in
set_option maxHeartbeats 1000000 in
theorem Head_any (n : Int) (wi : Nat) (w : World) (h1 : -9223372036854775808 ≤ n) (h2 : n ≤ 9223372036854775807) (hw : wi < 256) :
    Calls Try.prog 16 #[.int .i64 n, .int .u8 wi] w fun e w' => ∃ v, e = .returned v ∧ w'.ownsRow w.heap.size 5 1 v (headL n wi).length (u8s (headL n wi)) ∧ Below w.heap.size w w' := by
  have hr := mkT_range n wi hw
  have he := mkT_errno n wi
  have HM := Lib.hid (fun w => Make_any n wi w h1 h2 hw)
  unfold headL
  unfold tupT at HM
  generalize mkT n wi = x at *
  obtain ⟨t, e⟩ := x
  dsimp only at hr he HM ⊢
  obtain ⟨T, rfl⟩ : ∃ T : Nat, t = T := ⟨t.toNat, by omega⟩
  by_cases h0 : e = 0
  · subst h0
    rw [if_pos rfl, Int.toNat_natCast]
    clear he
    go_enter Try.func16, Try.ntmps16
    go_wp2_with fail
    refine (HM.out _).mono ?_
    rintro e w' ⟨rfl, rfl⟩
    go_wp2_with fail
    refine (Put_any T _ (by omega)).mono ?_
    rintro e w2 ⟨v2, rfl, ho2, hb2⟩
    have HO := Lib.hid ho2
    clear ho2
    go_wp2
    go_ret
    exact ⟨_, rfl, HO.out, hb2⟩
  · rw [if_neg h0]
    have hz : (e == 0) = false := by simpa using h0
    clear h0
    go_enter Try.func16, Try.ntmps16
    go_wp2_with fail
    refine (HM.out _).mono ?_
    rintro e w' ⟨rfl, rfl⟩
    go_wp2
    go_ret
    exact ⟨_, rfl, World.ownsRow_nil _ _ _ _, Below.refl _ _⟩
end Go.Proofs.Ytigeedaihbpjiaa
