/-
  tag: Make, Split, and the reference's: contracts.
-/
import Derived.Test.YtigeedaihbpjiaaTa
namespace Go.Proofs.Ytigeedaihbpjiaa
open Go.RowKit

theorem or8 (N c : Nat) (hN : N ≤ 536870911) (hc : c < 8) : bits .or .u64 ((N : Int) * 8) (c : Int) = (N : Int) * 8 + c := by
  have e : ((N : Int) * 8) = ((N * 8 : Nat) : Int) := by omega
  rw [e, u64_or_nat (N * 8) c (by omega) (by omega), nat_join 3 (N * 8) c (by omega) (by omega)]
  omega

/-- A tag and why there is none. -/
def mkT (n : Int) (w : Nat) : Int × Int := if fitsB n then (if wireB w then (n * 8 + w, 0) else (0, 7)) else (0, 1)
def tupT (x : Int × Int) : Value := .tuple #[.int .u64 x.1, .int .i64 x.2]

set_option maxRecDepth 100000 in
set_option maxHeartbeats 1000000 in
theorem Make_any (n : Int) (wi : Nat) (w : World) (h1 : -9223372036854775808 ≤ n) (h2 : n ≤ 9223372036854775807) (hw : wi < 256) :
    Calls Try.prog 17 #[.int .i64 n, .int .u8 wi] w fun e w' => e = .returned (tupT (mkT n wi)) ∧ w = w' := by
  by_cases hneg : n < 0
  · have e : mkT n wi = (0, 1) := by unfold mkT fitsB; rw [if_neg (by simp; omega)]
    rw [e]
    have hd : decide (n < 0) = true := by simpa using hneg
    clear e
    go_enter Try.func17, Try.ntmps17
    go_wp2
    go_ret2
    exact ⟨rfl, rfl⟩
  · obtain ⟨N, rfl⟩ : ∃ N : Nat, n = N := ⟨n.toNat, by omega⟩
    have hd : decide ((N : Int) < 0) = false := by simp
    by_cases hf : fitsB (N : Int) = true
    · have hfr : 1 ≤ (N : Int) ∧ (N : Int) ≤ 536870911 := by unfold fitsB at hf; simpa using hf
      have HF := Lib.hid hf
      rcases wire_cases wi with rfl | rfl | rfl | rfl | ⟨hx0, hx1, hx2, hx5, hb, hn⟩
      · have e : mkT (N : Int) 0 = ((N : Int) * 8 + 0, 0) := by unfold mkT; rw [if_pos hf]; rfl
        rw [e]
        have hor : bits .or .u64 ((N : Int) * 8) 0 = (N : Int) * 8 + 0 := or8 N 0 (by omega) (by omega)
        clear e hf h1 h2 hneg hd
        go_enter Try.func17, Try.ntmps17
        go_wp2_with fail
        refine (fits_any N _ (by omega)).mono ?_
        rintro e w' ⟨rfl, rfl⟩
        rw [HF.out]
        go_wp2_with fail
        refine (Width_any _ _ hw).mono ?_
        rintro e w' ⟨rfl, rfl⟩
        rw [show wireB 0 = true from rfl]
        go_wp2
        go_ret2
        exact ⟨rfl, rfl⟩
      · have e : mkT (N : Int) 1 = ((N : Int) * 8 + 1, 0) := by unfold mkT; rw [if_pos hf]; rfl
        rw [e]
        have hor : bits .or .u64 ((N : Int) * 8) 1 = (N : Int) * 8 + 1 := or8 N 1 (by omega) (by omega)
        clear e hf h1 h2 hneg hd
        go_enter Try.func17, Try.ntmps17
        go_wp2_with fail
        refine (fits_any N _ (by omega)).mono ?_
        rintro e w' ⟨rfl, rfl⟩
        rw [HF.out]
        go_wp2_with fail
        refine (Width_any _ _ hw).mono ?_
        rintro e w' ⟨rfl, rfl⟩
        rw [show wireB 1 = true from rfl]
        go_wp2
        go_ret2
        exact ⟨rfl, rfl⟩
      · have e : mkT (N : Int) 2 = ((N : Int) * 8 + 2, 0) := by unfold mkT; rw [if_pos hf]; rfl
        rw [e]
        have hor : bits .or .u64 ((N : Int) * 8) 2 = (N : Int) * 8 + 2 := or8 N 2 (by omega) (by omega)
        clear e hf h1 h2 hneg hd
        go_enter Try.func17, Try.ntmps17
        go_wp2_with fail
        refine (fits_any N _ (by omega)).mono ?_
        rintro e w' ⟨rfl, rfl⟩
        rw [HF.out]
        go_wp2_with fail
        refine (Width_any _ _ hw).mono ?_
        rintro e w' ⟨rfl, rfl⟩
        rw [show wireB 2 = true from rfl]
        go_wp2
        go_ret2
        exact ⟨rfl, rfl⟩
      · have e : mkT (N : Int) 5 = ((N : Int) * 8 + 5, 0) := by unfold mkT; rw [if_pos hf]; rfl
        rw [e]
        have hor : bits .or .u64 ((N : Int) * 8) 5 = (N : Int) * 8 + 5 := or8 N 5 (by omega) (by omega)
        clear e hf h1 h2 hneg hd
        go_enter Try.func17, Try.ntmps17
        go_wp2_with fail
        refine (fits_any N _ (by omega)).mono ?_
        rintro e w' ⟨rfl, rfl⟩
        rw [HF.out]
        go_wp2_with fail
        refine (Width_any _ _ hw).mono ?_
        rintro e w' ⟨rfl, rfl⟩
        rw [show wireB 5 = true from rfl]
        go_wp2
        go_ret2
        exact ⟨rfl, rfl⟩
      · have e : mkT (N : Int) wi = (0, 7) := by unfold mkT; rw [if_pos hf, hb]; rfl
        rw [e]
        have HB := Lib.hid hb
        clear e hf h1 h2 hneg hd hb hn hx0 hx1 hx2 hx5
        go_enter Try.func17, Try.ntmps17
        go_wp2_with fail
        refine (fits_any N _ (by omega)).mono ?_
        rintro e w' ⟨rfl, rfl⟩
        rw [HF.out]
        go_wp2_with fail
        refine (Width_any _ _ hw).mono ?_
        rintro e w' ⟨rfl, rfl⟩
        rw [HB.out]
        go_wp2
        go_ret2
        exact ⟨rfl, rfl⟩
    · have hf' : fitsB (N : Int) = false := by simpa using hf
      have e : mkT N wi = (0, 1) := by unfold mkT; rw [hf']; rfl
      rw [e]
      have HF := Lib.hid hf'
      clear e hf hf' hneg
      go_enter Try.func17, Try.ntmps17
      go_wp2_with fail
      refine (fits_any N _ (by omega)).mono ?_
      rintro e w' ⟨rfl, rfl⟩
      rw [HF.out]
      go_wp2
      go_ret2
      exact ⟨rfl, rfl⟩

end Go.Proofs.Ytigeedaihbpjiaa
