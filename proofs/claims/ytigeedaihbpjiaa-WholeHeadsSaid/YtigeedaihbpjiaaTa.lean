/-
  tag: Width, fits, Make, Split, and the reference's: contracts.
-/
import Derived.Test.YtigeedaihbpjiaaVj
namespace Go.Proofs.Ytigeedaihbpjiaa
open Go.RowKit

def widthN (w : Nat) : Int := if w = 1 then 8 else if w = 5 then 4 else 0
def wireB (w : Nat) : Bool := decide (w = 0 ∨ w = 1 ∨ w = 2 ∨ w = 5)
def fitsB (n : Int) : Bool := decide (1 ≤ n ∧ n ≤ 536870911)

theorem wire_cases (w : Nat) : w = 0 ∨ w = 1 ∨ w = 2 ∨ w = 5 ∨ (((w : Int) == 0) = false ∧ ((w : Int) == 1) = false ∧ ((w : Int) == 2) = false ∧ ((w : Int) == 5) = false ∧ wireB w = false ∧ widthN w = 0) := by
  by_cases h0 : w = 0
  · exact .inl h0
  by_cases h1 : w = 1
  · exact .inr (.inl h1)
  by_cases h2 : w = 2
  · exact .inr (.inr (.inl h2))
  by_cases h5 : w = 5
  · exact .inr (.inr (.inr (.inl h5)))
  refine .inr (.inr (.inr (.inr ⟨?_, ?_, ?_, ?_, ?_, ?_⟩)))
  · simp; omega
  · simp; omega
  · simp; omega
  · simp; omega
  · simp [wireB, h0, h1, h2, h5]
  · simp [widthN, h1, h5]

set_option maxRecDepth 100000 in
theorem Width_any (wi : Nat) (w : World) (hw : wi < 256) : Calls Try.prog 28 #[.int .u8 wi] w fun e w' => e = .returned (.tuple #[.int .i64 (widthN wi), .bool (wireB wi)]) ∧ w = w' := by
  rcases wire_cases wi with rfl | rfl | rfl | rfl | ⟨h0, h1, h2, h5, hb, hn⟩
  case' inr.inr.inr.inr => rw [hb, hn]; clear hb hn
  all_goals
    go_enter Try.func28, Try.ntmps28
    go_wp2
    try go_ret2
    try exact ⟨rfl, rfl⟩

set_option maxRecDepth 100000 in
theorem fits_any (n : Nat) (w : World) (hn : n < 18446744073709551616) : Calls Try.prog 73 #[.int .u64 n] w fun e w' => e = .returned (.bool (fitsB n)) ∧ w = w' := by
  by_cases h1 : 1 ≤ (n : Int)
  · have e : fitsB n = decide ((n : Int) ≤ 536870911) := by unfold fitsB; simp [h1]
    rw [e]
    clear e
    have hd : decide (1 ≤ (n : Int)) = true := by simpa using h1
    go_enter Try.func73, Try.ntmps73
    go_wp2
    go_ret
    exact ⟨rfl, rfl⟩
  · have e : fitsB n = false := by unfold fitsB; simp [h1]
    rw [e]
    clear e
    have hd : decide (1 ≤ (n : Int)) = false := by simpa using h1
    go_enter Try.func73, Try.ntmps73
    go_wp2
    go_ret
    exact ⟨rfl, rfl⟩

set_option maxRecDepth 100000 in
theorem Wire_any (wi : Nat) (w : World) (hw : wi < 256) : Calls Try.prog 29 #[.int .u8 wi] w fun e w' => e = .returned (.bool (wireB wi)) ∧ w = w' := by
  rcases wire_cases wi with rfl | rfl | rfl | rfl | ⟨h0, h1, h2, h5, hb, hn⟩
  case' inr.inr.inr.inr => rw [hb]; clear hb hn
  all_goals
    go_enter Try.func29, Try.ntmps29
    go_wp2
    go_ret
    exact ⟨rfl, rfl⟩
end Go.Proofs.Ytigeedaihbpjiaa
