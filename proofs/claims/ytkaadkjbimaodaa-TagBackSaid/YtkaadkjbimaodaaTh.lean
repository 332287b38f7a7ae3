/-
  The law TagBack: its walk.
-/
import Derived.Test.YtkaadkjbimaodaaTg
namespace Go.Proofs.Ytkaadkjbimaodaa
open Go.RowKit

theorem mk_spl {n : Int} {wi T : Nat} (hw : wi < 256) (h : mkT n wi = ((T : Int), 0)) : splT T = (n, (wi : Int), 0) := by
  unfold mkT at h
  split at h
  · rename_i hf
    split at h
    · rename_i hb
      have hfr : 1 ≤ n ∧ n ≤ 536870911 := by unfold fitsB at hf; simpa using hf
      have hb' : wi = 0 ∨ wi = 1 ∨ wi = 2 ∨ wi = 5 := by unfold wireB at hb; simpa using hb
      have e : n * 8 + wi = T := by injection h
      have e1 : (T : Int) / 8 = n := by omega
      have e2 : T % 8 = wi := by omega
      have e3 : (T : Int) % 8 = wi := by omega
      unfold splT
      rw [e1, e2, e3, if_pos hf, if_pos hb]
    · injection h with h1 h2; omega
  · injection h with h1 h2; omega
theorem spl_mk {n : Nat} {a : Int} {b : Int} (h : splT n = (a, b, 0)) : ∃ B : Nat, b = B ∧ B < 256 ∧ 1 ≤ a ∧ a ≤ 536870911 ∧ mkT a B = ((n : Int), 0) := by
  unfold splT at h
  split at h
  · rename_i hf
    split at h
    · rename_i hb
      have hfr : 1 ≤ (n : Int) / 8 ∧ (n : Int) / 8 ≤ 536870911 := by unfold fitsB at hf; simpa using hf
      injection h with h1 h2
      injection h2 with h2 h3
      refine ⟨n % 8, by omega, by omega, by omega, by omega, ?_⟩
      unfold mkT
      rw [← h1, if_pos hf, if_pos hb]
      congr 1; omega
    · injection h with h1 h2; injection h2 with h2 h3; omega
  · injection h with h1 h2; injection h2 with h2 h3; omega

set_option maxRecDepth 100000 in
set_option maxHeartbeats 1000000 in
theorem TagBack_any (m : Int) (wi n : Nat) (w : World) (h1 : -9223372036854775808 ≤ m) (h2 : m ≤ 9223372036854775807) (hw : wi < 256) (hn : n < 18446744073709551616) :
    Calls Try.prog 14 #[.int .i64 m, .int .u8 wi, .int .u64 n] w fun e w' => e = .returned (.bool true) ∧ Below w.heap.size w w' := by
  have HM := Lib.hid (fun w => Make_any m wi w h1 h2 hw)
  have hr := mkT_range m wi hw
  have HMS := Lib.hid (fun (T : Nat) (h : mkT m wi = ((T : Int), 0)) (hT : T < 18446744073709551616) w => (show Calls Try.prog 45 #[.int .u64 T] w fun e w' => e = .returned (.tuple #[.int .i64 m, .int .u8 wi, .int .i64 0]) ∧ w = w' by
    have := Split_any T w hT
    rw [mk_spl hw h] at this
    exact this))
  have HS := Lib.hid (fun w => Split_any n w hn)
  have HSM := Lib.hid (fun (a b : Int) (h : splT n = (a, b, 0)) w => (show Calls Try.prog 42 #[.int .i64 a, .int .u8 b] w fun e w' => e = .returned (.tuple #[.int .u64 n, .int .i64 0]) ∧ w = w' by
    obtain ⟨B, rfl, hB, ha1, ha2, e⟩ := spl_mk h
    have := Make_any a B w (by omega) (by omega) hB
    rw [e] at this
    exact this))
  unfold tupT at HM
  unfold tupS at HS
  generalize hx : mkT m wi = x at *
  generalize hy : splT n = y at *
  obtain ⟨t, c⟩ := x
  obtain ⟨a, b, d⟩ := y
  dsimp only at HM HS hr
  obtain ⟨T, rfl⟩ : ∃ T : Nat, t = T := ⟨t.toNat, by omega⟩
  clear hx hy
  go_enter Try.func14, Try.ntmps14
  go_wp2_with fail
  refine (live02_any _).mono ?_
  rintro e w1 ⟨rfl, hb1⟩
  go_wp2_with fail
  refine (HM.out _).mono ?_
  rintro e w' ⟨rfl, rfl⟩
  have hc : (c == 0) = true ∧ c = 0 ∨ (c == 0) = false := by by_cases h : c = 0 <;> simp [h]
  have hd : (d == 0) = true ∧ d = 0 ∨ (d == 0) = false := by by_cases h : d = 0 <;> simp [h]
  rcases hc with ⟨_, rfl⟩ | hc
  · have HMS1 := Lib.hid (HMS.out T rfl (by omega))
    clear HMS HM
    go_wp2_with fail
    refine (HMS1.out _).mono ?_
    rintro e w' ⟨rfl, rfl⟩
    go_wp2_with fail
    refine (HS.out _).mono ?_
    rintro e w' ⟨rfl, rfl⟩
    rcases hd with ⟨_, rfl⟩ | hd
    · have HSM1 := Lib.hid (HSM.out a b rfl)
      clear HSM HS
      go_wp2_with fail
      refine (HSM1.out _).mono ?_
      rintro e w' ⟨rfl, rfl⟩
      go_wp2
      go_ret
      exact ⟨rfl, hb1⟩
    · go_wp2
      go_ret
      exact ⟨rfl, hb1⟩
  · clear HMS HM
    go_wp2_with fail
    refine (HS.out _).mono ?_
    rintro e w' ⟨rfl, rfl⟩
    rcases hd with ⟨_, rfl⟩ | hd
    · have HSM1 := Lib.hid (HSM.out a b rfl)
      clear HSM HS
      go_wp2_with fail
      refine (HSM1.out _).mono ?_
      rintro e w' ⟨rfl, rfl⟩
      go_wp2
      go_ret
      exact ⟨rfl, hb1⟩
    · go_wp2
      go_ret
      exact ⟨rfl, hb1⟩
end Go.Proofs.Ytkaadkjbimaodaa
