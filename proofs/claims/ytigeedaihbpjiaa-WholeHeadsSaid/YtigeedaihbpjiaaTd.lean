/-
  tag: numbers of so many bytes: contracts.
-/
import Derived.Test.YtigeedaihbpjiaaTc
import Derived.Test.YtigeedaihbpjiaaPt
import Derived.Deep.DeepMust
namespace Go.Proofs.Ytigeedaihbpjiaa
open Go.RowKit

set_option maxRecDepth 100000 in
set_option maxHeartbeats 1000000 in
theorem read_any (k : Nat) (bs : List Nat) (v : Value) (w : World) (hk : k = 4 ∨ k = 8) (hb : AllLt 256 bs) (hr : RdS w v 1 bs.length (u8s bs)) :
    Calls Try.prog 76 #[v, .int .i64 k] w fun e w' => e = .returned (.tuple #[.int .u64 (readL k bs).1, .int .i64 (readL k bs).2]) ∧ w = w' := by
  by_cases hlt : bs.length < k
  · have e : readL k bs = (0, 4) := by unfold readL; rw [if_pos hlt]
    rw [e]
    obtain ⟨a, c, rfl⟩ := hr.form
    have hd : decide ((bs.length : Int) < (k : Int)) = true := by simpa using hlt
    clear e hr
    go_enter Try.func76, Try.ntmps76
    go_wp2
    go_ret2
    exact ⟨rfl, rfl⟩
  · have e : readL k bs = (unfixL (bs.take k), 0) := by unfold readL; rw [if_neg hlt]
    rw [e]
    have hd : decide ((bs.length : Int) < (k : Int)) = false := by simp; omega
    rcases hr.cases (by decide) with ⟨h0, _⟩ | ⟨hn, hl, g, off, cap, rfl, hnc, hcm, hc⟩
    · omega
    have HC := Lib.hid hc
    have hk8 : k ≤ 8 := by omega
    have hi1 : (0 : Int) ≤ (k : Int) := by omega
    have hi2 : (k : Int) ≤ (cap : Int) := by omega
    clear e hc hr hl hk
    go_enter Try.func76, Try.ntmps76
    go_wp2
    go_loop [6, 17] (fun n i => ∃ j : Nat, j ≤ k ∧ i = .int .i64 j ∧ n = .int .u64 (unfixL (bs.take j))) (fun _ i => k - (intOf i).toNat)
    case atStart => exact ⟨0, by omega, rfl, by simp [unfixL]⟩
    case round =>
      obtain ⟨j, hj, rfl, rfl⟩ := hrel
      by_cases hjk : j < k
      · have hcell := HC.out j _ (u8s_get bs j (by omega))
        have HU := Lib.hid (unfix_take bs j (by omega))
        have hlt2 := unfixL_lt (bs.take j) (allLt_take hb j)
        rw [List.length_take, Nat.min_eq_left (by omega)] at hlt2
        have hbl := hb.get j (by decide)
        generalize hbk : bs[j]?.getD 0 = b at *
        generalize unfixL (bs.take j) = acc at *
        have HS := Lib.hid (rd_step acc b j hlt2 (by omega) hbl)
        have HB := Lib.hid hlt2
        clear hbk hlt2
        go_wp2
        go_round
        case rel => exact ⟨j + 1, by omega, by go_num, by rw [HU.out, HS.out]⟩
        case measure => simp [intOf]; omega
      · obtain rfl : j = k := by omega
        go_wp2
        go_ret2
        exact ⟨rfl, rfl⟩

theorem readL_lt (k : Nat) (bs : List Nat) (h : AllLt 256 bs) : (readL k bs).1 < 256 ^ k := by
  unfold readL
  split
  · exact Nat.pow_pos (by decide)
  · have := unfixL_lt (bs.take k) (allLt_take h k)
    rwa [List.length_take, Nat.min_eq_left (by omega)] at this

set_option maxRecDepth 100000 in
theorem Get32_any (bs : List Nat) (v : Value) (w : World) (hb : AllLt 256 bs) (hr : RdS w v 1 bs.length (u8s bs)) :
    Calls Try.prog 25 #[v] w fun e w' => e = .returned (.tuple #[.int .u32 (readL 4 bs).1, .int .i64 (readL 4 bs).2]) ∧ w = w' := by
  have hl := readL_lt 4 bs hb
  have HR := Lib.hid (read_any 4 bs v w (.inl rfl) hb hr)
  obtain ⟨a, c, rfl⟩ := hr.form
  generalize (readL 4 bs).1 = x at *
  generalize (readL 4 bs).2 = y at *
  have hl2 : x < 4294967296 := hl
  clear hr hb hl
  go_enter Try.func25, Try.ntmps25
  go_wp2_with fail
  refine (HR.out).mono ?_
  rintro e w' ⟨rfl, rfl⟩
  go_wp2
  go_ret2
  exact ⟨rfl, rfl⟩

set_option maxRecDepth 100000 in
theorem Get64_any (bs : List Nat) (v : Value) (w : World) (hb : AllLt 256 bs) (hr : RdS w v 1 bs.length (u8s bs)) :
    Calls Try.prog 26 #[v] w fun e w' => e = .returned (.tuple #[.int .u64 (readL 8 bs).1, .int .i64 (readL 8 bs).2]) ∧ w = w' := by
  have HR := Lib.hid (read_any 8 bs v w (.inr rfl) hb hr)
  obtain ⟨a, c, rfl⟩ := hr.form
  generalize (readL 8 bs).1 = x at *
  generalize (readL 8 bs).2 = y at *
  clear hr hb
  go_enter Try.func26, Try.ntmps26
  go_wp2_with fail
  refine (HR.out).mono ?_
  rintro e w' ⟨rfl, rfl⟩
  go_wp2
  go_ret2
  exact ⟨rfl, rfl⟩
end Go.Proofs.Ytigeedaihbpjiaa
