/-
  varint: the reference's Get; numbers with a sign; Short.
-/
import Derived.Test.YtkaadkjbimaodaaVd
namespace Go.Proofs.Ytkaadkjbimaodaa
open Go.RowKit
attribute [local go_sem] Oper.semAt_some wide_fn wide_depth wide_fn' wide_depth'

/-- Are numbers alike? Those that are. -/
theorem Nums_true (v v' : Value) (bs : List Nat) (w : World) (h : RdS w v 1 bs.length (u64s bs)) (h' : RdS w v' 1 bs.length (u64s bs)) :
    Calls Try.prog 38 #[v, v'] w fun e w' => e = .returned (.bool true) ∧ Below w.heap.size w w' := by
  rcases h.cases (by decide) with ⟨h0, h1, a, cap, rfl, hm⟩ | ⟨hn, hl, g, off, cap, rfl, hnc, hcm, hc⟩
  · obtain rfl : bs = [] := List.eq_nil_of_length_eq_zero h0
    rcases h'.cases (by decide) with ⟨_, _, a', cap', rfl, hm'⟩ | ⟨hn, _⟩
    · go_enter Try.func38, Try.ntmps38
      go_wp2
      go_loop [5] (fun i => i = .int .i64 0) (fun i => 0)
      case atStart => rfl
      case round =>
        obtain rfl := hrel
        go_wp2
        go_ret
        exact ⟨rfl, Below.refl _ _⟩
    · simp at hn
  · rcases h'.cases (by decide) with ⟨h0, _⟩ | ⟨_, _, g', off', cap', rfl, hnc', hcm', hc'⟩
    · omega
    · have HC := Lib.hid hc
      have HC' := Lib.hid hc'
      have H := Lib.hid h
      have H' := Lib.hid h'
      clear hc hc' h h' hl
      go_enter Try.func38, Try.ntmps38
      go_wp2
      go_loopw [5] (fun i wr => ∃ (k : Nat), k ≤ bs.length ∧ i = .int .i64 k ∧ Below w.heap.size w wr) (fun i _ => bs.length - (intOf i).toNat)
      case atStart => exact ⟨0, by omega, rfl, Below.refl _ _⟩
      case round =>
        obtain ⟨k, hk, rfl, hb⟩ := hrel
        by_cases hlt : k < bs.length
        · have c1 := cellB hb (HC.out k _ (u64s_get bs k hlt))
          have c2 := cellB hb (HC'.out k _ (u64s_get bs k hlt))
          generalize bs[k]?.getD 0 = b at *
          have hlt' : (k : Int) < bs.length := by omega
          go_wp2
          go_quiet (fail)
          go_wp2
          go_roundw
          case rel => exact ⟨k + 1, by omega, by go_num, belowN hb _⟩
          case measure => simp [intOf]; omega
        · go_wp2
          go_ret
          exact ⟨rfl, hb⟩

theorem Zig_any (n : Int) (w : World) (h1 : -9223372036854775808 ≤ n) (h2 : n ≤ 9223372036854775807) :
    Calls Try.prog 33 #[.int .i64 n] w fun e w' => e = .returned (.int .u64 (zigN n)) ∧ w = w' := by
  go_enter Try.func33, Try.ntmps33
  go_wp2
  go_ret
  exact ⟨by rw [← zig_bits n h1 h2]; rfl, rfl⟩
theorem rZig_any (n : Int) (w : World) (h1 : -9223372036854775808 ≤ n) (h2 : n ≤ 9223372036854775807) :
    Calls Try.prog 34 #[.int .i64 n] w fun e w' => e = .returned (.int .u64 (zigN n)) ∧ w = w' := by
  by_cases hn : 0 ≤ n
  · have hz : zigN n = 2 * n := by unfold zigN; rw [if_pos hn]
    have HZ := Lib.hid hz
    clear hz
    go_enter Try.func34, Try.ntmps34
    go_wp2
    go_ret
    exact ⟨by rw [HZ.out]; rfl, rfl⟩
  · have hz : zigN n = 2 * -(n + 1) + 1 := by unfold zigN; rw [if_neg hn]; omega
    have HZ := Lib.hid hz
    clear hz
    go_enter Try.func34, Try.ntmps34
    go_wp2
    go_ret
    exact ⟨by rw [HZ.out]; rfl, rfl⟩
theorem Zag_any (n : Nat) (w : World) (h : n < 18446744073709551616) :
    Calls Try.prog 35 #[.int .u64 n] w fun e w' => e = .returned (.int .i64 (zagN n)) ∧ w = w' := by
  by_cases hn : n % 2 = 1
  · have hz : zagN n = bits .xor .i64 (-1) ((n : Int) / 2) := by
      have := i64_not (n / 2) (by omega)
      rw [show ((n / 2 : Nat) : Int) = (n : Int) / 2 by omega] at this
      rw [this]; unfold zagN; rw [if_pos hn]; omega
    have HZ := Lib.hid hz
    clear hz
    go_enter Try.func35, Try.ntmps35
    go_wp2
    go_ret
    exact ⟨by rw [HZ.out]; rfl, rfl⟩
  · have hz : zagN n = (n : Int) / 2 := by unfold zagN; rw [if_neg hn]; omega
    have HZ := Lib.hid hz
    clear hz
    go_enter Try.func35, Try.ntmps35
    go_wp2
    go_ret
    exact ⟨by rw [HZ.out]; rfl, rfl⟩

/-- varint.Short. -/
def shortB (bs : List Nat) : Bool := decide ((getL bs).2.2 = 0 ∧ (getL bs).2.1 = (putL 9 (getL bs).1).length)

theorem Short_any (bs : List Nat) (v : Value) (w : World) (hb : AllLt 256 bs) (hr : RdS w v 1 bs.length (u8s bs)) :
    Calls Try.prog 32 #[v] w fun e w' => e = .returned (.bool (shortB bs)) ∧ Below w.heap.size w w' := by
  have hbd := getGo_bound bs hb 0 0 (by omega) (by omega)
  have hl := putL_len 9 (getL bs).1
  have hg : getL bs = getGo 0 0 bs := rfl
  rw [← hg] at hbd
  have hs : shortB bs = decide ((getL bs).2.2 = 0 ∧ (getL bs).2.1 = (putL 9 (getL bs).1).length) := rfl
  have HC := Lib.hid (Get_any bs v w hb hr)
  clear hg
  generalize getL bs = r at *
  obtain ⟨n, k, e⟩ := r
  have HS := Lib.hid hs
  dsimp only [tup3] at *
  have HZ := fun w' => Lib.hid (Size_any n w' hbd.1)
  generalize (putL 9 n).length = j at *
  clear hs hr
  by_cases he : e = 0
  · subst he
    have hq : shortB bs = ((k : Int) == (j : Int)) := by
      rw [HS.out, Bool.eq_iff_iff]; simp; omega
    have HQ := Lib.hid hq
    clear hq
    go_enter Try.func32, Try.ntmps32
    go_wp2_with (first | (go_at_call 30; refine HC.out.mono ?_; rintro e w' ⟨rfl, rfl⟩) | (go_at_call 29; refine (HZ _).out.mono ?_; rintro e w' ⟨rfl, hb1⟩))
    go_ret
    exact ⟨by rw [HQ.out]; rfl, hb1⟩
  · have hq : shortB bs = false := by
      rw [HS.out]; simp [he]
    have HQ := Lib.hid hq
    clear hq
    have hee : ((e : Int) == 0) = false := by simp; omega
    go_enter Try.func32, Try.ntmps32
    go_wp2_with (first | (go_at_call 30; refine HC.out.mono ?_; rintro e w' ⟨rfl, rfl⟩) | (go_at_call 29; refine (HZ _).out.mono ?_; rintro e w' ⟨rfl, hb1⟩))
    go_ret
    exact ⟨by rw [HQ.out]; rfl, Below.refl _ _⟩

set_option maxRecDepth 100000 in
set_option maxHeartbeats 400000 in
theorem rGet_any (bs : List Nat) (v : Value) (w : World) (hb : AllLt 256 bs) (hr : RdS w v 1 bs.length (u8s bs)) :
    Calls Try.prog 31 #[v] w fun e w' => e = .returned (tup3 (getL bs)) ∧ w = w' := by
  rcases hr.cases (by decide) with ⟨h0, h1, a, cap, rfl, hm⟩ | ⟨hn, hl, g, off, cap, rfl, hnc, hcm, hc⟩
  · obtain rfl : bs = [] := List.eq_nil_of_length_eq_zero h0
    go_enter Try.func31, Try.ntmps31
    go_wp2
    go_loop [5, 6, 7] (fun n m i => n = .int .u64 0 ∧ m = .int .u64 1 ∧ i = .int .i64 0) (fun n m i => 0)
    case atStart => exact ⟨rfl, rfl, rfl⟩
    case round =>
      obtain ⟨rfl, rfl, rfl⟩ := hrel
      go_wp2
      go_ret3
      exact ⟨rfl, rfl⟩
  · have HC := Lib.hid hc
    have HR := Lib.hid hr
    clear hc hr hl
    go_enter Try.func31, Try.ntmps31
    go_wp2
    go_loop [5, 6, 7] (fun n m i => ∃ (k acc M : Nat), k ≤ bs.length ∧ k ≤ 9 ∧ i = .int .i64 k ∧ n = .int .u64 acc ∧ m = .int .u64 M ∧ Hid (M = 128 ^ k) ∧ Hid (acc < 128 ^ k) ∧ Hid (getL bs = getGo k acc (bs.drop k))) (fun _ _ i => bs.length - (intOf i).toNat)
    case atStart => exact ⟨0, 0, 1, by omega, by omega, rfl, rfl, rfl, rfl, by show 0 < 128 ^ 0; decide, rfl⟩
    case round =>
      obtain ⟨k, acc, M, hk, hk9, rfl, rfl, rfl, HM, HA, HL⟩ := hrel
      by_cases hlt : k < bs.length
      · have hcell := HC.out k _ (u8s_get bs k hlt)
        have hbl := hb.get k (by decide)
        generalize hbk : bs[k]?.getD 0 = b at *
        have HD := Lib.hid (getGo_drop bs k acc b hlt hbk)
        clear hbk
        have hlb : ((k : Int) == (bs.length : Int)) = false := by simp; omega
        by_cases h9 : k = 9
        · subst h9
          by_cases hb1 : 128 ≤ b
          · go_wp2
            go_ret3
            exact ⟨by rw [HL.out, HD.out, if_pos (by simp; omega)]; rfl, rfl⟩
          · by_cases hb2 : 1 < b
            · go_wp2
              go_ret3
              exact ⟨by rw [HL.out, HD.out, if_neg (by simp; omega), if_pos (by simp; omega)]; rfl, rfl⟩
            · have hM : M = 9223372036854775808 := HM.out
              have hA : acc < 9223372036854775808 := HA.out
              subst hM
              go_wp2
              go_ret3
              exact ⟨by rw [HL.out, HD.out, if_neg (by simp; omega), if_neg (by simp; omega), if_pos (by omega)]; rfl, rfl⟩
        · have h9b : ((k : Int) == 9) = false := by simp; omega
          have hP : acc + b % 128 * M < 128 ^ (k + 1) := by rw [HM.out]; exact get_bound acc b k HA.out
          have HS := Lib.hid (rget_step acc b k M HM.out HA.out (by omega))
          clear hP
          by_cases hb1 : b < 128
          · go_wp2
            go_ret3
            exact ⟨by rw [HL.out, HD.out, if_neg (by omega), if_neg (by omega), if_pos hb1]; simp only [tup3]; rw [← HS.out.1]; rfl, rfl⟩
          · go_wp2
            go_round
            case rel => exact ⟨k + 1, acc + b % 128 * 128 ^ k, 128 ^ (k + 1), by omega, by omega, by go_num, by rw [HS.out.1], by rw [HS.out.2], rfl, get_bound _ _ _ HA.out, by show getL bs = _; rw [HL.out, HD.out, if_neg (by omega), if_neg (by omega), if_neg hb1]⟩
            case measure => simp [intOf]; omega
      · have hkl : k = bs.length := by omega
        have hlb : ((k : Int) == (bs.length : Int)) = true := by simp; omega
        have HK := Lib.hid hkl
        clear hkl
        have HE := Lib.hid (getGo_end bs k acc (by omega))
        go_wp2
        go_ret3
        exact ⟨by rw [HL.out, HE.out]; rfl, rfl⟩
end Go.Proofs.Ytkaadkjbimaodaa
