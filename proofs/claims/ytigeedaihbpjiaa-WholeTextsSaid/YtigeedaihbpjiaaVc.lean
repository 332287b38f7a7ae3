/-
  varint: Get and its like.
-/
import Derived.Test.YtigeedaihbpjiaaVb
import Derived.Test.YtigeedaihbpjiaaPv
namespace Go.Proofs.Ytigeedaihbpjiaa
open Go.RowKit

set_option maxRecDepth 100000 in
theorem last_hi (b : Nat) (w : World) (hb : b < 256) (h : 128 ≤ b) :
    Calls Try.prog 98 #[.int .u8 b] w fun e w' => e = .returned (.int .i64 2) ∧ w = w' := by
  go_enter Try.func98, Try.ntmps98
  go_wp2
  go_ret
  exact ⟨rfl, rfl⟩
set_option maxRecDepth 100000 in
theorem last_mid (b : Nat) (w : World) (h : b < 128) (h' : 1 < b) :
    Calls Try.prog 98 #[.int .u8 b] w fun e w' => e = .returned (.int .i64 1) ∧ w = w' := by
  go_enter Try.func98, Try.ntmps98
  go_wp2
  go_ret
  exact ⟨rfl, rfl⟩
set_option maxRecDepth 100000 in
theorem last_lo (b : Nat) (w : World) (h' : b ≤ 1) :
    Calls Try.prog 98 #[.int .u8 b] w fun e w' => e = .returned (.int .i64 0) ∧ w = w' := by
  go_enter Try.func98, Try.ntmps98
  go_wp2
  go_ret
  exact ⟨rfl, rfl⟩

def tup3 (x : Nat × Nat × Nat) : Value := .tuple #[.int .u64 x.1, .int .i64 x.2.1, .int .i64 x.2.2]

set_option maxRecDepth 100000 in
set_option maxHeartbeats 400000 in
theorem Get_any (bs : List Nat) (v : Value) (w : World) (hb : AllLt 256 bs) (hr : RdS w v 1 bs.length (u8s bs)) :
    Calls Try.prog 74 #[v] w fun e w' => e = .returned (tup3 (getL bs)) ∧ w = w' := by
  rcases hr.cases (by decide) with ⟨h0, h1, a, cap, rfl, hm⟩ | ⟨hn, hl, g, off, cap, rfl, hnc, hcm, hc⟩
  · obtain rfl : bs = [] := List.eq_nil_of_length_eq_zero h0
    go_enter Try.func74, Try.ntmps74
    go_wp2; go_step3; go_wp2; go_step3; go_wp2
    go_loop [5, 11] (fun n i => n = .int .u64 0 ∧ i = .int .i64 0) (fun n i => 0)
    case atStart => exact ⟨rfl, rfl⟩
    case round =>
      obtain ⟨rfl, rfl⟩ := hrel
      go_wp2
      go_ret3
      exact ⟨rfl, rfl⟩
  · have HC := Lib.hid hc
    have HR := Lib.hid hr
    clear hc hr hl
    go_enter Try.func74, Try.ntmps74
    go_wp2; go_step3; go_wp2; go_step3; go_wp2
    go_loop [5, 11] (fun n i => ∃ (k acc : Nat), k ≤ bs.length ∧ k ≤ 9 ∧ i = .int .i64 k ∧ n = .int .u64 acc ∧ acc < 128 ^ k ∧ getL bs = getGo k acc (bs.drop k)) (fun _ i => bs.length - (intOf i).toNat)
    case atStart => exact ⟨0, 0, by omega, by omega, rfl, rfl, by decide, rfl⟩
    case round =>
      obtain ⟨k, acc, hk, hk9, rfl, rfl, hacc, hL⟩ := hrel
      have HL := Lib.hid hL
      have HA := Lib.hid hacc
      clear hL hacc
      by_cases hlt : k < bs.length
      · have hcell := HC.out k _ (u8s_get bs k hlt)
        have hbl := hb.get k (by decide)
        generalize hbk : bs[k]?.getD 0 = b at *
        have HD := Lib.hid (getGo_drop bs k acc b hlt hbk)
        clear hbk
        by_cases h9 : k = 9
        · subst h9
          by_cases hb1 : 128 ≤ b
          · go_wp2_with (go_at_call 98; refine (last_hi _ _ hbl hb1).mono ?_; rintro e w' ⟨rfl, rfl⟩)
            rw [Exit.noGoto_ret]
            go_ret3
            exact ⟨by rw [HL.out, HD.out, if_pos (by simp; omega)]; rfl, rfl⟩
          · by_cases hb2 : 1 < b
            · go_wp2_with (go_at_call 98; refine (last_mid _ _ (by omega) hb2).mono ?_; rintro e w' ⟨rfl, rfl⟩)
              rw [Exit.noGoto_ret]
              go_ret3
              exact ⟨by rw [HL.out, HD.out, if_neg (by simp; omega), if_pos (by simp; omega)]; rfl, rfl⟩
            · go_wp2_with (go_at_call 98; refine (last_lo _ _ (by omega)).mono ?_; rintro e w' ⟨rfl, rfl⟩)
              rw [Exit.noGoto_ret]
              go_ret3
              exact ⟨by rw [HL.out, HD.out, if_neg (by omega), if_neg (by omega), if_pos (by omega)]; simp only [tup3]; rw [← get_step9 acc b HA.out (by omega)]; rfl, rfl⟩
        · have h9b : ((k : Int) == 9) = false := by simp; omega
          have h10b : ((k : Int) == 10) = false := by simp; omega
          by_cases hb1 : b < 128
          · go_wp2
            go_ret3
            exact ⟨by rw [HL.out, HD.out, if_neg (by omega), if_neg (by omega), if_pos hb1]; simp only [tup3]; rw [← get_step acc b k HA.out (by omega) hbl]; rfl, rfl⟩
          · go_wp2
            go_round
            case rel => exact ⟨k + 1, acc + b % 128 * 128 ^ k, by omega, by omega, by go_num, by rw [get_step acc b k HA.out (by omega) hbl], get_bound _ _ _ HA.out, by rw [HL.out, HD.out, if_neg (by omega), if_neg (by omega), if_neg hb1]⟩
            case measure => simp [intOf]; omega
      · go_wp2
        go_ret3
        exact ⟨by rw [HL.out, getGo_end bs k acc (by omega)]; rfl, rfl⟩
end Go.Proofs.Ytigeedaihbpjiaa
