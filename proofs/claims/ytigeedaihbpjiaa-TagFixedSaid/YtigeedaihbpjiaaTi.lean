/-
  tag: the reference's Fix and Unfix: contracts.
-/
import Derived.Test.YtigeedaihbpjiaaTf
namespace Go.Proofs.Ytigeedaihbpjiaa
open Go.RowKit

theorem div_pow_succ (n j : Nat) : n / 256 ^ (j + 1) = n / 256 ^ j / 256 := by rw [Nat.pow_succ, Nat.div_div_eq_div_mul]
theorem unfix_drop (l : List Nat) (j : Nat) (h : j < l.length) : unfixL (l.drop j) = l[j]?.getD 0 + 256 * unfixL (l.drop (j + 1)) := by
  rw [List.drop_eq_getElem_cons h, unfixL]; simp [h]

set_option maxRecDepth 100000 in
theorem rFix_any (n k : Nat) (w : World) (hn : n < 18446744073709551616) (hk : k ≤ 8) :
    Calls Try.prog 24 #[.int .u64 n, .int .i64 k] w fun e w' => ∃ v, e = .returned v ∧ w'.ownsRow w.heap.size 5 1 v k (u8s (fixL k n)) ∧ Below w.heap.size w w' := by
  obtain ⟨i0, hi, hz0, hz1, hz2⟩ := info_parts Try.info5
  go_enter Try.func24, Try.ntmps24
  go_wp2
  go_loopw [0, 5, 6] (fun v out i wr => ∃ (m j : Nat), j ≤ k ∧ i = .int .i64 j ∧ v = .int .u64 m ∧ Hid (m = n / 256 ^ j) ∧ m < 18446744073709551616 ∧ wr.ownsRow w.heap.size 5 1 out j (u8s (fixL j n)) ∧ Below w.heap.size w wr) (fun _ _ i _ => k - (intOf i).toNat)
  case atStart => exact ⟨n, 0, by omega, rfl, rfl, Lib.hid (by simp), hn, World.ownsRow_nil _ _ _ _, Below.refl _ _⟩
  case round =>
    obtain ⟨m, j, hj, rfl, rfl, HM, hm, hown, hb⟩ := hrel
    have hsz : w.heap.size ≤ wr.heap.size := hb.size
    by_cases hlt : j < k
    · go_wp2_with (at_builtin; go_must (refine wpList_push rfl _ _ 24 rfl w.heap.size 5 i0 (.int .u8 0) 1 1 Try.underlying24 hi hz0 hz1 hz2 rfl (by decide) _ _ _ rfl (hown.alloc _) ⟨wr.heap.size, 0, none⟩ 1 1 [_] rfl rfl (cell_one_new _ _ _) (by simp [Value.oneCell']) (by unfold maxLen; omega) (by omega) (by simp; omega) ?_; intro v' w1 hown' hgrow hfr))
      go_roundw
      case rel => exact ⟨m / 256, j + 1, by omega, by go_num, by go_num, Lib.hid (by rw [div_pow_succ, HM.out]), by omega, by rw [fixL_succ, ← HM.out]; simpa [u8s] using hown', (hb.alloc hsz _).grown hgrow (by simp; omega) (fun j ej => (hown.lt j ej).1)⟩
      case measure => simp [intOf]; try omega
    · obtain rfl : j = k := by omega
      go_wp2
      go_ret
      exact ⟨_, rfl, hown, hb⟩

set_option maxRecDepth 100000 in
theorem rUnfix_any (k : Nat) (bs : List Nat) (v : Value) (w : World) (hk : k = 4 ∨ k = 8) (hl : k ≤ bs.length) (hb : AllLt 256 bs) (hr : RdS w v 1 bs.length (u8s bs)) :
    Calls Try.prog 27 #[v, .int .i64 k] w fun e w' => e = .returned (.int .u64 (unfixL (bs.take k))) ∧ w = w' := by
  rcases hr.cases (by decide) with ⟨h0, _⟩ | ⟨hn, hl', g, off, cap, rfl, hnc, hcm, hc⟩
  · omega
  have HC := Lib.hid hc
  clear hc hr hl'
  have hk8 : k ≤ 8 := by omega
  clear hk
  go_enter Try.func27, Try.ntmps27
  go_wp2
  go_loop [5, 6] (fun n i => ∃ (acc j : Nat), j ≤ k ∧ i = .int .i64 ((j : Int) - 1) ∧ n = .int .u64 acc ∧ Hid (acc = unfixL ((bs.take k).drop j)) ∧ Hid (acc < 256 ^ (k - j))) (fun _ i => (intOf i + 1).toNat)
  case atStart => exact ⟨0, k, by omega, by go_num, rfl, Lib.hid (by simp [unfixL]), Lib.hid (by simp)⟩
  case round =>
    obtain ⟨acc, j, hj, rfl, rfl, HA, HB⟩ := hrel
    cases j with
    | zero =>
      rw [show (bs.take k).drop 0 = bs.take k from rfl] at HA
      rw [show ((0 : Nat) : Int) - 1 = -1 from rfl]
      go_wp2
      go_ret
      exact ⟨by rw [HA.out]; rfl, rfl⟩
    | succ j =>
      have hcell := HC.out j _ (u8s_get bs j (by omega))
      have hbl := hb.get j (by decide)
      have hU := unfix_drop (bs.take k) j (by simp; omega)
      rw [List.getElem?_take_of_lt (by omega)] at hU
      generalize hbk : bs[j]?.getD 0 = b at *
      have hb2 : acc < 72057594037927936 := by
        have := HB.out
        have e : (256 : Nat) ^ (k - (j + 1)) ≤ 256 ^ 7 := Nat.pow_le_pow_right (by decide) (by omega)
        exact Nat.lt_of_lt_of_le this (Nat.le_trans e (by decide))
      have HN : Hid (acc * 256 + b = unfixL ((bs.take k).drop j)) := Lib.hid (by rw [hU, HA.out]; omega)
      have HN2 : Hid (acc * 256 + b < 256 ^ (k - j)) := Lib.hid (by
        have := HB.out
        rw [show k - j = (k - (j + 1)) + 1 by omega, Nat.pow_succ]; omega)
      clear hU hbk
      have ei : ((j + 1 : Nat) : Int) - 1 = (j : Int) := by omega
      rw [ei]
      clear ei
      have hj1 : (j : Int) < (bs.length : Int) := by omega
      go_wp2
      go_round
      case rel => exact ⟨acc * 256 + b, j, by omega, by go_num, by go_num, HN, HN2⟩
      case measure => simp [intOf]; try omega
end Go.Proofs.Ytigeedaihbpjiaa
