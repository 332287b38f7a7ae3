/-
  utf: the laws UtfFirst, UtfChecks: their walks.
-/
import Derived.Test.YtigeedaihbpjiaaUf
namespace Go.Proofs.Ytigeedaihbpjiaa
open Go.RowKit

set_option maxRecDepth 100000 in
set_option maxHeartbeats 1000000 in
theorem UtfFirst_any (s : ByteArray) (w : World) (hs : s.size ≤ 9223372036854775807) :
    Calls Try.prog 5 #[.string s] w fun e w' => e = .returned (.bool true) ∧ Below w.heap.size w w' := by
  by_cases hbig : 1000 < s.size
  · go_enter Try.func5, Try.ntmps5
    go_wp2_with fail
    refine (live03_any _).mono ?_
    rintro e w1 ⟨rfl, hb1⟩
    have hdd : decide ((1000 : Int) < s.size) = true := by simp; omega
    go_wp2
    go_ret
    exact ⟨rfl, hb1⟩
  · have hdd : decide ((1000 : Int) < s.size) = false := by simp; omega
    have HF := Lib.hid (fun w => First_any s w hs)
    have HG := Lib.hid (fun w => rFirst_any s w (by omega))
    have HR := Lib.hid (fun w => Runes_any s w (by omega))
    have HQ := Lib.hid (fun w => rRunes_any s w (by omega))
    have HC := Lib.hid (fun w => Count_any s w (by omega))
    have HS := Lib.hid (fun v v' w => rSame_true v v' (natsI (runesX (bsN s))) w)
    by_cases hf : firstX 0 (bsN s) < 0
    · have hr : runesR (bsN s) = (natsI (runesX (bsN s)), 0, 0) := by unfold runesR; rw [if_pos hf]
      have hc : countN (bsN s) = ((natsI (runesX (bsN s))).length : Nat) := by unfold countN; rw [if_pos hf, natsI_len]
      rw [hr] at HR
      rw [hc] at HC
      have HQ1 := Lib.hid (fun w => HQ.out w hf)
      have hd0 : decide (0 ≤ firstX 0 (bsN s)) = false := by simp; omega
      clear HQ hr hc hf
      generalize natsI (runesX (bsN s)) = rs at *
      generalize firstX 0 (bsN s) = f at *
      dsimp only at HR
      go_enter Try.func5, Try.ntmps5
      go_wp2_with fail
      refine (live03_any _).mono ?_
      rintro e w1 ⟨rfl, hb1⟩
      go_wp2_with fail
      refine (HG.out _).mono ?_
      rintro e w' ⟨rfl, rfl⟩
      go_wp2_with fail
      refine (HF.out _).mono ?_
      rintro e w2 ⟨rfl, hb2⟩
      go_wp2_with fail
      refine (HR.out _).mono ?_
      rintro e w3 ⟨v3, rfl, ho3, hb3⟩
      obtain ⟨a3, c3, rfl⟩ := (RdS.of_owns ho3).form
      have hA : Below w3.heap.size w3 (w3.alloc (Obj.cells #[.int .i64 0, .int .i64 0] 34)) := (Below.refl _ _).alloc (Nat.le_refl _) _
      have HR3 := Lib.hid ((RdS.of_owns ho3).below hA)
      have hd3 : (w3.alloc (Obj.cells #[.int .i64 0, .int .i64 0] 34)).heap[w3.heap.size]? = some (.cells #[.int .i64 0, .int .i64 0] 34 (0, 0)) := World.alloc_heap_new w3 _
      obtain ⟨q0, q1, _, _⟩ := cells2 hd3
      have hbw := bthen (bthen (bthen hb1 (Nat.le_refl _) hb2) (Nat.le_refl _) hb3) (Nat.le_refl _) hA
      clear ho3 hd3 hA hb1 hb2 hb3
      go_wp2_with fail
      refine (HQ1.out _).mono ?_
      rintro e w4 ⟨v4, rfl, ho4, hb4⟩
      have HR4 := Lib.hid (RdS.of_owns ho4)
      obtain ⟨a4, c4, rfl⟩ := (RdS.of_owns ho4).form
      have HR34 := Lib.hid (HR3.out.below hb4)
      have hbw4 := bthen hbw (Nat.le_refl _) hb4
      clear ho4 hb4 hbw
      go_wp2_with fail
      refine (HS.out _ _ _ HR34.out HR4.out).mono ?_
      rintro e w5 ⟨rfl, hb5⟩
      have hbw5 := bthen hbw4 (Nat.le_refl _) hb5
      clear hb5 hbw4
      go_wp2_with fail
      refine (HC.out _).mono ?_
      rintro e w6 ⟨rfl, hb6⟩
      have hbw6 := bthen hbw5 (Nat.le_refl _) hb6
      clear hb6 hbw5
      go_wp2
      go_ret
      exact ⟨by simp, hbw6⟩
    · have hr : runesR (bsN s) = ([], 9, firstX 0 (bsN s)) := by unfold runesR; rw [if_neg hf]
      have hc : countN (bsN s) = -1 := by unfold countN; rw [if_neg hf]
      rw [hr] at HR
      rw [hc] at HC
      have hd0 : decide (0 ≤ firstX 0 (bsN s)) = true := by simp; omega
      clear HQ HS hr hc hf
      generalize firstX 0 (bsN s) = f at *
      dsimp only at HR
      go_enter Try.func5, Try.ntmps5
      go_wp2_with fail
      refine (live03_any _).mono ?_
      rintro e w1 ⟨rfl, hb1⟩
      go_wp2_with fail
      refine (HG.out _).mono ?_
      rintro e w' ⟨rfl, rfl⟩
      go_wp2_with fail
      refine (HF.out _).mono ?_
      rintro e w2 ⟨rfl, hb2⟩
      go_wp2_with fail
      refine (HR.out _).mono ?_
      rintro e w3 ⟨v3, rfl, ho3, hb3⟩
      obtain ⟨a3, c3, hv3⟩ := (RdS.of_owns ho3).form
      have hv3' : v3 = .slice a3 0 c3 := hv3
      subst hv3'
      have hA : Below w3.heap.size w3 (w3.alloc (Obj.cells #[.int .i64 9, .int .i64 f] 34)) := (Below.refl _ _).alloc (Nat.le_refl _) _
      have hd3 : (w3.alloc (Obj.cells #[.int .i64 9, .int .i64 f] 34)).heap[w3.heap.size]? = some (.cells #[.int .i64 9, .int .i64 f] 34 (0, 0)) := World.alloc_heap_new w3 _
      obtain ⟨q0, q1, _, _⟩ := cells2 hd3
      have hbw := bthen (bthen (bthen hb1 (Nat.le_refl _) hb2) (Nat.le_refl _) hb3) (Nat.le_refl _) hA
      clear ho3 hd3 hA hb1 hb2 hb3 hv3
      go_wp2_with fail
      refine (HC.out _).mono ?_
      rintro e w6 ⟨rfl, hb6⟩
      have hbw6 := bthen hbw (Nat.le_refl _) hb6
      clear hb6 hbw
      go_wp2
      go_ret
      exact ⟨by simp, hbw6⟩

set_option maxRecDepth 100000 in
set_option maxHeartbeats 1000000 in
theorem UtfChecks_any (s : ByteArray) (most : Int) (w : World) (hs : s.size ≤ 9223372036854775807) (_ : -9223372036854775808 ≤ most) (_ : most ≤ 9223372036854775807) :
    Calls Try.prog 8 #[.string s, .int .i64 most] w fun e w' => e = .returned (.bool true) ∧ Below w.heap.size w w' := by
  by_cases hbig : 1000 < s.size
  · go_enter Try.func8, Try.ntmps8
    go_wp2_with fail
    refine (live03_any _).mono ?_
    rintro e w1 ⟨rfl, hb1⟩
    have hdd : decide ((1000 : Int) < s.size) = true := by simp; omega
    go_wp2
    go_ret
    exact ⟨rfl, hb1⟩
  · have hdd : decide ((1000 : Int) < s.size) = false := by simp; omega
    have HF := Lib.hid (fun w => Check_any s most w hs)
    have HG := Lib.hid (fun w => rCheck_any s most w (by omega))
    have HP := Lib.hid (fun w => Plain_any s w hs)
    generalize checkN (bsN s) most = c at *
    go_enter Try.func8, Try.ntmps8
    go_wp2_with fail
    refine (live03_any _).mono ?_
    rintro e w1 ⟨rfl, hb1⟩
    go_wp2
    go_loop [5, 6] (fun p i => ∃ k : Nat, k ≤ s.size ∧ i = .int .i64 k ∧ p = .bool (plainB ((bsN s).take k))) (fun _ i => s.size - (intOf i).toNat)
    case atStart => exact ⟨0, by omega, rfl, by simp [plainB]⟩
    case round =>
      obtain ⟨k, hk, rfl, rfl⟩ := hrel
      by_cases hlt : k < s.size
      · have HS := Lib.hid (plain_take (bsN s) k (by rw [bsN_len]; exact hlt))
        rw [← byte_at s k hlt] at HS
        cases hp : plainB ((bsN s).take k) with
        | false =>
          have HN : Hid (plainB ((bsN s).take (k + 1)) = false) := Lib.hid (by rw [HS.out, hp]; rfl)
          clear hp
          go_wp2
          go_round
          case rel => exact ⟨k + 1, by omega, by go_num, by rw [HN.out]⟩
          case measure => simp [intOf]; omega
        | true =>
          rw [hp] at HS
          have h256 : s[k].toNat < 256 := s[k].toNat_lt
          clear hp
          by_cases h1 : 32 ≤ s[k].toNat
          · have d1 : decide ((32 : Int) ≤ (s[k].toNat : Int)) = true := by simp; omega
            by_cases h2 : s[k].toNat ≤ 126
            · have d2 : decide ((s[k].toNat : Int) ≤ 126) = true := by simp; omega
              have HN : Hid (plainB ((bsN s).take (k + 1)) = true) := Lib.hid (by rw [HS.out]; simp; omega)
              go_wp2
              go_round
              case rel => exact ⟨k + 1, by omega, by go_num, by rw [HN.out]⟩
              case measure => simp [intOf]; omega
            · have d2 : decide ((s[k].toNat : Int) ≤ 126) = false := by simp; omega
              have HN : Hid (plainB ((bsN s).take (k + 1)) = false) := Lib.hid (by rw [HS.out]; simp; omega)
              go_wp2
              go_round
              case rel => exact ⟨k + 1, by omega, by go_num, by rw [HN.out]⟩
              case measure => simp [intOf]; omega
          · have d1 : decide ((32 : Int) ≤ (s[k].toNat : Int)) = false := by simp; omega
            have HN : Hid (plainB ((bsN s).take (k + 1)) = false) := Lib.hid (by rw [HS.out]; simp; omega)
            go_wp2
            go_round
            case rel => exact ⟨k + 1, by omega, by go_num, by rw [HN.out]⟩
            case measure => simp [intOf]; omega
      · have hkl : (bsN s).take k = bsN s := List.take_of_length_le (by rw [bsN_len]; omega)
        rw [hkl]
        clear hkl
        go_wp2_with fail
        refine (HF.out _).mono ?_
        rintro e w2 ⟨rfl, hb2⟩
        go_wp2_with fail
        refine (HG.out _).mono ?_
        rintro e w' ⟨rfl, rfl⟩
        go_wp2_with fail
        refine (HP.out _).mono ?_
        rintro e w' ⟨rfl, rfl⟩
        go_wp2
        go_ret
        exact ⟨by simp, bthen hb1 (Nat.le_refl _) hb2⟩
end Go.Proofs.Ytigeedaihbpjiaa
