/-
  GraphOrders: the law's walk.
-/
import Derived.Test.YtigeedaihbpjiaaGl
import Derived.Test.YtigeedaihbpjiaaOg
namespace Go.Proofs.Ytigeedaihbpjiaa
open Go.RowKit

theorem rnd_has (rows : List (List Int)) (k : Nat) : rndB rows k = !hasB ((ordO rows).map Int.ofNat) (k : Int) := by
  unfold rndB hasB
  congr 1
  rw [Bool.eq_iff_iff]
  simp only [decide_eq_true_eq, List.contains_iff_mem]
  exact mem_ofNat.symm

set_option maxRecDepth 100000 in
set_option maxHeartbeats 1000000 in
theorem GraphOrders_any (rows : List (List Int)) (v : Value) (w : World) (hr : Rows2 w v rows) :
    Calls Try.prog 12 #[v] w fun e w' => e = .returned (.bool true) ∧ Below w.heap.size w w' := by
  obtain ⟨i0, hi, hz0, hz1, hz2⟩ := info_parts Try.info_i64g
  have HR := Lib.hid hr
  obtain ⟨a, cap, rfl⟩ := hr.form
  clear hr
  go_enter Try.func12, Try.ntmps12
  go_wp2_with fail
  refine (live26_any _).mono ?_
  rintro e w1 ⟨rfl, hb1⟩
  go_wp2_with fail
  refine (Small_any rows _ _ (HR.out.below hb1)).mono ?_
  rintro e w2 ⟨rfl, rfl⟩
  by_cases hsm : smallB rows = true
  · obtain ⟨hlen, _⟩ := small_all hsm
    rw [hsm]
    go_wp2_with fail
    refine (Order_any rows _ _ (HR.out.below hb1) (by omega)).mono ?_
    rintro e w2 ⟨vo, rfl, ho, hb2⟩
    have HO := Lib.hid (RdS.of_owns ho)
    have HB2 := Lib.hid (bthen hb1 (Nat.le_refl _) hb2)
    clear ho hb2 hb1
    go_wp2_with fail
    refine (rOrder_any rows _ _ (HR.out.below HB2.out) (by omega)).mono ?_
    rintro e w3 ⟨vw, rfl, hw, hb3⟩
    have HO3 := Lib.hid (HO.out.below hb3)
    have HW3 := Lib.hid (RdS.of_owns hw)
    have HB3 := Lib.hid (bthen HB2.out (Nat.le_refl _) hb3)
    clear hw hb3 HO
    have hol := ordO_len rows
    have HS : Hid (∀ W, RdS W vo 1 (ordO rows).length (natI (ordO rows)) → RdS W vw 1 (ordO rows).length (natI (ordO rows)) → Calls Try.prog 63 #[vo, vw] W fun e w' => e = .returned (.bool true) ∧ Below W.heap.size W w') := Lib.hid (fun W h1 h2 => by
      have := gSame_true vo vw ((ordO rows).map Int.ofNat) W (by rw [← natI_ints, List.length_map]; exact h1) (by rw [← natI_ints, List.length_map]; exact h2)
      exact this)
    obtain ⟨wa, wc, rfl⟩ := HW3.out.form
    obtain ⟨hc1, hc2⟩ : (ordO rows).length ≤ wc ∧ wc ≤ 9223372036854775807 := by
      obtain ⟨_, a', c', he, h1, h2, _⟩ := HW3.out
      injection he with _ _ e3; subst e3; unfold maxLen at h2; exact ⟨h1, h2⟩
    go_wp2_with fail
    refine (HS.out _ HO3.out HW3.out).mono ?_
    rintro e w4 ⟨rfl, hb4⟩
    have HW4 := Lib.hid (HW3.out.below hb4)
    have HB4 := Lib.hid (bthen HB3.out (Nat.le_refl _) hb4)
    clear hb4
    have HG : Hid (∀ W, Below w4.heap.size w4 W → ∀ k : Nat, Calls Try.prog 64 #[.slice wa (ordO rows).length wc, .int .i64 k] W fun e w' => e = .returned (.bool (hasB ((ordO rows).map Int.ofNat) k)) ∧ W = w') := Lib.hid (fun W hW k => Has_any _ k _ W (by rw [← natI_ints, List.length_map]; exact HW4.out.below hW))
    have HND : Hid (∀ W, Below w4.heap.size w4 W → Calls Try.prog 65 #[.slice a rows.length cap] W fun e w' => ∃ v', e = .returned v' ∧ w'.ownsRow W.heap.size 3 1 v' (rndL rows rows.length).length (ints .i64 (rndL rows rows.length)) ∧ Below W.heap.size W w') := Lib.hid (fun W hW => Round_any rows _ W (HR.out.below (bthen HB4.out (Nat.le_refl _) hW)) (by omega))
    have heq : ((ordO rows).length : Int) = (rows.length : Int) ∨ ¬ ((ordO rows).length : Int) = (rows.length : Int) := Classical.em _
    clear HS HO3 HW3 HR HB2 HB3
    have fin : ∀ (c : Bool), decide ((ordO rows).length = rows.length) = c → (((ordO rows).length : Int) == (rows.length : Int)) = c := by
      intro c hc
      rw [← hc, Bool.eq_iff_iff]; simp; try omega
    obtain ⟨c, hc⟩ : ∃ c, decide ((ordO rows).length = rows.length) = c := ⟨_, rfl⟩
    have hcc := fin c hc
    rw [hc]
    clear fin heq hc
    generalize (ordO rows).length = m at *
    cases c
    all_goals
      go_wp2
      go_loopw [6, 7] (fun out i wr => ∃ k : Nat, k ≤ rows.length ∧ i = .int .i64 k ∧ wr.ownsRow w4.heap.size 3 1 out (rndL rows k).length (ints .i64 (rndL rows k)) ∧ Below w4.heap.size w4 wr) (fun _ i _ => rows.length - (intOf i).toNat)
      case atStart => exact ⟨0, by omega, rfl, by simpa [rndL, ints] using World.ownsRow_nil w4 w4.heap.size 3 1, Below.refl _ _⟩
      case round =>
        obtain ⟨k, hk, rfl, hown, hb⟩ := hrel
        by_cases hlt : k < rows.length
        · have hlt' : (k : Int) < rows.length := by omega
          have hlk := rndL_len rows k
          have HC := Lib.hid (HG.out wr hb k)
          have HYES := Lib.hid (rndL_yes (rows := rows) (k := k))
          have HNO := Lib.hid (rndL_no (rows := rows) (k := k))
          have HBD := Lib.hid (rnd_has rows k)
          generalize hasB ((ordO rows).map Int.ofNat) (k : Int) = h at *
          cases h with
          | true =>
            have HK := Lib.hid (HNO.out (by rw [HBD.out]; rfl))
            go_wp2_with fail
            refine HC.out.mono ?_
            rintro e w5 ⟨rfl, rfl⟩
            go_wp2
            go_roundw
            case rel => exact ⟨k + 1, by omega, by go_num, by rw [HK.out]; exact hown, hb⟩
            case measure => simp [intOf]; omega
          | false =>
            have HK := Lib.hid (HYES.out (by rw [HBD.out]; rfl))
            go_wp2_with fail
            refine HC.out.mono ?_
            rintro e w5 ⟨rfl, rfl⟩
            go_wp2_with (at_builtin; go_must (refine wpList_push rfl _ _ 104 rfl w4.heap.size 3 i0 (.int .i64 0) 1 8 Try.underlying104 hi hz0 hz1 hz2 rfl (by decide) _ _ _ rfl (hown.alloc _) ⟨wr.heap.size, 0, none⟩ 1 1 [_] rfl rfl (cell_one_new _ _ _) (by simp [Value.oneCell']) (by unfold maxLen; omega) (by omega) (by have := hb.size; simp; omega) ?_; intro v' w5 hown' hgrow hfr))
            have hgrow : (wr.alloc _).grownBy w5 u6.ownBlock := hgrow
            go_roundw
            case rel => exact ⟨k + 1, by omega, by go_num, by rw [HK.out]; simpa [ints] using hown', below_push hb (by have := hb.size; omega) hown (Nat.le_refl _) hgrow⟩
            case measure => simp [intOf]; omega
        · have hkl : k = rows.length := by omega
          subst hkl
          have HL := Lib.hid (RdS.of_owns hown)
          go_wp2_with fail
          refine (HND.out _ hb).mono ?_
          rintro e w5 ⟨v5, rfl, h5, hb5⟩
          have H5 := Lib.hid (RdS.of_owns h5)
          have HL5 := Lib.hid (HL.out.below hb5)
          have HB5 := Lib.hid (bthen hb (Nat.le_refl _) hb5)
          clear h5 hb5
          go_wp2_with fail
          refine (gSame_true _ _ _ _ H5.out HL5.out).mono ?_
          rintro e w6 ⟨rfl, hb6⟩
          go_wp2
          go_ret
          exact ⟨rfl, bthen HB4.out (Nat.le_refl _) (bthen HB5.out (Nat.le_refl _) hb6)⟩
  · have hsf : smallB rows = false := by simpa using hsm
    rw [hsf]
    go_wp2
    go_ret
    exact ⟨rfl, hb1⟩
end Go.Proofs.Ytigeedaihbpjiaa
