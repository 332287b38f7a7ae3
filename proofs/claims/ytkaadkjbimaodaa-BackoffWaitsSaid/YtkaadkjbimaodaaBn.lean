/-
  The law BackoffWaits: its walk.
-/
import Derived.Test.YtkaadkjbimaodaaBo
import Derived.Test.YtkaadkjbimaodaaHw
namespace Go.Proofs.Ytkaadkjbimaodaa
open Go.RowKit
attribute [local go_sem ↓] Go.wp_at_zero Go.wp_at_succ

set_option maxRecDepth 100000 in
set_option maxHeartbeats 2000000 in
theorem BackoffWaits_any (m f k t : Int) (w : World) (ht1 : -9223372036854775808 ≤ t) (ht2 : t ≤ 9223372036854775807) :
    Calls Try.prog 3 #[retryV m f k, .int .i64 t] w fun e w' => e = .returned (.bool true) ∧ Below w.heap.size w w' := by
  have hmx := @run_max2 Try.prog
  have hn9 := wN_le m
  have hMr := bMost_range m
  have hWN : max (bMost m - 1) 0 = (wN m : Int) := by unfold wN; omega
  have hmore : moreB m t = (decide (1 ≤ t) && decide (t < bMost m)) := by unfold moreB; by_cases h1 : 1 ≤ t <;> by_cases h2 : t < bMost m <;> simp [h1, h2]
  have HW := Lib.hid (fun w => Waits_any m f k w)
  have HM := Lib.hid (fun w => rMeant_any m f k w)
  have HX := Lib.hid (fun w => More_any m f k t w)
  have HT := Lib.hid (fun w => Total_any m f k w)
  have HRT := Lib.hid (fun w => rTotal_any m f k w)
  have HWT := Lib.hid (fun w => Wait_any m f k t w)
  have HRW := Lib.hid (fun w => rWait_any m f k t w)
  have HRI := Lib.hid (fun w t => rWait_any m f k t w)
  rw [hmore] at HX
  generalize hMo : bMost m = Mo at *
  generalize hN : wN m = N at *
  clear hMo hN hmore
  have HWN := Lib.hid hWN
  clear hWN
  unfold retryV at HW HM HX HT HRT HWT HRW HRI ⊢
  go_enter Try.func3, Try.ntmps3
  go_wp2_with fail
  refine (live29_any _).mono ?_
  rintro e w1 ⟨rfl, hb1⟩
  have hbx1 : Boxed3 w1 w.heap.size m f k := boxed3_below (World.alloc_heap_new w _) hb1
  have hB := ((Below.refl _ w).alloc (Nat.le_refl _) _).trans (hb1.mono (by simp))
  clear hb1
  obtain ⟨q0, q1, q2, _⟩ := cells3h hbx1
  by_cases hbig : 1000000 < t
  · have hd : decide (1000000 < t) = true := by simpa using hbig
    go_wp2
    go_ret
    exact ⟨rfl, hB⟩
  have hd : decide (1000000 < t) = false := by simpa using hbig
  go_wp2_with fail
  refine (HW.out _).mono ?_
  rintro e w2 ⟨v, rfl, ho, hb2⟩
  have hbx2 := boxed3_below hbx1 hb2
  have hB := bthen hB (Nat.le_refl _) hb2
  clear q0 q1 q2 hb2 hbx1
  obtain ⟨q0, q1, q2, _⟩ := cells3h hbx2
  have HO := Lib.hid (RdS.of_owns ho)
  obtain ⟨va, vc, rfl⟩ := (RdS.of_owns ho).form
  clear ho
  go_wp2_with fail
  refine (HM.out _).mono ?_
  rintro e w3 ⟨rfl, hb3⟩
  have hbx3 := boxed3_below hbx2 hb3
  have hB := bthen hB (Nat.le_refl _) hb3
  have hr3 := HO.out.below hb3
  clear q0 q1 q2 hb3 hbx2 HO
  go_upto_region 7 with fail
  have hbx4 : Boxed3 (w3.alloc (Obj.cells #[.int .i64 Mo, .int .i64 (max f 0), .int .i64 (max (or0 k 1) 0)] 23)) w.heap.size m f k := (Below.heap_alloc _ _ _ (Array.getElem?_eq_some_iff.1 hbx3).1).trans hbx3
  have hbm4 : Boxed3 (w3.alloc (Obj.cells #[.int .i64 Mo, .int .i64 (max f 0), .int .i64 (max (or0 k 1) 0)] 23)) w3.heap.size Mo (max f 0) (max (or0 k 1) 0) := World.alloc_heap_new w3 _
  have hr4 := hr3.below ((Below.refl w3.heap.size w3).alloc (Nat.le_refl _) (Obj.cells #[.int .i64 Mo, .int .i64 (max f 0), .int .i64 (max (or0 k 1) 0)] 23))
  have hB4 := hB.alloc hB.size (Obj.cells #[.int .i64 Mo, .int .i64 (max f 0), .int .i64 (max (or0 k 1) 0)] 23)
  generalize w3.heap.size = mb at *
  generalize (w3.alloc (Obj.cells #[.int .i64 Mo, .int .i64 (max f 0), .int .i64 (max (or0 k 1) 0)] 23)) = w4 at *
  obtain ⟨p0, p1, p2, _⟩ := cells3h hbm4
  obtain ⟨q0, q1, q2, _⟩ := cells3h hbx4
  have HX4 := Lib.hid hbx4
  have HR4 := Lib.hid hr4
  clear hr3 hbx3 hbm4 hbx4 hr4 hB
  have hw1 : IntKind.i64.wrap (Mo - 1) = Mo - 1 := IntWalk.i64_in _ (by omega)
  have hw2 := HWN.out
  go_cut [43] (fun s wx => s = .bool false ∧ Below w4.heap.size w4 wx)
  case first =>
    have hcs : (decide (1 ≤ t) = true ∧ decide (t < Mo) = true) ∨ (decide (1 ≤ t) = true ∧ decide (t < Mo) = false) ∨ decide (1 ≤ t) = false := by
      by_cases h1 : 1 ≤ t <;> by_cases h2 : t < Mo <;> simp [h1, h2]
    rcases hcs with ⟨hc1, hc2⟩ | ⟨hc1, hc2⟩ | hc1
    · rw [hc1, hc2, Bool.true_and] at HX
      first | go_region_held3 (fun w' => Below w4.heap.size w4 w' ∧ w'.cell? ⟨w.heap.size, 0, none⟩ = some (.int .i64 m) ∧ w'.cell? ⟨w.heap.size, 1, none⟩ = some (.int .i64 f) ∧ w'.cell? ⟨w.heap.size, 2, none⟩ = some (.int .i64 k) ∧ w'.cell? ⟨mb, 0, none⟩ = some (.int .i64 Mo))
        (first | assumption | exact ⟨(Below.refl _ _).drew, q0, q1, q2, p0⟩ | exact held4 (by assumption) (by assumption)) (first
          | (go_at_call 18; refine (HX.out _).mono ?_; rintro e w7 ⟨rfl, hb7⟩)
          | (go_at_call 19; refine (HT.out _).mono ?_; rintro e w7 ⟨rfl, hb7⟩)
          | (go_at_call 20; refine (HRT.out _).mono ?_; rintro e w7 ⟨rfl, hb7⟩)) | fail
      go_wp2_with fail
      go_meet
      rename_i hS
      exact ⟨by first | rfl | simp [hc1], hS.1⟩
    · rw [hc1, hc2, Bool.true_and] at HX
      first | go_region_held3 (fun w' => Below w4.heap.size w4 w' ∧ w'.cell? ⟨w.heap.size, 0, none⟩ = some (.int .i64 m) ∧ w'.cell? ⟨w.heap.size, 1, none⟩ = some (.int .i64 f) ∧ w'.cell? ⟨w.heap.size, 2, none⟩ = some (.int .i64 k) ∧ w'.cell? ⟨mb, 0, none⟩ = some (.int .i64 Mo))
        (first | assumption | exact ⟨(Below.refl _ _).drew, q0, q1, q2, p0⟩ | exact held4 (by assumption) (by assumption)) (first
          | (go_at_call 18; refine (HX.out _).mono ?_; rintro e w7 ⟨rfl, hb7⟩)
          | (go_at_call 19; refine (HT.out _).mono ?_; rintro e w7 ⟨rfl, hb7⟩)
          | (go_at_call 20; refine (HRT.out _).mono ?_; rintro e w7 ⟨rfl, hb7⟩)) | fail
      go_wp2_with fail
      go_meet
      rename_i hS
      exact ⟨by first | rfl | simp [hc1], hS.1⟩
    · rw [hc1, Bool.false_and] at HX
      refine held_region (S := (fun w' => Below w4.heap.size w4 w' ∧ w'.cell? ⟨w.heap.size, 0, none⟩ = some (.int .i64 m) ∧ w'.cell? ⟨w.heap.size, 1, none⟩ = some (.int .i64 f) ∧ w'.cell? ⟨w.heap.size, 2, none⟩ = some (.int .i64 k) ∧ w'.cell? ⟨mb, 0, none⟩ = some (.int .i64 Mo))) (by kernel_rfl) ⟨(Below.refl _ _).drew, q0, q1, q2, p0⟩ (fun _ _ _ _ _ h => h) (fun Q' hQ hK' hHeld => ?_)
      refine held_take hQ hHeld 0 (v := ?vv1) rfl rfl (by kernel_rfl) (by kernel_rfl) (by kernel_rfl) (by rfl) ?hy1 ?rest1
      case hy1 => (intro w hSw; (try dsimp only at hSw); go_simp; (try with_reducible rfl))
      (try simp only [Act.put, List.setIfInBounds_toArray, List.set_cons_zero, List.set_cons_succ])
      refine held_take hQ hHeld 1 (v := ?vv2) rfl rfl (by kernel_rfl) (by kernel_rfl) (by kernel_rfl) (by rfl) ?hy2 ?rest2
      case hy2 => (intro w hSw; (try dsimp only at hSw); go_simp; (try with_reducible rfl))
      (try simp only [Act.put, List.setIfInBounds_toArray, List.set_cons_zero, List.set_cons_succ])
      refine held_take hQ hHeld 2 (v := ?vv3) rfl rfl (by kernel_rfl) (by kernel_rfl) (by kernel_rfl) (by rfl) ?hy3 ?rest3
      case hy3 => (intro w hSw; (try dsimp only at hSw); go_simp; (try with_reducible rfl))
      (try simp only [Act.put, List.setIfInBounds_toArray, List.set_cons_zero, List.set_cons_succ])
      refine held_take hQ hHeld 3 (v := ?vv4) rfl rfl (by kernel_rfl) (by kernel_rfl) (by kernel_rfl) (by rfl) ?hy4 ?rest4
      case hy4 => (intro w hSw; (try dsimp only at hSw); go_simp; (try with_reducible rfl))
      (try simp only [Act.put, List.setIfInBounds_toArray, List.set_cons_zero, List.set_cons_succ])
      refine held_take hQ hHeld 4 (v := ?vv5) rfl rfl (by kernel_rfl) (by kernel_rfl) (by kernel_rfl) (by rfl) ?hy5 ?rest5
      case hy5 => (intro w hSw; (try dsimp only at hSw); go_simp; (try with_reducible rfl))
      (try simp only [Act.put, List.setIfInBounds_toArray, List.set_cons_zero, List.set_cons_succ])
      refine held_take hQ hHeld 5 (v := ?vv6) rfl rfl (by kernel_rfl) (by kernel_rfl) (by kernel_rfl) (by rfl) ?hy6 ?rest6
      case hy6 => (intro w hSw; (try dsimp only at hSw); go_simp; (try with_reducible rfl))
      (try simp only [Act.put, List.setIfInBounds_toArray, List.set_cons_zero, List.set_cons_succ])
      refine held_take hQ hHeld 6 (v := ?vv7) rfl rfl (by kernel_rfl) (by kernel_rfl) (by kernel_rfl) (by rfl) ?hy7 ?rest7
      case hy7 => (intro w hSw; (try dsimp only at hSw); go_simp; (try with_reducible rfl))
      (try simp only [Act.put, List.setIfInBounds_toArray, List.set_cons_zero, List.set_cons_succ])
      refine held_take hQ hHeld 7 (v := ?vv8) rfl rfl (by kernel_rfl) (by kernel_rfl) (by kernel_rfl) (by rfl) ?hy8 ?rest8
      case hy8 => (intro w hSw; (try dsimp only at hSw); go_simp; (try with_reducible rfl))
      (try simp only [Act.put, List.setIfInBounds_toArray, List.set_cons_zero, List.set_cons_succ])
      refine held_take hQ hHeld 8 (v := ?vv9) rfl rfl (by kernel_rfl) (by kernel_rfl) (by kernel_rfl) (by rfl) ?hy9 ?rest9
      case hy9 => (intro w hSw; (try dsimp only at hSw); go_simp; (try with_reducible rfl))
      (try simp only [Act.put, List.setIfInBounds_toArray, List.set_cons_zero, List.set_cons_succ])
      refine held_take hQ hHeld 9 (v := ?vv10) rfl rfl (by kernel_rfl) (by kernel_rfl) (by kernel_rfl) (by rfl) ?hy10 ?rest10
      case hy10 => (intro w hSw; (try dsimp only at hSw); go_simp; (try with_reducible rfl))
      (try simp only [Act.put, List.setIfInBounds_toArray, List.set_cons_zero, List.set_cons_succ])
      refine held_take hQ hHeld 11 (v := ?vv11) rfl rfl (by kernel_rfl) (by kernel_rfl) (by kernel_rfl) (by rfl) ?hy11 ?rest11
      case hy11 => (intro w hSw; (try dsimp only at hSw); go_simp; (try with_reducible rfl))
      (try simp only [Act.put, List.setIfInBounds_toArray, List.set_cons_zero, List.set_cons_succ])
      refine held_take hQ hHeld 12 (v := ?vv12) rfl rfl (by kernel_rfl) (by kernel_rfl) (by kernel_rfl) (by rfl) ?hy12 ?rest12
      case hy12 => (intro w hSw; (try dsimp only at hSw); go_simp; (try with_reducible rfl))
      (try simp only [Act.put, List.setIfInBounds_toArray, List.set_cons_zero, List.set_cons_succ])
      refine wpAnyH_ready (rs := [10]) (by kernel_rfl) (by simp) ?_
      refine AllReadyH.cons rfl (fun K hK => ?_) AllReadyH.nil
      go_simp
      (go_at_call 18; refine (HX.out _).mono ?_; rintro e w7 ⟨rfl, hb7⟩)
      (try simp only [Act.put, List.setIfInBounds_toArray, List.set_cons_zero, List.set_cons_succ])
      refine hK.out _ _ (held4 hHeld hb7) (fun hHeld => ?_)
      clear hK hb7
      (try simp only [Act.put, List.setIfInBounds_toArray, List.set_cons_zero, List.set_cons_succ])
      refine held_take hQ hHeld 13 (v := ?vv13) rfl rfl (by kernel_rfl) (by kernel_rfl) (by kernel_rfl) (by rfl) ?hy13 ?rest13
      case hy13 => (intro w hSw; (try dsimp only at hSw); go_simp; (try with_reducible rfl))
      (try simp only [Act.put, List.setIfInBounds_toArray, List.set_cons_zero, List.set_cons_succ])
      refine held_off hQ hHeld 14 rfl rfl (by kernel_rfl) (by kernel_rfl) (by kernel_rfl) (by rfl) ?_
      (try simp only [Act.put, List.setIfInBounds_toArray, List.set_cons_zero, List.set_cons_succ])
      refine held_off hQ hHeld 15 rfl rfl (by kernel_rfl) (by kernel_rfl) (by kernel_rfl) (by rfl) ?_
      (try simp only [Act.put, List.setIfInBounds_toArray, List.set_cons_zero, List.set_cons_succ])
      refine held_off hQ hHeld 16 rfl rfl (by kernel_rfl) (by kernel_rfl) (by kernel_rfl) (by rfl) ?_
      (try simp only [Act.put, List.setIfInBounds_toArray, List.set_cons_zero, List.set_cons_succ])
      refine held_off hQ hHeld 17 rfl rfl (by kernel_rfl) (by kernel_rfl) (by kernel_rfl) (by rfl) ?_
      (try simp only [Act.put, List.setIfInBounds_toArray, List.set_cons_zero, List.set_cons_succ])
      refine held_take hQ hHeld 18 (v := ?vv14) rfl rfl (by kernel_rfl) (by kernel_rfl) (by kernel_rfl) (by rfl) ?hy14 ?rest14
      case hy14 => (intro w hSw; (try dsimp only at hSw); go_simp; (try with_reducible rfl))
      (try simp only [Act.put, List.setIfInBounds_toArray, List.set_cons_zero, List.set_cons_succ])
      refine held_take hQ hHeld 19 (v := ?vv15) rfl rfl (by kernel_rfl) (by kernel_rfl) (by kernel_rfl) (by rfl) ?hy15 ?rest15
      case hy15 => (intro w hSw; (try dsimp only at hSw); go_simp; (try with_reducible rfl))
      (try simp only [Act.put, List.setIfInBounds_toArray, List.set_cons_zero, List.set_cons_succ])
      refine held_take hQ hHeld 20 (v := ?vv16) rfl rfl (by kernel_rfl) (by kernel_rfl) (by kernel_rfl) (by rfl) ?hy16 ?rest16
      case hy16 => (intro w hSw; (try dsimp only at hSw); go_simp; (try with_reducible rfl))
      (try simp only [Act.put, List.setIfInBounds_toArray, List.set_cons_zero, List.set_cons_succ])
      refine held_take hQ hHeld 21 (v := ?vv17) rfl rfl (by kernel_rfl) (by kernel_rfl) (by kernel_rfl) (by rfl) ?hy17 ?rest17
      case hy17 => (intro w hSw; (try dsimp only at hSw); go_simp; (try with_reducible rfl))
      (try simp only [Act.put, List.setIfInBounds_toArray, List.set_cons_zero, List.set_cons_succ])
      refine held_take hQ hHeld 22 (v := ?vv18) rfl rfl (by kernel_rfl) (by kernel_rfl) (by kernel_rfl) (by rfl) ?hy18 ?rest18
      case hy18 => (intro w hSw; (try dsimp only at hSw); go_simp; (try with_reducible rfl))
      (try simp only [Act.put, List.setIfInBounds_toArray, List.set_cons_zero, List.set_cons_succ])
      refine held_take hQ hHeld 24 (v := ?vv19) rfl rfl (by kernel_rfl) (by kernel_rfl) (by kernel_rfl) (by rfl) ?hy19 ?rest19
      case hy19 => (intro w hSw; (try dsimp only at hSw); go_simp; (try with_reducible rfl))
      (try simp only [Act.put, List.setIfInBounds_toArray, List.set_cons_zero, List.set_cons_succ])
      refine wpAnyH_ready (rs := [23]) (by kernel_rfl) (by simp) ?_
      refine AllReadyH.cons rfl (fun K hK => ?_) AllReadyH.nil
      go_simp
      (go_at_call 19; refine (HT.out _).mono ?_; rintro e w7 ⟨rfl, hb7⟩)
      (try simp only [Act.put, List.setIfInBounds_toArray, List.set_cons_zero, List.set_cons_succ])
      refine hK.out _ _ (held4 hHeld hb7) (fun hHeld => ?_)
      clear hK hb7
      (try simp only [Act.put, List.setIfInBounds_toArray, List.set_cons_zero, List.set_cons_succ])
      refine wpAnyH_ready (rs := [25]) (by kernel_rfl) (by simp) ?_
      refine AllReadyH.cons rfl (fun K hK => ?_) AllReadyH.nil
      go_simp
      (go_at_call 20; refine (HRT.out _).mono ?_; rintro e w7 ⟨rfl, hb7⟩)
      (try simp only [Act.put, List.setIfInBounds_toArray, List.set_cons_zero, List.set_cons_succ])
      refine hK.out _ _ (held4 hHeld hb7) (fun hHeld => ?_)
      clear hK hb7
      (try simp only [Act.put, List.setIfInBounds_toArray, List.set_cons_zero, List.set_cons_succ])
      refine held_take hQ hHeld 26 (v := ?vv20) rfl rfl (by kernel_rfl) (by kernel_rfl) (by kernel_rfl) (by rfl) ?hy20 ?rest20
      case hy20 => (intro w hSw; (try dsimp only at hSw); go_simp; (try with_reducible rfl))
      (try simp only [Act.put, List.setIfInBounds_toArray, List.set_cons_zero, List.set_cons_succ])
      refine held_take hQ hHeld 27 (v := ?vv21) rfl rfl (by kernel_rfl) (by kernel_rfl) (by kernel_rfl) (by rfl) ?hy21 ?rest21
      case hy21 => (intro w hSw; (try dsimp only at hSw); go_simp; (try with_reducible rfl))
      (try simp only [Act.put, List.setIfInBounds_toArray, List.set_cons_zero, List.set_cons_succ])
      refine wpAnyH_done (by kernel_rfl) ?_ _
      refine hK'.out _ _ ?_
      go_wp2_with fail
      go_meet
      exact ⟨by first | rfl | simp [hc1], hHeld.1⟩
  case rest =>
    obtain ⟨rfl, hb5⟩ := hcut
    have hbx5 := (hb5.block w.heap.size (Array.getElem?_eq_some_iff.1 HX4.out).1).trans HX4.out
    have hB5 := hB4.trans (hb5.mono hB4.size)
    have hr5 := HR4.out.below hb5
    clear q0 q1 q2 p0 p1 p2 hw2 hw1 hb5 hB4 HX4 HR4
    generalize wc = w5 at *
    have HX5 := Lib.hid hbx5
    rcases hr5.cases (by decide) with ⟨rfl, h1, a, cap, e1, hm⟩ | ⟨hn, hl, g, off, cap, e1, hnc, hcm, hc⟩
    · clear hr5 h1 hm e1 hbx5
      go_wp2
      go_loop [7] (fun i => i = .int .i64 0) (fun i => 0)
      case atStart => rfl
      case round =>
        obtain rfl := hrel
        obtain ⟨q0, q1, q2, _⟩ := cells3h HX5.out
        go_wp2
        first | go_region_held3 (fun w' => Below w5.heap.size w5 w' ∧ w'.cell? ⟨w.heap.size, 0, none⟩ = some (.int .i64 m) ∧ w'.cell? ⟨w.heap.size, 1, none⟩ = some (.int .i64 f) ∧ w'.cell? ⟨w.heap.size, 2, none⟩ = some (.int .i64 k))
          (first | assumption | exact ⟨(Below.refl _ _).drew, q0, q1, q2⟩ | exact held3 (by assumption) (by assumption)) (first
            | (go_at_call 22; refine (HWT.out _).mono ?_; rintro e w7 ⟨rfl, hb7⟩)
            | (go_at_call 21; refine (HRW.out _).mono ?_; rintro e w7 ⟨rfl, hb7⟩)) | fail
        go_wp2
        go_ret
        rename_i hS
        exact ⟨by simp, bthen hB5 (Nat.le_refl _) hS.1⟩
    · have HC := Lib.hid hc
      clear hc hr5 hl hbx5
      cases e1
      go_wp2
      go_loopw [7] (fun i wr => ∃ j : Nat, j ≤ N ∧ i = .int .i64 j ∧ Below w5.heap.size w5 wr) (fun i _ => N - (intOf i).toNat)
      case atStart => exact ⟨0, by omega, rfl, Below.refl _ _⟩
      case round =>
        obtain ⟨j, hj, rfl, hbw⟩ := hrel
        have hbx6 := (hbw.block w.heap.size (Array.getElem?_eq_some_iff.1 HX5.out).1).trans HX5.out
        obtain ⟨q0, q1, q2, _⟩ := cells3h hbx6
        clear hbx6
        by_cases hlt : j < N
        · have x0 := cellB hbw (HC.out _ _ (bList_get f k N j hlt))
          have hlt' : (j : Int) < N := by omega
          have hj0 : (0 : Int) ≤ (j : Int) := by omega
          have HRJ := Lib.hid (show ∀ w, Calls Try.prog 21 #[.agg #[.int .i64 m, .int .i64 f, .int .i64 k], .int .i64 ((j : Int) + 1)] w fun e w' => e = .returned (.int .i64 (bSeq f k j)) ∧ Below w.heap.size w w' from fun w => by
            have := HRI.out w ((j : Int) + 1)
            rwa [waitI_succ f k j (by omega)] at this)
          have hq := bSeq_range f k j
          generalize bSeq f k j = b at *
          have hw1 : IntKind.i64.wrap ((j : Int) + 1) = (j : Int) + 1 := IntWalk.i64_in _ (by omega)
          go_wp2
          first | go_region_held3 (fun w' => Below wr.heap.size wr w' ∧ w'.cell? ⟨w.heap.size, 0, none⟩ = some (.int .i64 m) ∧ w'.cell? ⟨w.heap.size, 1, none⟩ = some (.int .i64 f) ∧ w'.cell? ⟨w.heap.size, 2, none⟩ = some (.int .i64 k) ∧ w'.cell? ⟨g, off + j, none⟩ = some (.int .i64 b))
            (first | assumption | exact ⟨(Below.refl _ _).drew, q0, q1, q2, x0⟩ | exact held4 (by assumption) (by assumption)) (first
              | (go_at_call 21; refine (HRJ.out _).mono ?_; rintro e w7 ⟨rfl, hb7⟩)) | fail
          go_wp2
          go_roundw
          rename_i hS
          case rel => exact ⟨j + 1, by omega, by go_num, hbw.trans (hS.1.mono hbw.size)⟩
          case measure => simp [intOf]; omega
        · obtain rfl : j = N := by omega
          go_wp2
          first | go_region_held3 (fun w' => Below wr.heap.size wr w' ∧ w'.cell? ⟨w.heap.size, 0, none⟩ = some (.int .i64 m) ∧ w'.cell? ⟨w.heap.size, 1, none⟩ = some (.int .i64 f) ∧ w'.cell? ⟨w.heap.size, 2, none⟩ = some (.int .i64 k))
            (first | assumption | exact ⟨(Below.refl _ _).drew, q0, q1, q2⟩ | exact held3 (by assumption) (by assumption)) (first
              | (go_at_call 22; refine (HWT.out _).mono ?_; rintro e w7 ⟨rfl, hb7⟩)
              | (go_at_call 21; refine (HRW.out _).mono ?_; rintro e w7 ⟨rfl, hb7⟩)) | fail
          go_wp2
          go_ret
          rename_i hS
          exact ⟨by simp, bthen (hB5.trans (hbw.mono hB5.size)) (Nat.le_refl _) hS.1⟩
end Go.Proofs.Ytkaadkjbimaodaa
