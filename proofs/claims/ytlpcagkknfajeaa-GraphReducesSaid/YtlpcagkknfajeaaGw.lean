/-
  GraphReduces: the law's walk.
-/
import Derived.Test.YtlpcagkknfajeaaGv
namespace Go.Proofs.Ytlpcagkknfajeaa
open Go.RowKit

theorem red_lens {rows : List (List Int)} (h : ∀ i (hi : i < rows.length), (rows[i]).length ≤ 60) : ∀ i (hi : i < (redL rows).length), ((redL rows)[i]).length ≤ 1073741824 := fun i hi => by
  have hi' : i < rows.length := by rw [redL_len] at hi; exact hi
  have h1 := red_row_len rows i
  have h2 := h i hi'
  have e : (redL rows)[i] = redR rows i := by
    have := redL_get hi'
    rw [List.getElem?_eq_getElem hi, Option.getD_some] at this
    exact this
  rw [List.getElem?_eq_getElem hi', Option.getD_some] at h1
  rw [e]; omega

set_option maxRecDepth 100000 in
set_option maxHeartbeats 1000000 in
theorem GraphReduces_any (rows : List (List Int)) (v : Value) (w : World) (hr : Rows2 w v rows) :
    Calls Try.prog 5 #[v] w fun e w' => e = .returned (.bool true) ∧ Below w.heap.size w w' := by
  have HR := Lib.hid hr
  have hlen0 : rows.length ≤ 9223372036854775807 := by obtain ⟨_, h1, _⟩ := hr; exact rds_len h1
  obtain ⟨a, cap, rfl⟩ := hr.form
  clear hr
  go_enter Try.func5, Try.ntmps5
  go_wp2_with fail
  refine (live26_any _).mono ?_
  rintro e w1 ⟨rfl, hb1⟩
  by_cases h15 : (15 : Int) < rows.length
  · have hd : decide ((15 : Int) < rows.length) = true := by simpa using h15
    go_wp2
    go_ret
    exact ⟨rfl, hb1⟩
  · have hd : decide ((15 : Int) < rows.length) = false := by simpa using h15
    go_wp2_with fail
    refine (Small_any rows _ _ (HR.out.below hb1)).mono ?_
    rintro e w2 ⟨rfl, rfl⟩
    by_cases hsm : smallB rows = true
    · obtain ⟨hlen, hrow⟩ := small_all hsm
      rw [hsm]
      have HROW := Lib.hid hrow
      clear hrow
      go_wp2_with fail
      refine (Reduce_any rows _ _ (HR.out.below hb1) (by omega) (fun i hi => by have := HROW.out i hi; omega)).mono ?_
      rintro e w2 ⟨vr, rfl, hr2, hb2⟩
      have HRR := Lib.hid hr2
      have HB2 := Lib.hid (bthen hb1 (Nat.le_refl _) hb2)
      clear hr2 hb2 hb1
      go_wp2_with fail
      refine (rReduce_any rows _ _ (HR.out.below HB2.out) (by omega) (fun i hi => by have := HROW.out i hi; omega)).mono ?_
      rintro e w3 ⟨v3, rfl, hr3, hb3⟩
      have HRR3 := Lib.hid (HRR.out.below hb3)
      have HR3 := Lib.hid hr3.rows2
      have HB3 := Lib.hid (bthen HB2.out (Nat.le_refl _) hb3)
      clear hr3 hb3 HRR
      go_wp2_with fail
      refine (gRows_true (redL rows) _ _ _ HRR3.out HR3.out).mono ?_
      rintro e w4 ⟨rfl, hb4⟩
      have HRR4 := Lib.hid (HRR3.out.below hb4)
      have HB4 := Lib.hid (bthen HB3.out (Nat.le_refl _) hb4)
      clear hb4 HRR3 HR3
      go_wp2_with fail
      refine (Order_any rows _ _ (HR.out.below HB4.out) (by omega)).mono ?_
      rintro e w5 ⟨v5, rfl, o5, hb5⟩
      have H5 := Lib.hid (RdS.of_owns o5)
      have HRR5 := Lib.hid (HRR4.out.below hb5)
      have HB5 := Lib.hid (bthen HB4.out (Nat.le_refl _) hb5)
      clear hb5 o5 HRR4
      by_cases hok : (ordO rows).length = rows.length
      · have hd2 : decide ((ordO rows).length = rows.length) = true := by simpa using hok
        rw [hd2]
        have hac := ok_acyc hok
        have HAC := Lib.hid hac
        have hord := red_ord hac
        have HLEN := Lib.hid (red_lens HROW.out)
        have HOR := Lib.hid (fun (W : World) (hW : Rows2 W vr (redL rows)) => Order_any (redL rows) vr W hW (by rw [redL_len]; omega))
        rw [hord, redL_len, hd2] at HOR
        clear hac hord
        go_wp2_with fail
        refine (HOR.out _ HRR5.out).mono ?_
        rintro e w6 ⟨v6, rfl, o6, hb6⟩
        have H6 := Lib.hid (RdS.of_owns o6)
        have H56 := Lib.hid (H5.out.below hb6)
        have HRR6 := Lib.hid (HRR5.out.below hb6)
        have HB6 := Lib.hid (bthen HB5.out (Nat.le_refl _) hb6)
        clear hb6 o6 HRR5 H5 HOR
        go_wp2_with fail
        refine (gSame_true _ _ ((ordO rows).map Int.ofNat) _ (by rw [← natI_ints, List.length_map]; exact H56.out) (by rw [← natI_ints, List.length_map]; exact H6.out)).mono ?_
        rintro e w7 ⟨rfl, hb7⟩
        have HRR7 := Lib.hid (HRR6.out.below hb7)
        have HB7 := Lib.hid (bthen HB6.out (Nat.le_refl _) hb7)
        clear hb7 HRR6 H56 H6
        go_wp2_with fail
        refine (Reduce_any (redL rows) _ _ HRR7.out (by rw [redL_len]; omega) HLEN.out).mono ?_
        rintro e w8 ⟨v8, rfl, hr8, hb8⟩
        rw [red_red HAC.out] at hr8
        have H8 := Lib.hid hr8
        have HRR8 := Lib.hid (HRR7.out.below hb8)
        have HB8 := Lib.hid (bthen HB7.out (Nat.le_refl _) hb8)
        clear hb8 hr8 HRR7
        go_wp2_with fail
        refine (gRows_true (redL rows) _ _ _ H8.out HRR8.out).mono ?_
        rintro e w9 ⟨rfl, hb9⟩
        have HRR9 := Lib.hid (HRR8.out.below hb9)
        have HB9 := Lib.hid (bthen HB8.out (Nat.le_refl _) hb9)
        have HR9 := Lib.hid (HR.out.below HB9.out)
        clear hb9 HRR8 H8
        go_wp2
        go_loopw [8] (fun r wr => ∃ k : Nat, k ≤ rows.length ∧ r = .int .i64 k ∧ Below w9.heap.size w9 wr) (fun r _ => rows.length - (intOf r).toNat)
        case atStart => exact ⟨0, by omega, rfl, Below.refl _ _⟩
        case round =>
          obtain ⟨k, hk, rfl, hb⟩ := hrel
          by_cases hlt : k < rows.length
          · have hlt' : (k : Int) < rows.length := by omega
            go_wp2_with fail
            refine (Before_any rows k _ _ (HR9.out.below hb) (by omega)).mono ?_
            rintro e x1 ⟨u1, rfl, q1, c1⟩
            have U1 := Lib.hid (RdS.of_owns q1)
            have C1 := Lib.hid (bthen hb (Nat.le_refl _) c1)
            clear q1 c1
            go_wp2_with fail
            refine (Before_any (redL rows) k _ _ (HRR9.out.below C1.out) (by rw [redL_len]; omega)).mono ?_
            rintro e x2 ⟨u2, rfl, q2, c2⟩
            rw [red_bef HAC.out] at q2
            have U2 := Lib.hid (RdS.of_owns q2)
            have U12 := Lib.hid (U1.out.below c2)
            have C2 := Lib.hid (bthen C1.out (Nat.le_refl _) c2)
            clear q2 c2
            go_wp2_with fail
            refine (gSame_true _ _ _ _ U12.out U2.out).mono ?_
            rintro e x3 ⟨rfl, c3⟩
            go_wp2
            go_roundw
            case rel => exact ⟨k + 1, by omega, by go_num, bthen C2.out (Nat.le_refl _) c3⟩
            case measure => simp [intOf]; omega
          · have hkl : k = rows.length := by omega
            subst hkl
            go_wp2
            go_ret
            exact ⟨rfl, bthen HB9.out (Nat.le_refl _) hb⟩
      · have hd2 : decide ((ordO rows).length = rows.length) = false := by simpa using hok
        rw [hd2]
        go_wp2
        go_ret
        exact ⟨rfl, HB5.out⟩
    · have hsf : smallB rows = false := by simpa using hsm
      rw [hsf]
      go_wp2
      go_ret
      exact ⟨rfl, hb1⟩
end Go.Proofs.Ytlpcagkknfajeaa
