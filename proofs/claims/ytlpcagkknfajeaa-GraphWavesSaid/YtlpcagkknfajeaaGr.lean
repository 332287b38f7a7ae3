/-
  GraphWaves: the law's walk.
-/
import Derived.Test.YtlpcagkknfajeaaGq
namespace Go.Proofs.Ytlpcagkknfajeaa
open Go.RowKit

theorem wav_sum {l : List (List Int)} {k : Nat} (h : k < l.length) : ((l.take (k + 1)).map List.length).sum = ((l.take k).map List.length).sum + (l[k]).length := by
  rw [List.take_succ_eq_append_getElem h, List.map_append, List.sum_append]
  simp only [List.map_cons, List.map_nil, List.sum_cons, List.sum_nil, Nat.add_zero]
theorem wav_sum_le (l : List (List Int)) (k : Nat) : ((l.take k).map List.length).sum ≤ (l.map List.length).sum := by
  conv => rhs; rw [← List.take_append_drop k l, List.map_append, List.sum_append]
  omega

set_option maxRecDepth 100000 in
set_option maxHeartbeats 1000000 in
theorem GraphWaves_any (rows : List (List Int)) (v : Value) (w : World) (hr : Rows2 w v rows) :
    Calls Try.prog 4 #[v] w fun e w' => e = .returned (.bool true) ∧ Below w.heap.size w w' := by
  have HR := Lib.hid hr
  obtain ⟨a, cap, rfl⟩ := hr.form
  clear hr
  go_enter Try.func4, Try.ntmps4
  go_wp2_with fail
  refine (live26_any _).mono ?_
  rintro e w1 ⟨rfl, hb1⟩
  go_wp2_with fail
  refine (Small_any rows _ _ (HR.out.below hb1)).mono ?_
  rintro e w2 ⟨rfl, rfl⟩
  by_cases hsm : smallB rows = true
  · obtain ⟨hlen, _⟩ := small_all hsm
    rw [hsm]
    go_wp2_with fail
    refine (Waves_any rows _ _ (HR.out.below hb1) (by omega)).mono ?_
    rintro e w2 ⟨vw, rfl, hw, hb2⟩
    have HW := Lib.hid hw.rows2
    have HB2 := Lib.hid (bthen hb1 (Nat.le_refl _) hb2)
    clear hw hb2 hb1
    obtain ⟨wl1, wl2⟩ := wavL_facts rows
    have hol := ordO_len rows
    have HSUM := Lib.hid wl2
    have HLE := Lib.hid (wav_sum_le (wavL rows))
    have HSTEP := Lib.hid (fun k h => wav_sum (l := wavL rows) (k := k) h)
    obtain ⟨wa, wc, rfl⟩ := HW.out.form
    have hcc : (wavL rows).length ≤ wc ∧ wc ≤ 9223372036854775807 := by
      obtain ⟨cs, ⟨_, a', c', he, h1, h2, _⟩, _⟩ := HW.out
      injection he with _ _ e3; subst e3; unfold maxLen at h2; exact ⟨h1, h2⟩
    obtain ⟨hc1, hc2⟩ := hcc
    go_wp2_with fail
    refine (rWaves_any rows _ _ (HR.out.below HB2.out) (by omega)).mono ?_
    rintro e w3 ⟨vr, rfl, hr, hb3⟩
    have HR3 := Lib.hid hr.rows2
    have HW3 := Lib.hid (HW.out.below hb3)
    have HB3 := Lib.hid (bthen HB2.out (Nat.le_refl _) hb3)
    clear hr hb3 HW
    have HG := Lib.hid (gRows_true (wavL rows) _ _ _ HW3.out HR3.out)
    generalize hwl : wavL rows = wl at *
    generalize hm : lonO rows = M at *
    clear hwl
    subst wl1
    go_wp2_with fail
    refine HG.out.mono ?_
    rintro e w4 ⟨rfl, hb4⟩
    have HW4 := Lib.hid (HW3.out.below hb4)
    have HB4 := Lib.hid (bthen HB3.out (Nat.le_refl _) hb4)
    clear hb4
    go_wp2_with fail
    refine (Longest_any rows _ _ (HR.out.below HB4.out) (by omega)).mono ?_
    rintro e w5 ⟨rfl, hb5⟩
    rw [hm]
    have HW5 := Lib.hid (HW4.out.below hb5)
    have HB5 := Lib.hid (bthen HB4.out (Nat.le_refl _) hb5)
    have HR5 := Lib.hid (HR.out.below HB5.out)
    have hne : ((wl.length : Int) != (wl.length : Int)) = false := by simp
    clear hb5 HG HW3 HW4 HR3
    go_wp2
    go_loopw [4, 5] (fun s r wr => ∃ k : Nat, k ≤ wl.length ∧ r = .int .i64 k ∧ s = .int .i64 (((wl.take k).map List.length).sum : Int) ∧ w5 = wr) (fun _ r _ => wl.length - (intOf r).toNat)
    case atStart => exact ⟨0, by omega, rfl, rfl, rfl⟩
    case round =>
      obtain ⟨k, hk, rfl, rfl, rfl⟩ := hrel
      have hsl := HLE.out k
      rw [HSUM.out] at hsl
      by_cases hkn : k < wl.length
      · have hkn' : (k : Int) < wl.length := by omega
        obtain ⟨g, off, ra, rc, rfl, h1, h2, hcell, hrow⟩ := HW5.out.at hkn
        have hrl := rds_len hrow
        have HE := Lib.hid (HSTEP.out k hkn)
        have hsl2 := HLE.out (k + 1)
        rw [HSUM.out, HE.out] at hsl2
        clear hrow
        generalize ((wl.take k).map List.length).sum = s at *
        generalize wl[k].length = rl at *
        go_wp2
        go_roundw
        case rel => exact ⟨k + 1, by omega, by go_num, by rw [HE.out]; go_num, trivial⟩
        case measure => simp [intOf]; omega
      · have hkl : wl.take k = wl := List.take_of_length_le (by omega)
        rw [hkl, HSUM.out]
        go_wp2_with fail
        refine (Order_any rows _ _ HR5.out (by omega)).mono ?_
        rintro e w6 ⟨vo, rfl, ho, hb6⟩
        obtain ⟨oa, oc, rfl⟩ := (RdS.of_owns ho).form
        have hcc : (ordO rows).length ≤ oc ∧ oc ≤ 9223372036854775807 := by
          obtain ⟨_, a', c', he, h1, h2, _⟩ := RdS.of_owns ho
          injection he with _ _ e3; subst e3; unfold maxLen at h2; exact ⟨h1, h2⟩
        obtain ⟨hd1, hd2⟩ := hcc
        have heq : (((ordO rows).length : Int) == ((ordO rows).length : Int)) = true := by simp
        clear ho
        go_wp2
        go_ret
        exact ⟨by first | rfl | simp, bthen HB5.out (Nat.le_refl _) hb6⟩
  · have hsf : smallB rows = false := by simpa using hsm
    rw [hsf]
    go_wp2
    go_ret
    exact ⟨rfl, hb1⟩
end Go.Proofs.Ytlpcagkknfajeaa
