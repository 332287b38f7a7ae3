/-
  The law BackoffGrows: its walk.
-/
import Derived.Test.YtkaadkjbimaodaaBl
import Derived.Deep.DeepCutAuto
import Derived.Deep.QuietTactic
import Derived.BigQuiet
namespace Go.Proofs.Ytkaadkjbimaodaa
open Go.RowKit
attribute [local go_sem ↓] Go.wp_at_zero Go.wp_at_succ

theorem held4 {w1 W W' : World} {p q r s : Addr} {a b c d : Value} (h : Below w1.heap.size w1 W ∧ W.cell? p = some a ∧ W.cell? q = some b ∧ W.cell? r = some c ∧ W.cell? s = some d) (hb : Below W.heap.size W W') :
    Below w1.heap.size w1 W' ∧ W'.cell? p = some a ∧ W'.cell? q = some b ∧ W'.cell? r = some c ∧ W'.cell? s = some d :=
  ⟨bthen h.1 (Nat.le_refl _) hb, cellB hb h.2.1, cellB hb h.2.2.1, cellB hb h.2.2.2.1, cellB hb h.2.2.2.2⟩

theorem run_min2u {P : Program} (ts : Array TypeId) (t : TypeId) (x y : Int) (w : World) : (Builtin.min_ ts t #[.int .u8 x, .int .u8 y]).run P w = .ok (.int .u8 (min x y)) w := by
  have := run_min_int2 (P := P) (w := w) ts t .u8 .u8 x y
  rw [this]; congr 2; omega
theorem run_max2u {P : Program} (ts : Array TypeId) (t : TypeId) (x y : Int) (w : World) : (Builtin.max_ ts t #[.int .u8 x, .int .u8 y]).run P w = .ok (.int .u8 (max x y)) w := by
  have := run_max_int2 (P := P) (w := w) ts t .u8 .u8 x y
  rw [this]; congr 2; omega

set_option maxRecDepth 100000 in
set_option maxHeartbeats 2000000 in
theorem BackoffGrows_any (m f k : Int) (a b : Nat) (w : World) (ha : a < 256) (hb : b < 256) :
    Calls Try.prog 5 #[retryV m f k, .int .u8 a, .int .u8 b] w fun e w' => e = .returned (.bool true) ∧ Below w.heap.size w w' := by
  have hmn := @run_min2u Try.prog
  have hmx := @run_max2u Try.prog
  have hn9 := wN_le m
  obtain ⟨p, hp⟩ : ∃ p, min (a : Int) b = p := ⟨_, rfl⟩
  obtain ⟨q, hq⟩ : ∃ q, max (a : Int) b = q := ⟨_, rfl⟩
  have hpq : 0 ≤ p ∧ p ≤ q ∧ q ≤ 255 := by omega
  have hwp : IntKind.i64.wrap p = p := IntWalk.i64_in _ (by omega)
  have hwq : IntKind.i64.wrap q = q := IntWalk.i64_in _ (by omega)
  have hX := waitI_range f k p
  have hY := waitI_range f k q
  have HXY := Lib.hid (fun hk : 0 ≤ k => waitI_mono (f := f) hk hpq.2.1)
  have HWP := Lib.hid (fun w => Wait_any m f k p w)
  have HWQ := Lib.hid (fun w => Wait_any m f k q w)
  have HW := Lib.hid (fun w => Waits_any m f k w)
  have HT := Lib.hid (fun w => Total_any m f k w)
  have HMj := Lib.hid (fun (j : Nat) (h : j < wN m) w => (show Calls Try.prog 18 #[retryV m f k, .int .i64 ((j : Int) + 1)] w fun e w' => e = .returned (.bool true) ∧ Below w.heap.size w w' by
    have := More_any m f k ((j : Int) + 1) w
    rwa [show moreB m ((j : Int) + 1) = true by unfold moreB; unfold wN at h; simp; omega] at this))
  have HMn := Lib.hid (fun w => (show Calls Try.prog 18 #[retryV m f k, .int .i64 ((wN m : Int) + 1)] w fun e w' => e = .returned (.bool false) ∧ Below w.heap.size w w' by
    have := More_any m f k ((wN m : Int) + 1) w
    rwa [show moreB m ((wN m : Int) + 1) = false by unfold moreB; unfold wN; simp; omega] at this))
  have HWj := Lib.hid (fun (j : Nat) (h : j < 20) w => (show Calls Try.prog 22 #[retryV m f k, .int .i64 ((j : Int) + 1)] w fun e w' => e = .returned (.int .i64 (bSeq f k j)) ∧ Below w.heap.size w w' by
    have := Wait_any m f k ((j : Int) + 1) w
    rwa [waitI_succ f k j h] at this))
  generalize waitI f k p = X at *
  generalize waitI f k q = Y at *
  generalize wN m = N at *
  unfold retryV at HWP HWQ HW HT HMj HMn HWj ⊢
  go_enter Try.func5, Try.ntmps5
  go_wp2_with fail
  refine (live29_any _).mono ?_
  rintro e w1 ⟨rfl, hb1⟩
  have hbx1 : Boxed3 w1 w.heap.size m f k := boxed3_below (World.alloc_heap_new w _) hb1
  have hB := ((Below.refl _ w).alloc (Nat.le_refl _) _).trans (hb1.mono (by simp))
  clear hb1
  obtain ⟨q0, q1, q2, _⟩ := cells3h hbx1
  go_upto_region 3 with fail
  go_cut [7, 8] (fun s7 s8 wx => s7 = .int .i64 X ∧ s8 = .int .i64 Y ∧ Below w1.heap.size w1 wx)
  case first =>
    go_region_held3 (fun w' => Below w1.heap.size w1 w' ∧ w'.cell? ⟨w.heap.size, 0, none⟩ = some (.int .i64 m) ∧ w'.cell? ⟨w.heap.size, 1, none⟩ = some (.int .i64 f) ∧ w'.cell? ⟨w.heap.size, 2, none⟩ = some (.int .i64 k))
      (first | assumption | exact ⟨(Below.refl _ _).drew, q0, q1, q2⟩ | exact held3 (by assumption) (by assumption)) (first
        | (go_at_call_of 22 (Value.int IntKind.i64 p); refine (HWP.out _).mono ?_; rintro e w7 ⟨rfl, hb7⟩)
        | (go_at_call_of 22 (Value.int IntKind.i64 q); refine (HWQ.out _).mono ?_; rintro e w8 ⟨rfl, hb8⟩))
    all_goals (go_wp2_with fail; go_meet; rename_i hS; exact ⟨rfl, rfl, hS.1⟩)
  case rest =>
    obtain ⟨rfl, rfl, hbc⟩ := hcut
    have hbx2 : Boxed3 wc w.heap.size m f k := boxed3_below hbx1 hbc
    have hB := hB.trans (hbc.mono hB.size)
    have HIN := Lib.hid hpq
    clear q0 q1 q2 hbx1 hbc hmn hmx hp hq hwp hwq hpq ha hb HWP HWQ
    obtain ⟨q0, q1, q2, _⟩ := cells3h hbx2
    go_wp2_with fail
    refine (HW.out _).mono ?_
    rintro e w3 ⟨v, rfl, ho, hb3⟩
    have hbx3 := boxed3_below hbx2 hb3
    have hB := hB.trans (hb3.mono hB.size)
    have hr := RdS.of_owns ho
    have HX3 := Lib.hid hbx3
    clear q0 q1 q2 hbx2 hb3 ho hbx3 HW
    have hXY : k < 0 ∧ decide (k < 0) = true ∨ decide (k < 0) = false ∧ decide (X ≤ Y) = true := by
      by_cases h : k < 0
      · exact .inl ⟨h, by simpa using h⟩
      · exact .inr ⟨by simpa using h, by simpa using HXY.out (by omega)⟩
    obtain ⟨va, vc, rfl⟩ := hr.form
    have HR := Lib.hid hr
    clear hr
    go_wp2
    go_loopw [10, 11] (fun s i wr => ∃ j : Nat, j ≤ N ∧ s = .int .i64 (bSum f k j) ∧ i = .int .i64 j ∧ Below w3.heap.size w3 wr) (fun _ i _ => N - (intOf i).toNat)
    case atStart => exact ⟨0, by omega, rfl, rfl, Below.refl _ _⟩
    case round =>
      obtain ⟨j, hj, rfl, rfl, hbw⟩ := hrel
      have hbxr := (hbw.block w.heap.size (Array.getElem?_eq_some_iff.1 HX3.out).1).trans HX3.out
      obtain ⟨q0, q1, q2, _⟩ := cells3h hbxr
      by_cases hlt : j < N
      · rcases HR.out.cases (by decide) with ⟨h0, _⟩ | ⟨hn, _, g, off, cap, e1, hnc, hcm, hc⟩
        · omega
        cases e1
        have x0 := cellB hbw (hc _ _ (bList_get f k N j hlt))
        have hlt' : (j : Int) < N := by omega
        have hj0 : (0 : Int) ≤ (j : Int) := by omega
        have HMjj := Lib.hid (HMj.out j hlt)
        have HWjj := Lib.hid (HWj.out j (by omega))
        have hs := bSum_range f k j
        have hq := bSeq_range f k j
        have HSS := Lib.hid (show bSum f k (j + 1) = bSum f k j + bSeq f k j from rfl)
        generalize bSeq f k j = b' at *
        have hw1 : IntKind.i64.wrap ((j : Int) + 1) = (j : Int) + 1 := IntWalk.i64_in _ (by omega)
        clear hc hXY hbxr
        go_wp2
        first | go_region_held3 (fun w' => Below wr.heap.size wr w' ∧ w'.cell? ⟨w.heap.size, 0, none⟩ = some (.int .i64 m) ∧ w'.cell? ⟨w.heap.size, 1, none⟩ = some (.int .i64 f) ∧ w'.cell? ⟨w.heap.size, 2, none⟩ = some (.int .i64 k) ∧ w'.cell? ⟨g, off + j, none⟩ = some (.int .i64 b'))
          (first | assumption | exact ⟨(Below.refl _ _).drew, q0, q1, q2, x0⟩ | exact held4 (by assumption) (by assumption)) (first
            | (go_at_call 18; refine (HMjj.out _).mono ?_; rintro e w7 ⟨rfl, hb7⟩)
            | (go_at_call 22; refine (HWjj.out _).mono ?_; rintro e w7 ⟨rfl, hb7⟩)) | fail
        rename_i hS
        obtain ⟨hSb, _, _, _, x9⟩ := hS
        clear q0 q1 q2 x0
        go_wp2
        go_roundw
        case rel => exact ⟨j + 1, by omega, by rw [HSS.out], by go_num, hbw.trans (hSb.mono hbw.size)⟩
        case measure => simp [intOf]; omega
      · obtain rfl : j = N := by omega
        rcases hXY with ⟨_, hk⟩ | ⟨hk, hxy⟩
        · go_wp2_with fail
          refine (HT.out _).mono ?_
          rintro e w8 ⟨rfl, hb8⟩
          have hbx8 := boxed3_below hbxr hb8
          clear q0 q1 q2
          obtain ⟨q0, q1, q2, _⟩ := cells3h hbx8
          go_wp2_with fail
          refine (HMn.out _).mono ?_
          rintro e w9 ⟨rfl, hb9⟩
          go_wp2
          go_ret
          exact ⟨by simp, bthen (bthen (hB.trans (hbw.mono hB.size)) (Nat.le_refl _) hb8) (Nat.le_refl _) hb9⟩
        · go_wp2_with fail
          refine (HT.out _).mono ?_
          rintro e w8 ⟨rfl, hb8⟩
          have hbx8 := boxed3_below hbxr hb8
          clear q0 q1 q2
          obtain ⟨q0, q1, q2, _⟩ := cells3h hbx8
          go_wp2_with fail
          refine (HMn.out _).mono ?_
          rintro e w9 ⟨rfl, hb9⟩
          go_wp2
          go_ret
          exact ⟨by simp, bthen (bthen (hB.trans (hbw.mono hB.size)) (Nat.le_refl _) hb8) (Nat.le_refl _) hb9⟩
end Go.Proofs.Ytkaadkjbimaodaa
