/-
  The law BackoffPlans: its walk.
-/
import Derived.Test.YtkaadkjbimaodaaBl
import Derived.Deep.QuietTactic
import Derived.BigQuiet
namespace Go.Proofs.Ytkaadkjbimaodaa
open Go.RowKit
attribute [local go_sem ↓] Go.wp_at_zero Go.wp_at_succ

theorem plan_span (a L f k m l : Int) (M : Nat) (hM : bMost m = M) (h0 : 0 < M) (hL : limI l = L) : planAt a L f k (M - 1) + L - a = spanI m f k l := by
  unfold planAt spanI
  have e1 : wN m = M - 1 := by unfold wN; omega
  rw [e1, hL, hM]
  have : ((M - 1 : Nat) : Int) = (M : Int) - 1 := by omega
  rw [this, Int.sub_mul, Int.mul_comm L]
  omega

theorem held15 {w1 W W' : World} {B : Nat} {p q : Addr} {u v c0 c1 c2 c3 c4 c5 c6 c7 c8 c9 c10 c11 c12 : Value} (h : (Below w1.heap.size w1 W ∧ W.cell? ⟨B, 0, none⟩ = some c0 ∧ W.cell? ⟨B, 1, none⟩ = some c1 ∧ W.cell? ⟨B, 2, none⟩ = some c2 ∧ W.cell? ⟨B, 3, none⟩ = some c3 ∧ W.cell? ⟨B, 4, none⟩ = some c4 ∧ W.cell? ⟨B, 5, none⟩ = some c5 ∧ W.cell? ⟨B, 6, none⟩ = some c6 ∧ W.cell? ⟨B, 7, none⟩ = some c7 ∧ W.cell? ⟨B, 8, none⟩ = some c8 ∧ W.cell? ⟨B, 9, none⟩ = some c9 ∧ W.cell? ⟨B, 10, none⟩ = some c10 ∧ W.cell? ⟨B, 11, none⟩ = some c11 ∧ W.cell? ⟨B, 12, none⟩ = some c12) ∧ W.cell? p = some u ∧ W.cell? q = some v) (hb : Below W.heap.size W W') :
    (Below w1.heap.size w1 W' ∧ W'.cell? ⟨B, 0, none⟩ = some c0 ∧ W'.cell? ⟨B, 1, none⟩ = some c1 ∧ W'.cell? ⟨B, 2, none⟩ = some c2 ∧ W'.cell? ⟨B, 3, none⟩ = some c3 ∧ W'.cell? ⟨B, 4, none⟩ = some c4 ∧ W'.cell? ⟨B, 5, none⟩ = some c5 ∧ W'.cell? ⟨B, 6, none⟩ = some c6 ∧ W'.cell? ⟨B, 7, none⟩ = some c7 ∧ W'.cell? ⟨B, 8, none⟩ = some c8 ∧ W'.cell? ⟨B, 9, none⟩ = some c9 ∧ W'.cell? ⟨B, 10, none⟩ = some c10 ∧ W'.cell? ⟨B, 11, none⟩ = some c11 ∧ W'.cell? ⟨B, 12, none⟩ = some c12) ∧ W'.cell? p = some u ∧ W'.cell? q = some v :=
  ⟨held13 h.1 hb, cellB hb h.2.1, cellB hb h.2.2⟩

set_option maxRecDepth 100000 in
set_option maxHeartbeats 2000000 in
theorem BackoffPlans_any (s0 s1 s2 : ByteArray) (af : Option Addr) (an ac : Nat) (m f k l : Int) (nk : Int) (nt : ByteArray) (ka : Option Addr) (kn kc : Nat) (da : Option Addr) (dn dc : Nat) (nl : Int) (now : Int) (w : World) (_ : -9223372036854775808 ≤ now) (_ : now ≤ 9223372036854775807) :
    Calls Try.prog 11 #[stepV s0 s1 s2 af an ac m f k l nk nt ka kn kc da dn dc nl, .int .i64 now] w fun e w' => e = .returned (.bool true) ∧ Below w.heap.size w w' := by
  have hlr := limI_range l
  have har := atI_range now
  have hMr := bMost_range m
  obtain ⟨L, hL⟩ : ∃ L, limI l = L := ⟨_, rfl⟩
  obtain ⟨A, hA⟩ : ∃ A, atI now = A := ⟨_, rfl⟩
  obtain ⟨M, hM⟩ : ∃ M, (bMost m).toNat = M := ⟨_, rfl⟩
  have HM := Lib.hid (show bMost m = (M : Int) by omega)
  have HP := Lib.hid (fun w => Plan_any s0 s1 s2 af an ac m f k l nk nt ka kn kc da dn dc nl now w)
  have HR := Lib.hid (fun w => rPlan_any s0 s1 s2 af an ac m f k l nk nt ka kn kc da dn dc nl now w)
  have HS := Lib.hid (fun w => Span_any s0 s1 s2 af an ac m f k l nk nt ka kn kc da dn dc nl w)
  have HL := Lib.hid hL
  rw [hM, hL, hA] at HP HR
  rw [hL] at hlr
  rw [hA] at har
  have hM10 : M ≤ 10 := by omega
  clear hL hA hM hMr
  unfold stepV at HP HR HS ⊢
  go_enter Try.func11, Try.ntmps11
  go_wp2_with fail
  refine (live29_any _).mono ?_
  rintro e w1 ⟨rfl, hb1⟩
  have hbx1 := (hb1.block w.heap.size (by simp)).trans (World.alloc_heap_new w _)
  have hB := ((Below.refl _ w).alloc (Nat.le_refl _) _).trans (hb1.mono (by simp))
  clear hb1
  obtain ⟨q0, q1, q2, q3, q4, q5, q6, q7, q8, q9, q10, q11, q12⟩ := cells13a hbx1
  go_wp2_with fail
  refine (HP.out _).mono ?_
  rintro e w2 ⟨v1, rfl, ho1, hb2⟩
  have hbx2 := (hb2.block w.heap.size (Array.getElem?_eq_some_iff.1 hbx1).1).trans hbx1
  have hB := bthen hB (Nat.le_refl _) hb2
  clear q0 q1 q2 q3 q4 q5 q6 q7 q8 q9 q10 q11 q12 hbx1 hb2
  obtain ⟨q0, q1, q2, q3, q4, q5, q6, q7, q8, q9, q10, q11, q12⟩ := cells13a hbx2
  have HO1 := Lib.hid (RdS.of_owns ho1)
  obtain ⟨a1, c1, rfl⟩ := (RdS.of_owns ho1).form
  clear ho1
  go_wp2_with fail
  refine (HR.out _).mono ?_
  rintro e w3 ⟨v2, rfl, ho2, hb3⟩
  have hbx3 := (hb3.block w.heap.size (Array.getElem?_eq_some_iff.1 hbx2).1).trans hbx2
  have hB := bthen hB (Nat.le_refl _) hb3
  have hr1 := HO1.out.below hb3
  clear q0 q1 q2 q3 q4 q5 q6 q7 q8 q9 q10 q11 q12 hbx2 hb3 HO1
  have hr2 := RdS.of_owns ho2
  obtain ⟨a2, c2, rfl⟩ := hr2.form
  clear ho2
  have HX := Lib.hid hbx3
  clear hbx3
  rcases hr1.cases (by decide) with ⟨rfl, h1, a, cap, e1, hm⟩ | ⟨hn, hl, g, off, cap, e1, hnc, hcm, hc⟩
  · clear hr1 hr2 h1 hm e1
    go_wp2
    go_loop [7] (fun i => i = .int .i64 0) (fun i => 0)
    case atStart => rfl
    case round =>
      obtain rfl := hrel
      go_wp2
      go_quiet (fail)
      go_wp2
      go_ret
      exact ⟨rfl, belowN hB _⟩
  · cases e1
    rcases hr2.cases (by decide) with ⟨h0, _⟩ | ⟨_, hl', g', off', cap', e2, hnc', hcm', hc'⟩
    · omega
    cases e2
    have HC := Lib.hid hc
    have HC' := Lib.hid hc'
    clear hc hc' hl hl' hr1 hr2
    go_wp2
    go_loopw [7] (fun i wr => ∃ j : Nat, j ≤ M ∧ i = .int .i64 j ∧ Below w3.heap.size w3 wr) (fun i _ => M - (intOf i).toNat)
    case atStart => exact ⟨0, by omega, rfl, Below.refl _ _⟩
    case round =>
      obtain ⟨j, hj, rfl, hbw⟩ := hrel
      by_cases hlt : j < M
      · obtain ⟨g0, g1, g2⟩ := wins_get A L f k M j hlt
        have x0 := cellB hbw (HC.out _ _ g0)
        have x1 := cellB hbw (HC.out _ _ g1)
        have x2 := cellB hbw (HC.out _ _ g2)
        have y0 := cellB hbw (HC'.out _ _ g0)
        have y1 := cellB hbw (HC'.out _ _ g1)
        have y2 := cellB hbw (HC'.out _ _ g2)
        rw [← Nat.add_assoc] at x1 x2 y1 y2
        clear g0 g1 g2
        go_wp2
        go_quiet (fail)
        go_wp2
        go_roundw
        case rel => exact ⟨j + 1, by omega, by go_num, belowN hbw _⟩
        case measure => simp [intOf]; omega
      · obtain rfl : j = M := by omega
        have hst := (hbw.block w.heap.size (Array.getElem?_eq_some_iff.1 HX.out).1).trans HX.out
        obtain ⟨q0, q1, q2, q3, q4, q5, q6, q7, q8, q9, q10, q11, q12⟩ := cells13a hst
        clear hst
        obtain ⟨_, _, g2⟩ := wins_get A L f k j (j - 1) (by omega)
        obtain ⟨_, g1, _⟩ := wins_get A L f k j 0 (by omega)
        rw [planAt_zero] at g1
        have x2 := cellB hbw (HC.out _ _ g2)
        have x1 := cellB hbw (HC.out _ _ g1)
        rw [← Nat.add_assoc] at x2
        rw [show off + (0 * 3 + 1) = off + 1 by omega] at x1
        have hpl := planAt_range (f := f) (k := k) har hlr (show j - 1 ≤ 10 by omega)
        have hsp := plan_span A L f k m l j HM.out hn HL.out
        have hE : -1099511627776 ≤ planAt A L f k (j - 1) + L ∧ planAt A L f k (j - 1) + L ≤ 1099511837776 := by omega
        clear hpl
        generalize planAt A L f k (j - 1) + L = E at *
        have hsub : IntKind.i64.wrap (E - A) = spanI m f k l := by rw [IntWalk.i64_in _ (by omega)]; exact hsp
        have hz : ((j : Int) == 0) = false := by simp; omega
        obtain ⟨x, hx⟩ : ∃ x, (j : Int) - 1 = x := ⟨_, rfl⟩
        have hi0 : (0 : Int) ≤ x := by omega
        have hi1 : x < (j : Int) := by omega
        have hi4 : (0 : Int) < (j : Int) := by omega
        have hi2 : x.toNat = j - 1 := by omega
        have hi3 : IntKind.i64.wrap ((j : Int) - 1) = x := by rw [IntWalk.i64_in _ (by omega)]; exact hx
        clear g1 g2 hsp hx hE
        go_wp2
        go_region_held3 (fun w' => (Below wr.heap.size wr w' ∧ w'.cell? ⟨w.heap.size, 0, none⟩ = some (.string s0) ∧ w'.cell? ⟨w.heap.size, 1, none⟩ = some (.string s1) ∧ w'.cell? ⟨w.heap.size, 2, none⟩ = some (.string s2) ∧ w'.cell? ⟨w.heap.size, 3, none⟩ = some (.slice af an ac) ∧ w'.cell? ⟨w.heap.size, 4, none⟩ = some (.int .i64 m) ∧ w'.cell? ⟨w.heap.size, 5, none⟩ = some (.int .i64 f) ∧ w'.cell? ⟨w.heap.size, 6, none⟩ = some (.int .i64 k) ∧ w'.cell? ⟨w.heap.size, 7, none⟩ = some (.int .i64 l) ∧ w'.cell? ⟨w.heap.size, 8, none⟩ = some (.int .u8 nk) ∧ w'.cell? ⟨w.heap.size, 9, none⟩ = some (.string nt) ∧ w'.cell? ⟨w.heap.size, 10, none⟩ = some (.slice ka kn kc) ∧ w'.cell? ⟨w.heap.size, 11, none⟩ = some (.slice da dn dc) ∧ w'.cell? ⟨w.heap.size, 12, none⟩ = some (.int .i64 nl)) ∧ w'.cell? ⟨g, off + (j - 1) * 3 + 2, none⟩ = some (.int .i64 E) ∧ w'.cell? ⟨g, off + 1, none⟩ = some (.int .i64 A))
          (first | exact ⟨⟨(Below.refl _ _).drew, q0, q1, q2, q3, q4, q5, q6, q7, q8, q9, q10, q11, q12⟩, x2, x1⟩ | exact held15 (by assumption) (by assumption)) (first
            | (go_at_call 23; refine (HS.out _).mono ?_; rintro e w7 ⟨rfl, hb7⟩))
        all_goals (go_wp2; go_ret; rename_i hS; exact ⟨by simp, bthen (hB.trans (hbw.mono hB.size)) (Nat.le_refl _) hS.1.1⟩)
end Go.Proofs.Ytkaadkjbimaodaa
