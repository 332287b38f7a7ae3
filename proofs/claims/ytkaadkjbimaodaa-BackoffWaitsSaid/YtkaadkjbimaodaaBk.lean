/-
  backoff: live.
-/
import Derived.Test.YtkaadkjbimaodaaBj
namespace Go.Proofs.Ytkaadkjbimaodaa
open Go.RowKit

theorem live29_1 : ints .i64 (bList 5 3 3) = [.int .i64 5, .int .i64 15, .int .i64 45] := by rw [show bList 5 3 3 = [5, 15, 45] by decide +kernel]; rfl
theorem live29_2 : waitI 5 3 9 = 1000 ∧ waitI 5 3 0 = 0 ∧ bSum 5 3 (wN 4) = 65 ∧ moreB 4 3 = true ∧ moreB 4 4 = false ∧ spanI 4 5 3 10 = 105 ∧ spanI 0 0 0 0 = 100 ∧ wN 4 = 3 := by decide +kernel

theorem boxed3_below {w w' : World} {B : Nat} {m f k : Int} (h : Boxed3 w B m f k) (hb : Below w.heap.size w w') : Boxed3 w' B m f k := (hb.block B (Array.getElem?_eq_some_iff.1 h).1).trans h

set_option maxRecDepth 100000 in
set_option maxHeartbeats 2000000 in
theorem live29_any (w : World) : Calls Try.prog 15 #[] w fun e w' => e = .returned (.bool true) ∧ Below w.heap.size w w' := by
  obtain ⟨l1, l2, l3, l4, l5, l6, l7, l8⟩ := live29_2
  have L1 := Lib.hid l1; have L2 := Lib.hid l2; have L3 := Lib.hid l3; have L4 := Lib.hid l4; have L5 := Lib.hid l5; have L6 := Lib.hid l6; have L7 := Lib.hid l7; have L8 := Lib.hid l8
  clear l1 l2 l3 l4 l5 l6 l7 l8
  have hW : ∀ w, Calls Try.prog 16 #[.agg #[.int .i64 4, .int .i64 5, .int .i64 3]] w fun e w' => (∃ v, e = .returned v ∧ RdS w' v 1 3 [.int .i64 5, .int .i64 15, .int .i64 45]) ∧ Below w.heap.size w w' := fun w => by
    refine (Waits_any 4 5 3 w).mono ?_
    rintro e w' ⟨v, rfl, h, hb⟩
    have := RdS.of_owns h
    rw [L8.out, live29_1] at this
    exact ⟨⟨v, rfl, this⟩, hb⟩
  have HW := Lib.hid hW
  clear hW
  go_enter Try.func15, Try.ntmps15
  go_wp2_with fail
  refine (HW.out _).mono ?_
  rintro e w1 ⟨⟨v, rfl, hr⟩, hb1⟩
  have hbx : Boxed3 w1 w.heap.size 4 5 3 := boxed3_below (World.alloc_heap_new w _) hb1
  have hB := ((Below.refl _ w).alloc (Nat.le_refl _) _).trans (hb1.mono (by simp))
  clear hb1
  rcases hr.cases (by decide) with ⟨h0, _⟩ | ⟨hn, _, g, off, cap, rfl, hnc, hcm, hc⟩
  · omega
  have c0 := hc 0 _ rfl
  have c1 := hc 1 _ rfl
  have c2 := hc 2 _ rfl
  rw [Nat.add_zero] at c0
  clear hc hr
  obtain ⟨q0, q1, q2, _⟩ := cells3h hbx
  go_wp2_with fail
  refine (Wait_any 4 5 3 9 _).mono ?_
  rintro e w2 ⟨rfl, hb1⟩
  rw [L1.out]
  have hbx := boxed3_below hbx hb1
  have hB := hB.trans (hb1.mono hB.size)
  clear q0 q1 q2 hb1 c0 c1 c2
  obtain ⟨q0, q1, q2, _⟩ := cells3h hbx
  go_wp2_with fail
  refine (Wait_any 4 5 3 0 _).mono ?_
  rintro e w3 ⟨rfl, hb1⟩
  rw [L2.out]
  have hbx := boxed3_below hbx hb1
  have hB := hB.trans (hb1.mono hB.size)
  clear q0 q1 q2 hb1
  obtain ⟨q0, q1, q2, _⟩ := cells3h hbx
  go_wp2_with fail
  refine (Total_any 4 5 3 _).mono ?_
  rintro e w4 ⟨rfl, hb1⟩
  rw [L3.out]
  have hbx := boxed3_below hbx hb1
  have hB := hB.trans (hb1.mono hB.size)
  clear q0 q1 q2 hb1
  obtain ⟨q0, q1, q2, _⟩ := cells3h hbx
  go_wp2_with fail
  refine (More_any 4 5 3 3 _).mono ?_
  rintro e w5 ⟨rfl, hb1⟩
  rw [L4.out]
  have hbx := boxed3_below hbx hb1
  have hB := hB.trans (hb1.mono hB.size)
  clear q0 q1 q2 hb1
  obtain ⟨q0, q1, q2, _⟩ := cells3h hbx
  go_wp2_with fail
  refine (More_any 4 5 3 4 _).mono ?_
  rintro e w6 ⟨rfl, hb1⟩
  rw [L5.out]
  have hbx := boxed3_below hbx hb1
  have hB := hB.trans (hb1.mono hB.size)
  clear q0 q1 q2 hb1
  obtain ⟨q0, q1, q2, _⟩ := cells3h hbx
  go_wp2_with fail
  refine (Span_any _ _ _ _ _ _ 4 5 3 10 _ _ _ _ _ _ _ _ _ _).mono ?_
  rintro e w7 ⟨rfl, hb1⟩
  rw [L6.out]
  have hB := hB.trans (hb1.mono hB.size)
  clear q0 q1 q2 hb1 hbx
  go_wp2_with fail
  refine (Span_any _ _ _ _ _ _ 0 0 0 0 _ _ _ _ _ _ _ _ _ _).mono ?_
  rintro e w8 ⟨rfl, hb1⟩
  rw [L7.out]
  have hB := hB.trans (hb1.mono hB.size)
  go_wp2
  go_ret
  exact ⟨rfl, hB⟩
end Go.Proofs.Ytkaadkjbimaodaa
