/-
  The law BackoffSpans: its walk.
-/
import Derived.Test.YtkaadkjbimaodaaBk
namespace Go.Proofs.Ytkaadkjbimaodaa
open Go.RowKit
attribute [local go_sem ↓] Go.wp_at_zero Go.wp_at_succ

theorem cells13a {W : World} {B : Nat} {c0 c1 c2 c3 c4 c5 c6 c7 c8 c9 c10 c11 c12 : Value} {t : TypeId} (h : W.heap[B]? = some (.cells #[c0, c1, c2, c3, c4, c5, c6, c7, c8, c9, c10, c11, c12] t (0, 0))) :
    W.cell? ⟨B, 0, none⟩ = some c0 ∧ W.cell? ⟨B, 1, none⟩ = some c1 ∧ W.cell? ⟨B, 2, none⟩ = some c2 ∧ W.cell? ⟨B, 3, none⟩ = some c3 ∧ W.cell? ⟨B, 4, none⟩ = some c4 ∧ W.cell? ⟨B, 5, none⟩ = some c5 ∧ W.cell? ⟨B, 6, none⟩ = some c6 ∧ W.cell? ⟨B, 7, none⟩ = some c7 ∧ W.cell? ⟨B, 8, none⟩ = some c8 ∧ W.cell? ⟨B, 9, none⟩ = some c9 ∧ W.cell? ⟨B, 10, none⟩ = some c10 ∧ W.cell? ⟨B, 11, none⟩ = some c11 ∧ W.cell? ⟨B, 12, none⟩ = some c12 := by
  simp [World.cell?, h]
theorem held13 {w1 W W' : World} {B : Nat} {c0 c1 c2 c3 c4 c5 c6 c7 c8 c9 c10 c11 c12 : Value} (h : Below w1.heap.size w1 W ∧ W.cell? ⟨B, 0, none⟩ = some c0 ∧ W.cell? ⟨B, 1, none⟩ = some c1 ∧ W.cell? ⟨B, 2, none⟩ = some c2 ∧ W.cell? ⟨B, 3, none⟩ = some c3 ∧ W.cell? ⟨B, 4, none⟩ = some c4 ∧ W.cell? ⟨B, 5, none⟩ = some c5 ∧ W.cell? ⟨B, 6, none⟩ = some c6 ∧ W.cell? ⟨B, 7, none⟩ = some c7 ∧ W.cell? ⟨B, 8, none⟩ = some c8 ∧ W.cell? ⟨B, 9, none⟩ = some c9 ∧ W.cell? ⟨B, 10, none⟩ = some c10 ∧ W.cell? ⟨B, 11, none⟩ = some c11 ∧ W.cell? ⟨B, 12, none⟩ = some c12) (hb : Below W.heap.size W W') :
    Below w1.heap.size w1 W' ∧ W'.cell? ⟨B, 0, none⟩ = some c0 ∧ W'.cell? ⟨B, 1, none⟩ = some c1 ∧ W'.cell? ⟨B, 2, none⟩ = some c2 ∧ W'.cell? ⟨B, 3, none⟩ = some c3 ∧ W'.cell? ⟨B, 4, none⟩ = some c4 ∧ W'.cell? ⟨B, 5, none⟩ = some c5 ∧ W'.cell? ⟨B, 6, none⟩ = some c6 ∧ W'.cell? ⟨B, 7, none⟩ = some c7 ∧ W'.cell? ⟨B, 8, none⟩ = some c8 ∧ W'.cell? ⟨B, 9, none⟩ = some c9 ∧ W'.cell? ⟨B, 10, none⟩ = some c10 ∧ W'.cell? ⟨B, 11, none⟩ = some c11 ∧ W'.cell? ⟨B, 12, none⟩ = some c12 :=
  ⟨bthen h.1 (Nat.le_refl _) hb, cellB hb h.2.1, cellB hb h.2.2.1, cellB hb h.2.2.2.1, cellB hb h.2.2.2.2.1, cellB hb h.2.2.2.2.2.1, cellB hb h.2.2.2.2.2.2.1, cellB hb h.2.2.2.2.2.2.2.1, cellB hb h.2.2.2.2.2.2.2.2.1, cellB hb h.2.2.2.2.2.2.2.2.2.1, cellB hb h.2.2.2.2.2.2.2.2.2.2.1, cellB hb h.2.2.2.2.2.2.2.2.2.2.2.1, cellB hb h.2.2.2.2.2.2.2.2.2.2.2.2.1, cellB hb h.2.2.2.2.2.2.2.2.2.2.2.2.2⟩

set_option maxRecDepth 100000 in
set_option maxHeartbeats 2000000 in
theorem BackoffSpans_any (s0 s1 s2 : ByteArray) (af : Option Addr) (an ac : Nat) (m f k l : Int) (nk : Int) (nt : ByteArray) (ka : Option Addr) (kn kc : Nat) (da : Option Addr) (dn dc : Nat) (nl : Int) (w : World) :
    Calls Try.prog 4 #[stepV s0 s1 s2 af an ac m f k l nk nt ka kn kc da dn dc nl] w fun e w' => e = .returned (.bool true) ∧ Below w.heap.size w w' := by
  have hsp : 0 ≤ spanI m f k l := by
    have h1 := lim_mul l m
    have h2 := bSum_range f k (wN m)
    unfold spanI; omega
  have hd : decide (0 ≤ spanI m f k l) = true := by simpa using hsp
  obtain ⟨sp, hsp'⟩ : ∃ sp, spanI m f k l = sp := ⟨_, rfl⟩
  rw [hsp'] at hsp hd
  have HSP := Lib.hid hsp'
  clear hsp'
  unfold stepV
  go_enter Try.func4, Try.ntmps4
  go_wp2_with fail
  refine (live29_any _).mono ?_
  rintro e w1 ⟨rfl, hb1⟩
  have hbx := (hb1.block w.heap.size (by simp)).trans (World.alloc_heap_new w _)
  have hB := ((Below.refl _ w).alloc (Nat.le_refl _) _).trans (hb1.mono (by simp))
  clear hb1
  obtain ⟨q0, q1, q2, q3, q4, q5, q6, q7, q8, q9, q10, q11, q12⟩ := cells13a hbx
  clear hbx
  go_wp2_with fail
  go_region_held3 (fun w' => Below w1.heap.size w1 w' ∧ w'.cell? ⟨w.heap.size, 0, none⟩ = some (.string s0) ∧ w'.cell? ⟨w.heap.size, 1, none⟩ = some (.string s1) ∧ w'.cell? ⟨w.heap.size, 2, none⟩ = some (.string s2) ∧ w'.cell? ⟨w.heap.size, 3, none⟩ = some (.slice af an ac) ∧ w'.cell? ⟨w.heap.size, 4, none⟩ = some (.int .i64 m) ∧ w'.cell? ⟨w.heap.size, 5, none⟩ = some (.int .i64 f) ∧ w'.cell? ⟨w.heap.size, 6, none⟩ = some (.int .i64 k) ∧ w'.cell? ⟨w.heap.size, 7, none⟩ = some (.int .i64 l) ∧ w'.cell? ⟨w.heap.size, 8, none⟩ = some (.int .u8 nk) ∧ w'.cell? ⟨w.heap.size, 9, none⟩ = some (.string nt) ∧ w'.cell? ⟨w.heap.size, 10, none⟩ = some (.slice ka kn kc) ∧ w'.cell? ⟨w.heap.size, 11, none⟩ = some (.slice da dn dc) ∧ w'.cell? ⟨w.heap.size, 12, none⟩ = some (.int .i64 nl))
    (first | exact ⟨(Below.refl _ _).drew, q0, q1, q2, q3, q4, q5, q6, q7, q8, q9, q10, q11, q12⟩ | exact held13 (by assumption) (by assumption)) (first
      | (go_at_call 23; refine (Span_any _ _ _ _ _ _ m f k l _ _ _ _ _ _ _ _ _ _).mono ?_; rintro e w7 ⟨rfl, hb7⟩; rw [HSP.out])
      | (go_at_call 24; refine (rSpan_any _ _ _ _ _ _ m f k l _ _ _ _ _ _ _ _ _ _).mono ?_; rintro e w8 ⟨rfl, hb8⟩; rw [HSP.out]))
  all_goals (go_wp2; go_ret; rename_i hS; exact ⟨by simp, bthen hB (Nat.le_refl _) hS.1⟩)
end Go.Proofs.Ytkaadkjbimaodaa
