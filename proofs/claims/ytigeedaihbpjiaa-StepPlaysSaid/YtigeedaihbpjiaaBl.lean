/-
  The law BackoffSpans: its walk.
-/
import Derived.Test.YtigeedaihbpjiaaBk
namespace Go.Proofs.Ytigeedaihbpjiaa
open Go.RowKit
attribute [local go_sem ↓] Go.wp_at_zero Go.wp_at_succ

theorem cells13a {W : World} {B : Nat} {c0 c1 c2 c3 c4 c5 c6 c7 c8 c9 c10 c11 c12 : Value} {t : TypeId} (h : W.heap[B]? = some (.cells #[c0, c1, c2, c3, c4, c5, c6, c7, c8, c9, c10, c11, c12] t (0, 0))) :
    W.cell? ⟨B, 0, none⟩ = some c0 ∧ W.cell? ⟨B, 1, none⟩ = some c1 ∧ W.cell? ⟨B, 2, none⟩ = some c2 ∧ W.cell? ⟨B, 3, none⟩ = some c3 ∧ W.cell? ⟨B, 4, none⟩ = some c4 ∧ W.cell? ⟨B, 5, none⟩ = some c5 ∧ W.cell? ⟨B, 6, none⟩ = some c6 ∧ W.cell? ⟨B, 7, none⟩ = some c7 ∧ W.cell? ⟨B, 8, none⟩ = some c8 ∧ W.cell? ⟨B, 9, none⟩ = some c9 ∧ W.cell? ⟨B, 10, none⟩ = some c10 ∧ W.cell? ⟨B, 11, none⟩ = some c11 ∧ W.cell? ⟨B, 12, none⟩ = some c12 := by
  simp [World.cell?, h]
theorem held13 {w1 W W' : World} {B : Nat} {c0 c1 c2 c3 c4 c5 c6 c7 c8 c9 c10 c11 c12 : Value} (h : Below w1.heap.size w1 W ∧ W.cell? ⟨B, 0, none⟩ = some c0 ∧ W.cell? ⟨B, 1, none⟩ = some c1 ∧ W.cell? ⟨B, 2, none⟩ = some c2 ∧ W.cell? ⟨B, 3, none⟩ = some c3 ∧ W.cell? ⟨B, 4, none⟩ = some c4 ∧ W.cell? ⟨B, 5, none⟩ = some c5 ∧ W.cell? ⟨B, 6, none⟩ = some c6 ∧ W.cell? ⟨B, 7, none⟩ = some c7 ∧ W.cell? ⟨B, 8, none⟩ = some c8 ∧ W.cell? ⟨B, 9, none⟩ = some c9 ∧ W.cell? ⟨B, 10, none⟩ = some c10 ∧ W.cell? ⟨B, 11, none⟩ = some c11 ∧ W.cell? ⟨B, 12, none⟩ = some c12) (hb : Below W.heap.size W W') :
    Below w1.heap.size w1 W' ∧ W'.cell? ⟨B, 0, none⟩ = some c0 ∧ W'.cell? ⟨B, 1, none⟩ = some c1 ∧ W'.cell? ⟨B, 2, none⟩ = some c2 ∧ W'.cell? ⟨B, 3, none⟩ = some c3 ∧ W'.cell? ⟨B, 4, none⟩ = some c4 ∧ W'.cell? ⟨B, 5, none⟩ = some c5 ∧ W'.cell? ⟨B, 6, none⟩ = some c6 ∧ W'.cell? ⟨B, 7, none⟩ = some c7 ∧ W'.cell? ⟨B, 8, none⟩ = some c8 ∧ W'.cell? ⟨B, 9, none⟩ = some c9 ∧ W'.cell? ⟨B, 10, none⟩ = some c10 ∧ W'.cell? ⟨B, 11, none⟩ = some c11 ∧ W'.cell? ⟨B, 12, none⟩ = some c12 :=
  ⟨bthen h.1 (Nat.le_refl _) hb, cellB hb h.2.1, cellB hb h.2.2.1, cellB hb h.2.2.2.1, cellB hb h.2.2.2.2.1, cellB hb h.2.2.2.2.2.1, cellB hb h.2.2.2.2.2.2.1, cellB hb h.2.2.2.2.2.2.2.1, cellB hb h.2.2.2.2.2.2.2.2.1, cellB hb h.2.2.2.2.2.2.2.2.2.1, cellB hb h.2.2.2.2.2.2.2.2.2.2.1, cellB hb h.2.2.2.2.2.2.2.2.2.2.2.1, cellB hb h.2.2.2.2.2.2.2.2.2.2.2.2.1, cellB hb h.2.2.2.2.2.2.2.2.2.2.2.2.2⟩

end Go.Proofs.Ytigeedaihbpjiaa
