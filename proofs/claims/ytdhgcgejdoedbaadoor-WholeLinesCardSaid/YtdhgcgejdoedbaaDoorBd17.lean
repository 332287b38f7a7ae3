/-
  block.clone, block.Copy: contracts.
-/
import Derived.Test.YtdhgcgejdoedbaaDoorBd7
import Derived.Test.YtdhgcgejdoedbaaDoorBd14
import Derived.Test.YtdhgcgejdoedbaaDoorBd16
namespace Go.Proofs.YtdhgcgejdoedbaaDoor
open Go Go.RowKit Go.WideShapes
attribute [local go_sem ↓] Go.wp_at_zero Go.wp_at_succ

theorem cells5w {W : World} {B : Nat} {a b c d e : Value} {t : TypeId} (h : W.heap[B]? = some (.cells #[a, b, c, d, e] t (0, 0))) :
    W.frozen? ⟨B, 0, none⟩ = false ∧ W.frozen? ⟨B, 1, none⟩ = false ∧ W.frozen? ⟨B, 2, none⟩ = false ∧ W.frozen? ⟨B, 3, none⟩ = false ∧ W.frozen? ⟨B, 4, none⟩ = false := by
  simp [World.frozen?, h]

theorem set5w {W : World} {B : Nat} {a b c d e x0 x1 x2 x3 x4 : Value} {t : TypeId} (h : W.heap[B]? = some (.cells #[a, b, c, d, e] t (0, 0))) :
    (((((W.setCell ⟨B, 0, none⟩ x0).setCell ⟨B, 1, none⟩ x1).setCell ⟨B, 2, none⟩ x2).setCell ⟨B, 3, none⟩ x3).setCell ⟨B, 4, none⟩ x4).heap[B]? = some (.cells #[x0, x1, x2, x3, x4] t (0, 0)) := by
  simp [World.setCell, h, Array.getElem?_modify]
theorem set5w_other {W : World} {B k : Nat} {x0 x1 x2 x3 x4 : Value} (h : k ≠ B) :
    (((((W.setCell ⟨B, 0, none⟩ x0).setCell ⟨B, 1, none⟩ x1).setCell ⟨B, 2, none⟩ x2).setCell ⟨B, 3, none⟩ x3).setCell ⟨B, 4, none⟩ x4).heap[k]? = W.heap[k]? := by
  rw [Below.heap_setCell _ _ _ _ h, Below.heap_setCell _ _ _ _ h, Below.heap_setCell _ _ _ _ h, Below.heap_setCell _ _ _ _ h, Below.heap_setCell _ _ _ _ h]
theorem set5w_below {n : Nat} {w W : World} (hb : Below n w W) {B : Nat} {x0 x1 x2 x3 x4 : Value} (h : n ≤ B) :
    Below n w (((((W.setCell ⟨B, 0, none⟩ x0).setCell ⟨B, 1, none⟩ x1).setCell ⟨B, 2, none⟩ x2).setCell ⟨B, 3, none⟩ x3).setCell ⟨B, 4, none⟩ x4) :=
  ((((hb.setCell (p := ⟨B, 0, none⟩) h _).setCell (p := ⟨B, 1, none⟩) h _).setCell (p := ⟨B, 2, none⟩) h _).setCell (p := ⟨B, 3, none⟩) h _).setCell (p := ⟨B, 4, none⟩) h _
theorem held6 {W W' : World} {p q r s u o : Addr} {a b c d e f : Value} (h : W.cell? p = some a ∧ W.cell? q = some b ∧ W.cell? r = some c ∧ W.cell? s = some d ∧ W.cell? u = some e ∧ W.cell? o = some f) (hb : Below W.heap.size W W') :
    W'.cell? p = some a ∧ W'.cell? q = some b ∧ W'.cell? r = some c ∧ W'.cell? s = some d ∧ W'.cell? u = some e ∧ W'.cell? o = some f := ⟨cellB hb h.1, cellB hb h.2.1, cellB hb h.2.2.1, cellB hb h.2.2.2.1, cellB hb h.2.2.2.2.1, cellB hb h.2.2.2.2.2⟩
theorem five_set {W : World} {B : Nat} {a b c d e x y : Value} {t : TypeId} (h : W.heap[B]? = some (.cells #[a, b, c, d, e] t (0, 0))) :
    ((W.setCell ⟨B, 2, none⟩ x).setCell ⟨B, 3, none⟩ y).heap[B]? = some (.cells #[a, b, x, y, e] t (0, 0)) := by
  simp [World.setCell, h, Array.getElem?_modify]

end Go.Proofs.YtdhgcgejdoedbaaDoor
