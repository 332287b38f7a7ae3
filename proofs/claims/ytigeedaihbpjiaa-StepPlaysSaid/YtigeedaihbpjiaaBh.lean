/-
  backoff.Span, the reference's Span: contracts.
-/
import Derived.Test.YtigeedaihbpjiaaBg
import Derived.Deep.RegionHeld3
import Derived.Deep.DrawnRows
namespace Go.Proofs.Ytigeedaihbpjiaa
open Go.RowKit
attribute [local go_sem ↓] Go.wp_at_zero Go.wp_at_succ

theorem field_step5 (c0 c1 c2 c3 c4 c5 c6 c7 c8 c9 c10 c11 c12 : Value) (w : World) : (Instr.field 82 (.agg #[c0, c1, c2, c3, c4, c5, c6, c7, c8, c9, c10, c11, c12]) 5).run Try.prog w = .ok c7 w := by kernel_rfl

theorem cells13h {W : World} {B : Nat} {c0 c1 c2 c3 c4 c5 c6 c7 c8 c9 c10 c11 c12 : Value} {t : TypeId} (h : W.heap[B]? = some (.cells #[c0, c1, c2, c3, c4, c5, c6, c7, c8, c9, c10, c11, c12] t (0, 0))) :
    W.cell? ⟨B, 4, none⟩ = some c4 ∧ W.cell? ⟨B, 5, none⟩ = some c5 ∧ W.cell? ⟨B, 6, none⟩ = some c6 := by
  simp [World.cell?, h]

/-- How many ticks a step may take. -/
def limI (l : Int) : Int := min (max (or0 l 100) 0) 10000
theorem limI_range (l : Int) : 0 ≤ limI l ∧ limI l ≤ 10000 := by unfold limI; omega
def spanI (m f k l : Int) : Int := limI l * bMost m + bSum f k (wN m)
theorem lim_mul (l m : Int) : 0 ≤ limI l * bMost m ∧ limI l * bMost m ≤ 100000 := by
  have h1 := limI_range l
  have h2 := bMost_range m
  refine ⟨Int.mul_nonneg h1.1 h2.1, ?_⟩
  have := Int.mul_le_mul h1.2 h2.2 h2.1 (by omega)
  omega

theorem held3 {w1 W W' : World} {p q r : Addr} {a b c : Value} (h : Below w1.heap.size w1 W ∧ W.cell? p = some a ∧ W.cell? q = some b ∧ W.cell? r = some c) (hb : Below W.heap.size W W') :
    Below w1.heap.size w1 W' ∧ W'.cell? p = some a ∧ W'.cell? q = some b ∧ W'.cell? r = some c :=
  ⟨bthen h.1 (Nat.le_refl _) hb, cellB hb h.2.1, cellB hb h.2.2.1, cellB hb h.2.2.2⟩

end Go.Proofs.Ytigeedaihbpjiaa
