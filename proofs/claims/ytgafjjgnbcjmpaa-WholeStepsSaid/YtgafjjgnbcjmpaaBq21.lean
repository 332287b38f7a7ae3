/-
  rescriptref21.put: contract.
-/
import Derived.Deep.Cut
import Derived.Test.YtgafjjgnbcjmpaaBq19
namespace Go.Proofs.Ytgafjjgnbcjmpaa
open Go Go.RowKit Go.WideShapes

theorem alloc3 (w : World) (t1 t2 t3 : TypeId) (c1 c2 c3 : Array Value) : Below w.heap.size w (((w.alloc (.cells c1 t1)).alloc (.cells c2 t2)).alloc (.cells c3 t3)) ∧ (((w.alloc (.cells c1 t1)).alloc (.cells c2 t2)).alloc (.cells c3 t3)).heap[w.heap.size]? = some (.cells c1 t1 (0, 0)) ∧ (((w.alloc (.cells c1 t1)).alloc (.cells c2 t2)).alloc (.cells c3 t3)).heap[w.heap.size + 1]? = some (.cells c2 t2 (0, 0)) ∧ (((w.alloc (.cells c1 t1)).alloc (.cells c2 t2)).alloc (.cells c3 t3)).heap[w.heap.size + 2]? = some (.cells c3 t3 (0, 0)) ∧ (((w.alloc (.cells c1 t1)).alloc (.cells c2 t2)).alloc (.cells c3 t3)).heap.size = w.heap.size + 3 := by
  obtain ⟨a1, a2, a3, a4⟩ := alloc2 w t1 t2 c1 c2
  have hb := (Below.refl ((w.alloc (.cells c1 t1)).alloc (.cells c2 t2)).heap.size _).alloc (Nat.le_refl _) (.cells c3 t3)
  refine ⟨a1.alloc (by rw [a4]; omega) _, (hb.block _ (by omega)).trans a2, (hb.block _ (by omega)).trans a3, ?_, by simp⟩
  have h := World.alloc_heap_new ((w.alloc (.cells c1 t1)).alloc (.cells c2 t2)) (.cells c3 t3)
  rw [a4] at h
  exact h
/-- The blocks that a put may write, but for the rows of its Map: none that was. -/
structure KeptP (w w' : World) (v1 v2 : Value) : Prop where
  keep : ∀ g, g < w.heap.size → v1.ownBlock ≠ some g → v2.ownBlock ≠ some g → w'.heap[g]? = w.heap[g]?

end Go.Proofs.Ytgafjjgnbcjmpaa
