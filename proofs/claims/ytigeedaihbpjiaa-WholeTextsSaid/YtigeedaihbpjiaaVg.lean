/-
  varint: live.
-/
import Derived.Test.YtigeedaihbpjiaaVf
namespace Go.Proofs.Ytigeedaihbpjiaa
open Go.RowKit

theorem rds_lit {w : World} {e : TypeId} {c : Array Value} (n : Nat) (hn : c.size = n) (hm : n ≤ 1048576) : RdS (w.alloc (.cells c e)) (.slice (some ⟨w.heap.size, 0, none⟩) n n) 1 n c.toList := by
  refine ⟨by simp [hn], _, _, rfl, Nat.le_refl _, by unfold maxLen; omega, .inr ⟨_, _, rfl, fun i v hi => ?_⟩⟩
  have := World.alloc_heap_new w (.cells c e)
  unfold World.cell?
  rw [this]
  simpa using hi

def Boxed2 (W : World) (B : Nat) (t : TypeId) (a b : Value) : Prop := W.heap[B]? = some (.cells #[a, b] t (0, 0))
end Go.Proofs.Ytigeedaihbpjiaa
