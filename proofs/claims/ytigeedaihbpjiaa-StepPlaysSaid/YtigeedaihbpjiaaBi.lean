/-
  backoff.Plan: contract.
-/
import Derived.Test.YtigeedaihbpjiaaBh
import Derived.Test.YtigeedaihbpjiaaPd
namespace Go.Proofs.Ytigeedaihbpjiaa
open Go.RowKit
attribute [local go_sem] Oper.semAt_some wide_fn wide_depth wide_fn' wide_depth'

theorem cells_new3 (W : World) (a b c : Value) (t : TypeId) : ∀ j u, [a, b, c][j]? = some u → (W.alloc (.cells #[a, b, c] t)).cell? (Addr.add ⟨W.heap.size, 0, none⟩ j) = some u := by
  intro j u h
  rcases j with _ | _ | _ | j
  · simpa [Addr.add, World.cell?_alloc_new] using h
  · simpa [Addr.add, World.cell?_alloc_new] using h
  · simpa [Addr.add, World.cell?_alloc_new] using h
  · simp at h

end Go.Proofs.Ytigeedaihbpjiaa
