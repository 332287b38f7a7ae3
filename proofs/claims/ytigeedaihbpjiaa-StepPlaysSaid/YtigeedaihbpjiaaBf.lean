/-
  backoff.Waits: contract.
-/
import Derived.Test.YtigeedaihbpjiaaBe
import Derived.Test.YtigeedaihbpjiaaPv
import Derived.Test.YtigeedaihbpjiaaSl
import Derived.Deep.DeepMust
namespace Go.Proofs.Ytigeedaihbpjiaa
open Go.RowKit
attribute [local go_sem] Oper.semAt_some wide_fn wide_depth wide_fn' wide_depth'

theorem Try.infoInt : (Try.prog.info? 3).map (fun i => (i.zero, i.size, i.bytes)) = some (some (.int .i64 0), 1, 8) := by kernel_rfl
theorem Keep.of_below {n0 : Nat} {S : Nat → Prop} {W W' : World} (hn : n0 ≤ W.heap.size) (hS : ∀ k, S k → n0 ≤ k ∧ k < W.heap.size) (h : Below W.heap.size W W') : Keep n0 S W W' :=
  ⟨h.mono hn, fun k hk => h.block k (hS k hk).2⟩


end Go.Proofs.Ytigeedaihbpjiaa
