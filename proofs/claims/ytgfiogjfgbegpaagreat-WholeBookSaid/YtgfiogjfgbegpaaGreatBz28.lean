/-
  backoff.waits: the iterator's contract.
-/
import Derived.Sort.LoopGhostIn
import Derived.Shelf.RegionOpen
import Derived.Deep.DeepMust
import Derived.Test.YtgfiogjfgbegpaaGreatBz1
import Derived.Test.YtgfiogjfgbegpaaGreatBz4
import Derived.Test.YtgfiogjfgbegpaaGreatBz6
import Derived.Test.YtgfiogjfgbegpaaGreatBz23
namespace Go.Proofs.YtgfiogjfgbegpaaGreat
open Go.RowKit
attribute [local go_sem] Oper.semAt_some wide_fn wide_depth wide_fn' wide_depth'

end Go.Proofs.YtgfiogjfgbegpaaGreat

/-
  backoff.More, Wait, Waits, Total: contracts.
-/
namespace Go.Proofs.YtgfiogjfgbegpaaGreat
open Go.RowKit
attribute [local go_sem] Oper.semAt_some wide_fn wide_depth wide_fn' wide_depth'

end Go.Proofs.YtgfiogjfgbegpaaGreat

/-
  backoff.Waits: contract.
-/
namespace Go.Proofs.YtgfiogjfgbegpaaGreat
open Go.RowKit
attribute [local go_sem] Oper.semAt_some wide_fn wide_depth wide_fn' wide_depth'

theorem Keep.of_below {n0 : Nat} {S : Nat → Prop} {W W' : World} (hn : n0 ≤ W.heap.size) (hS : ∀ k, S k → n0 ≤ k ∧ k < W.heap.size) (h : Below W.heap.size W W') : Keep n0 S W W' :=
  ⟨h.mono hn, fun k hk => h.block k (hS k hk).2⟩


end Go.Proofs.YtgfiogjfgbegpaaGreat

/-
  backoff.Total, the reference's Wait and Total: contracts.
-/
namespace Go.Proofs.YtgfiogjfgbegpaaGreat
open Go.RowKit

end Go.Proofs.YtgfiogjfgbegpaaGreat
