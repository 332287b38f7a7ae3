/-
  graph.has: the iterator's contract.
-/
import Derived.Sort.LoopGhostIn
import Derived.Test.YtlakmfhpinljjaaBp4
import Derived.Test.YtlakmfhpinljjaaBp14
namespace Go.Proofs.Ytlakmfhpinljjaa
open Go.RowKit
attribute [local go_sem] Oper.semAt_some wide_fn wide_depth wide_fn' wide_depth'

/-- The places behind which one comes. -/
def inB (n : Nat) (j : Int) : Bool := decide (0 ≤ j ∧ j < n)
def depL (n : Nat) (row : List Int) : List Int := row.filter (inB n)
theorem depL_yes {n : Nat} {row : List Int} {k : Nat} (h : k < row.length) (hj : inB n row[k] = true) : depL n (row.take (k + 1)) = depL n (row.take k) ++ [row[k]] := by
  unfold depL; rw [take_snocG row k h, List.filter_append]; simp [hj]
theorem depL_no {n : Nat} {row : List Int} {k : Nat} (h : k < row.length) (hj : inB n row[k] = false) : depL n (row.take (k + 1)) = depL n (row.take k) := by
  unfold depL; rw [take_snocG row k h, List.filter_append]; simp [hj]
theorem depL_prefix (n : Nat) (row : List Int) (k : Nat) : depL n (row.take k) <+: depL n row := by
  unfold depL
  exact List.IsPrefix.filter _ (List.take_prefix k row)
def encZ (x : Int) : Array Value := #[.int .i64 x]

end Go.Proofs.Ytlakmfhpinljjaa
