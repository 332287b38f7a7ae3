/-
  GraphOrders: the law's walk.
-/
import Derived.Test.YtlpcagkknfajeaaGl
import Derived.Test.YtlpcagkknfajeaaOg
namespace Go.Proofs.Ytlpcagkknfajeaa
open Go.RowKit

theorem rnd_has (rows : List (List Int)) (k : Nat) : rndB rows k = !hasB ((ordO rows).map Int.ofNat) (k : Int) := by
  unfold rndB hasB
  congr 1
  rw [Bool.eq_iff_iff]
  simp only [decide_eq_true_eq, List.contains_iff_mem]
  exact mem_ofNat.symm

end Go.Proofs.Ytlpcagkknfajeaa
