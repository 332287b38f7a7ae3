/-
  What the walk is told of an argument that came in: numbers, slices of numbers. Conditions: none of the program's.
-/
import Derived.ProofKit
import Derived.OpenShut
import Derived.ShutString
import Derived.ChangeOld
import Derived.Test.YtdhgcgejdoedbaaGreatDoorBt6
namespace Go.Proofs.YtdhgcgejdoedbaaGreatDoor
open Go Go.RowKit Go.ChangeShapes Go.WideShapes Go.ChangeAt

theorem wf_u8 {n : Int} (h : (Lit.int .u8 n).wf = true) : 0 ≤ n ∧ n < 256 := by
  simp [Lit.wf, IntKind.min, IntKind.max, IntKind.bits, IntKind.signed] at h; omega
theorem wf_i64 {n : Int} (h : (Lit.int .i64 n).wf = true) : -9223372036854775808 ≤ n ∧ n ≤ 9223372036854775807 := by
  simp [Lit.wf, IntKind.min, IntKind.max, IntKind.bits, IntKind.signed] at h; omega
theorem trod_ltR {H : Type} {enc : TypeId × Value → H} {P : Program} {W : World} {t : TypeId} {v : Value} {d : DataW H} {ps : List MemPlace} (h : DataW.Trod enc P W 0 (fun _ => true) true t v d ps) : ∀ x ∈ ps, x.block < W.heap.size := by
  obtain ⟨m, hm⟩ := h; exact DataW.trod_lt m _ _ _ hm
end Go.Proofs.YtdhgcgejdoedbaaGreatDoor

/-
  The cells of a struct that came in. Conditions: none of the program's.
-/
namespace Go.Proofs.YtdhgcgejdoedbaaGreatDoor
open Go Go.RowKit Go.ChangeShapes Go.WideShapes Go.ChangeAt

section
variable {P : Program} {W : World} {base : Nat} {t : TypeId} {v : Value}
theorem open_aggW {fs : Array Field} {n : Nat} {ts : List TypeId} (ht : P.underlying t = some (.struct fs)) (hc : P.cellsOf t = n) (hts : P.cellTypes P.depth t = some ts) (hn : ts.length = n) (hv : Value.okWide P W .any base t v) :
    ∃ cs : Array Value, v = .agg cs ∧ cs.size = n ∧ ∀ i c u, i < n → cs[i]? = some c → ts[i]? = some u → Cell.okWide P W .any base u c := by
  simp only [Value.okWide, ht] at hv
  obtain ⟨cs, rfl, hsz, ts', hts', _, hcell⟩ := hv
  rw [hts] at hts'
  cases hts'
  refine ⟨cs, rfl, by rw [hsz, hc], fun i c u hi hci hui => ?_⟩
  obtain ⟨u', hu', hok⟩ := hcell i c hci
  rw [hn, Nat.mod_eq_of_lt hi, hui] at hu'
  cases hu'
  exact hok
end

end Go.Proofs.YtdhgcgejdoedbaaGreatDoor
