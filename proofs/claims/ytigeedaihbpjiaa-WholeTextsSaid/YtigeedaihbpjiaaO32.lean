/-
  What the walk is told of a slice of slices of int32 that came in. Conditions: none of the program's.
-/
import Derived.Test.YtigeedaihbpjiaaOg
import Derived.Test.YtigeedaihbpjiaaNf
namespace Go.Proofs.Ytigeedaihbpjiaa
open Go Go.RowKit Go.ChangeShapes Go.WideShapes Go.ChangeAt

set_option maxRecDepth 100000 in
theorem open_rows32R {H : Type} {enc : TypeId × Value → H} {W : World} {base : Nat} {v : Value} {d : DataW H} {ps : List MemPlace} (hv : Value.okWide Try.prog W .any base 68 v) (h : DataW.Trod enc Try.prog W 0 (fun _ => true) true 68 v d ps) :
    ∃ l : List (List Int), (∀ r ∈ l, ∀ n ∈ r, -2147483648 ≤ n ∧ n ≤ 2147483647) ∧ Rows32 W v l := by
  have hc2 : Try.prog.cellsOf 54 = 1 := by kernel_rfl
  have c0 : Try.prog.cellsOf 21 = 1 := by kernel_rfl
  obtain ⟨n, C, hC, hr⟩ := open_rowsR (m := 1) Try.underlying68 hc2 (by decide) hv h
  have hx : ∀ i, i < n → ∃ x : Value × List Int, C i = [x.1] ∧ (∀ n ∈ x.2, -2147483648 ≤ n ∧ n ≤ 2147483647) ∧ RdS W x.1 1 x.2.length (ints .i32 x.2) := fun i hi => by
    obtain ⟨_, fuel, y, hy⟩ := hC i hi
    obtain ⟨u, zs, e, hw, hz⟩ := open_intsC Try.underlying54 Try.underlying21 c0 hy
    exact ⟨(u, zs), e, fun n hn => wf_i32 (hw n hn), hz⟩
  obtain ⟨g, hg⟩ := Go.Deep.choose_lt hx
  have hfl : (List.range n).flatMap C = (List.range n).map fun i => (g i).1 := by
    rw [List.map_eq_flatMap]
    exact Go.Deep.flatMap_congr_range fun i hi => (hg i hi).1
  rw [hfl] at hr
  refine ⟨(List.range n).map fun i => (g i).2, ?_, (List.range n).map fun i => (g i).1, by simpa using hr, by simp, fun i r hi => ?_⟩
  · intro r hr
    obtain ⟨i, hi, rfl⟩ := List.mem_map.1 hr
    exact (hg i (List.mem_range.1 hi)).2.1
  rw [List.getElem?_map] at hi
  obtain ⟨j, hj, rfl⟩ := Option.map_eq_some_iff.1 hi
  have hjn : j < n := by
    have := List.mem_of_getElem? hj
    exact List.mem_range.1 this
  refine ⟨(g j).1, by rw [List.getElem?_map, hj]; rfl, (hg j hjn).2.2⟩
end Go.Proofs.Ytigeedaihbpjiaa
