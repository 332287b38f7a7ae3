/-
  What the walk is told of a slice of slices of numbers, and of a slice of bools, that came in. Conditions: none of the program's.
-/
import Derived.Test.YtkgcpbhlbfjcoaaBq13
import Derived.Test.YtkgcpbhlbfjcoaaBq14
namespace Go.Proofs.Ytkgcpbhlbfjcoaa
open Go Go.RowKit Go.ChangeShapes Go.WideShapes Go.ChangeAt

theorem open_intsC {H : Type} {enc : TypeId × Value → H} {P : Program} {W : World} {t e : TypeId} {k : IntKind} {fuel : Nat} {cs : List Value} {y : DataW H × List MemPlace} (ht : P.underlying t = some (.slice e)) (he : P.underlying e = some (.int k)) (hc : P.cellsOf e = 1)
    (hf : DataW.trod enc P W 0 (fun _ => true) true fuel t cs = some y) :
    ∃ (v : Value) (zs : List Int), cs = [v] ∧ (∀ n ∈ zs, (Lit.int k n).wf = true) ∧ RdS W v 1 zs.length (ints k zs) := by
  rcases open_ints ht he hc hf with ⟨hcs, _⟩ | ⟨x, len, cap, zs, hcs, _, hl, hm, hz, _, hcell, hwz⟩
  · exact ⟨_, [], hcs, by simp, by simp, none, 0, rfl, Nat.le_refl _, Nat.zero_le _, .inl rfl⟩
  · have hz' : zs.length = cap := by simpa using hz
    have hlen : (zs.take len).length = len := by simp; omega
    refine ⟨_, zs.take len, hcs, fun n hn => hwz n (List.mem_of_mem_take hn), by simp, some x, cap, by rw [hlen], by omega, hm, ?_⟩
    by_cases h0 : len = 0
    · left; subst h0; simp [ints]
    · right
      have hx := hcell 0 (by omega)
      have hsp : x = ⟨x.block, x.off, none⟩ := by
        have hxs : x.spot = none := by
          rw [show x.add 0 = x from rfl] at hx
          cases hs : x.spot with
          | none => rfl
          | some s => unfold World.cell? at hx; split at hx <;> simp [hs] at hx
        cases x; simp at hxs; simp [hxs]
      refine ⟨x.block, x.off, by rw [← hsp], fun i c hi => ?_⟩
      simp only [ints, List.getElem?_map, Option.map_eq_some_iff] at hi
      obtain ⟨z, hi, rfl⟩ := hi
      have hil : i < len := by
        rcases Nat.lt_or_ge i len with h | h
        · exact h
        · rw [List.getElem?_eq_none (by rw [hlen]; exact h)] at hi; cases hi
      rw [List.getElem?_take_of_lt hil] at hi
      have := hcell i (by omega)
      rw [show zs.getD i 0 = z by simp [hi]] at this
      rw [← this]
      congr 1
      rw [hsp]; unfold Addr.add
      split
      · rename_i h0; subst h0; simp
      · rfl

set_option maxRecDepth 100000 in
theorem open_rows2R {H : Type} {enc : TypeId × Value → H} {W : World} {base : Nat} {v : Value} {d : DataW H} {ps : List MemPlace} (hv : Value.okWide Try.prog W .any base 47 v) (h : DataW.Trod enc Try.prog W 0 (fun _ => true) true 47 v d ps) :
    ∃ l : List (List Int), Rows2 W v l := by
  have hc2 : Try.prog.cellsOf 49 = 1 := by kernel_rfl
  have c0 : Try.prog.cellsOf 3 = 1 := by kernel_rfl
  obtain ⟨n, C, hC, hr⟩ := open_rowsR (m := 1) Try.underlying47 hc2 (by decide) hv h
  have hx : ∀ i, i < n → ∃ x : Value × List Int, C i = [x.1] ∧ RdS W x.1 1 x.2.length (ints .i64 x.2) := fun i hi => by
    obtain ⟨_, fuel, y, hy⟩ := hC i hi
    obtain ⟨u, zs, e, _, hz⟩ := open_intsC Try.underlying49 Try.underlying3 c0 hy
    exact ⟨(u, zs), e, hz⟩
  obtain ⟨g, hg⟩ := Go.Deep.choose_lt hx
  have hfl : (List.range n).flatMap C = (List.range n).map fun i => (g i).1 := by
    rw [List.map_eq_flatMap]
    exact Go.Deep.flatMap_congr_range fun i hi => (hg i hi).1
  rw [hfl] at hr
  refine ⟨(List.range n).map fun i => (g i).2, (List.range n).map fun i => (g i).1, by simpa using hr, by simp, fun i r hi => ?_⟩
  rw [List.getElem?_map] at hi
  obtain ⟨j, hj, rfl⟩ := Option.map_eq_some_iff.1 hi
  have hjn : j < n := by
    have := List.mem_of_getElem? hj
    exact List.mem_range.1 this
  refine ⟨(g j).1, by rw [List.getElem?_map, hj]; rfl, (hg j hjn).2⟩

set_option maxRecDepth 100000 in
theorem open_boolsR {H : Type} {enc : TypeId × Value → H} {W : World} {base : Nat} {v : Value} {d : DataW H} {ps : List MemPlace} (hv : Value.okWide Try.prog W .any base 104 v) (h : DataW.Trod enc Try.prog W 0 (fun _ => true) true 104 v d ps) :
    ∃ l : List Bool, RdS W v 1 l.length (bls l) := by
  have hc2 : Try.prog.cellsOf 4 = 1 := by kernel_rfl
  obtain ⟨n, C, hC, hr⟩ := open_rowsR (m := 1) Try.underlying104 hc2 (by decide) hv h
  obtain ⟨l, hl, _, hf⟩ := rows_of (f := fun b : Bool => [Value.bool b]) (p := fun _ => True) (C := C) (n := n) (fun i hi => by
    obtain ⟨_, fuel, y, hy⟩ := hC i hi
    obtain ⟨b, e, _⟩ := DataW.trod_bool Try.underlying4 hy
    exact ⟨b, trivial, e⟩)
  refine ⟨l, ?_⟩
  rw [hf, show l.flatMap (fun b => [Value.bool b]) = bls l from (List.map_eq_flatMap).symm] at hr
  rw [hl]
  exact hr
end Go.Proofs.Ytkgcpbhlbfjcoaa
