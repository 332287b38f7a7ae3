/-
  A slice of texts as an argument.
-/
import Derived.Test.YtdhgcgejdoedbaaDoorBd11
import Derived.Test.YtdhgcgejdoedbaaDoorBd14
namespace Go.Proofs.YtdhgcgejdoedbaaDoor
open Go Go.RowKit Go.ChangeShapes Go.WideShapes Go.ChangeAt

set_option maxRecDepth 100000 in
theorem open_wordsX {H : Type} {enc : TypeId × Value → H} {W : World} {base : Nat} {v : Value} {d : DataW H} {ps : List MemPlace} (hv : Value.okWide Tryd.prog W .any base 22 v) (h : DataW.Trod enc Tryd.prog W 0 (fun _ => true) true 22 v d ps) :
    ∃ l : List ByteArray, (∀ s ∈ l, s.size ≤ maxLen) ∧ RdS W v 1 l.length (strsV l) := by
  obtain ⟨n, C, hC, hr⟩ := open_rowsR (m := 1) Tryd.underlying22 (by kernel_rfl) (by decide) hv h
  obtain ⟨l, hl, hp, hf⟩ := rows_of (f := fun s : ByteArray => [Value.string s]) (p := fun s => s.size ≤ maxLen) (C := C) (n := n) (fun i hi => by
    obtain ⟨_, f, y, hy⟩ := hC i hi
    obtain ⟨s, e, _, hs⟩ := DataW.trod_string Tryd.underlying9 hy
    exact ⟨s, hs, e⟩)
  refine ⟨l, hp, ?_⟩
  rw [hf, show l.flatMap (fun s => [Value.string s]) = strsV l from (List.map_eq_flatMap).symm] at hr
  rw [hl]
  exact hr
end Go.Proofs.YtdhgcgejdoedbaaDoor
