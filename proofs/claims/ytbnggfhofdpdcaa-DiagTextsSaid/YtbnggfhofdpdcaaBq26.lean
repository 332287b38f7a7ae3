/-
  utf: gaps, is, Text; the reference's Bytes: contracts.
-/
import Derived.Test.YtbnggfhofdpdcaaBq19
import Derived.Test.YtbnggfhofdpdcaaBq21
namespace Go.Proofs.Ytbnggfhofdpdcaa
open Go.RowKit

theorem encodeI {n : Int} (h : validI n = true) : bsN (Utf8.encode n) = encN n.toNat := by
  have h' := h
  unfold validI at h
  simp at h
  obtain ⟨c, rfl⟩ : ∃ c : Nat, n = c := ⟨n.toNat, by omega⟩
  rw [bsN_enc ((validI_nat c).1 h')]; simp
theorem builder_below {T e : TypeId} {B b : Nat} {bs : List Value} {w w' : World} (h : Lib.IsBuilder T e B b bs w) (hb : Below w.heap.size w w') : Lib.IsBuilder T e B b bs w' := by
  rcases h with ⟨h1, v, h2, h3, h4⟩ | ⟨h1, v, h2, h3, h4⟩
  · exact .inl ⟨h1, v, (hb.block b (Array.getElem?_eq_some_iff.1 h2).1).trans h2, ownsB h3 hb, h4⟩
  · exact .inr ⟨h1, v, (hb.block b (Array.getElem?_eq_some_iff.1 h2).1).trans h2, ownsB h3 hb, h4⟩
/-- The text of numbers. -/
def textI (l : List Int) : List Nat := textN (l.map Int.toNat)
theorem textI_snoc (l : List Int) (n : Int) : textI (l ++ [n]) = textI l ++ encN n.toNat := by simp [textI, textN]
theorem textI_len (l : List Int) : (textI l).length ≤ 4 * l.length := by have := textN_len (l.map Int.toNat); simpa [textI] using this
theorem bytes_size (s : ByteArray) : s.data.toList.length = s.size := by simp
theorem strCells_bytes (s : ByteArray) : Lib.strCells s = Lib.byteCells s.data.toList := rfl
theorem bsN_mk (l : List UInt8) : bsN ⟨l.toArray⟩ = l.map UInt8.toNat := by simp [bsN]
def TextPost (l : List Int) (s : ByteArray) (c p : Int) : Prop :=
  (c = 0 ∧ p = 0 ∧ (∀ n ∈ l, validI n = true) ∧ bsN s = textI l) ∨
  (c = 1 ∧ s = ⟨#[]⟩ ∧ ∃ i : Nat, p = i ∧ i < l.length ∧ validI (l[i]?.getD 0) = false ∧ ∀ j, j < i → validI (l[j]?.getD 0) = true)
theorem all_of_getD {l : List Int} (h : ∀ j, j < l.length → validI (l[j]?.getD 0) = true) : ∀ n ∈ l, validI n = true := by
  intro n hn
  obtain ⟨j, hj, rfl⟩ := List.getElem_of_mem hn
  have := h j hj
  simpa [hj] using this

end Go.Proofs.Ytbnggfhofdpdcaa
