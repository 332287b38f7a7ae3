/-
  What the walk is told of a slice of structs that came in. Conditions: none of the program's.
-/
import Derived.Deep.Slices
import Derived.Test.YtdhgcgejdoedbaaDoorBd9
namespace Go.Proofs.YtdhgcgejdoedbaaDoor
open Go Go.RowKit Go.ChangeShapes Go.WideShapes Go.ChangeAt

theorem flat_get {m n : Nat} {C : Nat → List Value} (hC : ∀ i, i < n → (C i).length = m) (hm : 0 < m) : ((List.range n).flatMap C).length = n * m ∧ ∀ j, j < n * m → ((List.range n).flatMap C)[j]? = (C (j / m))[j % m]? := by
  induction n with
  | zero => exact ⟨by simp, fun j hj => by omega⟩
  | succ n ih =>
    obtain ⟨h1, h2⟩ := ih (fun i hi => hC i (by omega))
    rw [List.range_succ, List.flatMap_append]
    have hl : (List.flatMap C [n]).length = m := by simp [hC n (by omega)]
    refine ⟨by rw [List.length_append, h1, hl, Nat.add_mul, Nat.one_mul], fun j hj => ?_⟩
    rw [Nat.add_mul, Nat.one_mul] at hj
    by_cases hjn : j < n * m
    · rw [List.getElem?_append_left (by rw [h1]; exact hjn), h2 j hjn]
    · have hd : j / m = n := by
        rw [Nat.div_eq_iff hm]
        constructor
        · omega
        · have : n * m + m - 1 + 1 = n * m + m := by omega
          omega
      have hmod : j % m = j - n * m := by
        have := Nat.div_add_mod j m
        rw [hd, Nat.mul_comm] at this; omega
      rw [List.getElem?_append_right (by rw [h1]; omega), h1, hd, hmod]
      simp

/-- A slice's rows of cells, each read. -/
theorem open_rowsR {H : Type} {enc : TypeId × Value → H} {P : Program} {W : World} {base : Nat} {t e : TypeId} {m : Nat} {v : Value} {d : DataW H} {ps : List MemPlace} (ht : P.underlying t = some (.slice e)) (hm : P.cellsOf e = m) (hm0 : 0 < m)
    (hv : Value.okWide P W .any base t v) (h : DataW.Trod enc P W 0 (fun _ => true) true t v d ps) :
    ∃ (n : Nat) (C : Nat → List Value), (∀ i, i < n → (C i).length = m ∧ ∃ fuel y, DataW.trod enc P W 0 (fun _ => true) true fuel e (C i) = some y) ∧ RdS W v m n ((List.range n).flatMap C) := by
  obtain ⟨a, len, cap, rfl⟩ := okWide_slice ht hv
  obtain ⟨fuel, hf⟩ := h
  rcases Go.Deep.open_slice ht hf with ⟨hcs, _⟩ | ⟨x, l, c, mm, n, D, Pl, hcs, _, hl, hc, hmm, _, hx⟩
  · simp [Value.cells] at hcs
    obtain ⟨rfl, rfl, rfl⟩ := hcs
    exact ⟨0, fun _ => [], fun i hi => by omega, by simp, none, 0, rfl, Nat.le_refl _, Nat.zero_le _, .inl rfl⟩
  · simp [Value.cells] at hcs
    obtain ⟨rfl, rfl, rfl⟩ := hcs
    simp only [if_true] at hmm
    subst hmm
    rw [hm] at hx
    have hx' : ∀ i, i < len → ∃ cs', W.cells? 0 (x.add (i * m)) m = some cs' ∧ DataW.trod enc P W 0 (fun _ => true) true n e cs' = some (D i, Pl i) := fun i hi => hx i (by omega)
    obtain ⟨C, hC⟩ := Go.Deep.choose_lt hx'
    have hlen : ∀ i, i < len → (C i).length = m := fun i hi => (World.cells?_some (hC i hi).1).2.1
    have hfl := flat_get hlen hm0
    refine ⟨len, C, fun i hi => ⟨hlen i hi, n, _, (hC i hi).2⟩, hfl.1, some x, _, rfl, hl, hc, ?_⟩
    by_cases h0 : len = 0
    · left; subst h0; rfl
    · right
      have hcell : ∀ i, i < len → ∀ j, j < m → W.cell? ((x.add (i * m)).add j) = (C i)[j]? := fun i hi j hj => by
        have := (World.cells?_some (hC i hi).1).2.2 j hj
        rw [this]
      have hx0 := hcell 0 (by omega) 0 hm0
      rw [Nat.zero_mul, show (x.add 0).add 0 = x from rfl] at hx0
      have hsp : x = ⟨x.block, x.off, none⟩ := by
        have hxs : x.spot = none := by
          have hsome : (C 0)[0]? ≠ none := by rw [List.getElem?_eq_getElem (by rw [hlen 0 (by omega)]; exact hm0)]; simp
          cases hs : x.spot with
          | none => rfl
          | some s => rw [← hx0] at hsome; unfold World.cell? at hsome; split at hsome <;> simp [hs] at hsome
        cases x; simp at hxs; simp [hxs]
      refine ⟨x.block, x.off, by rw [← hsp], fun j c hj => ?_⟩
      have hjl : j < len * m := by
        rcases Nat.lt_or_ge j (len * m) with h | h
        · exact h
        · rw [List.getElem?_eq_none (by rw [hfl.1]; exact h)] at hj; cases hj
      rw [hfl.2 j hjl] at hj
      have hd : j / m < len := (Nat.div_lt_iff_lt_mul hm0).2 hjl
      have := hcell (j / m) hd (j % m) (Nat.mod_lt _ hm0)
      rw [hj, Go.Deep.add_add, Nat.mul_comm, Nat.div_add_mod] at this
      rw [← this]
      congr 1
      rw [hsp]; unfold Addr.add
      split
      · rename_i h0; subst h0; simp
      · rfl
theorem rows_of {α : Type} [Inhabited α] {n : Nat} {C : Nat → List Value} {f : α → List Value} {p : α → Prop} (h : ∀ i, i < n → ∃ x, p x ∧ C i = f x) : ∃ l : List α, l.length = n ∧ (∀ x ∈ l, p x) ∧ (List.range n).flatMap C = l.flatMap f := by
  obtain ⟨g, hg⟩ := Go.Deep.choose_lt h
  refine ⟨(List.range n).map g, by simp, fun x hx => ?_, ?_⟩
  · obtain ⟨i, hi, rfl⟩ := List.mem_map.1 hx
    exact (hg i (List.mem_range.1 hi)).1
  · rw [List.flatMap_map]
    exact Go.Deep.flatMap_congr_range fun i hi => (hg i hi).2
end Go.Proofs.YtdhgcgejdoedbaaDoor
