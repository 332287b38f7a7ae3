/-
  What the walk is told of a slice of structs that came in. Conditions: none of the program's.
-/
import Derived.Deep.Slices
import Derived.Test.YtdhgcgejdoedbaaGreatDoorBw9
namespace Go.Proofs.YtdhgcgejdoedbaaGreatDoor
open Go Go.RowKit Go.ChangeShapes Go.WideShapes Go.ChangeAt

theorem flat_get {m n : Nat} {C : Nat → List Value} (hC : ∀ i, i < n → (C i).length = m) (hm : 0 < m) : ((List.range n).flatMap C).length = n * m ∧ ∀ j, j < n * m → ((List.range n).flatMap C)[j]? = (C (j / m))[j % m]? := by
  induction n with
  | zero => exact ⟨by simp, fun j hj => by omega⟩
  | succ n ih =>
    obtain ⟨h1, h2⟩ := ih (fun i hi => hC i (by omega))
    rw [List.range_succ, List.flatMap_append]
    have hl : (List.flatMap C [n]).length = m := by simp [hC n (by omega)]
    refine ⟨by rw [List.length_append, h1, hl, Nat.add_mul, Nat.one_mul], fun j hj => ?_⟩
    rw [Nat.add_mul, Nat.one_mul] at hj
    by_cases hjn : j < n * m
    · rw [List.getElem?_append_left (by rw [h1]; exact hjn), h2 j hjn]
    · have hd : j / m = n := by
        rw [Nat.div_eq_iff hm]
        constructor
        · omega
        · have : n * m + m - 1 + 1 = n * m + m := by omega
          omega
      have hmod : j % m = j - n * m := by
        have := Nat.div_add_mod j m
        rw [hd, Nat.mul_comm] at this; omega
      rw [List.getElem?_append_right (by rw [h1]; omega), h1, hd, hmod]
      simp

theorem rows_of {α : Type} [Inhabited α] {n : Nat} {C : Nat → List Value} {f : α → List Value} {p : α → Prop} (h : ∀ i, i < n → ∃ x, p x ∧ C i = f x) : ∃ l : List α, l.length = n ∧ (∀ x ∈ l, p x) ∧ (List.range n).flatMap C = l.flatMap f := by
  obtain ⟨g, hg⟩ := Go.Deep.choose_lt h
  refine ⟨(List.range n).map g, by simp, fun x hx => ?_, ?_⟩
  · obtain ⟨i, hi, rfl⟩ := List.mem_map.1 hx
    exact (hg i (List.mem_range.1 hi)).1
  · rw [List.flatMap_map]
    exact Go.Deep.flatMap_congr_range fun i hi => (hg i hi).2
end Go.Proofs.YtdhgcgejdoedbaaGreatDoor
