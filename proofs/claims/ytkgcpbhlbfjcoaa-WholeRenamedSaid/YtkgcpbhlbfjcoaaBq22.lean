/-
  GraphOrders: the law's walk.
-/
import Derived.Test.YtkgcpbhlbfjcoaaBq7
import Derived.Test.YtkgcpbhlbfjcoaaBq17
import Derived.Test.YtkgcpbhlbfjcoaaBq20
namespace Go.Proofs.Ytkgcpbhlbfjcoaa
open Go.RowKit

theorem rnd_has (rows : List (List Int)) (k : Nat) : rndB rows k = !hasB ((ordO rows).map Int.ofNat) (k : Int) := by
  unfold rndB hasB
  congr 1
  rw [Bool.eq_iff_iff]
  simp only [decide_eq_true_eq, List.contains_iff_mem]
  exact mem_ofNat.symm

end Go.Proofs.Ytkgcpbhlbfjcoaa

/-
  Rows of rows of numbers that a call owns. Conditions: none of the program's.
-/
namespace Go.Proofs.Ytkgcpbhlbfjcoaa
open Go.RowKit

def OwnR (W : World) (base : Nat) (v : Value) (rows : List (List Int)) : Prop :=
  ∃ cs : List Value, W.ownsRow base 49 1 v rows.length cs ∧ ∀ (i : Nat) (r : List Int), rows[i]? = some r → ∃ c : Value, cs[i]? = some c ∧ W.ownsRow base 3 1 c r.length (ints .i64 r)
theorem owns_ne {W : World} {b1 b2 : Nat} {e1 e2 : TypeId} {s1 s2 n1 n2 : Nat} {x y : Value} {xs ys : List Value} (h1 : W.ownsRow b1 e1 s1 x n1 xs) (h2 : W.ownsRow b2 e2 s2 y n2 ys) (he : e1 ≠ e2) : y.ownBlock = none ∨ y.ownBlock ≠ x.ownBlock := by
  cases hy : y.ownBlock with
  | none => exact .inl rfl
  | some g =>
    right
    intro hx
    obtain ⟨c1, g1⟩ := owns_cells h1 hx.symm
    obtain ⟨c2, g2⟩ := owns_cells h2 hy
    rw [g1] at g2
    injection g2 with g2
    injection g2 with _ g2
    exact he g2
theorem OwnR.nil (W : World) (base : Nat) : OwnR W base (.slice none 0 0) [] := ⟨[], World.ownsRow_nil _ _ _ _, fun i r h => by simp at h⟩
theorem OwnR.rows2 {W : World} {base : Nat} {v : Value} {rows : List (List Int)} (h : OwnR W base v rows) : Rows2 W v rows := by
  obtain ⟨cs, h1, h2⟩ := h
  refine ⟨cs, RdS.of_owns h1, by have := h1.1; simpa using this, fun i r hi => ?_⟩
  obtain ⟨c, hc, ho⟩ := h2 i r hi
  exact ⟨c, hc, RdS.of_owns ho⟩
theorem OwnR.below {W W' : World} {base : Nat} {v : Value} {rows : List (List Int)} (h : OwnR W base v rows) (hb : Below W.heap.size W W') : OwnR W' base v rows := by
  obtain ⟨cs, h1, h2⟩ := h
  exact ⟨cs, ownsB h1 hb, fun i r hi => by obtain ⟨c, hc, ho⟩ := h2 i r hi; exact ⟨c, hc, ownsB ho hb⟩⟩
theorem OwnR.mono {W : World} {base base' : Nat} {v : Value} {rows : List (List Int)} (h : OwnR W base v rows) (hb : base' ≤ base) : OwnR W base' v rows := by
  obtain ⟨cs, h1, h2⟩ := h
  exact ⟨cs, ownsRow_mono h1 hb, fun i r hi => by obtain ⟨c, hc, ho⟩ := h2 i r hi; exact ⟨c, hc, ownsRow_mono ho hb⟩⟩
theorem OwnR.set {W : World} {base B i : Nat} {v : Value} {rows : List (List Int)} (x : Value) (h : OwnR W base v rows) (hB : B < base) : OwnR (W.setCell ⟨B, i, none⟩ x) base v rows := by
  obtain ⟨cs, h1, h2⟩ := h
  exact ⟨cs, own_set x h1 hB, fun i r hi => by obtain ⟨c, hc, ho⟩ := h2 i r hi; exact ⟨c, hc, own_set x ho hB⟩⟩
/-- A row is put behind the others. -/
theorem OwnR.pushed {W w1 : World} {base : Nat} {v v' c : Value} {rows : List (List Int)} {cs : List Value} {r : List Int} {tmp : Obj} (h1 : W.ownsRow base 49 1 v rows.length cs) (h2 : ∀ (i : Nat) (r : List Int), rows[i]? = some r → ∃ c : Value, cs[i]? = some c ∧ W.ownsRow base 3 1 c r.length (ints .i64 r))
    (hc : W.ownsRow base 3 1 c r.length (ints .i64 r)) (hown' : w1.ownsRow base 49 1 v' (rows.length + 1) (cs ++ [c])) (hgrow : (W.alloc tmp).grownBy w1 v.ownBlock) : OwnR w1 base v' (rows ++ [r]) := by
  have keep : ∀ {c : Value} {r : List Int}, W.ownsRow base 3 1 c r.length (ints .i64 r) → w1.ownsRow base 3 1 c r.length (ints .i64 r) := fun h => (h.alloc tmp).kept hgrow (owns_ne h1 h (by decide))
  have hl : cs.length = rows.length := by simpa using h1.1
  refine ⟨cs ++ [c], by simpa using hown', fun i s hi => ?_⟩
  by_cases hil : i < rows.length
  · rw [List.getElem?_append_left hil] at hi
    obtain ⟨d, hd, ho⟩ := h2 i s hi
    exact ⟨d, by rw [List.getElem?_append_left (by omega)]; exact hd, keep ho⟩
  · rw [List.getElem?_append_right (by omega)] at hi
    obtain ⟨h0, hs⟩ : i - rows.length = 0 ∧ r = s := by
      cases hk : i - rows.length with
      | zero => rw [hk] at hi; simp at hi; exact ⟨rfl, hi⟩
      | succ k => rw [hk] at hi; simp at hi
    subst hs
    exact ⟨c, by rw [List.getElem?_append_right (by omega), show i - cs.length = 0 by omega]; rfl, keep hc⟩
theorem Try.info_rowsg : (Try.prog.info? 49).map (fun i => (i.zero, i.size, i.bytes)) = some (some (.slice none 0 0), 1, 24) := by kernel_rfl
theorem bset_cells {W : World} {G i : Nat} {th : List Bool} {fr : Nat × Nat} (h : W.heap[G]? = some (.cells (bls th).toArray 4 fr)) : (W.setCell ⟨G, i, none⟩ (.bool true)).heap[G]? = some (.cells (bls (th.set i true)).toArray 4 fr) := by
  have := setCell_heap i (.bool true) h
  rwa [show (bls th).toArray.setIfInBounds i (.bool true) = (bls (th.set i true)).toArray by simp [bls, List.map_set]] at this
theorem bool_cell {W : World} {G : Nat} {th : List Bool} {fr : Nat × Nat} (h : W.heap[G]? = some (.cells (bls th).toArray 4 fr)) {i : Nat} (hi : i < th.length) : W.cell? ⟨G, i, none⟩ = some (.bool th[i]) ∧ W.frozen? ⟨G, i, none⟩ = (fr.1 ≤ i && i < fr.2) := by
  constructor
  · simp only [World.cell?, h]
    simp [bls, hi]
  · simp [World.frozen?, h]
end Go.Proofs.Ytkgcpbhlbfjcoaa
