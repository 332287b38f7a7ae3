/-
  GraphOrders: the law's walk.
-/
import Derived.Test.YtgfiogjfgbegpaaGreatBz7
import Derived.Test.YtgfiogjfgbegpaaGreatBz18
import Derived.Test.YtgfiogjfgbegpaaGreatBz22
namespace Go.Proofs.YtgfiogjfgbegpaaGreat
open Go.RowKit

end Go.Proofs.YtgfiogjfgbegpaaGreat

/-
  Rows of rows of numbers that a call owns. Conditions: none of the program's.
-/
namespace Go.Proofs.YtgfiogjfgbegpaaGreat
open Go.RowKit

def OwnR (W : World) (base : Nat) (v : Value) (rows : List (List Int)) : Prop :=
  ∃ cs : List Value, W.ownsRow base 38 1 v rows.length cs ∧ ∀ (i : Nat) (r : List Int), rows[i]? = some r → ∃ c : Value, cs[i]? = some c ∧ W.ownsRow base 3 1 c r.length (ints .i64 r)
theorem OwnR.nil (W : World) (base : Nat) : OwnR W base (.slice none 0 0) [] := ⟨[], World.ownsRow_nil _ _ _ _, fun i r h => by simp at h⟩
theorem OwnR.rows2 {W : World} {base : Nat} {v : Value} {rows : List (List Int)} (h : OwnR W base v rows) : Rows2 W v rows := by
  obtain ⟨cs, h1, h2⟩ := h
  refine ⟨cs, RdS.of_owns h1, by have := h1.1; simpa using this, fun i r hi => ?_⟩
  obtain ⟨c, hc, ho⟩ := h2 i r hi
  exact ⟨c, hc, RdS.of_owns ho⟩
theorem OwnR.below {W W' : World} {base : Nat} {v : Value} {rows : List (List Int)} (h : OwnR W base v rows) (hb : Below W.heap.size W W') : OwnR W' base v rows := by
  obtain ⟨cs, h1, h2⟩ := h
  exact ⟨cs, ownsB h1 hb, fun i r hi => by obtain ⟨c, hc, ho⟩ := h2 i r hi; exact ⟨c, hc, ownsB ho hb⟩⟩
theorem OwnR.mono {W : World} {base base' : Nat} {v : Value} {rows : List (List Int)} (h : OwnR W base v rows) (hb : base' ≤ base) : OwnR W base' v rows := by
  obtain ⟨cs, h1, h2⟩ := h
  exact ⟨cs, ownsRow_mono h1 hb, fun i r hi => by obtain ⟨c, hc, ho⟩ := h2 i r hi; exact ⟨c, hc, ownsRow_mono ho hb⟩⟩
theorem OwnR.set {W : World} {base B i : Nat} {v : Value} {rows : List (List Int)} (x : Value) (h : OwnR W base v rows) (hB : B < base) : OwnR (W.setCell ⟨B, i, none⟩ x) base v rows := by
  obtain ⟨cs, h1, h2⟩ := h
  exact ⟨cs, own_set x h1 hB, fun i r hi => by obtain ⟨c, hc, ho⟩ := h2 i r hi; exact ⟨c, hc, own_set x ho hB⟩⟩
end Go.Proofs.YtgfiogjfgbegpaaGreat
