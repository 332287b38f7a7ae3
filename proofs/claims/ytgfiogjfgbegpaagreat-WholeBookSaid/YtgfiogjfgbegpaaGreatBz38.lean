/-
  block.At: contract.
-/
import Derived.Deep.DeepCutAuto
import Derived.Test.YtgfiogjfgbegpaaGreatBz10
import Derived.Test.YtgfiogjfgbegpaaGreatBz26
import Derived.Test.YtgfiogjfgbegpaaGreatBz27
import Derived.Test.YtgfiogjfgbegpaaGreatBz34
import Derived.Test.YtgfiogjfgbegpaaGreatBz35
import Derived.Test.YtgfiogjfgbegpaaGreatBz37
namespace Go.Proofs.YtgfiogjfgbegpaaGreat
open Go.RowKit Go.WideShapes

end Go.Proofs.YtgfiogjfgbegpaaGreat

/-
  rescriptlaw21.one, rescriptlaw21.live: contracts.
-/
namespace Go.Proofs.YtgfiogjfgbegpaaGreat
open Go Go.RowKit Go.WideShapes

def oneS (lim : Int) : StepD := ⟨{ data := #[97] }, { data := #[100, 111] }, { data := #[117, 110, 100, 111] }, [{ data := #[98] }], 2, 0, 0, lim, .mk 0 { data := #[] } [] [] 0⟩
def oneD (lim : Int) : DefD := ⟨{ data := #[115] }, { data := #[] }, [oneS lim]⟩
theorem node_none (W : World) : NodeR W [.int .u8 0, .string { data := #[] }, .slice none 0 0, .slice none 0 0, .int .i64 0] (.mk 0 { data := #[] } [] [] 0) :=
  .mk [] (by decide) (by decide) (fun s hs => by cases hs) (by decide) ⟨rfl, none, 0, rfl, Nat.le_refl _, Nat.zero_le _, .inl rfl⟩ rfl ⟨rfl, none, 0, rfl, Nat.le_refl _, Nat.zero_le _, .inl rfl⟩ (fun i r x h => by simp at h)
structure OneAt (W : World) (g1 g2 : Nat) (lim : Int) : Prop where
  b1 : W.heap[g1]? = some (.cells #[.string { data := #[98] }] 9 (0, 0))
  b2 : W.heap[g2]? = some (.cells #[.string { data := #[97] }, .string { data := #[100, 111] }, .string { data := #[117, 110, 100, 111] }, .slice (some ⟨g1, 0, none⟩) 1 1, .int .i64 2, .int .i64 0, .int .i64 0, .int .i64 lim, .int .u8 0, .string { data := #[] }, .slice none 0 0, .slice none 0 0, .int .i64 0] 47 (0, 0))
theorem OneAt.below {W W' : World} {g1 g2 : Nat} {lim : Int} (h : OneAt W g1 g2 lim) (hb : Below W.heap.size W W') : OneAt W' g1 g2 lim :=
  ⟨(hb.block _ (Array.getElem?_eq_some_iff.1 h.b1).1).trans h.b1, (hb.block _ (Array.getElem?_eq_some_iff.1 h.b2).1).trans h.b2⟩
theorem rds_row {W : World} {g : Nat} {l : List Value} {t : TypeId} {fr : Nat × Nat} (n size : Nat) (h : W.heap[g]? = some (.cells l.toArray t fr)) (hn : l.length = n * size) (hb : n ≤ 1073741824) : RdS W (.slice (some ⟨g, 0, none⟩) n n) size n l := by
  refine ⟨hn, _, _, rfl, Nat.le_refl _, by unfold maxLen; omega, .inr ⟨g, 0, rfl, fun i c hi => ?_⟩⟩
  simp only [World.cell?, h, Nat.zero_add]
  simpa using hi
theorem OneAt.toR {W : World} {g1 g2 : Nat} {lim : Int} (h : OneAt W g1 g2 lim) (hl : I64w lim) : DefR W [.string { data := #[115] }, .string { data := #[] }, .slice (some ⟨g2, 0, none⟩) 1 1] (oneD lim) (some ⟨g2, 0, none⟩) 1 := by
  refine ⟨rfl, by simp only [oneD]; decide, by simp only [oneD]; decide, [[.string { data := #[97] }, .string { data := #[100, 111] }, .string { data := #[117, 110, 100, 111] }, .slice (some ⟨g1, 0, none⟩) 1 1, .int .i64 2, .int .i64 0, .int .i64 0, .int .i64 lim, .int .u8 0, .string { data := #[] }, .slice none 0 0, .slice none 0 0, .int .i64 0]], rfl, rds_row 1 13 h.b2 rfl (by decide), fun i r s hr hs => ?_⟩
  rcases i with _ | i
  · cases hr
    cases hs
    refine ⟨some ⟨g1, 0, none⟩, 1, none, 0, none, 0, rfl, ⟨by simp only [oneS]; decide, by simp only [oneS]; decide, by simp only [oneS]; decide, fun a ha => by simp only [oneS, List.mem_singleton] at ha; subst ha; decide, by simp only [oneS]; unfold I64w; omega, by simp only [oneS]; unfold I64w; omega, by simp only [oneS]; unfold I64w; omega, hl⟩, rds_row 1 1 h.b1 rfl (by decide), node_none W⟩
  · simp at hr
end Go.Proofs.YtgfiogjfgbegpaaGreat
