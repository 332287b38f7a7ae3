/-
  What layer 25's laws ask whatever is asked.
-/
import Derived.Test.YtgfiogjfgbegpaaGreatBz4
import Derived.Test.YtgfiogjfgbegpaaGreatBz10
import Derived.Test.YtgfiogjfgbegpaaGreatBz38
import Derived.Test.YtgfiogjfgbegpaaGreatBz49
import Derived.Test.YtgfiogjfgbegpaaGreatBz50
import Derived.Test.YtgfiogjfgbegpaaGreatBz51
namespace Go.Proofs.YtgfiogjfgbegpaaGreat
open Go Go.RowKit Go.WideShapes

def s25a : StepD := ⟨{ data := #[97] }, { data := #[120] }, { data := #[] }, [], 0, 0, 0, 0, .mk 0 { data := #[] } [] [] 0⟩
def s25b : StepD := ⟨{ data := #[97] }, { data := #[121] }, { data := #[] }, [{ data := #[97] }, { data := #[98] }], 0, 0, 0, 0, .mk 0 { data := #[] } [] [] 0⟩
def d25 : DefD := ⟨{ data := #[115] }, { data := #[] }, [s25a, s25b]⟩
structure At25 (W : World) (g1 g2 : Nat) : Prop where
  b1 : W.heap[g1]? = some (.cells #[.string { data := #[97] }, .string { data := #[98] }] 9 (0, 0))
  b2 : W.heap[g2]? = some (.cells #[.string { data := #[97] }, .string { data := #[120] }, .string { data := #[] }, .slice none 0 0, .int .i64 0, .int .i64 0, .int .i64 0, .int .i64 0, .int .u8 0, .string { data := #[] }, .slice none 0 0, .slice none 0 0, .int .i64 0, .string { data := #[97] }, .string { data := #[121] }, .string { data := #[] }, .slice (some ⟨g1, 0, none⟩) 2 2, .int .i64 0, .int .i64 0, .int .i64 0, .int .i64 0, .int .u8 0, .string { data := #[] }, .slice none 0 0, .slice none 0 0, .int .i64 0] 47 (0, 0))
theorem At25.below {W W' : World} {g1 g2 : Nat} (h : At25 W g1 g2) (hb : Below W.heap.size W W') : At25 W' g1 g2 :=
  ⟨(hb.block _ (Array.getElem?_eq_some_iff.1 h.b1).1).trans h.b1, (hb.block _ (Array.getElem?_eq_some_iff.1 h.b2).1).trans h.b2⟩
theorem At25.toR {W : World} {g1 g2 : Nat} (h : At25 W g1 g2) : DefR W [.string { data := #[115] }, .string { data := #[] }, .slice (some ⟨g2, 0, none⟩) 2 2] d25 (some ⟨g2, 0, none⟩) 2 := by
  refine ⟨rfl, by decide, by decide, [[.string { data := #[97] }, .string { data := #[120] }, .string { data := #[] }, .slice none 0 0, .int .i64 0, .int .i64 0, .int .i64 0, .int .i64 0, .int .u8 0, .string { data := #[] }, .slice none 0 0, .slice none 0 0, .int .i64 0], [.string { data := #[97] }, .string { data := #[121] }, .string { data := #[] }, .slice (some ⟨g1, 0, none⟩) 2 2, .int .i64 0, .int .i64 0, .int .i64 0, .int .i64 0, .int .u8 0, .string { data := #[] }, .slice none 0 0, .slice none 0 0, .int .i64 0]], rfl, rds_row 2 13 h.b2 rfl (by decide), fun i r s hr hs => ?_⟩
  rcases i with _ | _ | i
  · cases hr
    cases hs
    exact ⟨none, 0, none, 0, none, 0, rfl, ⟨by decide, by decide, by decide, (fun a ha => by cases ha), by unfold I64w; decide, by unfold I64w; decide, by unfold I64w; decide, by unfold I64w; decide⟩, ⟨rfl, none, 0, rfl, Nat.le_refl _, Nat.zero_le _, .inl rfl⟩, node_none W⟩
  · cases hr
    cases hs
    exact ⟨some ⟨g1, 0, none⟩, 2, none, 0, none, 0, rfl, ⟨by decide, by decide, by decide, fun a ha => by simp only [s25b, List.mem_cons, List.not_mem_nil, or_false] at ha; rcases ha with rfl | rfl <;> decide, by unfold I64w; decide, by unfold I64w; decide, by unfold I64w; decide, by unfold I64w; decide⟩, rds_row 2 1 h.b1 rfl (by decide), node_none W⟩
  · simp at hr
end Go.Proofs.YtgfiogjfgbegpaaGreat

/-
  Sagas: Start, Answer: contracts.
-/
namespace Go.Proofs.YtgfiogjfgbegpaaGreat
open Go Go.RowKit Go.Maps Go.WideShapes

theorem CallTo.same {w w' : World} {U : Nat → Prop} {k : SagK} {S : SagD} (h : SagE w U k S) (hU : ∀ j, U j → j < w.heap.size) (hb : Below w.heap.size w w') : CallTo w U w' k S [] (.slice none 0 0) :=
  ⟨U, none, 0, rfl, World.ownsRow_nil _ _ _ _, (fun g e => by cases e), h.below hb, Grow.of_chg (Chg.of_below hb), fun j hj => Nat.lt_of_lt_of_le (hU j hj) hb.size⟩
end Go.Proofs.YtgfiogjfgbegpaaGreat

/-
  Sagas: the iterator over all ways: contract.
-/
namespace Go.Proofs.YtgfiogjfgbegpaaGreat
open Go Go.RowKit Go.Maps Go.WideShapes
attribute [local go_sem] Oper.semAt_some wide_fn wide_depth wide_fn' wide_depth'

end Go.Proofs.YtgfiogjfgbegpaaGreat

/-
  A saga of one step is that step: the plain law.
-/
namespace Go.Proofs.YtgfiogjfgbegpaaGreat
open Go Go.RowKit

structure OneR (S : SagD) (r : RunD) : Prop where
  run : S.runs (0, false) = r
  und : S.runs (0, true) = idleR
  done : S.done = if r.1 = 3 then [0] else []
  undone : S.undone = []
  st : S.status = if r.1 = 3 then 3 else if r.1 = 4 then 4 else 1
  ph : r.1 = 1 ∨ r.1 = 2 ∨ r.1 = 3 ∨ r.1 = 4
end Go.Proofs.YtgfiogjfgbegpaaGreat

/-
  The law NamesRefs: walk; definitions' lists are right.
-/
namespace Go.Proofs.YtgfiogjfgbegpaaGreat
open Go Go.RowKit Go.WideShapes

theorem names_ok {d : DefD} (hs : SmallD d) : ∀ x ∈ rChkN d.steps 0 d.steps (headN d), OkG x := by
  have hn : ∀ (l : List DiagD) (b : Bool) (x : DiagD), (∀ y ∈ l, OkG y) → OkG x → ∀ y ∈ noteL l b x, OkG y := fun l b x h1 h2 y hy => by
    rcases (noteL_mem l b x y).1 hy with h | ⟨-, rfl⟩
    · exact h1 y h
    · exact h2
  have ok : ∀ (st er : Int) (tx : ByteArray), I64w st → I64w er → tx.size ≤ 200 → OkG (st, er, tx) := fun st er tx h1 h2 h3 => ⟨h1, h2, by show tx.size ≤ maxLen; unfold maxLen; omega⟩
  have hrows : ∀ (i : Nat) (s : StepD), i ≤ 30 → s.name.size ≤ 200 → ∀ (r seen : List ByteArray) (l : List DiagD), (∀ a ∈ r, a.size ≤ 200) → (∀ y ∈ l, OkG y) → ∀ y ∈ rowsN d.steps i s seen r l, OkG y := by
    intro i s hi hn1 r
    induction r with
    | nil => intro seen l _ h; exact h
    | cons a r ih =>
      intro seen l ha h
      have ha0 := ha a (by simp)
      refine ih _ _ (fun b hb => ha b (by simp [hb])) ?_
      unfold rowN
      exact hn _ _ _ (hn _ _ _ (hn _ _ _ h (ok _ _ _ (by unfold I64w; omega) (by unfold I64w; omega) ha0)) (ok _ _ _ (by unfold I64w; omega) (by unfold I64w; omega) hn1)) (ok _ _ _ (by unfold I64w; omega) (by unfold I64w; omega) ha0)
  have hall : ∀ (r : List StepD) (i : Nat) (l : List DiagD), i + r.length ≤ 30 → (∀ s ∈ r, SmallS s) → (∀ y ∈ l, OkG y) → ∀ y ∈ rChkN d.steps i r l, OkG y := by
    intro r
    induction r with
    | nil => intro i l _ _ h; exact h
    | cons s r ih =>
      intro i l hi hs h
      rw [List.length_cons] at hi
      have hs0 := hs s (by simp)
      refine ih _ _ (by omega) (fun t ht => hs t (by simp [ht])) (hrows i s (by omega) hs0.name _ _ _ hs0.aft ?_)
      unfold stepN
      exact hn _ _ _ (hn _ _ _ (hn _ _ _ (hn _ _ _ h (ok _ _ _ (by unfold I64w; omega) (by unfold I64w; omega) hs0.name)) (ok _ _ _ (by unfold I64w; omega) (by unfold I64w; omega) hs0.action)) (ok _ _ _ (by unfold I64w; omega) (by unfold I64w; omega) hs0.undo)) (ok _ _ _ (by unfold I64w; omega) (by unfold I64w; omega) hs0.name)
  refine hall d.steps 0 _ (by have := hs.steps; omega) hs.each ?_
  unfold headN
  exact hn _ _ _ (hn _ _ _ (fun y hy => by cases hy) (ok _ _ _ (by unfold I64w; omega) (by unfold I64w; omega) (by decide))) (ok _ _ _ (by unfold I64w; omega) (by unfold I64w; omega) hs.name)
theorem chkN_ok {d : DefD} (hs : SmallD d) : ∀ x ∈ chkN d, OkG x := by
  intro x hx
  have := (sortD_mem _ x).2 hx
  rw [← names_alike] at this
  exact names_ok hs x ((sortD_mem _ x).1 this)
theorem refs_few {d : DefD} (hs : SmallD d) : (refsF d.steps 0 d.steps).length ≤ 10000 := by
  have h1 := refsF_len d.steps (m := 70) d.steps 0 (fun s h => (hs.each s h).after)
  have h2 : d.steps.length * 70 ≤ 30 * 70 := Nat.mul_le_mul_right _ hs.steps
  omega
theorem chkN_few {d : DefD} (hs : SmallD d) : (chkN d).length ≤ 100000 := by
  unfold chkN
  have h1 := refsN_len d.steps (refsF d.steps 0 d.steps) [] (stepsN d.steps 0 d.steps (headN d))
  have h2 := stepsN_len d.steps d.steps 0 (headN d)
  have h3 := headN_len d
  have h4 := refs_few hs
  have h5 := hs.steps
  omega

end Go.Proofs.YtgfiogjfgbegpaaGreat

/-
  Sagas: Tick: contract.
-/
namespace Go.Proofs.YtgfiogjfgbegpaaGreat
open Go Go.RowKit Go.Maps Go.WideShapes
attribute [local go_sem] Oper.semAt_some wide_fn wide_depth wide_fn' wide_depth'

theorem AskE.bound {w : World} {V : Nat → Prop} {k : SagK} {bs bo ob : Nat} {X : AskX} (h : AskE w V k bs bo ob X) : k.N ≤ w.heap.size ∧ bs < w.heap.size ∧ bo < w.heap.size ∧ ¬ V bs ∧ ¬ V bo := by
  obtain ⟨da, dc, ua, uc, va, vc, h⟩ := h
  exact ⟨h.sag.df.1, (Array.getElem?_eq_some_iff.1 h.hbs).1, (Array.getElem?_eq_some_iff.1 h.hbo).1, h.nbs, h.nbo⟩
end Go.Proofs.YtgfiogjfgbegpaaGreat
