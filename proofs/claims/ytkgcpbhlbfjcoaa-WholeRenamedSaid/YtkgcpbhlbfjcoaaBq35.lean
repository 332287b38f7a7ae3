/-
  block.At: contract.
-/
import Derived.Deep.DeepCutAuto
import Derived.Test.YtkgcpbhlbfjcoaaBq9
import Derived.Test.YtkgcpbhlbfjcoaaBq23
import Derived.Test.YtkgcpbhlbfjcoaaBq25
import Derived.Test.YtkgcpbhlbfjcoaaBq31
import Derived.Test.YtkgcpbhlbfjcoaaBq32
import Derived.Test.YtkgcpbhlbfjcoaaBq34
namespace Go.Proofs.Ytkgcpbhlbfjcoaa
open Go.RowKit Go.WideShapes

/-- Which kid a name stands for. -/
def kidAt (x : Tree) (s : ByteArray) : Int := if x.kind = 3 then idxS x.keys s else if x.kind = 2 then (if (numN (bsN s)).2 = 0 then ((numN (bsN s)).1 : Int) else -1) else -1
def atT : Tree → List ByteArray → Option Tree
  | x, [] => some x
  | x, s :: l => if h : 0 ≤ kidAt x s ∧ kidAt x s < (x.kids.length : Int) then atT (x.kids[(kidAt x s).toNat]'(by omega)) l else none
theorem atT_no {x : Tree} {s : ByteArray} {l : List ByteArray} (h : ¬ (0 ≤ kidAt x s ∧ kidAt x s < (x.kids.length : Int))) : atT x (s :: l) = none := by rw [atT, dif_neg h]
theorem atT_go {x : Tree} {s : ByteArray} {l : List ByteArray} {k : Nat} (hk : k < x.kids.length) (h : kidAt x s = (k : Int)) : atT x (s :: l) = atT x.kids[k] l := by
  rw [atT, dif_pos (by omega)]
  congr 1
  simp [h]
/-- What is found: a node, or none. -/
def NodeAt (w' : World) (o : Option Tree) (b : Bool) (cs' : List Value) : Prop := match o with
  | some y => b = true ∧ NodeR w' cs' y
  | none => b = false ∧ cs' = [.int .u8 0, .string { data := #[] }, .slice none 0 0, .slice none 0 0, .int .i64 0]
theorem NodeR.kidsR {w : World} {x : Tree} {ka ba : Option Addr} {kc bc : Nat} (h : NodeR w [.int .u8 (x.kind : Int), .string x.text, .slice ka x.keys.length kc, .slice ba x.kids.length bc, .int .i64 x.line] x) : RdS w (.slice ka x.keys.length kc) 1 x.keys.length (strsV x.keys) ∧ NodesR w (.slice ba x.kids.length bc) x.kids ∧ x.kind < 256 := by
  obtain ⟨k, t, ks, kids, ln⟩ := x
  obtain ⟨vk, vc, he, h1, _, _, _, h5, h6⟩ := h.parts
  simp only [Tree.kind, Tree.text, Tree.keys, Tree.kids, Tree.line, List.cons.injEq, and_true, true_and] at he
  obtain ⟨rfl, rfl⟩ := he
  exact ⟨h5, h6, h1⟩
theorem numN_range (s : ByteArray) : (numN (bsN s)).1 < 1000000000 ∧ ((numN (bsN s)).2 = 0 ∨ (numN (bsN s)).2 = 3) := by
  unfold numN
  split
  · rename_i h
    unfold numOk at h
    simp only [Bool.and_eq_true, decide_eq_true_eq] at h
    exact ⟨valN_9 h.1.1.2 h.2, .inl rfl⟩
  · exact ⟨by decide, .inr rfl⟩
theorem idxS_range (l : List ByteArray) (s : ByteArray) (hl : l.length ≤ 9223372036854775807) : -1 ≤ idxS l s ∧ idxS l s ≤ 9223372036854775807 := by
  unfold idxS
  split
  · have := List.idxOf_le_length (a := s) (l := l); omega
  · omega

end Go.Proofs.Ytkgcpbhlbfjcoaa

/-
  rescriptlaw21.one, rescriptlaw21.live: contracts.
-/
namespace Go.Proofs.Ytkgcpbhlbfjcoaa
open Go Go.RowKit Go.WideShapes

def oneS (lim : Int) : StepD := ⟨{ data := #[97] }, { data := #[100, 111] }, { data := #[117, 110, 100, 111] }, [{ data := #[98] }], 2, 0, 0, lim, .mk 0 { data := #[] } [] [] 0⟩
def oneD (lim : Int) : DefD := ⟨{ data := #[115] }, { data := #[] }, [oneS lim]⟩
theorem one_small (lim : Int) : SmallD (oneD lim) := by
  refine ⟨by simp only [oneD]; decide, by simp only [oneD]; decide, by simp [oneD], fun s hs => ?_⟩
  simp only [oneD, List.mem_singleton] at hs
  subst hs
  exact ⟨by simp only [oneS]; decide, by simp only [oneS]; decide, by simp only [oneS]; decide, by simp [oneS], .mk (by decide) (by simp) (fun s hs => by cases hs) (fun x hx => by cases hx) (by simp), fun a ha => by simp only [oneS, List.mem_singleton] at ha; subst ha; decide⟩
theorem node_none (W : World) : NodeR W [.int .u8 0, .string { data := #[] }, .slice none 0 0, .slice none 0 0, .int .i64 0] (.mk 0 { data := #[] } [] [] 0) :=
  .mk [] (by decide) (by decide) (fun s hs => by cases hs) (by decide) ⟨rfl, none, 0, rfl, Nat.le_refl _, Nat.zero_le _, .inl rfl⟩ rfl ⟨rfl, none, 0, rfl, Nat.le_refl _, Nat.zero_le _, .inl rfl⟩ (fun i r x h => by simp at h)
/-- The blocks of a definition of one step. -/
structure OneAt (W : World) (g1 g2 : Nat) (lim : Int) : Prop where
  b1 : W.heap[g1]? = some (.cells #[.string { data := #[98] }] 9 (0, 0))
  b2 : W.heap[g2]? = some (.cells #[.string { data := #[97] }, .string { data := #[100, 111] }, .string { data := #[117, 110, 100, 111] }, .slice (some ⟨g1, 0, none⟩) 1 1, .int .i64 2, .int .i64 0, .int .i64 0, .int .i64 lim, .int .u8 0, .string { data := #[] }, .slice none 0 0, .slice none 0 0, .int .i64 0] 45 (0, 0))
theorem OneAt.below {W W' : World} {g1 g2 : Nat} {lim : Int} (h : OneAt W g1 g2 lim) (hb : Below W.heap.size W W') : OneAt W' g1 g2 lim :=
  ⟨(hb.block _ (Array.getElem?_eq_some_iff.1 h.b1).1).trans h.b1, (hb.block _ (Array.getElem?_eq_some_iff.1 h.b2).1).trans h.b2⟩
theorem rds_row {W : World} {g : Nat} {l : List Value} {t : TypeId} {fr : Nat × Nat} (n size : Nat) (h : W.heap[g]? = some (.cells l.toArray t fr)) (hn : l.length = n * size) (hb : n ≤ 1073741824) : RdS W (.slice (some ⟨g, 0, none⟩) n n) size n l := by
  refine ⟨hn, _, _, rfl, Nat.le_refl _, by unfold maxLen; omega, .inr ⟨g, 0, rfl, fun i c hi => ?_⟩⟩
  simp only [World.cell?, h, Nat.zero_add]
  simpa using hi
theorem OneAt.toR {W : World} {g1 g2 : Nat} {lim : Int} (h : OneAt W g1 g2 lim) (hl : I64w lim) : DefR W [.string { data := #[115] }, .string { data := #[] }, .slice (some ⟨g2, 0, none⟩) 1 1] (oneD lim) (some ⟨g2, 0, none⟩) 1 := by
  refine ⟨rfl, by simp only [oneD]; decide, by simp only [oneD]; decide, [[.string { data := #[97] }, .string { data := #[100, 111] }, .string { data := #[117, 110, 100, 111] }, .slice (some ⟨g1, 0, none⟩) 1 1, .int .i64 2, .int .i64 0, .int .i64 0, .int .i64 lim, .int .u8 0, .string { data := #[] }, .slice none 0 0, .slice none 0 0, .int .i64 0]], rfl, rds_row 1 13 h.b2 rfl (by decide), fun i r s hr hs => ?_⟩
  rcases i with _ | i
  · cases hr
    cases hs
    refine ⟨some ⟨g1, 0, none⟩, 1, none, 0, none, 0, rfl, ⟨by simp only [oneS]; decide, by simp only [oneS]; decide, by simp only [oneS]; decide, fun a ha => by simp only [oneS, List.mem_singleton] at ha; subst ha; decide, by simp only [oneS]; unfold I64w; omega, by simp only [oneS]; unfold I64w; omega, by simp only [oneS]; unfold I64w; omega, hl⟩, rds_row 1 1 h.b1 rfl (by decide), node_none W⟩
  · simp at hr
theorem OneAt.setLim {W : World} {g1 g2 : Nat} {lim : Int} (h : OneAt W g1 g2 lim) (hne : g1 ≠ g2) (n : Int) : OneAt (W.setCell ⟨g2, 7, none⟩ (.int .i64 n)) g1 g2 n :=
  ⟨(Below.heap_setCell W ⟨g2, 7, none⟩ _ g1 hne).trans h.b1, by simp [World.setCell, h.b2, Array.getElem?_modify]⟩

theorem one_check : defC (oneD 5) = (0, 0) := by decide +kernel
theorem bad_check : defC (oneD (-1)) = (1, 1) := by decide +kernel
theorem one_same : sameD (oneD 5) (oneD 5) = true := by decide +kernel
theorem bad_same : sameD (oneD 5) (oneD (-1)) = false := by decide +kernel
theorem one_idx : idxStep (oneD 5).steps { data := #[97] } 0 = 0 := by decide +kernel
theorem one_idz : idxStep (oneD 5).steps { data := #[122] } 0 = -1 := by decide +kernel
def pathL : List ByteArray := [sSteps, { data := #[48] }, sRetry, sMost]
theorem one_at : atT (defT (oneD 5)) pathL = some (numT 2) := by kernel_rfl
theorem num2 : digS 2 = { data := #[50] } := by decide +kernel
theorem cs_pair {W : World} {cs : List Value} {b : Bool} (h : NodeAt W (some (numT 2)) b cs) : b = true ∧ ∃ ka kc ba bc, cs = [.int .u8 1, .string { data := #[50] }, .slice ka 0 kc, .slice ba 0 bc, .int .i64 0] := by
  obtain ⟨h1, h2⟩ := h
  obtain ⟨ka, kc, ba, bc, he⟩ := h2.cells
  refine ⟨h1, ka, kc, ba, bc, ?_⟩
  rw [he]
  show [_, Value.string (digS 2), _, _, _] = _
  rw [num2]; rfl

theorem c_check {lim a b : Int} (hf : defC (oneD lim) = (a, b)) (hl : I64w lim) {g1 g2 : Nat} {W0 W : World} (h : OneAt W0 g1 g2 lim) (hb : Below W0.heap.size W0 W) : Calls Try.prog 8 #[.agg #[.string { data := #[115] }, .string { data := #[] }, .slice (some ⟨g2, 0, none⟩) 1 1]] W fun e w' => e = .returned (.agg #[.int .i64 a, .int .i64 b]) ∧ Below W.heap.size W w' := by
  have := dCheck_any (oneD lim) _ _ _ W ((h.below hb).toR hl) (one_small lim)
  rw [hf] at this
  exact this
theorem c_same {l1 l2 : Int} {b : Bool} (hf : sameD (oneD l1) (oneD l2) = b) (hl1 : I64w l1) (hl2 : I64w l2) {g1 g2 k1 k2 : Nat} {W : World} (h : OneAt W g1 g2 l1) (h' : OneAt W k1 k2 l2) : Calls Try.prog 12 #[.agg #[.string { data := #[115] }, .string { data := #[] }, .slice (some ⟨g2, 0, none⟩) 1 1], .agg #[.string { data := #[115] }, .string { data := #[] }, .slice (some ⟨k2, 0, none⟩) 1 1]] W fun e w' => e = .returned (.bool b) ∧ Below W.heap.size W w' := by
  have := dSame_any (oneD l1) (oneD l2) _ _ _ _ _ _ W (h.toR hl1) (h'.toR hl2)
  rw [hf] at this
  exact this
theorem c_copy {g1 g2 : Nat} {W : World} (h : OneAt W g1 g2 5) : Calls Try.prog 10 #[.agg #[.string { data := #[115] }, .string { data := #[] }, .slice (some ⟨g2, 0, none⟩) 1 1]] W fun e w' => ∃ va vc, e = .returned (.agg #[.string { data := #[115] }, .string { data := #[] }, .slice va 1 vc]) ∧ DefR w' [.string { data := #[115] }, .string { data := #[] }, .slice va 1 vc] (oneD 5) va vc ∧ Below W.heap.size W w' := by
  refine (dCopy_any (oneD 5) _ _ _ W (h.toR (by unfold I64w; omega)) (one_small 5)).mono ?_
  rintro e w' ⟨va, vc, rows, rfl, h1, h2, h3, hb⟩
  exact ⟨va, vc, rfl, ⟨rfl, by simp only [oneD]; decide, by simp only [oneD]; decide, rows, h1, RdS.of_owns h2, fun i r s hr hs => (h3 i r s hr hs).toX⟩, hb⟩
theorem c_same2 {g1 g2 : Nat} {va : Option Addr} {vc : Nat} {W : World} (h' : DefR W [.string { data := #[115] }, .string { data := #[] }, .slice va 1 vc] (oneD 5) va vc) (h : OneAt W g1 g2 5) : Calls Try.prog 12 #[.agg #[.string { data := #[115] }, .string { data := #[] }, .slice va 1 vc], .agg #[.string { data := #[115] }, .string { data := #[] }, .slice (some ⟨g2, 0, none⟩) 1 1]] W fun e w' => e = .returned (.bool true) ∧ Below W.heap.size W w' := by
  have := dSame_any (oneD 5) (oneD 5) _ _ _ _ _ _ W h' (h.toR (by unfold I64w; omega))
  rw [one_same] at this
  exact this
theorem c_index {n : ByteArray} {k : Int} (hf : idxStep (oneD 5).steps n 0 = k) {g1 g2 : Nat} {W : World} (h : OneAt W g1 g2 5) : Calls Try.prog 14 #[.agg #[.string { data := #[115] }, .string { data := #[] }, .slice (some ⟨g2, 0, none⟩) 1 1], .string n] W fun e w' => e = .returned (.int .i64 k) ∧ Below W.heap.size W w' := by
  have := dIndex_any (oneD 5) n _ _ _ W (h.toR (by unfold I64w; omega))
  rw [hf] at this
  exact this

end Go.Proofs.Ytkgcpbhlbfjcoaa
