/-
  block.clone, block.Copy: contracts.
-/
import Derived.Test.YtdhgcgejdoedbaaGreatDoorBw7
import Derived.Test.YtdhgcgejdoedbaaGreatDoorBw14
import Derived.Test.YtdhgcgejdoedbaaGreatDoorBw16
namespace Go.Proofs.YtdhgcgejdoedbaaGreatDoor
open Go Go.RowKit Go.WideShapes
attribute [local go_sem ↓] Go.wp_at_zero Go.wp_at_succ

theorem Tryz.info_node : (Tryz.prog.info? 25).map (fun i => (i.zero, i.size, i.bytes)) = some (some (.agg #[.int .u8 0, .string { data := #[] }, .slice none 0 0, .slice none 0 0, .int .i64 0]), 5, 80) := by kernel_rfl

theorem cells5w {W : World} {B : Nat} {a b c d e : Value} {t : TypeId} (h : W.heap[B]? = some (.cells #[a, b, c, d, e] t (0, 0))) :
    W.frozen? ⟨B, 0, none⟩ = false ∧ W.frozen? ⟨B, 1, none⟩ = false ∧ W.frozen? ⟨B, 2, none⟩ = false ∧ W.frozen? ⟨B, 3, none⟩ = false ∧ W.frozen? ⟨B, 4, none⟩ = false := by
  simp [World.frozen?, h]

structure ClR (w : World) (k : Nat) (t : ByteArray) (ks : List ByteArray) (kids : List Tree) (ln : Int) (vk : Value) (wr : World) (j : Nat) (v : Value) (rows : List (List Value)) : Prop where
  out : wr.heap[w.heap.size + 1 + 1]? = some (.cells #[.int .u8 (k : Int), .string t, vk, v, .int .i64 ln] 25 (0, 0))
  res : wr.heap[w.heap.size + 1]? = some (.cells #[.int .u8 0, .string { data := #[] }, .slice none 0 0, .slice none 0 0, .int .i64 0] 25 (0, 0))
  own : wr.ownsRow (w.heap.size + 3) 25 5 v j rows.flatten
  len : rows.length = j
  node : ∀ (i : Nat) (r : List Value) (x : Tree), rows[i]? = some r → kids[i]? = some x → NodeO wr (inSpanBut (w.heap.size + 3) wr.heap.size v) r x
  keys : RdS wr vk 1 ks.length (strsV ks)
  kown : ∀ g, vk.ownBlock = some g → inSpanBut (w.heap.size + 3) wr.heap.size v g
  below : Below w.heap.size w wr
  size : w.heap.size + 3 ≤ wr.heap.size

theorem ClR.step {w : World} {k : Nat} {t : ByteArray} {ks : List ByteArray} {kids : List Tree} {ln : Int} {vk : Value} {wr : World} {j : Nat} {v : Value} {rows : List (List Value)} (h : ClR w k t ks kids ln vk wr j v rows) {wA w5 w6 w7 : World} {cs5 : List Value} {v' : Value}
    (hA : Below wr.heap.size wr wA) (h5 : Below wA.heap.size wA w5) (h6 : Below w5.heap.size w5 w6) (hj : j < kids.length) (hn : NodeO w5 (inSpan wA.heap.size w5.heap.size) cs5 kids[j]) (hg : w6.grownBy w7 v.ownBlock)
    (hown : w7.ownsRow (w.heap.size + 3) 25 5 v' (j + 1) (rows.flatten ++ cs5)) (hv' : v'.ownBlock = v.ownBlock ∨ v'.ownBlock = some w6.heap.size) :
    ClR w k t ks kids ln vk (w7.setCell ⟨w.heap.size + 1 + 1, 3, none⟩ v') (j + 1) v' (rows ++ [cs5]) := by
  have s1 := h.size
  have s2 := hA.size
  have s3 := h5.size
  have s4 := h6.size
  have s5 := hg.size
  have hvlo : ∀ g, v.ownBlock = some g → w.heap.size + 3 ≤ g ∧ g < wr.heap.size := fun g hgv => by have := h.own.lt g hgv; omega
  have old : ∀ g, g < wr.heap.size → v.ownBlock ≠ some g → w7.heap[g]? = wr.heap[g]? := fun g hl hne => by
    rw [hg.block g (by omega) (fun e => hne e.symm), h6.block g (by omega), h5.block g (by omega), hA.block g hl]
  have mid : ∀ g, wA.heap.size ≤ g → g < w5.heap.size → w7.heap[g]? = w5.heap[g]? := fun g hl hh => by
    rw [hg.block g (by omega) (fun e => by have := hvlo g e.symm; omega), h6.block g hh]
  have oth : ∀ g, g ≠ w.heap.size + 1 + 1 → (w7.setCell ⟨w.heap.size + 1 + 1, 3, none⟩ v').heap[g]? = w7.heap[g]? := fun g hne => Below.heap_setCell _ _ _ _ hne
  have hO : w7.heap[w.heap.size + 1 + 1]? = wr.heap[w.heap.size + 1 + 1]? := old _ (by omega) (fun e => by have := hvlo _ e; omega)
  have sz : (w7.setCell ⟨w.heap.size + 1 + 1, 3, none⟩ v').heap.size = w7.heap.size := by simp
  have keepP : ∀ g, inSpanBut (w.heap.size + 3) wr.heap.size v g → inSpanBut (w.heap.size + 3) (w7.setCell ⟨w.heap.size + 1 + 1, 3, none⟩ v').heap.size v' g := fun g ⟨a, b, c⟩ => ⟨a, by omega, fun e => by
    rcases hv' with hv' | hv'
    · exact c (hv' ▸ e)
    · rw [hv'] at e; injection e with e; omega⟩
  have keepK : ∀ g, inSpanBut (w.heap.size + 3) wr.heap.size v g → (w7.setCell ⟨w.heap.size + 1 + 1, 3, none⟩ v').heap[g]? = wr.heap[g]? := fun g ⟨a, b, c⟩ => by rw [oth g (by omega), old g b c]
  refine ⟨?_, ?_, ?_, ?_, ?_, ?_, ?_, ?_, ?_⟩
  · simp [World.setCell, Array.getElem?_modify, hO, h.out]
  · rw [oth _ (by omega), old _ (by omega) (fun e => by have := hvlo _ e; omega)]; exact h.res
  · rw [flatten_snoc]
    exact ownsRow_keepB hown (fun g hg' => oth g (by have := hown.lt g hg'; omega))
  · simp [h.len]
  · intro i r x hr hx
    rcases Nat.lt_trichotomy i rows.length with hlt | heq | hgt
    · rw [List.getElem?_append_left hlt] at hr
      exact (h.node i r x hr hx).keep (fun g hP _ => keepK g hP) keepP
    · subst heq
      simp at hr
      subst hr
      rw [h.len, List.getElem?_eq_getElem hj] at hx
      cases hx
      refine hn.keep (fun g hP hl => ?_) (fun g hP => ⟨by have := hP.1; omega, by have := hP.2; omega, fun e => ?_⟩)
      · rw [oth g (by have := hP.1; omega), mid g hP.1 hP.2]
      · have h1 := hP.1; have h2 := hP.2
        rcases hv' with hv' | hv'
        · rw [hv'] at e; have := hvlo g e; omega
        · rw [hv'] at e; injection e with e; omega
    · rw [List.getElem?_eq_none (by simp; omega)] at hr; cases hr
  · exact h.keys.keepB (fun g hg' hl => keepK g (h.kown g hg'))
  · exact fun g hg' => keepP g (h.kown g hg')
  · refine (((h.below.trans (hA.mono (by omega))).trans (h5.mono (by omega))).trans (h6.mono (by omega))).grown hg (by omega) (fun i ei => ?_) |>.setCell (by show w.heap.size ≤ w.heap.size + 1 + 1; omega) v'
    have := hvlo i ei; omega
  · omega

theorem set5w {W : World} {B : Nat} {a b c d e x0 x1 x2 x3 x4 : Value} {t : TypeId} (h : W.heap[B]? = some (.cells #[a, b, c, d, e] t (0, 0))) :
    (((((W.setCell ⟨B, 0, none⟩ x0).setCell ⟨B, 1, none⟩ x1).setCell ⟨B, 2, none⟩ x2).setCell ⟨B, 3, none⟩ x3).setCell ⟨B, 4, none⟩ x4).heap[B]? = some (.cells #[x0, x1, x2, x3, x4] t (0, 0)) := by
  simp [World.setCell, h, Array.getElem?_modify]
theorem set5w_other {W : World} {B k : Nat} {x0 x1 x2 x3 x4 : Value} (h : k ≠ B) :
    (((((W.setCell ⟨B, 0, none⟩ x0).setCell ⟨B, 1, none⟩ x1).setCell ⟨B, 2, none⟩ x2).setCell ⟨B, 3, none⟩ x3).setCell ⟨B, 4, none⟩ x4).heap[k]? = W.heap[k]? := by
  rw [Below.heap_setCell _ _ _ _ h, Below.heap_setCell _ _ _ _ h, Below.heap_setCell _ _ _ _ h, Below.heap_setCell _ _ _ _ h, Below.heap_setCell _ _ _ _ h]
theorem set5w_below {n : Nat} {w W : World} (hb : Below n w W) {B : Nat} {x0 x1 x2 x3 x4 : Value} (h : n ≤ B) :
    Below n w (((((W.setCell ⟨B, 0, none⟩ x0).setCell ⟨B, 1, none⟩ x1).setCell ⟨B, 2, none⟩ x2).setCell ⟨B, 3, none⟩ x3).setCell ⟨B, 4, none⟩ x4) :=
  ((((hb.setCell (p := ⟨B, 0, none⟩) h _).setCell (p := ⟨B, 1, none⟩) h _).setCell (p := ⟨B, 2, none⟩) h _).setCell (p := ⟨B, 3, none⟩) h _).setCell (p := ⟨B, 4, none⟩) h _
theorem ClR.done {w : World} {k : Nat} {t : ByteArray} {ks : List ByteArray} {kids : List Tree} {ln : Int} {vk : Value} {wr : World} {v : Value} {rows : List (List Value)} (h : ClR w k t ks kids ln vk wr kids.length v rows) (h1 : k < 256) (h2 : t.size ≤ maxLen) (h3 : ∀ s ∈ ks, s.size ≤ maxLen) (h4 : -9223372036854775808 ≤ ln ∧ ln ≤ 9223372036854775807)
    {wf : World} (hof : ∀ g, g ≠ w.heap.size + 1 → wf.heap[g]? = wr.heap[g]?) (hsz : wf.heap.size = wr.heap.size) : NodeO wf (inSpan w.heap.size wf.heap.size) [.int .u8 (k : Int), .string t, vk, v, .int .i64 ln] (.mk k t ks kids ln) := by
  have s := h.size
  refine .mk rows h1 h2 h3 h4 (h.keys.keepB fun g hg _ => hof g (by have := h.kown g hg; have := this.1; omega)) h.len ((RdS.of_owns h.own).keepB fun g hg _ => hof g (by have := h.own.lt g hg; omega)) (fun _ g hg => ⟨by have := (h.kown g hg).1; omega, by have := (h.kown g hg).2.1; omega⟩) (fun _ g hg => ⟨by have := h.own.lt g hg; omega, by have := h.own.lt g hg; omega⟩) ?_
  intro i r x hr hx
  exact (h.node i r x hr hx).keep (fun g hP _ => hof g (by have := hP.1; omega)) (fun g hP => ⟨by have := hP.1; omega, by have := hP.2.1; omega⟩)
theorem five_set {W : World} {B : Nat} {a b c d e x y : Value} {t : TypeId} (h : W.heap[B]? = some (.cells #[a, b, c, d, e] t (0, 0))) :
    ((W.setCell ⟨B, 2, none⟩ x).setCell ⟨B, 3, none⟩ y).heap[B]? = some (.cells #[a, b, x, y, e] t (0, 0)) := by
  simp [World.setCell, h, Array.getElem?_modify]

end Go.Proofs.YtdhgcgejdoedbaaGreatDoor
