/-
  def: text, number, builder: contracts.
-/
import Derived.Laws.EntriesVeiled
import Derived.Test.YtdhgcgejdoedbaaGreatDoorBw14
import Derived.Test.YtdhgcgejdoedbaaGreatDoorBw16
import Derived.Test.YtdhgcgejdoedbaaGreatDoorBw17
import Derived.Test.YtdhgcgejdoedbaaGreatDoorBw19
namespace Go.Proofs.YtdhgcgejdoedbaaGreatDoor
open Go Go.RowKit Go.WideShapes

end Go.Proofs.YtdhgcgejdoedbaaGreatDoor

/-
  def.builder's function that puts a key: contract.
-/
namespace Go.Proofs.YtdhgcgejdoedbaaGreatDoor
open Go Go.RowKit Go.WideShapes

theorem MapB.frmZ {w : World} {B0 : Nat} {Z : Nat → Prop} {vk vc : Value} {keys : List ByteArray} {kids : List Tree} (h : MapB w B0 Z vk vc keys kids) {N i : Nat} {x : Value} (hz : Z N) : MapB (w.setCell ⟨N, i, none⟩ x) B0 Z vk vc keys kids :=
  h.frm (fun g _ hg => Below.heap_setCell _ _ _ _ (fun e => hg (by rw [show g = N from e]; exact hz))) (by simp)

end Go.Proofs.YtdhgcgejdoedbaaGreatDoor

/-
  def.builder's function, def.row, def.retry: contracts.
-/
namespace Go.Proofs.YtdhgcgejdoedbaaGreatDoor
open Go Go.RowKit Go.WideShapes

theorem NodeO.okIn {w : World} {_N B0 : Nat} {keys : List ByteArray} {kids : List Tree} {vk vc : Value} {s : Nat} {cs : List Value} {kid : Tree} (_hm : MapB w B0 (fun g => g < B0) vk vc keys kids) (hs : ∀ g, (vk.ownBlock = some g ∨ vc.ownBlock = some g) → g < s) (hB : B0 ≤ s) (h : NodeO w (inSpan s w.heap.size) cs kid) : NodeO w (okB (fun g => g < B0) w vk vc) cs kid :=
  h.keep (fun _ _ _ => rfl) (fun g hg => ⟨hg.2, by show ¬ g < B0; have := hg.1; omega, fun e => by have := hs g (.inl e); have := hg.1; omega, fun e => by have := hs g (.inr e); have := hg.1; omega⟩)
end Go.Proofs.YtdhgcgejdoedbaaGreatDoor

/-
  def.retry, def.row: contracts.
-/
namespace Go.Proofs.YtdhgcgejdoedbaaGreatDoor
open Go Go.RowKit Go.WideShapes

def seqT (kids : List Tree) : Tree := .mk 2 { data := #[] } [] kids 0
end Go.Proofs.YtdhgcgejdoedbaaGreatDoor

/-
  def.row: contract; a Seq under construction.
-/
namespace Go.Proofs.YtdhgcgejdoedbaaGreatDoor
open Go Go.RowKit Go.WideShapes

structure SeqB (w : World) (N B0 : Nat) (vc : Value) (kids : List Tree) : Prop where
  map : MapB w B0 (fun g => g < B0) (.slice none 0 0) vc [] kids
  at' : w.heap[N]? = some (.cells #[.int .u8 2, .string { data := #[] }, .slice none 0 0, vc, .int .i64 0] 25 (0, 0))
  lt : N < B0
  le : B0 ≤ w.heap.size
theorem SeqB.below {w w' : World} {N B0 : Nat} {vc : Value} {kids : List Tree} (h : SeqB w N B0 vc kids) (hb : Below w.heap.size w w') : SeqB w' N B0 vc kids :=
  ⟨h.map.below hb, (hb.block _ (Array.getElem?_eq_some_iff.1 h.at').1).trans h.at', h.lt, by have := h.le; have := hb.size; omega⟩
theorem SeqB.owns {w : World} {N B0 : Nat} {vc : Value} {kids : List Tree} (h : SeqB w N B0 vc kids) : ∃ xs : List Value, w.ownsRow B0 25 5 vc kids.length xs := by
  obtain ⟨rows, _, h2, _⟩ := h.map.cown; exact ⟨_, h2⟩
theorem SeqB.form {w : World} {N B0 : Nat} {vc : Value} {kids : List Tree} (h : SeqB w N B0 vc kids) : ∃ ba bc, vc = .slice ba kids.length bc := by
  obtain ⟨_, _, ba, bc, _, h2⟩ := h.map.form; exact ⟨ba, bc, h2⟩
theorem SeqB.step {w w6 w7 : World} {N B0 s : Nat} {vc v' : Value} {kids : List Tree} {kid : Tree} {cs xs : List Value} (h : SeqB w N B0 vc kids) (hb : Below w.heap.size w w6) (hs : w.heap.size ≤ s) (hkid : NodeO w6 (inSpan s w6.heap.size) cs kid) (hg : w6.grownBy w7 vc.ownBlock)
    (hxs : w6.ownsRow B0 25 5 vc kids.length xs) (hown : w7.ownsRow B0 25 5 v' (kids.length + 1) (xs ++ cs)) (hv' : v'.ownBlock = vc.ownBlock ∨ v'.ownBlock = some w6.heap.size) :
    SeqB (w7.setCell ⟨N, 3, none⟩ v') N B0 v' (kids ++ [kid]) ∧ Below N w (w7.setCell ⟨N, 3, none⟩ v') := by
  obtain ⟨xs', ho⟩ := h.owns
  have hN := (Array.getElem?_eq_some_iff.1 h.at').1
  have hlt := h.lt
  have hle := h.le
  have hs1 := hb.size
  have hs2 := hg.size
  have hlo : ∀ g, vc.ownBlock = some g → B0 ≤ g ∧ g < w.heap.size := fun g hg => ho.lt g hg
  have h1 := (h.map.pushC hb (NodeO.okIn (_N := N) (h.map.below hb) (fun g hg => by
    rcases hg with hg | hg
    · simp [Value.ownBlock] at hg
    · have := (hlo g hg).2; omega) (by omega) hkid) hg hxs hown hv' (fun g hg => by have : g < B0 := hg; omega)).frmZ (N := N) (i := 3) (x := v') (by show N < B0; omega)
  have e7 : w7.heap[N]? = some (.cells #[.int .u8 2, .string { data := #[] }, .slice none 0 0, vc, .int .i64 0] 25 (0, 0)) := (hg.block N (by omega) (fun e => by have := (hlo N e.symm).1; omega)).trans ((hb.block N hN).trans h.at')
  refine ⟨⟨h1, by simp [World.setCell, e7, Array.getElem?_modify], hlt, by simp; omega⟩, ?_⟩
  have hx : Below N w w7 := (hb.mono (by omega)).grown hg (by omega) (fun j hj => by have := (hlo j hj).1; omega)
  exact hx.setCell (p := ⟨N, 3, none⟩) (Nat.le_refl _) _
theorem SeqB.new {w : World} {N B0 : Nat} (hat : w.heap[N]? = some (.cells #[.int .u8 2, .string { data := #[] }, .slice none 0 0, .slice none 0 0, .int .i64 0] 25 (0, 0))) (h1 : N < B0) (h2 : B0 ≤ w.heap.size) : SeqB w N B0 (.slice none 0 0) [] := ⟨MapB.nil _ _ _, hat, h1, h2⟩
theorem SeqB.node {w : World} {N B0 : Nat} {vc : Value} {kids : List Tree} (h : SeqB w N B0 vc kids) : NodeO w (inSpan B0 w.heap.size) [.int .u8 2, .string { data := #[] }, .slice none 0 0, vc, .int .i64 0] (seqT kids) :=
  h.map.node (P := inSpan B0 w.heap.size) (fun g hg hz => ⟨by have : ¬ g < B0 := hz; omega, hg⟩) (k := 2) (by decide) (by simp [ByteArray.size]) (by decide)

end Go.Proofs.YtdhgcgejdoedbaaGreatDoor
