/-
  rescriptref21.put: contract.
-/
import Derived.Deep.Cut
import Derived.Test.YtgfiogjfgbegpaaGreatBz33
namespace Go.Proofs.YtgfiogjfgbegpaaGreat
open Go Go.RowKit Go.WideShapes

structure KeptP (w w' : World) (v1 v2 : Value) : Prop where
  keep : ∀ g, g < w.heap.size → v1.ownBlock ≠ some g → v2.ownBlock ≠ some g → w'.heap[g]? = w.heap[g]?

end Go.Proofs.YtgfiogjfgbegpaaGreat

/-
  Maps and Seqs in variables (rescriptref21.Tree); a drawn region in which two operations may come up.
-/
namespace Go.Proofs.YtgfiogjfgbegpaaGreat
open Go Go.RowKit Go.WideShapes

def ZV (Bin lo T g : Nat) : Prop := (Bin ≤ g ∧ g < lo) ∨ g = T
def PV (Bin s hi g : Nat) : Prop := g < Bin ∨ inSpan s hi g
structure MapV (w : World) (Bin lo T : Nat) (keys : List ByteArray) (kids : List Tree) (ka : Option Addr) (kc : Nat) (ba : Option Addr) (bc : Nat) : Prop where
  map : MapB w lo (ZV Bin lo T) (.slice ka keys.length kc) (.slice ba kids.length bc) keys kids
  at' : w.heap[T]? = some (.cells #[.int .u8 3, .string { data := #[] }, .slice ka keys.length kc, .slice ba kids.length bc, .int .i64 0] 45 (0, 0))
  bin : Bin ≤ lo
  lo : lo ≤ T
theorem MapV.below {w w' : World} {Bin lo T : Nat} {keys : List ByteArray} {kids : List Tree} {ka ba : Option Addr} {kc bc : Nat} (h : MapV w Bin lo T keys kids ka kc ba bc) (hb : Below w.heap.size w w') : MapV w' Bin lo T keys kids ka kc ba bc :=
  ⟨h.map.below hb, (hb.block _ (Array.getElem?_eq_some_iff.1 h.at').1).trans h.at', h.bin, h.lo⟩
theorem MapV.lt {w : World} {Bin lo T : Nat} {keys : List ByteArray} {kids : List Tree} {ka ba : Option Addr} {kc bc : Nat} (h : MapV w Bin lo T keys kids ka kc ba bc) : T < w.heap.size := (Array.getElem?_eq_some_iff.1 h.at').1
def MapW (w : World) (Bin lo : Nat) (keys : List ByteArray) (kids : List Tree) (vk vc : Value) : Prop := MapB w lo (fun g => Bin ≤ g ∧ g < lo) vk vc keys kids
theorem MapW.new (w : World) (Bin lo : Nat) : MapW w Bin lo [] [] (.slice none 0 0) (.slice none 0 0) := MapB.nil _ _ _
theorem MapW.alloc {w : World} {Bin lo : Nat} {keys : List ByteArray} {kids : List Tree} {ka ba : Option Addr} {kc bc : Nat} (h : MapW w Bin lo keys kids (.slice ka keys.length kc) (.slice ba kids.length bc)) (h1 : Bin ≤ lo) (h2 : lo ≤ w.heap.size) :
    MapV (w.alloc (.cells #[.int .u8 3, .string { data := #[] }, .slice ka keys.length kc, .slice ba kids.length bc, .int .i64 0] 45)) Bin lo w.heap.size keys kids ka kc ba bc := by
  refine ⟨?_, World.alloc_heap_new w _, h1, h2⟩
  have h3 : MapB w lo (ZV Bin lo w.heap.size) (.slice ka keys.length kc) (.slice ba kids.length bc) keys kids := MapB.reZ h (fun g hg hz => by
    rcases hz with hz | hz
    · exact hz
    · omega)
  exact h3.below ((Below.refl _ _).alloc (Nat.le_refl _) _)
theorem MapV.stored {w : World} {Bin lo T : Nat} {keys : List ByteArray} {kids : List Tree} {ka ba : Option Addr} {kc bc : Nat} {c0 c1 c2 c3 c4 : Value} (h : MapB w lo (ZV Bin lo T) (.slice ka keys.length kc) (.slice ba kids.length bc) keys kids) (ht : w.heap[T]? = some (.cells #[c0, c1, c2, c3, c4] 45 (0, 0))) (h1 : Bin ≤ lo) (h2 : lo ≤ T) :
    MapV (((((w.setCell ⟨T, 0, none⟩ (.int .u8 3)).setCell ⟨T, 1, none⟩ (.string { data := #[] })).setCell ⟨T, 2, none⟩ (.slice ka keys.length kc)).setCell ⟨T, 3, none⟩ (.slice ba kids.length bc)).setCell ⟨T, 4, none⟩ (.int .i64 0)) Bin lo T keys kids ka kc ba bc :=
  ⟨h.frm (fun g _ hz => set5w_other (fun e => hz (.inr e))) (by simp), set5w ht, h1, h2⟩
structure SeqV (w : World) (Bin N : Nat) (vc : Value) (kids : List Tree) : Prop where
  map : MapB w (N + 1) (fun g => Bin ≤ g ∧ g < N + 1) (.slice none 0 0) vc [] kids
  at' : w.heap[N]? = some (.cells #[.int .u8 2, .string { data := #[] }, .slice none 0 0, vc, .int .i64 0] 45 (0, 0))
  bin : Bin ≤ N
theorem SeqV.lt {w : World} {Bin N : Nat} {vc : Value} {kids : List Tree} (h : SeqV w Bin N vc kids) : N < w.heap.size := (Array.getElem?_eq_some_iff.1 h.at').1
theorem SeqV.below {w w' : World} {Bin N : Nat} {vc : Value} {kids : List Tree} (h : SeqV w Bin N vc kids) (hb : Below w.heap.size w w') : SeqV w' Bin N vc kids := ⟨h.map.below hb, (hb.block _ h.lt).trans h.at', h.bin⟩
theorem SeqV.owns {w : World} {Bin N : Nat} {vc : Value} {kids : List Tree} (h : SeqV w Bin N vc kids) : ∃ xs : List Value, w.ownsRow (N + 1) 45 5 vc kids.length xs := by
  obtain ⟨rows, _, h2, _⟩ := h.map.cown; exact ⟨_, h2⟩
theorem SeqV.form {w : World} {Bin N : Nat} {vc : Value} {kids : List Tree} (h : SeqV w Bin N vc kids) : ∃ ba bc, vc = .slice ba kids.length bc := by
  obtain ⟨_, _, ba, bc, _, h2⟩ := h.map.form; exact ⟨ba, bc, h2⟩
theorem SeqV.new {w : World} {Bin : Nat} (h1 : Bin ≤ w.heap.size) : SeqV (w.alloc (.cells #[.int .u8 2, .string { data := #[] }, .slice none 0 0, .slice none 0 0, .int .i64 0] 45)) Bin w.heap.size (.slice none 0 0) [] := ⟨MapB.nil _ _ _, World.alloc_heap_new w _, h1⟩
theorem SeqV.step {w w6 w7 : World} {Bin N s : Nat} {vc v' : Value} {kids : List Tree} {kid : Tree} {cs xs : List Value} (h : SeqV w Bin N vc kids) (hb : Below w.heap.size w w6) (hs : w.heap.size ≤ s) (hkid : NodeO w6 (PV Bin s w6.heap.size) cs kid) (hg : w6.grownBy w7 vc.ownBlock)
    (hxs : w6.ownsRow (N + 1) 45 5 vc kids.length xs) (hown : w7.ownsRow (N + 1) 45 5 v' (kids.length + 1) (xs ++ cs)) (hv' : Fresh w6 vc v') :
    SeqV (w7.setCell ⟨N, 3, none⟩ v') Bin N v' (kids ++ [kid]) ∧ Below N w (w7.setCell ⟨N, 3, none⟩ v') := by
  obtain ⟨xs', ho⟩ := h.owns
  have hN := h.lt
  have hbn := h.bin
  have hs1 := hb.size
  have hs2 := hg.size
  have hlo : ∀ g, vc.ownBlock = some g → N + 1 ≤ g ∧ g < w.heap.size := fun g hg => ho.lt g hg
  have hk : NodeO w6 (okB (fun g => Bin ≤ g ∧ g < N + 1) w6 (.slice none 0 0) vc) cs kid := hkid.keep (fun _ _ _ => rfl) (fun g hP => by
    rcases hP with hP | hP
    · exact ⟨by omega, fun hz => by omega, by simp [Value.ownBlock], fun e => by have := hlo g e; omega⟩
    · have h1 := hP.1; have h2 := hP.2
      exact ⟨by omega, fun hz => by omega, by simp [Value.ownBlock], fun e => by have := hlo g e; omega⟩)
  have h1 := (h.map.pushCF hb hk hg hxs hown hv' (fun g hg => by omega)).frmZ (N := N) (i := 3) (x := v') ⟨by omega, by omega⟩
  have e7 : w7.heap[N]? = some (.cells #[.int .u8 2, .string { data := #[] }, .slice none 0 0, vc, .int .i64 0] 45 (0, 0)) := (hg.block N (by omega) (fun e => by have := (hlo N e.symm).1; omega)).trans ((hb.block N hN).trans h.at')
  refine ⟨⟨h1, by simp [World.setCell, e7, Array.getElem?_modify], hbn⟩, ?_⟩
  have hx : Below N w w7 := (hb.mono (by omega)).grown hg (by omega) (fun j hj => by have := (hlo j hj).1; omega)
  exact hx.setCell (p := ⟨N, 3, none⟩) (Nat.le_refl _) _
theorem SeqV.node {w : World} {Bin N : Nat} {vc : Value} {kids : List Tree} (h : SeqV w Bin N vc kids) : NodeO w (PV Bin (N + 1) w.heap.size) [.int .u8 2, .string { data := #[] }, .slice none 0 0, vc, .int .i64 0] (seqT kids) :=
  h.map.node (fun g hg hz => by
    rcases Nat.lt_or_ge g Bin with h1 | h1
    · exact .inl h1
    · refine .inr ⟨?_, hg⟩
      rcases Nat.lt_or_ge g (N + 1) with h2 | h2
      · exact absurd ⟨h1, h2⟩ hz
      · exact h2) (k := 2) (by decide) (by simp [ByteArray.size]) (by decide)
end Go.Proofs.YtgfiogjfgbegpaaGreat
