/-
  block.Copy, def.tree: contracts.
-/
import Derived.Test.YtgfiogjfgbegpaaGreatBz24
import Derived.Test.YtgfiogjfgbegpaaGreatBz27
import Derived.Test.YtgfiogjfgbegpaaGreatBz30
namespace Go.Proofs.YtgfiogjfgbegpaaGreat
open Go Go.RowKit Go.WideShapes

set_option maxRecDepth 100000 in
theorem Copy_any (x : Tree) (cs : List Value) (w : World) (h : NodeR w cs x) (hs : SmallP 18 x) :
    Calls Tryz.prog 82 #[.agg cs.toArray] w fun e w' => ∃ cs', e = .returned (.agg cs'.toArray) ∧ NodeO w' (inSpan w.heap.size w'.heap.size) cs' x ∧ Below w.heap.size w w' := by
  have H := Lib.hid h
  obtain ⟨ka, kc, ba, bc, rfl⟩ := h.cells
  clear h
  go_enter Tryz.func82, Tryz.ntmps82
  go_wp2_with fail
  obtain ⟨hb0, g0, g1, hsz⟩ := alloc2 w 45 45 #[.int .u8 (x.kind : Int), .string x.text, .slice ka x.keys.length kc, .slice ba x.kids.length bc, .int .i64 x.line] #[.int .u8 0, .string { data := #[] }, .slice none 0 0, .slice none 0 0, .int .i64 0]
  generalize hwz : (w.alloc (.cells #[.int .u8 (x.kind : Int), .string x.text, .slice ka x.keys.length kc, .slice ba x.kids.length bc, .int .i64 x.line] 45)).alloc (.cells #[.int .u8 0, .string { data := #[] }, .slice none 0 0, .slice none 0 0, .int .i64 0] 45) = wz at *
  clear hwz
  refine (clone_any x 18 18 _ wz (H.out.belowW hb0) hs (Nat.le_refl _) (by decide)).mono ?_
  rintro e w1 ⟨cs', rfl, hn1, hb1⟩
  obtain ⟨ka', kc', ba', bc', rfl⟩ := hn1.cells
  have g2 := (hb1.block _ (by omega)).trans g1
  have HG := Lib.hid g2
  obtain ⟨q0, q1, q2, q3, q4⟩ := cells5 g2
  obtain ⟨f0, f1, f2, f3, f4⟩ := cells5w g2
  have HN := Lib.hid hn1
  have HB := Lib.hid (hb0.trans (hb1.mono (by omega)))
  clear g0 g1 g2 hn1 hb0 hb1
  go_wp2
  have hset := set5w (x0 := .int .u8 (x.kind : Int)) (x1 := .string x.text) (x2 := .slice ka' x.keys.length kc') (x3 := .slice ba' x.kids.length bc') (x4 := .int .i64 x.line) HG.out
  have hbf := set5w_below (x0 := .int .u8 (x.kind : Int)) (x1 := .string x.text) (x2 := .slice ka' x.keys.length kc') (x3 := .slice ba' x.kids.length bc') (x4 := .int .i64 x.line) (HB.out) (B := w.heap.size + 1) (by omega)
  have hof : ∀ g, g ≠ w.heap.size + 1 → (((((w1.setCell ⟨w.heap.size + 1, 0, none⟩ (.int .u8 (x.kind : Int))).setCell ⟨w.heap.size + 1, 1, none⟩ (.string x.text)).setCell ⟨w.heap.size + 1, 2, none⟩ (.slice ka' x.keys.length kc')).setCell ⟨w.heap.size + 1, 3, none⟩ (.slice ba' x.kids.length bc')).setCell ⟨w.heap.size + 1, 4, none⟩ (.int .i64 x.line)).heap[g]? = w1.heap[g]? := fun g hg => set5w_other hg
  have hsf : (((((w1.setCell ⟨w.heap.size + 1, 0, none⟩ (.int .u8 (x.kind : Int))).setCell ⟨w.heap.size + 1, 1, none⟩ (.string x.text)).setCell ⟨w.heap.size + 1, 2, none⟩ (.slice ka' x.keys.length kc')).setCell ⟨w.heap.size + 1, 3, none⟩ (.slice ba' x.kids.length bc')).setCell ⟨w.heap.size + 1, 4, none⟩ (.int .i64 x.line)).heap.size = w1.heap.size := by simp
  clear q0 q1 q2 q3 q4 f0 f1 f2 f3 f4
  generalize (((((w1.setCell ⟨w.heap.size + 1, 0, none⟩ (.int .u8 (x.kind : Int))).setCell ⟨w.heap.size + 1, 1, none⟩ (.string x.text)).setCell ⟨w.heap.size + 1, 2, none⟩ (.slice ka' x.keys.length kc')).setCell ⟨w.heap.size + 1, 3, none⟩ (.slice ba' x.kids.length bc')).setCell ⟨w.heap.size + 1, 4, none⟩ (.int .i64 x.line)) = wf at *
  obtain ⟨y0, y1, y2, y3, y4⟩ := cells5 hset
  have HOF := Lib.hid hof
  have HSF := Lib.hid hsf
  have HBF := Lib.hid hbf
  clear hof hsf hbf hset
  refine bodyPost_ret (v := .agg #[.int .u8 (x.kind : Int), .string x.text, .slice ka' x.keys.length kc', .slice ba' x.kids.length bc', .int .i64 x.line]) (by simp [results, Tryz.results82, go_sem, y0, y1, y2, y3, y4]) rfl ?_
  refine ⟨_, rfl, HN.out.keep (fun g hP _ => HOF.out g (by have := hP.1; omega)) (fun g hP => ⟨by have := hP.1; omega, by have := hP.2; have := HSF.out; omega⟩), HBF.out⟩

end Go.Proofs.YtgfiogjfgbegpaaGreat

/-
  def.Tree: contract.
-/
namespace Go.Proofs.YtgfiogjfgbegpaaGreat
open Go Go.RowKit Go.WideShapes

end Go.Proofs.YtgfiogjfgbegpaaGreat

/-
  Plain: the tree of a definition that may be, is one that may be; like definitions have like trees (no program).
-/
namespace Go.Proofs.YtgfiogjfgbegpaaGreat
open Go Go.RowKit

structure StepFine (s : StepD) : Prop where
  texts : ∀ x ∈ [s.name, s.action, s.undo], c64 x = 0
  after : ∀ x ∈ s.after, c64 x = 0
  fits : fitsB [s.most, s.first, s.factor, s.limit] = true
  note : noneT s.note = true ∨ (checkT s.note = 0 ∧ depthT 18 s.note ≤ 13)
structure DefFine (d : DefD) : Prop where
  name : c64 d.name = 0
  text : checkN (bsN d.text) 4096 = 0
  steps : ∀ s ∈ d.steps, StepFine s
end Go.Proofs.YtgfiogjfgbegpaaGreat

/-
  def.Same: the walk of the comparison of steps, slices.EqualFunc on steps, and of definitions.
-/
namespace Go.Proofs.YtgfiogjfgbegpaaGreat
open Go.RowKit Go.WideShapes

end Go.Proofs.YtgfiogjfgbegpaaGreat

/-
  Plain: what is unlike in definitions, part by part (no program).
-/
namespace Go.Proofs.YtgfiogjfgbegpaaGreat
open Go Go.RowKit

end Go.Proofs.YtgfiogjfgbegpaaGreat
