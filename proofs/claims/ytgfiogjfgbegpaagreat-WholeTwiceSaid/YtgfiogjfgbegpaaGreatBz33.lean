/-
  block.Copy, def.tree: contracts.
-/
import Derived.Test.YtgfiogjfgbegpaaGreatBz24
import Derived.Test.YtgfiogjfgbegpaaGreatBz27
import Derived.Test.YtgfiogjfgbegpaaGreatBz30
namespace Go.Proofs.YtgfiogjfgbegpaaGreat
open Go Go.RowKit Go.WideShapes

set_option maxRecDepth 100000 in
theorem Copy_any (x : Tree) (cs : List Value) (w : World) (h : NodeR w cs x) (hs : SmallP 18 x) :
    Calls Tryz.prog 82 #[.agg cs.toArray] w fun e w' => ∃ cs', e = .returned (.agg cs'.toArray) ∧ NodeO w' (inSpan w.heap.size w'.heap.size) cs' x ∧ Below w.heap.size w w' := by
  have H := Lib.hid h
  obtain ⟨ka, kc, ba, bc, rfl⟩ := h.cells
  clear h
  go_enter Tryz.func82, Tryz.ntmps82
  go_wp2_with fail
  obtain ⟨hb0, g0, g1, hsz⟩ := alloc2 w 45 45 #[.int .u8 (x.kind : Int), .string x.text, .slice ka x.keys.length kc, .slice ba x.kids.length bc, .int .i64 x.line] #[.int .u8 0, .string { data := #[] }, .slice none 0 0, .slice none 0 0, .int .i64 0]
  generalize hwz : (w.alloc (.cells #[.int .u8 (x.kind : Int), .string x.text, .slice ka x.keys.length kc, .slice ba x.kids.length bc, .int .i64 x.line] 45)).alloc (.cells #[.int .u8 0, .string { data := #[] }, .slice none 0 0, .slice none 0 0, .int .i64 0] 45) = wz at *
  clear hwz
  refine (clone_any x 18 18 _ wz (H.out.belowW hb0) hs (Nat.le_refl _) (by decide)).mono ?_
  rintro e w1 ⟨cs', rfl, hn1, hb1⟩
  obtain ⟨ka', kc', ba', bc', rfl⟩ := hn1.cells
  have g2 := (hb1.block _ (by omega)).trans g1
  have HG := Lib.hid g2
  obtain ⟨q0, q1, q2, q3, q4⟩ := cells5 g2
  obtain ⟨f0, f1, f2, f3, f4⟩ := cells5w g2
  have HN := Lib.hid hn1
  have HB := Lib.hid (hb0.trans (hb1.mono (by omega)))
  clear g0 g1 g2 hn1 hb0 hb1
  go_wp2
  have hset := set5w (x0 := .int .u8 (x.kind : Int)) (x1 := .string x.text) (x2 := .slice ka' x.keys.length kc') (x3 := .slice ba' x.kids.length bc') (x4 := .int .i64 x.line) HG.out
  have hbf := set5w_below (x0 := .int .u8 (x.kind : Int)) (x1 := .string x.text) (x2 := .slice ka' x.keys.length kc') (x3 := .slice ba' x.kids.length bc') (x4 := .int .i64 x.line) (HB.out) (B := w.heap.size + 1) (by omega)
  have hof : ∀ g, g ≠ w.heap.size + 1 → (((((w1.setCell ⟨w.heap.size + 1, 0, none⟩ (.int .u8 (x.kind : Int))).setCell ⟨w.heap.size + 1, 1, none⟩ (.string x.text)).setCell ⟨w.heap.size + 1, 2, none⟩ (.slice ka' x.keys.length kc')).setCell ⟨w.heap.size + 1, 3, none⟩ (.slice ba' x.kids.length bc')).setCell ⟨w.heap.size + 1, 4, none⟩ (.int .i64 x.line)).heap[g]? = w1.heap[g]? := fun g hg => set5w_other hg
  have hsf : (((((w1.setCell ⟨w.heap.size + 1, 0, none⟩ (.int .u8 (x.kind : Int))).setCell ⟨w.heap.size + 1, 1, none⟩ (.string x.text)).setCell ⟨w.heap.size + 1, 2, none⟩ (.slice ka' x.keys.length kc')).setCell ⟨w.heap.size + 1, 3, none⟩ (.slice ba' x.kids.length bc')).setCell ⟨w.heap.size + 1, 4, none⟩ (.int .i64 x.line)).heap.size = w1.heap.size := by simp
  clear q0 q1 q2 q3 q4 f0 f1 f2 f3 f4
  generalize (((((w1.setCell ⟨w.heap.size + 1, 0, none⟩ (.int .u8 (x.kind : Int))).setCell ⟨w.heap.size + 1, 1, none⟩ (.string x.text)).setCell ⟨w.heap.size + 1, 2, none⟩ (.slice ka' x.keys.length kc')).setCell ⟨w.heap.size + 1, 3, none⟩ (.slice ba' x.kids.length bc')).setCell ⟨w.heap.size + 1, 4, none⟩ (.int .i64 x.line)) = wf at *
  obtain ⟨y0, y1, y2, y3, y4⟩ := cells5 hset
  have HOF := Lib.hid hof
  have HSF := Lib.hid hsf
  have HBF := Lib.hid hbf
  clear hof hsf hbf hset
  refine bodyPost_ret (v := .agg #[.int .u8 (x.kind : Int), .string x.text, .slice ka' x.keys.length kc', .slice ba' x.kids.length bc', .int .i64 x.line]) (by simp [results, Tryz.results82, go_sem, y0, y1, y2, y3, y4]) rfl ?_
  refine ⟨_, rfl, HN.out.keep (fun g hP _ => HOF.out g (by have := hP.1; omega)) (fun g hP => ⟨by have := hP.1; omega, by have := hP.2; have := HSF.out; omega⟩), HBF.out⟩

def sName : ByteArray := { data := #[110, 97, 109, 101] }
def sAction : ByteArray := { data := #[97, 99, 116, 105, 111, 110] }
def sUndo : ByteArray := { data := #[117, 110, 100, 111] }
def sAfter : ByteArray := { data := #[97, 102, 116, 101, 114] }
def sRetry : ByteArray := { data := #[114, 101, 116, 114, 121] }
def sLimit : ByteArray := { data := #[108, 105, 109, 105, 116] }
def sNote : ByteArray := { data := #[110, 111, 116, 101] }
def sSaga : ByteArray := { data := #[115, 97, 103, 97] }
def sText : ByteArray := { data := #[116, 101, 120, 116] }
def sSteps : ByteArray := { data := #[115, 116, 101, 112, 115] }
def hasUndo (s : StepD) : Bool := !s.undo.toList.isEmpty
def hasAfter (s : StepD) : Bool := decide (0 < s.after.length)
def hasRetry (s : StepD) : Bool := !((s.most == 0 && s.first == 0) && s.factor == 0)
def hasLimit (s : StepD) : Bool := s.limit != 0
def hasNote (s : StepD) : Bool := !noneT s.note
def stepKs (s : StepD) : List ByteArray := consIf (hasNote s) (consIf (hasLimit s) (consIf (hasRetry s) (consIf (hasAfter s) (consIf (hasUndo s) [sName, sAction] sUndo) sAfter) sRetry) sLimit) sNote
def stepCs (s : StepD) : List Tree := consIf (hasNote s) (consIf (hasLimit s) (consIf (hasRetry s) (consIf (hasAfter s) (consIf (hasUndo s) [scalarT s.name, scalarT s.action] (scalarT s.undo)) (seqT (s.after.map scalarT))) (retryT s.most s.first s.factor)) (numT s.limit)) s.note
/-- A step's tree. -/
def stepT (s : StepD) : Tree := mapT (stepKs s) (stepCs s)

end Go.Proofs.YtgfiogjfgbegpaaGreat

/-
  def.Tree: contract.
-/
namespace Go.Proofs.YtgfiogjfgbegpaaGreat
open Go Go.RowKit Go.WideShapes

/-- What a builder may write: its two blocks, and those that came before. -/
def Zb (lo N B0 g : Nat) : Prop := g < lo ∨ N ≤ g ∧ g < B0
def hasText (d : DefD) : Bool := !d.text.toList.isEmpty
def defKs (d : DefD) : List ByteArray := consIf (hasText d) [sSaga] sText ++ [sSteps]
def defCs (d : DefD) : List Tree := consIf (hasText d) [scalarT d.name] (scalarT d.text) ++ [seqT (d.steps.map stepT)]
/-- A definition's tree. -/
def defT (d : DefD) : Tree := mapT (defKs d) (defCs d)
end Go.Proofs.YtgfiogjfgbegpaaGreat

/-
  Plain: the tree of a definition that may be, is one that may be; like definitions have like trees (no program).
-/
namespace Go.Proofs.YtgfiogjfgbegpaaGreat
open Go Go.RowKit

/-- What it is for a step to be right. -/
structure StepFine (s : StepD) : Prop where
  texts : ∀ x ∈ [s.name, s.action, s.undo], c64 x = 0
  after : ∀ x ∈ s.after, c64 x = 0
  fits : fitsB [s.most, s.first, s.factor, s.limit] = true
  note : noneT s.note = true ∨ (checkT s.note = 0 ∧ depthT 18 s.note ≤ 13)
structure DefFine (d : DefD) : Prop where
  name : c64 d.name = 0
  text : checkN (bsN d.text) 4096 = 0
  steps : ∀ s ∈ d.steps, StepFine s
/-- Are steps alike? -/
def sameS (s t : StepD) : Bool := decide (s.name = t.name) && decide (s.action = t.action) && decide (s.undo = t.undo) && decide (s.after = t.after) && (decide (s.most = t.most) && decide (s.first = t.first) && decide (s.factor = t.factor)) && decide (s.limit = t.limit) && sameT s.note t.note
def sameSs : List StepD → List StepD → Bool
  | [], [] => true
  | a :: l, b :: m => sameS a b && sameSs l m
  | [], _ :: _ => false
  | _ :: _, [] => false
def sameD (a b : DefD) : Bool := decide (a.name = b.name) && decide (a.text = b.text) && sameSs a.steps b.steps
end Go.Proofs.YtgfiogjfgbegpaaGreat

/-
  def.Same: the walk of the comparison of steps, slices.EqualFunc on steps, and of definitions.
-/
namespace Go.Proofs.YtgfiogjfgbegpaaGreat
open Go.RowKit Go.WideShapes

end Go.Proofs.YtgfiogjfgbegpaaGreat

/-
  Plain: what is unlike in definitions, part by part (no program).
-/
namespace Go.Proofs.YtgfiogjfgbegpaaGreat
open Go Go.RowKit

def nmL : List ByteArray := [sName, sAction, sUndo, sAfter, sRetry, sLimit, sNote]
/-- Which parts of two steps are alike. -/
def alikeL (s t : StepD) : List Bool := [decide (s.name = t.name), decide (s.action = t.action), decide (s.undo = t.undo), decide (s.after = t.after), (decide (s.most = t.most) && decide (s.first = t.first) && decide (s.factor = t.factor)), decide (s.limit = t.limit), sameT s.note t.note]
def unlB : List ByteArray → List Bool → List ByteArray
  | [], _ => []
  | _ :: _, [] => []
  | n :: l, b :: m => if b then unlB l m else n :: unlB l m
/-- The names of the parts that are unlike. -/
def unl (s t : StepD) : List ByteArray := unlB nmL (alikeL s t)
def sMinus : ByteArray := { data := #[45] }
def sPlus : ByteArray := { data := #[43] }
def sDot : ByteArray := { data := #[46] }
def dotN (i : Nat) (n : ByteArray) : ByteArray := digS (i : Int) ++ sDot ++ n
/-- What is unlike at a place. -/
def chgI (a b : DefD) (i : Nat) : List ByteArray :=
  if b.steps.length ≤ i then [sMinus ++ digS (i : Int)] else if a.steps.length ≤ i then [sPlus ++ digS (i : Int)] else (unl (a.steps[i]?.getD default) (b.steps[i]?.getD default)).map (dotN i)
def headA (a b : DefD) : List ByteArray := if a.name = b.name then [] else [sSaga]
def headB (a b : DefD) : List ByteArray := headA a b ++ if a.text = b.text then [] else [sText]
def chgL (a b : DefD) (k : Nat) : List ByteArray := headB a b ++ (List.range k).flatMap (chgI a b)
def changesD (a b : DefD) : List ByteArray := chgL a b (max a.steps.length b.steps.length)
end Go.Proofs.YtgfiogjfgbegpaaGreat
