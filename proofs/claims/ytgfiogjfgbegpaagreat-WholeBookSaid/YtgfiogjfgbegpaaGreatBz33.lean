/-
  block.Copy, def.tree: contracts.
-/
import Derived.Test.YtgfiogjfgbegpaaGreatBz24
import Derived.Test.YtgfiogjfgbegpaaGreatBz27
import Derived.Test.YtgfiogjfgbegpaaGreatBz30
namespace Go.Proofs.YtgfiogjfgbegpaaGreat
open Go Go.RowKit Go.WideShapes

set_option maxRecDepth 100000 in
theorem Copy_any (x : Tree) (cs : List Value) (w : World) (h : NodeR w cs x) (hs : SmallP 18 x) :
    Calls Tryz.prog 82 #[.agg cs.toArray] w fun e w' => ∃ cs', e = .returned (.agg cs'.toArray) ∧ NodeO w' (inSpan w.heap.size w'.heap.size) cs' x ∧ Below w.heap.size w w' := by
  have H := Lib.hid h
  obtain ⟨ka, kc, ba, bc, rfl⟩ := h.cells
  clear h
  go_enter Tryz.func82, Tryz.ntmps82
  go_wp2_with fail
  obtain ⟨hb0, g0, g1, hsz⟩ := alloc2 w 45 45 #[.int .u8 (x.kind : Int), .string x.text, .slice ka x.keys.length kc, .slice ba x.kids.length bc, .int .i64 x.line] #[.int .u8 0, .string { data := #[] }, .slice none 0 0, .slice none 0 0, .int .i64 0]
  generalize hwz : (w.alloc (.cells #[.int .u8 (x.kind : Int), .string x.text, .slice ka x.keys.length kc, .slice ba x.kids.length bc, .int .i64 x.line] 45)).alloc (.cells #[.int .u8 0, .string { data := #[] }, .slice none 0 0, .slice none 0 0, .int .i64 0] 45) = wz at *
  clear hwz
  refine (clone_any x 18 18 _ wz (H.out.belowW hb0) hs (Nat.le_refl _) (by decide)).mono ?_
  rintro e w1 ⟨cs', rfl, hn1, hb1⟩
  obtain ⟨ka', kc', ba', bc', rfl⟩ := hn1.cells
  have g2 := (hb1.block _ (by omega)).trans g1
  have HG := Lib.hid g2
  obtain ⟨q0, q1, q2, q3, q4⟩ := cells5 g2
  obtain ⟨f0, f1, f2, f3, f4⟩ := cells5w g2
  have HN := Lib.hid hn1
  have HB := Lib.hid (hb0.trans (hb1.mono (by omega)))
  clear g0 g1 g2 hn1 hb0 hb1
  go_wp2
  have hset := set5w (x0 := .int .u8 (x.kind : Int)) (x1 := .string x.text) (x2 := .slice ka' x.keys.length kc') (x3 := .slice ba' x.kids.length bc') (x4 := .int .i64 x.line) HG.out
  have hbf := set5w_below (x0 := .int .u8 (x.kind : Int)) (x1 := .string x.text) (x2 := .slice ka' x.keys.length kc') (x3 := .slice ba' x.kids.length bc') (x4 := .int .i64 x.line) (HB.out) (B := w.heap.size + 1) (by omega)
  have hof : ∀ g, g ≠ w.heap.size + 1 → (((((w1.setCell ⟨w.heap.size + 1, 0, none⟩ (.int .u8 (x.kind : Int))).setCell ⟨w.heap.size + 1, 1, none⟩ (.string x.text)).setCell ⟨w.heap.size + 1, 2, none⟩ (.slice ka' x.keys.length kc')).setCell ⟨w.heap.size + 1, 3, none⟩ (.slice ba' x.kids.length bc')).setCell ⟨w.heap.size + 1, 4, none⟩ (.int .i64 x.line)).heap[g]? = w1.heap[g]? := fun g hg => set5w_other hg
  have hsf : (((((w1.setCell ⟨w.heap.size + 1, 0, none⟩ (.int .u8 (x.kind : Int))).setCell ⟨w.heap.size + 1, 1, none⟩ (.string x.text)).setCell ⟨w.heap.size + 1, 2, none⟩ (.slice ka' x.keys.length kc')).setCell ⟨w.heap.size + 1, 3, none⟩ (.slice ba' x.kids.length bc')).setCell ⟨w.heap.size + 1, 4, none⟩ (.int .i64 x.line)).heap.size = w1.heap.size := by simp
  clear q0 q1 q2 q3 q4 f0 f1 f2 f3 f4
  generalize (((((w1.setCell ⟨w.heap.size + 1, 0, none⟩ (.int .u8 (x.kind : Int))).setCell ⟨w.heap.size + 1, 1, none⟩ (.string x.text)).setCell ⟨w.heap.size + 1, 2, none⟩ (.slice ka' x.keys.length kc')).setCell ⟨w.heap.size + 1, 3, none⟩ (.slice ba' x.kids.length bc')).setCell ⟨w.heap.size + 1, 4, none⟩ (.int .i64 x.line)) = wf at *
  obtain ⟨y0, y1, y2, y3, y4⟩ := cells5 hset
  have HOF := Lib.hid hof
  have HSF := Lib.hid hsf
  have HBF := Lib.hid hbf
  clear hof hsf hbf hset
  refine bodyPost_ret (v := .agg #[.int .u8 (x.kind : Int), .string x.text, .slice ka' x.keys.length kc', .slice ba' x.kids.length bc', .int .i64 x.line]) (by simp [results, Tryz.results82, go_sem, y0, y1, y2, y3, y4]) rfl ?_
  refine ⟨_, rfl, HN.out.keep (fun g hP _ => HOF.out g (by have := hP.1; omega)) (fun g hP => ⟨by have := hP.1; omega, by have := hP.2; have := HSF.out; omega⟩), HBF.out⟩

end Go.Proofs.YtgfiogjfgbegpaaGreat

/-
  def.Tree: contract.
-/
namespace Go.Proofs.YtgfiogjfgbegpaaGreat
open Go Go.RowKit Go.WideShapes

end Go.Proofs.YtgfiogjfgbegpaaGreat

/-
  Plain: the tree of a definition that may be, is one that may be; like definitions have like trees (no program).
-/
namespace Go.Proofs.YtgfiogjfgbegpaaGreat
open Go Go.RowKit

structure StepFine (s : StepD) : Prop where
  texts : ∀ x ∈ [s.name, s.action, s.undo], c64 x = 0
  after : ∀ x ∈ s.after, c64 x = 0
  fits : fitsB [s.most, s.first, s.factor, s.limit] = true
  note : noneT s.note = true ∨ (checkT s.note = 0 ∧ depthT 18 s.note ≤ 13)
structure DefFine (d : DefD) : Prop where
  name : c64 d.name = 0
  text : checkN (bsN d.text) 4096 = 0
  steps : ∀ s ∈ d.steps, StepFine s
def sameS (s t : StepD) : Bool := decide (s.name = t.name) && decide (s.action = t.action) && decide (s.undo = t.undo) && decide (s.after = t.after) && (decide (s.most = t.most) && decide (s.first = t.first) && decide (s.factor = t.factor)) && decide (s.limit = t.limit) && sameT s.note t.note
def sameSs : List StepD → List StepD → Bool
  | [], [] => true
  | a :: l, b :: m => sameS a b && sameSs l m
  | [], _ :: _ => false
  | _ :: _, [] => false
def sameD (a b : DefD) : Bool := decide (a.name = b.name) && decide (a.text = b.text) && sameSs a.steps b.steps
theorem sameS_refl (s : StepD) : sameS s s = true := by simp [sameS, sameT_refl]
theorem sameSs_refl : ∀ l, sameSs l l = true
  | [] => rfl
  | a :: l => by simp [sameSs, sameS_refl, sameSs_refl l]
theorem sameD_refl (d : DefD) : sameD d d = true := by simp [sameD, sameSs_refl]
theorem sameSs_iff : ∀ {l m : List StepD}, sameSs l m = true ↔ l.length = m.length ∧ ∀ (i : Nat) (a b : StepD), l[i]? = some a → m[i]? = some b → sameS a b = true
  | [], [] => by simp [sameSs]
  | a :: l, b :: m => by
    simp only [sameSs, Bool.and_eq_true, List.length_cons, Nat.add_right_cancel_iff]
    rw [sameSs_iff]
    constructor
    · rintro ⟨h1, h2, h3⟩
      refine ⟨h2, fun i x y hx hy => ?_⟩
      cases i with
      | zero => simp at hx hy; subst hx hy; exact h1
      | succ i => exact h3 i x y (by simpa using hx) (by simpa using hy)
    · rintro ⟨h2, h3⟩
      exact ⟨h3 0 a b rfl rfl, h2, fun i x y hx hy => h3 (i + 1) x y (by simpa using hx) (by simpa using hy)⟩
  | [], _ :: _ => by simp [sameSs]
  | _ :: _, [] => by simp [sameSs]
end Go.Proofs.YtgfiogjfgbegpaaGreat

/-
  def.Same: the walk of the comparison of steps, slices.EqualFunc on steps, and of definitions.
-/
namespace Go.Proofs.YtgfiogjfgbegpaaGreat
open Go.RowKit Go.WideShapes

set_option maxRecDepth 100000 in
set_option maxHeartbeats 4000000 in
theorem dSame1_any (s t : StepD) (cs ct : List Value) (w : World) (h : StepX w cs s) (h' : StepX w ct t) :
    Calls Tryz.prog 56 #[.agg cs.toArray, .agg ct.toArray] w fun e w' => e = .returned (.bool (sameS s t)) ∧ Below w.heap.size w w' := by
  obtain ⟨a1, c1, k1, d1, b1, e1, h⟩ := h
  obtain ⟨a2, c2, k2, d2, b2, e2, h'⟩ := h'
  obtain ⟨rfl, -, hva, hna⟩ := h
  obtain ⟨rfl, -, hvb, hnb⟩ := h'
  have hb0 : Below w.heap.size w ((w.alloc (.cells #[.string s.name, .string s.action, .string s.undo, .slice a1 s.after.length c1, .int .i64 s.most, .int .i64 s.first, .int .i64 s.factor, .int .i64 s.limit, .int .u8 (s.note.kind : Int), .string s.note.text, .slice k1 s.note.keys.length d1, .slice b1 s.note.kids.length e1, .int .i64 s.note.line] 47)).alloc (.cells #[.string t.name, .string t.action, .string t.undo, .slice a2 t.after.length c2, .int .i64 t.most, .int .i64 t.first, .int .i64 t.factor, .int .i64 t.limit, .int .u8 (t.note.kind : Int), .string t.note.text, .slice k2 t.note.keys.length d2, .slice b2 t.note.kids.length e2, .int .i64 t.note.line] 47)) := ((Below.refl _ w).alloc (Nat.le_refl _) _).alloc (by simp) _
  have HVA := Lib.hid (hva.below hb0)
  have HVB := Lib.hid (hvb.below hb0)
  have HNA := Lib.hid (hna.belowW hb0)
  have HNB := Lib.hid (hnb.belowW hb0)
  have g1 : ((w.alloc (.cells #[.string s.name, .string s.action, .string s.undo, .slice a1 s.after.length c1, .int .i64 s.most, .int .i64 s.first, .int .i64 s.factor, .int .i64 s.limit, .int .u8 (s.note.kind : Int), .string s.note.text, .slice k1 s.note.keys.length d1, .slice b1 s.note.kids.length e1, .int .i64 s.note.line] 47)).alloc (.cells #[.string t.name, .string t.action, .string t.undo, .slice a2 t.after.length c2, .int .i64 t.most, .int .i64 t.first, .int .i64 t.factor, .int .i64 t.limit, .int .u8 (t.note.kind : Int), .string t.note.text, .slice k2 t.note.keys.length d2, .slice b2 t.note.kids.length e2, .int .i64 t.note.line] 47)).heap[w.heap.size]? = some (.cells #[.string s.name, .string s.action, .string s.undo, .slice a1 s.after.length c1, .int .i64 s.most, .int .i64 s.first, .int .i64 s.factor, .int .i64 s.limit, .int .u8 (s.note.kind : Int), .string s.note.text, .slice k1 s.note.keys.length d1, .slice b1 s.note.kids.length e1, .int .i64 s.note.line] 47 (0, 0)) := (Below.heap_alloc _ _ _ (by simp)).trans (World.alloc_heap_new w _)
  have g2 : ((w.alloc (.cells #[.string s.name, .string s.action, .string s.undo, .slice a1 s.after.length c1, .int .i64 s.most, .int .i64 s.first, .int .i64 s.factor, .int .i64 s.limit, .int .u8 (s.note.kind : Int), .string s.note.text, .slice k1 s.note.keys.length d1, .slice b1 s.note.kids.length e1, .int .i64 s.note.line] 47)).alloc (.cells #[.string t.name, .string t.action, .string t.undo, .slice a2 t.after.length c2, .int .i64 t.most, .int .i64 t.first, .int .i64 t.factor, .int .i64 t.limit, .int .u8 (t.note.kind : Int), .string t.note.text, .slice k2 t.note.keys.length d2, .slice b2 t.note.kids.length e2, .int .i64 t.note.line] 47)).heap[w.heap.size + 1]? = some (.cells #[.string t.name, .string t.action, .string t.undo, .slice a2 t.after.length c2, .int .i64 t.most, .int .i64 t.first, .int .i64 t.factor, .int .i64 t.limit, .int .u8 (t.note.kind : Int), .string t.note.text, .slice k2 t.note.keys.length d2, .slice b2 t.note.kids.length e2, .int .i64 t.note.line] 47 (0, 0)) := by
    have := World.alloc_heap_new (w.alloc (.cells #[.string s.name, .string s.action, .string s.undo, .slice a1 s.after.length c1, .int .i64 s.most, .int .i64 s.first, .int .i64 s.factor, .int .i64 s.limit, .int .u8 (s.note.kind : Int), .string s.note.text, .slice k1 s.note.keys.length d1, .slice b1 s.note.kids.length e1, .int .i64 s.note.line] 47)) (.cells #[.string t.name, .string t.action, .string t.undo, .slice a2 t.after.length c2, .int .i64 t.most, .int .i64 t.first, .int .i64 t.factor, .int .i64 t.limit, .int .u8 (t.note.kind : Int), .string t.note.text, .slice k2 t.note.keys.length d2, .slice b2 t.note.kids.length e2, .int .i64 t.note.line] 47)
    rwa [World.size_alloc] at this
  clear hva hvb hna hnb
  generalize hwz : (w.alloc (.cells #[.string s.name, .string s.action, .string s.undo, .slice a1 s.after.length c1, .int .i64 s.most, .int .i64 s.first, .int .i64 s.factor, .int .i64 s.limit, .int .u8 (s.note.kind : Int), .string s.note.text, .slice k1 s.note.keys.length d1, .slice b1 s.note.kids.length e1, .int .i64 s.note.line] 47)).alloc (.cells #[.string t.name, .string t.action, .string t.undo, .slice a2 t.after.length c2, .int .i64 t.most, .int .i64 t.first, .int .i64 t.factor, .int .i64 t.limit, .int .u8 (t.note.kind : Int), .string t.note.text, .slice k2 t.note.keys.length d2, .slice b2 t.note.kids.length e2, .int .i64 t.note.line] 47) = wz at *
  obtain ⟨p0, p1, p2, p3, p4, p5, p6, p7, p8, p9, p10, p11, p12⟩ := cells13q g1
  obtain ⟨r0, r1, r2, r3, r4, r5, r6, r7, r8, r9, r10, r11, r12⟩ := cells13q g2
  clear g1 g2
  by_cases n1 : s.name = t.name
  case neg =>
    have q_n1 : (s.name.toList == t.name.toList) = false := beqS_no n1
    have F : Hid (sameS s t = false) := Lib.hid (by simp [sameS, n1])
    clear n1
    go_enter Tryz.func56, Tryz.ntmps56
    go_wp2
    go_ret
    exact ⟨by rw [F.out]; rfl, hb0⟩
  have q_n1 : (s.name.toList == t.name.toList) = true := beqS_yes n1
  have Hn1 := Lib.hid n1
  clear n1
  by_cases n2 : s.action = t.action
  case neg =>
    have q_n2 : (s.action.toList == t.action.toList) = false := beqS_no n2
    have F : Hid (sameS s t = false) := Lib.hid (by simp [sameS, n2])
    clear n2
    go_enter Tryz.func56, Tryz.ntmps56
    go_wp2
    go_ret
    exact ⟨by rw [F.out]; rfl, hb0⟩
  have q_n2 : (s.action.toList == t.action.toList) = true := beqS_yes n2
  have Hn2 := Lib.hid n2
  clear n2
  by_cases n3 : s.undo = t.undo
  case neg =>
    have q_n3 : (s.undo.toList == t.undo.toList) = false := beqS_no n3
    have F : Hid (sameS s t = false) := Lib.hid (by simp [sameS, n3])
    clear n3
    go_enter Tryz.func56, Tryz.ntmps56
    go_wp2
    go_ret
    exact ⟨by rw [F.out]; rfl, hb0⟩
  have q_n3 : (s.undo.toList == t.undo.toList) = true := beqS_yes n3
  have Hn3 := Lib.hid n3
  clear n3
  have HT := Lib.hid (EqualS_any s.after t.after _ _ _ HVA.out HVB.out)
  have E0 : Hid (sameS s t = (decide (s.after = t.after) && (decide (s.most = t.most) && decide (s.first = t.first) && decide (s.factor = t.factor)) && decide (s.limit = t.limit) && sameT s.note t.note)) := Lib.hid (by simp [sameS, Hn1.out, Hn2.out, Hn3.out])
  rw [E0.out]
  clear Hn1 Hn2 Hn3 E0
  generalize decide (s.after = t.after) = ab at *
  have HSB := Lib.hid (bSame_any s.note t.note)
  go_enter Tryz.func56, Tryz.ntmps56
  go_wp2_with fail
  refine HT.out.mono ?_
  rintro e w1 ⟨rfl, hb1⟩
  have hbw1 := bthen hb0 (Nat.le_refl _) hb1
  have p4 := cellB hb1 p4
  have p5 := cellB hb1 p5
  have p6 := cellB hb1 p6
  have p7 := cellB hb1 p7
  have p8 := cellB hb1 p8
  have p9 := cellB hb1 p9
  have p10 := cellB hb1 p10
  have p11 := cellB hb1 p11
  have p12 := cellB hb1 p12
  have r4 := cellB hb1 r4
  have r5 := cellB hb1 r5
  have r6 := cellB hb1 r6
  have r7 := cellB hb1 r7
  have r8 := cellB hb1 r8
  have r9 := cellB hb1 r9
  have r10 := cellB hb1 r10
  have r11 := cellB hb1 r11
  have r12 := cellB hb1 r12
  clear p0 p1 p2 p3 r0 r1 r2 r3
  cases ab with
  | false =>
    go_wp2
    go_ret
    exact ⟨rfl, hbw1⟩
  | true =>
    by_cases m1 : s.most = t.most
    case neg =>
      have F : Hid ((true && (decide (s.most = t.most) && decide (s.first = t.first) && decide (s.factor = t.factor)) && decide (s.limit = t.limit) && sameT s.note t.note) = false) := Lib.hid (by simp [m1])
      go_wp2
      go_ret
      exact ⟨by rw [F.out]; rfl, hbw1⟩
    by_cases m2 : s.first = t.first
    case neg =>
      have F : Hid ((true && (decide (s.most = t.most) && decide (s.first = t.first) && decide (s.factor = t.factor)) && decide (s.limit = t.limit) && sameT s.note t.note) = false) := Lib.hid (by simp [m2])
      go_wp2
      go_ret
      exact ⟨by rw [F.out]; rfl, hbw1⟩
    by_cases m3 : s.factor = t.factor
    case neg =>
      have F : Hid ((true && (decide (s.most = t.most) && decide (s.first = t.first) && decide (s.factor = t.factor)) && decide (s.limit = t.limit) && sameT s.note t.note) = false) := Lib.hid (by simp [m3])
      go_wp2
      go_ret
      exact ⟨by rw [F.out]; rfl, hbw1⟩
    by_cases m4 : s.limit = t.limit
    case neg =>
      have d4 : (s.limit == t.limit) = false := by simp [m4]
      have F : Hid ((true && (decide (s.most = t.most) && decide (s.first = t.first) && decide (s.factor = t.factor)) && decide (s.limit = t.limit) && sameT s.note t.note) = false) := Lib.hid (by simp [m4])
      go_wp2
      go_ret
      exact ⟨by rw [F.out]; rfl, hbw1⟩
    have d4 : (s.limit == t.limit) = true := by simp [m4]
    have F : Hid ((true && (decide (s.most = t.most) && decide (s.first = t.first) && decide (s.factor = t.factor)) && decide (s.limit = t.limit) && sameT s.note t.note) = sameT s.note t.note) := Lib.hid (by simp [m1, m2, m3, m4])
    go_wp2_with fail
    refine (HSB.out _ _ _ (HNA.out.belowW hb1) (HNB.out.belowW hb1)).mono ?_
    rintro e w2 ⟨rfl, hb2⟩
    go_wp2
    go_ret
    exact ⟨by rw [F.out]; rfl, bthen hbw1 (Nat.le_refl _) hb2⟩

theorem sameSs_go {l m : List StepD} {j : Nat} (h1 : j < l.length) (h2 : j < m.length) (h : sameSs (l.take j) (m.take j) = true) : sameS l[j] m[j] = true → sameSs (l.take (j + 1)) (m.take (j + 1)) = true := by
  intro hs
  rw [sameSs_iff] at h ⊢
  refine ⟨by simp; omega, fun i a b ha hb => ?_⟩
  have hi := (List.getElem?_eq_some_iff.1 ha).1
  simp at hi
  by_cases e : i = j
  · subst e
    rw [List.getElem?_take_of_lt (by omega), List.getElem?_eq_getElem h1] at ha
    rw [List.getElem?_take_of_lt (by omega), List.getElem?_eq_getElem h2] at hb
    cases ha; cases hb; exact hs
  · rw [List.getElem?_take_of_lt (by omega)] at ha hb
    exact h.2 i a b (by rw [List.getElem?_take_of_lt (by omega)]; exact ha) (by rw [List.getElem?_take_of_lt (by omega)]; exact hb)
theorem sameSs_no {l m : List StepD} {j : Nat} (h1 : j < l.length) (h2 : j < m.length) : sameS l[j] m[j] = false → sameSs l m = false := by
  intro hs
  rw [Bool.eq_false_iff]
  intro h
  have := (sameSs_iff.1 h).2 j _ _ (List.getElem?_eq_getElem h1) (List.getElem?_eq_getElem h2)
  rw [hs] at this; cases this
theorem sameSs_all {l m : List StepD} {j : Nat} (he : l.length = m.length) (hj : ¬ j < l.length) (h : sameSs (l.take j) (m.take j) = true) : sameSs l m = true := by
  rwa [List.take_of_length_le (by omega), List.take_of_length_le (by omega)] at h
theorem sameSs_len {l m : List StepD} (h : sameSs l m = true) : l.length = m.length := (sameSs_iff.1 h).1

set_option maxRecDepth 100000 in
set_option maxHeartbeats 4000000 in
theorem EqualFuncD_any (l m : List StepD) (v u : Value) (w : World) (h : StepsR w v l) (h' : StepsR w u m) :
    Calls Tryz.prog 55 #[v, u, .func (.func 56) #[] #[]] w fun e w' => e = .returned (.bool (sameSs l m)) ∧ Below w.heap.size w w' := by
  have HC1 := Lib.hid h
  have HC2 := Lib.hid h'
  obtain ⟨va, vc, rfl, hv1, hv2⟩ := h.form
  obtain ⟨vb, vd, rfl, hv3, hv4⟩ := h'.form
  clear h h'
  by_cases e4 : l.length = m.length
  · have d4 : ((l.length : Int) != (m.length : Int)) = false := by simp [e4]
    have E4 := Lib.hid e4
    clear e4
    go_enter Tryz.func55, Tryz.ntmps55
    go_wp2
    go_loopw [17] (fun i wr => ∃ j : Nat, j ≤ l.length ∧ i = .int .i64 j ∧ Hid (sameSs (l.take j) (m.take j) = true) ∧ Hid (Below w.heap.size w wr)) (fun i _ => l.length - (intOf i).toNat)
    case atStart => exact ⟨0, by omega, rfl, Lib.hid rfl, Lib.hid (Below.refl _ _)⟩
    case round =>
      obtain ⟨j, hj, rfl, HE, HB⟩ := hrel
      have hbr := HB.out
      by_cases hlt : j < l.length
      · have hlt2 : j < m.length := by have := E4.out; omega
        obtain ⟨g, off, cap, aa1, ac1, ka1, kc1, ba1, bc1, he, q1, q2, hn, z0, z1, z2, z3, z4, z5, z6, z7, z8, z9, z10, z11, z12⟩ := (HC1.out.below hbr).at hlt
        obtain ⟨g', off', cap', aa2, ac2, ka2, kc2, ba2, bc2, he', q1', q2', hn', y0, y1, y2, y3, y4, y5, y6, y7, y8, y9, y10, y11, y12⟩ := (HC2.out.below hbr).at hlt2
        cases he
        cases he'
        have HIH := Lib.hid (fun (W : World) (hW : Below wr.heap.size wr W) => dSame1_any l[j] m[j] _ _ W ⟨_, _, _, _, _, _, hn.below hW⟩ ⟨_, _, _, _, _, _, hn'.below hW⟩)
        have HGO := Lib.hid (sameSs_go hlt hlt2 HE.out)
        have HNO := Lib.hid (sameSs_no hlt hlt2)
        have hj0 : (0 : Int) ≤ (j : Int) := by omega
        have hj1 : (j : Int) < (l.length : Int) := by omega
        have hj2 : (j : Int) < (m.length : Int) := by omega
        clear hn hn'
        generalize sameS l[j] m[j] = sb at *
        have hbA : Below wr.heap.size wr (wr.alloc (.cells #[.string l[j].name, .string l[j].action, .string l[j].undo, .slice aa1 l[j].after.length ac1, .int .i64 l[j].most, .int .i64 l[j].first, .int .i64 l[j].factor, .int .i64 l[j].limit, .int .u8 (l[j].note.kind : Int), .string l[j].note.text, .slice ka1 l[j].note.keys.length kc1, .slice ba1 l[j].note.kids.length bc1, .int .i64 l[j].note.line] 47)) := (Below.refl _ _).alloc (Nat.le_refl _) _
        have y0 := cellB hbA y0
        have y1 := cellB hbA y1
        have y2 := cellB hbA y2
        have y3 := cellB hbA y3
        have y4 := cellB hbA y4
        have y5 := cellB hbA y5
        have y6 := cellB hbA y6
        have y7 := cellB hbA y7
        have y8 := cellB hbA y8
        have y9 := cellB hbA y9
        have y10 := cellB hbA y10
        have y11 := cellB hbA y11
        have y12 := cellB hbA y12
        clear hbA
        go_wp2_with fail
        refine (HIH.out _ (((Below.refl _ _).alloc (Nat.le_refl _) _).alloc (by simp) _)).mono ?_
        rintro e w4 ⟨rfl, hb4⟩
        have hbw4 : Below w.heap.size w w4 := hbr.trans (((((Below.refl _ wr).alloc (Nat.le_refl _) _).alloc (by simp) _).trans (hb4.mono (by simp; omega))).mono hbr.size)
        clear z0 y0 z1 y1 z2 y2 z3 y3 z4 y4 z5 y5 z6 y6 z7 y7 z8 y8 z9 y9 z10 y10 z11 y11 z12 y12
        cases sb with
        | true =>
          have HS2 := Lib.hid (HGO.out rfl)
          go_wp2
          go_roundw
          case rel => exact ⟨j + 1, by omega, by go_num, HS2, Lib.hid hbw4⟩
          case measure => simp [intOf]; omega
        | false =>
          have HS2 := Lib.hid (HNO.out rfl)
          go_wp2
          go_ret
          exact ⟨by rw [HS2.out]; rfl, hbw4⟩
      · have HS2 := Lib.hid (sameSs_all E4.out hlt HE.out)
        go_wp2
        go_ret
        exact ⟨by rw [HS2.out]; rfl, hbr⟩
  · have d4 : ((l.length : Int) != (m.length : Int)) = true := by simp; omega
    have F : Hid (sameSs l m = false) := Lib.hid (by rw [Bool.eq_false_iff]; intro h; exact e4 (sameSs_len h))
    clear e4
    go_enter Tryz.func55, Tryz.ntmps55
    go_wp2
    go_ret
    exact ⟨by rw [F.out]; rfl, Below.refl _ _⟩

set_option maxRecDepth 100000 in
set_option maxHeartbeats 4000000 in
theorem dSame_any (a b : DefD) (ca cb : List Value) (sa sb : Option Addr) (sc sd : Nat) (w : World) (h : DefR w ca a sa sc) (h' : DefR w cb b sb sd) :
    Calls Tryz.prog 27 #[.agg ca.toArray, .agg cb.toArray] w fun e w' => e = .returned (.bool (sameD a b)) ∧ Below w.heap.size w w' := by
  obtain ⟨rfl, -, -, hva⟩ := h
  obtain ⟨rfl, -, -, hvb⟩ := h'
  have hb0 : Below w.heap.size w ((w.alloc (.cells #[.string a.name, .string a.text, .slice sa a.steps.length sc] 24)).alloc (.cells #[.string b.name, .string b.text, .slice sb b.steps.length sd] 24)) := ((Below.refl _ w).alloc (Nat.le_refl _) _).alloc (by simp) _
  have HVA := Lib.hid (hva.below hb0)
  have HVB := Lib.hid (hvb.below hb0)
  have g1 : ((w.alloc (.cells #[.string a.name, .string a.text, .slice sa a.steps.length sc] 24)).alloc (.cells #[.string b.name, .string b.text, .slice sb b.steps.length sd] 24)).heap[w.heap.size]? = some (.cells #[.string a.name, .string a.text, .slice sa a.steps.length sc] 24 (0, 0)) := (Below.heap_alloc _ _ _ (by simp)).trans (World.alloc_heap_new w _)
  have g2 : ((w.alloc (.cells #[.string a.name, .string a.text, .slice sa a.steps.length sc] 24)).alloc (.cells #[.string b.name, .string b.text, .slice sb b.steps.length sd] 24)).heap[w.heap.size + 1]? = some (.cells #[.string b.name, .string b.text, .slice sb b.steps.length sd] 24 (0, 0)) := by
    have := World.alloc_heap_new (w.alloc (.cells #[.string a.name, .string a.text, .slice sa a.steps.length sc] 24)) (.cells #[.string b.name, .string b.text, .slice sb b.steps.length sd] 24)
    rwa [World.size_alloc] at this
  clear hva hvb
  generalize hwz : (w.alloc (.cells #[.string a.name, .string a.text, .slice sa a.steps.length sc] 24)).alloc (.cells #[.string b.name, .string b.text, .slice sb b.steps.length sd] 24) = wz at *
  obtain ⟨p0, p1, p2, -, -, -⟩ := cells3h g1
  obtain ⟨r0, r1, r2, -, -, -⟩ := cells3h g2
  clear g1 g2
  by_cases n1 : a.name = b.name
  case neg =>
    have q_n1 : (a.name.toList == b.name.toList) = false := beqS_no n1
    have F : Hid (sameD a b = false) := Lib.hid (by simp [sameD, n1])
    clear n1
    go_enter Tryz.func27, Tryz.ntmps27
    go_wp2
    go_ret
    exact ⟨by rw [F.out]; rfl, hb0⟩
  have q_n1 : (a.name.toList == b.name.toList) = true := beqS_yes n1
  have Hn1 := Lib.hid n1
  clear n1
  by_cases n2 : a.text = b.text
  case neg =>
    have q_n2 : (a.text.toList == b.text.toList) = false := beqS_no n2
    have F : Hid (sameD a b = false) := Lib.hid (by simp [sameD, n2])
    clear n2
    go_enter Tryz.func27, Tryz.ntmps27
    go_wp2
    go_ret
    exact ⟨by rw [F.out]; rfl, hb0⟩
  have q_n2 : (a.text.toList == b.text.toList) = true := beqS_yes n2
  have Hn2 := Lib.hid n2
  clear n2
  have F : Hid (sameD a b = sameSs a.steps b.steps) := Lib.hid (by simp [sameD, Hn1.out, Hn2.out])
  rw [F.out]
  go_enter Tryz.func27, Tryz.ntmps27
  go_wp2_with fail
  refine (EqualFuncD_any _ _ _ _ _ HVA.out HVB.out).mono ?_
  rintro e w1 ⟨rfl, hb1⟩
  have hbw1 := bthen hb0 (Nat.le_refl _) hb1
  go_wp2
  go_ret
  exact ⟨rfl, hbw1⟩
end Go.Proofs.YtgfiogjfgbegpaaGreat

/-
  Plain: what is unlike in definitions, part by part (no program).
-/
namespace Go.Proofs.YtgfiogjfgbegpaaGreat
open Go Go.RowKit

end Go.Proofs.YtgfiogjfgbegpaaGreat
