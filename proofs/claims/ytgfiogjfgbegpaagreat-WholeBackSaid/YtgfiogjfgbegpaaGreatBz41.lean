/-
  reach.sum (of backoff.Span), reach.Bound, the reference's Bound: contracts.
-/
import Derived.Test.YtgfiogjfgbegpaaGreatBz31
import Derived.Test.YtgfiogjfgbegpaaGreatBz37
namespace Go.Proofs.YtgfiogjfgbegpaaGreat
open Go Go.RowKit Go.Maps Go.WideShapes

def spanS (s : StepD) : Int := spanI s.most s.first s.factor s.limit
def spansTo (l : List StepD) : Nat → Int
  | 0 => 0
  | j + 1 => spansTo l j + spanS (l[j]?.getD default)
def boundI (d : DefD) : Int := 2 * spansTo d.steps d.steps.length
theorem spanS_range (s : StepD) : 0 ≤ spanS s ∧ spanS s ≤ 1000000 := by
  have h1 := lim_mul s.limit s.most
  have h2 := bSum_range s.first s.factor (wN s.most)
  have h3 := wN_le s.most
  unfold spanS spanI
  constructor
  · omega
  · omega
theorem spansTo_range (l : List StepD) : ∀ j : Nat, 0 ≤ spansTo l j ∧ spansTo l j ≤ 1000000 * (j : Int)
  | 0 => ⟨Int.le_refl _, Int.le_refl _⟩
  | j + 1 => by
    have h1 := spansTo_range l j
    have h2 := spanS_range (l[j]?.getD default)
    constructor
    · show 0 ≤ spansTo l j + spanS (l[j]?.getD default)
      omega
    · show spansTo l j + spanS (l[j]?.getD default) ≤ 1000000 * (((j + 1 : Nat)) : Int)
      omega
theorem spansTo_succ {l : List StepD} {j : Nat} (hj : j < l.length) : spansTo l (j + 1) = spansTo l j + spanI l[j].most l[j].first l[j].factor l[j].limit := by
  show spansTo l j + spanS (l[j]?.getD default) = _
  rw [List.getElem?_eq_getElem hj]
  rfl
theorem boundI_range {d : DefD} (h : SmallD d) : 0 ≤ boundI d ∧ boundI d ≤ 60000000 := by
  have h1 := spansTo_range d.steps d.steps.length
  have h2 := h.steps
  unfold boundI
  omega
set_option maxRecDepth 100000 in
set_option maxHeartbeats 4000000 in
theorem sum_any (d : DefD) (cs : List Value) (sa : Option Addr) (sc : Nat) (w : World) (h : DefR w cs d sa sc) (hs : SmallD d) :
    Calls Tryz.prog 65 #[.agg cs.toArray, .func (.func 13) #[] #[]] w fun e w' => e = .returned (.int .i64 (spansTo d.steps d.steps.length)) ∧ Below w.heap.size w w' := by
  have hn30 := hs.steps
  have hb0 := (Below.refl w.heap.size w).alloc (Nat.le_refl _) (.cells #[.string d.name, .string d.text, .slice sa d.steps.length sc] 24)
  have g0 := World.alloc_heap_new w (.cells #[.string d.name, .string d.text, .slice sa d.steps.length sc] 24)
  obtain ⟨rfl, hnm, htx, hst⟩ := h
  have HST := Lib.hid (hst.below hb0)
  have HB := Lib.hid hb0
  have HG := Lib.hid g0
  clear hs hst hb0 g0
  go_enter Tryz.func65, Tryz.ntmps65
  go_upto_region 1 with fail
  generalize w.alloc (.cells #[.string d.name, .string d.text, .slice sa d.steps.length sc] 24) = w0 at *
  obtain ⟨p0, p1, p2, -, -, -⟩ := cells3h HG.out
  go_wp2_with fail
  clear p0 p1 p2
  go_loopg [5, 11] (d.steps.length + 1) (fun gk n i wi => ∃ (j : Nat), j + gk = d.steps.length + 1 ∧ j ≤ d.steps.length ∧ i = .int .i64 j ∧ n = .int .i64 (spansTo d.steps j) ∧ Hid (Below w0.heap.size w0 wi))
  case atStart => exact ⟨0, by omega, by omega, rfl, rfl, Lib.hid (Below.refl _ _)⟩
  case round =>
    obtain ⟨j, hgk, hj, rfl, rfl, HBr⟩ := hrel
    have hg : gk = d.steps.length + 1 - j := by omega
    subst hg
    by_cases hjl : j < d.steps.length
    · have d1 : decide ((j : Int) < (d.steps.length : Int)) = true := decide_eq_true (by omega)
      have hj1 : (j : Int) < (d.steps.length : Int) := by omega
      have hj0 : (0 : Int) ≤ (j : Int) := by omega
      have hsr := spansTo_range d.steps j
      have hsp := spanS_range d.steps[j]
      unfold spanS at hsp
      have HSUC := Lib.hid (spansTo_succ hjl)
      obtain ⟨g, off, cap, aa, ac, ka, kc, ba, bc, he, hcl, hcu, hst, hat⟩ := (HST.out.below HBr.out).at hjl
      cases he
      obtain ⟨q0, q1, q2, q3, q4, q5, q6, q7, q8, q9, q10, q11, q12⟩ := hat
      have hspan := fun w => Span_any d.steps[j].name d.steps[j].action d.steps[j].undo aa d.steps[j].after.length ac d.steps[j].most d.steps[j].first d.steps[j].factor d.steps[j].limit (d.steps[j].note.kind : Int) d.steps[j].note.text ka d.steps[j].note.keys.length kc ba d.steps[j].note.kids.length bc d.steps[j].note.line w
      unfold stepV at hspan
      have HSPAN := Lib.hid hspan
      clear hspan hst
      have hb1 : Below wr.heap.size wr (wr.alloc (.cells #[.string d.steps[j].name, .string d.steps[j].action, .string d.steps[j].undo, .slice aa d.steps[j].after.length ac, .int .i64 d.steps[j].most, .int .i64 d.steps[j].first, .int .i64 d.steps[j].factor, .int .i64 d.steps[j].limit, .int .u8 (d.steps[j].note.kind : Int), .string d.steps[j].note.text, .slice ka d.steps[j].note.keys.length kc, .slice ba d.steps[j].note.kids.length bc, .int .i64 d.steps[j].note.line] 47)) := (Below.refl _ _).alloc (Nat.le_refl _) _
      have g0 := World.alloc_heap_new wr (.cells #[.string d.steps[j].name, .string d.steps[j].action, .string d.steps[j].undo, .slice aa d.steps[j].after.length ac, .int .i64 d.steps[j].most, .int .i64 d.steps[j].first, .int .i64 d.steps[j].factor, .int .i64 d.steps[j].limit, .int .u8 (d.steps[j].note.kind : Int), .string d.steps[j].note.text, .slice ka d.steps[j].note.keys.length kc, .slice ba d.steps[j].note.kids.length bc, .int .i64 d.steps[j].note.line] 47)
      go_upto_region 5 with fail
      generalize wr.alloc (.cells #[.string d.steps[j].name, .string d.steps[j].action, .string d.steps[j].undo, .slice aa d.steps[j].after.length ac, .int .i64 d.steps[j].most, .int .i64 d.steps[j].first, .int .i64 d.steps[j].factor, .int .i64 d.steps[j].limit, .int .u8 (d.steps[j].note.kind : Int), .string d.steps[j].note.text, .slice ka d.steps[j].note.keys.length kc, .slice ba d.steps[j].note.kids.length bc, .int .i64 d.steps[j].note.line] 47) = w1 at *
      clear q0 q1 q2 q3 q4 q5 q6 q7 q8 q9 q10 q11 q12
      obtain ⟨q0, q1, q2, q3, q4, q5, q6, q7, q8, q9, q10, q11, q12⟩ := cells13q g0
      have HB1 := Lib.hid (bthen HBr.out (Nat.le_refl _) hb1)
      have hsz0 := HBr.out.size
      clear g0 hb1
      go_wp2_with fail
      refine (HSPAN.out _).mono ?_
      rintro e w2 ⟨rfl, hb2⟩
      have HB2 := Lib.hid (bthen HB1.out (Nat.le_refl _) hb2)
      clear hb2 q0 q1 q2 q3 q4 q5 q6 q7 q8 q9 q10 q11 q12
      go_wp2_with fail
      go_roundg (d.steps.length + 1 - (j + 1))
      case measure => omega
      case rel => exact ⟨j + 1, by omega, by omega, by go_num, by rw [HSUC.out], HB2⟩
    · have d1 : decide ((j : Int) < (d.steps.length : Int)) = false := decide_eq_false (by omega)
      obtain rfl : j = d.steps.length := by omega
      go_wp2_with fail
      go_ret
      exact ⟨rfl, bthen HB.out (Nat.le_refl _) HBr.out⟩
set_option maxRecDepth 100000 in
set_option maxHeartbeats 4000000 in
theorem Bound_any (d : DefD) (cs : List Value) (sa : Option Addr) (sc : Nat) (w : World) (h : DefR w cs d sa sc) (hs : SmallD d) :
    Calls Tryz.prog 32 #[.agg cs.toArray] w fun e w' => e = .returned (.int .i64 (boundI d)) ∧ Below w.heap.size w w' := by
  have hbr := boundI_range hs
  have hn30 := hs.steps
  have hb0 := (Below.refl w.heap.size w).alloc (Nat.le_refl _) (.cells #[.string d.name, .string d.text, .slice sa d.steps.length sc] 24)
  have g0 := World.alloc_heap_new w (.cells #[.string d.name, .string d.text, .slice sa d.steps.length sc] 24)
  obtain ⟨rfl, hnm, htx, hst⟩ := h
  have HSUM := Lib.hid (sum_any d _ sa sc _ ⟨rfl, hnm, htx, hst.below hb0⟩ hs)
  have HB := Lib.hid hb0
  have HG := Lib.hid g0
  clear hs hst hb0 g0
  unfold boundI at hbr ⊢
  generalize spansTo d.steps d.steps.length = N at *
  go_enter Tryz.func32, Tryz.ntmps32
  go_upto_region 1 with fail
  generalize w.alloc (.cells #[.string d.name, .string d.text, .slice sa d.steps.length sc] 24) = w0 at *
  obtain ⟨p0, p1, p2, -, -, -⟩ := cells3h HG.out
  go_wp2_with fail
  refine HSUM.out.mono ?_
  rintro e w1 ⟨rfl, hb1⟩
  have HB1 := Lib.hid (bthen HB.out (Nat.le_refl _) hb1)
  clear p0 p1 p2 hb1
  go_wp2_with fail
  go_ret
  exact ⟨by go_num, HB1.out⟩
end Go.Proofs.YtgfiogjfgbegpaaGreat
