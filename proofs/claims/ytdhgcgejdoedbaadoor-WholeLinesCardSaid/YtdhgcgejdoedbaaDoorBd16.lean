/-
  Trees that are alike: rescriptref20.Same, block.Same: contracts.
-/
import Derived.Deep.RegionHeld3
import Derived.StillTailTactics
import Derived.Test.YtdhgcgejdoedbaaDoorBd14
namespace Go.Proofs.YtdhgcgejdoedbaaDoor
open Go.RowKit Go.WideShapes

theorem cells5 {W : World} {B : Nat} {a b c d e : Value} {t : TypeId} (h : W.heap[B]? = some (.cells #[a, b, c, d, e] t (0, 0))) :
    W.cell? ⟨B, 0, none⟩ = some a ∧ W.cell? ⟨B, 1, none⟩ = some b ∧ W.cell? ⟨B, 2, none⟩ = some c ∧ W.cell? ⟨B, 3, none⟩ = some d ∧ W.cell? ⟨B, 4, none⟩ = some e := by
  simp [World.cell?, h]
theorem sameTs_go {l m : List Tree} {k : Nat} (hl : k < l.length) (hm : k < m.length) (h : sameTs (l.take k) (m.take k) = true) (h1 : sameT l[k] m[k] = true) : sameTs (l.take (k + 1)) (m.take (k + 1)) = true := by
  obtain ⟨h2, h3⟩ := sameTs_iff.1 h
  refine sameTs_iff.2 ⟨by simp only [List.length_take]; omega, fun i a b ha hb => ?_⟩
  have hi : i < k + 1 := by have := (List.getElem?_eq_some_iff.1 ha).1; simp at this; omega
  rw [List.getElem?_take_of_lt hi] at ha hb
  rcases Nat.lt_or_ge i k with hik | hik
  · exact h3 i a b (by rw [List.getElem?_take_of_lt hik]; exact ha) (by rw [List.getElem?_take_of_lt hik]; exact hb)
  · obtain rfl : i = k := by omega
    rw [List.getElem?_eq_getElem hl] at ha
    rw [List.getElem?_eq_getElem hm] at hb
    cases ha; cases hb; exact h1
theorem sameTs_no {l m : List Tree} {k : Nat} (hl : k < l.length) (hm : k < m.length) (h1 : sameT l[k] m[k] = false) : sameTs l m = false := by
  rw [Bool.eq_false_iff]; intro h
  obtain ⟨_, h3⟩ := sameTs_iff.1 h
  rw [h3 k _ _ (List.getElem?_eq_getElem hl) (List.getElem?_eq_getElem hm)] at h1; cases h1
theorem sameTs_all {l m : List Tree} {k : Nat} (hlen : l.length = m.length) (hk : ¬ k < l.length) (h : sameTs (l.take k) (m.take k) = true) : sameTs l m = true := by
  rwa [List.take_of_length_le (by omega), List.take_of_length_le (by omega)] at h

end Go.Proofs.YtdhgcgejdoedbaaDoor

/-
  Steps and definitions: the plain data, and how they lie in memory (no program but types).
-/
namespace Go.Proofs.YtdhgcgejdoedbaaDoor
open Go Go.RowKit

structure StepD where
  name : ByteArray
  action : ByteArray
  undo : ByteArray
  after : List ByteArray
  most : Int
  first : Int
  factor : Int
  limit : Int
  note : Tree
structure DefD where
  name : ByteArray
  text : ByteArray
  steps : List StepD

instance instInhabitedStepD : Inhabited StepD := ⟨⟨ByteArray.empty, ByteArray.empty, ByteArray.empty, [], 0, 0, 0, 0, default⟩⟩
instance instInhabitedDefD : Inhabited DefD := ⟨⟨ByteArray.empty, ByteArray.empty, []⟩⟩
def I64w (n : Int) : Prop := -9223372036854775808 ≤ n ∧ n ≤ 9223372036854775807
/-- A step's cells, its slices and its note's left out. -/
def stepL (s : StepD) (va nk nt nks nkids nl : Value) : List Value := [.string s.name, .string s.action, .string s.undo, va, .int .i64 s.most, .int .i64 s.first, .int .i64 s.factor, .int .i64 s.limit, nk, nt, nks, nkids, nl]
structure StepOk (s : StepD) : Prop where
  name : s.name.size ≤ maxLen
  action : s.action.size ≤ maxLen
  undo : s.undo.size ≤ maxLen
  after : ∀ a ∈ s.after, a.size ≤ maxLen
  most : I64w s.most
  first : I64w s.first
  factor : I64w s.factor
  limit : I64w s.limit
/-- The cells of a step read as a step. -/
structure StepR (w : World) (cs : List Value) (s : StepD) (aa : Option Addr) (ac : Nat) (ka : Option Addr) (kc : Nat) (ba : Option Addr) (bc : Nat) : Prop where
  eq : cs = [.string s.name, .string s.action, .string s.undo, .slice aa s.after.length ac, .int .i64 s.most, .int .i64 s.first, .int .i64 s.factor, .int .i64 s.limit, .int .u8 (s.note.kind : Int), .string s.note.text, .slice ka s.note.keys.length kc, .slice ba s.note.kids.length bc, .int .i64 s.note.line]
  ok : StepOk s
  after : RdS w (.slice aa s.after.length ac) 1 s.after.length (strsV s.after)
  note : NodeR w [.int .u8 (s.note.kind : Int), .string s.note.text, .slice ka s.note.keys.length kc, .slice ba s.note.kids.length bc, .int .i64 s.note.line] s.note
theorem StepR.below {w w' : World} {cs : List Value} {s : StepD} {aa ka ba : Option Addr} {ac kc bc : Nat} (h : StepR w cs s aa ac ka kc ba bc) (hb : Below w.heap.size w w') : StepR w' cs s aa ac ka kc ba bc := ⟨h.eq, h.ok, h.after.below hb, h.note.belowW hb⟩
def StepX (w : World) (cs : List Value) (s : StepD) : Prop := ∃ aa ac ka kc ba bc, StepR w cs s aa ac ka kc ba bc
theorem StepX.below {w w' : World} {cs : List Value} {s : StepD} (h : StepX w cs s) (hb : Below w.heap.size w w') : StepX w' cs s := by
  obtain ⟨aa, ac, ka, kc, ba, bc, h⟩ := h
  exact ⟨aa, ac, ka, kc, ba, bc, h.below hb⟩
theorem StepX.len {w : World} {cs : List Value} {s : StepD} (h : StepX w cs s) : cs.length = 13 := by
  obtain ⟨aa, ac, ka, kc, ba, bc, h⟩ := h
  rw [h.eq]; rfl
/-- A slice that reads as steps. -/
def StepsR (w : World) (v : Value) (l : List StepD) : Prop := ∃ rows : List (List Value), rows.length = l.length ∧ RdS w v 13 l.length rows.flatten ∧ ∀ (i : Nat) (r : List Value) (s : StepD), rows[i]? = some r → l[i]? = some s → StepX w r s
theorem StepsR.below {w w' : World} {v : Value} {l : List StepD} (h : StepsR w v l) (hb : Below w.heap.size w w') : StepsR w' v l := by
  obtain ⟨rows, h1, h2, h3⟩ := h
  exact ⟨rows, h1, h2.below hb, fun i r s hr hs => (h3 i r s hr hs).below hb⟩
theorem StepsR.form {w : World} {v : Value} {l : List StepD} (h : StepsR w v l) : ∃ a c, v = .slice a l.length c ∧ l.length ≤ c ∧ c ≤ 9223372036854775807 := by
  obtain ⟨rows, h1, h2, h3⟩ := h
  obtain ⟨_, a, c, he, h4, h5, _⟩ := h2
  exact ⟨a, c, he, h4, by unfold maxLen at h5; exact h5⟩
/-- The thirteen cells from a place on. -/
structure At13 (w : World) (g o : Nat) (c0 c1 c2 c3 c4 c5 c6 c7 c8 c9 c10 c11 c12 : Value) : Prop where
  q0 : w.cell? ⟨g, o, none⟩ = some c0
  q1 : w.cell? ⟨g, o + 1, none⟩ = some c1
  q2 : w.cell? ⟨g, o + 2, none⟩ = some c2
  q3 : w.cell? ⟨g, o + 3, none⟩ = some c3
  q4 : w.cell? ⟨g, o + 4, none⟩ = some c4
  q5 : w.cell? ⟨g, o + 5, none⟩ = some c5
  q6 : w.cell? ⟨g, o + 6, none⟩ = some c6
  q7 : w.cell? ⟨g, o + 7, none⟩ = some c7
  q8 : w.cell? ⟨g, o + 8, none⟩ = some c8
  q9 : w.cell? ⟨g, o + 9, none⟩ = some c9
  q10 : w.cell? ⟨g, o + 10, none⟩ = some c10
  q11 : w.cell? ⟨g, o + 11, none⟩ = some c11
  q12 : w.cell? ⟨g, o + 12, none⟩ = some c12
theorem StepsR.at {w : World} {v : Value} {l : List StepD} (h : StepsR w v l) {i : Nat} (hi : i < l.length) :
    ∃ g off cap aa ac ka kc ba bc, v = .slice (some ⟨g, off, none⟩) l.length cap ∧ l.length ≤ cap ∧ cap ≤ 9223372036854775807 ∧
      StepR w [.string l[i].name, .string l[i].action, .string l[i].undo, .slice aa l[i].after.length ac, .int .i64 l[i].most, .int .i64 l[i].first, .int .i64 l[i].factor, .int .i64 l[i].limit, .int .u8 (l[i].note.kind : Int), .string l[i].note.text, .slice ka l[i].note.keys.length kc, .slice ba l[i].note.kids.length bc, .int .i64 l[i].note.line] l[i] aa ac ka kc ba bc ∧
      At13 w g (off + i * 13) (.string l[i].name) (.string l[i].action) (.string l[i].undo) (.slice aa l[i].after.length ac) (.int .i64 l[i].most) (.int .i64 l[i].first) (.int .i64 l[i].factor) (.int .i64 l[i].limit) (.int .u8 (l[i].note.kind : Int)) (.string l[i].note.text) (.slice ka l[i].note.keys.length kc) (.slice ba l[i].note.kids.length bc) (.int .i64 l[i].note.line) := by
  obtain ⟨rows, h1, h2, h3⟩ := h
  have hri : i < rows.length := by omega
  obtain ⟨aa, ac, ka, kc, ba, bc, hn⟩ := h3 i _ _ (List.getElem?_eq_getElem hri) (List.getElem?_eq_getElem hi)
  have hm : ∀ r ∈ rows, r.length = 13 := by
    intro r hr
    obtain ⟨j, hj, rfl⟩ := List.getElem_of_mem hr
    exact (h3 j _ _ (List.getElem?_eq_getElem hj) (List.getElem?_eq_getElem (by omega))).len
  have hf := (flatten_get hm).2 i _ (List.getElem?_eq_getElem hri)
  have hrow := hn.eq
  rw [hrow] at hf hn
  rcases h2.cases (by decide) with ⟨h0, _⟩ | ⟨hn0, _, g, off, cap, rfl, q1, q2, q3⟩
  · omega
  · have gg : ∀ j c, j < 13 → [.string l[i].name, .string l[i].action, .string l[i].undo, .slice aa l[i].after.length ac, .int .i64 l[i].most, .int .i64 l[i].first, .int .i64 l[i].factor, .int .i64 l[i].limit, .int .u8 (l[i].note.kind : Int), .string l[i].note.text, .slice ka l[i].note.keys.length kc, .slice ba l[i].note.kids.length bc, .int .i64 l[i].note.line][j]? = some c → w.cell? ⟨g, off + i * 13 + j, none⟩ = some c := fun j c hj hc => by
      rw [Nat.add_assoc]; exact q3 _ _ ((hf j hj).trans hc)
    exact ⟨g, off, cap, aa, ac, ka, kc, ba, bc, rfl, q1, q2, hn, gg 0 _ (by omega) rfl, gg 1 _ (by omega) rfl, gg 2 _ (by omega) rfl, gg 3 _ (by omega) rfl, gg 4 _ (by omega) rfl, gg 5 _ (by omega) rfl, gg 6 _ (by omega) rfl, gg 7 _ (by omega) rfl, gg 8 _ (by omega) rfl, gg 9 _ (by omega) rfl, gg 10 _ (by omega) rfl, gg 11 _ (by omega) rfl, gg 12 _ (by omega) rfl⟩
theorem At13.below {w w' : World} {g o : Nat} {c0 c1 c2 c3 c4 c5 c6 c7 c8 c9 c10 c11 c12 : Value} (h : At13 w g o c0 c1 c2 c3 c4 c5 c6 c7 c8 c9 c10 c11 c12) (hb : Below w.heap.size w w') : At13 w' g o c0 c1 c2 c3 c4 c5 c6 c7 c8 c9 c10 c11 c12 :=
  ⟨cellB hb h.q0, cellB hb h.q1, cellB hb h.q2, cellB hb h.q3, cellB hb h.q4, cellB hb h.q5, cellB hb h.q6, cellB hb h.q7, cellB hb h.q8, cellB hb h.q9, cellB hb h.q10, cellB hb h.q11, cellB hb h.q12⟩
theorem at13_block {w : World} {g : Nat} {t : TypeId} {fr : Nat × Nat} {c0 c1 c2 c3 c4 c5 c6 c7 c8 c9 c10 c11 c12 : Value} (h : w.heap[g]? = some (.cells #[c0, c1, c2, c3, c4, c5, c6, c7, c8, c9, c10, c11, c12] t fr)) : At13 w g 0 c0 c1 c2 c3 c4 c5 c6 c7 c8 c9 c10 c11 c12 := by
  constructor <;> simp [World.cell?, h]

/-- The cells of a definition read as a definition. -/
structure DefR (w : World) (cs : List Value) (d : DefD) (sa : Option Addr) (sc : Nat) : Prop where
  eq : cs = [.string d.name, .string d.text, .slice sa d.steps.length sc]
  name : d.name.size ≤ maxLen
  text : d.text.size ≤ maxLen
  steps : StepsR w (.slice sa d.steps.length sc) d.steps
theorem DefR.below {w w' : World} {cs : List Value} {d : DefD} {sa : Option Addr} {sc : Nat} (h : DefR w cs d sa sc) (hb : Below w.heap.size w w') : DefR w' cs d sa sc := ⟨h.eq, h.name, h.text, h.steps.below hb⟩

/-- Small enough. -/
def smallStep (s : StepD) : Bool := decide (s.name.size ≤ 200) && decide (s.action.size ≤ 200) && decide (s.undo.size ≤ 200) && decide (s.after.length ≤ 70) && smallTB s.note && s.after.all (fun a => decide (a.size ≤ 200))
def smallDef (d : DefD) : Bool := decide (d.name.size ≤ 200) && decide (d.text.size ≤ 5000) && decide (d.steps.length ≤ 30) && d.steps.all smallStep
structure SmallS (s : StepD) : Prop where
  name : s.name.size ≤ 200
  action : s.action.size ≤ 200
  undo : s.undo.size ≤ 200
  after : s.after.length ≤ 70
  note : SmallP 18 s.note
  aft : ∀ a ∈ s.after, a.size ≤ 200
structure SmallD (d : DefD) : Prop where
  name : d.name.size ≤ 200
  text : d.text.size ≤ 5000
  steps : d.steps.length ≤ 30
  each : ∀ s ∈ d.steps, SmallS s
theorem smallStep_of {s : StepD} (h : smallStep s = true) : SmallS s := by
  simp only [smallStep, Bool.and_eq_true, decide_eq_true_eq, List.all_eq_true] at h
  obtain ⟨⟨⟨⟨⟨h1, h2⟩, h3⟩, h4⟩, h5⟩, h6⟩ := h
  exact ⟨h1, h2, h3, h4, (small_of h5).1, h6⟩
theorem smallDef_of {d : DefD} (h : smallDef d = true) : SmallD d := by
  simp only [smallDef, Bool.and_eq_true, decide_eq_true_eq, List.all_eq_true] at h
  obtain ⟨⟨⟨h1, h2⟩, h3⟩, h4⟩ := h
  exact ⟨h1, h2, h3, fun s hs => smallStep_of (h4 s hs)⟩
end Go.Proofs.YtdhgcgejdoedbaaDoor

/-
  Trees that are alike: slices.EqualFunc on nodes, block.Same: contracts.
-/
namespace Go.Proofs.YtdhgcgejdoedbaaDoor
open Go.RowKit Go.WideShapes

end Go.Proofs.YtdhgcgejdoedbaaDoor
