/-
  Trees that are alike: rescriptref20.Same, block.Same: contracts.
-/
import Derived.Deep.RegionHeld3
import Derived.StillTailTactics
import Derived.Test.YtdhgcgejdoedbaaGreatDoorBw6
import Derived.Test.YtdhgcgejdoedbaaGreatDoorBw14
namespace Go.Proofs.YtdhgcgejdoedbaaGreatDoor
open Go.RowKit Go.WideShapes

theorem cells5 {W : World} {B : Nat} {a b c d e : Value} {t : TypeId} (h : W.heap[B]? = some (.cells #[a, b, c, d, e] t (0, 0))) :
    W.cell? ⟨B, 0, none⟩ = some a ∧ W.cell? ⟨B, 1, none⟩ = some b ∧ W.cell? ⟨B, 2, none⟩ = some c ∧ W.cell? ⟨B, 3, none⟩ = some d ∧ W.cell? ⟨B, 4, none⟩ = some e := by
  simp [World.cell?, h]
theorem sameTs_go {l m : List Tree} {k : Nat} (hl : k < l.length) (hm : k < m.length) (h : sameTs (l.take k) (m.take k) = true) (h1 : sameT l[k] m[k] = true) : sameTs (l.take (k + 1)) (m.take (k + 1)) = true := by
  obtain ⟨h2, h3⟩ := sameTs_iff.1 h
  refine sameTs_iff.2 ⟨by simp only [List.length_take]; omega, fun i a b ha hb => ?_⟩
  have hi : i < k + 1 := by have := (List.getElem?_eq_some_iff.1 ha).1; simp at this; omega
  rw [List.getElem?_take_of_lt hi] at ha hb
  rcases Nat.lt_or_ge i k with hik | hik
  · exact h3 i a b (by rw [List.getElem?_take_of_lt hik]; exact ha) (by rw [List.getElem?_take_of_lt hik]; exact hb)
  · obtain rfl : i = k := by omega
    rw [List.getElem?_eq_getElem hl] at ha
    rw [List.getElem?_eq_getElem hm] at hb
    cases ha; cases hb; exact h1
theorem sameTs_no {l m : List Tree} {k : Nat} (hl : k < l.length) (hm : k < m.length) (h1 : sameT l[k] m[k] = false) : sameTs l m = false := by
  rw [Bool.eq_false_iff]; intro h
  obtain ⟨_, h3⟩ := sameTs_iff.1 h
  rw [h3 k _ _ (List.getElem?_eq_getElem hl) (List.getElem?_eq_getElem hm)] at h1; cases h1
theorem sameTs_all {l m : List Tree} {k : Nat} (hlen : l.length = m.length) (hk : ¬ k < l.length) (h : sameTs (l.take k) (m.take k) = true) : sameTs l m = true := by
  rwa [List.take_of_length_le (by omega), List.take_of_length_le (by omega)] at h

end Go.Proofs.YtdhgcgejdoedbaaGreatDoor

/-
  Steps and definitions: the plain data, and how they lie in memory (no program but types).
-/
namespace Go.Proofs.YtdhgcgejdoedbaaGreatDoor
open Go Go.RowKit

structure StepD where
  name : ByteArray
  action : ByteArray
  undo : ByteArray
  after : List ByteArray
  most : Int
  first : Int
  factor : Int
  limit : Int
  note : Tree
structure DefD where
  name : ByteArray
  text : ByteArray
  steps : List StepD

instance instInhabitedStepD : Inhabited StepD := ⟨⟨ByteArray.empty, ByteArray.empty, ByteArray.empty, [], 0, 0, 0, 0, default⟩⟩
instance instInhabitedDefD : Inhabited DefD := ⟨⟨ByteArray.empty, ByteArray.empty, []⟩⟩
def I64w (n : Int) : Prop := -9223372036854775808 ≤ n ∧ n ≤ 9223372036854775807
structure StepOk (s : StepD) : Prop where
  name : s.name.size ≤ maxLen
  action : s.action.size ≤ maxLen
  undo : s.undo.size ≤ maxLen
  after : ∀ a ∈ s.after, a.size ≤ maxLen
  most : I64w s.most
  first : I64w s.first
  factor : I64w s.factor
  limit : I64w s.limit
structure StepR (w : World) (cs : List Value) (s : StepD) (aa : Option Addr) (ac : Nat) (ka : Option Addr) (kc : Nat) (ba : Option Addr) (bc : Nat) : Prop where
  eq : cs = [.string s.name, .string s.action, .string s.undo, .slice aa s.after.length ac, .int .i64 s.most, .int .i64 s.first, .int .i64 s.factor, .int .i64 s.limit, .int .u8 (s.note.kind : Int), .string s.note.text, .slice ka s.note.keys.length kc, .slice ba s.note.kids.length bc, .int .i64 s.note.line]
  ok : StepOk s
  after : RdS w (.slice aa s.after.length ac) 1 s.after.length (strsV s.after)
  note : NodeR w [.int .u8 (s.note.kind : Int), .string s.note.text, .slice ka s.note.keys.length kc, .slice ba s.note.kids.length bc, .int .i64 s.note.line] s.note
theorem StepR.below {w w' : World} {cs : List Value} {s : StepD} {aa ka ba : Option Addr} {ac kc bc : Nat} (h : StepR w cs s aa ac ka kc ba bc) (hb : Below w.heap.size w w') : StepR w' cs s aa ac ka kc ba bc := ⟨h.eq, h.ok, h.after.below hb, h.note.belowW hb⟩
def StepX (w : World) (cs : List Value) (s : StepD) : Prop := ∃ aa ac ka kc ba bc, StepR w cs s aa ac ka kc ba bc
theorem StepX.below {w w' : World} {cs : List Value} {s : StepD} (h : StepX w cs s) (hb : Below w.heap.size w w') : StepX w' cs s := by
  obtain ⟨aa, ac, ka, kc, ba, bc, h⟩ := h
  exact ⟨aa, ac, ka, kc, ba, bc, h.below hb⟩
theorem StepX.len {w : World} {cs : List Value} {s : StepD} (h : StepX w cs s) : cs.length = 13 := by
  obtain ⟨aa, ac, ka, kc, ba, bc, h⟩ := h
  rw [h.eq]; rfl
def StepsR (w : World) (v : Value) (l : List StepD) : Prop := ∃ rows : List (List Value), rows.length = l.length ∧ RdS w v 13 l.length rows.flatten ∧ ∀ (i : Nat) (r : List Value) (s : StepD), rows[i]? = some r → l[i]? = some s → StepX w r s
theorem StepsR.below {w w' : World} {v : Value} {l : List StepD} (h : StepsR w v l) (hb : Below w.heap.size w w') : StepsR w' v l := by
  obtain ⟨rows, h1, h2, h3⟩ := h
  exact ⟨rows, h1, h2.below hb, fun i r s hr hs => (h3 i r s hr hs).below hb⟩
theorem StepsR.form {w : World} {v : Value} {l : List StepD} (h : StepsR w v l) : ∃ a c, v = .slice a l.length c ∧ l.length ≤ c ∧ c ≤ 9223372036854775807 := by
  obtain ⟨rows, h1, h2, h3⟩ := h
  obtain ⟨_, a, c, he, h4, h5, _⟩ := h2
  exact ⟨a, c, he, h4, by unfold maxLen at h5; exact h5⟩
structure At13 (w : World) (g o : Nat) (c0 c1 c2 c3 c4 c5 c6 c7 c8 c9 c10 c11 c12 : Value) : Prop where
  q0 : w.cell? ⟨g, o, none⟩ = some c0
  q1 : w.cell? ⟨g, o + 1, none⟩ = some c1
  q2 : w.cell? ⟨g, o + 2, none⟩ = some c2
  q3 : w.cell? ⟨g, o + 3, none⟩ = some c3
  q4 : w.cell? ⟨g, o + 4, none⟩ = some c4
  q5 : w.cell? ⟨g, o + 5, none⟩ = some c5
  q6 : w.cell? ⟨g, o + 6, none⟩ = some c6
  q7 : w.cell? ⟨g, o + 7, none⟩ = some c7
  q8 : w.cell? ⟨g, o + 8, none⟩ = some c8
  q9 : w.cell? ⟨g, o + 9, none⟩ = some c9
  q10 : w.cell? ⟨g, o + 10, none⟩ = some c10
  q11 : w.cell? ⟨g, o + 11, none⟩ = some c11
  q12 : w.cell? ⟨g, o + 12, none⟩ = some c12
theorem StepsR.at {w : World} {v : Value} {l : List StepD} (h : StepsR w v l) {i : Nat} (hi : i < l.length) :
    ∃ g off cap aa ac ka kc ba bc, v = .slice (some ⟨g, off, none⟩) l.length cap ∧ l.length ≤ cap ∧ cap ≤ 9223372036854775807 ∧
      StepR w [.string l[i].name, .string l[i].action, .string l[i].undo, .slice aa l[i].after.length ac, .int .i64 l[i].most, .int .i64 l[i].first, .int .i64 l[i].factor, .int .i64 l[i].limit, .int .u8 (l[i].note.kind : Int), .string l[i].note.text, .slice ka l[i].note.keys.length kc, .slice ba l[i].note.kids.length bc, .int .i64 l[i].note.line] l[i] aa ac ka kc ba bc ∧
      At13 w g (off + i * 13) (.string l[i].name) (.string l[i].action) (.string l[i].undo) (.slice aa l[i].after.length ac) (.int .i64 l[i].most) (.int .i64 l[i].first) (.int .i64 l[i].factor) (.int .i64 l[i].limit) (.int .u8 (l[i].note.kind : Int)) (.string l[i].note.text) (.slice ka l[i].note.keys.length kc) (.slice ba l[i].note.kids.length bc) (.int .i64 l[i].note.line) := by
  obtain ⟨rows, h1, h2, h3⟩ := h
  have hri : i < rows.length := by omega
  obtain ⟨aa, ac, ka, kc, ba, bc, hn⟩ := h3 i _ _ (List.getElem?_eq_getElem hri) (List.getElem?_eq_getElem hi)
  have hm : ∀ r ∈ rows, r.length = 13 := by
    intro r hr
    obtain ⟨j, hj, rfl⟩ := List.getElem_of_mem hr
    exact (h3 j _ _ (List.getElem?_eq_getElem hj) (List.getElem?_eq_getElem (by omega))).len
  have hf := (flatten_get hm).2 i _ (List.getElem?_eq_getElem hri)
  have hrow := hn.eq
  rw [hrow] at hf hn
  rcases h2.cases (by decide) with ⟨h0, _⟩ | ⟨hn0, _, g, off, cap, rfl, q1, q2, q3⟩
  · omega
  · have gg : ∀ j c, j < 13 → [.string l[i].name, .string l[i].action, .string l[i].undo, .slice aa l[i].after.length ac, .int .i64 l[i].most, .int .i64 l[i].first, .int .i64 l[i].factor, .int .i64 l[i].limit, .int .u8 (l[i].note.kind : Int), .string l[i].note.text, .slice ka l[i].note.keys.length kc, .slice ba l[i].note.kids.length bc, .int .i64 l[i].note.line][j]? = some c → w.cell? ⟨g, off + i * 13 + j, none⟩ = some c := fun j c hj hc => by
      rw [Nat.add_assoc]; exact q3 _ _ ((hf j hj).trans hc)
    exact ⟨g, off, cap, aa, ac, ka, kc, ba, bc, rfl, q1, q2, hn, gg 0 _ (by omega) rfl, gg 1 _ (by omega) rfl, gg 2 _ (by omega) rfl, gg 3 _ (by omega) rfl, gg 4 _ (by omega) rfl, gg 5 _ (by omega) rfl, gg 6 _ (by omega) rfl, gg 7 _ (by omega) rfl, gg 8 _ (by omega) rfl, gg 9 _ (by omega) rfl, gg 10 _ (by omega) rfl, gg 11 _ (by omega) rfl, gg 12 _ (by omega) rfl⟩
theorem At13.below {w w' : World} {g o : Nat} {c0 c1 c2 c3 c4 c5 c6 c7 c8 c9 c10 c11 c12 : Value} (h : At13 w g o c0 c1 c2 c3 c4 c5 c6 c7 c8 c9 c10 c11 c12) (hb : Below w.heap.size w w') : At13 w' g o c0 c1 c2 c3 c4 c5 c6 c7 c8 c9 c10 c11 c12 :=
  ⟨cellB hb h.q0, cellB hb h.q1, cellB hb h.q2, cellB hb h.q3, cellB hb h.q4, cellB hb h.q5, cellB hb h.q6, cellB hb h.q7, cellB hb h.q8, cellB hb h.q9, cellB hb h.q10, cellB hb h.q11, cellB hb h.q12⟩
structure DefR (w : World) (cs : List Value) (d : DefD) (sa : Option Addr) (sc : Nat) : Prop where
  eq : cs = [.string d.name, .string d.text, .slice sa d.steps.length sc]
  name : d.name.size ≤ maxLen
  text : d.text.size ≤ maxLen
  steps : StepsR w (.slice sa d.steps.length sc) d.steps
theorem DefR.below {w w' : World} {cs : List Value} {d : DefD} {sa : Option Addr} {sc : Nat} (h : DefR w cs d sa sc) (hb : Below w.heap.size w w') : DefR w' cs d sa sc := ⟨h.eq, h.name, h.text, h.steps.below hb⟩

structure SmallS (s : StepD) : Prop where
  name : s.name.size ≤ 200
  action : s.action.size ≤ 200
  undo : s.undo.size ≤ 200
  after : s.after.length ≤ 70
  note : SmallP 18 s.note
  aft : ∀ a ∈ s.after, a.size ≤ 200
structure SmallD (d : DefD) : Prop where
  name : d.name.size ≤ 200
  text : d.text.size ≤ 5000
  steps : d.steps.length ≤ 30
  each : ∀ s ∈ d.steps, SmallS s
end Go.Proofs.YtdhgcgejdoedbaaGreatDoor

/-
  Trees that are alike: slices.EqualFunc on nodes, block.Same: contracts.
-/
namespace Go.Proofs.YtdhgcgejdoedbaaGreatDoor
open Go.RowKit Go.WideShapes

set_option maxRecDepth 100000 in
set_option maxHeartbeats 1000000 in
theorem EqualFuncN_any (l m : List Tree) (v u : Value) (w : World) (h : NodesR w v l) (h' : NodesR w u m)
    (ih : ∀ x ∈ l, ∀ (b : Tree) (ca cb : List Value) (W : World), NodeR W ca x → NodeR W cb b → Calls Tryz.prog 15 #[.agg ca.toArray, .agg cb.toArray] W fun e w' => e = .returned (.bool (sameT x b)) ∧ Below W.heap.size W w') :
    Calls Tryz.prog 31 #[v, u, .func (.func 15) #[] #[]] w fun e w' => e = .returned (.bool (sameTs l m)) ∧ Below w.heap.size w w' := by
  have HC1 := Lib.hid h
  have HC2 := Lib.hid h'
  have IH := Lib.hid ih
  obtain ⟨va, vc, rfl, hv1, hv2⟩ := h.form
  obtain ⟨vb, vd, rfl, hv3, hv4⟩ := h'.form
  clear h h' ih
  by_cases e4 : l.length = m.length
  · have d4 : ((l.length : Int) != (m.length : Int)) = false := by simp [e4]
    have E4 := Lib.hid e4
    clear e4
    go_enter Tryz.func31, Tryz.ntmps31
    go_wp2
    go_loopw [17] (fun i wr => ∃ j : Nat, j ≤ l.length ∧ i = .int .i64 j ∧ Hid (sameTs (l.take j) (m.take j) = true) ∧ Hid (Below w.heap.size w wr)) (fun i _ => l.length - (intOf i).toNat)
    case atStart => exact ⟨0, by omega, rfl, Lib.hid rfl, Lib.hid (Below.refl _ _)⟩
    case round =>
      obtain ⟨j, hj, rfl, HE, HB⟩ := hrel
      have hbr := HB.out
      by_cases hlt : j < l.length
      · have hlt2 : j < m.length := by have := E4.out; omega
        obtain ⟨g, off, cap, ka1, kc1, ba1, bc1, he, q1, q2, hn, z0, z1, z2, z3, z4⟩ := (HC1.out.below hbr).at hlt
        obtain ⟨g', off', cap', ka2, kc2, ba2, bc2, he', q1', q2', hn', y0, y1, y2, y3, y4⟩ := (HC2.out.below hbr).at hlt2
        cases he
        cases he'
        have HIH := Lib.hid (fun (W : World) (hW : Below wr.heap.size wr W) => IH.out _ (List.getElem_mem hlt) m[j] _ _ W (hn.belowW hW) (hn'.belowW hW))
        have HGO := Lib.hid (sameTs_go hlt hlt2 HE.out)
        have HNO := Lib.hid (sameTs_no hlt hlt2)
        have hj0 : (0 : Int) ≤ (j : Int) := by omega
        have hj1 : (j : Int) < (l.length : Int) := by omega
        have hj2 : (j : Int) < (m.length : Int) := by omega
        clear hn hn'
        generalize sameT l[j] m[j] = sb at *
        have hbA : Below wr.heap.size wr (wr.alloc (.cells #[.int .u8 (l[j].kind : Int), .string l[j].text, .slice ka1 l[j].keys.length kc1, .slice ba1 l[j].kids.length bc1, .int .i64 l[j].line] 25)) := (Below.refl _ _).alloc (Nat.le_refl _) _
        have y0 := cellB hbA y0
        have y1 := cellB hbA y1
        have y2 := cellB hbA y2
        have y3 := cellB hbA y3
        have y4 := cellB hbA y4
        clear hbA
        go_wp2_with fail
        refine (HIH.out _ (((Below.refl _ _).alloc (Nat.le_refl _) _).alloc (by simp) _)).mono ?_
        rintro e w4 ⟨rfl, hb4⟩
        have hbw4 : Below w.heap.size w w4 := hbr.trans (((((Below.refl _ wr).alloc (Nat.le_refl _) _).alloc (by simp) _).trans (hb4.mono (by simp; omega))).mono hbr.size)
        clear z0 z1 z2 z3 z4 y0 y1 y2 y3 y4
        cases sb with
        | true =>
          have HS2 := Lib.hid (HGO.out rfl)
          go_wp2
          go_roundw
          case rel => exact ⟨j + 1, by omega, by go_num, HS2, Lib.hid hbw4⟩
          case measure => simp [intOf]; omega
        | false =>
          have HS2 := Lib.hid (HNO.out rfl)
          go_wp2
          go_ret
          exact ⟨by rw [HS2.out]; rfl, hbw4⟩
      · have HS2 := Lib.hid (sameTs_all E4.out hlt HE.out)
        go_wp2
        go_ret
        exact ⟨by rw [HS2.out]; rfl, hbr⟩
  · have d4 : ((l.length : Int) != (m.length : Int)) = true := by simp; omega
    have F : Hid (sameTs l m = false) := Lib.hid (by rw [Bool.eq_false_iff]; intro h; exact e4 (sameTs_len h))
    clear e4
    go_enter Tryz.func31, Tryz.ntmps31
    go_wp2
    go_ret
    exact ⟨by rw [F.out]; rfl, Below.refl _ _⟩

set_option maxRecDepth 100000 in
set_option maxHeartbeats 1000000 in
theorem bSame_any : ∀ (a b : Tree) (ca cb : List Value) (w : World), NodeR w ca a → NodeR w cb b →
    Calls Tryz.prog 15 #[.agg ca.toArray, .agg cb.toArray] w fun e w' => e = .returned (.bool (sameT a b)) ∧ Below w.heap.size w w' := by
  refine Tree.ind fun k t ks kids ln ih b ca cb w ha hb => ?_
  obtain ⟨k', t', ks', kids', ln'⟩ := b
  obtain ⟨vk, vc, rfl, _, _, _, _, hk1, hc1⟩ := ha.parts
  obtain ⟨vk', vc', rfl, _, _, _, _, hk2, hc2⟩ := hb.parts
  have hb0 : Below w.heap.size w ((w.alloc (.cells #[.int .u8 (k : Int), .string t, vk, vc, .int .i64 ln] 25)).alloc (.cells #[.int .u8 (k' : Int), .string t', vk', vc', .int .i64 ln'] 25)) := ((Below.refl _ w).alloc (Nat.le_refl _) _).alloc (by simp) _
  have HK1 := Lib.hid (hk1.below hb0)
  have HK2 := Lib.hid (hk2.below hb0)
  have HC1 := Lib.hid (hc1.below hb0)
  have HC2 := Lib.hid (hc2.below hb0)
  obtain ⟨vka, vkc, rfl, hv1, hv2⟩ := hc1.form
  obtain ⟨vkb, vkd, rfl, hv3, hv4⟩ := hc2.form
  obtain ⟨ka, kc, rfl⟩ := hk1.form
  obtain ⟨kb, kd, rfl⟩ := hk2.form
  have IH := Lib.hid ih
  clear ha hb hk1 hk2 hc1 hc2 ih
  have g1 : ((w.alloc (.cells #[.int .u8 (k : Int), .string t, .slice ka ks.length kc, .slice vka kids.length vkc, .int .i64 ln] 25)).alloc (.cells #[.int .u8 (k' : Int), .string t', .slice kb ks'.length kd, .slice vkb kids'.length vkd, .int .i64 ln'] 25)).heap[w.heap.size]? = some (.cells #[.int .u8 (k : Int), .string t, .slice ka ks.length kc, .slice vka kids.length vkc, .int .i64 ln] 25 (0, 0)) := (Below.heap_alloc _ _ _ (by simp)).trans (World.alloc_heap_new w _)
  have g2 : ((w.alloc (.cells #[.int .u8 (k : Int), .string t, .slice ka ks.length kc, .slice vka kids.length vkc, .int .i64 ln] 25)).alloc (.cells #[.int .u8 (k' : Int), .string t', .slice kb ks'.length kd, .slice vkb kids'.length vkd, .int .i64 ln'] 25)).heap[w.heap.size + 1]? = some (.cells #[.int .u8 (k' : Int), .string t', .slice kb ks'.length kd, .slice vkb kids'.length vkd, .int .i64 ln'] 25 (0, 0)) := by
    have := World.alloc_heap_new (w.alloc (.cells #[.int .u8 (k : Int), .string t, .slice ka ks.length kc, .slice vka kids.length vkc, .int .i64 ln] 25)) (.cells #[.int .u8 (k' : Int), .string t', .slice kb ks'.length kd, .slice vkb kids'.length vkd, .int .i64 ln'] 25)
    rwa [World.size_alloc] at this
  generalize hwz : (w.alloc (.cells #[.int .u8 (k : Int), .string t, .slice ka ks.length kc, .slice vka kids.length vkc, .int .i64 ln] 25)).alloc (.cells #[.int .u8 (k' : Int), .string t', .slice kb ks'.length kd, .slice vkb kids'.length vkd, .int .i64 ln'] 25) = wz at *
  obtain ⟨p0, p1, p2, p3, p4⟩ := cells5 g1
  obtain ⟨r0, r1, r2, r3, r4⟩ := cells5 g2
  clear g1 g2
  rw [sameT]
  by_cases e1 : k = k'
  · have d1 : ((k : Int) == (k' : Int)) = true := by simp [e1]
    have E1 := Lib.hid (decide_eq_true e1)
    clear e1
    by_cases e2 : t = t'
    · have d2 : (t.toList == t'.toList) = true := beqS_yes e2
      have E2 := Lib.hid (decide_eq_true e2)
      clear e2
      have HT := Lib.hid (EqualS_any ks ks' _ _ _ HK1.out HK2.out)
      rcases hks : decide (ks = ks') with _ | _
      · have F : Hid ((decide (k = k') && decide (t = t') && false && sameTs kids kids') = false) := Lib.hid (by simp)
        rw [hks] at HT
        clear hks
        go_enter Tryz.func15, Tryz.ntmps15
        go_wp2_with fail
        refine HT.out.mono ?_
        rintro e w1 ⟨rfl, hb1⟩
        go_wp2
        go_ret
        exact ⟨by rw [F.out]; rfl, bthen hb0 (Nat.le_refl _) hb1⟩
      · rw [hks] at HT
        clear hks
        have F : Hid ((decide (k = k') && decide (t = t') && true && sameTs kids kids') = sameTs kids kids') := Lib.hid (by rw [E1.out, E2.out]; simp)
        rw [F.out]
        go_enter Tryz.func15, Tryz.ntmps15
        go_wp2_with fail
        refine HT.out.mono ?_
        rintro e w1 ⟨rfl, hb1⟩
        have hbw1 := bthen hb0 (Nat.le_refl _) hb1
        have p3 := cellB hb1 p3
        have r3 := cellB hb1 r3
        clear p0 p1 p2 p4 r0 r1 r2 r4
        go_wp2_with fail
        refine (EqualFuncN_any kids kids' _ _ _ (HC1.out.below hb1) (HC2.out.below hb1) IH.out).mono ?_
        rintro e w2 ⟨rfl, hb2⟩
        go_wp2
        go_ret
        exact ⟨rfl, bthen hbw1 (Nat.le_refl _) hb2⟩
    · have d2 : (t.toList == t'.toList) = false := beqS_no e2
      have F : Hid ((decide (k = k') && decide (t = t') && decide (ks = ks') && sameTs kids kids') = false) := Lib.hid (by simp [e2])
      clear e2
      go_enter Tryz.func15, Tryz.ntmps15
      go_wp2
      go_ret
      exact ⟨by rw [F.out]; rfl, hb0⟩
  · have d1 : ((k : Int) == (k' : Int)) = false := by simp; omega
    have F : Hid ((decide (k = k') && decide (t = t') && decide (ks = ks') && sameTs kids kids') = false) := Lib.hid (by simp [e1])
    clear e1
    go_enter Tryz.func15, Tryz.ntmps15
    go_wp2
    go_ret
    exact ⟨by rw [F.out]; rfl, hb0⟩
end Go.Proofs.YtdhgcgejdoedbaaGreatDoor

/-
  Is a tree small: contracts.
-/
namespace Go.Proofs.YtdhgcgejdoedbaaGreatDoor
open Go.RowKit Go.WideShapes

theorem smallTs_go {n : Nat} {l : List Tree} {x r r' : Int} {j : Nat} (hj : j < l.length) (h : smallTs n (l.take j) x = (true, r)) (h1 : smallT n l[j] r = (true, r')) : smallTs n (l.take (j + 1)) x = (true, r') := by
  have key : ∀ (a : List Tree) (x : Int), smallTs n (a ++ [l[j]]) x = if (smallTs n a x).1 then smallT n l[j] (smallTs n a x).2 else smallTs n a x := by
    intro a
    induction a with
    | nil => intro x; simp only [List.nil_append, smallTs]; split <;> rename_i hh <;> simp [Prod.ext_iff, hh]
    | cons b a ih => intro x; simp only [List.cons_append, smallTs]; split <;> simp [ih]
  rw [List.take_succ_eq_append_getElem hj, key, h]; simpa using h1
theorem smallTs_no {n : Nat} {l : List Tree} {x r r' : Int} {j : Nat} (hj : j < l.length) (h : smallTs n (l.take j) x = (true, r)) (h1 : smallT n l[j] r = (false, r')) : smallTs n l x = (false, r') := by
  have key : ∀ (a b : List Tree) (x : Int), smallTs n (a ++ b) x = if (smallTs n a x).1 then smallTs n b (smallTs n a x).2 else smallTs n a x := by
    intro a b
    induction a with
    | nil => intro x; simp [smallTs]
    | cons c a ih => intro x; simp only [List.cons_append, smallTs]; split <;> simp [ih]
  conv => lhs; rw [← List.take_append_drop j l, key, h, List.drop_eq_getElem_cons hj]
  simp [smallTs, h1]
theorem smallT_pos : ∀ t n left, (smallT n t left).1 = true → 0 ≤ (smallT n t left).2 := by
  refine Tree.ind fun k t ks kids l ih n left => ?_
  cases n with
  | zero => simp [smallT]
  | succ n =>
    have hk : ∀ m : List Tree, (∀ x ∈ m, x ∈ kids) → ∀ left, 0 ≤ left → (smallTs n m left).1 = true → 0 ≤ (smallTs n m left).2 := by
      intro m hm
      induction m with
      | nil => intro left h0 _; simpa [smallTs] using h0
      | cons a m ihm =>
        intro left h0
        rw [smallTs]
        split
        · rename_i h1
          exact ihm (fun x hx => hm x (List.mem_cons_of_mem _ hx)) _ (ih a (hm a (List.mem_cons_self ..)) n left h1)
        · intro h; cases h
    rw [smallT]
    split
    · intro h; cases h
    · rename_i hc
      split
      · exact hk kids (fun x hx => hx) _ (by omega)
      · intro h; cases h
theorem smallT_down : ∀ t n left, (smallT n t left).2 ≤ left - 1 := fun t n left => (smallT_le t n left).1

set_option maxRecDepth 100000 in
set_option maxHeartbeats 2000000 in
theorem small_any (w0 : World) : ∀ (x : Tree) (n : Nat) (left : Int) (cs : List Value) (L : Nat) (w : World), NodeR w0 cs x → Below w0.heap.size w0 w → w0.heap.size ≤ L → n ≤ 1000 → 0 ≤ left → left ≤ 1000 → Boxed w L 3 (.int .i64 left) →
    Calls Tryz.prog 16 #[.agg cs.toArray, .int .i64 (n : Int), .pointer (some ⟨L, 0, none⟩)] w fun e w' => e = .returned (.bool (smallT n x left).1) ∧ Boxed w' L 3 (.int .i64 (smallT n x left).2) ∧ But L w w' := by
  refine Tree.ind fun k t ks kids ln ih n left cs L w ha hw0 hL0 hn h0 h1000 hL => ?_
  obtain ⟨vk, vc, rfl, _, ht, hks, _, hk1, hc1⟩ := ha.parts
  have hLlt := hL.lt
  obtain ⟨vka, vkc, rfl, hv1, hv2⟩ := hc1.form
  obtain ⟨ka, kc, rfl⟩ := hk1.form
  have hb0 : Below w.heap.size w (w.alloc (.cells #[.int .u8 (k : Int), .string t, .slice ka ks.length kc, .slice vka kids.length vkc, .int .i64 ln] 25)) := (Below.refl _ w).alloc (Nat.le_refl _) _
  have HL0 := Lib.hid (hL.alloc (.cells #[.int .u8 (k : Int), .string t, .slice ka ks.length kc, .slice vka kids.length vkc, .int .i64 ln] 25))
  have g1 := World.alloc_heap_new w (.cells #[.int .u8 (k : Int), .string t, .slice ka ks.length kc, .slice vka kids.length vkc, .int .i64 ln] 25)
  have hsz0 : (w.alloc (.cells #[.int .u8 (k : Int), .string t, .slice ka ks.length kc, .slice vka kids.length vkc, .int .i64 ln] 25)).heap.size = w.heap.size + 1 := by simp
  have hkl := rds_len2 hk1
  unfold maxLen at ht
  have IH := Lib.hid ih
  have HKS := Lib.hid hks
  have HK1 := Lib.hid hk1
  have HC1 := Lib.hid hc1
  clear ha hk1 hc1 ih hL hks
  generalize hwz : w.alloc (.cells #[.int .u8 (k : Int), .string t, .slice ka ks.length kc, .slice vka kids.length vkc, .int .i64 ln] 25) = wz at *
  have q0 := HL0.out.cell
  have q1 := HL0.out.frozen
  have hu1 : But L w (wz.setCell ⟨L, 0, none⟩ (.int .i64 (left - 1))) := (But.of_below hb0).trans But.set
  have hl1 := HL0.out.set (.int .i64 (left - 1))
  have g2 := (But.set (B := L) (i := 0) (w := wz) (x := .int .i64 (left - 1))).block _ (by omega) (by omega) |>.trans g1
  obtain ⟨hlt1, hlt2⟩ : (∃ y, y = wz.setCell ⟨L, 0, none⟩ (.int .i64 (left - 1))) ∧ True := ⟨⟨_, rfl⟩, trivial⟩
  obtain ⟨wy, hwy⟩ := hlt1
  rw [← hwy] at hu1 hl1 g2
  have q2 := hl1.cell
  obtain ⟨p0, p1, p2, p3, p4⟩ := cells5 g2
  have HL1 := Lib.hid hl1
  have HU1 := Lib.hid hu1
  have G2 := Lib.hid g2
  have hW1 : Below w0.heap.size w0 wy := hw0.trans (hu1.toBelow hw0.size hL0)
  have HW1 := Lib.hid hW1
  clear g1 g2 hl1 hu1 hlt2
  have hwy' := hwy.symm
  have HY := Lib.hid hwy'
  clear hwy
  have hfin : ∀ r : Int, r = left - 1 → Boxed wy L 3 (.int .i64 r) ∧ But L w wy := fun r hr => by subst hr; exact ⟨HL1.out, HU1.out⟩
  have HF := Lib.hid hfin
  clear hfin hW1
  cases n with
  | zero =>
    have E : Hid ((smallT 0 (Tree.mk k t ks kids ln) left).1 = false ∧ (smallT 0 (Tree.mk k t ks kids ln) left).2 = left - 1) := Lib.hid ⟨rfl, rfl⟩
    rw [E.out.1, E.out.2]
    go_enter Tryz.func16, Tryz.ntmps16
    go_wp2
    go_ret
    exact ⟨rfl, HF.out _ rfl⟩
  | succ n =>
    obtain ⟨lev, hlev⟩ : ∃ lev : Int, ((n + 1 : Nat) : Int) = lev := ⟨_, rfl⟩
    have hlv1 : 1 ≤ lev := by omega
    have hlv2 : lev ≤ 1000 := by omega
    have hlv : lev - 1 = (n : Int) := by omega
    have HLV := Lib.hid hlv
    rw [hlev, smallT]
    clear hlev hlv
    by_cases c1 : left - 1 < 0
    · have E := Lib.hid (show (left - 1 < 0 ∨ 5000 < t.size ∨ 200 < ks.length) from .inl c1)
      rw [if_pos E.out]
      go_enter Tryz.func16, Tryz.ntmps16
      go_wp2
      go_ret
      exact ⟨rfl, HF.out _ rfl⟩
    by_cases c2 : 5000 < t.size
    · have E := Lib.hid (show (left - 1 < 0 ∨ 5000 < t.size ∨ 200 < ks.length) from .inr (.inl c2))
      rw [if_pos E.out]
      go_enter Tryz.func16, Tryz.ntmps16
      go_wp2
      go_ret
      exact ⟨rfl, HF.out _ rfl⟩
    by_cases c3 : 200 < ks.length
    · have E := Lib.hid (show (left - 1 < 0 ∨ 5000 < t.size ∨ 200 < ks.length) from .inr (.inr c3))
      rw [if_pos E.out]
      go_enter Tryz.func16, Tryz.ntmps16
      go_wp2
      go_ret
      exact ⟨rfl, HF.out _ rfl⟩
    have E := Lib.hid (show ¬ (left - 1 < 0 ∨ 5000 < t.size ∨ 200 < ks.length) by omega)
    rw [if_neg E.out]
    generalize hres : (if ks.all (fun s => decide (s.size ≤ 200)) = true then smallTs n kids (left - 1) else (false, left - 1)) = res
    have HR := Lib.hid hres
    clear hres
    have d1 : decide (lev < 1) = false := by simp; omega
    have d2 : decide ((5000 : Int) < (t.size : Int)) = false := by simp; omega
    have d3 : decide ((200 : Int) < (ks.length : Int)) = false := by simp; omega
    go_enter Tryz.func16, Tryz.ntmps16
    go_wp2
    go_loop [7] (fun i => ∃ j : Nat, j ≤ ks.length ∧ i = .int .i64 j ∧ Hid (∀ s ∈ ks.take j, s.size ≤ 200)) (fun i => ks.length - (intOf i).toNat)
    case atStart => exact ⟨0, by omega, rfl, Lib.hid (by simp)⟩
    case round =>
      obtain ⟨j, hj, rfl, HE⟩ := hrel
      by_cases hlt : j < ks.length
      · obtain ⟨g, off, rfl, z1, z2, c1⟩ := strs_at (HK1.out.below HW1.out) hlt
        have hss := HKS.out _ (List.getElem_mem hlt)
        unfold maxLen at hss
        have hj0 : (0 : Int) ≤ (j : Int) := by omega
        have hj1 : (j : Int) < (ks.length : Int) := by omega
        by_cases hs : 200 < ks[j].size
        · have d4 : decide ((200 : Int) < (ks[j].size : Int)) = true := by simp; omega
          have E2 : Hid (ks.all (fun s => decide (s.size ≤ 200)) = false) := Lib.hid (by
            rw [Bool.eq_false_iff]; intro h
            have := List.all_eq_true.1 h _ (List.getElem_mem hlt)
            simp at this; omega)
          have HRE : Hid (res = (false, left - 1)) := Lib.hid (by rw [← HR.out, E2.out]; rfl)
          clear E2 hss
          generalize ks[j] = s1 at *
          go_wp2
          go_ret
          exact ⟨by rw [HRE.out]; rfl, HF.out _ (by rw [HRE.out])⟩
        · have d4 : decide ((200 : Int) < (ks[j].size : Int)) = false := by simp; omega
          have E2 : Hid (∀ s ∈ ks.take (j + 1), s.size ≤ 200) := Lib.hid (by
            rw [List.take_succ_eq_append_getElem hlt]
            intro s hs'
            rcases List.mem_append.1 hs' with h | h
            · exact HE.out s h
            · rw [List.mem_singleton.1 h]; omega)
          clear hss hs
          generalize ks[j] = s1 at *
          go_wp2
          go_round
          case rel => exact ⟨j + 1, by omega, by go_num, E2⟩
          case measure => simp [intOf]; omega
      · have E2 : Hid (ks.all (fun s => decide (s.size ≤ 200)) = true) := Lib.hid (by
          have h := HE.out
          rw [List.take_of_length_le (by omega)] at h
          exact List.all_eq_true.2 fun s hs => by simpa using h s hs)
        have HRE : Hid (res = smallTs n kids (left - 1)) := Lib.hid (by rw [← HR.out, E2.out]; rfl)
        clear E2 HE HR
        go_wp2
        go_loopw [8] (fun i wr => ∃ (m : Nat) (r : Int), m ≤ kids.length ∧ i = .int .i64 m ∧ Hid (smallTs n (kids.take m) (left - 1) = (true, r)) ∧ 0 ≤ r ∧ r ≤ 1000 ∧ Hid (Boxed wr L 3 (.int .i64 r)) ∧ Hid (But L wy wr)) (fun i _ => kids.length - (intOf i).toNat)
        case atStart => exact ⟨0, left - 1, by omega, rfl, Lib.hid rfl, by omega, by omega, HL1, Lib.hid (But.of_below (Below.refl _ _))⟩
        case round =>
          obtain ⟨m, r, hm, rfl, HS, hr0, hr1, HB, HU⟩ := hrel
          have hwl : L < wy.heap.size := HL1.out.lt
          have hwb : w.heap.size < wy.heap.size := (Array.getElem?_eq_some_iff.1 G2.out).1
          obtain ⟨-, -, -, p3, -⟩ := cells5 ((HU.out.block _ hwb (by omega)).trans G2.out)
          have hWr : Below w0.heap.size w0 wr := HW1.out.trans (HU.out.toBelow HW1.out.size hL0)
          have HWr := Lib.hid hWr
          by_cases hlt2 : m < kids.length
          · obtain ⟨g, off, cap, ka1, kc1, ba1, bc1, he, z1, z2, hn, c0, c1', c2', c3', c4'⟩ := (HC1.out.below hWr).at hlt2
            cases he
            obtain ⟨g0, off0, cap0, ka0, kc0, ba0, bc0, he0, _, _, hn0, x0, x1, x2, x3, x4⟩ := HC1.out.at hlt2
            cases he0
            rw [cellB hWr x0] at c0
            rw [cellB hWr x1] at c1'
            rw [cellB hWr x2] at c2'
            rw [cellB hWr x3] at c3'
            rw [cellB hWr x4] at c4'
            cases c2'; cases c3'
            have HIH := Lib.hid (IH.out _ (List.getElem_mem hlt2) n r _ L wr hn0 hWr hL0 (by omega) hr0 hr1 HB.out)
            have HGO := Lib.hid (fun r' => smallTs_go (n := n) (x := left - 1) (r := r) (r' := r') hlt2 HS.out)
            have HNO := Lib.hid (fun r' => smallTs_no (n := n) (x := left - 1) (r := r) (r' := r') hlt2 HS.out)
            have HPS := Lib.hid (smallT_pos kids[m] n r)
            have HDN := Lib.hid (smallT_down kids[m] n r)
            have c0 := cellB hWr x0
            have c1 := cellB hWr x1
            have c2 := cellB hWr x2
            have c3 := cellB hWr x3
            have c4 := cellB hWr x4
            clear x0 x1 x2 x3 x4 hn hn0 hWr
            obtain ⟨sb, r2, hsb⟩ : ∃ sb r2, smallT n kids[m] r = (sb, r2) := ⟨_, _, rfl⟩
            rw [hsb] at HIH HPS HDN
            have HSB := Lib.hid hsb
            have hm0 : (0 : Int) ≤ (m : Int) := by omega
            have hm1 : (m : Int) < (kids.length : Int) := by omega
            clear hsb
            have hlv' := HLV.out
            go_wp2_with fail
            refine HIH.out.mono ?_
            rintro e w4 ⟨rfl, hb4, hu4⟩
            have hpd := HDN.out
            cases sb with
            | true =>
              have HS2 := Lib.hid (HGO.out r2 HSB.out)
              have hps := HPS.out rfl
              go_wp2
              go_roundw
              case rel => exact ⟨m + 1, r2, by omega, by go_num, HS2, hps, by omega, Lib.hid hb4, Lib.hid (HU.out.trans hu4)⟩
              case measure => simp [intOf]; omega
            | false =>
              have HS2 := Lib.hid (HNO.out r2 HSB.out)
              go_wp2
              go_ret
              exact ⟨by rw [HRE.out, HS2.out]; rfl, by rw [HRE.out, HS2.out]; exact hb4, (HU1.out.trans HU.out).trans hu4⟩
          · have E2 : Hid (smallTs n kids (left - 1) = (true, r)) := Lib.hid (by
              have h := HS.out
              rwa [List.take_of_length_le (by omega)] at h)
            go_wp2
            go_ret
            exact ⟨by rw [HRE.out, E2.out]; rfl, by rw [HRE.out, E2.out]; exact HB.out, HU1.out.trans HU.out⟩

set_option maxRecDepth 100000 in
theorem SmallT_any (x : Tree) (cs : List Value) (w : World) (h : NodeR w cs x) :
    Calls Tryz.prog 6 #[.agg cs.toArray] w fun e w' => e = .returned (.bool (smallTB x)) ∧ Below w.heap.size w w' := by
  obtain ⟨ka, kc, ba, bc, rfl⟩ := h.cells
  have H := Lib.hid h
  clear h
  have HS : Hid (∀ (W : World) (L : Nat), Below w.heap.size w W → w.heap.size ≤ L → Boxed W L 3 (.int .i64 150) → Calls Tryz.prog 16 #[.agg #[.int .u8 (x.kind : Int), .string x.text, .slice ka x.keys.length kc, .slice ba x.kids.length bc, .int .i64 x.line], .int .i64 18, .pointer (some ⟨L, 0, none⟩)] W fun e w' => e = .returned (.bool (smallTB x)) ∧ But L W w') :=
    Lib.hid (fun W L h1 h2 h3 => (small_any w x 18 150 _ L W H.out h1 h2 (by omega) (by omega) (by omega) h3).mono fun e w' ⟨h4, _, h5⟩ => ⟨h4, h5⟩)
  go_enter Tryz.func6, Tryz.ntmps6
  go_wp2_with fail
  have hb0 := (Below.refl w.heap.size w).alloc (Nat.le_refl _) (.cells #[.int .u8 (x.kind : Int), .string x.text, .slice ka x.keys.length kc, .slice ba x.kids.length bc, .int .i64 x.line] 25)
  have hb1 := hb0.alloc (by simp) (.cells #[.int .i64 150] 3)
  refine (HS.out _ (w.heap.size + 1) hb1 (by omega) (by
    have := Boxed.new (w.alloc (.cells #[.int .u8 (x.kind : Int), .string x.text, .slice ka x.keys.length kc, .slice ba x.kids.length bc, .int .i64 x.line] 25)) 3 (.int .i64 150)
    rwa [World.size_alloc] at this)).mono ?_
  rintro e w4 ⟨rfl, hu⟩
  go_wp2
  go_ret
  exact ⟨rfl, hb1.trans (hu.toBelow (by simp; omega) (by omega))⟩
end Go.Proofs.YtdhgcgejdoedbaaGreatDoor
