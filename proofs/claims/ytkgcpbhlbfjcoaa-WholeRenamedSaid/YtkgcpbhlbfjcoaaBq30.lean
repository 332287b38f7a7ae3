/-
  def.Same: the walk of the comparison of steps, slices.EqualFunc on steps, and of definitions.
-/
import Derived.Test.YtkgcpbhlbfjcoaaBq21
import Derived.Test.YtkgcpbhlbfjcoaaBq25
import Derived.Test.YtkgcpbhlbfjcoaaBq29
namespace Go.Proofs.Ytkgcpbhlbfjcoaa
open Go.RowKit Go.WideShapes

set_option maxRecDepth 100000 in
set_option maxHeartbeats 4000000 in
theorem dSame1_any (s t : StepD) (cs ct : List Value) (w : World) (h : StepX w cs s) (h' : StepX w ct t) :
    Calls Try.prog 49 #[.agg cs.toArray, .agg ct.toArray] w fun e w' => e = .returned (.bool (sameS s t)) ∧ Below w.heap.size w w' := by
  obtain ⟨a1, c1, k1, d1, b1, e1, h⟩ := h
  obtain ⟨a2, c2, k2, d2, b2, e2, h'⟩ := h'
  obtain ⟨rfl, -, hva, hna⟩ := h
  obtain ⟨rfl, -, hvb, hnb⟩ := h'
  have hb0 : Below w.heap.size w ((w.alloc (.cells #[.string s.name, .string s.action, .string s.undo, .slice a1 s.after.length c1, .int .i64 s.most, .int .i64 s.first, .int .i64 s.factor, .int .i64 s.limit, .int .u8 (s.note.kind : Int), .string s.note.text, .slice k1 s.note.keys.length d1, .slice b1 s.note.kids.length e1, .int .i64 s.note.line] 45)).alloc (.cells #[.string t.name, .string t.action, .string t.undo, .slice a2 t.after.length c2, .int .i64 t.most, .int .i64 t.first, .int .i64 t.factor, .int .i64 t.limit, .int .u8 (t.note.kind : Int), .string t.note.text, .slice k2 t.note.keys.length d2, .slice b2 t.note.kids.length e2, .int .i64 t.note.line] 45)) := ((Below.refl _ w).alloc (Nat.le_refl _) _).alloc (by simp) _
  have HVA := Lib.hid (hva.below hb0)
  have HVB := Lib.hid (hvb.below hb0)
  have HNA := Lib.hid (hna.belowW hb0)
  have HNB := Lib.hid (hnb.belowW hb0)
  have g1 : ((w.alloc (.cells #[.string s.name, .string s.action, .string s.undo, .slice a1 s.after.length c1, .int .i64 s.most, .int .i64 s.first, .int .i64 s.factor, .int .i64 s.limit, .int .u8 (s.note.kind : Int), .string s.note.text, .slice k1 s.note.keys.length d1, .slice b1 s.note.kids.length e1, .int .i64 s.note.line] 45)).alloc (.cells #[.string t.name, .string t.action, .string t.undo, .slice a2 t.after.length c2, .int .i64 t.most, .int .i64 t.first, .int .i64 t.factor, .int .i64 t.limit, .int .u8 (t.note.kind : Int), .string t.note.text, .slice k2 t.note.keys.length d2, .slice b2 t.note.kids.length e2, .int .i64 t.note.line] 45)).heap[w.heap.size]? = some (.cells #[.string s.name, .string s.action, .string s.undo, .slice a1 s.after.length c1, .int .i64 s.most, .int .i64 s.first, .int .i64 s.factor, .int .i64 s.limit, .int .u8 (s.note.kind : Int), .string s.note.text, .slice k1 s.note.keys.length d1, .slice b1 s.note.kids.length e1, .int .i64 s.note.line] 45 (0, 0)) := (Below.heap_alloc _ _ _ (by simp)).trans (World.alloc_heap_new w _)
  have g2 : ((w.alloc (.cells #[.string s.name, .string s.action, .string s.undo, .slice a1 s.after.length c1, .int .i64 s.most, .int .i64 s.first, .int .i64 s.factor, .int .i64 s.limit, .int .u8 (s.note.kind : Int), .string s.note.text, .slice k1 s.note.keys.length d1, .slice b1 s.note.kids.length e1, .int .i64 s.note.line] 45)).alloc (.cells #[.string t.name, .string t.action, .string t.undo, .slice a2 t.after.length c2, .int .i64 t.most, .int .i64 t.first, .int .i64 t.factor, .int .i64 t.limit, .int .u8 (t.note.kind : Int), .string t.note.text, .slice k2 t.note.keys.length d2, .slice b2 t.note.kids.length e2, .int .i64 t.note.line] 45)).heap[w.heap.size + 1]? = some (.cells #[.string t.name, .string t.action, .string t.undo, .slice a2 t.after.length c2, .int .i64 t.most, .int .i64 t.first, .int .i64 t.factor, .int .i64 t.limit, .int .u8 (t.note.kind : Int), .string t.note.text, .slice k2 t.note.keys.length d2, .slice b2 t.note.kids.length e2, .int .i64 t.note.line] 45 (0, 0)) := by
    have := World.alloc_heap_new (w.alloc (.cells #[.string s.name, .string s.action, .string s.undo, .slice a1 s.after.length c1, .int .i64 s.most, .int .i64 s.first, .int .i64 s.factor, .int .i64 s.limit, .int .u8 (s.note.kind : Int), .string s.note.text, .slice k1 s.note.keys.length d1, .slice b1 s.note.kids.length e1, .int .i64 s.note.line] 45)) (.cells #[.string t.name, .string t.action, .string t.undo, .slice a2 t.after.length c2, .int .i64 t.most, .int .i64 t.first, .int .i64 t.factor, .int .i64 t.limit, .int .u8 (t.note.kind : Int), .string t.note.text, .slice k2 t.note.keys.length d2, .slice b2 t.note.kids.length e2, .int .i64 t.note.line] 45)
    rwa [World.size_alloc] at this
  clear hva hvb hna hnb
  generalize hwz : (w.alloc (.cells #[.string s.name, .string s.action, .string s.undo, .slice a1 s.after.length c1, .int .i64 s.most, .int .i64 s.first, .int .i64 s.factor, .int .i64 s.limit, .int .u8 (s.note.kind : Int), .string s.note.text, .slice k1 s.note.keys.length d1, .slice b1 s.note.kids.length e1, .int .i64 s.note.line] 45)).alloc (.cells #[.string t.name, .string t.action, .string t.undo, .slice a2 t.after.length c2, .int .i64 t.most, .int .i64 t.first, .int .i64 t.factor, .int .i64 t.limit, .int .u8 (t.note.kind : Int), .string t.note.text, .slice k2 t.note.keys.length d2, .slice b2 t.note.kids.length e2, .int .i64 t.note.line] 45) = wz at *
  obtain ⟨p0, p1, p2, p3, p4, p5, p6, p7, p8, p9, p10, p11, p12⟩ := cells13q g1
  obtain ⟨r0, r1, r2, r3, r4, r5, r6, r7, r8, r9, r10, r11, r12⟩ := cells13q g2
  clear g1 g2
  by_cases n1 : s.name = t.name
  case neg =>
    have q_n1 : (s.name.toList == t.name.toList) = false := beqS_no n1
    have F : Hid (sameS s t = false) := Lib.hid (by simp [sameS, n1])
    clear n1
    go_enter Try.func49, Try.ntmps49
    go_wp2
    go_ret
    exact ⟨by rw [F.out]; rfl, hb0⟩
  have q_n1 : (s.name.toList == t.name.toList) = true := beqS_yes n1
  have Hn1 := Lib.hid n1
  clear n1
  by_cases n2 : s.action = t.action
  case neg =>
    have q_n2 : (s.action.toList == t.action.toList) = false := beqS_no n2
    have F : Hid (sameS s t = false) := Lib.hid (by simp [sameS, n2])
    clear n2
    go_enter Try.func49, Try.ntmps49
    go_wp2
    go_ret
    exact ⟨by rw [F.out]; rfl, hb0⟩
  have q_n2 : (s.action.toList == t.action.toList) = true := beqS_yes n2
  have Hn2 := Lib.hid n2
  clear n2
  by_cases n3 : s.undo = t.undo
  case neg =>
    have q_n3 : (s.undo.toList == t.undo.toList) = false := beqS_no n3
    have F : Hid (sameS s t = false) := Lib.hid (by simp [sameS, n3])
    clear n3
    go_enter Try.func49, Try.ntmps49
    go_wp2
    go_ret
    exact ⟨by rw [F.out]; rfl, hb0⟩
  have q_n3 : (s.undo.toList == t.undo.toList) = true := beqS_yes n3
  have Hn3 := Lib.hid n3
  clear n3
  have HT := Lib.hid (EqualS_any s.after t.after _ _ _ HVA.out HVB.out)
  have E0 : Hid (sameS s t = (decide (s.after = t.after) && (decide (s.most = t.most) && decide (s.first = t.first) && decide (s.factor = t.factor)) && decide (s.limit = t.limit) && sameT s.note t.note)) := Lib.hid (by simp [sameS, Hn1.out, Hn2.out, Hn3.out])
  rw [E0.out]
  clear Hn1 Hn2 Hn3 E0
  generalize decide (s.after = t.after) = ab at *
  have HSB := Lib.hid (bSame_any s.note t.note)
  go_enter Try.func49, Try.ntmps49
  go_wp2_with fail
  refine HT.out.mono ?_
  rintro e w1 ⟨rfl, hb1⟩
  have hbw1 := bthen hb0 (Nat.le_refl _) hb1
  have p4 := cellB hb1 p4
  have p5 := cellB hb1 p5
  have p6 := cellB hb1 p6
  have p7 := cellB hb1 p7
  have p8 := cellB hb1 p8
  have p9 := cellB hb1 p9
  have p10 := cellB hb1 p10
  have p11 := cellB hb1 p11
  have p12 := cellB hb1 p12
  have r4 := cellB hb1 r4
  have r5 := cellB hb1 r5
  have r6 := cellB hb1 r6
  have r7 := cellB hb1 r7
  have r8 := cellB hb1 r8
  have r9 := cellB hb1 r9
  have r10 := cellB hb1 r10
  have r11 := cellB hb1 r11
  have r12 := cellB hb1 r12
  clear p0 p1 p2 p3 r0 r1 r2 r3
  cases ab with
  | false =>
    go_wp2
    go_ret
    exact ⟨rfl, hbw1⟩
  | true =>
    by_cases m1 : s.most = t.most
    case neg =>
      have F : Hid ((true && (decide (s.most = t.most) && decide (s.first = t.first) && decide (s.factor = t.factor)) && decide (s.limit = t.limit) && sameT s.note t.note) = false) := Lib.hid (by simp [m1])
      go_wp2
      go_ret
      exact ⟨by rw [F.out]; rfl, hbw1⟩
    by_cases m2 : s.first = t.first
    case neg =>
      have F : Hid ((true && (decide (s.most = t.most) && decide (s.first = t.first) && decide (s.factor = t.factor)) && decide (s.limit = t.limit) && sameT s.note t.note) = false) := Lib.hid (by simp [m2])
      go_wp2
      go_ret
      exact ⟨by rw [F.out]; rfl, hbw1⟩
    by_cases m3 : s.factor = t.factor
    case neg =>
      have F : Hid ((true && (decide (s.most = t.most) && decide (s.first = t.first) && decide (s.factor = t.factor)) && decide (s.limit = t.limit) && sameT s.note t.note) = false) := Lib.hid (by simp [m3])
      go_wp2
      go_ret
      exact ⟨by rw [F.out]; rfl, hbw1⟩
    by_cases m4 : s.limit = t.limit
    case neg =>
      have d4 : (s.limit == t.limit) = false := by simp [m4]
      have F : Hid ((true && (decide (s.most = t.most) && decide (s.first = t.first) && decide (s.factor = t.factor)) && decide (s.limit = t.limit) && sameT s.note t.note) = false) := Lib.hid (by simp [m4])
      go_wp2
      go_ret
      exact ⟨by rw [F.out]; rfl, hbw1⟩
    have d4 : (s.limit == t.limit) = true := by simp [m4]
    have F : Hid ((true && (decide (s.most = t.most) && decide (s.first = t.first) && decide (s.factor = t.factor)) && decide (s.limit = t.limit) && sameT s.note t.note) = sameT s.note t.note) := Lib.hid (by simp [m1, m2, m3, m4])
    go_wp2_with fail
    refine (HSB.out _ _ _ (HNA.out.belowW hb1) (HNB.out.belowW hb1)).mono ?_
    rintro e w2 ⟨rfl, hb2⟩
    go_wp2
    go_ret
    exact ⟨by rw [F.out]; rfl, bthen hbw1 (Nat.le_refl _) hb2⟩

theorem sameSs_go {l m : List StepD} {j : Nat} (h1 : j < l.length) (h2 : j < m.length) (h : sameSs (l.take j) (m.take j) = true) : sameS l[j] m[j] = true → sameSs (l.take (j + 1)) (m.take (j + 1)) = true := by
  intro hs
  rw [sameSs_iff] at h ⊢
  refine ⟨by simp; omega, fun i a b ha hb => ?_⟩
  have hi := (List.getElem?_eq_some_iff.1 ha).1
  simp at hi
  by_cases e : i = j
  · subst e
    rw [List.getElem?_take_of_lt (by omega), List.getElem?_eq_getElem h1] at ha
    rw [List.getElem?_take_of_lt (by omega), List.getElem?_eq_getElem h2] at hb
    cases ha; cases hb; exact hs
  · rw [List.getElem?_take_of_lt (by omega)] at ha hb
    exact h.2 i a b (by rw [List.getElem?_take_of_lt (by omega)]; exact ha) (by rw [List.getElem?_take_of_lt (by omega)]; exact hb)
theorem sameSs_no {l m : List StepD} {j : Nat} (h1 : j < l.length) (h2 : j < m.length) : sameS l[j] m[j] = false → sameSs l m = false := by
  intro hs
  rw [Bool.eq_false_iff]
  intro h
  have := (sameSs_iff.1 h).2 j _ _ (List.getElem?_eq_getElem h1) (List.getElem?_eq_getElem h2)
  rw [hs] at this; cases this
theorem sameSs_all {l m : List StepD} {j : Nat} (he : l.length = m.length) (hj : ¬ j < l.length) (h : sameSs (l.take j) (m.take j) = true) : sameSs l m = true := by
  rwa [List.take_of_length_le (by omega), List.take_of_length_le (by omega)] at h
theorem sameSs_len {l m : List StepD} (h : sameSs l m = true) : l.length = m.length := (sameSs_iff.1 h).1

set_option maxRecDepth 100000 in
set_option maxHeartbeats 4000000 in
theorem EqualFuncD_any (l m : List StepD) (v u : Value) (w : World) (h : StepsR w v l) (h' : StepsR w u m) :
    Calls Try.prog 48 #[v, u, .func (.func 49) #[] #[]] w fun e w' => e = .returned (.bool (sameSs l m)) ∧ Below w.heap.size w w' := by
  have HC1 := Lib.hid h
  have HC2 := Lib.hid h'
  obtain ⟨va, vc, rfl, hv1, hv2⟩ := h.form
  obtain ⟨vb, vd, rfl, hv3, hv4⟩ := h'.form
  clear h h'
  by_cases e4 : l.length = m.length
  · have d4 : ((l.length : Int) != (m.length : Int)) = false := by simp [e4]
    have E4 := Lib.hid e4
    clear e4
    go_enter Try.func48, Try.ntmps48
    go_wp2
    go_loopw [17] (fun i wr => ∃ j : Nat, j ≤ l.length ∧ i = .int .i64 j ∧ Hid (sameSs (l.take j) (m.take j) = true) ∧ Hid (Below w.heap.size w wr)) (fun i _ => l.length - (intOf i).toNat)
    case atStart => exact ⟨0, by omega, rfl, Lib.hid rfl, Lib.hid (Below.refl _ _)⟩
    case round =>
      obtain ⟨j, hj, rfl, HE, HB⟩ := hrel
      have hbr := HB.out
      by_cases hlt : j < l.length
      · have hlt2 : j < m.length := by have := E4.out; omega
        obtain ⟨g, off, cap, aa1, ac1, ka1, kc1, ba1, bc1, he, q1, q2, hn, z0, z1, z2, z3, z4, z5, z6, z7, z8, z9, z10, z11, z12⟩ := (HC1.out.below hbr).at hlt
        obtain ⟨g', off', cap', aa2, ac2, ka2, kc2, ba2, bc2, he', q1', q2', hn', y0, y1, y2, y3, y4, y5, y6, y7, y8, y9, y10, y11, y12⟩ := (HC2.out.below hbr).at hlt2
        cases he
        cases he'
        have HIH := Lib.hid (fun (W : World) (hW : Below wr.heap.size wr W) => dSame1_any l[j] m[j] _ _ W ⟨_, _, _, _, _, _, hn.below hW⟩ ⟨_, _, _, _, _, _, hn'.below hW⟩)
        have HGO := Lib.hid (sameSs_go hlt hlt2 HE.out)
        have HNO := Lib.hid (sameSs_no hlt hlt2)
        have hj0 : (0 : Int) ≤ (j : Int) := by omega
        have hj1 : (j : Int) < (l.length : Int) := by omega
        have hj2 : (j : Int) < (m.length : Int) := by omega
        clear hn hn'
        generalize sameS l[j] m[j] = sb at *
        have hbA : Below wr.heap.size wr (wr.alloc (.cells #[.string l[j].name, .string l[j].action, .string l[j].undo, .slice aa1 l[j].after.length ac1, .int .i64 l[j].most, .int .i64 l[j].first, .int .i64 l[j].factor, .int .i64 l[j].limit, .int .u8 (l[j].note.kind : Int), .string l[j].note.text, .slice ka1 l[j].note.keys.length kc1, .slice ba1 l[j].note.kids.length bc1, .int .i64 l[j].note.line] 45)) := (Below.refl _ _).alloc (Nat.le_refl _) _
        have y0 := cellB hbA y0
        have y1 := cellB hbA y1
        have y2 := cellB hbA y2
        have y3 := cellB hbA y3
        have y4 := cellB hbA y4
        have y5 := cellB hbA y5
        have y6 := cellB hbA y6
        have y7 := cellB hbA y7
        have y8 := cellB hbA y8
        have y9 := cellB hbA y9
        have y10 := cellB hbA y10
        have y11 := cellB hbA y11
        have y12 := cellB hbA y12
        clear hbA
        go_wp2_with fail
        refine (HIH.out _ (((Below.refl _ _).alloc (Nat.le_refl _) _).alloc (by simp) _)).mono ?_
        rintro e w4 ⟨rfl, hb4⟩
        have hbw4 : Below w.heap.size w w4 := hbr.trans (((((Below.refl _ wr).alloc (Nat.le_refl _) _).alloc (by simp) _).trans (hb4.mono (by simp; omega))).mono hbr.size)
        clear z0 y0 z1 y1 z2 y2 z3 y3 z4 y4 z5 y5 z6 y6 z7 y7 z8 y8 z9 y9 z10 y10 z11 y11 z12 y12
        cases sb with
        | true =>
          have HS2 := Lib.hid (HGO.out rfl)
          go_wp2
          go_roundw
          case rel => exact ⟨j + 1, by omega, by go_num, HS2, Lib.hid hbw4⟩
          case measure => simp [intOf]; omega
        | false =>
          have HS2 := Lib.hid (HNO.out rfl)
          go_wp2
          go_ret
          exact ⟨by rw [HS2.out]; rfl, hbw4⟩
      · have HS2 := Lib.hid (sameSs_all E4.out hlt HE.out)
        go_wp2
        go_ret
        exact ⟨by rw [HS2.out]; rfl, hbr⟩
  · have d4 : ((l.length : Int) != (m.length : Int)) = true := by simp; omega
    have F : Hid (sameSs l m = false) := Lib.hid (by rw [Bool.eq_false_iff]; intro h; exact e4 (sameSs_len h))
    clear e4
    go_enter Try.func48, Try.ntmps48
    go_wp2
    go_ret
    exact ⟨by rw [F.out]; rfl, Below.refl _ _⟩

set_option maxRecDepth 100000 in
set_option maxHeartbeats 4000000 in
theorem dSame_any (a b : DefD) (ca cb : List Value) (sa sb : Option Addr) (sc sd : Nat) (w : World) (h : DefR w ca a sa sc) (h' : DefR w cb b sb sd) :
    Calls Try.prog 12 #[.agg ca.toArray, .agg cb.toArray] w fun e w' => e = .returned (.bool (sameD a b)) ∧ Below w.heap.size w w' := by
  obtain ⟨rfl, -, -, hva⟩ := h
  obtain ⟨rfl, -, -, hvb⟩ := h'
  have hb0 : Below w.heap.size w ((w.alloc (.cells #[.string a.name, .string a.text, .slice sa a.steps.length sc] 24)).alloc (.cells #[.string b.name, .string b.text, .slice sb b.steps.length sd] 24)) := ((Below.refl _ w).alloc (Nat.le_refl _) _).alloc (by simp) _
  have HVA := Lib.hid (hva.below hb0)
  have HVB := Lib.hid (hvb.below hb0)
  have g1 : ((w.alloc (.cells #[.string a.name, .string a.text, .slice sa a.steps.length sc] 24)).alloc (.cells #[.string b.name, .string b.text, .slice sb b.steps.length sd] 24)).heap[w.heap.size]? = some (.cells #[.string a.name, .string a.text, .slice sa a.steps.length sc] 24 (0, 0)) := (Below.heap_alloc _ _ _ (by simp)).trans (World.alloc_heap_new w _)
  have g2 : ((w.alloc (.cells #[.string a.name, .string a.text, .slice sa a.steps.length sc] 24)).alloc (.cells #[.string b.name, .string b.text, .slice sb b.steps.length sd] 24)).heap[w.heap.size + 1]? = some (.cells #[.string b.name, .string b.text, .slice sb b.steps.length sd] 24 (0, 0)) := by
    have := World.alloc_heap_new (w.alloc (.cells #[.string a.name, .string a.text, .slice sa a.steps.length sc] 24)) (.cells #[.string b.name, .string b.text, .slice sb b.steps.length sd] 24)
    rwa [World.size_alloc] at this
  clear hva hvb
  generalize hwz : (w.alloc (.cells #[.string a.name, .string a.text, .slice sa a.steps.length sc] 24)).alloc (.cells #[.string b.name, .string b.text, .slice sb b.steps.length sd] 24) = wz at *
  obtain ⟨p0, p1, p2, -, -, -⟩ := cells3h g1
  obtain ⟨r0, r1, r2, -, -, -⟩ := cells3h g2
  clear g1 g2
  by_cases n1 : a.name = b.name
  case neg =>
    have q_n1 : (a.name.toList == b.name.toList) = false := beqS_no n1
    have F : Hid (sameD a b = false) := Lib.hid (by simp [sameD, n1])
    clear n1
    go_enter Try.func12, Try.ntmps12
    go_wp2
    go_ret
    exact ⟨by rw [F.out]; rfl, hb0⟩
  have q_n1 : (a.name.toList == b.name.toList) = true := beqS_yes n1
  have Hn1 := Lib.hid n1
  clear n1
  by_cases n2 : a.text = b.text
  case neg =>
    have q_n2 : (a.text.toList == b.text.toList) = false := beqS_no n2
    have F : Hid (sameD a b = false) := Lib.hid (by simp [sameD, n2])
    clear n2
    go_enter Try.func12, Try.ntmps12
    go_wp2
    go_ret
    exact ⟨by rw [F.out]; rfl, hb0⟩
  have q_n2 : (a.text.toList == b.text.toList) = true := beqS_yes n2
  have Hn2 := Lib.hid n2
  clear n2
  have F : Hid (sameD a b = sameSs a.steps b.steps) := Lib.hid (by simp [sameD, Hn1.out, Hn2.out])
  rw [F.out]
  go_enter Try.func12, Try.ntmps12
  go_wp2_with fail
  refine (EqualFuncD_any _ _ _ _ _ HVA.out HVB.out).mono ?_
  rintro e w1 ⟨rfl, hb1⟩
  have hbw1 := bthen hb0 (Nat.le_refl _) hb1
  go_wp2
  go_ret
  exact ⟨rfl, hbw1⟩
end Go.Proofs.Ytkgcpbhlbfjcoaa

/-
  Plain: what is unlike in definitions, part by part (no program).
-/
namespace Go.Proofs.Ytkgcpbhlbfjcoaa
open Go Go.RowKit

def nmL : List ByteArray := [sName, sAction, sUndo, sAfter, sRetry, sLimit, sNote]
/-- Which parts of two steps are alike. -/
def alikeL (s t : StepD) : List Bool := [decide (s.name = t.name), decide (s.action = t.action), decide (s.undo = t.undo), decide (s.after = t.after), (decide (s.most = t.most) && decide (s.first = t.first) && decide (s.factor = t.factor)), decide (s.limit = t.limit), sameT s.note t.note]
def unlB : List ByteArray → List Bool → List ByteArray
  | [], _ => []
  | _ :: _, [] => []
  | n :: l, b :: m => if b then unlB l m else n :: unlB l m
/-- The names of the parts that are unlike. -/
def unl (s t : StepD) : List ByteArray := unlB nmL (alikeL s t)
theorem alikeL_len (s t : StepD) : (alikeL s t).length = 7 := rfl
theorem unlB_len (l : List ByteArray) (m : List Bool) : (unlB l m).length ≤ l.length := by
  induction l generalizing m with
  | nil => simp [unlB]
  | cons a l ih =>
    cases m with
    | nil => simp [unlB]
    | cons b m =>
      rw [unlB]
      split
      · have := ih m; simp; omega
      · have := ih m; simp; omega
theorem unl_len (s t : StepD) : (unl s t).length ≤ 7 := unlB_len nmL _
theorem unlB_take {l : List ByteArray} {m : List Bool} {k : Nat} (h1 : k < l.length) (h2 : k < m.length) : unlB (l.take (k + 1)) (m.take (k + 1)) = unlB (l.take k) (m.take k) ++ if m[k] then [] else [l[k]] := by
  induction l generalizing m k with
  | nil => simp at h1
  | cons a l ih =>
    cases m with
    | nil => simp at h2
    | cons b m =>
      cases k with
      | zero => cases b <;> simp [unlB]
      | succ k =>
        have := ih (m := m) (k := k) (by simpa using h1) (by simpa using h2)
        simp only [List.take_succ_cons, unlB, List.getElem_cons_succ]
        rw [this]
        cases b <;> simp
theorem unlB_prefix (l : List ByteArray) (m : List Bool) (k : Nat) : unlB (l.take k) (m.take k) <+: unlB l m := by
  induction l generalizing m k with
  | nil => simp [unlB]
  | cons a l ih =>
    cases m with
    | nil => cases k <;> simp [unlB]
    | cons b m =>
      cases k with
      | zero => simp [unlB]
      | succ k =>
        simp only [List.take_succ_cons, unlB]
        have := ih m k
        cases b
        · simpa using this
        · simpa using this
theorem unlB_all {l : List ByteArray} {m : List Bool} (h : l.length = m.length) : unlB l m = [] ↔ m.all id = true := by
  induction l generalizing m with
  | nil => cases m with
    | nil => simp [unlB]
    | cons b m => simp at h
  | cons a l ih =>
    cases m with
    | nil => simp at h
    | cons b m =>
      rw [unlB]
      have := ih (m := m) (by simpa using h)
      cases b <;> simp [this]
theorem sameS_all (s t : StepD) : sameS s t = (alikeL s t).all id := by simp [sameS, alikeL, Bool.and_assoc]
theorem unl_nil (s t : StepD) : unl s t = [] ↔ sameS s t = true := by rw [sameS_all]; exact unlB_all rfl
theorem alikeL_symm (s t : StepD) : alikeL s t = alikeL t s := by
  have h1 : decide (s.name = t.name) = decide (t.name = s.name) := decide_eq_decide.2 eq_comm
  have h2 : decide (s.action = t.action) = decide (t.action = s.action) := decide_eq_decide.2 eq_comm
  have h3 : decide (s.undo = t.undo) = decide (t.undo = s.undo) := decide_eq_decide.2 eq_comm
  have h4 : decide (s.after = t.after) = decide (t.after = s.after) := decide_eq_decide.2 eq_comm
  have h5 : decide (s.most = t.most) = decide (t.most = s.most) := decide_eq_decide.2 eq_comm
  have h6 : decide (s.first = t.first) = decide (t.first = s.first) := decide_eq_decide.2 eq_comm
  have h7 : decide (s.factor = t.factor) = decide (t.factor = s.factor) := decide_eq_decide.2 eq_comm
  have h8 : decide (s.limit = t.limit) = decide (t.limit = s.limit) := decide_eq_decide.2 eq_comm
  unfold alikeL
  rw [h1, h2, h3, h4, h5, h6, h7, h8, sameT_symm s.note]
theorem unl_symm (s t : StepD) : unl s t = unl t s := by unfold unl; rw [alikeL_symm]

def sMinus : ByteArray := { data := #[45] }
def sPlus : ByteArray := { data := #[43] }
def sDot : ByteArray := { data := #[46] }
def dotN (i : Nat) (n : ByteArray) : ByteArray := digS (i : Int) ++ sDot ++ n
/-- What is unlike at a place. -/
def chgI (a b : DefD) (i : Nat) : List ByteArray :=
  if b.steps.length ≤ i then [sMinus ++ digS (i : Int)] else if a.steps.length ≤ i then [sPlus ++ digS (i : Int)] else (unl (a.steps[i]?.getD default) (b.steps[i]?.getD default)).map (dotN i)
def headA (a b : DefD) : List ByteArray := if a.name = b.name then [] else [sSaga]
def headB (a b : DefD) : List ByteArray := headA a b ++ if a.text = b.text then [] else [sText]
def chgL (a b : DefD) (k : Nat) : List ByteArray := headB a b ++ (List.range k).flatMap (chgI a b)
def changesD (a b : DefD) : List ByteArray := chgL a b (max a.steps.length b.steps.length)
theorem chgL_zero (a b : DefD) : chgL a b 0 = headB a b := by simp [chgL]
theorem chgL_succ (a b : DefD) (k : Nat) : chgL a b (k + 1) = chgL a b k ++ chgI a b k := by simp [chgL, List.range_succ]
theorem chgI_minus {a b : DefD} {i : Nat} (h : b.steps.length ≤ i) : chgI a b i = [sMinus ++ digS (i : Int)] := by unfold chgI; rw [if_pos h]
theorem chgI_plus {a b : DefD} {i : Nat} (h : i < b.steps.length) (h' : a.steps.length ≤ i) : chgI a b i = [sPlus ++ digS (i : Int)] := by unfold chgI; rw [if_neg (by omega), if_pos h']
theorem chgI_parts {a b : DefD} {i : Nat} (h : i < b.steps.length) (h' : i < a.steps.length) : chgI a b i = (unl a.steps[i] b.steps[i]).map (dotN i) := by
  unfold chgI; rw [if_neg (by omega), if_neg (by omega)]; simp [h, h']
theorem chgI_len (a b : DefD) (i : Nat) : (chgI a b i).length ≤ 7 := by
  unfold chgI
  split
  · simp
  · split
    · simp
    · rw [List.length_map]; exact unl_len _ _
theorem headB_len (a b : DefD) : (headB a b).length ≤ 2 := by unfold headB headA; split <;> split <;> simp
theorem chgL_len (a b : DefD) (k : Nat) : (chgL a b k).length ≤ 2 + 7 * k := by
  induction k with
  | zero => rw [chgL_zero]; exact headB_len a b
  | succ k ih => rw [chgL_succ, List.length_append]; have := chgI_len a b k; omega
/-- Nothing is unlike just of those that are alike. -/
theorem changesD_nil (a b : DefD) : changesD a b = [] ↔ sameD a b = true := by
  unfold changesD chgL headB headA sameD
  simp only [List.append_eq_nil_iff, List.flatMap_eq_nil_iff, List.mem_range, Bool.and_eq_true, decide_eq_true_eq]
  have e1 : (if a.name = b.name then ([] : List ByteArray) else [sSaga]) = [] ↔ a.name = b.name := by split <;> simp_all
  have e2 : (if a.text = b.text then ([] : List ByteArray) else [sText]) = [] ↔ a.text = b.text := by split <;> simp_all
  rw [e1, e2, sameSs_iff]
  refine and_congr Iff.rfl ⟨fun h => ?_, fun h i hi => ?_⟩
  · have hl : a.steps.length = b.steps.length := by
      rcases Nat.lt_trichotomy a.steps.length b.steps.length with h1 | h1 | h1
      · have := h a.steps.length (by omega)
        rw [chgI_plus h1 (Nat.le_refl _)] at this; cases this
      · exact h1
      · have := h b.steps.length (by omega)
        rw [chgI_minus (Nat.le_refl _)] at this; cases this
    refine ⟨hl, fun i x y hx hy => ?_⟩
    obtain ⟨h1, rfl⟩ := List.getElem?_eq_some_iff.1 hx
    obtain ⟨h2, rfl⟩ := List.getElem?_eq_some_iff.1 hy
    have := h i (by omega)
    rw [chgI_parts h2 h1, List.map_eq_nil_iff] at this
    exact (unl_nil _ _).1 this
  · have h1 : i < a.steps.length := by have := h.1; omega
    have h2 : i < b.steps.length := by have := h.1; omega
    rw [chgI_parts h2 h1, List.map_eq_nil_iff]
    exact (unl_nil _ _).2 (h.2 i _ _ (List.getElem?_eq_getElem h1) (List.getElem?_eq_getElem h2))
theorem chgI_symm (a b : DefD) (i : Nat) (h : i < max a.steps.length b.steps.length) : (chgI b a i).length = (chgI a b i).length := by
  by_cases h1 : i < b.steps.length
  · by_cases h2 : i < a.steps.length
    · rw [chgI_parts h1 h2, chgI_parts h2 h1, unl_symm, List.length_map]
    · rw [chgI_minus (a := b) (b := a) (i := i) (by omega), chgI_plus (a := a) (b := b) (i := i) h1 (by omega)]; rfl
  · rw [chgI_plus (a := b) (b := a) (i := i) (by omega) (by omega), chgI_minus (a := a) (b := b) (i := i) (by omega)]; rfl
theorem chgL_symm (a b : DefD) : ∀ k, k ≤ max a.steps.length b.steps.length → (chgL b a k).length = (chgL a b k).length := by
  intro k
  induction k with
  | zero =>
    intro _
    rw [chgL_zero, chgL_zero]
    unfold headB headA
    have e1 : (b.name = a.name) = (a.name = b.name) := propext eq_comm
    have e2 : (b.text = a.text) = (a.text = b.text) := propext eq_comm
    by_cases h1 : a.name = b.name <;> by_cases h2 : a.text = b.text <;> simp [h1, h2, e1, e2]
  | succ k ih =>
    intro hk
    rw [chgL_succ, chgL_succ, List.length_append, List.length_append, ih (by omega), chgI_symm a b k (by omega)]
theorem changesD_symm (a b : DefD) : (changesD b a).length = (changesD a b).length := by
  unfold changesD
  rw [Nat.max_comm]
  exact chgL_symm a b _ (by omega)
end Go.Proofs.Ytkgcpbhlbfjcoaa
