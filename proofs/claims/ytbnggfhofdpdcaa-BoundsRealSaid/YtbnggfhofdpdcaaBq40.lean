/-
  rescriptref21.Same: like definitions (the document's answer): contract.
-/
import Derived.Deep.DeepCutAuto
import Derived.Deep.CutBlock
import Derived.Test.YtbnggfhofdpdcaaBq34
namespace Go.Proofs.Ytbnggfhofdpdcaa
open Go.RowKit Go.WideShapes

theorem two_newW (w : World) (A B : Array Value) (s t : TypeId) : ((w.alloc (.cells A s)).alloc (.cells B t)).drew.heap[w.heap.size]? = some (.cells A s (0, 0)) ∧ ((w.alloc (.cells A s)).alloc (.cells B t)).drew.heap[w.heap.size + 1]? = some (.cells B t (0, 0)) ∧ Below w.heap.size w ((w.alloc (.cells A s)).alloc (.cells B t)).drew := by
  have h := World.alloc_heap_new (w.alloc (.cells A s)) (.cells B t)
  rw [World.size_alloc] at h
  exact ⟨(Below.heap_alloc _ _ _ (by simp)).trans (World.alloc_heap_new w _), h, (((Below.refl _ _).alloc (Nat.le_refl _) _).alloc (by simp) _).drew⟩
theorem sameS_no {s t : StepD} (h : (decide (s.name = t.name) && decide (s.action = t.action) && decide (s.undo = t.undo)) = false) : sameS s t = false := by
  simp only [sameS, h, Bool.false_and]

set_option maxRecDepth 100000 in
set_option maxHeartbeats 4000000 in
theorem rdSame_any (a b : DefD) (ca cb : List Value) (sa sb : Option Addr) (sc sd : Nat) (w : World) (h : DefR w ca a sa sc) (h' : DefR w cb b sb sd) :
    Calls Try.prog 26 #[.agg ca.toArray, .agg cb.toArray] w fun e w' => e = .returned (.bool (sameD a b)) ∧ Below w.heap.size w w' := by
  obtain ⟨rfl, -, -, hva⟩ := h
  obtain ⟨rfl, -, -, hvb⟩ := h'
  have hb0 : Below w.heap.size w ((w.alloc (.cells #[.string a.name, .string a.text, .slice sa a.steps.length sc] 24)).alloc (.cells #[.string b.name, .string b.text, .slice sb b.steps.length sd] 24)) := ((Below.refl _ w).alloc (Nat.le_refl _) _).alloc (by simp) _
  have HVA := Lib.hid (hva.below hb0)
  have HVB := Lib.hid (hvb.below hb0)
  have g1 : ((w.alloc (.cells #[.string a.name, .string a.text, .slice sa a.steps.length sc] 24)).alloc (.cells #[.string b.name, .string b.text, .slice sb b.steps.length sd] 24)).heap[w.heap.size]? = some (.cells #[.string a.name, .string a.text, .slice sa a.steps.length sc] 24 (0, 0)) := (Below.heap_alloc _ _ _ (by simp)).trans (World.alloc_heap_new w _)
  have g2 : ((w.alloc (.cells #[.string a.name, .string a.text, .slice sa a.steps.length sc] 24)).alloc (.cells #[.string b.name, .string b.text, .slice sb b.steps.length sd] 24)).heap[w.heap.size + 1]? = some (.cells #[.string b.name, .string b.text, .slice sb b.steps.length sd] 24 (0, 0)) := by
    have := World.alloc_heap_new (w.alloc (.cells #[.string a.name, .string a.text, .slice sa a.steps.length sc] 24)) (.cells #[.string b.name, .string b.text, .slice sb b.steps.length sd] 24)
    rwa [World.size_alloc] at this
  obtain ⟨_, _, he1, hl1, hl2⟩ := hva.form
  obtain ⟨_, _, he2, hl3, hl4⟩ := hvb.form
  cases he1
  cases he2
  clear hva hvb
  generalize hwz : (w.alloc (.cells #[.string a.name, .string a.text, .slice sa a.steps.length sc] 24)).alloc (.cells #[.string b.name, .string b.text, .slice sb b.steps.length sd] 24) = wz at *
  have G1 := Lib.hid g1
  have G2 := Lib.hid g2
  have hlt1 := (Array.getElem?_eq_some_iff.1 g1).1
  have hlt2 := (Array.getElem?_eq_some_iff.1 g2).1
  obtain ⟨p0, p1, p2, -, -, -⟩ := cells3h g1
  obtain ⟨r0, r1, r2, -, -, -⟩ := cells3h g2
  clear g1 g2
  by_cases n1 : a.name = b.name
  case neg =>
    have q_n1 : (a.name.toList == b.name.toList) = false := beqS_no n1
    have F : Hid (sameD a b = false) := Lib.hid (by simp [sameD, n1])
    clear n1
    go_enter Try.func26, Try.ntmps26
    go_wp2
    go_ret
    exact ⟨by rw [F.out]; rfl, hb0⟩
  have q_n1 : (a.name.toList == b.name.toList) = true := beqS_yes n1
  have Hn1 := Lib.hid n1
  clear n1
  by_cases n2 : a.text = b.text
  case neg =>
    have q_n2 : (a.text.toList == b.text.toList) = false := beqS_no n2
    have F : Hid (sameD a b = false) := Lib.hid (by simp [sameD, n2])
    clear n2
    go_enter Try.func26, Try.ntmps26
    go_wp2
    go_ret
    exact ⟨by rw [F.out]; rfl, hb0⟩
  have q_n2 : (a.text.toList == b.text.toList) = true := beqS_yes n2
  have Hn2 := Lib.hid n2
  clear n2
  have F : Hid (sameD a b = sameSs a.steps b.steps) := Lib.hid (by simp [sameD, Hn1.out, Hn2.out])
  rw [F.out]
  by_cases e4 : a.steps.length = b.steps.length
  case neg =>
    have d4 : ((a.steps.length : Int) != (b.steps.length : Int)) = true := by simp; omega
    have F2 : Hid (sameSs a.steps b.steps = false) := Lib.hid (by rw [Bool.eq_false_iff]; intro h; exact e4 (sameSs_len h))
    clear e4
    go_enter Try.func26, Try.ntmps26
    go_wp2
    go_ret
    exact ⟨by rw [F2.out]; rfl, hb0⟩
  have d4 : ((a.steps.length : Int) != (b.steps.length : Int)) = false := by simp [e4]
  have E4 := Lib.hid e4
  clear e4
  go_enter Try.func26, Try.ntmps26
  go_wp2
  go_loopg [5] (a.steps.length + 1) (fun gk i wr => ∃ j : Nat, j + gk = a.steps.length + 1 ∧ j ≤ a.steps.length ∧ i = .int .i64 j ∧ Hid (sameSs (a.steps.take j) (b.steps.take j) = true) ∧ Hid (Below wz.heap.size wz wr))
  case atStart => exact ⟨0, by omega, by omega, rfl, Lib.hid rfl, Lib.hid (Below.refl _ _)⟩
  case round =>
    obtain ⟨j, hgk, hj, rfl, HE, HB⟩ := hrel
    have hg : gk = a.steps.length + 1 - j := by omega
    subst hg
    clear hgk
    have hbr := HB.out
    have hbwr := bthen hb0 (Nat.le_refl _) hbr
    have g3 := (hbr.block _ hlt1).trans G1.out
    have g4 := (hbr.block _ hlt2).trans G2.out
    clear p0 p1 p2 r0 r1 r2
    obtain ⟨p0, p1, p2, -, -, -⟩ := cells3h g3
    obtain ⟨r0, r1, r2, -, -, -⟩ := cells3h g4
    clear g3 g4
    by_cases hlt : j < a.steps.length
    · have hltb : j < b.steps.length := by have := E4.out; omega
      obtain ⟨g, off, cap, aa1, ac1, ka1, kc1, ba1, bc1, he, q1, q2, hn, z0, z1, z2, z3, z4, z5, z6, z7, z8, z9, z10, z11, z12⟩ := (HVA.out.below hbr).at hlt
      obtain ⟨g', off', cap', aa2, ac2, ka2, kc2, ba2, bc2, he', q1', q2', hn', y0, y1, y2, y3, y4, y5, y6, y7, y8, y9, y10, y11, y12⟩ := (HVB.out.below hbr).at hltb
      cases he
      cases he'
      have HGO := Lib.hid (sameSs_go hlt hltb HE.out)
      have HNO := Lib.hid (sameSs_no hlt hltb)
      have hj0 : (0 : Int) ≤ (j : Int) := by omega
      have hj1 : (j : Int) < (a.steps.length : Int) := by omega
      have hj2 : (j : Int) < (b.steps.length : Int) := by omega
      have HN1 := Lib.hid hn
      have HN2 := Lib.hid hn'
      clear hn hn'
      generalize a.steps[j] = s at *
      generalize b.steps[j] = t at *
      go_upto_region 6 with fail
      go_cut [6, 7] (fun s6 s7 wx => ∃ g6 g7, s6 = .pointer (some ⟨g6, 0, none⟩) ∧ s7 = .pointer (some ⟨g7, 0, none⟩) ∧ wx.heap[g6]? = some (.cells #[.string s.name, .string s.action, .string s.undo, .slice aa1 s.after.length ac1, .int .i64 s.most, .int .i64 s.first, .int .i64 s.factor, .int .i64 s.limit, .int .u8 (s.note.kind : Int), .string s.note.text, .slice ka1 s.note.keys.length kc1, .slice ba1 s.note.kids.length bc1, .int .i64 s.note.line] 45 (0, 0)) ∧ wx.heap[g7]? = some (.cells #[.string t.name, .string t.action, .string t.undo, .slice aa2 t.after.length ac2, .int .i64 t.most, .int .i64 t.first, .int .i64 t.factor, .int .i64 t.limit, .int .u8 (t.note.kind : Int), .string t.note.text, .slice ka2 t.note.keys.length kc2, .slice ba2 t.note.kids.length bc2, .int .i64 t.note.line] 45 (0, 0)) ∧ Below wr.heap.size wr wx)
      case first =>
        have hz : Below wr.heap.size wr (wr.alloc (.cells #[.string { data := #[] }, .string { data := #[] }, .string { data := #[] }, .slice none 0 0, .int .i64 0, .int .i64 0, .int .i64 0, .int .i64 0, .int .u8 0, .string { data := #[] }, .slice none 0 0, .slice none 0 0, .int .i64 0] 45)) := (Below.refl _ _).alloc (Nat.le_refl _) _
        have r2Z := cellB hz r2
        obtain ⟨yZ0, yZ1, yZ2, yZ3, yZ4, yZ5, yZ6, yZ7, yZ8, yZ9, yZ10, yZ11, yZ12⟩ := At13.below ⟨y0, y1, y2, y3, y4, y5, y6, y7, y8, y9, y10, y11, y12⟩ hz
        have p2Z := cellB hz p2
        obtain ⟨zZ0, zZ1, zZ2, zZ3, zZ4, zZ5, zZ6, zZ7, zZ8, zZ9, zZ10, zZ11, zZ12⟩ := At13.below ⟨z0, z1, z2, z3, z4, z5, z6, z7, z8, z9, z10, z11, z12⟩ hz
        clear hz
        have hz : Below wr.heap.size wr ((wr.alloc (.cells #[.string { data := #[] }, .string { data := #[] }, .string { data := #[] }, .slice none 0 0, .int .i64 0, .int .i64 0, .int .i64 0, .int .i64 0, .int .u8 0, .string { data := #[] }, .slice none 0 0, .slice none 0 0, .int .i64 0] 45)).alloc (.cells #[.string { data := #[] }, .string { data := #[] }, .string { data := #[] }, .slice none 0 0, .int .i64 0, .int .i64 0, .int .i64 0, .int .i64 0, .int .u8 0, .string { data := #[] }, .slice none 0 0, .slice none 0 0, .int .i64 0] 45)) := ((Below.refl _ _).alloc (Nat.le_refl _) _).alloc (by simp) _
        have r2ZZ := cellB hz r2
        obtain ⟨yZZ0, yZZ1, yZZ2, yZZ3, yZZ4, yZZ5, yZZ6, yZZ7, yZZ8, yZZ9, yZZ10, yZZ11, yZZ12⟩ := At13.below ⟨y0, y1, y2, y3, y4, y5, y6, y7, y8, y9, y10, y11, y12⟩ hz
        have p2ZZ := cellB hz p2
        obtain ⟨zZZ0, zZZ1, zZZ2, zZZ3, zZZ4, zZZ5, zZZ6, zZZ7, zZZ8, zZZ9, zZZ10, zZZ11, zZZ12⟩ := At13.below ⟨z0, z1, z2, z3, z4, z5, z6, z7, z8, z9, z10, z11, z12⟩ hz
        clear hz
        have hz : Below wr.heap.size wr (wr.alloc (.cells #[.string s.name, .string s.action, .string s.undo, .slice aa1 s.after.length ac1, .int .i64 s.most, .int .i64 s.first, .int .i64 s.factor, .int .i64 s.limit, .int .u8 (s.note.kind : Int), .string s.note.text, .slice ka1 s.note.keys.length kc1, .slice ba1 s.note.kids.length bc1, .int .i64 s.note.line] 45)) := (Below.refl _ _).alloc (Nat.le_refl _) _
        have r2S := cellB hz r2
        obtain ⟨yS0, yS1, yS2, yS3, yS4, yS5, yS6, yS7, yS8, yS9, yS10, yS11, yS12⟩ := At13.below ⟨y0, y1, y2, y3, y4, y5, y6, y7, y8, y9, y10, y11, y12⟩ hz
        clear hz
        have hz : Below wr.heap.size wr ((wr.alloc (.cells #[.string s.name, .string s.action, .string s.undo, .slice aa1 s.after.length ac1, .int .i64 s.most, .int .i64 s.first, .int .i64 s.factor, .int .i64 s.limit, .int .u8 (s.note.kind : Int), .string s.note.text, .slice ka1 s.note.keys.length kc1, .slice ba1 s.note.kids.length bc1, .int .i64 s.note.line] 45)).alloc (.cells #[.string { data := #[] }, .string { data := #[] }, .string { data := #[] }, .slice none 0 0, .int .i64 0, .int .i64 0, .int .i64 0, .int .i64 0, .int .u8 0, .string { data := #[] }, .slice none 0 0, .slice none 0 0, .int .i64 0] 45)) := ((Below.refl _ _).alloc (Nat.le_refl _) _).alloc (by simp) _
        have r2SZ := cellB hz r2
        obtain ⟨ySZ0, ySZ1, ySZ2, ySZ3, ySZ4, ySZ5, ySZ6, ySZ7, ySZ8, ySZ9, ySZ10, ySZ11, ySZ12⟩ := At13.below ⟨y0, y1, y2, y3, y4, y5, y6, y7, y8, y9, y10, y11, y12⟩ hz
        clear hz
        have hz : Below wr.heap.size wr ((wr.alloc (.cells #[.string { data := #[] }, .string { data := #[] }, .string { data := #[] }, .slice none 0 0, .int .i64 0, .int .i64 0, .int .i64 0, .int .i64 0, .int .u8 0, .string { data := #[] }, .slice none 0 0, .slice none 0 0, .int .i64 0] 45)).alloc (.cells #[.string s.name, .string s.action, .string s.undo, .slice aa1 s.after.length ac1, .int .i64 s.most, .int .i64 s.first, .int .i64 s.factor, .int .i64 s.limit, .int .u8 (s.note.kind : Int), .string s.note.text, .slice ka1 s.note.keys.length kc1, .slice ba1 s.note.kids.length bc1, .int .i64 s.note.line] 45)) := ((Below.refl _ _).alloc (Nat.le_refl _) _).alloc (by simp) _
        have r2ZS := cellB hz r2
        obtain ⟨yZS0, yZS1, yZS2, yZS3, yZS4, yZS5, yZS6, yZS7, yZS8, yZS9, yZS10, yZS11, yZS12⟩ := At13.below ⟨y0, y1, y2, y3, y4, y5, y6, y7, y8, y9, y10, y11, y12⟩ hz
        clear hz
        have hz : Below wr.heap.size wr (wr.alloc (.cells #[.string t.name, .string t.action, .string t.undo, .slice aa2 t.after.length ac2, .int .i64 t.most, .int .i64 t.first, .int .i64 t.factor, .int .i64 t.limit, .int .u8 (t.note.kind : Int), .string t.note.text, .slice ka2 t.note.keys.length kc2, .slice ba2 t.note.kids.length bc2, .int .i64 t.note.line] 45)) := (Below.refl _ _).alloc (Nat.le_refl _) _
        have p2T := cellB hz p2
        obtain ⟨zT0, zT1, zT2, zT3, zT4, zT5, zT6, zT7, zT8, zT9, zT10, zT11, zT12⟩ := At13.below ⟨z0, z1, z2, z3, z4, z5, z6, z7, z8, z9, z10, z11, z12⟩ hz
        clear hz
        have hz : Below wr.heap.size wr ((wr.alloc (.cells #[.string t.name, .string t.action, .string t.undo, .slice aa2 t.after.length ac2, .int .i64 t.most, .int .i64 t.first, .int .i64 t.factor, .int .i64 t.limit, .int .u8 (t.note.kind : Int), .string t.note.text, .slice ka2 t.note.keys.length kc2, .slice ba2 t.note.kids.length bc2, .int .i64 t.note.line] 45)).alloc (.cells #[.string { data := #[] }, .string { data := #[] }, .string { data := #[] }, .slice none 0 0, .int .i64 0, .int .i64 0, .int .i64 0, .int .i64 0, .int .u8 0, .string { data := #[] }, .slice none 0 0, .slice none 0 0, .int .i64 0] 45)) := ((Below.refl _ _).alloc (Nat.le_refl _) _).alloc (by simp) _
        have p2TZ := cellB hz p2
        obtain ⟨zTZ0, zTZ1, zTZ2, zTZ3, zTZ4, zTZ5, zTZ6, zTZ7, zTZ8, zTZ9, zTZ10, zTZ11, zTZ12⟩ := At13.below ⟨z0, z1, z2, z3, z4, z5, z6, z7, z8, z9, z10, z11, z12⟩ hz
        clear hz
        have hz : Below wr.heap.size wr ((wr.alloc (.cells #[.string { data := #[] }, .string { data := #[] }, .string { data := #[] }, .slice none 0 0, .int .i64 0, .int .i64 0, .int .i64 0, .int .i64 0, .int .u8 0, .string { data := #[] }, .slice none 0 0, .slice none 0 0, .int .i64 0] 45)).alloc (.cells #[.string t.name, .string t.action, .string t.undo, .slice aa2 t.after.length ac2, .int .i64 t.most, .int .i64 t.first, .int .i64 t.factor, .int .i64 t.limit, .int .u8 (t.note.kind : Int), .string t.note.text, .slice ka2 t.note.keys.length kc2, .slice ba2 t.note.kids.length bc2, .int .i64 t.note.line] 45)) := ((Below.refl _ _).alloc (Nat.le_refl _) _).alloc (by simp) _
        have p2ZT := cellB hz p2
        obtain ⟨zZT0, zZT1, zZT2, zZT3, zZT4, zZT5, zZT6, zZT7, zZT8, zZT9, zZT10, zZT11, zZT12⟩ := At13.below ⟨z0, z1, z2, z3, z4, z5, z6, z7, z8, z9, z10, z11, z12⟩ hz
        clear hz
        go_region
        all_goals (go_wp2_with fail; go_meet)
        all_goals (first | exact ⟨_, _, rfl, rfl, (two_newW wr _ _ _ _).1, (two_newW wr _ _ _ _).2.1, (two_newW wr _ _ _ _).2.2⟩ | exact ⟨_, _, rfl, rfl, (two_newW wr _ _ _ _).2.1, (two_newW wr _ _ _ _).1, (two_newW wr _ _ _ _).2.2⟩)
      case rest =>
        obtain ⟨g6, g7, rfl, rfl, h6, h7, hbx⟩ := hcut
        generalize wc = wx at *
        clear z0 z1 z2 z3 z4 z5 z6 z7 z8 z9 z10 z11 z12 y0 y1 y2 y3 y4 y5 y6 y7 y8 y9 y10 y11 y12
        obtain ⟨z0, z1, z2, z3, z4, z5, z6, z7, z8, z9, z10, z11, z12⟩ := cells13q h6
        obtain ⟨y0, y1, y2, y3, y4, y5, y6, y7, y8, y9, y10, y11, y12⟩ := cells13q h7
        have HBX := Lib.hid (bthen hbr (Nat.le_refl _) hbx)
        by_cases n1 : s.name = t.name
        case neg =>
          have q_n1 : (s.name.toList == t.name.toList) = false := beqS_no n1
          have F3 := Lib.hid (HNO.out (by simp [sameS, n1]))
          clear n1
          go_wp2
          go_ret
          exact ⟨by rw [F3.out]; rfl, bthen hb0 (Nat.le_refl _) HBX.out⟩
        have q_n1 : (s.name.toList == t.name.toList) = true := beqS_yes n1
        have Hn1 := Lib.hid n1
        clear n1
        by_cases n2 : s.action = t.action
        case neg =>
          have q_n2 : (s.action.toList == t.action.toList) = false := beqS_no n2
          have F3 := Lib.hid (HNO.out (by simp [sameS, n2]))
          clear n2
          go_wp2
          go_ret
          exact ⟨by rw [F3.out]; rfl, bthen hb0 (Nat.le_refl _) HBX.out⟩
        have q_n2 : (s.action.toList == t.action.toList) = true := beqS_yes n2
        have Hn2 := Lib.hid n2
        clear n2
        by_cases n3 : s.undo = t.undo
        case neg =>
          have q_n3 : (s.undo.toList == t.undo.toList) = false := beqS_no n3
          have F3 := Lib.hid (HNO.out (by simp [sameS, n3]))
          clear n3
          go_wp2
          go_ret
          exact ⟨by rw [F3.out]; rfl, bthen hb0 (Nat.le_refl _) HBX.out⟩
        have q_n3 : (s.undo.toList == t.undo.toList) = true := beqS_yes n3
        have Hn3 := Lib.hid n3
        clear n3
        have HT := Lib.hid (Texts_any s.after t.after _ _ _ (HN1.out.after.below hbx) (HN2.out.after.below hbx))
        have E0 : Hid (sameS s t = (decide (s.after = t.after) && (decide (s.most = t.most) && decide (s.first = t.first) && decide (s.factor = t.factor)) && decide (s.limit = t.limit) && sameT s.note t.note)) := Lib.hid (by simp [sameS, Hn1.out, Hn2.out, Hn3.out])
        clear Hn1 Hn2 Hn3
        rw [E0.out] at HGO HNO
        clear E0
        generalize decide (s.after = t.after) = ab at *
        have HSB := Lib.hid (rSameT_any s.note t.note)
        go_wp2_with fail
        refine HT.out.mono ?_
        rintro e w1 ⟨rfl, hb1⟩
        have hbw1 := bthen hbr (Nat.le_refl _) (bthen hbx (Nat.le_refl _) hb1)
        have hbx1 := bthen hbx (Nat.le_refl _) hb1
        have z4 := cellB hb1 z4
        have z5 := cellB hb1 z5
        have z6 := cellB hb1 z6
        have z7 := cellB hb1 z7
        have z8 := cellB hb1 z8
        have z9 := cellB hb1 z9
        have z10 := cellB hb1 z10
        have z11 := cellB hb1 z11
        have z12 := cellB hb1 z12
        have y4 := cellB hb1 y4
        have y5 := cellB hb1 y5
        have y6 := cellB hb1 y6
        have y7 := cellB hb1 y7
        have y8 := cellB hb1 y8
        have y9 := cellB hb1 y9
        have y10 := cellB hb1 y10
        have y11 := cellB hb1 y11
        have y12 := cellB hb1 y12
        clear z0 z1 z2 z3 y0 y1 y2 y3
        cases ab with
        | false =>
          have F3 := Lib.hid (HNO.out (by simp [Bool.false_and]))
          go_wp2
          go_ret
          exact ⟨by rw [F3.out]; rfl, bthen hb0 (Nat.le_refl _) hbw1⟩
        | true =>
          by_cases m1 : s.most = t.most
          case neg =>
            have F3 := Lib.hid (HNO.out (by simp [m1]))
            go_wp2
            go_ret
            exact ⟨by rw [F3.out]; rfl, bthen hb0 (Nat.le_refl _) hbw1⟩
          by_cases m2 : s.first = t.first
          case neg =>
            have F3 := Lib.hid (HNO.out (by simp [m2]))
            go_wp2
            go_ret
            exact ⟨by rw [F3.out]; rfl, bthen hb0 (Nat.le_refl _) hbw1⟩
          by_cases m3 : s.factor = t.factor
          case neg =>
            have F3 := Lib.hid (HNO.out (by simp [m3]))
            go_wp2
            go_ret
            exact ⟨by rw [F3.out]; rfl, bthen hb0 (Nat.le_refl _) hbw1⟩
          by_cases m4 : s.limit = t.limit
          case neg =>
            have F3 := Lib.hid (HNO.out (by simp [m4]))
            have d5 : (s.limit != t.limit) = true := by simp [m4]
            go_wp2
            go_ret
            exact ⟨by rw [F3.out]; rfl, bthen hb0 (Nat.le_refl _) hbw1⟩
          have d5 : (s.limit != t.limit) = false := by simp [m4]
          have E1 : Hid ((true && (decide (s.most = t.most) && decide (s.first = t.first) && decide (s.factor = t.factor)) && decide (s.limit = t.limit) && sameT s.note t.note) = sameT s.note t.note) := Lib.hid (by simp [m1, m2, m3, m4])
          rw [E1.out] at HGO HNO
          clear E1
          go_wp2_with fail
          refine (HSB.out _ _ _ (HN1.out.note.belowW hbx1) (HN2.out.note.belowW hbx1)).mono ?_
          rintro e w2 ⟨rfl, hb2⟩
          have hbw2 := bthen hbw1 (Nat.le_refl _) hb2
          generalize sameT s.note t.note = sb at *
          cases sb with
          | true =>
            have HS2 := Lib.hid (HGO.out rfl)
            go_wp2_with fail
            go_roundg (a.steps.length + 1 - (j + 1))
            case measure => omega
            case rel => exact ⟨j + 1, by omega, by omega, by go_num, HS2, Lib.hid hbw2⟩
          | false =>
            have HS2 := Lib.hid (HNO.out rfl)
            go_wp2
            go_ret
            exact ⟨by rw [HS2.out]; rfl, bthen hb0 (Nat.le_refl _) hbw2⟩
    · have HS2 := Lib.hid (sameSs_all E4.out hlt HE.out)
      go_wp2
      go_ret
      exact ⟨by rw [HS2.out]; rfl, hbwr⟩
end Go.Proofs.Ytbnggfhofdpdcaa
