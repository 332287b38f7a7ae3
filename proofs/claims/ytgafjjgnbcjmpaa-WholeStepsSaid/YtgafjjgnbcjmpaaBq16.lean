/-
  def.step, def.Check: contracts.
-/
import Derived.WalkMore
import Derived.Deep.LoopGhost
import Derived.Test.YtgafjjgnbcjmpaaBq13
import Derived.Test.YtgafjjgnbcjmpaaBq15
namespace Go.Proofs.Ytgafjjgnbcjmpaa
open Go Go.RowKit Go.WideShapes

theorem cells13q {W : World} {B : Nat} {t : TypeId} {fr : Nat × Nat} {c0 c1 c2 c3 c4 c5 c6 c7 c8 c9 c10 c11 c12 : Value} (h : W.heap[B]? = some (.cells #[c0, c1, c2, c3, c4, c5, c6, c7, c8, c9, c10, c11, c12] t fr)) :
    W.cell? ⟨B, 0, none⟩ = some c0 ∧ W.cell? ⟨B, 1, none⟩ = some c1 ∧ W.cell? ⟨B, 2, none⟩ = some c2 ∧ W.cell? ⟨B, 3, none⟩ = some c3 ∧ W.cell? ⟨B, 4, none⟩ = some c4 ∧ W.cell? ⟨B, 5, none⟩ = some c5 ∧ W.cell? ⟨B, 6, none⟩ = some c6 ∧ W.cell? ⟨B, 7, none⟩ = some c7 ∧ W.cell? ⟨B, 8, none⟩ = some c8 ∧ W.cell? ⟨B, 9, none⟩ = some c9 ∧ W.cell? ⟨B, 10, none⟩ = some c10 ∧ W.cell? ⟨B, 11, none⟩ = some c11 ∧ W.cell? ⟨B, 12, none⟩ = some c12 := by
  simp [World.cell?, h]
theorem rds_newL {l : List Value} (W : World) (t : TypeId) (hl : l.length ≤ maxLen) : RdS (W.alloc (.cells l.toArray t)) (.slice (some ⟨W.heap.size, 0, none⟩) l.length l.length) 1 l.length l := by
  refine ⟨by simp, some ⟨W.heap.size, 0, none⟩, l.length, rfl, Nat.le_refl _, hl, .inr ⟨W.heap.size, 0, rfl, fun i c hi => ?_⟩⟩
  simp only [World.cell?, World.alloc_heap_new, Nat.zero_add]
  simpa using hi

set_option maxRecDepth 100000 in
set_option maxHeartbeats 2000000 in
theorem dstep_any (s : StepD) (cs : List Value) (aa : Option Addr) (ac : Nat) (ka : Option Addr) (kc : Nat) (ba : Option Addr) (bc : Nat) (w : World) (h : StepR w cs s aa ac ka kc ba bc) (hs : SmallS s) :
    Calls Try.prog 16 #[.agg cs.toArray] w fun e w' => e = .returned (.int .i64 (stepC s)) ∧ Below w.heap.size w w' := by
  obtain ⟨he, hok, hafter, hnote⟩ := h
  subst he
  have hb0 := (Below.refl w.heap.size w).alloc (Nat.le_refl _) (.cells #[.string s.name, .string s.action, .string s.undo, .slice aa s.after.length ac, .int .i64 s.most, .int .i64 s.first, .int .i64 s.factor, .int .i64 s.limit, .int .u8 (s.note.kind : Int), .string s.note.text, .slice ka s.note.keys.length kc, .slice ba s.note.kids.length bc, .int .i64 s.note.line] 45)
  have g0 := World.alloc_heap_new w (.cells #[.string s.name, .string s.action, .string s.undo, .slice aa s.after.length ac, .int .i64 s.most, .int .i64 s.first, .int .i64 s.factor, .int .i64 s.limit, .int .u8 (s.note.kind : Int), .string s.note.text, .slice ka s.note.keys.length kc, .slice ba s.note.kids.length bc, .int .i64 s.note.line] 45)
  have HAF := Lib.hid hafter
  have HNT := Lib.hid hnote
  have HSM := Lib.hid hs
  have hal := hs.after
  clear hafter hnote hs
  generalize hwz : w.alloc (.cells #[.string s.name, .string s.action, .string s.undo, .slice aa s.after.length ac, .int .i64 s.most, .int .i64 s.first, .int .i64 s.factor, .int .i64 s.limit, .int .u8 (s.note.kind : Int), .string s.note.text, .slice ka s.note.keys.length kc, .slice ba s.note.kids.length bc, .int .i64 s.note.line] 45) = wz at *
  have hlt0 := (Array.getElem?_eq_some_iff.1 g0).1
  have hb1 : Below wz.heap.size wz (wz.alloc (.cells #[.string s.name, .string s.action, .string s.undo] 9)) := (Below.refl _ _).alloc (Nat.le_refl _) _
  have HT1 := Lib.hid (texts_any [s.name, s.action, s.undo] _ (wz.alloc (.cells #[.string s.name, .string s.action, .string s.undo] 9)) (rds_newL (l := strsV [s.name, s.action, s.undo]) wz 9 (by simp [strsV, maxLen])) (fun x hx => by
    have h1 := HSM.out.name; have h2 := HSM.out.action; have h3 := HSM.out.undo
    simp at hx; rcases hx with rfl | rfl | rfl <;> omega))
  rw [show (strsV [s.name, s.action, s.undo]).length = 3 from rfl] at HT1
  have G0 := Lib.hid g0
  obtain ⟨q0, q1, q2, q3, q4, q5, q6, q7, q8, q9, q10, q11, q12⟩ := cells13q g0
  have HC0 : Hid (textsC [s.name, s.action, s.undo] ≠ 0 → stepC s = textsC [s.name, s.action, s.undo]) := Lib.hid (fun h => by unfold stepC; rw [if_pos h])
  have HC1 : Hid (textsC [s.name, s.action, s.undo] = 0 → stepC s = if 64 < s.after.length then 2 else if textsC s.after ≠ 0 then textsC s.after else if fitsB [s.most, s.first, s.factor, s.limit] = false then 1 else if noneT s.note then 0 else if checkT s.note ≠ 0 then checkT s.note else if 13 < depthT 18 s.note then 11 else 0) := Lib.hid (fun h => by unfold stepC; rw [if_neg (by simp [h])])
  generalize textsC [s.name, s.action, s.undo] = c0 at *
  clear g0
  go_enter Try.func16, Try.ntmps16
  go_wp2_with fail
  refine HT1.out.mono ?_
  rintro e w1 ⟨rfl, hb2⟩
  have hbz1 := bthen hb1 (Nat.le_refl _) hb2
  have HBZ1 := Lib.hid hbz1
  have g1 := (hbz1.block _ hlt0).trans G0.out
  have G1 := Lib.hid g1
  clear q0 q1 q2 q3 q4 q5 q6 q7 q8 q9 q10 q11 q12 hb1 hb2
  obtain ⟨q0, q1, q2, q3, q4, q5, q6, q7, q8, q9, q10, q11, q12⟩ := cells13q g1
  clear g1
  by_cases hc0 : c0 = 0
  · have HC2 := Lib.hid (HC1.out hc0)
    have hd : (c0 != 0) = false := by simp [hc0]
    clear hc0
    by_cases h64 : 64 < s.after.length
    · have HF := Lib.hid (HC2.out.trans (if_pos h64))
      have hd2 : decide ((64 : Int) < (s.after.length : Int)) = true := by simp; omega
      go_wp2
      go_ret
      exact ⟨by rw [HF.out]; rfl, bthen hb0 (Nat.le_refl _) hbz1⟩
    have HC3 := Lib.hid (HC2.out.trans (if_neg h64))
    have hd2 : decide ((64 : Int) < (s.after.length : Int)) = false := by simp; omega
    have HT2 := Lib.hid (texts_any s.after _ w1 (HAF.out.below (bthen hb0 (Nat.le_refl _) hbz1)) (fun x hx => by have := HSM.out.aft x hx; omega))
    generalize textsC s.after = c1 at *
    go_wp2_with fail
    refine HT2.out.mono ?_
    rintro e w2 ⟨rfl, hb2⟩
    have hbz2 := bthen hbz1 (Nat.le_refl _) hb2
    have g2 := (hbz2.block _ hlt0).trans G0.out
    clear q0 q1 q2 q3 q4 q5 q6 q7 q8 q9 q10 q11 q12
    obtain ⟨q0, q1, q2, q3, q4, q5, q6, q7, q8, q9, q10, q11, q12⟩ := cells13q g2
    clear g2
    by_cases hc1 : c1 = 0
    · have HC4 := Lib.hid (HC3.out.trans (if_neg (by simp [hc1])))
      have hd3 : (c1 != 0) = false := by simp [hc1]
      clear hc1
      have hb3 : Below w2.heap.size w2 (w2.alloc (.cells #[.int .i64 s.most, .int .i64 s.first, .int .i64 s.factor, .int .i64 s.limit] 3)) := (Below.refl _ _).alloc (Nat.le_refl _) _
      have HFT := Lib.hid (fits_any [s.most, s.first, s.factor, s.limit] _ (w2.alloc (.cells #[.int .i64 s.most, .int .i64 s.first, .int .i64 s.factor, .int .i64 s.limit] 3)) (rds_newL (l := ints .i64 [s.most, s.first, s.factor, s.limit]) w2 3 (by simp [ints, maxLen])) (by simp))
      rw [show (ints .i64 [s.most, s.first, s.factor, s.limit]).length = 4 from rfl] at HFT
      generalize fitsB [s.most, s.first, s.factor, s.limit] = fb at *
      go_wp2_with fail
      refine HFT.out.mono ?_
      rintro e w3 ⟨rfl, rfl⟩
      have hbz3 := bthen hbz2 (Nat.le_refl _) hb3
      cases fb with
      | false =>
        have HF := Lib.hid (HC4.out.trans (if_pos rfl))
        go_wp2
        go_ret
        exact ⟨by rw [HF.out]; rfl, bthen hb0 (Nat.le_refl _) hbz3⟩
      | true =>
        have HC5 := Lib.hid (HC4.out.trans (if_neg (by decide)))
        have g3 := (hbz3.block _ hlt0).trans G0.out
        have HNO := Lib.hid (note_any s.note _ _ (HNT.out.belowW (bthen hb0 (Nat.le_refl _) hbz3)))
        generalize w2.alloc (.cells #[.int .i64 s.most, .int .i64 s.first, .int .i64 s.factor, .int .i64 s.limit] 3) = w4 at *
        clear q0 q1 q2 q3 q4 q5 q6 q7 q8 q9 q10 q11 q12
        obtain ⟨q0, q1, q2, q3, q4, q5, q6, q7, q8, q9, q10, q11, q12⟩ := cells13q g3
        clear g3
        generalize noneT s.note = nb at *
        go_wp2_with fail
        refine HNO.out.mono ?_
        rintro e w5 ⟨rfl, hb5⟩
        have hbz5 := bthen hbz3 (Nat.le_refl _) hb5
        have g5 := (hbz5.block _ hlt0).trans G0.out
        clear q0 q1 q2 q3 q4 q5 q6 q7 q8 q9 q10 q11 q12
        cases nb with
        | true =>
          have HF := Lib.hid (HC5.out.trans (if_pos rfl))
          clear g5
          go_wp2
          go_ret
          exact ⟨by rw [HF.out]; rfl, bthen hb0 (Nat.le_refl _) hbz5⟩
        | false =>
          have HC6 := Lib.hid (HC5.out.trans (if_neg (by decide)))
          obtain ⟨q0, q1, q2, q3, q4, q5, q6, q7, q8, q9, q10, q11, q12⟩ := cells13q g5
          have HCB := Lib.hid (CheckB_any s.note _ w5 (HNT.out.belowW (bthen hb0 (Nat.le_refl _) hbz5)) ⟨18, HSM.out.note⟩)
          generalize checkT s.note = c2 at *
          clear g5
          go_wp2_with fail
          refine HCB.out.mono ?_
          rintro e w6 ⟨rfl, hb6⟩
          have hbz6 := bthen hbz5 (Nat.le_refl _) hb6
          have g6 := (hbz6.block _ hlt0).trans G0.out
          clear q0 q1 q2 q3 q4 q5 q6 q7 q8 q9 q10 q11 q12
          obtain ⟨q0, q1, q2, q3, q4, q5, q6, q7, q8, q9, q10, q11, q12⟩ := cells13q g6
          clear g6
          by_cases hc2 : c2 = 0
          · have HC7 := Lib.hid (HC6.out.trans (if_neg (by simp [hc2])))
            have hd4 : (c2 != 0) = false := by simp [hc2]
            clear hc2
            have HDP := Lib.hid (Depth_any s.note _ w6 (HNT.out.belowW (bthen hb0 (Nat.le_refl _) hbz6)))
            generalize depthT 18 s.note = dp at *
            go_wp2_with fail
            refine HDP.out.mono ?_
            rintro e w7 ⟨rfl, hb7⟩
            have hbz7 := bthen hbz6 (Nat.le_refl _) hb7
            by_cases hdp : 13 < dp
            · have HF := Lib.hid (HC7.out.trans (if_pos hdp))
              have hd5 : decide ((13 : Int) < (dp : Int)) = true := by simp; omega
              go_wp2
              go_ret
              exact ⟨by rw [HF.out]; rfl, bthen hb0 (Nat.le_refl _) hbz7⟩
            · have HF := Lib.hid (HC7.out.trans (if_neg hdp))
              have hd5 : decide ((13 : Int) < (dp : Int)) = false := by simp; omega
              go_wp2
              go_ret
              exact ⟨by rw [HF.out]; rfl, bthen hb0 (Nat.le_refl _) hbz7⟩
          · have HF := Lib.hid (HC6.out.trans (if_pos hc2))
            have hd4 : (c2 != 0) = true := by simp [hc2]
            clear hc2
            go_wp2
            go_ret
            exact ⟨by rw [HF.out]; rfl, bthen hb0 (Nat.le_refl _) hbz6⟩
    · have HF := Lib.hid (HC3.out.trans (if_pos hc1))
      have hd3 : (c1 != 0) = true := by simp [hc1]
      clear hc1
      go_wp2
      go_ret
      exact ⟨by rw [HF.out]; rfl, bthen hb0 (Nat.le_refl _) hbz2⟩
  · have HF := Lib.hid (HC0.out hc0)
    have hd : (c0 != 0) = true := by simp [hc0]
    clear hc0
    go_wp2
    go_ret
    exact ⟨by rw [HF.out]; rfl, bthen hb0 (Nat.le_refl _) hbz1⟩

/-- A fault's cells. -/
def faultV (f : Int × Int) : Value := .agg #[.int .i64 f.1, .int .i64 f.2]

theorem two_set {W : World} {B : Nat} {a b x y : Value} {t : TypeId} (h : W.heap[B]? = some (.cells #[a, b] t (0, 0))) : ((W.setCell ⟨B, 0, none⟩ x).setCell ⟨B, 1, none⟩ y).heap[B]? = some (.cells #[x, y] t (0, 0)) := by
  simp [World.setCell, h, Array.getElem?_modify]

set_option maxRecDepth 100000 in
set_option maxHeartbeats 2000000 in
theorem dCheck_any (d : DefD) (cs : List Value) (sa : Option Addr) (sc : Nat) (w : World) (h : DefR w cs d sa sc) (hs : SmallD d) :
    Calls Try.prog 6 #[.agg cs.toArray] w fun e w' => e = .returned (faultV (defC d)) ∧ Below w.heap.size w w' := by
  obtain ⟨he, hn63, ht63, hst⟩ := h
  subst he
  have hb0 : Below w.heap.size w ((w.alloc (.cells #[.string d.name, .string d.text, .slice sa d.steps.length sc] 24)).alloc (.cells #[.int .i64 0, .int .i64 0] 29)) := ((Below.refl w.heap.size w).alloc (Nat.le_refl _) _).alloc (by simp) _
  have g0 : ((w.alloc (.cells #[.string d.name, .string d.text, .slice sa d.steps.length sc] 24)).alloc (.cells #[.int .i64 0, .int .i64 0] 29)).heap[w.heap.size]? = some (.cells #[.string d.name, .string d.text, .slice sa d.steps.length sc] 24 (0, 0)) := (Below.heap_alloc _ _ _ (by simp)).trans (World.alloc_heap_new w _)
  have f0 : ((w.alloc (.cells #[.string d.name, .string d.text, .slice sa d.steps.length sc] 24)).alloc (.cells #[.int .i64 0, .int .i64 0] 29)).heap[w.heap.size + 1]? = some (.cells #[.int .i64 0, .int .i64 0] 29 (0, 0)) := by
    have := World.alloc_heap_new (w.alloc (.cells #[.string d.name, .string d.text, .slice sa d.steps.length sc] 24)) (.cells #[.int .i64 0, .int .i64 0] 29)
    rwa [World.size_alloc] at this
  have hsz : ((w.alloc (.cells #[.string d.name, .string d.text, .slice sa d.steps.length sc] 24)).alloc (.cells #[.int .i64 0, .int .i64 0] 29)).heap.size = w.heap.size + 2 := by simp
  have HST := Lib.hid hst
  have HSM := Lib.hid hs
  have hsl := hs.steps
  obtain ⟨_, _, he, hc1, hc2⟩ := hst.form
  cases he
  clear hst hs
  generalize hwz : (w.alloc (.cells #[.string d.name, .string d.text, .slice sa d.steps.length sc] 24)).alloc (.cells #[.int .i64 0, .int .i64 0] 29) = wz at *
  have hsz' : w.heap.size + 2 ≤ wz.heap.size := by omega
  clear hsz
  have hb1 : Below wz.heap.size wz (wz.alloc (.cells #[.string d.name] 9)) := (Below.refl _ _).alloc (Nat.le_refl _) _
  have HT1 : Hid (Calls Try.prog 14 #[.slice (some ⟨wz.heap.size, 0, none⟩) 1 1] (wz.alloc (.cells #[.string d.name] 9)) fun e w' => e = .returned (.int .i64 (c64 d.name)) ∧ Below (wz.alloc (.cells #[.string d.name] 9)).heap.size (wz.alloc (.cells #[.string d.name] 9)) w') := Lib.hid (by
    have := texts_any [d.name] _ (wz.alloc (.cells #[.string d.name] 9)) (rds_newL (l := strsV [d.name]) wz 9 (by simp [strsV, maxLen])) (fun x hx => by have h1 := HSM.out.name; simp at hx; subst hx; omega)
    have e : textsC [d.name] = c64 d.name := by simp only [textsC, List.map_cons, List.map_nil, firstNZ]; split <;> simp_all
    rw [e] at this; exact this)
  have G0 := Lib.hid g0
  have F0 := Lib.hid f0
  obtain ⟨q0, q1, q2, -, -, -⟩ := cells3h g0
  have HC0 : Hid (c64 d.name ≠ 0 → defC d = (c64 d.name, 0)) := Lib.hid (fun h => by unfold defC; rw [if_pos h])
  have HC1 : Hid (c64 d.name = 0 → checkN (bsN d.text) 4096 ≠ 0 → defC d = (checkN (bsN d.text) 4096, 0)) := Lib.hid (fun h h2 => by unfold defC; rw [if_neg (by simp [h]), if_pos h2])
  have HC2 : Hid (c64 d.name = 0 → checkN (bsN d.text) 4096 = 0 → defC d = stepsC d.steps 0) := Lib.hid (fun h h2 => by unfold defC; rw [if_neg (by simp [h]), if_neg (by simp [h2]), if_neg (by omega)])
  have HTX := Lib.hid (fun W => Check_any d.text 4096 W (by unfold maxLen at ht63; omega))
  generalize c64 d.name = c0 at *
  generalize checkN (bsN d.text) 4096 = c1 at *
  generalize defC d = res at *
  clear g0 f0
  have hd1 : decide ((1024 : Int) < (d.steps.length : Int)) = false := by simp; omega
  go_enter Try.func6, Try.ntmps6
  go_wp2
  go_step3
  go_wp2_with fail
  refine HT1.out.mono ?_
  rintro e w1 ⟨rfl, hb2⟩
  have hbz1 := bthen hb1 (Nat.le_refl _) hb2
  have hbw1 := bthen hb0 (Nat.le_refl _) hbz1
  have f1 := (hbz1.block _ (by omega)).trans F0.out
  have g1 := (hbz1.block _ (by omega)).trans G0.out
  have G1 := Lib.hid g1
  have F1 := Lib.hid f1
  clear q0 q1 q2 hb1 hb2
  obtain ⟨q0, q1, q2, -, -, -⟩ := cells3h g1
  obtain ⟨x0, x1, y0, y1⟩ := cells2 f1
  clear g1 f1
  by_cases hc0 : c0 = 0
  · have hd : (c0 == 0) = true := by simp [hc0]
    have hc0' := Lib.hid hc0
    clear hc0
    go_wp2_with fail
    refine (HTX.out _).mono ?_
    rintro e w2 ⟨rfl, hb2⟩
    have hbz2 := bthen hbz1 (Nat.le_refl _) hb2
    have hbw2 := bthen hb0 (Nat.le_refl _) hbz2
    have f2 := (hbz2.block _ (by omega)).trans F0.out
    have g2 := (hbz2.block _ (by omega)).trans G0.out
    have F2 := Lib.hid f2
    clear q0 q1 q2 x0 x1 y0 y1
    obtain ⟨q0, q1, q2, -, -, -⟩ := cells3h g2
    obtain ⟨x0, x1, y0, y1⟩ := cells2 f2
    clear g2 f2
    by_cases hc1 : c1 = 0
    · have hd2 : (c1 == 0) = true := by simp [hc1]
      have hd3 : (c1 != 0) = false := by simp [hc1]
      have HC := Lib.hid (HC2.out hc0'.out hc1)
      clear hc1
      go_wp2
      go_step3
      go_wp2
      go_loopw [31] (fun i wr => ∃ k : Nat, k ≤ d.steps.length ∧ i = .int .i64 k ∧ Hid (∀ s ∈ d.steps.take k, stepC s = 0) ∧ Hid (Below wz.heap.size wz wr)) (fun i _ => d.steps.length - (intOf i).toNat)
      case atStart => exact ⟨0, by omega, rfl, Lib.hid (by simp), Lib.hid hbz2⟩
      case round =>
        obtain ⟨k, hk, rfl, HE, HB⟩ := hrel
        have hbr := HB.out
        have f3 := (hbr.block _ (by omega)).trans F0.out
        clear q0 q1 q2 x0 x1 y0 y1
        by_cases hlt : k < d.steps.length
        · obtain ⟨g, off, cap, aa, ac, ka, kc, ba, bc, he, z1, z2, hn, hat⟩ := (HST.out.below (bthen hb0 (Nat.le_refl _) hbr)).at hlt
          cases he
          obtain ⟨c0', c1', c2', c3', c4', c5', c6', c7', c8', c9', c10', c11', c12'⟩ := hat
          have hb4 := hbr.alloc hbr.size (.cells #[.string d.steps[k].name, .string d.steps[k].action, .string d.steps[k].undo, .slice aa d.steps[k].after.length ac, .int .i64 d.steps[k].most, .int .i64 d.steps[k].first, .int .i64 d.steps[k].factor, .int .i64 d.steps[k].limit, .int .u8 (d.steps[k].note.kind : Int), .string d.steps[k].note.text, .slice ka d.steps[k].note.keys.length kc, .slice ba d.steps[k].note.kids.length bc, .int .i64 d.steps[k].note.line] 45)
          have HDS := Lib.hid (dstep_any d.steps[k] _ aa ac ka kc ba bc _ (hn.below ((Below.refl wr.heap.size wr).alloc (Nat.le_refl _) (.cells #[.string d.steps[k].name, .string d.steps[k].action, .string d.steps[k].undo, .slice aa d.steps[k].after.length ac, .int .i64 d.steps[k].most, .int .i64 d.steps[k].first, .int .i64 d.steps[k].factor, .int .i64 d.steps[k].limit, .int .u8 (d.steps[k].note.kind : Int), .string d.steps[k].note.text, .slice ka d.steps[k].note.keys.length kc, .slice ba d.steps[k].note.kids.length bc, .int .i64 d.steps[k].note.line] 45))) (HSM.out.each _ (List.getElem_mem hlt)))
          have HGO := Lib.hid (fun h => take_all (p := fun s => stepC s = 0) hlt HE.out h)
          have HSP := Lib.hid (stepsC_stop hlt HE.out)
          have hk0 : (0 : Int) ≤ (k : Int) := by omega
          have hk1 : (k : Int) < (d.steps.length : Int) := by omega
          clear hn
          generalize stepC d.steps[k] = sc1 at *
          go_wp2_with fail
          refine HDS.out.mono ?_
          rintro e w5 ⟨rfl, hb5⟩
          have hbz5 := hb4.trans (hb5.mono hb4.size)
          have hbw5 := bthen hb0 (Nat.le_refl _) hbz5
          have f5 := (hbz5.block _ (by omega)).trans F0.out
          obtain ⟨x0, x1, y0, y1⟩ := cells2 f5
          have F5 := Lib.hid f5
          clear f5 c0' c1' c2' c3' c4' c5' c6' c7' c8' c9' c10' c11' c12'
          by_cases hs1 : sc1 = 0
          · have hd4 : (sc1 == 0) = true := by simp [hs1]
            have HG := Lib.hid (HGO.out hs1)
            clear hs1
            go_wp2
            go_roundw
            case rel => exact ⟨k + 1, by omega, by go_num, HG, Lib.hid hbz5⟩
            case measure => simp [intOf]; omega
          · have hd4 : (sc1 == 0) = false := by simp [hs1]
            have HF := Lib.hid (HC.out.trans (HSP.out hs1))
            clear hs1
            go_wp2
            have hs2 := two_set (x := .int .i64 sc1) (y := .int .i64 ((k : Int) + 1)) F5.out
            have hbw := (hbw5).setCell (p := ⟨w.heap.size + 1, 0, none⟩) (by show w.heap.size ≤ w.heap.size + 1; omega) (.int .i64 sc1)
            have hbw := hbw.setCell (p := ⟨w.heap.size + 1, 1, none⟩) (by show w.heap.size ≤ w.heap.size + 1; omega) (.int .i64 ((k : Int) + 1))
            generalize (w5.setCell ⟨w.heap.size + 1, 0, none⟩ (.int .i64 sc1)).setCell ⟨w.heap.size + 1, 1, none⟩ (.int .i64 ((k : Int) + 1)) = wf at *
            obtain ⟨z0, z1, -, -⟩ := cells2 hs2
            try rw [Exit.noGoto_ret]
            refine bodyPost_ret (v := .agg #[.int .i64 sc1, .int .i64 ((k : Int) + 1)]) (by simp [results, Try.results6, go_sem, z0, z1]) rfl ⟨by rw [HF.out]; rfl, hbw⟩
        · have HF := Lib.hid (HC.out.trans (stepsC_all (by have h := HE.out; rwa [List.take_of_length_le (by omega)] at h)))
          obtain ⟨x0, x1, y0, y1⟩ := cells2 f3
          have F3 := Lib.hid f3
          have hbw3 := bthen hb0 (Nat.le_refl _) hbr
          clear f3
          go_wp2
          have hs2 := two_set (x := .int .i64 0) (y := .int .i64 0) F3.out
          have hbw := (hbw3).setCell (p := ⟨w.heap.size + 1, 0, none⟩) (by show w.heap.size ≤ w.heap.size + 1; omega) (.int .i64 0)
          have hbw := hbw.setCell (p := ⟨w.heap.size + 1, 1, none⟩) (by show w.heap.size ≤ w.heap.size + 1; omega) (.int .i64 0)
          generalize (wr.setCell ⟨w.heap.size + 1, 0, none⟩ (.int .i64 0)).setCell ⟨w.heap.size + 1, 1, none⟩ (.int .i64 0) = wf at *
          obtain ⟨z0, z1, -, -⟩ := cells2 hs2
          try rw [Exit.noGoto_ret]
          refine bodyPost_ret (v := .agg #[.int .i64 0, .int .i64 0]) (by simp [results, Try.results6, go_sem, z0, z1]) rfl ⟨by rw [HF.out]; rfl, hbw⟩
    · have hd2 : (c1 == 0) = false := by simp [hc1]
      have hd3 : (c1 != 0) = true := by simp [hc1]
      have HF := Lib.hid (HC1.out hc0'.out hc1)
      clear hc1
      go_wp2
      have hs2 := two_set (x := .int .i64 c1) (y := .int .i64 0) F2.out
      have hbw := (hbw2).setCell (p := ⟨w.heap.size + 1, 0, none⟩) (by show w.heap.size ≤ w.heap.size + 1; omega) (.int .i64 c1)
      have hbw := hbw.setCell (p := ⟨w.heap.size + 1, 1, none⟩) (by show w.heap.size ≤ w.heap.size + 1; omega) (.int .i64 0)
      generalize (w2.setCell ⟨w.heap.size + 1, 0, none⟩ (.int .i64 c1)).setCell ⟨w.heap.size + 1, 1, none⟩ (.int .i64 0) = wf at *
      obtain ⟨z0, z1, -, -⟩ := cells2 hs2
      try rw [Exit.noGoto_ret]
      refine bodyPost_ret (v := .agg #[.int .i64 c1, .int .i64 0]) (by simp [results, Try.results6, go_sem, z0, z1]) rfl ⟨by rw [HF.out]; rfl, hbw⟩
  · have hd : (c0 == 0) = false := by simp [hc0]
    have hd2 : (c0 != 0) = true := by simp [hc0]
    have HF := Lib.hid (HC0.out hc0)
    clear hc0
    go_wp2
    have hs2 := two_set (x := .int .i64 c0) (y := .int .i64 0) F1.out
    have hbw := (hbw1).setCell (p := ⟨w.heap.size + 1, 0, none⟩) (by show w.heap.size ≤ w.heap.size + 1; omega) (.int .i64 c0)
    have hbw := hbw.setCell (p := ⟨w.heap.size + 1, 1, none⟩) (by show w.heap.size ≤ w.heap.size + 1; omega) (.int .i64 0)
    generalize (w1.setCell ⟨w.heap.size + 1, 0, none⟩ (.int .i64 c0)).setCell ⟨w.heap.size + 1, 1, none⟩ (.int .i64 0) = wf at *
    obtain ⟨z0, z1, -, -⟩ := cells2 hs2
    try rw [Exit.noGoto_ret]
    refine bodyPost_ret (v := .agg #[.int .i64 c0, .int .i64 0]) (by simp [results, Try.results6, go_sem, z0, z1]) rfl ⟨by rw [HF.out]; rfl, hbw⟩
end Go.Proofs.Ytgafjjgnbcjmpaa

/-
  rescriptref21: None, step, Check, Small: contracts.
-/
namespace Go.Proofs.Ytgafjjgnbcjmpaa
open Go Go.RowKit Go.WideShapes

theorem fitsB_no {l : List Int} {k : Nat} (hk : k < l.length) (h : l[k] < 0 ∨ 999999999 < l[k]) : fitsB l = false := by
  rw [Bool.eq_false_iff]; intro hh
  have := List.all_eq_true.1 hh l[k] (List.getElem_mem hk)
  simp at this; omega
theorem fitsB_all {l : List Int} {k : Nat} (hk : ¬ k < l.length) (h : ∀ x ∈ l.take k, 0 ≤ x ∧ x ≤ 999999999) : fitsB l = true := by
  rw [List.take_of_length_le (by omega)] at h
  unfold fitsB; rw [List.all_eq_true]; intro x hx; simpa using h x hx

end Go.Proofs.Ytgafjjgnbcjmpaa

/-
  rescriptref21: Check, Small: contracts.
-/
namespace Go.Proofs.Ytgafjjgnbcjmpaa
open Go Go.RowKit Go.WideShapes

theorem smallDef_no {d : DefD} {k : Nat} (hk : k < d.steps.length) (h : smallStep d.steps[k] = false) : smallDef d = false := by
  rw [Bool.eq_false_iff]; intro hh
  simp only [smallDef, Bool.and_eq_true, List.all_eq_true] at hh
  rw [hh.2 _ (List.getElem_mem hk)] at h; cases h
theorem smallDef_all {d : DefD} {k : Nat} (hk : ¬ k < d.steps.length) (h1 : d.name.size ≤ 200) (h2 : d.text.size ≤ 5000) (h3 : d.steps.length ≤ 30) (h : ∀ s ∈ d.steps.take k, smallStep s = true) : smallDef d = true := by
  rw [List.take_of_length_le (by omega)] at h
  simp only [smallDef, Bool.and_eq_true, List.all_eq_true, decide_eq_true_eq]
  exact ⟨⟨⟨h1, h2⟩, h3⟩, h⟩

set_option maxRecDepth 100000 in
set_option maxHeartbeats 4000000 in
theorem rdSmall_any (d : DefD) (cs : List Value) (sa : Option Addr) (sc : Nat) (w : World) (h : DefR w cs d sa sc) :
    Calls Try.prog 5 #[.agg cs.toArray] w fun e w' => e = .returned (.bool (smallDef d)) ∧ Below w.heap.size w w' := by
  obtain ⟨he, hn63, ht63, hst⟩ := h
  subst he
  have hb0 := (Below.refl w.heap.size w).alloc (Nat.le_refl _) (.cells #[.string d.name, .string d.text, .slice sa d.steps.length sc] 24)
  have g0 := World.alloc_heap_new w (.cells #[.string d.name, .string d.text, .slice sa d.steps.length sc] 24)
  have HST := Lib.hid hst
  obtain ⟨_, _, he, hc1, hc2⟩ := hst.form
  cases he
  unfold maxLen at hn63 ht63
  clear hst
  generalize hwz : w.alloc (.cells #[.string d.name, .string d.text, .slice sa d.steps.length sc] 24) = wz at *
  have G0 := Lib.hid g0
  have hlt0 := (Array.getElem?_eq_some_iff.1 g0).1
  obtain ⟨q0, q1, q2, -, -, -⟩ := cells3h g0
  clear g0
  by_cases h1 : 200 < d.name.size
  · have HF : Hid (smallDef d = false) := Lib.hid (by simp only [smallDef]; rw [decide_eq_false (by omega)]; rfl)
    have hd1 : decide ((200 : Int) < (d.name.size : Int)) = true := by simp; omega
    go_enter Try.func5, Try.ntmps5
    go_wp2
    go_ret
    exact ⟨by rw [HF.out]; rfl, hb0⟩
  have hd1 : decide ((200 : Int) < (d.name.size : Int)) = false := by simp; omega
  by_cases h2 : 5000 < d.text.size
  · have HF : Hid (smallDef d = false) := Lib.hid (by simp only [smallDef]; rw [decide_eq_false (p := d.text.size ≤ 5000) (by omega), Bool.and_false]; rfl)
    have hd2 : decide ((5000 : Int) < (d.text.size : Int)) = true := by simp; omega
    go_enter Try.func5, Try.ntmps5
    go_wp2
    go_ret
    exact ⟨by rw [HF.out]; rfl, hb0⟩
  have hd2 : decide ((5000 : Int) < (d.text.size : Int)) = false := by simp; omega
  by_cases h3 : 30 < d.steps.length
  · have HF : Hid (smallDef d = false) := Lib.hid (by simp only [smallDef]; rw [decide_eq_false (p := d.steps.length ≤ 30) (by omega), Bool.and_false]; rfl)
    have hd3 : decide ((30 : Int) < (d.steps.length : Int)) = true := by simp; omega
    go_enter Try.func5, Try.ntmps5
    go_wp2
    go_ret
    exact ⟨by rw [HF.out]; rfl, hb0⟩
  have hd3 : decide ((30 : Int) < (d.steps.length : Int)) = false := by simp; omega
  go_enter Try.func5, Try.ntmps5
  go_wp2
  go_loopg [3] (d.steps.length + 1) (fun gk i wr => ∃ k : Nat, k + gk = d.steps.length + 1 ∧ k ≤ d.steps.length ∧ i = .int .i64 k ∧ Hid (∀ s ∈ d.steps.take k, smallStep s = true) ∧ Hid (Below wz.heap.size wz wr))
  case atStart => exact ⟨0, by omega, by omega, rfl, Lib.hid (by simp), Lib.hid (Below.refl _ _)⟩
  case round =>
    obtain ⟨k, hgk, hk, rfl, HE, HB⟩ := hrel
    have hg : gk = d.steps.length + 1 - k := by omega
    subst hg
    clear hgk
    have hbr := HB.out
    have hbwr := bthen hb0 (Nat.le_refl _) hbr
    have g3 := (hbr.block _ hlt0).trans G0.out
    clear q0 q1 q2
    obtain ⟨q0, q1, q2, -, -, -⟩ := cells3h g3
    clear g3
    by_cases hlt : k < d.steps.length
    · obtain ⟨g, off, cap, aa, ac, ka, kc, ba, bc, he, z1, z2, hn, hat⟩ := (HST.out.below hbwr).at hlt
      cases he
      obtain ⟨c0', c1', c2', c3', c4', c5', c6', c7', c8', c9', c10', c11', c12'⟩ := hat
      have hba := (Below.refl wr.heap.size wr).alloc (Nat.le_refl _) (.cells #[.string d.steps[k].name, .string d.steps[k].action, .string d.steps[k].undo, .slice aa d.steps[k].after.length ac, .int .i64 d.steps[k].most, .int .i64 d.steps[k].first, .int .i64 d.steps[k].factor, .int .i64 d.steps[k].limit, .int .u8 (d.steps[k].note.kind : Int), .string d.steps[k].note.text, .slice ka d.steps[k].note.keys.length kc, .slice ba d.steps[k].note.kids.length bc, .int .i64 d.steps[k].note.line] 45)
      have ga := World.alloc_heap_new wr (.cells #[.string d.steps[k].name, .string d.steps[k].action, .string d.steps[k].undo, .slice aa d.steps[k].after.length ac, .int .i64 d.steps[k].most, .int .i64 d.steps[k].first, .int .i64 d.steps[k].factor, .int .i64 d.steps[k].limit, .int .u8 (d.steps[k].note.kind : Int), .string d.steps[k].note.text, .slice ka d.steps[k].note.keys.length kc, .slice ba d.steps[k].note.kids.length bc, .int .i64 d.steps[k].note.line] 45)
      have HNO := Lib.hid (smallDef_no hlt)
      have HGO := Lib.hid (fun h => take_all (p := fun s => smallStep s = true) hlt HE.out h)
      have HSS : Hid (smallStep d.steps[k] = (decide (d.steps[k].name.size ≤ 200) && decide (d.steps[k].action.size ≤ 200) && decide (d.steps[k].undo.size ≤ 200) && decide (d.steps[k].after.length ≤ 70) && smallTB d.steps[k].note && d.steps[k].after.all (fun a => decide (a.size ≤ 200)))) := Lib.hid rfl
      have hok := hn.ok
      have hs1 := hok.name
      have hs2 := hok.action
      have hs3 := hok.undo
      unfold maxLen at hs1 hs2 hs3
      have hs4 := rds_len2 hn.after
      have HN := Lib.hid hn
      have hk0 : (0 : Int) ≤ (k : Int) := by omega
      have hk1 : (k : Int) < (d.steps.length : Int) := by omega
      have HOK := Lib.hid hok
      clear hn hok
      generalize d.steps[k] = s at *
      generalize hwA : wr.alloc (.cells #[.string s.name, .string s.action, .string s.undo, .slice aa s.after.length ac, .int .i64 s.most, .int .i64 s.first, .int .i64 s.factor, .int .i64 s.limit, .int .u8 (s.note.kind : Int), .string s.note.text, .slice ka s.note.keys.length kc, .slice ba s.note.kids.length bc, .int .i64 s.note.line] 45) = wA at *
      obtain ⟨p0, p1, p2, p3, p4, p5, p6, p7, p8, p9, p10, p11, p12⟩ := cells13q ga
      have GA := Lib.hid ga
      have hba' := bthen hbr (Nat.le_refl _) hba
      have hltA := (Array.getElem?_eq_some_iff.1 ga).1
      clear ga
      by_cases e1 : 200 < s.name.size
      · have HF := Lib.hid (HNO.out (by rw [HSS.out, decide_eq_false (p := s.name.size ≤ 200) (by omega)]; rfl))
        have hd4 : decide ((200 : Int) < (s.name.size : Int)) = true := by simp; omega
        go_wp2
        go_ret
        exact ⟨by rw [HF.out]; rfl, bthen hb0 (Nat.le_refl _) hba'⟩
      have hd4 : decide ((200 : Int) < (s.name.size : Int)) = false := by simp; omega
      by_cases e2 : 200 < s.action.size
      · have HF := Lib.hid (HNO.out (by rw [HSS.out, decide_eq_false (p := s.action.size ≤ 200) (by omega), Bool.and_false]; rfl))
        have hd5 : decide ((200 : Int) < (s.action.size : Int)) = true := by simp; omega
        go_wp2
        go_ret
        exact ⟨by rw [HF.out]; rfl, bthen hb0 (Nat.le_refl _) hba'⟩
      have hd5 : decide ((200 : Int) < (s.action.size : Int)) = false := by simp; omega
      by_cases e3 : 200 < s.undo.size
      · have HF := Lib.hid (HNO.out (by rw [HSS.out, decide_eq_false (p := s.undo.size ≤ 200) (by omega), Bool.and_false]; rfl))
        have hd6 : decide ((200 : Int) < (s.undo.size : Int)) = true := by simp; omega
        go_wp2
        go_ret
        exact ⟨by rw [HF.out]; rfl, bthen hb0 (Nat.le_refl _) hba'⟩
      have hd6 : decide ((200 : Int) < (s.undo.size : Int)) = false := by simp; omega
      by_cases e4 : 70 < s.after.length
      · have HF := Lib.hid (HNO.out (by rw [HSS.out, decide_eq_false (p := s.after.length ≤ 70) (by omega), Bool.and_false]; rfl))
        have hd7 : decide ((70 : Int) < (s.after.length : Int)) = true := by simp; omega
        go_wp2
        go_ret
        exact ⟨by rw [HF.out]; rfl, bthen hb0 (Nat.le_refl _) hba'⟩
      have hd7 : decide ((70 : Int) < (s.after.length : Int)) = false := by simp; omega
      have HSMT := Lib.hid (SmallT_any s.note _ wA (HN.out.note.belowW hba))
      have HS1 : Hid (smallStep s = (smallTB s.note && s.after.all (fun a => decide (a.size ≤ 200)))) := Lib.hid (by rw [HSS.out, decide_eq_true (p := s.name.size ≤ 200) (by omega), decide_eq_true (p := s.action.size ≤ 200) (by omega), decide_eq_true (p := s.undo.size ≤ 200) (by omega), decide_eq_true (p := s.after.length ≤ 70) (by omega)]; rfl)
      generalize smallTB s.note = sb at *
      have HAF := Lib.hid HN.out.after
      have HAFO := Lib.hid HOK.out.after
      go_wp2_with fail
      refine HSMT.out.mono ?_
      rintro e w5 ⟨rfl, hb5⟩
      have hbz5 := bthen hba' (Nat.le_refl _) hb5
      have g5 := (hb5.block _ hltA).trans GA.out
      clear p0 p1 p2 p3 p4 p5 p6 p7 p8 p9 p10 p11 p12 c0' c1' c2' c3' c4' c5' c6' c7' c8' c9' c10' c11' c12' q0 q1 q2
      obtain ⟨p0, p1, p2, p3, p4, p5, p6, p7, p8, p9, p10, p11, p12⟩ := cells13q g5
      cases sb with
      | false =>
        have HF := Lib.hid (HNO.out (by rw [HS1.out]; rfl))
        clear g5
        go_wp2
        go_ret
        exact ⟨by rw [HF.out]; rfl, bthen hb0 (Nat.le_refl _) hbz5⟩
      | true =>
        have HS2 : Hid (smallStep s = s.after.all (fun a => decide (a.size ≤ 200))) := Lib.hid (by rw [HS1.out]; rfl)
        have HA5 := Lib.hid ((HAF.out.below hba).below hb5)
        clear g5 HS1 HSS HSMT hwA
        go_wp2
        go_loop [5] (fun i => ∃ j : Nat, j ≤ s.after.length ∧ i = .int .i64 j ∧ Hid (∀ a ∈ s.after.take j, a.size ≤ 200)) (fun i => s.after.length - (intOf i).toNat)
        case atStart => exact ⟨0, by omega, rfl, Lib.hid (by simp)⟩
        case round =>
          obtain ⟨j, hj, rfl, HE2⟩ := hrel
          by_cases hlt2 : j < s.after.length
          · obtain ⟨g', off', rfl, y1, y2, y3⟩ := strs_at HA5.out hlt2
            have hss := HAFO.out _ (List.getElem_mem hlt2)
            have HN2 : Hid (200 < s.after[j].size → smallStep s = false) := Lib.hid (fun h => by
              rw [HS2.out, Bool.eq_false_iff]; intro hh
              have := List.all_eq_true.1 hh _ (List.getElem_mem hlt2)
              simp at this; omega)
            have HG2 := Lib.hid (fun h => take_all (p := fun a : ByteArray => a.size ≤ 200) hlt2 HE2.out h)
            unfold maxLen at hss
            generalize s.after[j] = s1 at *
            have hj0 : (0 : Int) ≤ (j : Int) := by omega
            have hj1 : (j : Int) < (s.after.length : Int) := by omega
            by_cases e5 : 200 < s1.size
            · have HF := Lib.hid (HNO.out (HN2.out e5))
              have hd8 : decide ((200 : Int) < (s1.size : Int)) = true := by simp; omega
              go_wp2
              go_ret
              exact ⟨by rw [HF.out]; rfl, bthen hb0 (Nat.le_refl _) hbz5⟩
            · have HG3 := Lib.hid (HG2.out (by omega))
              have hd8 : decide ((200 : Int) < (s1.size : Int)) = false := by simp; omega
              go_wp2
              go_round
              case rel => exact ⟨j + 1, by omega, by go_num, HG3⟩
              case measure => simp [intOf]; omega
          · have HG := Lib.hid (HGO.out (by
              rw [HS2.out, List.all_eq_true]
              have h := HE2.out
              rw [List.take_of_length_le (by omega)] at h
              intro a ha; simpa using h a ha))
            go_wp2
            go_roundg (d.steps.length + 1 - (k + 1))
            case measure => omega
            case rel => exact ⟨k + 1, by omega, by omega, by go_num, HG, Lib.hid hbz5⟩
    · have HF := Lib.hid (smallDef_all hlt (by omega) (by omega) (by omega) HE.out)
      go_wp2
      go_ret
      exact ⟨by rw [HF.out]; rfl, hbwr⟩
end Go.Proofs.Ytgafjjgnbcjmpaa
