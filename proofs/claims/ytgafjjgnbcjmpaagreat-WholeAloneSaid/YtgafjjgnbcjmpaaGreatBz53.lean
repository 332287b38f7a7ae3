/-
  WholeAlone: the walk.
-/
import Derived.Test.YtgafjjgnbcjmpaaGreatBz14
import Derived.Test.YtgafjjgnbcjmpaaGreatBz52
namespace Go.Proofs.YtgafjjgnbcjmpaaGreat
open Go Go.RowKit Go.Maps Go.WideShapes

set_option maxRecDepth 100000 in
set_option maxHeartbeats 8000000 in
theorem WholeAlone_any (s : StepD) (aa : Option Addr) (ac : Nat) (ka : Option Addr) (kc : Nat) (ba : Option Addr) (bc : Nat) (l : List AskQ) (v : Value) (w : World) (hx : StepR w [.string s.name, .string s.action, .string s.undo, .slice aa s.after.length ac, .int .i64 s.most, .int .i64 s.first, .int .i64 s.factor, .int .i64 s.limit, .int .u8 (s.note.kind : Int), .string s.note.text, .slice ka s.note.keys.length kc, .slice ba s.note.kids.length bc, .int .i64 s.note.line] s aa ac ka kc ba bc) (hl : RdS w v 7 l.length (l.flatMap askC)) :
    Calls Tryz.prog 3 #[.agg #[.string s.name, .string s.action, .string s.undo, .slice aa s.after.length ac, .int .i64 s.most, .int .i64 s.first, .int .i64 s.factor, .int .i64 s.limit, .int .u8 (s.note.kind : Int), .string s.note.text, .slice ka s.note.keys.length kc, .slice ba s.note.kids.length bc, .int .i64 s.note.line], v] w fun e w' => e = .returned (.bool true) ∧ Below w.heap.size w w' := by
  have hok := hx.ok
  have hlen := rds_len hl
  obtain ⟨va0, vcap, rfl⟩ := hl.form
  have HOK := Lib.hid hok
  have hb0 : Below w.heap.size w (w.alloc (.cells #[.string s.name, .string s.action, .string s.undo, .slice aa s.after.length ac, .int .i64 s.most, .int .i64 s.first, .int .i64 s.factor, .int .i64 s.limit, .int .u8 (s.note.kind : Int), .string s.note.text, .slice ka s.note.keys.length kc, .slice ba s.note.kids.length bc, .int .i64 s.note.line] 29)) := (Below.refl _ _).alloc (Nat.le_refl _) _
  have g0 := World.alloc_heap_new w (.cells #[.string s.name, .string s.action, .string s.undo, .slice aa s.after.length ac, .int .i64 s.most, .int .i64 s.first, .int .i64 s.factor, .int .i64 s.limit, .int .u8 (s.note.kind : Int), .string s.note.text, .slice ka s.note.keys.length kc, .slice ba s.note.kids.length bc, .int .i64 s.note.line] 29)
  have HL := Lib.hid hl
  clear hx hok hl
  go_enter Tryz.func3, Tryz.ntmps3
  go_upto_region 1 with fail
  generalize hP : w.heap.size = eX at *
  generalize w.alloc (.cells #[.string s.name, .string s.action, .string s.undo, .slice aa s.after.length ac, .int .i64 s.most, .int .i64 s.first, .int .i64 s.factor, .int .i64 s.limit, .int .u8 (s.note.kind : Int), .string s.note.text, .slice ka s.note.keys.length kc, .slice ba s.note.kids.length bc, .int .i64 s.note.line] 29) = w0 at *
  have HG0 := Lib.hid g0
  have HB0 := Lib.hid hb0
  have hX0 := (Array.getElem?_eq_some_iff.1 g0).1
  clear hb0 g0
  go_wp2_with fail
  refine (awakeOne_any w0).mono ?_
  rintro e w1 ⟨rfl, hb1⟩
  have g1 := (hb1.block _ hX0).trans HG0.out
  have hB1 : Below eX w w1 := HB0.out.trans (hb1.mono (by omega))
  have hX1 := (Array.getElem?_eq_some_iff.1 g1).1
  obtain ⟨f0, f1, f2, f3, f8, f9, f10, f11, f12⟩ := fro13 g1
  obtain ⟨c0, c1, c2, c3, c4, c5, c6, c7, c8, c9, c10, c11, c12⟩ := cells13x g1
  clear hb1 HG0 HB0
  go_upto_region 4 with fail
  have g2 := set9 (.string { data := #[97] }) (.string { data := #[100, 111] }) (.string { data := #[] }) (.slice none 0 0) (.int .u8 0) (.string { data := #[] }) (.slice none 0 0) (.slice none 0 0) (.int .i64 0) g1
  have hB2 := bset (v := .int .i64 0) (o := 12) (b := eX) (bset (v := .slice none 0 0) (o := 11) (b := eX) (bset (v := .slice none 0 0) (o := 10) (b := eX) (bset (v := .string { data := #[] }) (o := 9) (b := eX) (bset (v := .int .u8 0) (o := 8) (b := eX) (bset (v := .slice none 0 0) (o := 3) (b := eX) (bset (v := .string { data := #[] }) (o := 2) (b := eX) (bset (v := .string { data := #[100, 111] }) (o := 1) (b := eX) (bset (v := .string { data := #[97] }) (o := 0) (b := eX) hB1 (Nat.le_refl _)) (Nat.le_refl _)) (Nat.le_refl _)) (Nat.le_refl _)) (Nat.le_refl _)) (Nat.le_refl _)) (Nat.le_refl _)) (Nat.le_refl _)) (Nat.le_refl _)
  generalize (((((((((w1.setCell ⟨eX, 0, none⟩ (.string { data := #[97] })).setCell ⟨eX, 1, none⟩ (.string { data := #[100, 111] })).setCell ⟨eX, 2, none⟩ (.string { data := #[] })).setCell ⟨eX, 3, none⟩ (.slice none 0 0)).setCell ⟨eX, 8, none⟩ (.int .u8 0)).setCell ⟨eX, 9, none⟩ (.string { data := #[] })).setCell ⟨eX, 10, none⟩ (.slice none 0 0)).setCell ⟨eX, 11, none⟩ (.slice none 0 0)).setCell ⟨eX, 12, none⟩ (.int .i64 0)) = w2 at *
  clear c0 c1 c2 c3 c4 c5 c6 c7 c8 c9 c10 c11 c12 f0 f1 f2 f3 f8 f9 f10 f11 f12 g1 hB1
  obtain ⟨c0, c1, c2, c3, c4, c5, c6, c7, c8, c9, c10, c11, c12⟩ := cells13x g2
  have HB2 := Lib.hid hB2
  have HG2 := Lib.hid g2
  have hX2 := (Array.getElem?_eq_some_iff.1 g2).1
  clear hB2 g2
  go_upto_region 5 with fail
  have hb3 : Below w2.heap.size w2 ((w2.alloc (.cells #[.string { data := #[97] }, .string { data := #[100, 111] }, .string { data := #[] }, .slice none 0 0, .int .i64 s.most, .int .i64 s.first, .int .i64 s.factor, .int .i64 s.limit, .int .u8 0, .string { data := #[] }, .slice none 0 0, .slice none 0 0, .int .i64 0] 29)).alloc (.cells #[.string { data := #[115] }, .string { data := #[] }, .slice (some ⟨w2.heap.size, 0, none⟩) 1 1] 34)) := ((Below.refl _ w2).alloc (Nat.le_refl _) _).alloc (by simp) _
  have g3 : ((w2.alloc (.cells #[.string { data := #[97] }, .string { data := #[100, 111] }, .string { data := #[] }, .slice none 0 0, .int .i64 s.most, .int .i64 s.first, .int .i64 s.factor, .int .i64 s.limit, .int .u8 0, .string { data := #[] }, .slice none 0 0, .slice none 0 0, .int .i64 0] 29)).alloc (.cells #[.string { data := #[115] }, .string { data := #[] }, .slice (some ⟨w2.heap.size, 0, none⟩) 1 1] 34)).heap[w2.heap.size]? = some (.cells #[.string { data := #[97] }, .string { data := #[100, 111] }, .string { data := #[] }, .slice none 0 0, .int .i64 s.most, .int .i64 s.first, .int .i64 s.factor, .int .i64 s.limit, .int .u8 0, .string { data := #[] }, .slice none 0 0, .slice none 0 0, .int .i64 0] 29 (0, 0)) := (Below.heap_alloc _ _ _ (by simp)).trans (World.alloc_heap_new w2 _)
  have g4 : ((w2.alloc (.cells #[.string { data := #[97] }, .string { data := #[100, 111] }, .string { data := #[] }, .slice none 0 0, .int .i64 s.most, .int .i64 s.first, .int .i64 s.factor, .int .i64 s.limit, .int .u8 0, .string { data := #[] }, .slice none 0 0, .slice none 0 0, .int .i64 0] 29)).alloc (.cells #[.string { data := #[115] }, .string { data := #[] }, .slice (some ⟨w2.heap.size, 0, none⟩) 1 1] 34)).heap[w2.heap.size + 1]? = some (.cells #[.string { data := #[115] }, .string { data := #[] }, .slice (some ⟨w2.heap.size, 0, none⟩) 1 1] 34 (0, 0)) := by
    have := World.alloc_heap_new (w2.alloc (.cells #[.string { data := #[97] }, .string { data := #[100, 111] }, .string { data := #[] }, .slice none 0 0, .int .i64 s.most, .int .i64 s.first, .int .i64 s.factor, .int .i64 s.limit, .int .u8 0, .string { data := #[] }, .slice none 0 0, .slice none 0 0, .int .i64 0] 29)) (.cells #[.string { data := #[115] }, .string { data := #[] }, .slice (some ⟨w2.heap.size, 0, none⟩) 1 1] 34)
    rwa [World.size_alloc] at this
  generalize ((w2.alloc (.cells #[.string { data := #[97] }, .string { data := #[100, 111] }, .string { data := #[] }, .slice none 0 0, .int .i64 s.most, .int .i64 s.first, .int .i64 s.factor, .int .i64 s.limit, .int .u8 0, .string { data := #[] }, .slice none 0 0, .slice none 0 0, .int .i64 0] 29)).alloc (.cells #[.string { data := #[115] }, .string { data := #[] }, .slice (some ⟨w2.heap.size, 0, none⟩) 1 1] 34)) = w3 at *
  have hB3 : Below eX w w3 := HB2.out.trans (hb3.mono (by omega))
  have hX3 := (Array.getElem?_eq_some_iff.1 g4).1
  have gX := (hb3.block _ hX2).trans HG2.out
  have HD := Lib.hid (uniD_r (W := w3) (name := { data := #[97] }) (act := { data := #[100, 111] }) (m := s.most) (f := s.first) (k := s.factor) (l := s.limit) (by decide) (by decide) HOK.out.most HOK.out.first HOK.out.factor HOK.out.limit g3)
  have HB3 := Lib.hid hB3
  have HGX := Lib.hid gX
  have HG4 := Lib.hid g4
  clear c0 c1 c2 c3 c4 c5 c6 c7 c8 c9 c10 c11 c12 hb3 g3 hB3 HG2 HB2
  obtain ⟨d0, d1, d2, -, -, -⟩ := cells3h g4
  clear g4 gX
  generalize hQ : w2.heap.size = eS at *
  have hHi : (l.length : Int) < 9223372036854775808 := by omega
  by_cases h100 : (100 : Int) < (l.length : Int)
  · have dq : decide ((100 : Int) < (l.length : Int)) = true := decide_eq_true h100
    go_wp2_with fail
    go_ret
    exact ⟨rfl, by rw [hP]; exact HB3.out⟩
  have dq : decide ((100 : Int) < (l.length : Int)) = false := decide_eq_false h100
  have HCL := Lib.hid (Clean_any (uniD { data := #[97] } { data := #[100, 111] } s.most s.first s.factor s.limit) _ _ _ w3 HD.out (uniD_small (by decide) (by decide)))
  rcases hcb : cleanB (uniD { data := #[97] } { data := #[100, 111] } s.most s.first s.factor s.limit) with _ | _
  · rw [hcb] at HCL
    go_wp2_with fail
    refine HCL.out.mono ?_
    rintro e w4 ⟨rfl, hb4⟩
    have HB4 := Lib.hid (HB3.out.trans (hb4.mono (by omega)))
    clear hb4
    go_wp2_with fail
    go_ret
    exact ⟨rfl, by rw [hP]; exact HB4.out⟩
  rw [hcb] at HCL
  go_wp2_with fail
  refine HCL.out.mono ?_
  rintro e w4 ⟨rfl, hb4⟩
  have HB4 := Lib.hid (HB3.out.trans (hb4.mono (by omega)))
  have HD4 := Lib.hid (HD.out.below hb4)
  have hg4 := (hb4.block _ hX3).trans HG4.out
  have hgx4 := (hb4.block _ (by omega)).trans HGX.out
  have HX4 := Lib.hid hgx4
  have HNW := Lib.hid (New_any (uniD { data := #[97] } { data := #[100, 111] } s.most s.first s.factor s.limit) _ _ _ w4 HD4.out (uniD_small (by decide) (by decide)) hcb)
  have hs4 := hb4.size
  clear d0 d1 d2 HG4 HGX HB3 HD hcb HCL hb4 hgx4
  obtain ⟨d0, d1, d2, -, -, -⟩ := cells3h hg4
  clear hg4
  go_wp2_with fail
  refine HNW.out.mono ?_
  rintro e w5 ⟨k, U, rfl, hkd, hkr0, hS, hb5, hU⟩
  have hkr : k.rs = [[]] := hkr0
  obtain ⟨q1, q2, q3, q4, hq0⟩ : ∃ q1 q2 q3 q4, beginR (uniS { data := #[97] } { data := #[100, 111] } s.most s.first s.factor s.limit) 0 = (q1, q2, q3, q4) := ⟨_, _, _, _, rfl⟩
  have HBG : Hid (∀ W, Calls Tryz.prog 11 #[.agg #[.string { data := #[97] }, .string { data := #[100, 111] }, .string { data := #[] }, .slice none 0 0, .int .i64 s.most, .int .i64 s.first, .int .i64 s.factor, .int .i64 s.limit, .int .u8 0, .string { data := #[] }, .slice none 0 0, .slice none 0 0, .int .i64 0], .int .i64 0] W fun e w' => e = .returned (.agg #[.int .u8 q1, .int .i64 q2, .int .i64 q3, .bool q4]) ∧ Below W.heap.size W w') := Lib.hid (fun W => by
    have := Begin_any (s0 := { data := #[97] }) (s1 := { data := #[100, 111] }) (s2 := { data := #[] }) (af := none) (an := 0) (ac := 0) (m := s.most) (f := s.first) (k := s.factor) (l := s.limit) (nk := 0) (nt := { data := #[] }) (ka := none) (kn := 0) (kc := 0) (da := none) (dn := 0) (dc := 0) (nl := 0) 0 W
    unfold beginR at hq0
    cases hq0
    exact this)
  have hf := uniD_fine (by decide) (by decide) hkd hkr
  have hll : k.d.steps = [uniS { data := #[97] } { data := #[100, 111] } s.most s.first s.factor s.limit] := by rw [hkd]; rfl
  have hl1 : k.d.steps.length = 1 := by rw [hll]; rfl
  have hs5 := hb5.size
  have HB5 := Lib.hid (HB4.out.trans (hb5.mono (by omega)))
  have hgx5 := (hb5.block _ (by omega)).trans HX4.out
  have HX5 := Lib.hid hgx5
  have HS5 := Lib.hid hS
  have HU5 := Lib.hid hU
  clear d0 d1 d2 hS hU hb5
  obtain ⟨c0, c1, c2, c3, c4, c5, c6, c7, c8, c9, c10, c11, c12⟩ := cells13x hgx5
  clear hgx5 HX4 HB4
  go_wp2_with fail
  refine (HBG.out w5).mono ?_
  rintro e w6 ⟨rfl, hb6⟩
  go_upto_region 11 with fail
  have hb7 : Below w6.heap.size w6 (w6.alloc (.cells #[.int .u8 q1, .int .i64 q2, .int .i64 q3, .bool q4] 41)) := (Below.refl _ w6).alloc (Nat.le_refl _) _
  have g7 := World.alloc_heap_new w6 (.cells #[.int .u8 q1, .int .i64 q2, .int .i64 q3, .bool q4] 41)
  generalize hR : w6.heap.size = eR at *
  generalize w6.alloc (.cells #[.int .u8 q1, .int .i64 q2, .int .i64 q3, .bool q4] 41) = w7 at *
  have hb57 : Below w5.heap.size w5 w7 := bthen hb6 (Nat.le_refl _) (hR ▸ hb7)
  have HS7 := Lib.hid (HS5.out.below hb57)
  have hs6 := hb6.size
  have hX7 := (Array.getElem?_eq_some_iff.1 g7).1
  have hU7 : ∀ j, U j → w4.heap.size ≤ j ∧ j < eR := fun j hj => ⟨(HU5.out j hj).1, by have := (HU5.out j hj).2; omega⟩
  have HB7 := Lib.hid (HB5.out.trans (hb57.mono (by omega)))
  have HST := Lib.hid (Start_any k newSag 0 U w7 HS7.out (fun j hj => by have := (hU7 j hj).2; omega) hf (good_new _))
  have HF := Lib.hid hf
  have hkN := HS5.out.bound
  have h1 := start_one (uniS { data := #[97] } { data := #[100, 111] } s.most s.first s.factor s.limit)
  rw [hll, hkr] at HST
  rw [hq0] at h1
  generalize startX [uniS { data := #[97] } { data := #[100, 111] } s.most s.first s.factor s.limit] [[]] newSag 0 = X1 at *
  have HO1 := Lib.hid h1.1
  have HO2 := Lib.hid h1.2
  have HG7 := Lib.hid g7
  have HX7 := Lib.hid ((hb57.block _ (by omega)).trans HX5.out)
  have HU7 := Lib.hid hU7
  have hs7 := hb57.size
  clear c0 c1 c2 c3 c4 c5 c6 c7 c8 c9 c10 c11 c12 hb6 hb7 hb57 h1 g7 hU7 HX5 HB5 HS5 HU5 hf hq0
  go_wp2_with fail
  refine HST.out.mono ?_
  rintro e w8 ⟨v8, rfl, V, va, vc, rfl, hrow, hV8, hS8, hG8, hU8⟩
  have hR8 := hG8.stays hX7 (fun e => by have := (HU7.out eR e).2; omega)
  have hg8 := hR8.1.trans HG7.out
  have hB8 := hG8.below (B := w4.heap.size) (fun j hj => (HU7.out j hj).1) (by omega)
  have HB8 := Lib.hid (HB7.out.trans (hB8.1.mono (by omega)))
  have HL8 := Lib.hid (HL.out.below (by rw [hP]; exact HB8.out))
  have ho := HO2.out
  have hl8 : X1.2.length = 1 := by rw [ho]; rfl
  rw [hl8, ho] at hrow
  rw [hl8]
  obtain ⟨g8, o8, rfl, z0, z1, z2, z3⟩ := ords_one hrow
  dsimp only at z0 z1 z2 z3
  obtain ⟨r0, r1, r2, r3, -, -, -, -⟩ := cells4h hg8
  have hne := neO_same 0 1 q3 false
  have HG8 := Lib.hid hg8
  have HS8 := Lib.hid hS8
  have HU8 := Lib.hid hU8
  have HV8 := Lib.hid hB8.2
  have HNR := Lib.hid hR8.2
  have hs8 := hG8.size
  have HX8 := Lib.hid ((hB8.1.block _ (by omega)).trans HX7.out)
  clear hrow hV8 hS8 hG8 hU8 hR8 hg8 hB8 ho hl8 HST HG7 HS7 HB7 HX7 HU7
  go_upto_region 12 with fail
  refine E_region (S := (fun W => W.cell? ⟨g8, o8, none⟩ = some (.int .i64 0) ∧ W.cell? ⟨g8, o8 + 1, none⟩ = some (.int .i64 1) ∧ W.cell? ⟨g8, o8 + 2, none⟩ = some (.bool false) ∧ W.cell? ⟨g8, o8 + 3, none⟩ = some (.int .i64 q3) ∧ W.cell? ⟨eR, 2, none⟩ = some (.int .i64 q3))) 11 (by kernel_rfl) ⟨z0, z1, z2, z3, r2⟩ (fun _ _ _ _ _ h => h) (fun Q' hQ hK' hHeld => ?_)
  refine E_take0 hQ (fun _ => hHeld) 0 (v := ?av1) rfl rfl (by kernel_rfl) (by kernel_rfl) (by kernel_rfl) (by decide) (by rfl) ?ay1 ?ar1
  case ay1 => (intro w; go_simp; (try with_reducible rfl))
  (try simp only [Act.put, List.setIfInBounds_toArray, List.set_cons_zero, List.set_cons_succ])
  refine E_take0 hQ (fun _ => hHeld) 1 (v := ?av2) rfl rfl (by kernel_rfl) (by kernel_rfl) (by kernel_rfl) (by decide) (by rfl) ?ay2 ?ar2
  case ay2 => (intro w; go_simp; (try with_reducible rfl))
  (try simp only [Act.put, List.setIfInBounds_toArray, List.set_cons_zero, List.set_cons_succ])
  refine E_take0 hQ (fun _ => hHeld) 2 (v := ?av3) rfl rfl (by kernel_rfl) (by kernel_rfl) (by kernel_rfl) (by decide) (by rfl) ?ay3 ?ar3
  case ay3 => (intro w; go_simp; (try with_reducible rfl))
  (try simp only [Act.put, List.setIfInBounds_toArray, List.set_cons_zero, List.set_cons_succ])
  refine E_take0 hQ (fun _ => hHeld) 3 (v := ?av4) rfl rfl (by kernel_rfl) (by kernel_rfl) (by kernel_rfl) (by decide) (by rfl) ?ay4 ?ar4
  case ay4 => (intro w; go_simp; (try with_reducible rfl))
  (try simp only [Act.put, List.setIfInBounds_toArray, List.set_cons_zero, List.set_cons_succ])
  refine E_take0 hQ (fun _ => hHeld) 4 (v := ?av5) rfl rfl (by kernel_rfl) (by kernel_rfl) (by kernel_rfl) (by decide) (by rfl) ?ay5 ?ar5
  case ay5 => (intro w; go_simp; (try with_reducible rfl))
  (try simp only [Act.put, List.setIfInBounds_toArray, List.set_cons_zero, List.set_cons_succ])
  refine E_take0 hQ (fun _ => hHeld) 5 (v := ?av6) rfl rfl (by kernel_rfl) (by kernel_rfl) (by kernel_rfl) (by decide) (by rfl) ?ay6 ?ar6
  case ay6 => (intro w; go_simp; (try with_reducible rfl))
  (try simp only [Act.put, List.setIfInBounds_toArray, List.set_cons_zero, List.set_cons_succ])
  refine E_take hQ hHeld 6 (v := ?av7) rfl rfl (by kernel_rfl) (by kernel_rfl) (by kernel_rfl) (by kernel_rfl) (by kernel_rfl) (by rfl) ?ay7 ?ar7
  case ay7 => (intro w hSw; (try dsimp only at hSw); go_simp; (try with_reducible rfl))
  (try simp only [Act.put, List.setIfInBounds_toArray, List.set_cons_zero, List.set_cons_succ])
  refine E_take0 hQ (fun _ => hHeld) 7 (v := ?av8) rfl rfl (by kernel_rfl) (by kernel_rfl) (by kernel_rfl) (by decide) (by rfl) ?ay8 ?ar8
  case ay8 => (intro w; go_simp; (try with_reducible rfl))
  (try simp only [Act.put, List.setIfInBounds_toArray, List.set_cons_zero, List.set_cons_succ])
  refine E_take hQ hHeld 8 (v := ?av9) rfl rfl (by kernel_rfl) (by kernel_rfl) (by kernel_rfl) (by kernel_rfl) (by kernel_rfl) (by rfl) ?ay9 ?ar9
  case ay9 => (intro w hSw; (try dsimp only at hSw); go_simp; (try with_reducible rfl))
  (try simp only [Act.put, List.setIfInBounds_toArray, List.set_cons_zero, List.set_cons_succ])
  refine E_take0 hQ (fun _ => hHeld) 9 (v := ?av10) rfl rfl (by kernel_rfl) (by kernel_rfl) (by kernel_rfl) (by decide) (by rfl) ?ay10 ?ar10
  case ay10 => (intro w; go_simp; (try with_reducible rfl))
  (try simp only [Act.put, List.setIfInBounds_toArray, List.set_cons_zero, List.set_cons_succ])
  refine E_take0 hQ (fun _ => hHeld) 10 (v := ?av11) rfl rfl (by kernel_rfl) (by kernel_rfl) (by kernel_rfl) (by decide) (by rfl) ?ay11 ?ar11
  case ay11 => (intro w; go_simp; (try with_reducible rfl))
  (try simp only [Act.put, List.setIfInBounds_toArray, List.set_cons_zero, List.set_cons_succ])
  refine E_one 11 (by kernel_rfl) rfl (by rfl) (fun K hK => ?_)
  go_simp
  (try simp only [Act.put, List.setIfInBounds_toArray, List.set_cons_zero, List.set_cons_succ])
  refine hK.out _ _ (fun _ h => absurd rfl h) (fun _ => ?_)
  clear hK hHeld
  (try simp only [Act.put, List.setIfInBounds_toArray, List.set_cons_zero, List.set_cons_succ])
  refine E_done (by kernel_rfl) ?_ _
  refine hK'.out _ _ ?_
  have HL9 := Lib.hid (fun W (hb : Below w4.heap.size w8 W) => HL.out.below (show Below w.heap.size w W by rw [hP]; exact HB8.out.trans (hb.mono (by omega))))
  have hb8d : Below w4.heap.size w8 w8.drew := (Below.refl _ _).drew
  clear z0 z1 z2 z3 r0 r1 r2 r3 hK' hQ
  go_wp2_with fail
  go_loopg [10] (l.length + 1) (fun gk i wi => ∃ (j : Nat) (S : SagD) (r : RunD) (V : Nat → Prop), j + gk = l.length + 1 ∧ j ≤ l.length ∧ i = .int .i64 j ∧ Hid (OneR S r) ∧ Hid (SagE wi V k S) ∧ Hid (∀ j, V j → w4.heap.size ≤ j ∧ j < wi.heap.size) ∧ Hid (¬ V eR) ∧ Hid (wi.heap[eR]? = some (.cells #[.int .u8 r.1, .int .i64 r.2.1, .int .i64 r.2.2.1, .bool r.2.2.2] 41 (0, 0))) ∧ Hid (Below w4.heap.size w8 wi))
  case atStart => exact ⟨0, X1.1, _, V, by omega, by omega, rfl, HO1, Lib.hid (HS8.out.below (Below.refl _ _).drew), Lib.hid (fun j hj => ⟨HV8.out j hj, HU8.out j hj⟩), HNR, HG8, Lib.hid hb8d⟩
  case round =>
    obtain ⟨j, S, r, V, hgk, hjn, rfl, HO, HS, HV, HNV, HR, HB⟩ := hrel
    rename World => wk
    have hg : gk = l.length + 1 - j := by omega
    subst hg
    by_cases hjl : j < l.length
    · have d1 : decide ((j : Int) < (l.length : Int)) = true := decide_eq_true (by omega)
      have hj1 : (j : Int) < (l.length : Int) := by omega
      have hj0 : (0 : Int) ≤ (j : Int) := by omega
      have hsk := HB.out.size
      obtain ⟨g, off, cap, he, z0, z1, z2, z3, z4, z5⟩ := asks_at (HL9.out wk HB.out) hjl
      cases he
      have HAT := Lib.hid (fun W (hb : Below w4.heap.size w8 W) => asks_at (HL9.out W hb) hjl)
      generalize l[j] = q at *
      obtain ⟨kd, ⟨st, tr, u, oo⟩, now, at_⟩ := q
      obtain ⟨q1, q2, q3, q4⟩ := r
      dsimp only at z0 z1 z2 z3 z4 z5 HR HAT
      obtain ⟨r0, r1, r2, r3, -, -, -, -⟩ := cells4h HR.out
      go_upto_region 18 with fail
      have hbA : Below wk.heap.size wk (wk.alloc (.cells #[.int .u8 q1, .int .i64 q2, .int .i64 q3, .bool q4] 41)) := (Below.refl _ wk).alloc (Nat.le_refl _) _
      have gA := World.alloc_heap_new wk (.cells #[.int .u8 q1, .int .i64 q2, .int .i64 q3, .bool q4] 41)
      generalize hWB : wk.heap.size = eW at *
      generalize wk.alloc (.cells #[.int .u8 q1, .int .i64 q2, .int .i64 q3, .bool q4] 41) = wa at *
      have hbA' : Below wk.heap.size wk wa := hWB ▸ hbA
      have hBa : Below w4.heap.size w8 wa := HB.out.trans (hbA'.mono (by omega))
      obtain ⟨g', off', cap', he, z0, z1, z2, z3, z4, z5⟩ := HAT.out wa hBa
      cases he
      go_upto_region 21 with fail
      have hbB : Below wa.heap.size wa (wa.alloc (.cells #[.int .i64 st, .int .i64 tr, .bool u, .int .u8 oo] 48)) := (Below.refl _ wa).alloc (Nat.le_refl _) _
      have gB := World.alloc_heap_new wa (.cells #[.int .i64 st, .int .i64 tr, .bool u, .int .u8 oo] 48)
      have hwa := (Array.getElem?_eq_some_iff.1 gA).1
      generalize hAB : wa.heap.size = eA at *
      generalize wa.alloc (.cells #[.int .i64 st, .int .i64 tr, .bool u, .int .u8 oo] 48) = wb at *
      have hbB' : Below wa.heap.size wa wb := hAB ▸ hbB
      have hBb : Below w4.heap.size w8 wb := hBa.trans (hbB'.mono (by omega))
      obtain ⟨g', off', cap', he, z0, z1, z2, z3, z4, z5⟩ := HAT.out wb hBb
      cases he
      have hRb := (hbB'.block _ (by have := (Array.getElem?_eq_some_iff.1 HR.out).1; have := hbA'.size; omega)).trans ((hbA'.block _ (Array.getElem?_eq_some_iff.1 HR.out).1).trans HR.out)
      have hAb := (hbB'.block _ (by omega)).trans gA
      have HGR := Lib.hid hRb
      have HGW := Lib.hid hAb
      have HGA := Lib.hid gB
      have HBb := Lib.hid hBb
      have hbAB : Below wk.heap.size wk wb := bthen hbA' (Nat.le_refl _) hbB'
      have HSb := Lib.hid (HS.out.below hbAB)
      have HWK := Lib.hid hbAB
      go_upto_if 81 with fail
      go_cut [12, 13, 14] (fun s12 s13 s14 wx => AftP w4.heap.size eR eW w8 k (q1, q2, q3, q4) s12 wx)
      case first =>
        clear hgk r0 r1 r2 r3
        rcases hkq : (kd == 0) with _ | _
        rotate_left
        · obtain ⟨y0, y1, y2, y3, f0, f1, f2, f3⟩ := cells4h gB
          go_upto_region 23 with fail
          have hset := set2q (.int .i64 0) (.bool false) gB
          have hBc := bset (v := .bool false) (o := 2) (b := eA) (bset (v := .int .i64 0) (o := 0) (b := eA) hBb (by omega)) (by omega)
          have hNA : ¬ V eA := fun e => by have := (HV.out eA e).2; omega
          have hNW : ¬ V eW := fun e => by have := (HV.out eW e).2; omega
          have HSc := Lib.hid (sag_set (i := 2) (x := .bool false) (sag_set (i := 0) (x := .int .i64 0) HSb.out hNA (by omega)) hNA (by omega))
          have hRc := (set2q_other (.int .i64 0) (.bool false) (by omega : eR ≠ eA)).trans hRb
          have hWc := (set2q_other (.int .i64 0) (.bool false) (by omega : eW ≠ eA)).trans hAb
          have hsz : ((wb.setCell ⟨eA, 0, none⟩ (.int .i64 0)).setCell ⟨eA, 2, none⟩ (.bool false)).heap.size = wb.heap.size := by simp
          generalize (wb.setCell ⟨eA, 0, none⟩ (.int .i64 0)).setCell ⟨eA, 2, none⟩ (.bool false) = wc at *
          have hXc := (hBc.block eX (by omega)).trans HX8.out
          obtain ⟨g', off', cap', he, -, -, -, -, -, n5⟩ := HAT.out wc hBc
          cases he
          obtain ⟨⟨⟨p1, p2, p3, p4⟩, pb⟩, hy⟩ : ∃ y, ansR (uniS { data := #[97] } { data := #[100, 111] } s.most s.first s.factor s.limit) (q1, q2, q3, q4) now tr oo = y := ⟨_, rfl⟩
          have HAN : Hid (∀ W, Calls Tryz.prog 13 #[.agg #[.int .u8 q1, .int .i64 q2, .int .i64 q3, .bool q4], .agg #[.string { data := #[97] }, .string { data := #[100, 111] }, .string { data := #[] }, .slice none 0 0, .int .i64 s.most, .int .i64 s.first, .int .i64 s.factor, .int .i64 s.limit, .int .u8 0, .string { data := #[] }, .slice none 0 0, .slice none 0 0, .int .i64 0], .int .i64 now, .int .i64 tr, .int .u8 oo] W fun e w' => e = .returned (.tuple #[.agg #[.int .u8 p1, .int .i64 p2, .int .i64 p3, .bool p4], .bool pb]) ∧ Below W.heap.size W w') := Lib.hid (fun W => by
            have := Answer_any (s0 := { data := #[97] }) (s1 := { data := #[100, 111] }) (s2 := { data := #[] }) (af := none) (an := 0) (ac := 0) (m := s.most) (f := s.first) (k := s.factor) (l := s.limit) (nk := 0) (nt := { data := #[] }) (ka := none) (kn := 0) (kc := 0) (da := none) (dn := 0) (dc := 0) (nl := 0) q1 q2 q3 q4 now tr oo W
            have e : answerT s.most s.first s.factor s.limit q1 q2 q3 q4 now tr oo = ((p1, p2, p3, p4), pb) := hy
            rw [e] at this
            exact this)
          have HSA : Hid (∀ W, SagE W V k S → (∀ j, V j → j < W.heap.size) → Calls Tryz.prog 14 #[.pointer (some ⟨k.p, 0, none⟩), .agg #[.int .i64 0, .int .i64 tr, .bool false, .int .u8 oo], .int .i64 now] W fun e w' => ∃ v Z, e = .returned (.tuple #[v, .bool pb]) ∧ OneR Z (p1, p2, p3, p4) ∧ CallTo W V w' k Z (askedL (q1, q2, q3, q4) (p1, p2, p3, p4)) v) := Lib.hid (fun W h1 h2 => by
            have := answer_call tr oo now hll hkr HF.out HO.out V W h1 h2
            rw [hy] at this
            exact this)
          have HRc := Lib.hid hRc
          have HWc := Lib.hid hWc
          have HAc := Lib.hid hset
          have HBc := Lib.hid hBc
          have HXc := Lib.hid hXc
          have hwcs := hBc.size
          clear hy z0 z1 z2 z3 z4 z5 y0 y1 y2 y3 f0 f1 f2 f3
          obtain ⟨r0, r1, r2, r3, -⟩ := cells4h hRc
          obtain ⟨-, y1, -, y3, -⟩ := cells4h hset
          obtain ⟨c0, c1, c2, c3, c4, c5, c6, c7, c8, c9, c10, c11, c12⟩ := cells13x hXc
          clear gB hRb hAb gA hRc hWc hset hXc hBc
          have hRl : eR < wc.heap.size := (Array.getElem?_eq_some_iff.1 HRc.out).1
          have hAl : eA < wc.heap.size := (Array.getElem?_eq_some_iff.1 HAc.out).1
          have hWl : eW < wc.heap.size := (Array.getElem?_eq_some_iff.1 HWc.out).1
          refine E_region (S := (fun W => W.cell? ⟨eR, 0, none⟩ = some (.int .u8 q1) ∧ W.cell? ⟨eR, 1, none⟩ = some (.int .i64 q2) ∧ W.cell? ⟨eR, 2, none⟩ = some (.int .i64 q3) ∧ W.cell? ⟨eR, 3, none⟩ = some (.bool q4) ∧ W.cell? ⟨eX, 0, none⟩ = some (.string { data := #[97] }) ∧ W.cell? ⟨eX, 1, none⟩ = some (.string { data := #[100, 111] }) ∧ W.cell? ⟨eX, 2, none⟩ = some (.string { data := #[] }) ∧ W.cell? ⟨eX, 3, none⟩ = some (.slice none 0 0) ∧ W.cell? ⟨eX, 4, none⟩ = some (.int .i64 s.most) ∧ W.cell? ⟨eX, 5, none⟩ = some (.int .i64 s.first) ∧ W.cell? ⟨eX, 6, none⟩ = some (.int .i64 s.factor) ∧ W.cell? ⟨eX, 7, none⟩ = some (.int .i64 s.limit) ∧ W.cell? ⟨eX, 8, none⟩ = some (.int .u8 0) ∧ W.cell? ⟨eX, 9, none⟩ = some (.string { data := #[] }) ∧ W.cell? ⟨eX, 10, none⟩ = some (.slice none 0 0) ∧ W.cell? ⟨eX, 11, none⟩ = some (.slice none 0 0) ∧ W.cell? ⟨eX, 12, none⟩ = some (.int .i64 0) ∧ W.cell? ⟨g, off + j * 7 + 5, none⟩ = some (.int .i64 now) ∧ W.cell? ⟨eA, 1, none⟩ = some (.int .i64 tr) ∧ W.cell? ⟨eA, 3, none⟩ = some (.int .u8 oo))) 15 (by kernel_rfl) ⟨r0, r1, r2, r3, c0, c1, c2, c3, c4, c5, c6, c7, c8, c9, c10, c11, c12, n5, y1, y3⟩ (fun _ _ _ _ _ h => h) (fun Q' hQ hK' hHeld => ?_)
          refine E_take hQ hHeld 0 (v := ?bv1) rfl rfl (by kernel_rfl) (by kernel_rfl) (by kernel_rfl) (by kernel_rfl) (by kernel_rfl) (by rfl) ?by1 ?br1
          case by1 => (intro w hSw; (try dsimp only at hSw); go_simp; (try with_reducible rfl))
          (try simp only [Act.put, List.setIfInBounds_toArray, List.set_cons_zero, List.set_cons_succ])
          refine E_take hQ hHeld 1 (v := ?bv2) rfl rfl (by kernel_rfl) (by kernel_rfl) (by kernel_rfl) (by kernel_rfl) (by kernel_rfl) (by rfl) ?by2 ?br2
          case by2 => (intro w hSw; (try dsimp only at hSw); go_simp; (try with_reducible rfl))
          (try simp only [Act.put, List.setIfInBounds_toArray, List.set_cons_zero, List.set_cons_succ])
          refine E_take0 hQ (fun _ => hHeld) 2 (v := ?bv3) rfl rfl (by kernel_rfl) (by kernel_rfl) (by kernel_rfl) (by decide) (by rfl) ?by3 ?br3
          case by3 => (intro w; go_simp; (try with_reducible rfl))
          (try simp only [Act.put, List.setIfInBounds_toArray, List.set_cons_zero, List.set_cons_succ])
          refine E_take0 hQ (fun _ => hHeld) 3 (v := ?bv4) rfl rfl (by kernel_rfl) (by kernel_rfl) (by kernel_rfl) (by decide) (by rfl) ?by4 ?br4
          case by4 => (intro w; go_simp; (try with_reducible rfl))
          (try simp only [Act.put, List.setIfInBounds_toArray, List.set_cons_zero, List.set_cons_succ])
          refine E_take0 hQ (fun _ => hHeld) 4 (v := ?bv5) rfl rfl (by kernel_rfl) (by kernel_rfl) (by kernel_rfl) (by decide) (by rfl) ?by5 ?br5
          case by5 => (intro w; go_simp; (try with_reducible rfl))
          (try simp only [Act.put, List.setIfInBounds_toArray, List.set_cons_zero, List.set_cons_succ])
          refine E_take0 hQ (fun _ => hHeld) 5 (v := ?bv6) rfl rfl (by kernel_rfl) (by kernel_rfl) (by kernel_rfl) (by decide) (by rfl) ?by6 ?br6
          case by6 => (intro w; go_simp; (try with_reducible rfl))
          (try simp only [Act.put, List.setIfInBounds_toArray, List.set_cons_zero, List.set_cons_succ])
          refine E_take hQ hHeld 6 (v := ?bv7) rfl rfl (by kernel_rfl) (by kernel_rfl) (by kernel_rfl) (by kernel_rfl) (by kernel_rfl) (by rfl) ?by7 ?br7
          case by7 => (intro w hSw; (try dsimp only at hSw); go_simp; (try with_reducible rfl))
          (try simp only [Act.put, List.setIfInBounds_toArray, List.set_cons_zero, List.set_cons_succ])
          refine E_take0 hQ (fun _ => hHeld) 7 (v := ?bv8) rfl rfl (by kernel_rfl) (by kernel_rfl) (by kernel_rfl) (by decide) (by rfl) ?by8 ?br8
          case by8 => (intro w; go_simp; (try with_reducible rfl))
          (try simp only [Act.put, List.setIfInBounds_toArray, List.set_cons_zero, List.set_cons_succ])
          refine E_take hQ hHeld 8 (v := ?bv9) rfl rfl (by kernel_rfl) (by kernel_rfl) (by kernel_rfl) (by kernel_rfl) (by kernel_rfl) (by rfl) ?by9 ?br9
          case by9 => (intro w hSw; (try dsimp only at hSw); go_simp; (try with_reducible rfl))
          (try simp only [Act.put, List.setIfInBounds_toArray, List.set_cons_zero, List.set_cons_succ])
          refine E_take0 hQ (fun _ => hHeld) 9 (v := ?bv10) rfl rfl (by kernel_rfl) (by kernel_rfl) (by kernel_rfl) (by decide) (by rfl) ?by10 ?br10
          case by10 => (intro w; go_simp; (try with_reducible rfl))
          (try simp only [Act.put, List.setIfInBounds_toArray, List.set_cons_zero, List.set_cons_succ])
          refine E_take hQ hHeld 10 (v := ?bv11) rfl rfl (by kernel_rfl) (by kernel_rfl) (by kernel_rfl) (by kernel_rfl) (by kernel_rfl) (by rfl) ?by11 ?br11
          case by11 => (intro w hSw; (try dsimp only at hSw); go_simp; (try with_reducible rfl))
          (try simp only [Act.put, List.setIfInBounds_toArray, List.set_cons_zero, List.set_cons_succ])
          refine E_one 11 (by kernel_rfl) rfl (by rfl) (fun K hK => ?_)
          go_simp
          refine (HAN.out _).mono ?_
          rintro e v1 ⟨rfl, hb⟩
          have hbv1 : Below wc.heap.size wc v1 := bthen (Below.refl wc.heap.size wc).drew (Nat.le_refl _) hb
          clear hb
          (skip)
          refine hK.out _ _ (fun _ _ => ⟨cellB hbv1 hHeld.1, cellB hbv1 hHeld.2.1, cellB hbv1 hHeld.2.2.1, cellB hbv1 hHeld.2.2.2.1, cellB hbv1 hHeld.2.2.2.2.1, cellB hbv1 hHeld.2.2.2.2.2.1, cellB hbv1 hHeld.2.2.2.2.2.2.1, cellB hbv1 hHeld.2.2.2.2.2.2.2.1, cellB hbv1 hHeld.2.2.2.2.2.2.2.2.1, cellB hbv1 hHeld.2.2.2.2.2.2.2.2.2.1, cellB hbv1 hHeld.2.2.2.2.2.2.2.2.2.2.1, cellB hbv1 hHeld.2.2.2.2.2.2.2.2.2.2.2.1, cellB hbv1 hHeld.2.2.2.2.2.2.2.2.2.2.2.2.1, cellB hbv1 hHeld.2.2.2.2.2.2.2.2.2.2.2.2.2.1, cellB hbv1 hHeld.2.2.2.2.2.2.2.2.2.2.2.2.2.2.1, cellB hbv1 hHeld.2.2.2.2.2.2.2.2.2.2.2.2.2.2.2.1, cellB hbv1 hHeld.2.2.2.2.2.2.2.2.2.2.2.2.2.2.2.2.1, cellB hbv1 hHeld.2.2.2.2.2.2.2.2.2.2.2.2.2.2.2.2.2.1, cellB hbv1 hHeld.2.2.2.2.2.2.2.2.2.2.2.2.2.2.2.2.2.2.1, cellB hbv1 hHeld.2.2.2.2.2.2.2.2.2.2.2.2.2.2.2.2.2.2.2⟩) (fun hHeld' => ?_)
          replace hHeld := hHeld' (by rfl) (by decide)
          clear hK hHeld'
          (try simp only [Act.put, List.setIfInBounds_toArray, List.set_cons_zero, List.set_cons_succ])
          refine E_take0 hQ (fun _ => hHeld) 12 (v := ?bv12) rfl rfl (by kernel_rfl) (by kernel_rfl) (by kernel_rfl) (by decide) (by rfl) ?by12 ?br12
          case by12 => (intro w; go_simp; (try with_reducible rfl))
          (try simp only [Act.put, List.setIfInBounds_toArray, List.set_cons_zero, List.set_cons_succ])
          refine E_take0 hQ (fun _ => hHeld) 13 (v := ?bv13) rfl rfl (by kernel_rfl) (by kernel_rfl) (by kernel_rfl) (by decide) (by rfl) ?by13 ?br13
          case by13 => (intro w; go_simp; (try with_reducible rfl))
          (try simp only [Act.put, List.setIfInBounds_toArray, List.set_cons_zero, List.set_cons_succ])
          refine E_take0 hQ (fun _ => hHeld) 14 (v := ?bv14) rfl rfl (by kernel_rfl) (by kernel_rfl) (by kernel_rfl) (by decide) (by rfl) ?by14 ?br14
          case by14 => (intro w; go_simp; (try with_reducible rfl))
          (try simp only [Act.put, List.setIfInBounds_toArray, List.set_cons_zero, List.set_cons_succ])
          refine E_one 15 (by kernel_rfl) rfl (by rfl) (fun K hK => ?_)
          have hR1 := (hbv1.block _ hRl).trans HRc.out
          obtain ⟨-, -, -, -, f0, f1, f2, f3⟩ := cells4h hR1
          go_simp
          (try simp only [Act.put, List.setIfInBounds_toArray, List.set_cons_zero, List.set_cons_succ])
          refine hK.out _ _ (fun _ h => absurd rfl h) (fun _ => ?_)
          clear hK hHeld
          (try simp only [Act.put, List.setIfInBounds_toArray, List.set_cons_zero, List.set_cons_succ])
          refine E_take0 hQ (fun h => absurd h (by decide)) 16 (v := ?bv15) rfl rfl (by kernel_rfl) (by kernel_rfl) (by kernel_rfl) (by decide) (by rfl) ?by15 ?br15
          case by15 => (intro w; go_simp; (try with_reducible rfl))
          (try simp only [Act.put, List.setIfInBounds_toArray, List.set_cons_zero, List.set_cons_succ])
          refine E_done (by kernel_rfl) ?_ _
          refine hK'.out _ _ ?_
          have hset := set4 (.int .u8 p1) (.int .i64 p2) (.int .i64 p3) (.bool p4) hR1
          have hv1 := hbv1.size
          have hBd := bset (v := .bool p4) (o := 3) (b := eR) (bset (v := .int .i64 p3) (o := 2) (b := eR) (bset (v := .int .i64 p2) (o := 1) (b := eR) (bset (v := .int .u8 p1) (o := 0) (b := eR) (HBc.out.trans (hbv1.mono (by omega))) (by omega)) (by omega)) (by omega)) (by omega)
          have hSd := sag_set (i := 3) (x := .bool p4) (sag_set (i := 2) (x := .int .i64 p3) (sag_set (i := 1) (x := .int .i64 p2) (sag_set (i := 0) (x := .int .u8 p1) (HSc.out.below hbv1) HNV.out (by omega)) HNV.out (by omega)) HNV.out (by omega)) HNV.out (by omega)
          have hWd := (set4_other (.int .u8 p1) (.int .i64 p2) (.int .i64 p3) (.bool p4) (by omega : eW ≠ eR)).trans ((hbv1.block _ hWl).trans HWc.out)
          have hAd := (set4_other (.int .u8 p1) (.int .i64 p2) (.int .i64 p3) (.bool p4) (by omega : eA ≠ eR)).trans ((hbv1.block _ hAl).trans HAc.out)
          have hsd : ((((v1.setCell ⟨eR, 0, none⟩ (.int .u8 p1)).setCell ⟨eR, 1, none⟩ (.int .i64 p2)).setCell ⟨eR, 2, none⟩ (.int .i64 p3)).setCell ⟨eR, 3, none⟩ (.bool p4)).heap.size = v1.heap.size := by simp
          clear hK' hQ
          generalize ((((v1.setCell ⟨eR, 0, none⟩ (.int .u8 p1)).setCell ⟨eR, 1, none⟩ (.int .i64 p2)).setCell ⟨eR, 2, none⟩ (.int .i64 p3)).setCell ⟨eR, 3, none⟩ (.bool p4)) = wd at *
          have HAd := Lib.hid hAd
          have HRd := Lib.hid hset
          have HWd := Lib.hid hWd
          have HSd := Lib.hid hSd
          have HBd := Lib.hid hBd
          have hwds := hBd.size
          obtain ⟨g', off', cap', he, -, -, -, -, -, n5⟩ := HAT.out wd hBd
          cases he
          obtain ⟨y0, y1, y2, y3, -⟩ := cells4h hAd
          have HVd : Hid (∀ j, V j → w4.heap.size ≤ j ∧ j < wd.heap.size) := Lib.hid (fun j hj => by have := HV.out j hj; omega)
          clear hAd hset hWd hSd hBd r0 r1 r2 r3 c0 c1 c2 c3 c4 c5 c6 c7 c8 c9 c10 c11 c12 HAN HSc HBc HXc hR1 hbv1 f0 f1 f2 f3
          go_upto_region 24 with fail
          refine E_region (S := (fun W => W.cell? ⟨eA, 0, none⟩ = some (.int .i64 0) ∧ W.cell? ⟨eA, 1, none⟩ = some (.int .i64 tr) ∧ W.cell? ⟨eA, 2, none⟩ = some (.bool false) ∧ W.cell? ⟨eA, 3, none⟩ = some (.int .u8 oo) ∧ W.cell? ⟨g, off + j * 7 + 5, none⟩ = some (.int .i64 now))) 7 (by kernel_rfl) ⟨y0, y1, y2, y3, n5⟩ (fun _ _ _ _ _ h => h) (fun Q' hQ hK' hHeld => ?_)
          refine E_take0 hQ (fun _ => hHeld) 0 (v := ?cv1) rfl rfl (by kernel_rfl) (by kernel_rfl) (by kernel_rfl) (by decide) (by rfl) ?cy1 ?cr1
          case cy1 => (intro w; go_simp; (try with_reducible rfl))
          (try simp only [Act.put, List.setIfInBounds_toArray, List.set_cons_zero, List.set_cons_succ])
          refine E_take hQ hHeld 1 (v := ?cv2) rfl rfl (by kernel_rfl) (by kernel_rfl) (by kernel_rfl) (by kernel_rfl) (by kernel_rfl) (by rfl) ?cy2 ?cr2
          case cy2 => (intro w hSw; (try dsimp only at hSw); go_simp; (try with_reducible rfl))
          (try simp only [Act.put, List.setIfInBounds_toArray, List.set_cons_zero, List.set_cons_succ])
          refine E_take0 hQ (fun _ => hHeld) 2 (v := ?cv3) rfl rfl (by kernel_rfl) (by kernel_rfl) (by kernel_rfl) (by decide) (by rfl) ?cy3 ?cr3
          case cy3 => (intro w; go_simp; (try with_reducible rfl))
          (try simp only [Act.put, List.setIfInBounds_toArray, List.set_cons_zero, List.set_cons_succ])
          refine E_take0 hQ (fun _ => hHeld) 3 (v := ?cv4) rfl rfl (by kernel_rfl) (by kernel_rfl) (by kernel_rfl) (by decide) (by rfl) ?cy4 ?cr4
          case cy4 => (intro w; go_simp; (try with_reducible rfl))
          (try simp only [Act.put, List.setIfInBounds_toArray, List.set_cons_zero, List.set_cons_succ])
          refine E_take0 hQ (fun _ => hHeld) 4 (v := ?cv5) rfl rfl (by kernel_rfl) (by kernel_rfl) (by kernel_rfl) (by decide) (by rfl) ?cy5 ?cr5
          case cy5 => (intro w; go_simp; (try with_reducible rfl))
          (try simp only [Act.put, List.setIfInBounds_toArray, List.set_cons_zero, List.set_cons_succ])
          refine E_take0 hQ (fun _ => hHeld) 5 (v := ?cv6) rfl rfl (by kernel_rfl) (by kernel_rfl) (by kernel_rfl) (by decide) (by rfl) ?cy6 ?cr6
          case cy6 => (intro w; go_simp; (try with_reducible rfl))
          (try simp only [Act.put, List.setIfInBounds_toArray, List.set_cons_zero, List.set_cons_succ])
          refine E_take hQ hHeld 6 (v := ?cv7) rfl rfl (by kernel_rfl) (by kernel_rfl) (by kernel_rfl) (by kernel_rfl) (by kernel_rfl) (by rfl) ?cy7 ?cr7
          case cy7 => (intro w hSw; (try dsimp only at hSw); go_simp; (try with_reducible rfl))
          (try simp only [Act.put, List.setIfInBounds_toArray, List.set_cons_zero, List.set_cons_succ])
          refine E_one 7 (by kernel_rfl) rfl (by rfl) (fun K hK => ?_)
          go_simp
          refine (HSA.out _ (HSd.out.below (Below.refl _ _).drew) (fun j hj => (HVd.out j hj).2)).mono ?_
          rintro e we ⟨v, Z, rfl, hO, hc⟩
          (skip)
          refine hK.out _ _ (fun _ h => absurd rfl h) (fun _ => ?_)
          clear hK hHeld
          (try simp only [Act.put, List.setIfInBounds_toArray, List.set_cons_zero, List.set_cons_succ])
          refine E_take0 hQ (fun h => absurd h (by decide)) 8 (v := ?cv8) rfl rfl (by kernel_rfl) (by kernel_rfl) (by kernel_rfl) (by decide) (by rfl) ?cy8 ?cr8
          case cy8 => (intro w; go_simp; (try with_reducible rfl))
          (try simp only [Act.put, List.setIfInBounds_toArray, List.set_cons_zero, List.set_cons_succ])
          refine E_take0 hQ (fun h => absurd h (by decide)) 9 (v := ?cv9) rfl rfl (by kernel_rfl) (by kernel_rfl) (by kernel_rfl) (by decide) (by rfl) ?cy9 ?cr9
          case cy9 => (intro w; go_simp; (try with_reducible rfl))
          (try simp only [Act.put, List.setIfInBounds_toArray, List.set_cons_zero, List.set_cons_succ])
          refine E_take0 hQ (fun h => absurd h (by decide)) 10 (v := ?cv10) rfl rfl (by kernel_rfl) (by kernel_rfl) (by kernel_rfl) (by decide) (by rfl) ?cy10 ?cr10
          case cy10 => (intro w; go_simp; (try with_reducible rfl))
          (try simp only [Act.put, List.setIfInBounds_toArray, List.set_cons_zero, List.set_cons_succ])
          refine E_take0 hQ (fun h => absurd h (by decide)) 11 (v := ?cv11) rfl rfl (by kernel_rfl) (by kernel_rfl) (by kernel_rfl) (by decide) (by rfl) ?cy11 ?cr11
          case cy11 => (intro w; go_simp; (try with_reducible rfl))
          (try simp only [Act.put, List.setIfInBounds_toArray, List.set_cons_zero, List.set_cons_succ])
          refine E_take0 hQ (fun h => absurd h (by decide)) 12 (v := ?cv12) rfl rfl (by kernel_rfl) (by kernel_rfl) (by kernel_rfl) (by decide) (by rfl) ?cy12 ?cr12
          case cy12 => (intro w; go_simp; (try with_reducible rfl))
          (try simp only [Act.put, List.setIfInBounds_toArray, List.set_cons_zero, List.set_cons_succ])
          refine E_done (by kernel_rfl) ?_ _
          refine hK'.out _ _ ?_
          have hA := aftP_of hc hO HVd.out (show w4.heap.size ≤ wd.heap.size by omega) HNV.out hNW HRd.out HWd.out HBd.out.drew
          clear hc hO y0 y1 y2 y3 n5 hK' hQ
          go_wp2_with fail
          go_meet
          exact hA
        · go_upto_region 27 with fail
          have hXc := (hBb.block eX (by omega)).trans HX8.out
          obtain ⟨⟨⟨p1, p2, p3, p4⟩, pb⟩, hy⟩ : ∃ y, tickR (uniS { data := #[97] } { data := #[100, 111] } s.most s.first s.factor s.limit) (q1, q2, q3, q4) now = y := ⟨_, rfl⟩
          have HAN : Hid (∀ W, Calls Tryz.prog 15 #[.agg #[.int .u8 q1, .int .i64 q2, .int .i64 q3, .bool q4], .agg #[.string { data := #[97] }, .string { data := #[100, 111] }, .string { data := #[] }, .slice none 0 0, .int .i64 s.most, .int .i64 s.first, .int .i64 s.factor, .int .i64 s.limit, .int .u8 0, .string { data := #[] }, .slice none 0 0, .slice none 0 0, .int .i64 0], .int .i64 now] W fun e w' => e = .returned (.tuple #[.agg #[.int .u8 p1, .int .i64 p2, .int .i64 p3, .bool p4], .bool pb]) ∧ Below W.heap.size W w') := Lib.hid (fun W => by
            have := Tick_any (s0 := { data := #[97] }) (s1 := { data := #[100, 111] }) (s2 := { data := #[] }) (af := none) (an := 0) (ac := 0) (m := s.most) (f := s.first) (k := s.factor) (l := s.limit) (nk := 0) (nt := { data := #[] }) (ka := none) (kn := 0) (kc := 0) (da := none) (dn := 0) (dc := 0) (nl := 0) q1 q2 q3 q4 now W
            have e : tickT s.most s.first s.factor s.limit q1 q2 q3 q4 now = ((p1, p2, p3, p4), pb) := hy
            rw [e] at this
            exact this)
          have HSA : Hid (∀ W, SagE W V k S → (∀ j, V j → j < W.heap.size) → Calls Tryz.prog 16 #[.pointer (some ⟨k.p, 0, none⟩), .int .i64 now] W fun e w' => ∃ v Z, e = .returned v ∧ OneR Z (p1, p2, p3, p4) ∧ CallTo W V w' k Z (askedL (q1, q2, q3, q4) (p1, p2, p3, p4)) v) := Lib.hid (fun W h1 h2 => by
            have := tick_call now hll hkr HF.out HO.out V W h1 h2
            rw [hy] at this
            exact this)
          have hNW : ¬ V eW := fun e => by have := (HV.out eW e).2; omega
          have hwcs := hBb.size
          clear hy z0 z1 z2 z3 z4
          obtain ⟨r0, r1, r2, r3, -⟩ := cells4h hRb
          obtain ⟨c0, c1, c2, c3, c4, c5, c6, c7, c8, c9, c10, c11, c12⟩ := cells13x hXc
          clear gB hRb hAb gA hXc
          have hRl : eR < wb.heap.size := (Array.getElem?_eq_some_iff.1 HGR.out).1
          have hWl : eW < wb.heap.size := (Array.getElem?_eq_some_iff.1 HGW.out).1
          refine E_region (S := (fun W => W.cell? ⟨eR, 0, none⟩ = some (.int .u8 q1) ∧ W.cell? ⟨eR, 1, none⟩ = some (.int .i64 q2) ∧ W.cell? ⟨eR, 2, none⟩ = some (.int .i64 q3) ∧ W.cell? ⟨eR, 3, none⟩ = some (.bool q4) ∧ W.cell? ⟨eX, 0, none⟩ = some (.string { data := #[97] }) ∧ W.cell? ⟨eX, 1, none⟩ = some (.string { data := #[100, 111] }) ∧ W.cell? ⟨eX, 2, none⟩ = some (.string { data := #[] }) ∧ W.cell? ⟨eX, 3, none⟩ = some (.slice none 0 0) ∧ W.cell? ⟨eX, 4, none⟩ = some (.int .i64 s.most) ∧ W.cell? ⟨eX, 5, none⟩ = some (.int .i64 s.first) ∧ W.cell? ⟨eX, 6, none⟩ = some (.int .i64 s.factor) ∧ W.cell? ⟨eX, 7, none⟩ = some (.int .i64 s.limit) ∧ W.cell? ⟨eX, 8, none⟩ = some (.int .u8 0) ∧ W.cell? ⟨eX, 9, none⟩ = some (.string { data := #[] }) ∧ W.cell? ⟨eX, 10, none⟩ = some (.slice none 0 0) ∧ W.cell? ⟨eX, 11, none⟩ = some (.slice none 0 0) ∧ W.cell? ⟨eX, 12, none⟩ = some (.int .i64 0) ∧ W.cell? ⟨g, off + j * 7 + 5, none⟩ = some (.int .i64 now))) 11 (by kernel_rfl) ⟨r0, r1, r2, r3, c0, c1, c2, c3, c4, c5, c6, c7, c8, c9, c10, c11, c12, z5⟩ (fun _ _ _ _ _ h => h) (fun Q' hQ hK' hHeld => ?_)
          refine E_take hQ hHeld 0 (v := ?dv1) rfl rfl (by kernel_rfl) (by kernel_rfl) (by kernel_rfl) (by kernel_rfl) (by kernel_rfl) (by rfl) ?dy1 ?dr1
          case dy1 => (intro w hSw; (try dsimp only at hSw); go_simp; (try with_reducible rfl))
          (try simp only [Act.put, List.setIfInBounds_toArray, List.set_cons_zero, List.set_cons_succ])
          refine E_take hQ hHeld 1 (v := ?dv2) rfl rfl (by kernel_rfl) (by kernel_rfl) (by kernel_rfl) (by kernel_rfl) (by kernel_rfl) (by rfl) ?dy2 ?dr2
          case dy2 => (intro w hSw; (try dsimp only at hSw); go_simp; (try with_reducible rfl))
          (try simp only [Act.put, List.setIfInBounds_toArray, List.set_cons_zero, List.set_cons_succ])
          refine E_take0 hQ (fun _ => hHeld) 2 (v := ?dv3) rfl rfl (by kernel_rfl) (by kernel_rfl) (by kernel_rfl) (by decide) (by rfl) ?dy3 ?dr3
          case dy3 => (intro w; go_simp; (try with_reducible rfl))
          (try simp only [Act.put, List.setIfInBounds_toArray, List.set_cons_zero, List.set_cons_succ])
          refine E_take0 hQ (fun _ => hHeld) 3 (v := ?dv4) rfl rfl (by kernel_rfl) (by kernel_rfl) (by kernel_rfl) (by decide) (by rfl) ?dy4 ?dr4
          case dy4 => (intro w; go_simp; (try with_reducible rfl))
          (try simp only [Act.put, List.setIfInBounds_toArray, List.set_cons_zero, List.set_cons_succ])
          refine E_take0 hQ (fun _ => hHeld) 4 (v := ?dv5) rfl rfl (by kernel_rfl) (by kernel_rfl) (by kernel_rfl) (by decide) (by rfl) ?dy5 ?dr5
          case dy5 => (intro w; go_simp; (try with_reducible rfl))
          (try simp only [Act.put, List.setIfInBounds_toArray, List.set_cons_zero, List.set_cons_succ])
          refine E_take0 hQ (fun _ => hHeld) 5 (v := ?dv6) rfl rfl (by kernel_rfl) (by kernel_rfl) (by kernel_rfl) (by decide) (by rfl) ?dy6 ?dr6
          case dy6 => (intro w; go_simp; (try with_reducible rfl))
          (try simp only [Act.put, List.setIfInBounds_toArray, List.set_cons_zero, List.set_cons_succ])
          refine E_take hQ hHeld 6 (v := ?dv7) rfl rfl (by kernel_rfl) (by kernel_rfl) (by kernel_rfl) (by kernel_rfl) (by kernel_rfl) (by rfl) ?dy7 ?dr7
          case dy7 => (intro w hSw; (try dsimp only at hSw); go_simp; (try with_reducible rfl))
          (try simp only [Act.put, List.setIfInBounds_toArray, List.set_cons_zero, List.set_cons_succ])
          refine E_one 7 (by kernel_rfl) rfl (by rfl) (fun K hK => ?_)
          go_simp
          refine (HAN.out _).mono ?_
          rintro e v1 ⟨rfl, hb⟩
          have hbv1 : Below wb.heap.size wb v1 := bthen (Below.refl wb.heap.size wb).drew (Nat.le_refl _) hb
          clear hb
          (skip)
          refine hK.out _ _ (fun _ _ => ⟨cellB hbv1 hHeld.1, cellB hbv1 hHeld.2.1, cellB hbv1 hHeld.2.2.1, cellB hbv1 hHeld.2.2.2.1, cellB hbv1 hHeld.2.2.2.2.1, cellB hbv1 hHeld.2.2.2.2.2.1, cellB hbv1 hHeld.2.2.2.2.2.2.1, cellB hbv1 hHeld.2.2.2.2.2.2.2.1, cellB hbv1 hHeld.2.2.2.2.2.2.2.2.1, cellB hbv1 hHeld.2.2.2.2.2.2.2.2.2.1, cellB hbv1 hHeld.2.2.2.2.2.2.2.2.2.2.1, cellB hbv1 hHeld.2.2.2.2.2.2.2.2.2.2.2.1, cellB hbv1 hHeld.2.2.2.2.2.2.2.2.2.2.2.2.1, cellB hbv1 hHeld.2.2.2.2.2.2.2.2.2.2.2.2.2.1, cellB hbv1 hHeld.2.2.2.2.2.2.2.2.2.2.2.2.2.2.1, cellB hbv1 hHeld.2.2.2.2.2.2.2.2.2.2.2.2.2.2.2.1, cellB hbv1 hHeld.2.2.2.2.2.2.2.2.2.2.2.2.2.2.2.2.1, cellB hbv1 hHeld.2.2.2.2.2.2.2.2.2.2.2.2.2.2.2.2.2⟩) (fun hHeld' => ?_)
          replace hHeld := hHeld' (by rfl) (by decide)
          clear hK hHeld'
          (try simp only [Act.put, List.setIfInBounds_toArray, List.set_cons_zero, List.set_cons_succ])
          refine E_take0 hQ (fun _ => hHeld) 8 (v := ?dv8) rfl rfl (by kernel_rfl) (by kernel_rfl) (by kernel_rfl) (by decide) (by rfl) ?dy8 ?dr8
          case dy8 => (intro w; go_simp; (try with_reducible rfl))
          (try simp only [Act.put, List.setIfInBounds_toArray, List.set_cons_zero, List.set_cons_succ])
          refine E_take0 hQ (fun _ => hHeld) 9 (v := ?dv9) rfl rfl (by kernel_rfl) (by kernel_rfl) (by kernel_rfl) (by decide) (by rfl) ?dy9 ?dr9
          case dy9 => (intro w; go_simp; (try with_reducible rfl))
          (try simp only [Act.put, List.setIfInBounds_toArray, List.set_cons_zero, List.set_cons_succ])
          refine E_take0 hQ (fun _ => hHeld) 10 (v := ?dv10) rfl rfl (by kernel_rfl) (by kernel_rfl) (by kernel_rfl) (by decide) (by rfl) ?dy10 ?dr10
          case dy10 => (intro w; go_simp; (try with_reducible rfl))
          (try simp only [Act.put, List.setIfInBounds_toArray, List.set_cons_zero, List.set_cons_succ])
          refine E_one 11 (by kernel_rfl) rfl (by rfl) (fun K hK => ?_)
          have hR1 := (hbv1.block _ hRl).trans HGR.out
          obtain ⟨-, -, -, -, f0, f1, f2, f3⟩ := cells4h hR1
          go_simp
          (try simp only [Act.put, List.setIfInBounds_toArray, List.set_cons_zero, List.set_cons_succ])
          refine hK.out _ _ (fun _ h => absurd rfl h) (fun _ => ?_)
          clear hK hHeld
          (try simp only [Act.put, List.setIfInBounds_toArray, List.set_cons_zero, List.set_cons_succ])
          refine E_done (by kernel_rfl) ?_ _
          refine hK'.out _ _ ?_
          have hset := set4 (.int .u8 p1) (.int .i64 p2) (.int .i64 p3) (.bool p4) hR1
          have hv1 := hbv1.size
          have hBd := bset (v := .bool p4) (o := 3) (b := eR) (bset (v := .int .i64 p3) (o := 2) (b := eR) (bset (v := .int .i64 p2) (o := 1) (b := eR) (bset (v := .int .u8 p1) (o := 0) (b := eR) (HBb.out.trans (hbv1.mono (by omega))) (by omega)) (by omega)) (by omega)) (by omega)
          have hSd := sag_set (i := 3) (x := .bool p4) (sag_set (i := 2) (x := .int .i64 p3) (sag_set (i := 1) (x := .int .i64 p2) (sag_set (i := 0) (x := .int .u8 p1) (HSb.out.below hbv1) HNV.out (by omega)) HNV.out (by omega)) HNV.out (by omega)) HNV.out (by omega)
          have hWd := (set4_other (.int .u8 p1) (.int .i64 p2) (.int .i64 p3) (.bool p4) (by omega : eW ≠ eR)).trans ((hbv1.block _ hWl).trans HGW.out)
          have hsd : ((((v1.setCell ⟨eR, 0, none⟩ (.int .u8 p1)).setCell ⟨eR, 1, none⟩ (.int .i64 p2)).setCell ⟨eR, 2, none⟩ (.int .i64 p3)).setCell ⟨eR, 3, none⟩ (.bool p4)).heap.size = v1.heap.size := by simp
          clear hK' hQ
          generalize ((((v1.setCell ⟨eR, 0, none⟩ (.int .u8 p1)).setCell ⟨eR, 1, none⟩ (.int .i64 p2)).setCell ⟨eR, 2, none⟩ (.int .i64 p3)).setCell ⟨eR, 3, none⟩ (.bool p4)) = wd at *
          have HRd := Lib.hid hset
          have HWd := Lib.hid hWd
          have HSd := Lib.hid hSd
          have HBd := Lib.hid hBd
          have hwds := hBd.size
          obtain ⟨g', off', cap', he, -, -, -, -, -, n5⟩ := HAT.out wd hBd
          cases he
          have HVd : Hid (∀ j, V j → w4.heap.size ≤ j ∧ j < wd.heap.size) := Lib.hid (fun j hj => by have := HV.out j hj; omega)
          clear hset hWd hSd hBd r0 r1 r2 r3 c0 c1 c2 c3 c4 c5 c6 c7 c8 c9 c10 c11 c12 HAN hR1 hbv1 f0 f1 f2 f3 z5
          go_wp2_with fail
          refine (HSA.out wd HSd.out (fun j hj => (HVd.out j hj).2)).mono ?_
          rintro e we ⟨v, Z, rfl, hO, hc⟩
          have hA := aftP_of hc hO HVd.out (show w4.heap.size ≤ wd.heap.size by omega) HNV.out hNW HRd.out HWd.out HBd.out
          clear hc hO n5
          go_wp2_with fail
          go_meet
          exact hA
      case rest =>
      obtain ⟨⟨p1, p2, p3, p4⟩, Z, V2, va, vc, base, rfl, hrow, hO2, hS2, hV2, hN2, hR2, hW2, hB2⟩ := hcut
      dsimp only at hO2 hR2 hW2
      generalize wc = wx at *
      have HO2' := Lib.hid hO2
      have HRW := Lib.hid hrow
      have HS2 := Lib.hid hS2
      have HV2 := Lib.hid hV2
      have HN2 := Lib.hid hN2
      have HR2 := Lib.hid hR2
      have HB2' := Lib.hid hB2
      clear z0 z1 z2 z3 z4 z5 r0 r1 r2 r3 gA gB hRb hAb hbA hbB hbA' hbB' hBa hBb hgk
      obtain ⟨r0, r1, r2, r3, -⟩ := cells4h hR2
      obtain ⟨-, x1, -, -, -⟩ := cells4h hW2
      clear hrow hO2 hS2 hV2 hN2 hR2 hW2 hB2
      go_upto_region 29 with fail
      go_cut [16] (fun s16 wy => ∃ b : Bool, s16 = .bool b ∧ (b = true ↔ p1 = 1 ∧ p2 ≠ q2) ∧ wx = wy)
      case first =>
        rcases h1 : (p1 == 1) with _ | _
        · go_wp2_with fail
          go_meet
          exact ⟨_, rfl, by simp at h1; simp [h1], rfl⟩
        · go_wp2_with fail
          go_meet
          exact ⟨_, rfl, by simp at h1; simp [h1], rfl⟩
      case rest =>
      obtain ⟨b, rfl, hb, rfl⟩ := hcut
      go_upto_region 30 with fail
      go_cut [12, 159] (fun s12 s159 wy => s159 = .bool false ∧ Below wx.heap.size wx wy)
      case first =>
        have hne2 := neO_same 0 p2 p3 false
        clear hne
        rcases b with _ | _
        · have ha : askedL (q1, q2, q3, q4) (p1, p2, p3, p4) = [] := by unfold askedL; rw [if_neg (fun e => by have := hb.2 e; cases this)]
          have hl0 : (askedL (q1, q2, q3, q4) (p1, p2, p3, p4)).length = 0 := by rw [ha]; rfl
          rw [hl0]
          clear ha hl0 hb
          refine E_region (S := (fun _ => True)) 18 (by kernel_rfl) trivial (fun _ _ _ _ _ h => h) (fun Q' hQ hK' hHeld => ?_)
          refine E_take0 hQ (fun _ => hHeld) 0 (v := ?fv1) rfl rfl (by kernel_rfl) (by kernel_rfl) (by kernel_rfl) (by decide) (by rfl) ?fy1 ?fr1
          case fy1 => (intro w; go_simp; (try with_reducible rfl))
          (try simp only [Act.put, List.setIfInBounds_toArray, List.set_cons_zero, List.set_cons_succ])
          refine E_take0 hQ (fun _ => hHeld) 1 (v := ?fv2) rfl rfl (by kernel_rfl) (by kernel_rfl) (by kernel_rfl) (by decide) (by rfl) ?fy2 ?fr2
          case fy2 => (intro w; go_simp; (try with_reducible rfl))
          (try simp only [Act.put, List.setIfInBounds_toArray, List.set_cons_zero, List.set_cons_succ])
          refine E_take0 hQ (fun _ => hHeld) 2 (v := ?fv3) rfl rfl (by kernel_rfl) (by kernel_rfl) (by kernel_rfl) (by decide) (by rfl) ?fy3 ?fr3
          case fy3 => (intro w; go_simp; (try with_reducible rfl))
          (try simp only [Act.put, List.setIfInBounds_toArray, List.set_cons_zero, List.set_cons_succ])
          refine E_take0 hQ (fun _ => hHeld) 3 (v := ?fv4) rfl rfl (by kernel_rfl) (by kernel_rfl) (by kernel_rfl) (by decide) (by rfl) ?fy4 ?fr4
          case fy4 => (intro w; go_simp; (try with_reducible rfl))
          (try simp only [Act.put, List.setIfInBounds_toArray, List.set_cons_zero, List.set_cons_succ])
          refine E_take0 hQ (fun _ => hHeld) 4 (v := ?fv5) rfl rfl (by kernel_rfl) (by kernel_rfl) (by kernel_rfl) (by decide) (by rfl) ?fy5 ?fr5
          case fy5 => (intro w; go_simp; (try with_reducible rfl))
          (try simp only [Act.put, List.setIfInBounds_toArray, List.set_cons_zero, List.set_cons_succ])
          refine E_take0 hQ (fun _ => hHeld) 5 (v := ?fv6) rfl rfl (by kernel_rfl) (by kernel_rfl) (by kernel_rfl) (by decide) (by rfl) ?fy6 ?fr6
          case fy6 => (intro w; go_simp; (try with_reducible rfl))
          (try simp only [Act.put, List.setIfInBounds_toArray, List.set_cons_zero, List.set_cons_succ])
          refine E_take0 hQ (fun _ => hHeld) 6 (v := ?fv7) rfl rfl (by kernel_rfl) (by kernel_rfl) (by kernel_rfl) (by decide) (by rfl) ?fy7 ?fr7
          case fy7 => (intro w; go_simp; (try with_reducible rfl))
          (try simp only [Act.put, List.setIfInBounds_toArray, List.set_cons_zero, List.set_cons_succ])
          refine E_take0 hQ (fun _ => hHeld) 7 (v := ?fv8) rfl rfl (by kernel_rfl) (by kernel_rfl) (by kernel_rfl) (by decide) (by rfl) ?fy8 ?fr8
          case fy8 => (intro w; go_simp; (try with_reducible rfl))
          (try simp only [Act.put, List.setIfInBounds_toArray, List.set_cons_zero, List.set_cons_succ])
          refine E_off hQ (fun _ => hHeld) 8 rfl rfl (by kernel_rfl) (by kernel_rfl) (by kernel_rfl) (by decide) (by rfl) ?_
          (try simp only [Act.put, List.setIfInBounds_toArray, List.set_cons_zero, List.set_cons_succ])
          refine E_off hQ (fun _ => hHeld) 9 rfl rfl (by kernel_rfl) (by kernel_rfl) (by kernel_rfl) (by decide) (by rfl) ?_
          (try simp only [Act.put, List.setIfInBounds_toArray, List.set_cons_zero, List.set_cons_succ])
          refine E_off hQ (fun _ => hHeld) 10 rfl rfl (by kernel_rfl) (by kernel_rfl) (by kernel_rfl) (by decide) (by rfl) ?_
          (try simp only [Act.put, List.setIfInBounds_toArray, List.set_cons_zero, List.set_cons_succ])
          refine E_off hQ (fun _ => hHeld) 11 rfl rfl (by kernel_rfl) (by kernel_rfl) (by kernel_rfl) (by decide) (by rfl) ?_
          (try simp only [Act.put, List.setIfInBounds_toArray, List.set_cons_zero, List.set_cons_succ])
          refine E_off hQ (fun _ => hHeld) 12 rfl rfl (by kernel_rfl) (by kernel_rfl) (by kernel_rfl) (by decide) (by rfl) ?_
          (try simp only [Act.put, List.setIfInBounds_toArray, List.set_cons_zero, List.set_cons_succ])
          refine E_off hQ (fun _ => hHeld) 13 rfl rfl (by kernel_rfl) (by kernel_rfl) (by kernel_rfl) (by decide) (by rfl) ?_
          (try simp only [Act.put, List.setIfInBounds_toArray, List.set_cons_zero, List.set_cons_succ])
          refine E_off hQ (fun _ => hHeld) 14 rfl rfl (by kernel_rfl) (by kernel_rfl) (by kernel_rfl) (by decide) (by rfl) ?_
          (try simp only [Act.put, List.setIfInBounds_toArray, List.set_cons_zero, List.set_cons_succ])
          refine E_off hQ (fun _ => hHeld) 15 rfl rfl (by kernel_rfl) (by kernel_rfl) (by kernel_rfl) (by decide) (by rfl) ?_
          (try simp only [Act.put, List.setIfInBounds_toArray, List.set_cons_zero, List.set_cons_succ])
          refine E_off hQ (fun _ => hHeld) 16 rfl rfl (by kernel_rfl) (by kernel_rfl) (by kernel_rfl) (by decide) (by rfl) ?_
          (try simp only [Act.put, List.setIfInBounds_toArray, List.set_cons_zero, List.set_cons_succ])
          refine E_take0 hQ (fun _ => hHeld) 17 (v := ?fv18) rfl rfl (by kernel_rfl) (by kernel_rfl) (by kernel_rfl) (by decide) (by rfl) ?fy18 ?fr18
          case fy18 => (intro w; go_simp; (try with_reducible rfl))
          (try simp only [Act.put, List.setIfInBounds_toArray, List.set_cons_zero, List.set_cons_succ])
          refine E_one 18 (by kernel_rfl) rfl (by rfl) (fun K hK => ?_)
          go_simp
          (try simp only [Act.put, List.setIfInBounds_toArray, List.set_cons_zero, List.set_cons_succ])
          refine hK.out _ _ (fun _ h => absurd rfl h) (fun _ => ?_)
          clear hK hHeld
          (try simp only [Act.put, List.setIfInBounds_toArray, List.set_cons_zero, List.set_cons_succ])
          refine E_done (by kernel_rfl) ?_ _
          refine hK'.out _ _ ?_
          clear hK' hQ
          go_wp2_with fail
          go_meet
          exact ⟨rfl, (Below.refl _ _).drew⟩
        · have ha : askedL (q1, q2, q3, q4) (p1, p2, p3, p4) = [(0, p2, false, p3)] := by unfold askedL; rw [if_pos (hb.1 rfl)]
          have hl0 : (askedL (q1, q2, q3, q4) (p1, p2, p3, p4)).length = 1 := by rw [ha]; rfl
          have hrow := HRW.out
          rw [hl0, ha] at hrow
          rw [hl0]
          obtain ⟨g9, o9, rfl, z0, z1, z2, z3⟩ := ords_one hrow
          dsimp only at z0 z1 z2 z3
          clear ha hl0 hrow hb HRW
          refine E_region (S := (fun W => W.cell? ⟨g9, o9, none⟩ = some (.int .i64 0) ∧ W.cell? ⟨g9, o9 + 1, none⟩ = some (.int .i64 p2) ∧ W.cell? ⟨g9, o9 + 2, none⟩ = some (.bool false) ∧ W.cell? ⟨g9, o9 + 3, none⟩ = some (.int .i64 p3) ∧ W.cell? ⟨eR, 1, none⟩ = some (.int .i64 p2) ∧ W.cell? ⟨eR, 2, none⟩ = some (.int .i64 p3))) 18 (by kernel_rfl) ⟨z0, z1, z2, z3, r1, r2⟩ (fun _ _ _ _ _ h => h) (fun Q' hQ hK' hHeld => ?_)
          refine E_take0 hQ (fun _ => hHeld) 0 (v := ?tv1) rfl rfl (by kernel_rfl) (by kernel_rfl) (by kernel_rfl) (by decide) (by rfl) ?ty1 ?tr1
          case ty1 => (intro w; go_simp; (try with_reducible rfl))
          (try simp only [Act.put, List.setIfInBounds_toArray, List.set_cons_zero, List.set_cons_succ])
          refine E_take0 hQ (fun _ => hHeld) 1 (v := ?tv2) rfl rfl (by kernel_rfl) (by kernel_rfl) (by kernel_rfl) (by decide) (by rfl) ?ty2 ?tr2
          case ty2 => (intro w; go_simp; (try with_reducible rfl))
          (try simp only [Act.put, List.setIfInBounds_toArray, List.set_cons_zero, List.set_cons_succ])
          refine E_take0 hQ (fun _ => hHeld) 2 (v := ?tv3) rfl rfl (by kernel_rfl) (by kernel_rfl) (by kernel_rfl) (by decide) (by rfl) ?ty3 ?tr3
          case ty3 => (intro w; go_simp; (try with_reducible rfl))
          (try simp only [Act.put, List.setIfInBounds_toArray, List.set_cons_zero, List.set_cons_succ])
          refine E_take0 hQ (fun _ => hHeld) 3 (v := ?tv4) rfl rfl (by kernel_rfl) (by kernel_rfl) (by kernel_rfl) (by decide) (by rfl) ?ty4 ?tr4
          case ty4 => (intro w; go_simp; (try with_reducible rfl))
          (try simp only [Act.put, List.setIfInBounds_toArray, List.set_cons_zero, List.set_cons_succ])
          refine E_take0 hQ (fun _ => hHeld) 4 (v := ?tv5) rfl rfl (by kernel_rfl) (by kernel_rfl) (by kernel_rfl) (by decide) (by rfl) ?ty5 ?tr5
          case ty5 => (intro w; go_simp; (try with_reducible rfl))
          (try simp only [Act.put, List.setIfInBounds_toArray, List.set_cons_zero, List.set_cons_succ])
          refine E_take0 hQ (fun _ => hHeld) 5 (v := ?tv6) rfl rfl (by kernel_rfl) (by kernel_rfl) (by kernel_rfl) (by decide) (by rfl) ?ty6 ?tr6
          case ty6 => (intro w; go_simp; (try with_reducible rfl))
          (try simp only [Act.put, List.setIfInBounds_toArray, List.set_cons_zero, List.set_cons_succ])
          refine E_take0 hQ (fun _ => hHeld) 6 (v := ?tv7) rfl rfl (by kernel_rfl) (by kernel_rfl) (by kernel_rfl) (by decide) (by rfl) ?ty7 ?tr7
          case ty7 => (intro w; go_simp; (try with_reducible rfl))
          (try simp only [Act.put, List.setIfInBounds_toArray, List.set_cons_zero, List.set_cons_succ])
          refine E_take0 hQ (fun _ => hHeld) 7 (v := ?tv8) rfl rfl (by kernel_rfl) (by kernel_rfl) (by kernel_rfl) (by decide) (by rfl) ?ty8 ?tr8
          case ty8 => (intro w; go_simp; (try with_reducible rfl))
          (try simp only [Act.put, List.setIfInBounds_toArray, List.set_cons_zero, List.set_cons_succ])
          refine E_take0 hQ (fun _ => hHeld) 8 (v := ?tv9) rfl rfl (by kernel_rfl) (by kernel_rfl) (by kernel_rfl) (by decide) (by rfl) ?ty9 ?tr9
          case ty9 => (intro w; go_simp; (try with_reducible rfl))
          (try simp only [Act.put, List.setIfInBounds_toArray, List.set_cons_zero, List.set_cons_succ])
          refine E_take0 hQ (fun _ => hHeld) 9 (v := ?tv10) rfl rfl (by kernel_rfl) (by kernel_rfl) (by kernel_rfl) (by decide) (by rfl) ?ty10 ?tr10
          case ty10 => (intro w; go_simp; (try with_reducible rfl))
          (try simp only [Act.put, List.setIfInBounds_toArray, List.set_cons_zero, List.set_cons_succ])
          refine E_take hQ hHeld 10 (v := ?tv11) rfl rfl (by kernel_rfl) (by kernel_rfl) (by kernel_rfl) (by kernel_rfl) (by kernel_rfl) (by rfl) ?ty11 ?tr11
          case ty11 => (intro w hSw; (try dsimp only at hSw); go_simp; (try with_reducible rfl))
          (try simp only [Act.put, List.setIfInBounds_toArray, List.set_cons_zero, List.set_cons_succ])
          refine E_take0 hQ (fun _ => hHeld) 11 (v := ?tv12) rfl rfl (by kernel_rfl) (by kernel_rfl) (by kernel_rfl) (by decide) (by rfl) ?ty12 ?tr12
          case ty12 => (intro w; go_simp; (try with_reducible rfl))
          (try simp only [Act.put, List.setIfInBounds_toArray, List.set_cons_zero, List.set_cons_succ])
          refine E_take hQ hHeld 12 (v := ?tv13) rfl rfl (by kernel_rfl) (by kernel_rfl) (by kernel_rfl) (by kernel_rfl) (by kernel_rfl) (by rfl) ?ty13 ?tr13
          case ty13 => (intro w hSw; (try dsimp only at hSw); go_simp; (try with_reducible rfl))
          (try simp only [Act.put, List.setIfInBounds_toArray, List.set_cons_zero, List.set_cons_succ])
          refine E_take0 hQ (fun _ => hHeld) 13 (v := ?tv14) rfl rfl (by kernel_rfl) (by kernel_rfl) (by kernel_rfl) (by decide) (by rfl) ?ty14 ?tr14
          case ty14 => (intro w; go_simp; (try with_reducible rfl))
          (try simp only [Act.put, List.setIfInBounds_toArray, List.set_cons_zero, List.set_cons_succ])
          refine E_take hQ hHeld 14 (v := ?tv15) rfl rfl (by kernel_rfl) (by kernel_rfl) (by kernel_rfl) (by kernel_rfl) (by kernel_rfl) (by rfl) ?ty15 ?tr15
          case ty15 => (intro w hSw; (try dsimp only at hSw); go_simp; (try with_reducible rfl))
          (try simp only [Act.put, List.setIfInBounds_toArray, List.set_cons_zero, List.set_cons_succ])
          refine E_take0 hQ (fun _ => hHeld) 15 (v := ?tv16) rfl rfl (by kernel_rfl) (by kernel_rfl) (by kernel_rfl) (by decide) (by rfl) ?ty16 ?tr16
          case ty16 => (intro w; go_simp; (try with_reducible rfl))
          (try simp only [Act.put, List.setIfInBounds_toArray, List.set_cons_zero, List.set_cons_succ])
          refine E_take0 hQ (fun _ => hHeld) 16 (v := ?tv17) rfl rfl (by kernel_rfl) (by kernel_rfl) (by kernel_rfl) (by decide) (by rfl) ?ty17 ?tr17
          case ty17 => (intro w; go_simp; (try with_reducible rfl))
          (try simp only [Act.put, List.setIfInBounds_toArray, List.set_cons_zero, List.set_cons_succ])
          refine E_take0 hQ (fun _ => hHeld) 17 (v := ?tv18) rfl rfl (by kernel_rfl) (by kernel_rfl) (by kernel_rfl) (by decide) (by rfl) ?ty18 ?tr18
          case ty18 => (intro w; go_simp; (try with_reducible rfl))
          (try simp only [Act.put, List.setIfInBounds_toArray, List.set_cons_zero, List.set_cons_succ])
          refine E_one 18 (by kernel_rfl) rfl (by rfl) (fun K hK => ?_)
          go_simp
          (try simp only [Act.put, List.setIfInBounds_toArray, List.set_cons_zero, List.set_cons_succ])
          refine hK.out _ _ (fun _ h => absurd rfl h) (fun _ => ?_)
          clear hK hHeld
          (try simp only [Act.put, List.setIfInBounds_toArray, List.set_cons_zero, List.set_cons_succ])
          refine E_done (by kernel_rfl) ?_ _
          refine hK'.out _ _ ?_
          clear hK' hQ
          go_wp2_with fail
          go_meet
          exact ⟨rfl, (Below.refl _ _).drew⟩
      case rest =>
      obtain ⟨rfl, hbz⟩ := hcut
      generalize wc = wz at *
      clear hb r0 r1 r2 r3 x1
      have hsx := HB2'.out.size
      have hRl : eR < wx.heap.size := (Array.getElem?_eq_some_iff.1 HR2.out).1
      have HBz := Lib.hid (HB2'.out.trans (hbz.mono (by omega)))
      have HSz := Lib.hid (HS2.out.below hbz)
      have HRz := Lib.hid ((hbz.block _ hRl).trans HR2.out)
      have hsz := hbz.size
      obtain ⟨r0, r1, r2, r3, -⟩ := cells4h HRz.out
      clear hbz
      have HOV : Hid (∀ W, SagE W V2 k Z → Calls Tryz.prog 18 #[.pointer (some ⟨k.p, 0, none⟩)] W fun e w' => e = .returned (.bool (settledB p1)) ∧ W = w') := Lib.hid (fun W h => by
        have := Over_any k Z V2 W h
        rw [one_over HO2'.out] at this
        exact this)
      have HSE : Hid (∀ W, Calls Tryz.prog 19 #[.agg #[.int .u8 p1, .int .i64 p2, .int .i64 p3, .bool p4]] W fun e w' => e = .returned (.bool (settledB p1)) ∧ Below W.heap.size W w') := Lib.hid (fun W => Settled_any p1 p2 p3 p4 W)
      have HSTA := Lib.hid (fun W (h : SagE W V2 k Z) => Status_any k Z V2 W h)
      generalize settledB p1 = c at *
      have hst := HO2'.out.st
      dsimp only at hst
      have HST := Lib.hid hst
      clear hst
      go_upto_region 34 with fail
      rcases h3 : (p1 == 3) with _ | _
      · rcases h4 : (p1 == 4) with _ | _
        · have hq : Z.status = 1 := by
            simp at h3 h4
            rw [HST.out, if_neg h3, if_neg h4]
          rw [hq] at HSTA
          clear hq HST
          go_upto_region 38 with fail
          refine E_region (S := (fun W => W.cell? ⟨eR, 0, none⟩ = some (.int .u8 p1) ∧ W.cell? ⟨eR, 1, none⟩ = some (.int .i64 p2) ∧ W.cell? ⟨eR, 2, none⟩ = some (.int .i64 p3) ∧ W.cell? ⟨eR, 3, none⟩ = some (.bool p4))) 8 (by kernel_rfl) ⟨r0, r1, r2, r3⟩ (fun _ _ _ _ _ h => h) (fun Q' hQ hK' hHeld => ?_)
          refine E_take0 hQ (fun _ => hHeld) 0 (v := ?s1v1) rfl rfl (by kernel_rfl) (by kernel_rfl) (by kernel_rfl) (by decide) (by rfl) ?s1y1 ?s1r1
          case s1y1 => (intro w; go_simp; (try with_reducible rfl))
          (try simp only [Act.put, List.setIfInBounds_toArray, List.set_cons_zero, List.set_cons_succ])
          refine E_take0 hQ (fun _ => hHeld) 2 (v := ?s1v2) rfl rfl (by kernel_rfl) (by kernel_rfl) (by kernel_rfl) (by decide) (by rfl) ?s1y2 ?s1r2
          case s1y2 => (intro w; go_simp; (try with_reducible rfl))
          (try simp only [Act.put, List.setIfInBounds_toArray, List.set_cons_zero, List.set_cons_succ])
          refine E_one 1 (by kernel_rfl) rfl (by rfl) (fun K hK => ?_)
          go_simp
          refine (HSTA.out _ (HSz.out.below (Below.refl _ _).drew)).mono ?_
          rintro e w' ⟨rfl, rfl⟩
          (skip)
          refine hK.out _ _ (fun _ _ => hHeld) (fun hHeld' => ?_)
          replace hHeld := hHeld' (by rfl) (by decide)
          clear hK hHeld'
          (try simp only [Act.put, List.setIfInBounds_toArray, List.set_cons_zero, List.set_cons_succ])
          refine E_take0 hQ (fun _ => hHeld) 3 (v := ?s1v3) rfl rfl (by kernel_rfl) (by kernel_rfl) (by kernel_rfl) (by decide) (by rfl) ?s1y3 ?s1r3
          case s1y3 => (intro w; go_simp; (try with_reducible rfl))
          (try simp only [Act.put, List.setIfInBounds_toArray, List.set_cons_zero, List.set_cons_succ])
          refine E_take0 hQ (fun _ => hHeld) 4 (v := ?s1v4) rfl rfl (by kernel_rfl) (by kernel_rfl) (by kernel_rfl) (by decide) (by rfl) ?s1y4 ?s1r4
          case s1y4 => (intro w; go_simp; (try with_reducible rfl))
          (try simp only [Act.put, List.setIfInBounds_toArray, List.set_cons_zero, List.set_cons_succ])
          refine E_take0 hQ (fun _ => hHeld) 5 (v := ?s1v5) rfl rfl (by kernel_rfl) (by kernel_rfl) (by kernel_rfl) (by decide) (by rfl) ?s1y5 ?s1r5
          case s1y5 => (intro w; go_simp; (try with_reducible rfl))
          (try simp only [Act.put, List.setIfInBounds_toArray, List.set_cons_zero, List.set_cons_succ])
          refine E_take hQ hHeld 7 (v := ?s1v6) rfl rfl (by kernel_rfl) (by kernel_rfl) (by kernel_rfl) (by kernel_rfl) (by kernel_rfl) (by rfl) ?s1y6 ?s1r6
          case s1y6 => (intro w hSw; (try dsimp only at hSw); go_simp; (try with_reducible rfl))
          (try simp only [Act.put, List.setIfInBounds_toArray, List.set_cons_zero, List.set_cons_succ])
          refine E_one 6 (by kernel_rfl) rfl (by rfl) (fun K hK => ?_)
          go_simp
          refine (HOV.out _ (HSz.out.below (Below.refl _ _).drew)).mono ?_
          rintro e w' ⟨rfl, rfl⟩
          (skip)
          refine hK.out _ _ (fun _ _ => hHeld) (fun hHeld' => ?_)
          replace hHeld := hHeld' (by rfl) (by decide)
          clear hK hHeld'
          (try simp only [Act.put, List.setIfInBounds_toArray, List.set_cons_zero, List.set_cons_succ])
          refine E_one 8 (by kernel_rfl) rfl (by rfl) (fun K hK => ?_)
          go_simp
          refine (HSE.out _).mono ?_
          rintro e v1 ⟨rfl, hb⟩
          have hbv1 : Below wz.heap.size wz v1 := bthen (Below.refl wz.heap.size wz).drew (Nat.le_refl _) hb
          clear hb
          (skip)
          refine hK.out _ _ (fun _ h => absurd rfl h) (fun _ => ?_)
          clear hK hHeld
          (try simp only [Act.put, List.setIfInBounds_toArray, List.set_cons_zero, List.set_cons_succ])
          refine E_take0 hQ (fun h => absurd h (by decide)) 9 (v := ?s1v7) rfl rfl (by kernel_rfl) (by kernel_rfl) (by kernel_rfl) (by decide) (by rfl) ?s1y7 ?s1r7
          case s1y7 => (intro w; go_simp; (try with_reducible rfl))
          (try simp only [Act.put, List.setIfInBounds_toArray, List.set_cons_zero, List.set_cons_succ])
          refine E_take0 hQ (fun h => absurd h (by decide)) 10 (v := ?s1v8) rfl rfl (by kernel_rfl) (by kernel_rfl) (by kernel_rfl) (by decide) (by rfl) ?s1y8 ?s1r8
          case s1y8 => (intro w; go_simp; (try with_reducible rfl))
          (try simp only [Act.put, List.setIfInBounds_toArray, List.set_cons_zero, List.set_cons_succ])
          refine E_done (by kernel_rfl) ?_ _
          refine hK'.out _ _ ?_
          have HBF := Lib.hid hbv1
          have hsv := hbv1.size
          clear hK' hQ hbv1 r0 r1 r2 r3
          go_wp2_with fail
          go_roundg (l.length + 1 - (j + 1))
          case measure => omega
          case rel => exact ⟨j + 1, Z, (p1, p2, p3, p4), V2, by omega, by omega, by go_num, HO2', Lib.hid (HSz.out.below HBF.out), Lib.hid (fun i hi => ⟨(HV2.out i hi).1, by have := (HV2.out i hi).2; omega⟩), HN2, Lib.hid ((HBF.out.block _ (by omega)).trans HRz.out), Lib.hid (HBz.out.trans (HBF.out.mono (by omega)))⟩
        · have hq : Z.status = 4 := by
            simp at h3 h4
            rw [HST.out, if_neg h3, if_pos h4]
          rw [hq] at HSTA
          clear hq HST
          go_upto_region 38 with fail
          refine E_region (S := (fun W => W.cell? ⟨eR, 0, none⟩ = some (.int .u8 p1) ∧ W.cell? ⟨eR, 1, none⟩ = some (.int .i64 p2) ∧ W.cell? ⟨eR, 2, none⟩ = some (.int .i64 p3) ∧ W.cell? ⟨eR, 3, none⟩ = some (.bool p4))) 8 (by kernel_rfl) ⟨r0, r1, r2, r3⟩ (fun _ _ _ _ _ h => h) (fun Q' hQ hK' hHeld => ?_)
          refine E_take0 hQ (fun _ => hHeld) 0 (v := ?s4v1) rfl rfl (by kernel_rfl) (by kernel_rfl) (by kernel_rfl) (by decide) (by rfl) ?s4y1 ?s4r1
          case s4y1 => (intro w; go_simp; (try with_reducible rfl))
          (try simp only [Act.put, List.setIfInBounds_toArray, List.set_cons_zero, List.set_cons_succ])
          refine E_take0 hQ (fun _ => hHeld) 2 (v := ?s4v2) rfl rfl (by kernel_rfl) (by kernel_rfl) (by kernel_rfl) (by decide) (by rfl) ?s4y2 ?s4r2
          case s4y2 => (intro w; go_simp; (try with_reducible rfl))
          (try simp only [Act.put, List.setIfInBounds_toArray, List.set_cons_zero, List.set_cons_succ])
          refine E_one 1 (by kernel_rfl) rfl (by rfl) (fun K hK => ?_)
          go_simp
          refine (HSTA.out _ (HSz.out.below (Below.refl _ _).drew)).mono ?_
          rintro e w' ⟨rfl, rfl⟩
          (skip)
          refine hK.out _ _ (fun _ _ => hHeld) (fun hHeld' => ?_)
          replace hHeld := hHeld' (by rfl) (by decide)
          clear hK hHeld'
          (try simp only [Act.put, List.setIfInBounds_toArray, List.set_cons_zero, List.set_cons_succ])
          refine E_take0 hQ (fun _ => hHeld) 3 (v := ?s4v3) rfl rfl (by kernel_rfl) (by kernel_rfl) (by kernel_rfl) (by decide) (by rfl) ?s4y3 ?s4r3
          case s4y3 => (intro w; go_simp; (try with_reducible rfl))
          (try simp only [Act.put, List.setIfInBounds_toArray, List.set_cons_zero, List.set_cons_succ])
          refine E_take0 hQ (fun _ => hHeld) 4 (v := ?s4v4) rfl rfl (by kernel_rfl) (by kernel_rfl) (by kernel_rfl) (by decide) (by rfl) ?s4y4 ?s4r4
          case s4y4 => (intro w; go_simp; (try with_reducible rfl))
          (try simp only [Act.put, List.setIfInBounds_toArray, List.set_cons_zero, List.set_cons_succ])
          refine E_take0 hQ (fun _ => hHeld) 5 (v := ?s4v5) rfl rfl (by kernel_rfl) (by kernel_rfl) (by kernel_rfl) (by decide) (by rfl) ?s4y5 ?s4r5
          case s4y5 => (intro w; go_simp; (try with_reducible rfl))
          (try simp only [Act.put, List.setIfInBounds_toArray, List.set_cons_zero, List.set_cons_succ])
          refine E_take hQ hHeld 7 (v := ?s4v6) rfl rfl (by kernel_rfl) (by kernel_rfl) (by kernel_rfl) (by kernel_rfl) (by kernel_rfl) (by rfl) ?s4y6 ?s4r6
          case s4y6 => (intro w hSw; (try dsimp only at hSw); go_simp; (try with_reducible rfl))
          (try simp only [Act.put, List.setIfInBounds_toArray, List.set_cons_zero, List.set_cons_succ])
          refine E_one 6 (by kernel_rfl) rfl (by rfl) (fun K hK => ?_)
          go_simp
          refine (HOV.out _ (HSz.out.below (Below.refl _ _).drew)).mono ?_
          rintro e w' ⟨rfl, rfl⟩
          (skip)
          refine hK.out _ _ (fun _ _ => hHeld) (fun hHeld' => ?_)
          replace hHeld := hHeld' (by rfl) (by decide)
          clear hK hHeld'
          (try simp only [Act.put, List.setIfInBounds_toArray, List.set_cons_zero, List.set_cons_succ])
          refine E_one 8 (by kernel_rfl) rfl (by rfl) (fun K hK => ?_)
          go_simp
          refine (HSE.out _).mono ?_
          rintro e v1 ⟨rfl, hb⟩
          have hbv1 : Below wz.heap.size wz v1 := bthen (Below.refl wz.heap.size wz).drew (Nat.le_refl _) hb
          clear hb
          (skip)
          refine hK.out _ _ (fun _ h => absurd rfl h) (fun _ => ?_)
          clear hK hHeld
          (try simp only [Act.put, List.setIfInBounds_toArray, List.set_cons_zero, List.set_cons_succ])
          refine E_take0 hQ (fun h => absurd h (by decide)) 9 (v := ?s4v7) rfl rfl (by kernel_rfl) (by kernel_rfl) (by kernel_rfl) (by decide) (by rfl) ?s4y7 ?s4r7
          case s4y7 => (intro w; go_simp; (try with_reducible rfl))
          (try simp only [Act.put, List.setIfInBounds_toArray, List.set_cons_zero, List.set_cons_succ])
          refine E_take0 hQ (fun h => absurd h (by decide)) 10 (v := ?s4v8) rfl rfl (by kernel_rfl) (by kernel_rfl) (by kernel_rfl) (by decide) (by rfl) ?s4y8 ?s4r8
          case s4y8 => (intro w; go_simp; (try with_reducible rfl))
          (try simp only [Act.put, List.setIfInBounds_toArray, List.set_cons_zero, List.set_cons_succ])
          refine E_done (by kernel_rfl) ?_ _
          refine hK'.out _ _ ?_
          have HBF := Lib.hid hbv1
          have hsv := hbv1.size
          clear hK' hQ hbv1 r0 r1 r2 r3
          go_wp2_with fail
          go_roundg (l.length + 1 - (j + 1))
          case measure => omega
          case rel => exact ⟨j + 1, Z, (p1, p2, p3, p4), V2, by omega, by omega, by go_num, HO2', Lib.hid (HSz.out.below HBF.out), Lib.hid (fun i hi => ⟨(HV2.out i hi).1, by have := (HV2.out i hi).2; omega⟩), HN2, Lib.hid ((HBF.out.block _ (by omega)).trans HRz.out), Lib.hid (HBz.out.trans (HBF.out.mono (by omega)))⟩
      · have hq : Z.status = 3 := by
          simp at h3
          rw [HST.out, if_pos h3]
        rw [hq] at HSTA
        clear hq HST
        go_upto_region 38 with fail
        refine E_region (S := (fun W => W.cell? ⟨eR, 0, none⟩ = some (.int .u8 p1) ∧ W.cell? ⟨eR, 1, none⟩ = some (.int .i64 p2) ∧ W.cell? ⟨eR, 2, none⟩ = some (.int .i64 p3) ∧ W.cell? ⟨eR, 3, none⟩ = some (.bool p4))) 8 (by kernel_rfl) ⟨r0, r1, r2, r3⟩ (fun _ _ _ _ _ h => h) (fun Q' hQ hK' hHeld => ?_)
        refine E_take0 hQ (fun _ => hHeld) 0 (v := ?s3v1) rfl rfl (by kernel_rfl) (by kernel_rfl) (by kernel_rfl) (by decide) (by rfl) ?s3y1 ?s3r1
        case s3y1 => (intro w; go_simp; (try with_reducible rfl))
        (try simp only [Act.put, List.setIfInBounds_toArray, List.set_cons_zero, List.set_cons_succ])
        refine E_take0 hQ (fun _ => hHeld) 2 (v := ?s3v2) rfl rfl (by kernel_rfl) (by kernel_rfl) (by kernel_rfl) (by decide) (by rfl) ?s3y2 ?s3r2
        case s3y2 => (intro w; go_simp; (try with_reducible rfl))
        (try simp only [Act.put, List.setIfInBounds_toArray, List.set_cons_zero, List.set_cons_succ])
        refine E_one 1 (by kernel_rfl) rfl (by rfl) (fun K hK => ?_)
        go_simp
        refine (HSTA.out _ (HSz.out.below (Below.refl _ _).drew)).mono ?_
        rintro e w' ⟨rfl, rfl⟩
        (skip)
        refine hK.out _ _ (fun _ _ => hHeld) (fun hHeld' => ?_)
        replace hHeld := hHeld' (by rfl) (by decide)
        clear hK hHeld'
        (try simp only [Act.put, List.setIfInBounds_toArray, List.set_cons_zero, List.set_cons_succ])
        refine E_take0 hQ (fun _ => hHeld) 3 (v := ?s3v3) rfl rfl (by kernel_rfl) (by kernel_rfl) (by kernel_rfl) (by decide) (by rfl) ?s3y3 ?s3r3
        case s3y3 => (intro w; go_simp; (try with_reducible rfl))
        (try simp only [Act.put, List.setIfInBounds_toArray, List.set_cons_zero, List.set_cons_succ])
        refine E_take0 hQ (fun _ => hHeld) 4 (v := ?s3v4) rfl rfl (by kernel_rfl) (by kernel_rfl) (by kernel_rfl) (by decide) (by rfl) ?s3y4 ?s3r4
        case s3y4 => (intro w; go_simp; (try with_reducible rfl))
        (try simp only [Act.put, List.setIfInBounds_toArray, List.set_cons_zero, List.set_cons_succ])
        refine E_take0 hQ (fun _ => hHeld) 5 (v := ?s3v5) rfl rfl (by kernel_rfl) (by kernel_rfl) (by kernel_rfl) (by decide) (by rfl) ?s3y5 ?s3r5
        case s3y5 => (intro w; go_simp; (try with_reducible rfl))
        (try simp only [Act.put, List.setIfInBounds_toArray, List.set_cons_zero, List.set_cons_succ])
        refine E_take hQ hHeld 7 (v := ?s3v6) rfl rfl (by kernel_rfl) (by kernel_rfl) (by kernel_rfl) (by kernel_rfl) (by kernel_rfl) (by rfl) ?s3y6 ?s3r6
        case s3y6 => (intro w hSw; (try dsimp only at hSw); go_simp; (try with_reducible rfl))
        (try simp only [Act.put, List.setIfInBounds_toArray, List.set_cons_zero, List.set_cons_succ])
        refine E_one 6 (by kernel_rfl) rfl (by rfl) (fun K hK => ?_)
        go_simp
        refine (HOV.out _ (HSz.out.below (Below.refl _ _).drew)).mono ?_
        rintro e w' ⟨rfl, rfl⟩
        (skip)
        refine hK.out _ _ (fun _ _ => hHeld) (fun hHeld' => ?_)
        replace hHeld := hHeld' (by rfl) (by decide)
        clear hK hHeld'
        (try simp only [Act.put, List.setIfInBounds_toArray, List.set_cons_zero, List.set_cons_succ])
        refine E_one 8 (by kernel_rfl) rfl (by rfl) (fun K hK => ?_)
        go_simp
        refine (HSE.out _).mono ?_
        rintro e v1 ⟨rfl, hb⟩
        have hbv1 : Below wz.heap.size wz v1 := bthen (Below.refl wz.heap.size wz).drew (Nat.le_refl _) hb
        clear hb
        (skip)
        refine hK.out _ _ (fun _ h => absurd rfl h) (fun _ => ?_)
        clear hK hHeld
        (try simp only [Act.put, List.setIfInBounds_toArray, List.set_cons_zero, List.set_cons_succ])
        refine E_take0 hQ (fun h => absurd h (by decide)) 9 (v := ?s3v7) rfl rfl (by kernel_rfl) (by kernel_rfl) (by kernel_rfl) (by decide) (by rfl) ?s3y7 ?s3r7
        case s3y7 => (intro w; go_simp; (try with_reducible rfl))
        (try simp only [Act.put, List.setIfInBounds_toArray, List.set_cons_zero, List.set_cons_succ])
        refine E_take0 hQ (fun h => absurd h (by decide)) 10 (v := ?s3v8) rfl rfl (by kernel_rfl) (by kernel_rfl) (by kernel_rfl) (by decide) (by rfl) ?s3y8 ?s3r8
        case s3y8 => (intro w; go_simp; (try with_reducible rfl))
        (try simp only [Act.put, List.setIfInBounds_toArray, List.set_cons_zero, List.set_cons_succ])
        refine E_done (by kernel_rfl) ?_ _
        refine hK'.out _ _ ?_
        have HBF := Lib.hid hbv1
        have hsv := hbv1.size
        clear hK' hQ hbv1 r0 r1 r2 r3
        go_wp2_with fail
        go_roundg (l.length + 1 - (j + 1))
        case measure => omega
        case rel => exact ⟨j + 1, Z, (p1, p2, p3, p4), V2, by omega, by omega, by go_num, HO2', Lib.hid (HSz.out.below HBF.out), Lib.hid (fun i hi => ⟨(HV2.out i hi).1, by have := (HV2.out i hi).2; omega⟩), HN2, Lib.hid ((HBF.out.block _ (by omega)).trans HRz.out), Lib.hid (HBz.out.trans (HBF.out.mono (by omega)))⟩
    · have d1 : decide ((j : Int) < (l.length : Int)) = false := decide_eq_false (by omega)
      go_wp2_with fail
      go_ret
      exact ⟨rfl, by rw [hP]; exact HB8.out.trans (HB.out.mono (by omega))⟩
end Go.Proofs.YtgafjjgnbcjmpaaGreat

/-
  What the walk is told of asks that came in. Conditions: none of the program's.
-/
namespace Go.Proofs.YtgafjjgnbcjmpaaGreat
open Go Go.RowKit Go.ChangeShapes Go.WideShapes Go.ChangeAt

theorem Tryz.struct_ask : ∃ f0 f1 f2 f3 : Field, Tryz.prog.underlying 50 = some (.struct #[f0, f1, f2, f3]) ∧ (f0.offset = 0 ∧ f0.type = 5) ∧ (f1.offset = 1 ∧ f1.type = 48) ∧ (f2.offset = 5 ∧ f2.type = 2) ∧ (f3.offset = 6 ∧ f3.type = 5) := ⟨_, _, _, _, Tryz.underlying50, ⟨rfl, rfl⟩, ⟨rfl, rfl⟩, ⟨rfl, rfl⟩, ⟨rfl, rfl⟩⟩
theorem Tryz.struct_answer : ∃ f0 f1 f2 f3 : Field, Tryz.prog.underlying 48 = some (.struct #[f0, f1, f2, f3]) ∧ (f0.offset = 0 ∧ f0.type = 3) ∧ (f1.offset = 1 ∧ f1.type = 3) ∧ (f2.offset = 2 ∧ f2.type = 4) ∧ (f3.offset = 3 ∧ f3.type = 5) := ⟨_, _, _, _, Tryz.underlying48, ⟨rfl, rfl⟩, ⟨rfl, rfl⟩, ⟨rfl, rfl⟩, ⟨rfl, rfl⟩⟩
set_option maxRecDepth 100000 in
theorem open_asksR {H : Type} {enc : TypeId × Value → H} {W : World} {base : Nat} {v : Value} {d : DataW H} {ps : List MemPlace} (hv : Value.okWide Tryz.prog W .any base 30 v) (h : DataW.Trod enc Tryz.prog W 0 (fun _ => true) true 30 v d ps) :
    ∃ l : List AskQ, RdS W v 7 l.length (l.flatMap askC) := by
  have hc7 : Tryz.prog.cellsOf 50 = 7 := by kernel_rfl
  obtain ⟨n, C, hC, hr⟩ := open_rowsR (m := 7) Tryz.underlying30 hc7 (by decide) hv h
  have c0 : Tryz.prog.cellsOf 3 = 1 := by kernel_rfl
  have c1 : Tryz.prog.cellsOf 5 = 1 := by kernel_rfl
  have c2 : Tryz.prog.cellsOf 2 = 1 := by kernel_rfl
  have c3 : Tryz.prog.cellsOf 4 = 1 := by kernel_rfl
  have c4 : Tryz.prog.cellsOf 48 = 4 := by kernel_rfl
  obtain ⟨f0, f1, f2, f3, hs, ⟨o0, t0⟩, ⟨o1, t1⟩, ⟨o2, t2⟩, ⟨o3, t3⟩⟩ := Tryz.struct_ask
  obtain ⟨e0, e1, e2, e3, hsa, ⟨p0, u0⟩, ⟨p1, u1⟩, ⟨p2, u2⟩, ⟨p3, u3⟩⟩ := Tryz.struct_answer
  obtain ⟨l, hl, _, hf⟩ := rows_of (f := askC) (p := fun _ => True) (C := C) (n := n) (fun i hi => by
    obtain ⟨hlen, fuel, y, hy⟩ := hC i hi
    obtain ⟨xs, k, hk, hxy, _, hxl, hf⟩ := DataW.trod_struct hs hy
    match hci : C i, hlen with
    | [v0, v1, v2, v3, v4, v5, v6], _ =>
      rw [hci] at hf
      match xs, hxl with
      | [y0, y1, y2, y3], _ =>
        have g0 := hf 0 f0 rfl
        have g1 := hf 1 f1 rfl
        have g2 := hf 2 f2 rfl
        have g3 := hf 3 f3 rfl
        simp [o0, o1, o2, o3, t0, t1, t2, t3, c1, c2, c4] at g0 g1 g2 g3
        obtain ⟨n0, q0, _, _⟩ := DataW.trod_int Tryz.underlying5 g0
        obtain ⟨n5, q5, _, _⟩ := DataW.trod_int Tryz.underlying2 g2
        obtain ⟨n6, q6, _, _⟩ := DataW.trod_int Tryz.underlying5 g3
        obtain ⟨ys, k', _, _, _, hyl, hg⟩ := DataW.trod_struct hsa g1
        match ys, hyl with
        | [z0, z1, z2, z3], _ =>
          have h0 := hg 0 e0 rfl
          have h1 := hg 1 e1 rfl
          have h2 := hg 2 e2 rfl
          have h3 := hg 3 e3 rfl
          simp [p0, p1, p2, p3, u0, u1, u2, u3, c0, c1, c3] at h0 h1 h2 h3
          obtain ⟨n1, q1, _, _⟩ := DataW.trod_int Tryz.underlying3 h0
          obtain ⟨n2, q2, _, _⟩ := DataW.trod_int Tryz.underlying3 h1
          obtain ⟨n3, q3, _, _⟩ := DataW.trod_bool Tryz.underlying4 h2
          obtain ⟨n4, q4, _, _⟩ := DataW.trod_int Tryz.underlying5 h3
          simp at q0 q1 q2 q3 q4 q5 q6
          exact ⟨(n0, (n1, n2, n3, n4), n5, n6), trivial, by rw [q0, q1, q2, q3, q4, q5, q6]; rfl⟩)
  refine ⟨l, ?_⟩
  rw [hl]
  rw [hf] at hr
  exact hr
end Go.Proofs.YtgafjjgnbcjmpaaGreat
