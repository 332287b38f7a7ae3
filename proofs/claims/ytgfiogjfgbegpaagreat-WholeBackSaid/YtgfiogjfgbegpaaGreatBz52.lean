/-
  names.Check: contract.
-/
import Derived.Test.YtgfiogjfgbegpaaGreatBz4
import Derived.Test.YtgfiogjfgbegpaaGreatBz10
import Derived.Test.YtgfiogjfgbegpaaGreatBz38
import Derived.Test.YtgfiogjfgbegpaaGreatBz51
namespace Go.Proofs.YtgfiogjfgbegpaaGreat
open Go.RowKit Go.WideShapes Go.Maps
attribute [local go_sem] Oper.semAt_some wide_fn wide_depth wide_fn' wide_depth'

set_option maxRecDepth 100000 in
set_option maxHeartbeats 8000000 in
theorem nCheck_any (d : DefD) (cs : List Value) (sa : Option Addr) (sc : Nat) (w : World) (h : DefR w cs d sa sc) (hsm : SmallD d) (hrl : (refsF d.steps 0 d.steps).length ≤ 10000) (hok : ∀ x ∈ chkN d, OkG x) :
    Calls Tryz.prog 69 #[.agg cs.toArray] w fun e w' => ∃ va vc, e = .returned (.slice va (sortD (chkN d)).length vc) ∧ DgR w' (.slice va (sortD (chkN d)).length vc) (sortD (chkN d)) ∧ Below w.heap.size w w' := by
  have hlen := hsm.steps
  have hdn := hsm.name
  have HSM := Lib.hid hsm.each
  clear hsm
  obtain ⟨rfl, hna, hta, hva⟩ := h
  obtain ⟨_, _, he1, hl1, hl2⟩ := hva.form
  cases he1
  obtain ⟨gbl, g0, g1, g2, hsz⟩ := alloc3o w (.cells #[.string d.name, .string d.text, .slice sa d.steps.length sc] 24) (.cells #[.slice none 0 0] 76) (.cells #[(.func (.func 97) #[] #[.pointer (some ⟨w.heap.size + 1, 0, none⟩)])] 155)
  have h2 : StW w (((w.alloc (.cells #[.string d.name, .string d.text, .slice sa d.steps.length sc] 24)).alloc (.cells #[.slice none 0 0] 76)).alloc (.cells #[(.func (.func 97) #[] #[.pointer (some ⟨w.heap.size + 1, 0, none⟩)])] 155)) w.heap.size #[.string d.name, .string d.text, .slice sa d.steps.length sc] (.func (.func 97) #[] #[.pointer (some ⟨w.heap.size + 1, 0, none⟩)]) none 0 ([]) := ⟨⟨g1, OwnG.nil _ _⟩, g2, g0, gbl⟩
  obtain ⟨p0, p1, p2, -, -, -⟩ := cells3h (World.alloc_heap_new w (.cells #[.string d.name, .string d.text, .slice sa d.steps.length sc] 24))
  have HVA := Lib.hid hva
  have HATX : Hid (∀ t ∈ d.steps, ∀ x ∈ t.after, x.size ≤ maxLen) := Lib.hid (fun t ht x hx => Nat.le_trans ((HSM.out t ht).aft x hx) (by unfold maxLen; omega))
  have HOKK := Lib.hid hok
  have H2 := Lib.hid h2
  clear hva hok gbl g0 g1 g2 h2
  refine (callsIn_wide (n := 0)).1 ?_
  refine callsIn_of_wp_marks Tryz.func69 rfl trivial ?_ rfl
  simp only [Tryz.ntmps69, List.size_toArray, List.length_cons, List.length_nil, Nat.reduceAdd, Nat.reduceSub, Array.replicate_succ, Array.replicate_zero, List.push_toArray, List.append_toArray, List.nil_append, List.cons_append]
  gi_upto_region 3 with fail
  generalize (((w.alloc (.cells #[.string d.name, .string d.text, .slice sa d.steps.length sc] 24)).alloc (.cells #[.slice none 0 0] 76)).alloc (.cells #[(.func (.func 97) #[] #[.pointer (some ⟨w.heap.size + 1, 0, none⟩)])] 155)) = w2 at *
  clear p0 p1 p2
  obtain ⟨p0, p1, p2, -, -, -⟩ := cells3h H2.out.dfb
  have qn := H2.out.ncell
  have HE : Hid (headN d = noteL (noteL [] ((d.steps.length : Int) == 0) (-1, 17, { data := #[] })) (!rightB d.name) (-1, 18, d.name)) := Lib.hid (by
    unfold headN
    have : ((d.steps.length : Int) == 0) = decide (d.steps.length = 0) := by rw [Bool.eq_iff_iff]; simp
    rw [this]
    rfl)
  have HCK : Hid (chkN d = refsN d.steps [] (refsF d.steps 0 d.steps) (stepsN d.steps 0 d.steps (headN d))) := Lib.hid rfl
  gi_wp2_with fail
  generalize ((d.steps.length : Int) == 0) = eb at *
  refine (callsIn_wide.2 (nnote_any eb (-1) 17 { data := #[] } [] (w.heap.size + 1) 0 none w2 H2.out.out (by simp))).mono ?_
  rintro e w3 ⟨rfl, hnt⟩
  obtain ⟨va3, vc3, h3, -⟩ := H2.out.noted hnt
  have hl3 : (noteL [] eb (-1, 17, { data := #[] })).length ≤ 1 := noteL_len _ _ _
  have H3 := Lib.hid h3
  clear hnt h3 p0 p1 p2 qn H2 hsz
  generalize noteL [] eb (-1, 17, { data := #[] }) = l3 at *
  obtain ⟨p0, p1, p2, -, -, -⟩ := cells3h H3.out.dfb
  have qn := H3.out.ncell
  generalize hrb : rightB d.name = rb at *
  gi_upto_region 4 with fail
  refine E_regionW (S := (fun W => W.cell? ⟨w.heap.size + 1 + 1, 0, none⟩ = some (.func (.func 97) #[] #[.pointer (some ⟨w.heap.size + 1, 0, none⟩)]) ∧ W.cell? ⟨w.heap.size, 0, none⟩ = some (.string d.name))) 7 (by kernel_rfl) (by kernel_rfl) ⟨qn, p0⟩ (fun Q' hQ hK' hHeld => ?_)
  refine E_take hQ hHeld 0 (v := ?ev1) rfl rfl (by kernel_rfl) (by kernel_rfl) (by kernel_rfl) (by kernel_rfl) (by kernel_rfl) (by rfl) ?ey1 ?er1
  case ey1 => (intro w hSw; (try dsimp only at hSw); go_simp; (try with_reducible rfl))
  (try simp only [layE])
  refine E_take0 hQ (fun _ => hHeld) 1 (v := ?ev2) rfl rfl (by kernel_rfl) (by kernel_rfl) (by kernel_rfl) (by decide) (by rfl) ?ey2 ?er2
  case ey2 => (intro w; go_simp; (try with_reducible rfl))
  (try simp only [layE])
  refine E_take hQ hHeld 2 (v := ?ev3) rfl rfl (by kernel_rfl) (by kernel_rfl) (by kernel_rfl) (by kernel_rfl) (by kernel_rfl) (by rfl) ?ey3 ?er3
  case ey3 => (intro w hSw; (try dsimp only at hSw); go_simp; (try with_reducible rfl))
  (try simp only [layE])
  refine E_take0 hQ (fun _ => hHeld) 5 (v := ?ev4) rfl rfl (by kernel_rfl) (by kernel_rfl) (by kernel_rfl) (by decide) (by rfl) ?ey4 ?er4
  case ey4 => (intro w; go_simp; (try with_reducible rfl))
  (try simp only [layE])
  refine E_take hQ hHeld 6 (v := ?ev5) rfl rfl (by kernel_rfl) (by kernel_rfl) (by kernel_rfl) (by kernel_rfl) (by kernel_rfl) (by rfl) ?ey5 ?er5
  case ey5 => (intro w hSw; (try dsimp only at hSw); go_simp; (try with_reducible rfl))
  (try simp only [layE])
  refine E_one 3 (by kernel_rfl) rfl (by rfl) (fun K hK => ?_)
  go_simp
  refine (nRight_any d.name _ (by omega)).mono ?_
  rw [hrb]
  rintro e W3 ⟨rfl, rfl⟩
  (skip)
  refine hK.out _ _ (fun _ _ => hHeld) (fun hHeld' => ?_)
  replace hHeld := hHeld' (by rfl) (by decide)
  clear hK hHeld'
  (try simp only [layE])
  refine E_take0 hQ (fun _ => hHeld) 4 (v := ?ev6) rfl rfl (by kernel_rfl) (by kernel_rfl) (by kernel_rfl) (by decide) (by rfl) ?ey6 ?er6
  case ey6 => (intro w; go_simp; (try with_reducible rfl))
  (try simp only [layE])
  refine E_one 7 (by kernel_rfl) rfl (by rfl) (fun K hK => ?_)
  go_simp
  refine (nnote_any (!rb) (-1) 18 d.name _ (w.heap.size + 1) _ _ _ (H3.out.drew.out) (by omega)).mono ?_
  rintro e W7 ⟨rfl, hnt⟩
  have HNT := Lib.hid hnt
  clear hnt
  (skip)
  refine hK.out _ _ (fun _ h => absurd rfl h) (fun _ => ?_)
  clear hK hHeld
  (try simp only [layE])
  refine E_done (by kernel_rfl) ?_ _
  refine hK'.out _ _ ?_
  obtain ⟨va4, vc4, h4, -⟩ := H3.out.drew.noted HNT.out
  have hl4 : (headN d).length ≤ 2 := headN_len d
  have h4b : StW w W7 w.heap.size #[.string d.name, .string d.text, .slice sa d.steps.length sc] (.func (.func 97) #[] #[.pointer (some ⟨w.heap.size + 1, 0, none⟩)]) va4 vc4 (headN d) := by rw [HE.out]; exact h4
  have H4 := Lib.hid h4b
  clear HE HNT h4 h4b H3 hl3 p0 p1 p2 qn hK' hQ
  generalize headN d = l4 at *
  gi_upto_region 5 with fail
  obtain ⟨p0, p1, p2, -, -, -⟩ := cells3h H4.out.dfb
  have hdw : DefR W7 [.string d.name, .string d.text, .slice sa d.steps.length sc] d sa sc := ⟨rfl, hna, hta, HVA.out.below H4.out.low⟩
  gi_wp2_with fail
  refine (callsIn_wide.2 (places_any d _ sa sc W7 hdw (by omega))).mono ?_
  rintro e w5 ⟨M, nM, rfl, hM, hm5, hb5⟩
  have H5 := Lib.hid (H4.out.below hb5)
  have HM5 := Lib.hid hm5
  have hMn : w.heap.size + 1 + 1 < M := Nat.lt_of_lt_of_le H4.out.nlt hM
  clear hdw hm5 hb5 hM H4 p0 p1 p2
  obtain ⟨p0, p1, p2, -, -, -⟩ := cells3h H5.out.dfb
  gi_wp2_with fail
  clear p0 p1 p2
  gi_loopg [30] (d.steps.length + 1) (fun gk i wr => ∃ (k : Nat) (va : Option Addr) (vc : Nat), k + gk = d.steps.length + 1 ∧ k ≤ d.steps.length ∧ i = .int .i64 k ∧ Hid (StW w wr w.heap.size #[.string d.name, .string d.text, .slice sa d.steps.length sc] (.func (.func 97) #[] #[.pointer (some ⟨w.heap.size + 1, 0, none⟩)]) va vc (stepsN d.steps 0 (d.steps.take k) l4)) ∧ Hid (MapO Tryz.prog 9 3 Value.string wr M nM (plN d.steps)))
  case atStart => exact ⟨0, _, _, by omega, by omega, rfl, H5, HM5⟩
  case round =>
    obtain ⟨k, va0, vc0, hgk, hk, rfl, HST, HMP⟩ := hrel
    have hg : gk = d.steps.length + 1 - k := by omega
    subst hg
    rename World => wr
    obtain ⟨p0, p1, p2, -, -, -⟩ := cells3h HST.out.dfb
    have hcl0 := stepsN_len d.steps (d.steps.take k) 0 l4
    simp only [List.length_take] at hcl0
    by_cases hkl : k < d.steps.length
    · have d1 : decide ((k : Int) < (d.steps.length : Int)) = true := decide_eq_true (by omega)
      have hk1 : (k : Int) < (d.steps.length : Int) := by omega
      obtain ⟨g, off, cap, aa1, ac1, ka1, kc1, ba1, bc1, he, q1, q2, hns0, z0, z1, z2, z3, z4, z5, z6, z7, z8, z9, z10, z11, z12⟩ := (HVA.out.below HST.out.low).at hkl
      cases he
      have HCS : Hid (stepsN d.steps 0 (d.steps.take (k + 1)) l4 = stepN d.steps k d.steps[k] (stepsN d.steps 0 (d.steps.take k) l4)) := Lib.hid (by rw [take_succ_getS hkl, stepsN_snoc, List.length_take, Nat.min_eq_left hk, Nat.zero_add])
      have hnm := hns0.ok.name
      have hss := HSM.out _ (List.getElem_mem hkl)
      have hs1 := hss.name
      have hs2 := hss.action
      have hs3 := hss.undo
      have hix := plN_get hkl
      clear hns0 hss
      generalize d.steps[k] = s at *
      have hl0 : (stepsN d.steps 0 (d.steps.take k) l4).length ≤ 1000 := by omega
      clear hcl0
      generalize hll0 : stepsN d.steps 0 (d.steps.take k) l4 = l0 at *
      gi_upto_region 9 with fail
      have hT := World.alloc_heap_new wr (.cells #[.string s.name, .string s.action, .string s.undo, .slice aa1 s.after.length ac1, .int .i64 s.most, .int .i64 s.first, .int .i64 s.factor, .int .i64 s.limit, .int .u8 (s.note.kind : Int), .string s.note.text, .slice ka1 s.note.keys.length kc1, .slice ba1 s.note.kids.length bc1, .int .i64 s.note.line] 47)
      have hTg : w.heap.size + 1 + 1 < wr.heap.size := HST.out.nlt
      have hbT : Below wr.heap.size wr (wr.alloc (.cells #[.string s.name, .string s.action, .string s.undo, .slice aa1 s.after.length ac1, .int .i64 s.most, .int .i64 s.first, .int .i64 s.factor, .int .i64 s.limit, .int .u8 (s.note.kind : Int), .string s.note.text, .slice ka1 s.note.keys.length kc1, .slice ba1 s.note.kids.length bc1, .int .i64 s.note.line] 47)) := (Below.refl _ _).alloc (Nat.le_refl _) _
      have H8 := Lib.hid (HST.out.below hbT)
      have HM8 := Lib.hid (HMP.out.alloc (.cells #[.string s.name, .string s.action, .string s.undo, .slice aa1 s.after.length ac1, .int .i64 s.most, .int .i64 s.first, .int .i64 s.factor, .int .i64 s.limit, .int .u8 (s.note.kind : Int), .string s.note.text, .slice ka1 s.note.keys.length kc1, .slice ba1 s.note.kids.length bc1, .int .i64 s.note.line] 47))
      have HCS2 : Hid (stepsN d.steps 0 (d.steps.take (k + 1)) l4 = noteL (noteL (noteL (noteL l0 (!rightB s.name) ((k : Int), 18, s.name)) (!rightB s.action) ((k : Int), 18, s.action)) (!s.undo.toList.isEmpty && !rightB s.undo) ((k : Int), 18, s.undo)) (decide (idxStep d.steps s.name 0 < (k : Int))) ((k : Int), 6, s.name)) := HCS
      generalize (wr.alloc (.cells #[.string s.name, .string s.action, .string s.undo, .slice aa1 s.after.length ac1, .int .i64 s.most, .int .i64 s.first, .int .i64 s.factor, .int .i64 s.limit, .int .u8 (s.note.kind : Int), .string s.note.text, .slice ka1 s.note.keys.length kc1, .slice ba1 s.note.kids.length bc1, .int .i64 s.note.line] 47)) = w8 at *
      generalize wr.heap.size = T at *
      clear z0 z1 z2 z3 z4 z5 z6 z7 z8 z9 z10 z11 z12 p0 p1 p2 hbT HST HMP HCS
      have HT8 := Lib.hid hT
      obtain ⟨z0, z1, z2, -⟩ := cells13q hT
      clear hT
      generalize hr1 : rightB s.name = r1 at *
      generalize hr2 : rightB s.action = r2 at *
      generalize hr3 : rightB s.undo = r3 at *
      generalize hue : s.undo.toList.isEmpty = ue at *
      generalize hii : idxStep d.steps s.name 0 = ix at *
      have qn := H8.out.ncell
      refine E_regionW (S := (fun W => W.cell? ⟨w.heap.size + 1 + 1, 0, none⟩ = some (.func (.func 97) #[] #[.pointer (some ⟨w.heap.size + 1, 0, none⟩)]) ∧ W.cell? ⟨T, 0, none⟩ = some (.string s.name))) 8 (by kernel_rfl) (by kernel_rfl) ⟨qn, z0⟩ (fun Q' hQ hK' hHeld => ?_)
      refine E_take hQ hHeld 0 (v := ?f9v1) rfl rfl (by kernel_rfl) (by kernel_rfl) (by kernel_rfl) (by kernel_rfl) (by kernel_rfl) (by rfl) ?f9y1 ?f9r1
      case f9y1 => (intro w hSw; (try dsimp only at hSw); go_simp; (try with_reducible rfl))
      (try simp only [layE])
      refine E_take0 hQ (fun _ => hHeld) 1 (v := ?f9v2) rfl rfl (by kernel_rfl) (by kernel_rfl) (by kernel_rfl) (by decide) (by rfl) ?f9y2 ?f9r2
      case f9y2 => (intro w; go_simp; (try with_reducible rfl))
      (try simp only [layE])
      refine E_take hQ hHeld 2 (v := ?f9v3) rfl rfl (by kernel_rfl) (by kernel_rfl) (by kernel_rfl) (by kernel_rfl) (by kernel_rfl) (by rfl) ?f9y3 ?f9r3
      case f9y3 => (intro w hSw; (try dsimp only at hSw); go_simp; (try with_reducible rfl))
      (try simp only [layE])
      refine E_take0 hQ (fun _ => hHeld) 5 (v := ?f9v4) rfl rfl (by kernel_rfl) (by kernel_rfl) (by kernel_rfl) (by decide) (by rfl) ?f9y4 ?f9r4
      case f9y4 => (intro w; go_simp; (try with_reducible rfl))
      (try simp only [layE])
      refine E_take0 hQ (fun _ => hHeld) 6 (v := ?f9v5) rfl rfl (by kernel_rfl) (by kernel_rfl) (by kernel_rfl) (by decide) (by rfl) ?f9y5 ?f9r5
      case f9y5 => (intro w; go_simp; (try with_reducible rfl))
      (try simp only [layE])
      refine E_take hQ hHeld 7 (v := ?f9v6) rfl rfl (by kernel_rfl) (by kernel_rfl) (by kernel_rfl) (by kernel_rfl) (by kernel_rfl) (by rfl) ?f9y6 ?f9r6
      case f9y6 => (intro w hSw; (try dsimp only at hSw); go_simp; (try with_reducible rfl))
      (try simp only [layE])
      refine E_one 3 (by kernel_rfl) rfl (by rfl) (fun K hK => ?_)
      go_simp
      refine (nRight_any s.name _ (by omega)).mono ?_
      rw [hr1]
      rintro e W93 ⟨rfl, rfl⟩
      (skip)
      refine hK.out _ _ (fun _ _ => hHeld) (fun hHeld' => ?_)
      replace hHeld := hHeld' (by rfl) (by decide)
      clear hK hHeld'
      (try simp only [layE])
      refine E_take0 hQ (fun _ => hHeld) 4 (v := ?f9v7) rfl rfl (by kernel_rfl) (by kernel_rfl) (by kernel_rfl) (by decide) (by rfl) ?f9y7 ?f9r7
      case f9y7 => (intro w; go_simp; (try with_reducible rfl))
      (try simp only [layE])
      refine E_one 8 (by kernel_rfl) rfl (by rfl) (fun K hK => ?_)
      go_simp
      refine (nnote_any (!r1) (k : Int) 18 s.name _ (w.heap.size + 1) _ _ _ (H8.out.drew.out) (by omega)).mono ?_
      rintro e W98 ⟨rfl, hnt⟩
      have HNT := Lib.hid hnt
      clear hnt
      (skip)
      refine hK.out _ _ (fun _ h => absurd rfl h) (fun _ => ?_)
      clear hK hHeld
      (try simp only [layE])
      refine E_done (by kernel_rfl) ?_ _
      refine hK'.out _ _ ?_
      obtain ⟨va9, vc9, h9, -, -, hs9, hk9⟩ := H8.out.drew.noted HNT.out
      have HT9 := Lib.hid (hk9 T _ _ _ HT8.out (by decide) (by omega))
      have HM9 := Lib.hid (H8.out.drew.map hs9 HM8.out.drew)
      have H9 := Lib.hid h9
      clear h9 hs9 hk9 HNT hK' hQ
      have hl9 : (noteL l0 (!r1) ((k : Int), 18, s.name)).length ≤ 1001 := Nat.le_trans (noteL_len _ _ _) (by omega)
      generalize noteL l0 (!r1) ((k : Int), 18, s.name) = l9 at *
      clear H8 HM8 HT8 z0 z1 z2 qn
      obtain ⟨z0, z1, z2, -⟩ := cells13q HT9.out
      have qn := H9.out.ncell
      gi_upto_region 10 with fail
      refine E_regionW (S := (fun W => W.cell? ⟨w.heap.size + 1 + 1, 0, none⟩ = some (.func (.func 97) #[] #[.pointer (some ⟨w.heap.size + 1, 0, none⟩)]) ∧ W.cell? ⟨T, 1, none⟩ = some (.string s.action))) 8 (by kernel_rfl) (by kernel_rfl) ⟨qn, z1⟩ (fun Q' hQ hK' hHeld => ?_)
      refine E_take hQ hHeld 0 (v := ?f10v1) rfl rfl (by kernel_rfl) (by kernel_rfl) (by kernel_rfl) (by kernel_rfl) (by kernel_rfl) (by rfl) ?f10y1 ?f10r1
      case f10y1 => (intro w hSw; (try dsimp only at hSw); go_simp; (try with_reducible rfl))
      (try simp only [layE])
      refine E_take0 hQ (fun _ => hHeld) 1 (v := ?f10v2) rfl rfl (by kernel_rfl) (by kernel_rfl) (by kernel_rfl) (by decide) (by rfl) ?f10y2 ?f10r2
      case f10y2 => (intro w; go_simp; (try with_reducible rfl))
      (try simp only [layE])
      refine E_take hQ hHeld 2 (v := ?f10v3) rfl rfl (by kernel_rfl) (by kernel_rfl) (by kernel_rfl) (by kernel_rfl) (by kernel_rfl) (by rfl) ?f10y3 ?f10r3
      case f10y3 => (intro w hSw; (try dsimp only at hSw); go_simp; (try with_reducible rfl))
      (try simp only [layE])
      refine E_take0 hQ (fun _ => hHeld) 5 (v := ?f10v4) rfl rfl (by kernel_rfl) (by kernel_rfl) (by kernel_rfl) (by decide) (by rfl) ?f10y4 ?f10r4
      case f10y4 => (intro w; go_simp; (try with_reducible rfl))
      (try simp only [layE])
      refine E_take0 hQ (fun _ => hHeld) 6 (v := ?f10v5) rfl rfl (by kernel_rfl) (by kernel_rfl) (by kernel_rfl) (by decide) (by rfl) ?f10y5 ?f10r5
      case f10y5 => (intro w; go_simp; (try with_reducible rfl))
      (try simp only [layE])
      refine E_take hQ hHeld 7 (v := ?f10v6) rfl rfl (by kernel_rfl) (by kernel_rfl) (by kernel_rfl) (by kernel_rfl) (by kernel_rfl) (by rfl) ?f10y6 ?f10r6
      case f10y6 => (intro w hSw; (try dsimp only at hSw); go_simp; (try with_reducible rfl))
      (try simp only [layE])
      refine E_one 3 (by kernel_rfl) rfl (by rfl) (fun K hK => ?_)
      go_simp
      refine (nRight_any s.action _ (by omega)).mono ?_
      rw [hr2]
      rintro e W103 ⟨rfl, rfl⟩
      (skip)
      refine hK.out _ _ (fun _ _ => hHeld) (fun hHeld' => ?_)
      replace hHeld := hHeld' (by rfl) (by decide)
      clear hK hHeld'
      (try simp only [layE])
      refine E_take0 hQ (fun _ => hHeld) 4 (v := ?f10v7) rfl rfl (by kernel_rfl) (by kernel_rfl) (by kernel_rfl) (by decide) (by rfl) ?f10y7 ?f10r7
      case f10y7 => (intro w; go_simp; (try with_reducible rfl))
      (try simp only [layE])
      refine E_one 8 (by kernel_rfl) rfl (by rfl) (fun K hK => ?_)
      go_simp
      refine (nnote_any (!r2) (k : Int) 18 s.action _ (w.heap.size + 1) _ _ _ (H9.out.drew.out) (by omega)).mono ?_
      rintro e W108 ⟨rfl, hnt⟩
      have HNT := Lib.hid hnt
      clear hnt
      (skip)
      refine hK.out _ _ (fun _ h => absurd rfl h) (fun _ => ?_)
      clear hK hHeld
      (try simp only [layE])
      refine E_done (by kernel_rfl) ?_ _
      refine hK'.out _ _ ?_
      obtain ⟨va10, vc10, h10, -, -, hs10, hk10⟩ := H9.out.drew.noted HNT.out
      have HT10 := Lib.hid (hk10 T _ _ _ HT9.out (by decide) (by omega))
      have HM10 := Lib.hid (H9.out.drew.map hs10 HM9.out.drew)
      have H10 := Lib.hid h10
      clear h10 hs10 hk10 HNT hK' hQ
      have hl10 : (noteL l9 (!r2) ((k : Int), 18, s.action)).length ≤ 1002 := Nat.le_trans (noteL_len _ _ _) (by omega)
      generalize noteL l9 (!r2) ((k : Int), 18, s.action) = l10 at *
      clear H9 HM9 HT9 z0 z1 z2 qn
      obtain ⟨z0, z1, z2, -⟩ := cells13q HT10.out
      have qn := H10.out.ncell
      gi_upto_region 11 with fail
      cases ue with
      | true =>
        refine E_regionW (S := (fun W => W.cell? ⟨w.heap.size + 1 + 1, 0, none⟩ = some (.func (.func 97) #[] #[.pointer (some ⟨w.heap.size + 1, 0, none⟩)]) ∧ W.cell? ⟨T, 2, none⟩ = some (.string s.undo))) 13 (by kernel_rfl) (by kernel_rfl) ⟨qn, z2⟩ (fun Q' hQ hK' hHeld => ?_)
        refine E_take hQ hHeld 0 (v := ?f11v1) rfl rfl (by kernel_rfl) (by kernel_rfl) (by kernel_rfl) (by kernel_rfl) (by kernel_rfl) (by rfl) ?f11y1 ?f11r1
        case f11y1 => (intro w hSw; (try dsimp only at hSw); go_simp; (try with_reducible rfl))
        (try simp only [layE])
        refine E_take0 hQ (fun _ => hHeld) 1 (v := ?f11v2) rfl rfl (by kernel_rfl) (by kernel_rfl) (by kernel_rfl) (by decide) (by rfl) ?f11y2 ?f11r2
        case f11y2 => (intro w; go_simp; (try with_reducible rfl))
        (try simp only [layE])
        refine E_take hQ hHeld 2 (v := ?f11v3) rfl rfl (by kernel_rfl) (by kernel_rfl) (by kernel_rfl) (by kernel_rfl) (by kernel_rfl) (by rfl) ?f11y3 ?f11r3
        case f11y3 => (intro w hSw; (try dsimp only at hSw); go_simp; (try with_reducible rfl))
        (try simp only [layE])
        refine E_take0 hQ (fun _ => hHeld) 3 (v := ?f11v4) rfl rfl (by kernel_rfl) (by kernel_rfl) (by kernel_rfl) (by decide) (by rfl) ?f11y4 ?f11r4
        case f11y4 => (intro w; go_simp; (try with_reducible rfl))
        (try simp only [layE])
        refine E_take0 hQ (fun _ => hHeld) 4 (v := ?f11v5) rfl rfl (by kernel_rfl) (by kernel_rfl) (by kernel_rfl) (by decide) (by rfl) ?f11y5 ?f11r5
        case f11y5 => (intro w; go_simp; (try with_reducible rfl))
        (try simp only [layE])
        refine E_off hQ (fun _ => hHeld) 5 rfl rfl (by kernel_rfl) (by kernel_rfl) (by kernel_rfl) (by decide) (by rfl) ?_
        (try simp only [layE])
        refine E_off hQ (fun _ => hHeld) 6 rfl rfl (by kernel_rfl) (by kernel_rfl) (by kernel_rfl) (by decide) (by rfl) ?_
        (try simp only [layE])
        refine E_off hQ (fun _ => hHeld) 7 rfl rfl (by kernel_rfl) (by kernel_rfl) (by kernel_rfl) (by decide) (by rfl) ?_
        (try simp only [layE])
        refine E_off hQ (fun _ => hHeld) 8 rfl rfl (by kernel_rfl) (by kernel_rfl) (by kernel_rfl) (by decide) (by rfl) ?_
        (try simp only [layE])
        refine E_take0 hQ (fun _ => hHeld) 9 (v := ?f11v10) rfl rfl (by kernel_rfl) (by kernel_rfl) (by kernel_rfl) (by decide) (by rfl) ?f11y10 ?f11r10
        case f11y10 => (intro w; go_simp; (try with_reducible rfl))
        (try simp only [layE])
        refine E_take0 hQ (fun _ => hHeld) 10 (v := ?f11v11) rfl rfl (by kernel_rfl) (by kernel_rfl) (by kernel_rfl) (by decide) (by rfl) ?f11y11 ?f11r11
        case f11y11 => (intro w; go_simp; (try with_reducible rfl))
        (try simp only [layE])
        refine E_take0 hQ (fun _ => hHeld) 11 (v := ?f11v12) rfl rfl (by kernel_rfl) (by kernel_rfl) (by kernel_rfl) (by decide) (by rfl) ?f11y12 ?f11r12
        case f11y12 => (intro w; go_simp; (try with_reducible rfl))
        (try simp only [layE])
        refine E_take hQ hHeld 12 (v := ?f11v13) rfl rfl (by kernel_rfl) (by kernel_rfl) (by kernel_rfl) (by kernel_rfl) (by kernel_rfl) (by rfl) ?f11y13 ?f11r13
        case f11y13 => (intro w hSw; (try dsimp only at hSw); go_simp; (try with_reducible rfl))
        (try simp only [layE])
        refine E_one 13 (by kernel_rfl) rfl (by rfl) (fun K hK => ?_)
        go_simp
        refine (nnote_any false (k : Int) 18 s.undo _ (w.heap.size + 1) _ _ _ (H10.out.drew.out) (by omega)).mono ?_
        rintro e W118 ⟨rfl, hnt⟩
        have HNT := Lib.hid hnt
        clear hnt
        (skip)
        refine hK.out _ _ (fun _ h => absurd rfl h) (fun _ => ?_)
        clear hK hHeld
        (try simp only [layE])
        refine E_done (by kernel_rfl) ?_ _
        refine hK'.out _ _ ?_
        obtain ⟨va11, vc11, h11, -, -, hs11, hk11⟩ := H10.out.drew.noted HNT.out
        have HT11 := Lib.hid (hk11 T _ _ _ HT10.out (by decide) (by omega))
        have HM11 := Lib.hid (H10.out.drew.map hs11 HM10.out.drew)
        have H11 := Lib.hid h11
        clear h11 hs11 hk11 HNT hK' hQ
        have hl11 : (noteL l10 (!true && !r3) ((k : Int), 18, s.undo)).length ≤ 1003 := Nat.le_trans (noteL_len _ _ _) (by omega)
        have H11' : Hid (StW w W118 w.heap.size #[.string d.name, .string d.text, (.slice (some ⟨g, off, none⟩) d.steps.length sc)] (.func (.func 97) #[] #[.pointer (some ⟨w.heap.size + 1, 0, none⟩)]) va11 vc11 (noteL l10 (!true && !r3) ((k : Int), 18, s.undo))) := H11
        clear H10 HM10 HT10 z0 z1 z2 qn H11
        generalize noteL l10 (!true && !r3) ((k : Int), 18, s.undo) = l11 at *
        have qn := H11'.out.ncell
        obtain ⟨z0, z1, z2, -⟩ := cells13q HT11.out
        have hlk := HM11.out.look Tryz.keyText hnm
        rw [hix] at hlk
        gi_wp2_with fail
        refine (callsIn_wide.2 (nnote_any (decide (ix < (k : Int))) (k : Int) 6 s.name l11 (w.heap.size + 1) _ _ _ H11'.out.out (by omega))).mono ?_
        rintro e w12 ⟨rfl, hnt⟩
        obtain ⟨va12, vc12, h12, -, -, hs12, -⟩ := H11'.out.noted hnt
        have HM12 := Lib.hid (H11'.out.map hs12 HM11.out)
        rw [← HCS2.out] at h12
        have H12 := Lib.hid h12
        clear h12 hnt hs12 hlk z0 z1 z2 qn H11' HM11 HT11 HCS2
        gi_wp2_with fail
        gi_roundg (d.steps.length + 1 - (k + 1))
        case measure => omega
        case rel => exact ⟨k + 1, va12, vc12, by omega, by omega, by go_num, H12, HM12⟩
      | false =>
        refine E_regionW (S := (fun W => W.cell? ⟨w.heap.size + 1 + 1, 0, none⟩ = some (.func (.func 97) #[] #[.pointer (some ⟨w.heap.size + 1, 0, none⟩)]) ∧ W.cell? ⟨T, 2, none⟩ = some (.string s.undo))) 13 (by kernel_rfl) (by kernel_rfl) ⟨qn, z2⟩ (fun Q' hQ hK' hHeld => ?_)
        refine E_take hQ hHeld 0 (v := ?f12v1) rfl rfl (by kernel_rfl) (by kernel_rfl) (by kernel_rfl) (by kernel_rfl) (by kernel_rfl) (by rfl) ?f12y1 ?f12r1
        case f12y1 => (intro w hSw; (try dsimp only at hSw); go_simp; (try with_reducible rfl))
        (try simp only [layE])
        refine E_take0 hQ (fun _ => hHeld) 1 (v := ?f12v2) rfl rfl (by kernel_rfl) (by kernel_rfl) (by kernel_rfl) (by decide) (by rfl) ?f12y2 ?f12r2
        case f12y2 => (intro w; go_simp; (try with_reducible rfl))
        (try simp only [layE])
        refine E_take hQ hHeld 2 (v := ?f12v3) rfl rfl (by kernel_rfl) (by kernel_rfl) (by kernel_rfl) (by kernel_rfl) (by kernel_rfl) (by rfl) ?f12y3 ?f12r3
        case f12y3 => (intro w hSw; (try dsimp only at hSw); go_simp; (try with_reducible rfl))
        (try simp only [layE])
        refine E_take0 hQ (fun _ => hHeld) 3 (v := ?f12v4) rfl rfl (by kernel_rfl) (by kernel_rfl) (by kernel_rfl) (by decide) (by rfl) ?f12y4 ?f12r4
        case f12y4 => (intro w; go_simp; (try with_reducible rfl))
        (try simp only [layE])
        refine E_take0 hQ (fun _ => hHeld) 4 (v := ?f12v5) rfl rfl (by kernel_rfl) (by kernel_rfl) (by kernel_rfl) (by decide) (by rfl) ?f12y5 ?f12r5
        case f12y5 => (intro w; go_simp; (try with_reducible rfl))
        (try simp only [layE])
        refine E_take0 hQ (fun _ => hHeld) 5 (v := ?f12v6) rfl rfl (by kernel_rfl) (by kernel_rfl) (by kernel_rfl) (by decide) (by rfl) ?f12y6 ?f12r6
        case f12y6 => (intro w; go_simp; (try with_reducible rfl))
        (try simp only [layE])
        refine E_take hQ hHeld 6 (v := ?f12v7) rfl rfl (by kernel_rfl) (by kernel_rfl) (by kernel_rfl) (by kernel_rfl) (by kernel_rfl) (by rfl) ?f12y7 ?f12r7
        case f12y7 => (intro w hSw; (try dsimp only at hSw); go_simp; (try with_reducible rfl))
        (try simp only [layE])
        refine E_take0 hQ (fun _ => hHeld) 10 (v := ?f12v8) rfl rfl (by kernel_rfl) (by kernel_rfl) (by kernel_rfl) (by decide) (by rfl) ?f12y8 ?f12r8
        case f12y8 => (intro w; go_simp; (try with_reducible rfl))
        (try simp only [layE])
        refine E_take0 hQ (fun _ => hHeld) 11 (v := ?f12v9) rfl rfl (by kernel_rfl) (by kernel_rfl) (by kernel_rfl) (by decide) (by rfl) ?f12y9 ?f12r9
        case f12y9 => (intro w; go_simp; (try with_reducible rfl))
        (try simp only [layE])
        refine E_take hQ hHeld 12 (v := ?f12v10) rfl rfl (by kernel_rfl) (by kernel_rfl) (by kernel_rfl) (by kernel_rfl) (by kernel_rfl) (by rfl) ?f12y10 ?f12r10
        case f12y10 => (intro w hSw; (try dsimp only at hSw); go_simp; (try with_reducible rfl))
        (try simp only [layE])
        refine E_one 7 (by kernel_rfl) rfl (by rfl) (fun K hK => ?_)
        go_simp
        refine (nRight_any s.undo _ (by omega)).mono ?_
        rw [hr3]
        rintro e W113 ⟨rfl, rfl⟩
        (skip)
        refine hK.out _ _ (fun _ _ => hHeld) (fun hHeld' => ?_)
        replace hHeld := hHeld' (by rfl) (by decide)
        clear hK hHeld'
        (try simp only [layE])
        refine E_take0 hQ (fun _ => hHeld) 8 (v := ?f12v11) rfl rfl (by kernel_rfl) (by kernel_rfl) (by kernel_rfl) (by decide) (by rfl) ?f12y11 ?f12r11
        case f12y11 => (intro w; go_simp; (try with_reducible rfl))
        (try simp only [layE])
        refine E_take0 hQ (fun _ => hHeld) 9 (v := ?f12v12) rfl rfl (by kernel_rfl) (by kernel_rfl) (by kernel_rfl) (by decide) (by rfl) ?f12y12 ?f12r12
        case f12y12 => (intro w; go_simp; (try with_reducible rfl))
        (try simp only [layE])
        refine E_one 13 (by kernel_rfl) rfl (by rfl) (fun K hK => ?_)
        go_simp
        refine (nnote_any (!r3) (k : Int) 18 s.undo _ (w.heap.size + 1) _ _ _ (H10.out.drew.out) (by omega)).mono ?_
        rintro e W118 ⟨rfl, hnt⟩
        have HNT := Lib.hid hnt
        clear hnt
        (skip)
        refine hK.out _ _ (fun _ h => absurd rfl h) (fun _ => ?_)
        clear hK hHeld
        (try simp only [layE])
        refine E_done (by kernel_rfl) ?_ _
        refine hK'.out _ _ ?_
        obtain ⟨va11, vc11, h11, -, -, hs11, hk11⟩ := H10.out.drew.noted HNT.out
        have HT11 := Lib.hid (hk11 T _ _ _ HT10.out (by decide) (by omega))
        have HM11 := Lib.hid (H10.out.drew.map hs11 HM10.out.drew)
        have H11 := Lib.hid h11
        clear h11 hs11 hk11 HNT hK' hQ
        have hl11 : (noteL l10 (!false && !r3) ((k : Int), 18, s.undo)).length ≤ 1003 := Nat.le_trans (noteL_len _ _ _) (by omega)
        have H11' : Hid (StW w W118 w.heap.size #[.string d.name, .string d.text, (.slice (some ⟨g, off, none⟩) d.steps.length sc)] (.func (.func 97) #[] #[.pointer (some ⟨w.heap.size + 1, 0, none⟩)]) va11 vc11 (noteL l10 (!false && !r3) ((k : Int), 18, s.undo))) := H11
        clear H10 HM10 HT10 z0 z1 z2 qn H11
        generalize noteL l10 (!false && !r3) ((k : Int), 18, s.undo) = l11 at *
        have qn := H11'.out.ncell
        obtain ⟨z0, z1, z2, -⟩ := cells13q HT11.out
        have hlk := HM11.out.look Tryz.keyText hnm
        rw [hix] at hlk
        gi_wp2_with fail
        refine (callsIn_wide.2 (nnote_any (decide (ix < (k : Int))) (k : Int) 6 s.name l11 (w.heap.size + 1) _ _ _ H11'.out.out (by omega))).mono ?_
        rintro e w12 ⟨rfl, hnt⟩
        obtain ⟨va12, vc12, h12, -, -, hs12, -⟩ := H11'.out.noted hnt
        have HM12 := Lib.hid (H11'.out.map hs12 HM11.out)
        rw [← HCS2.out] at h12
        have H12 := Lib.hid h12
        clear h12 hnt hs12 hlk z0 z1 z2 qn H11' HM11 HT11 HCS2
        gi_wp2_with fail
        gi_roundg (d.steps.length + 1 - (k + 1))
        case measure => omega
        case rel => exact ⟨k + 1, va12, vc12, by omega, by omega, by go_num, H12, HM12⟩
    · have d1 : decide ((k : Int) < (d.steps.length : Int)) = false := decide_eq_false (by omega)
      have hk1 : ¬ (k : Int) < (d.steps.length : Int) := by omega
      have HST' : Hid (StW w wr w.heap.size #[.string d.name, .string d.text, .slice sa d.steps.length sc] (.func (.func 97) #[] #[.pointer (some ⟨w.heap.size + 1, 0, none⟩)]) va0 vc0 (stepsN d.steps 0 d.steps l4)) := Lib.hid (by have := HST.out; rwa [List.take_of_length_le (by omega)] at this)
      have hll : (stepsN d.steps 0 d.steps l4).length ≤ 1000 := by have := stepsN_len d.steps d.steps 0 l4; omega
      clear HST HMP hcl0
      have hmm := @run_makeMap Tryz.prog
      have ea := World.alloc_heap_new wr (.map #[] 0)
      have eb1 := World.alloc_heap_new (wr.alloc (.map #[] 0)) (.cells #[.map (some wr.heap.size)] 156)
      rw [World.size_alloc] at eb1
      have ec : ((wr.alloc (.map #[] 0)).alloc (.cells #[.map (some wr.heap.size)] 156)).heap[wr.heap.size]? = some (.map #[] 0) := (Below.heap_alloc _ _ _ (by simp)).trans ea
      have hbl : Below wr.heap.size wr ((wr.alloc (.map #[] 0)).alloc (.cells #[.map (some wr.heap.size)] 156)) := ((Below.refl _ _).alloc (Nat.le_refl _) _).alloc (by simp) _
      have h14 := HST'.out.below hbl
      have hmo : MapO Tryz.prog 158 3 aggO ((wr.alloc (.map #[] 0)).alloc (.cells #[.map (some wr.heap.size)] 156)) wr.heap.size 0 fun _ => none := (MapO.made Tryz.prog 158 3 aggO wr).block (ec.trans ea.symm)
      have hTg : w.heap.size + 1 + 1 < wr.heap.size := HST'.out.nlt
      have hs14 : ((wr.alloc (.map #[] 0)).alloc (.cells #[.map (some wr.heap.size)] 156)).heap.size = wr.heap.size + 2 := by simp
      gi_upto_region 15 with fail
      generalize ((wr.alloc (.map #[] 0)).alloc (.cells #[.map (some wr.heap.size)] 156)) = w14 at *
      generalize wr.heap.size = R at *
      clear p0 p1 p2 ea ec hbl hmm HST'
      obtain ⟨p0, p1, p2, -, -, -⟩ := cells3h h14.dfb
      have H14 := Lib.hid h14
      have HO14 := Lib.hid hmo
      have HX14 : Hid (Boxed w14 (R + 1) 156 (.map (some R))) := Lib.hid eb1
      clear h14 hmo eb1
      gi_wp2_with fail
      refine (callsIn_wide.2 (refs_any [.string d.name, .string d.text, .slice sa d.steps.length sc] rfl w14)).mono ?_
      rintro e w15 ⟨rfl, rfl⟩
      have hX := World.alloc_heap_new w14 (.cells #[.string d.name, .string d.text, .slice sa d.steps.length sc] 24)
      have hbX : Below w14.heap.size w14 (w14.alloc (.cells #[.string d.name, .string d.text, .slice sa d.steps.length sc] 24)) := (Below.refl _ _).alloc (Nat.le_refl _) _
      have h15 := H14.out.below hbX
      have hm15 := HO14.out.alloc (.cells #[.string d.name, .string d.text, .slice sa d.steps.length sc] 24)
      have hx15 : Boxed (w14.alloc (.cells #[.string d.name, .string d.text, .slice sa d.steps.length sc] 24)) (R + 1) 156 (.map (some R)) := (hbX.block _ HX14.out.lt).trans HX14.out
      have hsX : (w14.alloc (.cells #[.string d.name, .string d.text, .slice sa d.steps.length sc] 24)).heap.size = R + 3 := by rw [World.size_alloc, hs14]
      rw [hs14] at hX
      clear hbX H14 HO14 HX14 p0 p1 p2
      gi_wp2_with fail
      (try simp only [hs14])
      generalize (w14.alloc (.cells #[.string d.name, .string d.text, .slice sa d.steps.length sc] 24)) = w15 at *
      clear hs14
      generalize hl15 : stepsN d.steps 0 d.steps l4 = l15 at *
      have HRM := Lib.hid (fun r => refsF_mem d.steps d.steps 0 r)
      refine' wpIn_rfB rfl (enters_of Tryz.func75 (by kernel_rfl) rfl) (refs_iter d sa sc (w.heap.size + 1) (R + 2) w w15 (by omega) (by omega) hX hna hta HVA.out (by omega) (h15.low.mono (by omega)) (by omega)) (by omega) (by rintro j rfl; omega) (fun _ => rfl)
        (nkJ w w.heap.size R #[.string d.name, .string d.text, .slice sa d.steps.length sc] (.func (.func 97) #[] #[.pointer (some ⟨w.heap.size + 1, 0, none⟩)]) d.steps l15) (fun _ => fun _ _ _ => False) ?hfin ?hJ ?hJx ?h0 _ (fun y => #[.int .i64 (y.1 : Int), .string y.2.1, .int .i64 y.2.2]) 84 ?assign ?body ?done ?stop
      case assign =>
        intro l S pre x W K hS hw hj hK
        dsimp only [encRf]
        have HS := Lib.hid hS
        have HK := Lib.hid hK
        have HJ := Lib.hid hj
        have hsW : w.heap.size + 1 ≤ W.heap.size := by omega
        clear hS hK hj
        gi_wp2_with fail
        have hal : Below W.heap.size W (W.alloc (.cells #[.int .i64 (x.1 : Int), .string x.2.1, .int .i64 x.2.2] 84)) := (Below.refl _ _).alloc (Nat.le_refl _) _
        have k1 : Keep (w.heap.size + 1) S W (W.alloc (.cells #[.int .i64 (x.1 : Int), .string x.2.1, .int .i64 x.2.2] 84)) := ⟨hal.mono hsW, fun j hj => hal.block j (HS.out j hj).2⟩
        have k2 := nkJ_step w w.heap.size R #[.string d.name, .string d.text, .slice sa d.steps.length sc] (.func (.func 97) #[] #[.pointer (some ⟨w.heap.size + 1, 0, none⟩)]) d.steps l15 S S _ _ _ HS.out HJ.out (Step.of_below hsW hal)
        have k3 := World.alloc_heap_new W (.cells #[.int .i64 (x.1 : Int), .string x.2.1, .int .i64 x.2.2] 84)
        generalize (W.alloc (.cells #[.int .i64 (x.1 : Int), .string x.2.1, .int .i64 x.2.2] 84)) = W' at *
        generalize W.heap.size = b at *
        exact HK.out b W' k1 k2 k3
      case hfin => exact fun h => absurd trivial h
      case hJ => exact nkJ_step w w.heap.size R #[.string d.name, .string d.text, .slice sa d.steps.length sc] (.func (.func 97) #[] #[.pointer (some ⟨w.heap.size + 1, 0, none⟩)]) d.steps l15
      case hJx => exact fun _ _ _ _ _ _ _ h _ => h
      case h0 =>
        refine ⟨_, _, 0, ⟨h15, ?_, Nat.le_refl _, hx15, by omega, by omega, by omega, by omega, ?_⟩⟩
        · have e : cntI (([] : List RefD).map keyR) = fun _ => none := by funext z; simp [cntI]
          rw [e]; exact hm15
        · rintro q e rfl
          exact h15.out.own.ne hX (by decide) e
      case stop => exact fun _ _ _ _ _ _ _ _ _ h => h.elim
      case done =>
        rintro D S W hD hS hSD ⟨va, vc, nM, h⟩ hKD
        have hc := h.st.out.box.cell
        have hck : refsN d.steps [] (refsF d.steps 0 d.steps) l15 = chkN d := HCK.out.symm
        have hst := h.st
        rw [hck] at hst hc
        have hlen : (chkN d).length ≤ 1000000 := by
          rw [← hck]
          have := refsN_len d.steps (refsF d.steps 0 d.steps) [] l15
          omega
        have HOKS := Lib.hid (fun x (hx : x ∈ sortD (chkN d)) => HOKK.out x ((sortD_mem _ x).1 hx))
        have HDG := Lib.hid (hst.out.own.read HOKK.out)
        have HLW := Lib.hid hst.low
        have hDl := (hS D hSD)
        have HKD := Lib.hid hKD
        clear hS h hX h15 hm15 hx15 hst hck hKD
        generalize hgl : (chkN d).length = nl at *
        gi_wp2_with fail
        subst hgl
        refine (callsIn_wide.2 (dSort_any _ _ _ HDG.out hlen)).mono ?_
        rintro e w6 ⟨ua, uc, rfl, ho6, hb6⟩
        have HO6 := Lib.hid ho6
        have HBF := Lib.hid (bthen HLW.out (by have := HLW.out.size; omega) hb6)
        have hKD6 := (hb6.block D hDl.2).trans HKD.out
        have hD6 : w.heap.size ≤ D := by omega
        clear ho6 hb6 hc
        gi_wp2
        refine ⟨by simp, .inl ⟨_, _, rfl, run_takeDeferred hKD6, ?_⟩⟩
        have hb : Below D w6 (w6.putObj D (.deferred none)) := below_putObj _ _ (Nat.le_refl D)
        exact ⟨_, results_tmp rfl _ _ _, _, _, rfl, (HO6.out.block fun q e => World.putObj_heap_other (by have := (HO6.out.heap q e).1; omega)).read HOKS.out, HBF.out.trans (hb.mono hD6)⟩
      case body =>
        rintro l S pre ⟨i, a, tt⟩ b W hS hw hSl - ⟨va, vc, nM, h⟩ hb hpre
        obtain ⟨-, hi0, -, s0, hs0, ha0⟩ := HRM.out _ (hpre.subset (by simp : ((i, a, tt) : RefD) ∈ pre ++ [(i, a, tt)]))
        simp only [Nat.zero_add, Nat.sub_zero] at hi0 hs0
        have hpl := hpre.length_le
        rw [List.length_append, List.length_singleton] at hpl
        have HSN : Hid (refsN d.steps [] (pre ++ [(i, a, tt)]) l15 = refN d.steps pre (i, a, tt) (refsN d.steps [] pre l15)) := Lib.hid (by rw [refsN_snoc, List.nil_append])
        have hrl0 := refsN_len d.steps pre [] l15
        have hgi : d.steps[i] = s0 := by rw [List.getElem?_eq_getElem hi0] at hs0; exact Option.some.inj hs0
        have hi1 : (i : Int) < (d.steps.length : Int) := by omega
        have hn63 : d.steps.length ≤ 9223372036854775807 := by omega
        have HOK : Hid (OkO (i, a)) := Lib.hid ⟨⟨by show -9223372036854775808 ≤ (i : Int); omega, by show (i : Int) ≤ 9223372036854775807; omega⟩, HATX.out s0 (List.mem_of_getElem? hs0) a ha0⟩
        have HC1 := Lib.hid (cntI_zero (pre.map keyR) (i, a))
        have HC2 : Hid (cntI ((pre ++ [((i, a, tt) : RefD)]).map keyR) = fun y => if y = (i, a) then some (((cntN (pre.map keyR) (i, a) : Nat) : Int) + 1) else cntI (pre.map keyR) y) := Lib.hid (by rw [List.map_append, List.map_singleton]; exact (cntI_push _ _).symm)
        have hcle : cntN (pre.map keyR) (i, a) ≤ pre.length := Nat.le_trans (cntN_le _ _) (by rw [List.length_map]; exact Nat.le_refl _)
        have hZ : decide (0 < cntN (pre.map keyR) (keyR (i, a, tt))) = decide ((0 : Int) < ((cntN (pre.map keyR) (i, a) : Nat) : Int)) := by
          rw [Bool.eq_iff_iff, decide_eq_true_eq, decide_eq_true_eq]
          show 0 < cntN (pre.map keyR) (i, a) ↔ _
          omega
        have hY : decide (d.steps[i]?.map StepD.name = some a) = (a.toList == s0.name.toList) := by
          rw [hs0, beqS, Bool.eq_iff_iff, decide_eq_true_eq, decide_eq_true_eq]
          constructor
          · intro h; exact (Option.some.inj h).symm
          · intro h; rw [h]; rfl
        unfold refN at HSN
        dsimp only at HSN
        rw [hZ, hY] at HSN
        clear hZ hY
        have hnM := h.few
        have HST0 := Lib.hid h.st
        have HMP0 := Lib.hid h.map
        have HMX0 := Lib.hid h.mbox
        have HT0 := Lib.hid hb
        have HO0 := Lib.hid h.o5
        have HS := Lib.hid hS
        have o1 := h.o1
        have o2 := h.o2
        have o3 := h.o3
        have o4 := h.o4
        have hTb : b ≠ w.heap.size + 1 := by rintro rfl; rw [show W.heap[w.heap.size + 1]? = _ from h.st.out.box] at hb; cases hb
        have hsW : R + 3 ≤ W.heap.size := by omega
        clear hS h hb hpre hs0 ha0
        (try clear hX)
        (try clear h15)
        (try clear hm15)
        (try clear hx15)
        generalize hrr : refsN d.steps [] pre l15 = l0 at *
        generalize hcc : cntN (pre.map keyR) (i, a) = c at *
        have hdt : decide (tt < (0 : Int)) = decide (tt < 0) := rfl
        generalize htn : decide (tt < 0) = b1 at *
        generalize heq2 : (a.toList == s0.name.toList) = b2 at *
        generalize hgt3 : decide ((0 : Int) < (c : Int)) = b3 at *
        have hgt4 : decide (0 < c) = b3 := by rw [← hgt3, Bool.eq_iff_iff, decide_eq_true_eq, decide_eq_true_eq]; omega
        obtain ⟨t0, t1, t2, -, -, -⟩ := cells3h HT0.out
        have qn := HST0.out.ncell
        dsimp only
        gi_wp2_with fail
        refine (CallsIn.inRound l (callsIn_wide.2 (nnote_any b1 (i : Int) 5 a l0 (w.heap.size + 1) _ _ W HST0.out.out (by omega)))).mono ?_
        rintro e W1 ⟨rfl, hnt⟩
        obtain ⟨va1, vc1, st1, mp1, mx1, hT1, ho1, hk1, hb1⟩ := NkN (n0 := w.heap.size + 1) HST0.out HMP0.out HMX0.out HT0.out (by decide) hTb (by omega) HS.out o1 HO0.out (Nat.le_refl _) hnt
        have hl1 : (noteL l0 b1 ((i : Int), 5, a)).length ≤ l0.length + 1 := noteL_len _ _ _
        have HS1 : Hid (∀ k, S k → w.heap.size + 1 ≤ k ∧ k < W1.heap.size) := Lib.hid fun k hk => ⟨(HS.out k hk).1, Nat.lt_of_lt_of_le (HS.out k hk).2 hk1.below.size⟩
        have HST1 := Lib.hid st1
        have HMP1 := Lib.hid mp1
        have HMX1 := Lib.hid mx1
        have HT1 := Lib.hid hT1
        have HO1 := Lib.hid ho1
        have HK1 := Lib.hid hk1
        clear st1 mp1 mx1 hT1 ho1 hk1 hb1 hnt t0 t1 t2 qn HST0 HMP0 HMX0 HT0 HO0
        generalize noteL l0 b1 ((i : Int), 5, a) = l1 at *
        obtain ⟨t0, t1, t2, -, -, -⟩ := cells3h HT1.out
        obtain ⟨p0, p1, p2, -, -, -⟩ := cells3h HST1.out.dfb
        have qn := HST1.out.ncell
        obtain ⟨g, off, cap, aa1, ac1, ka1, kc1, ba1, bc1, he, q1, q2, -, z0, -⟩ := (HVA.out.below HST1.out.low).at hi0
        cases he
        rw [hgi] at z0
        gi_wp2_with fail
        gi_upto_region 18 with fail
        refine E_regionR (S := (fun W => W.cell? ⟨w.heap.size + 1 + 1, 0, none⟩ = some (.func (.func 97) #[] #[.pointer (some ⟨w.heap.size + 1, 0, none⟩)]) ∧ W.cell? ⟨b, 0, none⟩ = some (.int .i64 (i : Int)) ∧ W.cell? ⟨b, 1, none⟩ = some (.string a) ∧ W.cell? ⟨w.heap.size, 2, none⟩ = some (.slice (some ⟨g, off, none⟩) d.steps.length sc) ∧ W.cell? ⟨g, off + i * 13, none⟩ = some (.string s0.name))) 15 (by kernel_rfl) (by kernel_rfl) ⟨qn, t0, t1, p2, z0⟩ (fun Q' hQ hK' hHeld => ?_)
        refine E_take hQ hHeld 0 (v := ?g8v1) rfl rfl (by kernel_rfl) (by kernel_rfl) (by kernel_rfl) (by kernel_rfl) (by kernel_rfl) (by rfl) ?g8y1 ?g8r1
        case g8y1 => (intro w hSw; (try dsimp only at hSw); go_simp; (try with_reducible rfl))
        (try simp only [layE])
        refine E_take0 hQ (fun _ => hHeld) 1 (v := ?g8v2) rfl rfl (by kernel_rfl) (by kernel_rfl) (by kernel_rfl) (by decide) (by rfl) ?g8y2 ?g8r2
        case g8y2 => (intro w; go_simp; (try with_reducible rfl))
        (try simp only [layE])
        refine E_take hQ hHeld 2 (v := ?g8v3) rfl rfl (by kernel_rfl) (by kernel_rfl) (by kernel_rfl) (by kernel_rfl) (by kernel_rfl) (by rfl) ?g8y3 ?g8r3
        case g8y3 => (intro w hSw; (try dsimp only at hSw); go_simp; (try with_reducible rfl))
        (try simp only [layE])
        refine E_take0 hQ (fun _ => hHeld) 3 (v := ?g8v4) rfl rfl (by kernel_rfl) (by kernel_rfl) (by kernel_rfl) (by decide) (by rfl) ?g8y4 ?g8r4
        case g8y4 => (intro w; go_simp; (try with_reducible rfl))
        (try simp only [layE])
        refine E_take hQ hHeld 4 (v := ?g8v5) rfl rfl (by kernel_rfl) (by kernel_rfl) (by kernel_rfl) (by kernel_rfl) (by kernel_rfl) (by rfl) ?g8y5 ?g8r5
        case g8y5 => (intro w hSw; (try dsimp only at hSw); go_simp; (try with_reducible rfl))
        (try simp only [layE])
        refine E_take0 hQ (fun _ => hHeld) 5 (v := ?g8v6) rfl rfl (by kernel_rfl) (by kernel_rfl) (by kernel_rfl) (by decide) (by rfl) ?g8y6 ?g8r6
        case g8y6 => (intro w; go_simp; (try with_reducible rfl))
        (try simp only [layE])
        refine E_take hQ hHeld 6 (v := ?g8v7) rfl rfl (by kernel_rfl) (by kernel_rfl) (by kernel_rfl) (by kernel_rfl) (by kernel_rfl) (by rfl) ?g8y7 ?g8r7
        case g8y7 => (intro w hSw; (try dsimp only at hSw); go_simp; (try with_reducible rfl))
        (try simp only [layE])
        refine E_take0 hQ (fun _ => hHeld) 7 (v := ?g8v8) rfl rfl (by kernel_rfl) (by kernel_rfl) (by kernel_rfl) (by decide) (by rfl) ?g8y8 ?g8r8
        case g8y8 => (intro w; go_simp; (try with_reducible rfl))
        (try simp only [layE])
        refine E_take0 hQ (fun _ => hHeld) 8 (v := ?g8v9) rfl rfl (by kernel_rfl) (by kernel_rfl) (by kernel_rfl) (by decide) (by rfl) ?g8y9 ?g8r9
        case g8y9 => (intro w; go_simp; (try with_reducible rfl))
        (try simp only [layE])
        refine E_take hQ hHeld 9 (v := ?g8v10) rfl rfl (by kernel_rfl) (by kernel_rfl) (by kernel_rfl) (by kernel_rfl) (by kernel_rfl) (by rfl) ?g8y10 ?g8r10
        case g8y10 => (intro w hSw; (try dsimp only at hSw); go_simp; (try with_reducible rfl))
        (try simp only [layE])
        refine E_take0 hQ (fun _ => hHeld) 10 (v := ?g8v11) rfl rfl (by kernel_rfl) (by kernel_rfl) (by kernel_rfl) (by decide) (by rfl) ?g8y11 ?g8r11
        case g8y11 => (intro w; go_simp; (try with_reducible rfl))
        (try simp only [layE])
        refine E_take0 hQ (fun _ => hHeld) 11 (v := ?g8v12) rfl rfl (by kernel_rfl) (by kernel_rfl) (by kernel_rfl) (by decide) (by rfl) ?g8y12 ?g8r12
        case g8y12 => (intro w; go_simp; (try with_reducible rfl))
        (try simp only [layE])
        refine E_take hQ hHeld 12 (v := ?g8v13) rfl rfl (by kernel_rfl) (by kernel_rfl) (by kernel_rfl) (by kernel_rfl) (by kernel_rfl) (by rfl) ?g8y13 ?g8r13
        case g8y13 => (intro w hSw; (try dsimp only at hSw); go_simp; (try with_reducible rfl))
        (try simp only [layE])
        refine E_take0 hQ (fun _ => hHeld) 13 (v := ?g8v14) rfl rfl (by kernel_rfl) (by kernel_rfl) (by kernel_rfl) (by decide) (by rfl) ?g8y14 ?g8r14
        case g8y14 => (intro w; go_simp; (try with_reducible rfl))
        (try simp only [layE])
        refine E_take hQ hHeld 14 (v := ?g8v15) rfl rfl (by kernel_rfl) (by kernel_rfl) (by kernel_rfl) (by kernel_rfl) (by kernel_rfl) (by rfl) ?g8y15 ?g8r15
        case g8y15 => (intro w hSw; (try dsimp only at hSw); go_simp; (try with_reducible rfl))
        (try simp only [layE])
        refine E_one 15 (by kernel_rfl) rfl (by rfl) (fun K hK => ?_)
        go_simp
        refine (nnote_any b2 (i : Int) 8 a l1 (w.heap.size + 1) _ _ W1.drew (HST1.out.drew.out) (by omega)).mono ?_
        rintro e W2 ⟨rfl, hnt⟩
        have HNT := Lib.hid hnt
        clear hnt
        (skip)
        refine hK.out _ _ (fun _ h => absurd rfl h) (fun _ => ?_)
        clear hK hHeld
        (try simp only [layE])
        refine E_done (by kernel_rfl) ?_ _
        refine hK'.out _ _ ?_
        obtain ⟨va2, vc2, st2, mp2, mx2, hT2, ho2, hk2, hb2⟩ := NkN (n0 := w.heap.size + 1) HST1.out.drew (HMP1.out.drew) (W := W1.drew) HMX1.out HT1.out (by decide) hTb (by omega) HS1.out o1 HO1.out (Nat.le_refl _) HNT.out
        have hl2 : (noteL l1 b2 ((i : Int), 8, a)).length ≤ l1.length + 1 := noteL_len _ _ _
        have HS2 : Hid (∀ k, S k → w.heap.size + 1 ≤ k ∧ k < W2.heap.size) := Lib.hid fun k hk => ⟨(HS1.out k hk).1, Nat.lt_of_lt_of_le (HS1.out k hk).2 hk2.below.size⟩
        have HST2 := Lib.hid st2
        have HMP2 := Lib.hid mp2
        have HMX2 := Lib.hid mx2
        have HT2 := Lib.hid hT2
        have HO2 := Lib.hid ho2
        have HK2 := Lib.hid hk2
        clear st2 mp2 mx2 hT2 ho2 hk2 hb2 HNT t0 t1 t2 qn p0 p1 p2 z0 HST1 HMP1 HMX1 HT1 HO1 HS1 hK' hQ
        generalize noteL l1 b2 ((i : Int), 8, a) = l2 at *
        obtain ⟨t0, t1, t2, -, -, -⟩ := cells3h HT2.out
        have qn := HST2.out.ncell
        have qx := HMX2.out.cell
        have hlk := (HMP2.out.drew).look Tryz.keyOwn HOK.out
        rw [HC1.out] at hlk
        dsimp only [aggO] at hlk
        gi_upto_region 19 with fail
        refine E_regionR (S := (fun W => W.cell? ⟨w.heap.size + 1 + 1, 0, none⟩ = some (.func (.func 97) #[] #[.pointer (some ⟨w.heap.size + 1, 0, none⟩)]) ∧ W.cell? ⟨R + 1, 0, none⟩ = some (.map (some R)) ∧ W.cell? ⟨b, 0, none⟩ = some (.int .i64 (i : Int)) ∧ W.cell? ⟨b, 1, none⟩ = some (.string a) ∧ (Instr.lookup 156 (.map (some R)) (.agg #[.int .i64 (i : Int), .string a]) false).run Tryz.prog W = .ok (.int .i64 (c : Int)) W)) 13 (by kernel_rfl) (by kernel_rfl) ⟨qn, qx, t0, t1, hlk⟩ (fun Q' hQ hK' hHeld => ?_)
        refine E_take hQ hHeld 0 (v := ?g9v1) rfl rfl (by kernel_rfl) (by kernel_rfl) (by kernel_rfl) (by kernel_rfl) (by kernel_rfl) (by rfl) ?g9y1 ?g9r1
        case g9y1 => (intro w hSw; (try dsimp only at hSw); go_simp; (try with_reducible rfl))
        (try simp only [layE])
        refine E_take hQ hHeld 1 (v := ?g9v2) rfl rfl (by kernel_rfl) (by kernel_rfl) (by kernel_rfl) (by kernel_rfl) (by kernel_rfl) (by rfl) ?g9y2 ?g9r2
        case g9y2 => (intro w hSw; (try dsimp only at hSw); go_simp; (try with_reducible rfl))
        (try simp only [layE])
        refine E_take0 hQ (fun _ => hHeld) 2 (v := ?g9v3) rfl rfl (by kernel_rfl) (by kernel_rfl) (by kernel_rfl) (by decide) (by rfl) ?g9y3 ?g9r3
        case g9y3 => (intro w; go_simp; (try with_reducible rfl))
        (try simp only [layE])
        refine E_take hQ hHeld 3 (v := ?g9v4) rfl rfl (by kernel_rfl) (by kernel_rfl) (by kernel_rfl) (by kernel_rfl) (by kernel_rfl) (by rfl) ?g9y4 ?g9r4
        case g9y4 => (intro w hSw; (try dsimp only at hSw); go_simp; (try with_reducible rfl))
        (try simp only [layE])
        refine E_take0 hQ (fun _ => hHeld) 4 (v := ?g9v5) rfl rfl (by kernel_rfl) (by kernel_rfl) (by kernel_rfl) (by decide) (by rfl) ?g9y5 ?g9r5
        case g9y5 => (intro w; go_simp; (try with_reducible rfl))
        (try simp only [layE])
        refine E_take hQ hHeld 5 (v := ?g9v6) rfl rfl (by kernel_rfl) (by kernel_rfl) (by kernel_rfl) (by kernel_rfl) (by kernel_rfl) (by rfl) ?g9y6 ?g9r6
        case g9y6 => (intro w hSw; (try dsimp only at hSw); go_simp; (try with_reducible rfl))
        (try simp only [layE])
        refine E_take0 hQ (fun _ => hHeld) 6 (v := ?g9v7) rfl rfl (by kernel_rfl) (by kernel_rfl) (by kernel_rfl) (by decide) (by rfl) ?g9y7 ?g9r7
        case g9y7 => (intro w; go_simp; (try with_reducible rfl))
        (try simp only [layE])
        refine E_take hQ hHeld 7 (v := ?g9v8) rfl rfl (by kernel_rfl) (by kernel_rfl) (by kernel_rfl) (by kernel_rfl) (by kernel_rfl) (by rfl) ?g9y8 ?g9r8
        case g9y8 => (intro w hSw; (try dsimp only at hSw); go_simp; (try with_reducible rfl))
        (try simp only [layE])
        refine E_take0 hQ (fun _ => hHeld) 8 (v := ?g9v9) rfl rfl (by kernel_rfl) (by kernel_rfl) (by kernel_rfl) (by decide) (by rfl) ?g9y9 ?g9r9
        case g9y9 => (intro w; go_simp; (try with_reducible rfl))
        (try simp only [layE])
        refine E_take0 hQ (fun _ => hHeld) 9 (v := ?g9v10) rfl rfl (by kernel_rfl) (by kernel_rfl) (by kernel_rfl) (by decide) (by rfl) ?g9y10 ?g9r10
        case g9y10 => (intro w; go_simp; (try with_reducible rfl))
        (try simp only [layE])
        refine E_take hQ hHeld 10 (v := ?g9v11) rfl rfl (by kernel_rfl) (by kernel_rfl) (by kernel_rfl) (by kernel_rfl) (by kernel_rfl) (by rfl) ?g9y11 ?g9r11
        case g9y11 => (intro w hSw; (try dsimp only at hSw); go_simp; (try with_reducible rfl))
        (try simp only [layE])
        refine E_take0 hQ (fun _ => hHeld) 11 (v := ?g9v12) rfl rfl (by kernel_rfl) (by kernel_rfl) (by kernel_rfl) (by decide) (by rfl) ?g9y12 ?g9r12
        case g9y12 => (intro w; go_simp; (try with_reducible rfl))
        (try simp only [layE])
        refine E_take hQ hHeld 12 (v := ?g9v13) rfl rfl (by kernel_rfl) (by kernel_rfl) (by kernel_rfl) (by kernel_rfl) (by kernel_rfl) (by rfl) ?g9y13 ?g9r13
        case g9y13 => (intro w hSw; (try dsimp only at hSw); go_simp; (try with_reducible rfl))
        (try simp only [layE])
        refine E_one 13 (by kernel_rfl) rfl (by rfl) (fun K hK => ?_)
        go_simp
        refine (nnote_any b3 (i : Int) 6 a l2 (w.heap.size + 1) _ _ W2.drew (HST2.out.drew.out) (by omega)).mono ?_
        rintro e W3 ⟨rfl, hnt⟩
        have HNT := Lib.hid hnt
        clear hnt
        (skip)
        refine hK.out _ _ (fun _ h => absurd rfl h) (fun _ => ?_)
        clear hK hHeld
        (try simp only [layE])
        refine E_done (by kernel_rfl) ?_ _
        refine hK'.out _ _ ?_
        obtain ⟨va3, vc3, st3, mp3, mx3, hT3, ho3, hk3, hb3⟩ := NkN (n0 := w.heap.size + 1) HST2.out.drew (HMP2.out.drew) (W := W2.drew) HMX2.out HT2.out (by decide) hTb (by omega) HS2.out o1 HO2.out (Nat.le_refl _) HNT.out
        have hl3 : (noteL l2 b3 ((i : Int), 6, a)).length ≤ l2.length + 1 := noteL_len _ _ _
        have HST3 := Lib.hid st3
        have HMP3 := Lib.hid mp3
        have HMX3 := Lib.hid mx3
        have HT3 := Lib.hid hT3
        have HO3 := Lib.hid ho3
        have HK3 := Lib.hid hk3
        clear st3 mp3 mx3 hT3 ho3 hk3 hb3 HNT t0 t1 t2 qn qx hlk HST2 HMP2 HMX2 HT2 HO2 HS2 hK' hQ
        generalize noteL l2 b3 ((i : Int), 6, a) = l3 at *
        obtain ⟨t0, t1, t2, -, -, -⟩ := cells3h HT3.out
        have qx := HMX3.out.cell
        have hlk := (HMP3.out.drew).look Tryz.keyOwn HOK.out
        rw [HC1.out] at hlk
        have hwf : ∀ d, cntI (pre.map keyR) (i, a) = some d → (Lit.int .i64 d).wf = true := fun d hd => by
          have := HC1.out
          rw [hd] at this
          simp at this
          rw [this]
          exact i64_wf ⟨by omega, by omega⟩
        obtain ⟨st, w5, hme, hm5, -, -, ho5, hst⟩ := (HMP3.out.drew).entry Tryz.lawOwn Tryz.keyOwn (by unfold maxLen; omega) HOK.out hwf
        obtain ⟨w6, hes, hm6, hb6, hs6, ho6⟩ := hst ((c : Int) + 1) (i64_wf ⟨by omega, by omega⟩)
        have HM6 := Lib.hid hm6
        have HB6 := Lib.hid hb6
        have HO6 := Lib.hid ho6
        have hlk5 := hm5.look Tryz.keyOwn HOK.out
        have hRR : R + 1 ≠ R := by omega
        have qx5 := Boxed.cell (t := 156) ((ho5 (R + 1) hRR).trans HMX3.out)
        obtain ⟨t05, t15, -⟩ := cells3h ((ho5 b (HMP3.out.ne HT3.out)).trans HT3.out)
        simp only [HC1.out, aggO, goInt, if_true, Option.getD_some] at hlk hme hes hlk5
        have hwr : IntKind.i64.wrap ((c : Int) + 1) = (c : Int) + 1 := IntWalk.i64_in _ (by omega)
        clear hst hwf hm6 hb6 ho6 hm5 ho5
        gi_upto_region 20 with fail
        refine E_regionR (S := (fun W => W.cell? ⟨R + 1, 0, none⟩ = some (.map (some R)) ∧ W.cell? ⟨b, 0, none⟩ = some (.int .i64 (i : Int)) ∧ W.cell? ⟨b, 1, none⟩ = some (.string a) ∧ (Instr.lookup 156 (.map (some R)) (.agg #[.int .i64 (i : Int), .string a]) false).run Tryz.prog W = .ok (.int .i64 (c : Int)) W)) 10 (by kernel_rfl) (by kernel_rfl) ⟨qx, t0, t1, hlk⟩ (fun Q' hQ hK' hHeld => ?_)
        refine E_take hQ hHeld 0 (v := ?g0v1) rfl rfl (by kernel_rfl) (by kernel_rfl) (by kernel_rfl) (by kernel_rfl) (by kernel_rfl) (by rfl) ?g0y1 ?g0r1
        case g0y1 => (intro w hSw; (try dsimp only at hSw); go_simp; (try with_reducible rfl))
        (try simp only [layE])
        refine E_take0 hQ (fun _ => hHeld) 1 (v := ?g0v2) rfl rfl (by kernel_rfl) (by kernel_rfl) (by kernel_rfl) (by decide) (by rfl) ?g0y2 ?g0r2
        case g0y2 => (intro w; go_simp; (try with_reducible rfl))
        (try simp only [layE])
        refine E_take hQ hHeld 2 (v := ?g0v3) rfl rfl (by kernel_rfl) (by kernel_rfl) (by kernel_rfl) (by kernel_rfl) (by kernel_rfl) (by rfl) ?g0y3 ?g0r3
        case g0y3 => (intro w hSw; (try dsimp only at hSw); go_simp; (try with_reducible rfl))
        (try simp only [layE])
        refine E_take0 hQ (fun _ => hHeld) 3 (v := ?g0v4) rfl rfl (by kernel_rfl) (by kernel_rfl) (by kernel_rfl) (by decide) (by rfl) ?g0y4 ?g0r4
        case g0y4 => (intro w; go_simp; (try with_reducible rfl))
        (try simp only [layE])
        refine E_take hQ hHeld 4 (v := ?g0v5) rfl rfl (by kernel_rfl) (by kernel_rfl) (by kernel_rfl) (by kernel_rfl) (by kernel_rfl) (by rfl) ?g0y5 ?g0r5
        case g0y5 => (intro w hSw; (try dsimp only at hSw); go_simp; (try with_reducible rfl))
        (try simp only [layE])
        refine E_take0 hQ (fun _ => hHeld) 5 (v := ?g0v6) rfl rfl (by kernel_rfl) (by kernel_rfl) (by kernel_rfl) (by decide) (by rfl) ?g0y6 ?g0r6
        case g0y6 => (intro w; go_simp; (try with_reducible rfl))
        (try simp only [layE])
        refine E_take hQ hHeld 6 (v := ?g0v7) rfl rfl (by kernel_rfl) (by kernel_rfl) (by kernel_rfl) (by kernel_rfl) (by kernel_rfl) (by rfl) ?g0y7 ?g0r7
        case g0y7 => (intro w hSw; (try dsimp only at hSw); go_simp; (try with_reducible rfl))
        (try simp only [layE])
        refine E_take0 hQ (fun _ => hHeld) 7 (v := ?g0v8) rfl rfl (by kernel_rfl) (by kernel_rfl) (by kernel_rfl) (by decide) (by rfl) ?g0y8 ?g0r8
        case g0y8 => (intro w; go_simp; (try with_reducible rfl))
        (try simp only [layE])
        refine E_one 8 (by kernel_rfl) rfl (by rfl) (fun K hK => ?_)
        go_simp
        (try simp only [layE])
        refine hK.out _ _ (fun _ _ => ⟨qx5, t05, t15, hlk5⟩) (fun hHeld' => ?_)
        replace hHeld := hHeld' (by rfl) (by decide)
        clear hK hHeld'
        (try simp only [layE])
        refine E_take0 hQ (fun _ => hHeld) 9 (v := ?g0v9) rfl rfl (by kernel_rfl) (by kernel_rfl) (by kernel_rfl) (by decide) (by rfl) ?g0y9 ?g0r9
        case g0y9 => (intro w; go_simp; (try with_reducible rfl))
        (try simp only [layE])
        refine E_one 10 (by kernel_rfl) rfl (by rfl) (fun K hK => ?_)
        go_simp
        (try simp only [layE])
        refine hK.out _ _ (fun _ h => absurd rfl h) (fun _ => ?_)
        clear hK hHeld
        (try simp only [layE])
        refine E_done (by kernel_rfl) ?_ _
        refine hK'.out _ _ ?_
        have hk6 : Keep (w.heap.size + 1) S W3.drew w6 := ⟨HB6.out.mono (by omega), fun q hq => HO6.out q (fun e => o3 (e ▸ hq))⟩
        have hblk : ∀ (q : Nat) (cc : Array Value) (ty : TypeId) (fr : Nat × Nat), W3.drew.heap[q]? = some (.cells cc ty fr) → w6.heap[q]? = some (.cells cc ty fr) := fun q cc ty fr hq => (HO6.out q (HMP3.out.drew.ne hq)).trans hq
        have st6 : StW w w6 w.heap.size #[.string d.name, .string d.text, .slice (some ⟨g, off, none⟩) d.steps.length sc] (.func (.func 97) #[] #[.pointer (some ⟨w.heap.size + 1, 0, none⟩)]) va3 vc3 (l3) := ⟨⟨hblk _ _ _ _ HST3.out.out.box, HST3.out.out.own.block fun q e => HO6.out q (fun e2 => HST3.out.out.own.nemap HMP3.out (e2 ▸ e))⟩, hblk _ _ _ _ HST3.out.note, hblk _ _ _ _ HST3.out.dfb, HST3.out.low.drew.trans (HB6.out.mono (by omega))⟩
        gi_wp2_with fail
        have hd1 : Keep (w.heap.size + 1) S W1 W1.drew := ⟨(Below.refl _ _).drew, fun _ _ => rfl⟩
        have hd2 : Keep (w.heap.size + 1) S W2 W2.drew := ⟨(Below.refl _ _).drew, fun _ _ => rfl⟩
        have hd3 : Keep (w.heap.size + 1) S W3 W3.drew := ⟨(Below.refl _ _).drew, fun _ _ => rfl⟩
        refine ⟨⟨va3, vc3, nM + 1, ⟨by rw [HSN.out]; exact st6, by rw [HC2.out]; exact HM6.out, by simp; omega, hblk _ _ _ _ HMX3.out, o1, o2, o3, o4, by rw [HSN.out]; exact HO3.out⟩⟩, HK1.out.trans (hd1.trans (HK2.out.trans (hd2.trans (HK3.out.trans (hd3.trans hk6)))))⟩
end Go.Proofs.YtgfiogjfgbegpaaGreat

/-
  The law BoundsPoints: walk.
-/
namespace Go.Proofs.YtgfiogjfgbegpaaGreat
open Go Go.RowKit Go.WideShapes

theorem sort_none {l : List DiagD} (h : ¬ 0 < (sortD l).length) : l = [] := by
  cases l with
  | nil => rfl
  | cons x l =>
    have := (sortD_mem (x :: l) x).2 (by simp)
    have h0 : sortD (x :: l) = [] := List.eq_nil_of_length_eq_zero (by omega)
    rw [h0] at this
    cases this
end Go.Proofs.YtgfiogjfgbegpaaGreat

/-
  Sagas: Start, Answer: contracts.
-/
namespace Go.Proofs.YtgfiogjfgbegpaaGreat
open Go Go.RowKit Go.Maps Go.WideShapes

theorem CallTo.same {w w' : World} {U : Nat → Prop} {k : SagK} {S : SagD} (h : SagE w U k S) (hU : ∀ j, U j → j < w.heap.size) (hb : Below w.heap.size w w') : CallTo w U w' k S [] (.slice none 0 0) :=
  ⟨U, none, 0, rfl, World.ownsRow_nil _ _ _ _, (fun g e => by cases e), h.below hb, Grow.of_chg (Chg.of_below hb), fun j hj => Nat.lt_of_lt_of_le (hU j hj) hb.size⟩
set_option maxRecDepth 100000 in
set_option maxHeartbeats 2000000 in
theorem Start_any (k : SagK) (S : SagD) (now : Int) (U : Nat → Prop) (w : World) (h : SagE w U k S) (hU : ∀ j, U j → j < w.heap.size) (hf : FineK k) (hg : GoodS k.d.steps.length S) : Calls Tryz.prog 15 #[.pointer (some ⟨k.p, 0, none⟩), .int .i64 now] w fun e w' => ∃ v, e = .returned v ∧ CallTo w U w' k (startX k.d.steps k.rs S now).1 (startX k.d.steps k.rs S now).2 v := by
  have HM := Lib.hid (made_any k S U w h)
  have HSAME := Lib.hid (CallTo.same h hU (Below.refl _ w))
  have HAK := Lib.hid (asker_any k S U w h hU)
  have HON := Lib.hid (fun bs bo ob V W (hY : AskE W V k bs bo ob ({ S with status := 1 }, [])) => on_any k bs bo ob ({ S with status := 1 }, []) now V W hY hf hg.dn (Nat.le_trans hg.dl (by have := hf.small.steps; omega)) (Nat.le_trans hg.ul (by have := hf.small.steps; omega)) (by simp))
  have HU := Lib.hid hU
  obtain ⟨da, dc, ua, uc, hs⟩ := h
  obtain ⟨p, m, sa, sc, vr, d, rs, N⟩ := k
  dsimp only at hs HM HSAME HAK HON hf hg ⊢
  obtain ⟨-, -, -, -, -, -, -, x7⟩ := hs.cells
  clear hs hf hg hU
  unfold startX
  by_cases h0 : S.status = 0
  case neg =>
    rw [if_neg h0]
    have d0 : (S.status != 0) = true := by simpa using h0
    clear h0
    go_enter Tryz.func15, Tryz.ntmps15
    go_wp2_with fail
    refine HM.out.mono ?_
    rintro e w' ⟨rfl, rfl⟩
    go_wp2_with fail
    go_ret
    exact ⟨_, rfl, HSAME.out⟩
  rw [if_pos h0]
  have d0 : (S.status != 0) = false := by simpa using h0
  clear h0
  go_enter Tryz.func15, Tryz.ntmps15
  go_wp2_with fail
  refine HM.out.mono ?_
  rintro e w' ⟨rfl, rfl⟩
  go_wp2_with fail
  refine HAK.out.mono ?_
  rintro e w1 ⟨bs, bo, ob, rfl, ⟨da1, dc1, ua1, uc1, va1, vc1, hA⟩, hb1, hob, hol⟩
  dsimp only at hA
  have hfr := hA.sag.froz 7
  obtain ⟨-, -, -, -, -, -, -, y7⟩ := hA.sag.cells
  obtain ⟨hS, hGS⟩ := hA.status 1
  have HT := Lib.hid (HON.out bs bo ob _ _ ⟨da1, dc1, ua1, uc1, va1, vc1, hS⟩)
  have HGS := Lib.hid hGS
  have HB1 := Lib.hid hb1
  clear hA hS hGS hb1 x7
  go_upto_region 5 with fail
  generalize w1.setCell ⟨p, 7, none⟩ (.int .u8 1) = w2 at *
  clear y7 hfr
  go_wp2_with fail
  refine HT.out.mono ?_
  rintro e w3 ⟨rfl, U', hY, hG⟩
  obtain ⟨va, vc, hbk, hC⟩ := call_fin HU.out HB1.out hob hY (HGS.out.trans hG)
  have HC := Lib.hid hC
  have v0 := cell1 hbk
  clear hY hG hC hbk
  go_wp2_with fail
  go_ret
  exact ⟨_, rfl, HC.out⟩
set_option maxRecDepth 100000 in
set_option maxHeartbeats 8000000 in
theorem AnswerS_any (k : SagK) (S : SagD) (st tr o now : Int) (u : Bool) (U : Nat → Prop) (w : World) (h : SagE w U k S) (hU : ∀ j, U j → j < w.heap.size) (hf : FineK k) (hg : GoodS k.d.steps.length S) : Calls Tryz.prog 16 #[.pointer (some ⟨k.p, 0, none⟩), .agg #[.int .i64 st, .int .i64 tr, .bool u, .int .u8 o], .int .i64 now] w fun e w' => ∃ v, e = .returned (.tuple #[v, .bool (answerX k.d.steps k.rs S (st, u) tr o now).2]) ∧ CallTo w U w' k (answerX k.d.steps k.rs S (st, u) tr o now).1.1 (answerX k.d.steps k.rs S (st, u) tr o now).1.2 v := by
  have hn30 := hf.small.steps
  have HSAME := Lib.hid (fun W (hb : Below w.heap.size w W) => CallTo.same h hU hb)
  have HH := Lib.hid h
  have HU := Lib.hid hU
  have HF := Lib.hid hf
  have HGD := Lib.hid hg
  clear h hU hf hg
  obtain ⟨p, m, sa, sc, vr, d, rs, N⟩ := k
  dsimp only at HSAME HH HF HGD hn30 ⊢
  by_cases hmv : movB S = true
  case neg =>
    have hmv : movB S = false := by simpa using hmv
    have hans : answerX d.steps rs S (st, u) tr o now = ((S, []), false) := by
      unfold answerX
      rw [if_neg (fun e => by rw [hmv] at e; cases e.1)]
    rw [hans]
    clear hans
    have hb1 := (Below.refl w.heap.size w).alloc (Nat.le_refl _) (.cells #[.int .i64 st, .int .i64 tr, .bool u, .int .u8 o] 30)
    have g0 := World.alloc_heap_new w (.cells #[.int .i64 st, .int .i64 tr, .bool u, .int .u8 o] 30)
    have hsz : (w.alloc (.cells #[.int .i64 st, .int .i64 tr, .bool u, .int .u8 o] 30)).heap.size = w.heap.size + 1 := by simp
    go_enter Tryz.func16, Tryz.ntmps16
    go_upto_region 1 with fail
    generalize w.alloc (.cells #[.int .i64 st, .int .i64 tr, .bool u, .int .u8 o] 30) = w0 at *
    have HMOV := Lib.hid (moving_any ⟨p, m, sa, sc, vr, d, rs, N⟩ S U w0.drew (HH.out.below hb1.drew))
    rw [hmv] at HMOV
    have HB := Lib.hid hb1
    have HG0 := Lib.hid g0
    have HS0 := Lib.hid (HH.out.below hb1)
    have HSZ := Lib.hid hsz
    obtain ⟨a0, a1, a2, a3, -⟩ := cells4h g0
    clear hb1 g0 hsz hmv
    obtain ⟨da, dc, ua, uc, hs⟩ := HS0.out
    dsimp only at hs
    obtain ⟨-, -, x2, -, x4, -, -, -⟩ := hs.cells
    clear hs
    refine E_region (S := (fun W => W.cell? ⟨w.heap.size, 0, none⟩ = some (.int .i64 st) ∧ W.cell? ⟨p, 2, none⟩ = some (.slice sa d.steps.length sc))) 18 (by kernel_rfl) ⟨a0, x2⟩ (fun _ _ _ _ _ h => h) (fun Q' hQ hK' hHeld => ?_)
    refine E_take0 hQ (fun _ => hHeld) 0 (v := ?av1) rfl rfl (by kernel_rfl) (by kernel_rfl) (by kernel_rfl) (by decide) (by rfl) ?ay1 ?ar1
    case ay1 => (intro w; go_simp; (try with_reducible rfl))
    (try simp only [layE])
    refine E_one 1 (by kernel_rfl) rfl (by rfl) (fun K hK => ?_)
    go_simp
    refine HMOV.out.mono ?_
    rintro e w' ⟨rfl, rfl⟩
    (skip)
    refine hK.out _ _ (fun _ _ => hHeld) (fun hHeld' => ?_)
    replace hHeld := hHeld' (by rfl) (by decide)
    clear hK hHeld'
    (try simp only [layE])
    refine E_take0 hQ (fun _ => hHeld) 2 (v := ?av2) rfl rfl (by kernel_rfl) (by kernel_rfl) (by kernel_rfl) (by decide) (by rfl) ?ay2 ?ar2
    case ay2 => (intro w; go_simp; (try with_reducible rfl))
    (try simp only [layE])
    refine E_take0 hQ (fun _ => hHeld) 3 (v := ?av3) rfl rfl (by kernel_rfl) (by kernel_rfl) (by kernel_rfl) (by decide) (by rfl) ?ay3 ?ar3
    case ay3 => (intro w; go_simp; (try with_reducible rfl))
    (try simp only [layE])
    refine E_off hQ (fun _ => hHeld) 4 rfl rfl (by kernel_rfl) (by kernel_rfl) (by kernel_rfl) (by decide) (by rfl) ?_
    (try simp only [layE])
    refine E_off hQ (fun _ => hHeld) 5 rfl rfl (by kernel_rfl) (by kernel_rfl) (by kernel_rfl) (by decide) (by rfl) ?_
    (try simp only [layE])
    refine E_off hQ (fun _ => hHeld) 6 rfl rfl (by kernel_rfl) (by kernel_rfl) (by kernel_rfl) (by decide) (by rfl) ?_
    (try simp only [layE])
    refine E_take0 hQ (fun _ => hHeld) 7 (v := ?av7) rfl rfl (by kernel_rfl) (by kernel_rfl) (by kernel_rfl) (by decide) (by rfl) ?ay7 ?ar7
    case ay7 => (intro w; go_simp; (try with_reducible rfl))
    (try simp only [layE])
    refine E_take0 hQ (fun _ => hHeld) 8 (v := ?av8) rfl rfl (by kernel_rfl) (by kernel_rfl) (by kernel_rfl) (by decide) (by rfl) ?ay8 ?ar8
    case ay8 => (intro w; go_simp; (try with_reducible rfl))
    (try simp only [layE])
    refine E_off hQ (fun _ => hHeld) 9 rfl rfl (by kernel_rfl) (by kernel_rfl) (by kernel_rfl) (by decide) (by rfl) ?_
    (try simp only [layE])
    refine E_off hQ (fun _ => hHeld) 10 rfl rfl (by kernel_rfl) (by kernel_rfl) (by kernel_rfl) (by decide) (by rfl) ?_
    (try simp only [layE])
    refine E_off hQ (fun _ => hHeld) 11 rfl rfl (by kernel_rfl) (by kernel_rfl) (by kernel_rfl) (by decide) (by rfl) ?_
    (try simp only [layE])
    refine E_off hQ (fun _ => hHeld) 12 rfl rfl (by kernel_rfl) (by kernel_rfl) (by kernel_rfl) (by decide) (by rfl) ?_
    (try simp only [layE])
    refine E_off hQ (fun _ => hHeld) 13 rfl rfl (by kernel_rfl) (by kernel_rfl) (by kernel_rfl) (by decide) (by rfl) ?_
    (try simp only [layE])
    refine E_off hQ (fun _ => hHeld) 14 rfl rfl (by kernel_rfl) (by kernel_rfl) (by kernel_rfl) (by decide) (by rfl) ?_
    (try simp only [layE])
    refine E_off hQ (fun _ => hHeld) 15 rfl rfl (by kernel_rfl) (by kernel_rfl) (by kernel_rfl) (by decide) (by rfl) ?_
    (try simp only [layE])
    refine E_off hQ (fun _ => hHeld) 16 rfl rfl (by kernel_rfl) (by kernel_rfl) (by kernel_rfl) (by decide) (by rfl) ?_
    (try simp only [layE])
    refine E_off hQ (fun _ => hHeld) 17 rfl rfl (by kernel_rfl) (by kernel_rfl) (by kernel_rfl) (by decide) (by rfl) ?_
    (try simp only [layE])
    refine E_one 18 (by kernel_rfl) rfl (by rfl) (fun K hK => ?_)
    go_simp
    (try simp only [layE])
    refine hK.out _ _ (fun _ h => absurd rfl h) (fun _ => ?_)
    clear hK hHeld
    (try simp only [layE])
    refine E_done (by kernel_rfl) ?_ _
    refine hK'.out _ _ ?_
    clear hK' hQ
    go_wp2_with fail
    refine bodyPost_ret (results_tmp2 rfl _ _ _) rfl ?_
    exact ⟨_, rfl, HSAME.out _ HB.out.drew⟩
  by_cases hst0 : st < 0
  · have d0 : decide (st < 0) = true := decide_eq_true hst0
    have hans : answerX d.steps rs S (st, u) tr o now = ((S, []), false) := by
      unfold answerX
      rw [if_neg (fun e => by have := e.2.1; dsimp only at this; omega)]
    rw [hans]
    clear hans
    have hb1 := (Below.refl w.heap.size w).alloc (Nat.le_refl _) (.cells #[.int .i64 st, .int .i64 tr, .bool u, .int .u8 o] 30)
    have g0 := World.alloc_heap_new w (.cells #[.int .i64 st, .int .i64 tr, .bool u, .int .u8 o] 30)
    have hsz : (w.alloc (.cells #[.int .i64 st, .int .i64 tr, .bool u, .int .u8 o] 30)).heap.size = w.heap.size + 1 := by simp
    go_enter Tryz.func16, Tryz.ntmps16
    go_upto_region 1 with fail
    generalize w.alloc (.cells #[.int .i64 st, .int .i64 tr, .bool u, .int .u8 o] 30) = w0 at *
    have HMOV := Lib.hid (moving_any ⟨p, m, sa, sc, vr, d, rs, N⟩ S U w0.drew (HH.out.below hb1.drew))
    rw [hmv] at HMOV
    have HB := Lib.hid hb1
    have HG0 := Lib.hid g0
    have HS0 := Lib.hid (HH.out.below hb1)
    have HSZ := Lib.hid hsz
    obtain ⟨a0, a1, a2, a3, -⟩ := cells4h g0
    clear hb1 g0 hsz hmv
    obtain ⟨da, dc, ua, uc, hs⟩ := HS0.out
    dsimp only at hs
    obtain ⟨-, -, x2, -, x4, -, -, -⟩ := hs.cells
    clear hs
    refine E_region (S := (fun W => W.cell? ⟨w.heap.size, 0, none⟩ = some (.int .i64 st) ∧ W.cell? ⟨p, 2, none⟩ = some (.slice sa d.steps.length sc))) 18 (by kernel_rfl) ⟨a0, x2⟩ (fun _ _ _ _ _ h => h) (fun Q' hQ hK' hHeld => ?_)
    refine E_take0 hQ (fun _ => hHeld) 0 (v := ?bv1) rfl rfl (by kernel_rfl) (by kernel_rfl) (by kernel_rfl) (by decide) (by rfl) ?by1 ?br1
    case by1 => (intro w; go_simp; (try with_reducible rfl))
    (try simp only [layE])
    refine E_one 1 (by kernel_rfl) rfl (by rfl) (fun K hK => ?_)
    go_simp
    refine HMOV.out.mono ?_
    rintro e w' ⟨rfl, rfl⟩
    (skip)
    refine hK.out _ _ (fun _ _ => hHeld) (fun hHeld' => ?_)
    replace hHeld := hHeld' (by rfl) (by decide)
    clear hK hHeld'
    (try simp only [layE])
    refine E_take0 hQ (fun _ => hHeld) 2 (v := ?bv2) rfl rfl (by kernel_rfl) (by kernel_rfl) (by kernel_rfl) (by decide) (by rfl) ?by2 ?br2
    case by2 => (intro w; go_simp; (try with_reducible rfl))
    (try simp only [layE])
    refine E_take0 hQ (fun _ => hHeld) 3 (v := ?bv3) rfl rfl (by kernel_rfl) (by kernel_rfl) (by kernel_rfl) (by decide) (by rfl) ?by3 ?br3
    case by3 => (intro w; go_simp; (try with_reducible rfl))
    (try simp only [layE])
    refine E_take0 hQ (fun _ => hHeld) 4 (v := ?bv4) rfl rfl (by kernel_rfl) (by kernel_rfl) (by kernel_rfl) (by decide) (by rfl) ?by4 ?br4
    case by4 => (intro w; go_simp; (try with_reducible rfl))
    (try simp only [layE])
    refine E_take hQ hHeld 5 (v := ?bv5) rfl rfl (by kernel_rfl) (by kernel_rfl) (by kernel_rfl) (by kernel_rfl) (by kernel_rfl) (by rfl) ?by5 ?br5
    case by5 => (intro w hSw; (try dsimp only at hSw); go_simp; (try with_reducible rfl))
    (try simp only [layE])
    refine E_take0 hQ (fun _ => hHeld) 6 (v := ?bv6) rfl rfl (by kernel_rfl) (by kernel_rfl) (by kernel_rfl) (by decide) (by rfl) ?by6 ?br6
    case by6 => (intro w; go_simp; (try with_reducible rfl))
    (try simp only [layE])
    refine E_take0 hQ (fun _ => hHeld) 7 (v := ?bv7) rfl rfl (by kernel_rfl) (by kernel_rfl) (by kernel_rfl) (by decide) (by rfl) ?by7 ?br7
    case by7 => (intro w; go_simp; (try with_reducible rfl))
    (try simp only [layE])
    refine E_take0 hQ (fun _ => hHeld) 8 (v := ?bv8) rfl rfl (by kernel_rfl) (by kernel_rfl) (by kernel_rfl) (by decide) (by rfl) ?by8 ?br8
    case by8 => (intro w; go_simp; (try with_reducible rfl))
    (try simp only [layE])
    refine E_off hQ (fun _ => hHeld) 9 rfl rfl (by kernel_rfl) (by kernel_rfl) (by kernel_rfl) (by decide) (by rfl) ?_
    (try simp only [layE])
    refine E_off hQ (fun _ => hHeld) 10 rfl rfl (by kernel_rfl) (by kernel_rfl) (by kernel_rfl) (by decide) (by rfl) ?_
    (try simp only [layE])
    refine E_off hQ (fun _ => hHeld) 11 rfl rfl (by kernel_rfl) (by kernel_rfl) (by kernel_rfl) (by decide) (by rfl) ?_
    (try simp only [layE])
    refine E_off hQ (fun _ => hHeld) 12 rfl rfl (by kernel_rfl) (by kernel_rfl) (by kernel_rfl) (by decide) (by rfl) ?_
    (try simp only [layE])
    refine E_off hQ (fun _ => hHeld) 13 rfl rfl (by kernel_rfl) (by kernel_rfl) (by kernel_rfl) (by decide) (by rfl) ?_
    (try simp only [layE])
    refine E_off hQ (fun _ => hHeld) 14 rfl rfl (by kernel_rfl) (by kernel_rfl) (by kernel_rfl) (by decide) (by rfl) ?_
    (try simp only [layE])
    refine E_off hQ (fun _ => hHeld) 15 rfl rfl (by kernel_rfl) (by kernel_rfl) (by kernel_rfl) (by decide) (by rfl) ?_
    (try simp only [layE])
    refine E_off hQ (fun _ => hHeld) 16 rfl rfl (by kernel_rfl) (by kernel_rfl) (by kernel_rfl) (by decide) (by rfl) ?_
    (try simp only [layE])
    refine E_off hQ (fun _ => hHeld) 17 rfl rfl (by kernel_rfl) (by kernel_rfl) (by kernel_rfl) (by decide) (by rfl) ?_
    (try simp only [layE])
    refine E_one 18 (by kernel_rfl) rfl (by rfl) (fun K hK => ?_)
    go_simp
    (try simp only [layE])
    refine hK.out _ _ (fun _ h => absurd rfl h) (fun _ => ?_)
    clear hK hHeld
    (try simp only [layE])
    refine E_done (by kernel_rfl) ?_ _
    refine hK'.out _ _ ?_
    clear hK' hQ
    go_wp2_with fail
    refine bodyPost_ret (results_tmp2 rfl _ _ _) rfl ?_
    exact ⟨_, rfl, HSAME.out _ HB.out.drew⟩
  have d0 : decide (st < 0) = false := decide_eq_false hst0
  by_cases hstn : (d.steps.length : Int) ≤ st
  · have d1 : decide ((d.steps.length : Int) ≤ st) = true := decide_eq_true hstn
    have hans : answerX d.steps rs S (st, u) tr o now = ((S, []), false) := by
      unfold answerX
      rw [if_neg (fun e => by have := e.2.2; dsimp only at this; omega)]
    rw [hans]
    clear hans
    have hb1 := (Below.refl w.heap.size w).alloc (Nat.le_refl _) (.cells #[.int .i64 st, .int .i64 tr, .bool u, .int .u8 o] 30)
    have g0 := World.alloc_heap_new w (.cells #[.int .i64 st, .int .i64 tr, .bool u, .int .u8 o] 30)
    have hsz : (w.alloc (.cells #[.int .i64 st, .int .i64 tr, .bool u, .int .u8 o] 30)).heap.size = w.heap.size + 1 := by simp
    go_enter Tryz.func16, Tryz.ntmps16
    go_upto_region 1 with fail
    generalize w.alloc (.cells #[.int .i64 st, .int .i64 tr, .bool u, .int .u8 o] 30) = w0 at *
    have HMOV := Lib.hid (moving_any ⟨p, m, sa, sc, vr, d, rs, N⟩ S U w0.drew (HH.out.below hb1.drew))
    rw [hmv] at HMOV
    have HB := Lib.hid hb1
    have HG0 := Lib.hid g0
    have HS0 := Lib.hid (HH.out.below hb1)
    have HSZ := Lib.hid hsz
    obtain ⟨a0, a1, a2, a3, -⟩ := cells4h g0
    clear hb1 g0 hsz hmv
    obtain ⟨da, dc, ua, uc, hs⟩ := HS0.out
    dsimp only at hs
    obtain ⟨-, -, x2, -, x4, -, -, -⟩ := hs.cells
    clear hs
    refine E_region (S := (fun W => W.cell? ⟨w.heap.size, 0, none⟩ = some (.int .i64 st) ∧ W.cell? ⟨p, 2, none⟩ = some (.slice sa d.steps.length sc))) 18 (by kernel_rfl) ⟨a0, x2⟩ (fun _ _ _ _ _ h => h) (fun Q' hQ hK' hHeld => ?_)
    refine E_take0 hQ (fun _ => hHeld) 0 (v := ?cv1) rfl rfl (by kernel_rfl) (by kernel_rfl) (by kernel_rfl) (by decide) (by rfl) ?cy1 ?cr1
    case cy1 => (intro w; go_simp; (try with_reducible rfl))
    (try simp only [layE])
    refine E_one 1 (by kernel_rfl) rfl (by rfl) (fun K hK => ?_)
    go_simp
    refine HMOV.out.mono ?_
    rintro e w' ⟨rfl, rfl⟩
    (skip)
    refine hK.out _ _ (fun _ _ => hHeld) (fun hHeld' => ?_)
    replace hHeld := hHeld' (by rfl) (by decide)
    clear hK hHeld'
    (try simp only [layE])
    refine E_take0 hQ (fun _ => hHeld) 2 (v := ?cv2) rfl rfl (by kernel_rfl) (by kernel_rfl) (by kernel_rfl) (by decide) (by rfl) ?cy2 ?cr2
    case cy2 => (intro w; go_simp; (try with_reducible rfl))
    (try simp only [layE])
    refine E_take0 hQ (fun _ => hHeld) 3 (v := ?cv3) rfl rfl (by kernel_rfl) (by kernel_rfl) (by kernel_rfl) (by decide) (by rfl) ?cy3 ?cr3
    case cy3 => (intro w; go_simp; (try with_reducible rfl))
    (try simp only [layE])
    refine E_take0 hQ (fun _ => hHeld) 4 (v := ?cv4) rfl rfl (by kernel_rfl) (by kernel_rfl) (by kernel_rfl) (by decide) (by rfl) ?cy4 ?cr4
    case cy4 => (intro w; go_simp; (try with_reducible rfl))
    (try simp only [layE])
    refine E_take hQ hHeld 5 (v := ?cv5) rfl rfl (by kernel_rfl) (by kernel_rfl) (by kernel_rfl) (by kernel_rfl) (by kernel_rfl) (by rfl) ?cy5 ?cr5
    case cy5 => (intro w hSw; (try dsimp only at hSw); go_simp; (try with_reducible rfl))
    (try simp only [layE])
    refine E_take0 hQ (fun _ => hHeld) 6 (v := ?cv6) rfl rfl (by kernel_rfl) (by kernel_rfl) (by kernel_rfl) (by decide) (by rfl) ?cy6 ?cr6
    case cy6 => (intro w; go_simp; (try with_reducible rfl))
    (try simp only [layE])
    refine E_take0 hQ (fun _ => hHeld) 7 (v := ?cv7) rfl rfl (by kernel_rfl) (by kernel_rfl) (by kernel_rfl) (by decide) (by rfl) ?cy7 ?cr7
    case cy7 => (intro w; go_simp; (try with_reducible rfl))
    (try simp only [layE])
    refine E_take0 hQ (fun _ => hHeld) 8 (v := ?cv8) rfl rfl (by kernel_rfl) (by kernel_rfl) (by kernel_rfl) (by decide) (by rfl) ?cy8 ?cr8
    case cy8 => (intro w; go_simp; (try with_reducible rfl))
    (try simp only [layE])
    refine E_take0 hQ (fun _ => hHeld) 9 (v := ?cv9) rfl rfl (by kernel_rfl) (by kernel_rfl) (by kernel_rfl) (by decide) (by rfl) ?cy9 ?cr9
    case cy9 => (intro w; go_simp; (try with_reducible rfl))
    (try simp only [layE])
    refine E_take hQ hHeld 10 (v := ?cv10) rfl rfl (by kernel_rfl) (by kernel_rfl) (by kernel_rfl) (by kernel_rfl) (by kernel_rfl) (by rfl) ?cy10 ?cr10
    case cy10 => (intro w hSw; (try dsimp only at hSw); go_simp; (try with_reducible rfl))
    (try simp only [layE])
    refine E_take0 hQ (fun _ => hHeld) 11 (v := ?cv11) rfl rfl (by kernel_rfl) (by kernel_rfl) (by kernel_rfl) (by decide) (by rfl) ?cy11 ?cr11
    case cy11 => (intro w; go_simp; (try with_reducible rfl))
    (try simp only [layE])
    refine E_take0 hQ (fun _ => hHeld) 12 (v := ?cv12) rfl rfl (by kernel_rfl) (by kernel_rfl) (by kernel_rfl) (by decide) (by rfl) ?cy12 ?cr12
    case cy12 => (intro w; go_simp; (try with_reducible rfl))
    (try simp only [layE])
    refine E_take0 hQ (fun _ => hHeld) 13 (v := ?cv13) rfl rfl (by kernel_rfl) (by kernel_rfl) (by kernel_rfl) (by decide) (by rfl) ?cy13 ?cr13
    case cy13 => (intro w; go_simp; (try with_reducible rfl))
    (try simp only [layE])
    refine E_take0 hQ (fun _ => hHeld) 14 (v := ?cv14) rfl rfl (by kernel_rfl) (by kernel_rfl) (by kernel_rfl) (by decide) (by rfl) ?cy14 ?cr14
    case cy14 => (intro w; go_simp; (try with_reducible rfl))
    (try simp only [layE])
    refine E_take hQ hHeld 15 (v := ?cv15) rfl rfl (by kernel_rfl) (by kernel_rfl) (by kernel_rfl) (by kernel_rfl) (by kernel_rfl) (by rfl) ?cy15 ?cr15
    case cy15 => (intro w hSw; (try dsimp only at hSw); go_simp; (try with_reducible rfl))
    (try simp only [layE])
    refine E_take0 hQ (fun _ => hHeld) 16 (v := ?cv16) rfl rfl (by kernel_rfl) (by kernel_rfl) (by kernel_rfl) (by decide) (by rfl) ?cy16 ?cr16
    case cy16 => (intro w; go_simp; (try with_reducible rfl))
    (try simp only [layE])
    refine E_take0 hQ (fun _ => hHeld) 17 (v := ?cv17) rfl rfl (by kernel_rfl) (by kernel_rfl) (by kernel_rfl) (by decide) (by rfl) ?cy17 ?cr17
    case cy17 => (intro w; go_simp; (try with_reducible rfl))
    (try simp only [layE])
    refine E_one 18 (by kernel_rfl) rfl (by rfl) (fun K hK => ?_)
    go_simp
    (try simp only [layE])
    refine hK.out _ _ (fun _ h => absurd rfl h) (fun _ => ?_)
    clear hK hHeld
    (try simp only [layE])
    refine E_done (by kernel_rfl) ?_ _
    refine hK'.out _ _ ?_
    clear hK' hQ
    go_wp2_with fail
    refine bodyPost_ret (results_tmp2 rfl _ _ _) rfl ?_
    exact ⟨_, rfl, HSAME.out _ HB.out.drew⟩
  have d1 : decide ((d.steps.length : Int) ≤ st) = false := decide_eq_false hstn
  obtain ⟨jn, rfl⟩ : ∃ jn : Nat, st = (jn : Int) := ⟨st.toNat, by omega⟩
  have hjl : jn < d.steps.length := by omega
  have hans : answerX d.steps rs S ((jn : Int), u) tr o now = if (ansR d.steps[jn] (S.runs ((jn : Int), u)) now tr o).2 then (onX d.steps rs now (putX (S, []) ((jn : Int), u) (ansR d.steps[jn] (S.runs ((jn : Int), u)) now tr o).1), true) else ((S, []), false) := by
    unfold answerX
    rw [if_pos ⟨hmv, by dsimp only; omega, by dsimp only; omega⟩]
    simp only [Int.toNat_natCast, List.getElem?_eq_getElem hjl, Option.getD_some]
  obtain ⟨q0, q1, q2, q3, hq⟩ : ∃ q0 q1 q2 q3, S.runs ((jn : Int), u) = (q0, q1, q2, q3) := ⟨_, _, _, _, rfl⟩
  obtain ⟨ar, har⟩ : ∃ ar, ar = ansR d.steps[jn] (q0, q1, q2, q3) now tr o := ⟨_, rfl⟩
  rw [hans, hq, ← har]
  generalize hres : (if ar.2 = true then (onX d.steps rs now (putX (S, []) ((jn : Int), u) ar.1), true) else ((S, []), false)) = res
  have HRT : Hid (ar.2 = true → res = (onX d.steps rs now (putX (S, []) ((jn : Int), u) ar.1), true)) := Lib.hid (fun e => by rw [← hres, if_pos e])
  have HRF : Hid (ar.2 = false → res = ((S, []), false)) := Lib.hid (fun e => by rw [← hres, if_neg (fun e2 => by rw [e] at e2; cases e2)])
  clear hres
  have HQ := Lib.hid hq
  have HAR := Lib.hid har
  clear hans hst0 hstn hq har
  have hb1 := (Below.refl w.heap.size w).alloc (Nat.le_refl _) (.cells #[.int .i64 (jn : Int), .int .i64 tr, .bool u, .int .u8 o] 30)
  have g0 := World.alloc_heap_new w (.cells #[.int .i64 (jn : Int), .int .i64 tr, .bool u, .int .u8 o] 30)
  have hsz : (w.alloc (.cells #[.int .i64 (jn : Int), .int .i64 tr, .bool u, .int .u8 o] 30)).heap.size = w.heap.size + 1 := by simp
  go_enter Tryz.func16, Tryz.ntmps16
  go_upto_region 1 with fail
  generalize w.alloc (.cells #[.int .i64 (jn : Int), .int .i64 tr, .bool u, .int .u8 o] 30) = w0 at *
  have HMOV := Lib.hid (moving_any ⟨p, m, sa, sc, vr, d, rs, N⟩ S U w0.drew (HH.out.below hb1.drew))
  rw [hmv] at HMOV
  have HB := Lib.hid hb1
  have HG0 := Lib.hid g0
  have HS0 := Lib.hid (HH.out.below hb1)
  have HSZ := Lib.hid hsz
  obtain ⟨a0, a1, a2, a3, -⟩ := cells4h g0
  clear hb1 g0 hsz hmv
  obtain ⟨da, dc, ua, uc, hs⟩ := HS0.out
  dsimp only at hs
  obtain ⟨-, -, x2, -, x4, -, -, -⟩ := hs.cells
  clear hs
  go_upto_region 1 with fail
  refine E_region (S := (fun W => W.cell? ⟨w.heap.size, 0, none⟩ = some (.int .i64 (jn : Int)) ∧ W.cell? ⟨p, 2, none⟩ = some (.slice sa d.steps.length sc))) 18 (by kernel_rfl) ⟨a0, x2⟩ (fun _ _ _ _ _ h => h) (fun Q' hQ hK' hHeld => ?_)
  refine E_take0 hQ (fun _ => hHeld) 0 (v := ?gv1) rfl rfl (by kernel_rfl) (by kernel_rfl) (by kernel_rfl) (by decide) (by rfl) ?gy1 ?gr1
  case gy1 => (intro w; go_simp; (try with_reducible rfl))
  (try simp only [layE])
  refine E_one 1 (by kernel_rfl) rfl (by rfl) (fun K hK => ?_)
  go_simp
  refine HMOV.out.mono ?_
  rintro e w' ⟨rfl, rfl⟩
  (skip)
  refine hK.out _ _ (fun _ _ => hHeld) (fun hHeld' => ?_)
  replace hHeld := hHeld' (by rfl) (by decide)
  clear hK hHeld'
  (try simp only [layE])
  refine E_take0 hQ (fun _ => hHeld) 2 (v := ?gv2) rfl rfl (by kernel_rfl) (by kernel_rfl) (by kernel_rfl) (by decide) (by rfl) ?gy2 ?gr2
  case gy2 => (intro w; go_simp; (try with_reducible rfl))
  (try simp only [layE])
  refine E_take0 hQ (fun _ => hHeld) 3 (v := ?gv3) rfl rfl (by kernel_rfl) (by kernel_rfl) (by kernel_rfl) (by decide) (by rfl) ?gy3 ?gr3
  case gy3 => (intro w; go_simp; (try with_reducible rfl))
  (try simp only [layE])
  refine E_take0 hQ (fun _ => hHeld) 4 (v := ?gv4) rfl rfl (by kernel_rfl) (by kernel_rfl) (by kernel_rfl) (by decide) (by rfl) ?gy4 ?gr4
  case gy4 => (intro w; go_simp; (try with_reducible rfl))
  (try simp only [layE])
  refine E_take hQ hHeld 5 (v := ?gv5) rfl rfl (by kernel_rfl) (by kernel_rfl) (by kernel_rfl) (by kernel_rfl) (by kernel_rfl) (by rfl) ?gy5 ?gr5
  case gy5 => (intro w hSw; (try dsimp only at hSw); go_simp; (try with_reducible rfl))
  (try simp only [layE])
  refine E_take0 hQ (fun _ => hHeld) 6 (v := ?gv6) rfl rfl (by kernel_rfl) (by kernel_rfl) (by kernel_rfl) (by decide) (by rfl) ?gy6 ?gr6
  case gy6 => (intro w; go_simp; (try with_reducible rfl))
  (try simp only [layE])
  refine E_take0 hQ (fun _ => hHeld) 7 (v := ?gv7) rfl rfl (by kernel_rfl) (by kernel_rfl) (by kernel_rfl) (by decide) (by rfl) ?gy7 ?gr7
  case gy7 => (intro w; go_simp; (try with_reducible rfl))
  (try simp only [layE])
  refine E_take0 hQ (fun _ => hHeld) 8 (v := ?gv8) rfl rfl (by kernel_rfl) (by kernel_rfl) (by kernel_rfl) (by decide) (by rfl) ?gy8 ?gr8
  case gy8 => (intro w; go_simp; (try with_reducible rfl))
  (try simp only [layE])
  refine E_take0 hQ (fun _ => hHeld) 9 (v := ?gv9) rfl rfl (by kernel_rfl) (by kernel_rfl) (by kernel_rfl) (by decide) (by rfl) ?gy9 ?gr9
  case gy9 => (intro w; go_simp; (try with_reducible rfl))
  (try simp only [layE])
  refine E_take hQ hHeld 10 (v := ?gv10) rfl rfl (by kernel_rfl) (by kernel_rfl) (by kernel_rfl) (by kernel_rfl) (by kernel_rfl) (by rfl) ?gy10 ?gr10
  case gy10 => (intro w hSw; (try dsimp only at hSw); go_simp; (try with_reducible rfl))
  (try simp only [layE])
  refine E_take0 hQ (fun _ => hHeld) 11 (v := ?gv11) rfl rfl (by kernel_rfl) (by kernel_rfl) (by kernel_rfl) (by decide) (by rfl) ?gy11 ?gr11
  case gy11 => (intro w; go_simp; (try with_reducible rfl))
  (try simp only [layE])
  refine E_take0 hQ (fun _ => hHeld) 12 (v := ?gv12) rfl rfl (by kernel_rfl) (by kernel_rfl) (by kernel_rfl) (by decide) (by rfl) ?gy12 ?gr12
  case gy12 => (intro w; go_simp; (try with_reducible rfl))
  (try simp only [layE])
  refine E_take0 hQ (fun _ => hHeld) 13 (v := ?gv13) rfl rfl (by kernel_rfl) (by kernel_rfl) (by kernel_rfl) (by decide) (by rfl) ?gy13 ?gr13
  case gy13 => (intro w; go_simp; (try with_reducible rfl))
  (try simp only [layE])
  refine E_take0 hQ (fun _ => hHeld) 14 (v := ?gv14) rfl rfl (by kernel_rfl) (by kernel_rfl) (by kernel_rfl) (by decide) (by rfl) ?gy14 ?gr14
  case gy14 => (intro w; go_simp; (try with_reducible rfl))
  (try simp only [layE])
  refine E_take hQ hHeld 15 (v := ?gv15) rfl rfl (by kernel_rfl) (by kernel_rfl) (by kernel_rfl) (by kernel_rfl) (by kernel_rfl) (by rfl) ?gy15 ?gr15
  case gy15 => (intro w hSw; (try dsimp only at hSw); go_simp; (try with_reducible rfl))
  (try simp only [layE])
  refine E_take0 hQ (fun _ => hHeld) 16 (v := ?gv16) rfl rfl (by kernel_rfl) (by kernel_rfl) (by kernel_rfl) (by decide) (by rfl) ?gy16 ?gr16
  case gy16 => (intro w; go_simp; (try with_reducible rfl))
  (try simp only [layE])
  refine E_take0 hQ (fun _ => hHeld) 17 (v := ?gv17) rfl rfl (by kernel_rfl) (by kernel_rfl) (by kernel_rfl) (by decide) (by rfl) ?gy17 ?gr17
  case gy17 => (intro w; go_simp; (try with_reducible rfl))
  (try simp only [layE])
  refine E_one 18 (by kernel_rfl) rfl (by rfl) (fun K hK => ?_)
  go_simp
  (try simp only [layE])
  refine hK.out _ _ (fun _ h => absurd rfl h) (fun _ => ?_)
  clear hK hHeld
  (try simp only [layE])
  refine E_done (by kernel_rfl) ?_ _
  refine hK'.out _ _ ?_
  clear hK' hQ
  have d2 : decide (d.steps.length ≤ jn) = false := decide_eq_false (by omega)
  go_upto_region 4 with fail
  have hbw : Below w0.heap.size w0 ((w0.alloc (.cells #[.int .i64 (jn : Int), .bool u] 98)).drew) := ((Below.refl _ w0).alloc (Nat.le_refl _) _).drew
  have g1 : ((w0.alloc (.cells #[.int .i64 (jn : Int), .bool u] 98)).drew).heap[w0.heap.size]? = some (.cells #[.int .i64 (jn : Int), .bool u] 98 (0, 0)) := World.alloc_heap_new w0 _
  generalize (w0.alloc (.cells #[.int .i64 (jn : Int), .bool u] 98)).drew = w1 at *
  have HS1 := Lib.hid (HS0.out.below hbw)
  have HB1 := Lib.hid (HB.out.trans (hbw.mono (by have := HSZ.out; omega)))
  have hg0 := (hbw.block _ (Array.getElem?_eq_some_iff.1 HG0.out).1).trans HG0.out
  have HG1 := Lib.hid g1
  clear x2 x4 a0 a1 a2 a3 HG0 HS0 HMOV
  obtain ⟨a0, a1, a2, a3, -⟩ := cells4h hg0
  obtain ⟨y0, y1, -, -⟩ := cells2 g1
  obtain ⟨da, dc, ua, uc, hs⟩ := HS1.out
  dsimp only at hs
  obtain ⟨-, -, x2, -, x4, -, -, -⟩ := hs.cells
  obtain ⟨g, off, cap, aa, ac, ka, kc, ba, bc, he, -, -, -, hat⟩ := hs.df.now.steps.at hjl
  cases he
  obtain ⟨t0, t1, t2, t3, t4, t5, t6, t7, t8, t9, t10, t11, t12⟩ := hat
  have HLK : Hid (∀ W, Below w1.heap.size w1 W → (Instr.lookup 89 (.map (some m)) (.agg #[.int .i64 (jn : Int), .bool u]) false).run Tryz.prog W = .ok (.agg #[.int .u8 q0, .int .i64 q1, .int .i64 q2, .bool q3]) W) := Lib.hid (fun W hb => by
    have := (hs.below hb).look (k := ((jn : Int), u)) (by unfold I64w; dsimp only; omega)
    rw [HQ.out] at this
    exact this)
  have HANSW : Hid (∀ W, Calls Tryz.prog 47 #[.agg #[.int .u8 q0, .int .i64 q1, .int .i64 q2, .bool q3], .agg #[.string d.steps[jn].name, .string d.steps[jn].action, .string d.steps[jn].undo, .slice aa d.steps[jn].after.length ac, .int .i64 d.steps[jn].most, .int .i64 d.steps[jn].first, .int .i64 d.steps[jn].factor, .int .i64 d.steps[jn].limit, .int .u8 (d.steps[jn].note.kind : Int), .string d.steps[jn].note.text, .slice ka d.steps[jn].note.keys.length kc, .slice ba d.steps[jn].note.kids.length bc, .int .i64 d.steps[jn].note.line], .int .i64 now, .int .i64 tr, .int .u8 o] W fun e w' => e = .returned (.tuple #[.agg #[.int .u8 ar.1.1, .int .i64 ar.1.2.1, .int .i64 ar.1.2.2.1, .bool ar.1.2.2.2], .bool ar.2]) ∧ Below W.heap.size W w') := Lib.hid (fun W => by
    rw [HAR.out]
    exact Answer_any (s0 := d.steps[jn].name) (s1 := d.steps[jn].action) (s2 := d.steps[jn].undo) (af := aa) (an := d.steps[jn].after.length) (ac := ac) (m := d.steps[jn].most) (f := d.steps[jn].first) (k := d.steps[jn].factor) (l := d.steps[jn].limit) (nk := (d.steps[jn].note.kind : Int)) (nt := d.steps[jn].note.text) (ka := ka) (kn := d.steps[jn].note.keys.length) (kc := kc) (da := ba) (dn := d.steps[jn].note.kids.length) (dc := bc) (nl := d.steps[jn].note.line) q0 q1 q2 q3 now tr o W)
  have hjn0 : (0 : Int) ≤ (jn : Int) := by omega
  have hjn1 : (jn : Int) < (d.steps.length : Int) := by omega
  clear hs hbw hg0 g1
  go_cut [9, 10] (fun s9 s10 wx => ∃ R, s9 = .pointer (some ⟨R, 0, none⟩) ∧ s10 = .bool ar.2 ∧ wx.heap[R]? = some (.cells #[.int .u8 ar.1.1, .int .i64 ar.1.2.1, .int .i64 ar.1.2.2.1, .bool ar.1.2.2.2] 100 (0, 0)) ∧ Below w1.heap.size w1 wx)
  case first =>
    refine E_region (S := (fun W => W.cell? ⟨p, 4, none⟩ = some (.map (some m)) ∧ W.cell? ⟨p, 2, none⟩ = some (.slice (some ⟨g, off, none⟩) d.steps.length sc) ∧ W.cell? ⟨w0.heap.size, 0, none⟩ = some (.int .i64 (jn : Int)) ∧ W.cell? ⟨w0.heap.size, 1, none⟩ = some (.bool u) ∧ W.cell? ⟨w.heap.size, 0, none⟩ = some (.int .i64 (jn : Int)) ∧ W.cell? ⟨w.heap.size, 1, none⟩ = some (.int .i64 tr) ∧ W.cell? ⟨w.heap.size, 3, none⟩ = some (.int .u8 o) ∧ W.cell? ⟨g, off + jn * 13, none⟩ = some (.string d.steps[jn].name) ∧ W.cell? ⟨g, off + jn * 13 + 1, none⟩ = some (.string d.steps[jn].action) ∧ W.cell? ⟨g, off + jn * 13 + 2, none⟩ = some (.string d.steps[jn].undo) ∧ W.cell? ⟨g, off + jn * 13 + 3, none⟩ = some (.slice aa d.steps[jn].after.length ac) ∧ W.cell? ⟨g, off + jn * 13 + 4, none⟩ = some (.int .i64 d.steps[jn].most) ∧ W.cell? ⟨g, off + jn * 13 + 5, none⟩ = some (.int .i64 d.steps[jn].first) ∧ W.cell? ⟨g, off + jn * 13 + 6, none⟩ = some (.int .i64 d.steps[jn].factor) ∧ W.cell? ⟨g, off + jn * 13 + 7, none⟩ = some (.int .i64 d.steps[jn].limit) ∧ W.cell? ⟨g, off + jn * 13 + 8, none⟩ = some (.int .u8 (d.steps[jn].note.kind : Int)) ∧ W.cell? ⟨g, off + jn * 13 + 9, none⟩ = some (.string d.steps[jn].note.text) ∧ W.cell? ⟨g, off + jn * 13 + 10, none⟩ = some (.slice ka d.steps[jn].note.keys.length kc) ∧ W.cell? ⟨g, off + jn * 13 + 11, none⟩ = some (.slice ba d.steps[jn].note.kids.length bc) ∧ W.cell? ⟨g, off + jn * 13 + 12, none⟩ = some (.int .i64 d.steps[jn].note.line) ∧ (Instr.lookup 89 (.map (some m)) (.agg #[.int .i64 (jn : Int), .bool u]) false).run Tryz.prog W = .ok (.agg #[.int .u8 q0, .int .i64 q1, .int .i64 q2, .bool q3]) W)) 25 (by kernel_rfl) ⟨x4, x2, y0, y1, a0, a1, a3, t0, t1, t2, t3, t4, t5, t6, t7, t8, t9, t10, t11, t12, HLK.out _ (Below.refl _ _).drew⟩ (fun _ _ _ _ _ h => h) (fun Q' hQ hK' hHeld => ?_)
    refine E_take0 hQ (fun _ => hHeld) 0 (v := ?vd1) rfl rfl (by kernel_rfl) (by kernel_rfl) (by kernel_rfl) (by decide) (by rfl) ?yd1 ?rd1
    case yd1 => (intro w; go_simp; (try with_reducible rfl))
    (try simp only [layE])
    refine E_take0 hQ (fun _ => hHeld) 1 (v := ?vd2) rfl rfl (by kernel_rfl) (by kernel_rfl) (by kernel_rfl) (by decide) (by rfl) ?yd2 ?rd2
    case yd2 => (intro w; go_simp; (try with_reducible rfl))
    (try simp only [layE])
    refine E_take0 hQ (fun _ => hHeld) 2 (v := ?vd3) rfl rfl (by kernel_rfl) (by kernel_rfl) (by kernel_rfl) (by decide) (by rfl) ?yd3 ?rd3
    case yd3 => (intro w; go_simp; (try with_reducible rfl))
    (try simp only [layE])
    refine E_take hQ hHeld 3 (v := ?vd4) rfl rfl (by kernel_rfl) (by kernel_rfl) (by kernel_rfl) (by kernel_rfl) (by kernel_rfl) (by rfl) ?yd4 ?rd4
    case yd4 => (intro w hSw; (try dsimp only at hSw); go_simp; (try with_reducible rfl))
    (try simp only [layE])
    refine E_take hQ hHeld 4 (v := ?vd5) rfl rfl (by kernel_rfl) (by kernel_rfl) (by kernel_rfl) (by kernel_rfl) (by kernel_rfl) (by rfl) ?yd5 ?rd5
    case yd5 => (intro w hSw; (try dsimp only at hSw); go_simp; (try with_reducible rfl))
    (try simp only [layE])
    refine E_take hQ hHeld 5 (v := ?vd6) rfl rfl (by kernel_rfl) (by kernel_rfl) (by kernel_rfl) (by kernel_rfl) (by kernel_rfl) (by rfl) ?yd6 ?rd6
    case yd6 => (intro w hSw; (try dsimp only at hSw); go_simp; (try with_reducible rfl))
    (try simp only [layE])
    refine E_take0 hQ (fun _ => hHeld) 6 (v := ?vd7) rfl rfl (by kernel_rfl) (by kernel_rfl) (by kernel_rfl) (by decide) (by rfl) ?yd7 ?rd7
    case yd7 => (intro w; go_simp; (try with_reducible rfl))
    (try simp only [layE])
    refine E_take0 hQ (fun _ => hHeld) 7 (v := ?vd8) rfl rfl (by kernel_rfl) (by kernel_rfl) (by kernel_rfl) (by decide) (by rfl) ?yd8 ?rd8
    case yd8 => (intro w; go_simp; (try with_reducible rfl))
    (try simp only [layE])
    refine E_take0 hQ (fun _ => hHeld) 8 (v := ?vd9) rfl rfl (by kernel_rfl) (by kernel_rfl) (by kernel_rfl) (by decide) (by rfl) ?yd9 ?rd9
    case yd9 => (intro w; go_simp; (try with_reducible rfl))
    (try simp only [layE])
    refine E_take0 hQ (fun _ => hHeld) 9 (v := ?vd10) rfl rfl (by kernel_rfl) (by kernel_rfl) (by kernel_rfl) (by decide) (by rfl) ?yd10 ?rd10
    case yd10 => (intro w; go_simp; (try with_reducible rfl))
    (try simp only [layE])
    refine E_take hQ hHeld 10 (v := ?vd11) rfl rfl (by kernel_rfl) (by kernel_rfl) (by kernel_rfl) (by kernel_rfl) (by kernel_rfl) (by rfl) ?yd11 ?rd11
    case yd11 => (intro w hSw; (try dsimp only at hSw); go_simp; (try with_reducible rfl))
    (try simp only [layE])
    refine E_take0 hQ (fun _ => hHeld) 11 (v := ?vd12) rfl rfl (by kernel_rfl) (by kernel_rfl) (by kernel_rfl) (by decide) (by rfl) ?yd12 ?rd12
    case yd12 => (intro w; go_simp; (try with_reducible rfl))
    (try simp only [layE])
    refine E_take hQ hHeld 12 (v := ?vd13) rfl rfl (by kernel_rfl) (by kernel_rfl) (by kernel_rfl) (by kernel_rfl) (by kernel_rfl) (by rfl) ?yd13 ?rd13
    case yd13 => (intro w hSw; (try dsimp only at hSw); go_simp; (try with_reducible rfl))
    (try simp only [layE])
    refine E_take0 hQ (fun _ => hHeld) 13 (v := ?vd14) rfl rfl (by kernel_rfl) (by kernel_rfl) (by kernel_rfl) (by decide) (by rfl) ?yd14 ?rd14
    case yd14 => (intro w; go_simp; (try with_reducible rfl))
    (try simp only [layE])
    refine E_take hQ hHeld 14 (v := ?vd15) rfl rfl (by kernel_rfl) (by kernel_rfl) (by kernel_rfl) (by kernel_rfl) (by kernel_rfl) (by rfl) ?yd15 ?rd15
    case yd15 => (intro w hSw; (try dsimp only at hSw); go_simp; (try with_reducible rfl))
    (try simp only [layE])
    refine E_take0 hQ (fun _ => hHeld) 15 (v := ?vd16) rfl rfl (by kernel_rfl) (by kernel_rfl) (by kernel_rfl) (by decide) (by rfl) ?yd16 ?rd16
    case yd16 => (intro w; go_simp; (try with_reducible rfl))
    (try simp only [layE])
    refine E_take0 hQ (fun _ => hHeld) 16 (v := ?vd17) rfl rfl (by kernel_rfl) (by kernel_rfl) (by kernel_rfl) (by decide) (by rfl) ?yd17 ?rd17
    case yd17 => (intro w; go_simp; (try with_reducible rfl))
    (try simp only [layE])
    refine E_take hQ hHeld 17 (v := ?vd18) rfl rfl (by kernel_rfl) (by kernel_rfl) (by kernel_rfl) (by kernel_rfl) (by kernel_rfl) (by rfl) ?yd18 ?rd18
    case yd18 => (intro w hSw; (try dsimp only at hSw); go_simp; (try with_reducible rfl))
    (try simp only [layE])
    refine E_take0 hQ (fun _ => hHeld) 18 (v := ?vd19) rfl rfl (by kernel_rfl) (by kernel_rfl) (by kernel_rfl) (by decide) (by rfl) ?yd19 ?rd19
    case yd19 => (intro w; go_simp; (try with_reducible rfl))
    (try simp only [layE])
    refine E_take hQ hHeld 19 (v := ?vd20) rfl rfl (by kernel_rfl) (by kernel_rfl) (by kernel_rfl) (by kernel_rfl) (by kernel_rfl) (by rfl) ?yd20 ?rd20
    case yd20 => (intro w hSw; (try dsimp only at hSw); go_simp; (try with_reducible rfl))
    (try simp only [layE])
    refine E_twoS 20 24 (by kernel_rfl) rfl rfl (by rfl) (by rfl) (fun K hK => ?_) (fun K hK => ?_)
    · skip
      go_simp
      refine (HANSW.out _).mono ?_
      rintro e v1 ⟨rfl, hbv1⟩
      have hbv1 : Below w1.heap.size w1 v1 := bthen (Below.refl w1.heap.size w1).drew (Nat.le_refl _) hbv1
      (skip)
      refine hK.out _ _ (fun _ _ => ⟨cellB hbv1 hHeld.1, cellB hbv1 hHeld.2.1, cellB hbv1 hHeld.2.2.1, cellB hbv1 hHeld.2.2.2.1, cellB hbv1 hHeld.2.2.2.2.1, cellB hbv1 hHeld.2.2.2.2.2.1, cellB hbv1 hHeld.2.2.2.2.2.2.1, cellB hbv1 hHeld.2.2.2.2.2.2.2.1, cellB hbv1 hHeld.2.2.2.2.2.2.2.2.1, cellB hbv1 hHeld.2.2.2.2.2.2.2.2.2.1, cellB hbv1 hHeld.2.2.2.2.2.2.2.2.2.2.1, cellB hbv1 hHeld.2.2.2.2.2.2.2.2.2.2.2.1, cellB hbv1 hHeld.2.2.2.2.2.2.2.2.2.2.2.2.1, cellB hbv1 hHeld.2.2.2.2.2.2.2.2.2.2.2.2.2.1, cellB hbv1 hHeld.2.2.2.2.2.2.2.2.2.2.2.2.2.2.1, cellB hbv1 hHeld.2.2.2.2.2.2.2.2.2.2.2.2.2.2.2.1, cellB hbv1 hHeld.2.2.2.2.2.2.2.2.2.2.2.2.2.2.2.2.1, cellB hbv1 hHeld.2.2.2.2.2.2.2.2.2.2.2.2.2.2.2.2.2.1, cellB hbv1 hHeld.2.2.2.2.2.2.2.2.2.2.2.2.2.2.2.2.2.2.1, cellB hbv1 hHeld.2.2.2.2.2.2.2.2.2.2.2.2.2.2.2.2.2.2.2.1, HLK.out _ hbv1⟩) (fun hHeld' => ?_)
      replace hHeld := hHeld' (by rfl) (by decide)
      clear hK hHeld'
      (try simp only [layE])
      refine E_take0 hQ (fun _ => hHeld) 21 (v := ?vd21) rfl rfl (by kernel_rfl) (by kernel_rfl) (by kernel_rfl) (by decide) (by rfl) ?yd21 ?rd21
      case yd21 => (intro w; go_simp; (try with_reducible rfl))
      (try simp only [layE])
      refine E_take0 hQ (fun _ => hHeld) 22 (v := ?vd22) rfl rfl (by kernel_rfl) (by kernel_rfl) (by kernel_rfl) (by decide) (by rfl) ?yd22 ?rd22
      case yd22 => (intro w; go_simp; (try with_reducible rfl))
      (try simp only [layE])
      refine E_take0 hQ (fun _ => hHeld) 23 (v := ?vd23) rfl rfl (by kernel_rfl) (by kernel_rfl) (by kernel_rfl) (by decide) (by rfl) ?yd23 ?rd23
      case yd23 => (intro w; go_simp; (try with_reducible rfl))
      (try simp only [layE])
      refine E_one 24 (by kernel_rfl) rfl (by rfl) (fun K hK => ?_)
      go_simp
      have hbv2 : Below v1.heap.size v1 (v1.alloc (.cells #[.int .u8 0, .int .i64 0, .int .i64 0, .bool false] 100)) := (Below.refl _ v1).alloc (Nat.le_refl _) _
      have hn := World.alloc_heap_new v1 (.cells #[.int .u8 0, .int .i64 0, .int .i64 0, .bool false] 100)
      generalize v1.alloc (.cells #[.int .u8 0, .int .i64 0, .int .i64 0, .bool false] 100) = v2 at *
      (try simp only [layE])
      refine hK.out _ _ (fun _ _ => ⟨cellB hbv2 hHeld.1, cellB hbv2 hHeld.2.1, cellB hbv2 hHeld.2.2.1, cellB hbv2 hHeld.2.2.2.1, cellB hbv2 hHeld.2.2.2.2.1, cellB hbv2 hHeld.2.2.2.2.2.1, cellB hbv2 hHeld.2.2.2.2.2.2.1, cellB hbv2 hHeld.2.2.2.2.2.2.2.1, cellB hbv2 hHeld.2.2.2.2.2.2.2.2.1, cellB hbv2 hHeld.2.2.2.2.2.2.2.2.2.1, cellB hbv2 hHeld.2.2.2.2.2.2.2.2.2.2.1, cellB hbv2 hHeld.2.2.2.2.2.2.2.2.2.2.2.1, cellB hbv2 hHeld.2.2.2.2.2.2.2.2.2.2.2.2.1, cellB hbv2 hHeld.2.2.2.2.2.2.2.2.2.2.2.2.2.1, cellB hbv2 hHeld.2.2.2.2.2.2.2.2.2.2.2.2.2.2.1, cellB hbv2 hHeld.2.2.2.2.2.2.2.2.2.2.2.2.2.2.2.1, cellB hbv2 hHeld.2.2.2.2.2.2.2.2.2.2.2.2.2.2.2.2.1, cellB hbv2 hHeld.2.2.2.2.2.2.2.2.2.2.2.2.2.2.2.2.2.1, cellB hbv2 hHeld.2.2.2.2.2.2.2.2.2.2.2.2.2.2.2.2.2.2.1, cellB hbv2 hHeld.2.2.2.2.2.2.2.2.2.2.2.2.2.2.2.2.2.2.2.1, HLK.out _ (bthen hbv1 (Nat.le_refl _) hbv2)⟩) (fun hHeld' => ?_)
      replace hHeld := hHeld' (by rfl) (by decide)
      clear hK hHeld'
      (try simp only [layE])
      refine E_one 25 (by kernel_rfl) rfl (by rfl) (fun K hK => ?_)
      obtain ⟨c0, c1, c2, c3, f0, f1, f2, f3⟩ := cells4h hn
      go_simp
      (try simp only [layE])
      refine hK.out _ _ (fun _ h => absurd rfl h) (fun _ => ?_)
      clear hK hHeld
      (try simp only [layE])
      refine E_take0 hQ (fun h => absurd h (by decide)) 26 (v := ?vd24) rfl rfl (by kernel_rfl) (by kernel_rfl) (by kernel_rfl) (by decide) (by rfl) ?yd24 ?rd24
      case yd24 => (intro w; go_simp; (try with_reducible rfl))
      (try simp only [layE])
      refine E_done (by kernel_rfl) ?_ _
      refine hK'.out _ _ ?_
      have hfin : Below w1.heap.size w1 v2 := bthen hbv1 (Nat.le_refl _) hbv2
      have hset := set4 (.int .u8 ar.1.1) (.int .i64 ar.1.2.1) (.int .i64 ar.1.2.2.1) (.bool ar.1.2.2.2) hn
      clear hK' hQ
      go_wp2_with fail
      go_meet
      exact ⟨v1.heap.size, rfl, rfl, hset, bset (bset (bset (bset hfin hbv1.size) hbv1.size) hbv1.size) hbv1.size⟩
    · skip
      go_simp
      have hbv1 : Below w1.heap.size w1 ((w1.alloc (.cells #[.int .u8 0, .int .i64 0, .int .i64 0, .bool false] 100)).drew) := ((Below.refl _ w1).alloc (Nat.le_refl _) _).drew
      have hn : ((w1.alloc (.cells #[.int .u8 0, .int .i64 0, .int .i64 0, .bool false] 100)).drew).heap[w1.heap.size]? = some (.cells #[.int .u8 0, .int .i64 0, .int .i64 0, .bool false] 100 (0, 0)) := World.alloc_heap_new w1 _
      generalize (w1.alloc (.cells #[.int .u8 0, .int .i64 0, .int .i64 0, .bool false] 100)).drew = v1 at *
      (try simp only [layE])
      refine hK.out _ _ (fun _ _ => ⟨cellB hbv1 hHeld.1, cellB hbv1 hHeld.2.1, cellB hbv1 hHeld.2.2.1, cellB hbv1 hHeld.2.2.2.1, cellB hbv1 hHeld.2.2.2.2.1, cellB hbv1 hHeld.2.2.2.2.2.1, cellB hbv1 hHeld.2.2.2.2.2.2.1, cellB hbv1 hHeld.2.2.2.2.2.2.2.1, cellB hbv1 hHeld.2.2.2.2.2.2.2.2.1, cellB hbv1 hHeld.2.2.2.2.2.2.2.2.2.1, cellB hbv1 hHeld.2.2.2.2.2.2.2.2.2.2.1, cellB hbv1 hHeld.2.2.2.2.2.2.2.2.2.2.2.1, cellB hbv1 hHeld.2.2.2.2.2.2.2.2.2.2.2.2.1, cellB hbv1 hHeld.2.2.2.2.2.2.2.2.2.2.2.2.2.1, cellB hbv1 hHeld.2.2.2.2.2.2.2.2.2.2.2.2.2.2.1, cellB hbv1 hHeld.2.2.2.2.2.2.2.2.2.2.2.2.2.2.2.1, cellB hbv1 hHeld.2.2.2.2.2.2.2.2.2.2.2.2.2.2.2.2.1, cellB hbv1 hHeld.2.2.2.2.2.2.2.2.2.2.2.2.2.2.2.2.2.1, cellB hbv1 hHeld.2.2.2.2.2.2.2.2.2.2.2.2.2.2.2.2.2.2.1, cellB hbv1 hHeld.2.2.2.2.2.2.2.2.2.2.2.2.2.2.2.2.2.2.2.1, HLK.out _ hbv1⟩) (fun hHeld' => ?_)
      replace hHeld := hHeld' (by rfl) (by decide)
      clear hK hHeld'
      (try simp only [layE])
      refine E_one 20 (by kernel_rfl) rfl (by rfl) (fun K hK => ?_)
      go_simp
      refine (HANSW.out _).mono ?_
      rintro e v2 ⟨rfl, hbv2⟩
      (skip)
      refine hK.out _ _ (fun _ _ => ⟨cellB hbv2 hHeld.1, cellB hbv2 hHeld.2.1, cellB hbv2 hHeld.2.2.1, cellB hbv2 hHeld.2.2.2.1, cellB hbv2 hHeld.2.2.2.2.1, cellB hbv2 hHeld.2.2.2.2.2.1, cellB hbv2 hHeld.2.2.2.2.2.2.1, cellB hbv2 hHeld.2.2.2.2.2.2.2.1, cellB hbv2 hHeld.2.2.2.2.2.2.2.2.1, cellB hbv2 hHeld.2.2.2.2.2.2.2.2.2.1, cellB hbv2 hHeld.2.2.2.2.2.2.2.2.2.2.1, cellB hbv2 hHeld.2.2.2.2.2.2.2.2.2.2.2.1, cellB hbv2 hHeld.2.2.2.2.2.2.2.2.2.2.2.2.1, cellB hbv2 hHeld.2.2.2.2.2.2.2.2.2.2.2.2.2.1, cellB hbv2 hHeld.2.2.2.2.2.2.2.2.2.2.2.2.2.2.1, cellB hbv2 hHeld.2.2.2.2.2.2.2.2.2.2.2.2.2.2.2.1, cellB hbv2 hHeld.2.2.2.2.2.2.2.2.2.2.2.2.2.2.2.2.1, cellB hbv2 hHeld.2.2.2.2.2.2.2.2.2.2.2.2.2.2.2.2.2.1, cellB hbv2 hHeld.2.2.2.2.2.2.2.2.2.2.2.2.2.2.2.2.2.2.1, cellB hbv2 hHeld.2.2.2.2.2.2.2.2.2.2.2.2.2.2.2.2.2.2.2.1, HLK.out _ (bthen hbv1 (Nat.le_refl _) hbv2)⟩) (fun hHeld' => ?_)
      replace hHeld := hHeld' (by rfl) (by decide)
      clear hK hHeld'
      (try simp only [layE])
      refine E_take0 hQ (fun _ => hHeld) 21 (v := ?vd25) rfl rfl (by kernel_rfl) (by kernel_rfl) (by kernel_rfl) (by decide) (by rfl) ?yd25 ?rd25
      case yd25 => (intro w; go_simp; (try with_reducible rfl))
      (try simp only [layE])
      refine E_take0 hQ (fun _ => hHeld) 22 (v := ?vd26) rfl rfl (by kernel_rfl) (by kernel_rfl) (by kernel_rfl) (by decide) (by rfl) ?yd26 ?rd26
      case yd26 => (intro w; go_simp; (try with_reducible rfl))
      (try simp only [layE])
      refine E_take0 hQ (fun _ => hHeld) 23 (v := ?vd27) rfl rfl (by kernel_rfl) (by kernel_rfl) (by kernel_rfl) (by decide) (by rfl) ?yd27 ?rd27
      case yd27 => (intro w; go_simp; (try with_reducible rfl))
      (try simp only [layE])
      refine E_one 25 (by kernel_rfl) rfl (by rfl) (fun K hK => ?_)
      have hn := (hbv2.block _ (Array.getElem?_eq_some_iff.1 hn).1).trans hn
      obtain ⟨c0, c1, c2, c3, f0, f1, f2, f3⟩ := cells4h hn
      go_simp
      (try simp only [layE])
      refine hK.out _ _ (fun _ h => absurd rfl h) (fun _ => ?_)
      clear hK hHeld
      (try simp only [layE])
      refine E_take0 hQ (fun h => absurd h (by decide)) 26 (v := ?vd28) rfl rfl (by kernel_rfl) (by kernel_rfl) (by kernel_rfl) (by decide) (by rfl) ?yd28 ?rd28
      case yd28 => (intro w; go_simp; (try with_reducible rfl))
      (try simp only [layE])
      refine E_done (by kernel_rfl) ?_ _
      refine hK'.out _ _ ?_
      have hfin : Below w1.heap.size w1 v2 := bthen hbv1 (Nat.le_refl _) hbv2
      have hset := set4 (.int .u8 ar.1.1) (.int .i64 ar.1.2.1) (.int .i64 ar.1.2.2.1) (.bool ar.1.2.2.2) hn
      clear hK' hQ
      go_wp2_with fail
      go_meet
      exact ⟨w1.heap.size, rfl, rfl, hset, bset (bset (bset (bset hfin (Nat.le_refl _)) (Nat.le_refl _)) (Nat.le_refl _)) (Nat.le_refl _)⟩
  case rest =>
    obtain ⟨R, rfl, rfl, hR, hbx⟩ := hcut
    rename World => w4
    have HB4 := Lib.hid (HB1.out.trans (hbx.mono HB1.out.size))
    have HS4 := Lib.hid (HS1.out.below hbx)
    have HG4 := Lib.hid ((hbx.block _ (Array.getElem?_eq_some_iff.1 HG1.out).1).trans HG1.out)
    have HR4 := Lib.hid hR
    clear hbx hR a0 a1 a2 a3 y0 y1 x2 x4 t0 t1 t2 t3 t4 t5 t6 t7 t8 t9 t10 t11 t12 HS1 HG1 HB1 HLK HANSW
    rcases hb2 : ar.2 with _ | _
    · have HB2 := Lib.hid hb2
      go_wp2_with fail
      refine bodyPost_ret (results_tmp2 rfl _ _ _) rfl ?_
      exact ⟨_, by rw [HRF.out HB2.out]; rfl, by rw [HRF.out HB2.out]; exact HSAME.out _ HB4.out⟩
    · have HB2 := Lib.hid hb2
      have HAK := Lib.hid (asker_any ⟨p, m, _, sc, vr, d, rs, N⟩ S U w4 HS4.out (fun j hj => Nat.lt_of_lt_of_le (HU.out j hj) HB4.out.size))
      dsimp only at HAK
      go_wp2_with fail
      refine HAK.out.mono ?_
      rintro e w5 ⟨bs, bo, ob, rfl, hA0, hb5, hob, hol⟩
      obtain ⟨da1, dc1, ua1, uc1, va1, vc1, hA⟩ := hA0
      dsimp only at hA
      have HA5 := Lib.hid hA
      obtain ⟨z0, z1, -, -⟩ := cells2 ((hb5.block _ (Array.getElem?_eq_some_iff.1 HG4.out).1).trans HG4.out)
      obtain ⟨c0, c1, c2, c3, -⟩ := cells4h ((hb5.block _ (Array.getElem?_eq_some_iff.1 HR4.out).1).trans HR4.out)
      have HB5 := Lib.hid (HB4.out.trans (hb5.mono HB4.out.size))
      have hwk : ((jn : Int), u) ∈ waysD d.steps.length := by
        cases u with
        | false => exact ways_f hjl
        | true => exact ways_t hjl
      have HWK := Lib.hid hwk
      have hdl := HGD.out.dl
      have hul := HGD.out.ul
      clear hA hb5 hwk
      go_wp2_with fail
      refine (sagPut_any (jn : Int) u ar.1.1 ar.1.2.1 ar.1.2.2.1 ar.1.2.2.2 (S, []) w5 _ p m _ sc vr d rs N bs bo ob da1 dc1 ua1 uc1 va1 vc1 HA5.out HWK.out (by omega) (by dsimp only; omega) (by simp)).mono ?_
      rintro e w6 ⟨rfl, V6, hY6, hG6⟩
      have HPL := putX_len (S, []) ((jn : Int), u) (ar.1.1, ar.1.2.1, ar.1.2.2.1, ar.1.2.2.2)
      have hpu := putX_undone (S, []) ((jn : Int), u) (ar.1.1, ar.1.2.1, ar.1.2.2.1, ar.1.2.2.2)
      have hpd : ∀ i ∈ (putX (S, []) ((jn : Int), u) (ar.1.1, ar.1.2.1, ar.1.2.2.1, ar.1.2.2.2)).1.done, 0 ≤ i ∧ i < (d.steps.length : Int) := by
        intro i hi
        unfold putX at hi
        split at hi
        · rcases List.mem_append.1 hi with h | h
          · exact HGD.out.dn i h
          · simp only [List.mem_singleton] at h
            subst h
            exact ⟨by (try dsimp only); omega, by (try dsimp only); omega⟩
        · split at hi
          · exact HGD.out.dn i hi
          · exact HGD.out.dn i hi
      have HON := Lib.hid (on_any ⟨p, m, _, sc, vr, d, rs, N⟩ bs bo ob (putX (S, []) ((jn : Int), u) (ar.1.1, ar.1.2.1, ar.1.2.2.1, ar.1.2.2.2)) now V6 w6 hY6 HF.out hpd (by have := HPL.2; dsimp only at this; omega) (by rw [hpu]; dsimp only; omega) (by have := HPL.1; simp only [List.length_nil] at this; omega))
      dsimp only at HON
      have HG6 := Lib.hid hG6
      clear hY6 hG6 HPL hpu hpd z0 z1 c0 c1 c2 c3
      go_wp2_with fail
      refine HON.out.mono ?_
      rintro e w7 ⟨rfl, V7, hY7, hG7⟩
      obtain ⟨va, vc, hbk, hC⟩ := call_fin (fun j hj => HU.out j hj) HB5.out (Nat.le_trans HB4.out.size hob) hY7 (HG6.out.trans hG7)
      have HC := Lib.hid hC
      have v0 := cell1 hbk
      clear hY7 hG7 hC hbk
      go_wp2_with fail
      refine bodyPost_ret (results_tmp2 rfl _ _ _) rfl ?_
      exact ⟨_, by rw [HRT.out HB2.out]; rfl, by rw [HRT.out HB2.out]; exact HC.out⟩
end Go.Proofs.YtgfiogjfgbegpaaGreat

/-
  Sagas: the iterator over all ways: contract.
-/
namespace Go.Proofs.YtgfiogjfgbegpaaGreat
open Go Go.RowKit Go.Maps Go.WideShapes
attribute [local go_sem] Oper.semAt_some wide_fn wide_depth wide_fn' wide_depth'

theorem waysD_len (n : Nat) : (waysD n).length = n + n := by
  unfold waysD
  simp
theorem waysD_get {n b i : Nat} (hb : b < 2) (hi : i < n) : (waysD n)[b * n + i]? = some ((i : Int), decide (b = 1)) := by
  unfold waysD
  rcases (by omega : b = 0 ∨ b = 1) with rfl | rfl
  · rw [List.getElem?_append_left (by simp; omega)]
    simp [hi]
  · rw [List.getElem?_append_right (by simp)]
    simp [hi]
theorem waysD_take {n b i : Nat} (hb : b < 2) (hi : i < n) : (waysD n).take (b * n + i + 1) = (waysD n).take (b * n + i) ++ [((i : Int), decide (b = 1))] := by
  rw [List.take_add_one, waysD_get hb hi]
  rfl
def encWs (k : WayD) : Array Value := #[encW k]
theorem ways_any (p : Nat) (w : World) : Calls Tryz.prog 66 #[.pointer (some ⟨p, 0, none⟩)] w fun e w' => e = .returned (.func (.func 93) #[] #[.pointer (some ⟨w.heap.size, 0, none⟩)]) ∧ w.alloc (.cells #[.pointer (some ⟨p, 0, none⟩)] 48) = w' := by
  go_enter Tryz.func66, Tryz.ntmps66
  go_wp2
  go_ret
  exact ⟨rfl, rfl⟩
set_option maxRecDepth 100000 in
set_option maxHeartbeats 4000000 in
theorem ways_iter (p n X sc : Nat) (sa : Option Addr) (w : World) (hbX : w.heap[X]? = some (.cells #[.pointer (some ⟨p, 0, none⟩)] 48 (0, 0))) (hn : n ≤ 1000000) :
    IterAtR Tryz.prog 0 93 #[.pointer (some ⟨X, 0, none⟩)] encWs (waysD n) True (fun j => j = X) (fun W => W.cell? ⟨p, 2, none⟩ = some (.slice sa n sc)) w := by
  intro l J Jx W _ hR hS hn0 hbl hJ hJx hY h0
  have hltX := (Array.getElem?_eq_some_iff.1 hbX).1
  have hbX' := (hbl.block X hltX).trans hbX
  have HJ := Lib.hid hJ
  have HY := Lib.hid hY
  have HR := Lib.hid hR
  have hb1 : Below W.heap.size W (W.alloc (.cells #[.bool false, .bool true] 4)) := (Below.refl _ _).alloc (Nat.le_refl _) _
  have hst : Step 0 (fun j => j = X) (fun j => j = X ∨ j = W.heap.size) W (W.alloc (.cells #[.bool false, .bool true] 4)) := Step.alloc (Nat.zero_le _) _
  have hS1 : ∀ k, (k = X ∨ k = W.heap.size) → 0 ≤ k ∧ k < (W.alloc (.cells #[.bool false, .bool true] 4)).heap.size := fun k hk => ⟨Nat.zero_le _, by have := hbl.size; simp; omega⟩
  have hJ1 := hJ _ _ _ _ _ (fun k hk => ⟨Nat.zero_le _, (hS k hk).2⟩) h0 hst
  have g0 := World.alloc_heap_new W (.cells #[.bool false, .bool true] 4)
  have hX1 := (hb1.block _ (Array.getElem?_eq_some_iff.1 hbX').1).trans hbX'
  have HJ1 := Lib.hid hJ1
  have HS1 := Lib.hid hS1
  have HG := Lib.hid g0
  have HX := Lib.hid hX1
  clear hY hS hbX hbX' hbl hltX hJ hJx h0 hst hb1 hS1 hJ1 g0 hX1 hR hn0
  refine callsIn_of_wp Tryz.func93 rfl trivial ?_ rfl
  simp only [Tryz.ntmps93, List.size_toArray, List.length_cons, List.length_nil, Nat.reduceAdd, Nat.reduceSub, Array.replicate_succ, Array.replicate_zero, List.push_toArray, List.append_toArray, List.nil_append, List.cons_append]
  gi_wp2_with fail
  generalize hQ : W.heap.size = Q at *
  generalize W.alloc (.cells #[.bool false, .bool true] 4) = W1 at *
  gi_loopg [8] 3 (fun gk i wr => ∃ (S : Nat → Prop) (k : Nat), k + gk = 3 ∧ k ≤ 2 ∧ i = .int .i64 k ∧ Hid (∀ j, S j → 0 ≤ j ∧ j < wr.heap.size) ∧ S X ∧ S Q ∧ J S ((waysD n).take (k * n)) wr ∧ Hid (wr.heap[X]? = some (.cells #[.pointer (some ⟨p, 0, none⟩)] 48 (0, 0))) ∧ Hid (wr.heap[Q]? = some (.cells #[.bool false, .bool true] 4 (0, 0))))
  case atStart => exact ⟨_, 0, by omega, by omega, rfl, HS1, .inl rfl, .inr rfl, by simpa using HJ1.out, HX, HG⟩
  case round =>
    obtain ⟨S, k, hgk, hk, rfl, HSb, hSX, hSQ, hJs, HXr, HQr⟩ := hrel
    have hg : gk = 3 - k := by omega
    subst hg
    by_cases hkl : k < 2
    · have hk1 : (k : Int) < 2 := by omega
      have hk0 : (0 : Int) ≤ (k : Int) := by omega
      have x2 := HR.out _ _ _ hJs
      have xX := cell1 HXr.out
      have xQ : wr.cell? ⟨Q, k, none⟩ = some (.bool (decide (k = 1))) := by
        rcases (by omega : k = 0 ∨ k = 1) with rfl | rfl
        · exact (cells2 HQr.out).1
        · exact (cells2 HQr.out).2.1
      have HJs := Lib.hid hJs
      clear hJs
      generalize hbk : decide (k = 1) = bk at *
      gi_wp2_with fail
      clear x2 xX xQ
      gi_loopg [18] (n + 1) (fun gk i wi => ∃ (S : Nat → Prop) (j : Nat), j + gk = n + 1 ∧ j ≤ n ∧ i = .int .i64 j ∧ Hid (∀ j, S j → 0 ≤ j ∧ j < wi.heap.size) ∧ S X ∧ S Q ∧ J S ((waysD n).take (k * n + j)) wi ∧ Hid (wi.heap[X]? = some (.cells #[.pointer (some ⟨p, 0, none⟩)] 48 (0, 0))) ∧ Hid (wi.heap[Q]? = some (.cells #[.bool false, .bool true] 4 (0, 0))))
      case atStart => exact ⟨S, 0, by omega, by omega, rfl, HSb, hSX, hSQ, HJs.out, HXr, HQr⟩
      case round =>
        obtain ⟨S, j, hgj, hj, rfl, HSb, hSX, hSQ, hJs, HXi, HQi⟩ := hrel
        rename World => wi
        have hg : gk = n + 1 - j := by omega
        subst hg
        by_cases hja : j < n
        · have d2 : decide ((j : Int) < (n : Int)) = true := decide_eq_true (by omega)
          have hj1 : (j : Int) < (n : Int) := by omega
          have hT := waysD_take hkl hja
          have hpx : (waysD n).take (k * n + j) ++ [((j : Int), bk)] <+: waysD n := by
            rw [← hbk, ← hT]
            exact List.take_prefix _ _
          rw [hbk] at hT
          obtain ⟨fn, tmps, assign, body, hy, hRr⟩ := HY.out S _ ((j : Int), bk) wi HSb.out hJs hpx
          rw [← hT] at hRr
          unfold encWs encW at hy
          dsimp only at hy
          have HPX := Lib.hid hpx
          have HRr := Lib.hid hRr
          have HYY := Lib.hid hy
          have HT := Lib.hid hT
          clear hpx hRr hy hT
          gi_upto_region 6 with fail
          have hy := HYY.out
          gi_wp2_with fail
          refine HRr.out.mono ?_
          rintro e W' (⟨rfl, hJ', hk'⟩ | ⟨rfl, hJ', hk'⟩)
          · clear hy
            have hsz' := hk'.below.size
            gi_wp2_with fail
            gi_roundg (n + 1 - (j + 1))
            case measure => omega
            case rel => exact ⟨S, j + 1, by omega, by omega, by go_num, Lib.hid (fun i hi => ⟨Nat.zero_le _, Nat.lt_of_lt_of_le (HSb.out i hi).2 hsz'⟩), hSX, hSQ, hJ', Lib.hid ((hk'.same X hSX).trans HXi.out), Lib.hid ((hk'.same Q hSQ).trans HQi.out)⟩
          · clear hy
            have hsz' := hk'.below.size
            gi_wp2_with fail
            refine bodyPost_ret (results_none rfl _ _ _) rfl ?_
            exact ⟨⟨_, rfl⟩, S, (fun i hi => ⟨Nat.zero_le _, Nat.lt_of_lt_of_le (HSb.out i hi).2 hsz'⟩), .inr ⟨_, (by rw [HT.out]; exact HPX.out), hJ'⟩⟩
        · have d2 : decide ((j : Int) < (n : Int)) = false := decide_eq_false (by omega)
          have hj1 : ¬ (j : Int) < (n : Int) := by omega
          obtain rfl : j = n := by omega
          gi_wp2_with fail
          gi_roundg (3 - (k + 1))
          case measure => omega
          case rel => exact ⟨S, k + 1, by omega, by omega, by go_num, HSb, hSX, hSQ, by rw [Nat.add_mul, Nat.one_mul]; exact hJs, HXi, HQi⟩
    · have hk1 : ¬ (k : Int) < 2 := by omega
      obtain rfl : k = 2 := by omega
      have hE : (waysD n).take (2 * n) = waysD n := List.take_of_length_le (by rw [waysD_len]; omega)
      rw [hE] at hJs
      gi_wp2_with fail
      go_end0
      exact ⟨⟨_, rfl⟩, S, fun j hj => (HSb.out j hj).2, .inl hJs⟩
end Go.Proofs.YtgfiogjfgbegpaaGreat

/-
  What layer 25's laws ask whatever is asked.
-/
namespace Go.Proofs.YtgfiogjfgbegpaaGreat
open Go Go.RowKit Go.WideShapes

def s25a : StepD := ⟨{ data := #[97] }, { data := #[120] }, { data := #[] }, [], 0, 0, 0, 0, .mk 0 { data := #[] } [] [] 0⟩
def s25b : StepD := ⟨{ data := #[97] }, { data := #[121] }, { data := #[] }, [{ data := #[97] }, { data := #[98] }], 0, 0, 0, 0, .mk 0 { data := #[] } [] [] 0⟩
def d25 : DefD := ⟨{ data := #[115] }, { data := #[] }, [s25a, s25b]⟩
structure At25 (W : World) (g1 g2 : Nat) : Prop where
  b1 : W.heap[g1]? = some (.cells #[.string { data := #[97] }, .string { data := #[98] }] 9 (0, 0))
  b2 : W.heap[g2]? = some (.cells #[.string { data := #[97] }, .string { data := #[120] }, .string { data := #[] }, .slice none 0 0, .int .i64 0, .int .i64 0, .int .i64 0, .int .i64 0, .int .u8 0, .string { data := #[] }, .slice none 0 0, .slice none 0 0, .int .i64 0, .string { data := #[97] }, .string { data := #[121] }, .string { data := #[] }, .slice (some ⟨g1, 0, none⟩) 2 2, .int .i64 0, .int .i64 0, .int .i64 0, .int .i64 0, .int .u8 0, .string { data := #[] }, .slice none 0 0, .slice none 0 0, .int .i64 0] 47 (0, 0))
theorem At25.below {W W' : World} {g1 g2 : Nat} (h : At25 W g1 g2) (hb : Below W.heap.size W W') : At25 W' g1 g2 :=
  ⟨(hb.block _ (Array.getElem?_eq_some_iff.1 h.b1).1).trans h.b1, (hb.block _ (Array.getElem?_eq_some_iff.1 h.b2).1).trans h.b2⟩
theorem At25.toR {W : World} {g1 g2 : Nat} (h : At25 W g1 g2) : DefR W [.string { data := #[115] }, .string { data := #[] }, .slice (some ⟨g2, 0, none⟩) 2 2] d25 (some ⟨g2, 0, none⟩) 2 := by
  refine ⟨rfl, by decide, by decide, [[.string { data := #[97] }, .string { data := #[120] }, .string { data := #[] }, .slice none 0 0, .int .i64 0, .int .i64 0, .int .i64 0, .int .i64 0, .int .u8 0, .string { data := #[] }, .slice none 0 0, .slice none 0 0, .int .i64 0], [.string { data := #[97] }, .string { data := #[121] }, .string { data := #[] }, .slice (some ⟨g1, 0, none⟩) 2 2, .int .i64 0, .int .i64 0, .int .i64 0, .int .i64 0, .int .u8 0, .string { data := #[] }, .slice none 0 0, .slice none 0 0, .int .i64 0]], rfl, rds_row 2 13 h.b2 rfl (by decide), fun i r s hr hs => ?_⟩
  rcases i with _ | _ | i
  · cases hr
    cases hs
    exact ⟨none, 0, none, 0, none, 0, rfl, ⟨by decide, by decide, by decide, (fun a ha => by cases ha), by unfold I64w; decide, by unfold I64w; decide, by unfold I64w; decide, by unfold I64w; decide⟩, ⟨rfl, none, 0, rfl, Nat.le_refl _, Nat.zero_le _, .inl rfl⟩, node_none W⟩
  · cases hr
    cases hs
    exact ⟨some ⟨g1, 0, none⟩, 2, none, 0, none, 0, rfl, ⟨by decide, by decide, by decide, fun a ha => by simp only [s25b, List.mem_cons, List.not_mem_nil, or_false] at ha; rcases ha with rfl | rfl <;> decide, by unfold I64w; decide, by unfold I64w; decide, by unfold I64w; decide, by unfold I64w; decide⟩, rds_row 2 1 h.b1 rfl (by decide), node_none W⟩
  · simp at hr
end Go.Proofs.YtgfiogjfgbegpaaGreat
