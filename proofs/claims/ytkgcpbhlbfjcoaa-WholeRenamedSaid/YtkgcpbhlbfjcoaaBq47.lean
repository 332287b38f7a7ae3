/-
  names.Check: contract.
-/
import Derived.Test.YtkgcpbhlbfjcoaaBq16
import Derived.Test.YtkgcpbhlbfjcoaaBq35
import Derived.Test.YtkgcpbhlbfjcoaaBq46
namespace Go.Proofs.Ytkgcpbhlbfjcoaa
open Go.RowKit Go.WideShapes Go.Maps
attribute [local go_sem] Oper.semAt_some wide_fn wide_depth wide_fn' wide_depth'

set_option maxRecDepth 100000 in
set_option maxHeartbeats 8000000 in
theorem nCheck_any (d : DefD) (cs : List Value) (sa : Option Addr) (sc : Nat) (w : World) (h : DefR w cs d sa sc) (hsm : SmallD d) (hrl : (refsF d.steps 0 d.steps).length ≤ 10000) (hok : ∀ x ∈ chkN d, OkG x) :
    Calls Try.prog 54 #[.agg cs.toArray] w fun e w' => ∃ va vc, e = .returned (.slice va (sortD (chkN d)).length vc) ∧ DgR w' (.slice va (sortD (chkN d)).length vc) (sortD (chkN d)) ∧ Below w.heap.size w w' := by
  have hlen := hsm.steps
  have hdn := hsm.name
  have HSM := Lib.hid hsm.each
  clear hsm
  obtain ⟨rfl, hna, hta, hva⟩ := h
  obtain ⟨_, _, he1, hl1, hl2⟩ := hva.form
  cases he1
  obtain ⟨gbl, g0, g1, g2, hsz⟩ := alloc3o w (.cells #[.string d.name, .string d.text, .slice sa d.steps.length sc] 24) (.cells #[.slice none 0 0] 97) (.cells #[(.func (.func 86) #[] #[.pointer (some ⟨w.heap.size + 1, 0, none⟩)])] 140)
  have h2 : StW w (((w.alloc (.cells #[.string d.name, .string d.text, .slice sa d.steps.length sc] 24)).alloc (.cells #[.slice none 0 0] 97)).alloc (.cells #[(.func (.func 86) #[] #[.pointer (some ⟨w.heap.size + 1, 0, none⟩)])] 140)) w.heap.size #[.string d.name, .string d.text, .slice sa d.steps.length sc] (.func (.func 86) #[] #[.pointer (some ⟨w.heap.size + 1, 0, none⟩)]) none 0 ([]) := ⟨⟨g1, OwnG.nil _ _⟩, g2, g0, gbl⟩
  obtain ⟨p0, p1, p2, -, -, -⟩ := cells3h (World.alloc_heap_new w (.cells #[.string d.name, .string d.text, .slice sa d.steps.length sc] 24))
  have HVA := Lib.hid hva
  have HATX : Hid (∀ t ∈ d.steps, ∀ x ∈ t.after, x.size ≤ maxLen) := Lib.hid (fun t ht x hx => Nat.le_trans ((HSM.out t ht).aft x hx) (by unfold maxLen; omega))
  have HOKK := Lib.hid hok
  have H2 := Lib.hid h2
  clear hva hok gbl g0 g1 g2 h2
  refine (callsIn_wide (n := 0)).1 ?_
  refine callsIn_of_wp_marks Try.func54 rfl trivial ?_ rfl
  simp only [Try.ntmps54, List.size_toArray, List.length_cons, List.length_nil, Nat.reduceAdd, Nat.reduceSub, Array.replicate_succ, Array.replicate_zero, List.push_toArray, List.append_toArray, List.nil_append, List.cons_append]
  gi_upto_region 3 with fail
  generalize (((w.alloc (.cells #[.string d.name, .string d.text, .slice sa d.steps.length sc] 24)).alloc (.cells #[.slice none 0 0] 97)).alloc (.cells #[(.func (.func 86) #[] #[.pointer (some ⟨w.heap.size + 1, 0, none⟩)])] 140)) = w2 at *
  clear p0 p1 p2
  obtain ⟨p0, p1, p2, -, -, -⟩ := cells3h H2.out.dfb
  have qn := H2.out.ncell
  have HE : Hid (headN d = noteL (noteL [] ((d.steps.length : Int) == 0) (-1, 17, { data := #[] })) (!rightB d.name) (-1, 18, d.name)) := Lib.hid (by
    unfold headN
    have : ((d.steps.length : Int) == 0) = decide (d.steps.length = 0) := by rw [Bool.eq_iff_iff]; simp
    rw [this]
    rfl)
  have HCK : Hid (chkN d = refsN d.steps [] (refsF d.steps 0 d.steps) (stepsN d.steps 0 d.steps (headN d))) := Lib.hid rfl
  gi_wp2_with fail
  generalize ((d.steps.length : Int) == 0) = eb at *
  refine (callsIn_wide.2 (nnote_any eb (-1) 17 { data := #[] } [] (w.heap.size + 1) 0 none w2 H2.out.out (by simp))).mono ?_
  rintro e w3 ⟨rfl, hnt⟩
  obtain ⟨va3, vc3, h3, -⟩ := H2.out.noted hnt
  have hl3 : (noteL [] eb (-1, 17, { data := #[] })).length ≤ 1 := noteL_len _ _ _
  have H3 := Lib.hid h3
  clear hnt h3 p0 p1 p2 qn H2 hsz
  generalize noteL [] eb (-1, 17, { data := #[] }) = l3 at *
  obtain ⟨p0, p1, p2, -, -, -⟩ := cells3h H3.out.dfb
  have qn := H3.out.ncell
  generalize hrb : rightB d.name = rb at *
  gi_upto_region 4 with fail
  refine E_regionW (S := (fun W => W.cell? ⟨w.heap.size + 1 + 1, 0, none⟩ = some (.func (.func 86) #[] #[.pointer (some ⟨w.heap.size + 1, 0, none⟩)]) ∧ W.cell? ⟨w.heap.size, 0, none⟩ = some (.string d.name))) 7 (by kernel_rfl) (by kernel_rfl) ⟨qn, p0⟩ (fun Q' hQ hK' hHeld => ?_)
  refine E_take hQ hHeld 0 (v := ?ev1) rfl rfl (by kernel_rfl) (by kernel_rfl) (by kernel_rfl) (by kernel_rfl) (by kernel_rfl) (by rfl) ?ey1 ?er1
  case ey1 => (intro w hSw; (try dsimp only at hSw); go_simp; (try with_reducible rfl))
  (try simp only [Act.put, List.setIfInBounds_toArray, List.set_cons_zero, List.set_cons_succ])
  refine E_take0 hQ (fun _ => hHeld) 1 (v := ?ev2) rfl rfl (by kernel_rfl) (by kernel_rfl) (by kernel_rfl) (by decide) (by rfl) ?ey2 ?er2
  case ey2 => (intro w; go_simp; (try with_reducible rfl))
  (try simp only [Act.put, List.setIfInBounds_toArray, List.set_cons_zero, List.set_cons_succ])
  refine E_take hQ hHeld 2 (v := ?ev3) rfl rfl (by kernel_rfl) (by kernel_rfl) (by kernel_rfl) (by kernel_rfl) (by kernel_rfl) (by rfl) ?ey3 ?er3
  case ey3 => (intro w hSw; (try dsimp only at hSw); go_simp; (try with_reducible rfl))
  (try simp only [Act.put, List.setIfInBounds_toArray, List.set_cons_zero, List.set_cons_succ])
  refine E_take0 hQ (fun _ => hHeld) 5 (v := ?ev4) rfl rfl (by kernel_rfl) (by kernel_rfl) (by kernel_rfl) (by decide) (by rfl) ?ey4 ?er4
  case ey4 => (intro w; go_simp; (try with_reducible rfl))
  (try simp only [Act.put, List.setIfInBounds_toArray, List.set_cons_zero, List.set_cons_succ])
  refine E_take hQ hHeld 6 (v := ?ev5) rfl rfl (by kernel_rfl) (by kernel_rfl) (by kernel_rfl) (by kernel_rfl) (by kernel_rfl) (by rfl) ?ey5 ?er5
  case ey5 => (intro w hSw; (try dsimp only at hSw); go_simp; (try with_reducible rfl))
  (try simp only [Act.put, List.setIfInBounds_toArray, List.set_cons_zero, List.set_cons_succ])
  refine E_one 3 (by kernel_rfl) rfl (by rfl) (fun K hK => ?_)
  go_simp
  refine (nRight_any d.name _ (by omega)).mono ?_
  rw [hrb]
  rintro e W3 ⟨rfl, rfl⟩
  (skip)
  refine hK.out _ _ (fun _ _ => hHeld) (fun hHeld' => ?_)
  replace hHeld := hHeld' (by rfl) (by decide)
  clear hK hHeld'
  (try simp only [Act.put, List.setIfInBounds_toArray, List.set_cons_zero, List.set_cons_succ])
  refine E_take0 hQ (fun _ => hHeld) 4 (v := ?ev6) rfl rfl (by kernel_rfl) (by kernel_rfl) (by kernel_rfl) (by decide) (by rfl) ?ey6 ?er6
  case ey6 => (intro w; go_simp; (try with_reducible rfl))
  (try simp only [Act.put, List.setIfInBounds_toArray, List.set_cons_zero, List.set_cons_succ])
  refine E_one 7 (by kernel_rfl) rfl (by rfl) (fun K hK => ?_)
  go_simp
  refine (nnote_any (!rb) (-1) 18 d.name _ (w.heap.size + 1) _ _ _ (H3.out.drew.out) (by omega)).mono ?_
  rintro e W7 ⟨rfl, hnt⟩
  have HNT := Lib.hid hnt
  clear hnt
  (skip)
  refine hK.out _ _ (fun _ h => absurd rfl h) (fun _ => ?_)
  clear hK hHeld
  (try simp only [Act.put, List.setIfInBounds_toArray, List.set_cons_zero, List.set_cons_succ])
  refine E_done (by kernel_rfl) ?_ _
  refine hK'.out _ _ ?_
  obtain ⟨va4, vc4, h4, -⟩ := H3.out.drew.noted HNT.out
  have hl4 : (headN d).length ≤ 2 := headN_len d
  have h4b : StW w W7 w.heap.size #[.string d.name, .string d.text, .slice sa d.steps.length sc] (.func (.func 86) #[] #[.pointer (some ⟨w.heap.size + 1, 0, none⟩)]) va4 vc4 (headN d) := by rw [HE.out]; exact h4
  have H4 := Lib.hid h4b
  clear HE HNT h4 h4b H3 hl3 p0 p1 p2 qn hK' hQ
  generalize headN d = l4 at *
  gi_upto_region 5 with fail
  obtain ⟨p0, p1, p2, -, -, -⟩ := cells3h H4.out.dfb
  have hdw : DefR W7 [.string d.name, .string d.text, .slice sa d.steps.length sc] d sa sc := ⟨rfl, hna, hta, HVA.out.below H4.out.low⟩
  gi_wp2_with fail
  refine (callsIn_wide.2 (places_any d _ sa sc W7 hdw (by omega))).mono ?_
  rintro e w5 ⟨M, nM, rfl, hM, hm5, hb5⟩
  have H5 := Lib.hid (H4.out.below hb5)
  have HM5 := Lib.hid hm5
  have hMn : w.heap.size + 1 + 1 < M := Nat.lt_of_lt_of_le H4.out.nlt hM
  clear hdw hm5 hb5 hM H4 p0 p1 p2
  obtain ⟨p0, p1, p2, -, -, -⟩ := cells3h H5.out.dfb
  gi_wp2_with fail
  clear p0 p1 p2
  gi_loopg [30] (d.steps.length + 1) (fun gk i wr => ∃ (k : Nat) (va : Option Addr) (vc : Nat), k + gk = d.steps.length + 1 ∧ k ≤ d.steps.length ∧ i = .int .i64 k ∧ Hid (StW w wr w.heap.size #[.string d.name, .string d.text, .slice sa d.steps.length sc] (.func (.func 86) #[] #[.pointer (some ⟨w.heap.size + 1, 0, none⟩)]) va vc (stepsN d.steps 0 (d.steps.take k) l4)) ∧ Hid (MapO Try.prog 9 3 Value.string wr M nM (plN d.steps)))
  case atStart => exact ⟨0, _, _, by omega, by omega, rfl, H5, HM5⟩
  case round =>
    obtain ⟨k, va0, vc0, hgk, hk, rfl, HST, HMP⟩ := hrel
    have hg : gk = d.steps.length + 1 - k := by omega
    subst hg
    rename World => wr
    obtain ⟨p0, p1, p2, -, -, -⟩ := cells3h HST.out.dfb
    have hcl0 := stepsN_len d.steps (d.steps.take k) 0 l4
    simp only [List.length_take] at hcl0
    by_cases hkl : k < d.steps.length
    · have d1 : decide ((k : Int) < (d.steps.length : Int)) = true := decide_eq_true (by omega)
      have hk1 : (k : Int) < (d.steps.length : Int) := by omega
      obtain ⟨g, off, cap, aa1, ac1, ka1, kc1, ba1, bc1, he, q1, q2, hns0, z0, z1, z2, z3, z4, z5, z6, z7, z8, z9, z10, z11, z12⟩ := (HVA.out.below HST.out.low).at hkl
      cases he
      have HCS : Hid (stepsN d.steps 0 (d.steps.take (k + 1)) l4 = stepN d.steps k d.steps[k] (stepsN d.steps 0 (d.steps.take k) l4)) := Lib.hid (by rw [take_succ_getS hkl, stepsN_snoc, List.length_take, Nat.min_eq_left hk, Nat.zero_add])
      have hnm := hns0.ok.name
      have hss := HSM.out _ (List.getElem_mem hkl)
      have hs1 := hss.name
      have hs2 := hss.action
      have hs3 := hss.undo
      have hix := plN_get hkl
      clear hns0 hss
      generalize d.steps[k] = s at *
      have hl0 : (stepsN d.steps 0 (d.steps.take k) l4).length ≤ 1000 := by omega
      clear hcl0
      generalize hll0 : stepsN d.steps 0 (d.steps.take k) l4 = l0 at *
      gi_upto_region 9 with fail
      have hT := World.alloc_heap_new wr (.cells #[.string s.name, .string s.action, .string s.undo, .slice aa1 s.after.length ac1, .int .i64 s.most, .int .i64 s.first, .int .i64 s.factor, .int .i64 s.limit, .int .u8 (s.note.kind : Int), .string s.note.text, .slice ka1 s.note.keys.length kc1, .slice ba1 s.note.kids.length bc1, .int .i64 s.note.line] 45)
      have hTg : w.heap.size + 1 + 1 < wr.heap.size := HST.out.nlt
      have hbT : Below wr.heap.size wr (wr.alloc (.cells #[.string s.name, .string s.action, .string s.undo, .slice aa1 s.after.length ac1, .int .i64 s.most, .int .i64 s.first, .int .i64 s.factor, .int .i64 s.limit, .int .u8 (s.note.kind : Int), .string s.note.text, .slice ka1 s.note.keys.length kc1, .slice ba1 s.note.kids.length bc1, .int .i64 s.note.line] 45)) := (Below.refl _ _).alloc (Nat.le_refl _) _
      have H8 := Lib.hid (HST.out.below hbT)
      have HM8 := Lib.hid (HMP.out.alloc (.cells #[.string s.name, .string s.action, .string s.undo, .slice aa1 s.after.length ac1, .int .i64 s.most, .int .i64 s.first, .int .i64 s.factor, .int .i64 s.limit, .int .u8 (s.note.kind : Int), .string s.note.text, .slice ka1 s.note.keys.length kc1, .slice ba1 s.note.kids.length bc1, .int .i64 s.note.line] 45))
      have HCS2 : Hid (stepsN d.steps 0 (d.steps.take (k + 1)) l4 = noteL (noteL (noteL (noteL l0 (!rightB s.name) ((k : Int), 18, s.name)) (!rightB s.action) ((k : Int), 18, s.action)) (!s.undo.toList.isEmpty && !rightB s.undo) ((k : Int), 18, s.undo)) (decide (idxStep d.steps s.name 0 < (k : Int))) ((k : Int), 6, s.name)) := HCS
      generalize (wr.alloc (.cells #[.string s.name, .string s.action, .string s.undo, .slice aa1 s.after.length ac1, .int .i64 s.most, .int .i64 s.first, .int .i64 s.factor, .int .i64 s.limit, .int .u8 (s.note.kind : Int), .string s.note.text, .slice ka1 s.note.keys.length kc1, .slice ba1 s.note.kids.length bc1, .int .i64 s.note.line] 45)) = w8 at *
      generalize wr.heap.size = T at *
      clear z0 z1 z2 z3 z4 z5 z6 z7 z8 z9 z10 z11 z12 p0 p1 p2 hbT HST HMP HCS
      have HT8 := Lib.hid hT
      obtain ⟨z0, z1, z2, -⟩ := cells13q hT
      clear hT
      generalize hr1 : rightB s.name = r1 at *
      generalize hr2 : rightB s.action = r2 at *
      generalize hr3 : rightB s.undo = r3 at *
      generalize hue : s.undo.toList.isEmpty = ue at *
      generalize hii : idxStep d.steps s.name 0 = ix at *
      have qn := H8.out.ncell
      refine E_regionW (S := (fun W => W.cell? ⟨w.heap.size + 1 + 1, 0, none⟩ = some (.func (.func 86) #[] #[.pointer (some ⟨w.heap.size + 1, 0, none⟩)]) ∧ W.cell? ⟨T, 0, none⟩ = some (.string s.name))) 8 (by kernel_rfl) (by kernel_rfl) ⟨qn, z0⟩ (fun Q' hQ hK' hHeld => ?_)
      refine E_take hQ hHeld 0 (v := ?f9v1) rfl rfl (by kernel_rfl) (by kernel_rfl) (by kernel_rfl) (by kernel_rfl) (by kernel_rfl) (by rfl) ?f9y1 ?f9r1
      case f9y1 => (intro w hSw; (try dsimp only at hSw); go_simp; (try with_reducible rfl))
      (try simp only [Act.put, List.setIfInBounds_toArray, List.set_cons_zero, List.set_cons_succ])
      refine E_take0 hQ (fun _ => hHeld) 1 (v := ?f9v2) rfl rfl (by kernel_rfl) (by kernel_rfl) (by kernel_rfl) (by decide) (by rfl) ?f9y2 ?f9r2
      case f9y2 => (intro w; go_simp; (try with_reducible rfl))
      (try simp only [Act.put, List.setIfInBounds_toArray, List.set_cons_zero, List.set_cons_succ])
      refine E_take hQ hHeld 2 (v := ?f9v3) rfl rfl (by kernel_rfl) (by kernel_rfl) (by kernel_rfl) (by kernel_rfl) (by kernel_rfl) (by rfl) ?f9y3 ?f9r3
      case f9y3 => (intro w hSw; (try dsimp only at hSw); go_simp; (try with_reducible rfl))
      (try simp only [Act.put, List.setIfInBounds_toArray, List.set_cons_zero, List.set_cons_succ])
      refine E_take0 hQ (fun _ => hHeld) 5 (v := ?f9v4) rfl rfl (by kernel_rfl) (by kernel_rfl) (by kernel_rfl) (by decide) (by rfl) ?f9y4 ?f9r4
      case f9y4 => (intro w; go_simp; (try with_reducible rfl))
      (try simp only [Act.put, List.setIfInBounds_toArray, List.set_cons_zero, List.set_cons_succ])
      refine E_take0 hQ (fun _ => hHeld) 6 (v := ?f9v5) rfl rfl (by kernel_rfl) (by kernel_rfl) (by kernel_rfl) (by decide) (by rfl) ?f9y5 ?f9r5
      case f9y5 => (intro w; go_simp; (try with_reducible rfl))
      (try simp only [Act.put, List.setIfInBounds_toArray, List.set_cons_zero, List.set_cons_succ])
      refine E_take hQ hHeld 7 (v := ?f9v6) rfl rfl (by kernel_rfl) (by kernel_rfl) (by kernel_rfl) (by kernel_rfl) (by kernel_rfl) (by rfl) ?f9y6 ?f9r6
      case f9y6 => (intro w hSw; (try dsimp only at hSw); go_simp; (try with_reducible rfl))
      (try simp only [Act.put, List.setIfInBounds_toArray, List.set_cons_zero, List.set_cons_succ])
      refine E_one 3 (by kernel_rfl) rfl (by rfl) (fun K hK => ?_)
      go_simp
      refine (nRight_any s.name _ (by omega)).mono ?_
      rw [hr1]
      rintro e W93 ⟨rfl, rfl⟩
      (skip)
      refine hK.out _ _ (fun _ _ => hHeld) (fun hHeld' => ?_)
      replace hHeld := hHeld' (by rfl) (by decide)
      clear hK hHeld'
      (try simp only [Act.put, List.setIfInBounds_toArray, List.set_cons_zero, List.set_cons_succ])
      refine E_take0 hQ (fun _ => hHeld) 4 (v := ?f9v7) rfl rfl (by kernel_rfl) (by kernel_rfl) (by kernel_rfl) (by decide) (by rfl) ?f9y7 ?f9r7
      case f9y7 => (intro w; go_simp; (try with_reducible rfl))
      (try simp only [Act.put, List.setIfInBounds_toArray, List.set_cons_zero, List.set_cons_succ])
      refine E_one 8 (by kernel_rfl) rfl (by rfl) (fun K hK => ?_)
      go_simp
      refine (nnote_any (!r1) (k : Int) 18 s.name _ (w.heap.size + 1) _ _ _ (H8.out.drew.out) (by omega)).mono ?_
      rintro e W98 ⟨rfl, hnt⟩
      have HNT := Lib.hid hnt
      clear hnt
      (skip)
      refine hK.out _ _ (fun _ h => absurd rfl h) (fun _ => ?_)
      clear hK hHeld
      (try simp only [Act.put, List.setIfInBounds_toArray, List.set_cons_zero, List.set_cons_succ])
      refine E_done (by kernel_rfl) ?_ _
      refine hK'.out _ _ ?_
      obtain ⟨va9, vc9, h9, -, -, hs9, hk9⟩ := H8.out.drew.noted HNT.out
      have HT9 := Lib.hid (hk9 T _ _ _ HT8.out (by decide) (by omega))
      have HM9 := Lib.hid (H8.out.drew.map hs9 HM8.out.drew)
      have H9 := Lib.hid h9
      clear h9 hs9 hk9 HNT hK' hQ
      have hl9 : (noteL l0 (!r1) ((k : Int), 18, s.name)).length ≤ 1001 := Nat.le_trans (noteL_len _ _ _) (by omega)
      generalize noteL l0 (!r1) ((k : Int), 18, s.name) = l9 at *
      clear H8 HM8 HT8 z0 z1 z2 qn
      obtain ⟨z0, z1, z2, -⟩ := cells13q HT9.out
      have qn := H9.out.ncell
      gi_upto_region 10 with fail
      refine E_regionW (S := (fun W => W.cell? ⟨w.heap.size + 1 + 1, 0, none⟩ = some (.func (.func 86) #[] #[.pointer (some ⟨w.heap.size + 1, 0, none⟩)]) ∧ W.cell? ⟨T, 1, none⟩ = some (.string s.action))) 8 (by kernel_rfl) (by kernel_rfl) ⟨qn, z1⟩ (fun Q' hQ hK' hHeld => ?_)
      refine E_take hQ hHeld 0 (v := ?f10v1) rfl rfl (by kernel_rfl) (by kernel_rfl) (by kernel_rfl) (by kernel_rfl) (by kernel_rfl) (by rfl) ?f10y1 ?f10r1
      case f10y1 => (intro w hSw; (try dsimp only at hSw); go_simp; (try with_reducible rfl))
      (try simp only [Act.put, List.setIfInBounds_toArray, List.set_cons_zero, List.set_cons_succ])
      refine E_take0 hQ (fun _ => hHeld) 1 (v := ?f10v2) rfl rfl (by kernel_rfl) (by kernel_rfl) (by kernel_rfl) (by decide) (by rfl) ?f10y2 ?f10r2
      case f10y2 => (intro w; go_simp; (try with_reducible rfl))
      (try simp only [Act.put, List.setIfInBounds_toArray, List.set_cons_zero, List.set_cons_succ])
      refine E_take hQ hHeld 2 (v := ?f10v3) rfl rfl (by kernel_rfl) (by kernel_rfl) (by kernel_rfl) (by kernel_rfl) (by kernel_rfl) (by rfl) ?f10y3 ?f10r3
      case f10y3 => (intro w hSw; (try dsimp only at hSw); go_simp; (try with_reducible rfl))
      (try simp only [Act.put, List.setIfInBounds_toArray, List.set_cons_zero, List.set_cons_succ])
      refine E_take0 hQ (fun _ => hHeld) 5 (v := ?f10v4) rfl rfl (by kernel_rfl) (by kernel_rfl) (by kernel_rfl) (by decide) (by rfl) ?f10y4 ?f10r4
      case f10y4 => (intro w; go_simp; (try with_reducible rfl))
      (try simp only [Act.put, List.setIfInBounds_toArray, List.set_cons_zero, List.set_cons_succ])
      refine E_take0 hQ (fun _ => hHeld) 6 (v := ?f10v5) rfl rfl (by kernel_rfl) (by kernel_rfl) (by kernel_rfl) (by decide) (by rfl) ?f10y5 ?f10r5
      case f10y5 => (intro w; go_simp; (try with_reducible rfl))
      (try simp only [Act.put, List.setIfInBounds_toArray, List.set_cons_zero, List.set_cons_succ])
      refine E_take hQ hHeld 7 (v := ?f10v6) rfl rfl (by kernel_rfl) (by kernel_rfl) (by kernel_rfl) (by kernel_rfl) (by kernel_rfl) (by rfl) ?f10y6 ?f10r6
      case f10y6 => (intro w hSw; (try dsimp only at hSw); go_simp; (try with_reducible rfl))
      (try simp only [Act.put, List.setIfInBounds_toArray, List.set_cons_zero, List.set_cons_succ])
      refine E_one 3 (by kernel_rfl) rfl (by rfl) (fun K hK => ?_)
      go_simp
      refine (nRight_any s.action _ (by omega)).mono ?_
      rw [hr2]
      rintro e W103 ⟨rfl, rfl⟩
      (skip)
      refine hK.out _ _ (fun _ _ => hHeld) (fun hHeld' => ?_)
      replace hHeld := hHeld' (by rfl) (by decide)
      clear hK hHeld'
      (try simp only [Act.put, List.setIfInBounds_toArray, List.set_cons_zero, List.set_cons_succ])
      refine E_take0 hQ (fun _ => hHeld) 4 (v := ?f10v7) rfl rfl (by kernel_rfl) (by kernel_rfl) (by kernel_rfl) (by decide) (by rfl) ?f10y7 ?f10r7
      case f10y7 => (intro w; go_simp; (try with_reducible rfl))
      (try simp only [Act.put, List.setIfInBounds_toArray, List.set_cons_zero, List.set_cons_succ])
      refine E_one 8 (by kernel_rfl) rfl (by rfl) (fun K hK => ?_)
      go_simp
      refine (nnote_any (!r2) (k : Int) 18 s.action _ (w.heap.size + 1) _ _ _ (H9.out.drew.out) (by omega)).mono ?_
      rintro e W108 ⟨rfl, hnt⟩
      have HNT := Lib.hid hnt
      clear hnt
      (skip)
      refine hK.out _ _ (fun _ h => absurd rfl h) (fun _ => ?_)
      clear hK hHeld
      (try simp only [Act.put, List.setIfInBounds_toArray, List.set_cons_zero, List.set_cons_succ])
      refine E_done (by kernel_rfl) ?_ _
      refine hK'.out _ _ ?_
      obtain ⟨va10, vc10, h10, -, -, hs10, hk10⟩ := H9.out.drew.noted HNT.out
      have HT10 := Lib.hid (hk10 T _ _ _ HT9.out (by decide) (by omega))
      have HM10 := Lib.hid (H9.out.drew.map hs10 HM9.out.drew)
      have H10 := Lib.hid h10
      clear h10 hs10 hk10 HNT hK' hQ
      have hl10 : (noteL l9 (!r2) ((k : Int), 18, s.action)).length ≤ 1002 := Nat.le_trans (noteL_len _ _ _) (by omega)
      generalize noteL l9 (!r2) ((k : Int), 18, s.action) = l10 at *
      clear H9 HM9 HT9 z0 z1 z2 qn
      obtain ⟨z0, z1, z2, -⟩ := cells13q HT10.out
      have qn := H10.out.ncell
      gi_upto_region 11 with fail
      cases ue with
      | true =>
        refine E_regionW (S := (fun W => W.cell? ⟨w.heap.size + 1 + 1, 0, none⟩ = some (.func (.func 86) #[] #[.pointer (some ⟨w.heap.size + 1, 0, none⟩)]) ∧ W.cell? ⟨T, 2, none⟩ = some (.string s.undo))) 13 (by kernel_rfl) (by kernel_rfl) ⟨qn, z2⟩ (fun Q' hQ hK' hHeld => ?_)
        refine E_take hQ hHeld 0 (v := ?f11v1) rfl rfl (by kernel_rfl) (by kernel_rfl) (by kernel_rfl) (by kernel_rfl) (by kernel_rfl) (by rfl) ?f11y1 ?f11r1
        case f11y1 => (intro w hSw; (try dsimp only at hSw); go_simp; (try with_reducible rfl))
        (try simp only [Act.put, List.setIfInBounds_toArray, List.set_cons_zero, List.set_cons_succ])
        refine E_take0 hQ (fun _ => hHeld) 1 (v := ?f11v2) rfl rfl (by kernel_rfl) (by kernel_rfl) (by kernel_rfl) (by decide) (by rfl) ?f11y2 ?f11r2
        case f11y2 => (intro w; go_simp; (try with_reducible rfl))
        (try simp only [Act.put, List.setIfInBounds_toArray, List.set_cons_zero, List.set_cons_succ])
        refine E_take hQ hHeld 2 (v := ?f11v3) rfl rfl (by kernel_rfl) (by kernel_rfl) (by kernel_rfl) (by kernel_rfl) (by kernel_rfl) (by rfl) ?f11y3 ?f11r3
        case f11y3 => (intro w hSw; (try dsimp only at hSw); go_simp; (try with_reducible rfl))
        (try simp only [Act.put, List.setIfInBounds_toArray, List.set_cons_zero, List.set_cons_succ])
        refine E_take0 hQ (fun _ => hHeld) 3 (v := ?f11v4) rfl rfl (by kernel_rfl) (by kernel_rfl) (by kernel_rfl) (by decide) (by rfl) ?f11y4 ?f11r4
        case f11y4 => (intro w; go_simp; (try with_reducible rfl))
        (try simp only [Act.put, List.setIfInBounds_toArray, List.set_cons_zero, List.set_cons_succ])
        refine E_take0 hQ (fun _ => hHeld) 4 (v := ?f11v5) rfl rfl (by kernel_rfl) (by kernel_rfl) (by kernel_rfl) (by decide) (by rfl) ?f11y5 ?f11r5
        case f11y5 => (intro w; go_simp; (try with_reducible rfl))
        (try simp only [Act.put, List.setIfInBounds_toArray, List.set_cons_zero, List.set_cons_succ])
        refine E_off hQ (fun _ => hHeld) 5 rfl rfl (by kernel_rfl) (by kernel_rfl) (by kernel_rfl) (by decide) (by rfl) ?_
        (try simp only [Act.put, List.setIfInBounds_toArray, List.set_cons_zero, List.set_cons_succ])
        refine E_off hQ (fun _ => hHeld) 6 rfl rfl (by kernel_rfl) (by kernel_rfl) (by kernel_rfl) (by decide) (by rfl) ?_
        (try simp only [Act.put, List.setIfInBounds_toArray, List.set_cons_zero, List.set_cons_succ])
        refine E_off hQ (fun _ => hHeld) 7 rfl rfl (by kernel_rfl) (by kernel_rfl) (by kernel_rfl) (by decide) (by rfl) ?_
        (try simp only [Act.put, List.setIfInBounds_toArray, List.set_cons_zero, List.set_cons_succ])
        refine E_off hQ (fun _ => hHeld) 8 rfl rfl (by kernel_rfl) (by kernel_rfl) (by kernel_rfl) (by decide) (by rfl) ?_
        (try simp only [Act.put, List.setIfInBounds_toArray, List.set_cons_zero, List.set_cons_succ])
        refine E_take0 hQ (fun _ => hHeld) 9 (v := ?f11v10) rfl rfl (by kernel_rfl) (by kernel_rfl) (by kernel_rfl) (by decide) (by rfl) ?f11y10 ?f11r10
        case f11y10 => (intro w; go_simp; (try with_reducible rfl))
        (try simp only [Act.put, List.setIfInBounds_toArray, List.set_cons_zero, List.set_cons_succ])
        refine E_take0 hQ (fun _ => hHeld) 10 (v := ?f11v11) rfl rfl (by kernel_rfl) (by kernel_rfl) (by kernel_rfl) (by decide) (by rfl) ?f11y11 ?f11r11
        case f11y11 => (intro w; go_simp; (try with_reducible rfl))
        (try simp only [Act.put, List.setIfInBounds_toArray, List.set_cons_zero, List.set_cons_succ])
        refine E_take0 hQ (fun _ => hHeld) 11 (v := ?f11v12) rfl rfl (by kernel_rfl) (by kernel_rfl) (by kernel_rfl) (by decide) (by rfl) ?f11y12 ?f11r12
        case f11y12 => (intro w; go_simp; (try with_reducible rfl))
        (try simp only [Act.put, List.setIfInBounds_toArray, List.set_cons_zero, List.set_cons_succ])
        refine E_take hQ hHeld 12 (v := ?f11v13) rfl rfl (by kernel_rfl) (by kernel_rfl) (by kernel_rfl) (by kernel_rfl) (by kernel_rfl) (by rfl) ?f11y13 ?f11r13
        case f11y13 => (intro w hSw; (try dsimp only at hSw); go_simp; (try with_reducible rfl))
        (try simp only [Act.put, List.setIfInBounds_toArray, List.set_cons_zero, List.set_cons_succ])
        refine E_one 13 (by kernel_rfl) rfl (by rfl) (fun K hK => ?_)
        go_simp
        refine (nnote_any false (k : Int) 18 s.undo _ (w.heap.size + 1) _ _ _ (H10.out.drew.out) (by omega)).mono ?_
        rintro e W118 ⟨rfl, hnt⟩
        have HNT := Lib.hid hnt
        clear hnt
        (skip)
        refine hK.out _ _ (fun _ h => absurd rfl h) (fun _ => ?_)
        clear hK hHeld
        (try simp only [Act.put, List.setIfInBounds_toArray, List.set_cons_zero, List.set_cons_succ])
        refine E_done (by kernel_rfl) ?_ _
        refine hK'.out _ _ ?_
        obtain ⟨va11, vc11, h11, -, -, hs11, hk11⟩ := H10.out.drew.noted HNT.out
        have HT11 := Lib.hid (hk11 T _ _ _ HT10.out (by decide) (by omega))
        have HM11 := Lib.hid (H10.out.drew.map hs11 HM10.out.drew)
        have H11 := Lib.hid h11
        clear h11 hs11 hk11 HNT hK' hQ
        have hl11 : (noteL l10 (!true && !r3) ((k : Int), 18, s.undo)).length ≤ 1003 := Nat.le_trans (noteL_len _ _ _) (by omega)
        have H11' : Hid (StW w W118 w.heap.size #[.string d.name, .string d.text, (.slice (some ⟨g, off, none⟩) d.steps.length sc)] (.func (.func 86) #[] #[.pointer (some ⟨w.heap.size + 1, 0, none⟩)]) va11 vc11 (noteL l10 (!true && !r3) ((k : Int), 18, s.undo))) := H11
        clear H10 HM10 HT10 z0 z1 z2 qn H11
        generalize noteL l10 (!true && !r3) ((k : Int), 18, s.undo) = l11 at *
        have qn := H11'.out.ncell
        obtain ⟨z0, z1, z2, -⟩ := cells13q HT11.out
        have hlk := HM11.out.look Try.keyText hnm
        rw [hix] at hlk
        gi_wp2_with fail
        refine (callsIn_wide.2 (nnote_any (decide (ix < (k : Int))) (k : Int) 6 s.name l11 (w.heap.size + 1) _ _ _ H11'.out.out (by omega))).mono ?_
        rintro e w12 ⟨rfl, hnt⟩
        obtain ⟨va12, vc12, h12, -, -, hs12, -⟩ := H11'.out.noted hnt
        have HM12 := Lib.hid (H11'.out.map hs12 HM11.out)
        rw [← HCS2.out] at h12
        have H12 := Lib.hid h12
        clear h12 hnt hs12 hlk z0 z1 z2 qn H11' HM11 HT11 HCS2
        gi_wp2_with fail
        gi_roundg (d.steps.length + 1 - (k + 1))
        case measure => omega
        case rel => exact ⟨k + 1, va12, vc12, by omega, by omega, by go_num, H12, HM12⟩
      | false =>
        refine E_regionW (S := (fun W => W.cell? ⟨w.heap.size + 1 + 1, 0, none⟩ = some (.func (.func 86) #[] #[.pointer (some ⟨w.heap.size + 1, 0, none⟩)]) ∧ W.cell? ⟨T, 2, none⟩ = some (.string s.undo))) 13 (by kernel_rfl) (by kernel_rfl) ⟨qn, z2⟩ (fun Q' hQ hK' hHeld => ?_)
        refine E_take hQ hHeld 0 (v := ?f12v1) rfl rfl (by kernel_rfl) (by kernel_rfl) (by kernel_rfl) (by kernel_rfl) (by kernel_rfl) (by rfl) ?f12y1 ?f12r1
        case f12y1 => (intro w hSw; (try dsimp only at hSw); go_simp; (try with_reducible rfl))
        (try simp only [Act.put, List.setIfInBounds_toArray, List.set_cons_zero, List.set_cons_succ])
        refine E_take0 hQ (fun _ => hHeld) 1 (v := ?f12v2) rfl rfl (by kernel_rfl) (by kernel_rfl) (by kernel_rfl) (by decide) (by rfl) ?f12y2 ?f12r2
        case f12y2 => (intro w; go_simp; (try with_reducible rfl))
        (try simp only [Act.put, List.setIfInBounds_toArray, List.set_cons_zero, List.set_cons_succ])
        refine E_take hQ hHeld 2 (v := ?f12v3) rfl rfl (by kernel_rfl) (by kernel_rfl) (by kernel_rfl) (by kernel_rfl) (by kernel_rfl) (by rfl) ?f12y3 ?f12r3
        case f12y3 => (intro w hSw; (try dsimp only at hSw); go_simp; (try with_reducible rfl))
        (try simp only [Act.put, List.setIfInBounds_toArray, List.set_cons_zero, List.set_cons_succ])
        refine E_take0 hQ (fun _ => hHeld) 3 (v := ?f12v4) rfl rfl (by kernel_rfl) (by kernel_rfl) (by kernel_rfl) (by decide) (by rfl) ?f12y4 ?f12r4
        case f12y4 => (intro w; go_simp; (try with_reducible rfl))
        (try simp only [Act.put, List.setIfInBounds_toArray, List.set_cons_zero, List.set_cons_succ])
        refine E_take0 hQ (fun _ => hHeld) 4 (v := ?f12v5) rfl rfl (by kernel_rfl) (by kernel_rfl) (by kernel_rfl) (by decide) (by rfl) ?f12y5 ?f12r5
        case f12y5 => (intro w; go_simp; (try with_reducible rfl))
        (try simp only [Act.put, List.setIfInBounds_toArray, List.set_cons_zero, List.set_cons_succ])
        refine E_take0 hQ (fun _ => hHeld) 5 (v := ?f12v6) rfl rfl (by kernel_rfl) (by kernel_rfl) (by kernel_rfl) (by decide) (by rfl) ?f12y6 ?f12r6
        case f12y6 => (intro w; go_simp; (try with_reducible rfl))
        (try simp only [Act.put, List.setIfInBounds_toArray, List.set_cons_zero, List.set_cons_succ])
        refine E_take hQ hHeld 6 (v := ?f12v7) rfl rfl (by kernel_rfl) (by kernel_rfl) (by kernel_rfl) (by kernel_rfl) (by kernel_rfl) (by rfl) ?f12y7 ?f12r7
        case f12y7 => (intro w hSw; (try dsimp only at hSw); go_simp; (try with_reducible rfl))
        (try simp only [Act.put, List.setIfInBounds_toArray, List.set_cons_zero, List.set_cons_succ])
        refine E_take0 hQ (fun _ => hHeld) 10 (v := ?f12v8) rfl rfl (by kernel_rfl) (by kernel_rfl) (by kernel_rfl) (by decide) (by rfl) ?f12y8 ?f12r8
        case f12y8 => (intro w; go_simp; (try with_reducible rfl))
        (try simp only [Act.put, List.setIfInBounds_toArray, List.set_cons_zero, List.set_cons_succ])
        refine E_take0 hQ (fun _ => hHeld) 11 (v := ?f12v9) rfl rfl (by kernel_rfl) (by kernel_rfl) (by kernel_rfl) (by decide) (by rfl) ?f12y9 ?f12r9
        case f12y9 => (intro w; go_simp; (try with_reducible rfl))
        (try simp only [Act.put, List.setIfInBounds_toArray, List.set_cons_zero, List.set_cons_succ])
        refine E_take hQ hHeld 12 (v := ?f12v10) rfl rfl (by kernel_rfl) (by kernel_rfl) (by kernel_rfl) (by kernel_rfl) (by kernel_rfl) (by rfl) ?f12y10 ?f12r10
        case f12y10 => (intro w hSw; (try dsimp only at hSw); go_simp; (try with_reducible rfl))
        (try simp only [Act.put, List.setIfInBounds_toArray, List.set_cons_zero, List.set_cons_succ])
        refine E_one 7 (by kernel_rfl) rfl (by rfl) (fun K hK => ?_)
        go_simp
        refine (nRight_any s.undo _ (by omega)).mono ?_
        rw [hr3]
        rintro e W113 ⟨rfl, rfl⟩
        (skip)
        refine hK.out _ _ (fun _ _ => hHeld) (fun hHeld' => ?_)
        replace hHeld := hHeld' (by rfl) (by decide)
        clear hK hHeld'
        (try simp only [Act.put, List.setIfInBounds_toArray, List.set_cons_zero, List.set_cons_succ])
        refine E_take0 hQ (fun _ => hHeld) 8 (v := ?f12v11) rfl rfl (by kernel_rfl) (by kernel_rfl) (by kernel_rfl) (by decide) (by rfl) ?f12y11 ?f12r11
        case f12y11 => (intro w; go_simp; (try with_reducible rfl))
        (try simp only [Act.put, List.setIfInBounds_toArray, List.set_cons_zero, List.set_cons_succ])
        refine E_take0 hQ (fun _ => hHeld) 9 (v := ?f12v12) rfl rfl (by kernel_rfl) (by kernel_rfl) (by kernel_rfl) (by decide) (by rfl) ?f12y12 ?f12r12
        case f12y12 => (intro w; go_simp; (try with_reducible rfl))
        (try simp only [Act.put, List.setIfInBounds_toArray, List.set_cons_zero, List.set_cons_succ])
        refine E_one 13 (by kernel_rfl) rfl (by rfl) (fun K hK => ?_)
        go_simp
        refine (nnote_any (!r3) (k : Int) 18 s.undo _ (w.heap.size + 1) _ _ _ (H10.out.drew.out) (by omega)).mono ?_
        rintro e W118 ⟨rfl, hnt⟩
        have HNT := Lib.hid hnt
        clear hnt
        (skip)
        refine hK.out _ _ (fun _ h => absurd rfl h) (fun _ => ?_)
        clear hK hHeld
        (try simp only [Act.put, List.setIfInBounds_toArray, List.set_cons_zero, List.set_cons_succ])
        refine E_done (by kernel_rfl) ?_ _
        refine hK'.out _ _ ?_
        obtain ⟨va11, vc11, h11, -, -, hs11, hk11⟩ := H10.out.drew.noted HNT.out
        have HT11 := Lib.hid (hk11 T _ _ _ HT10.out (by decide) (by omega))
        have HM11 := Lib.hid (H10.out.drew.map hs11 HM10.out.drew)
        have H11 := Lib.hid h11
        clear h11 hs11 hk11 HNT hK' hQ
        have hl11 : (noteL l10 (!false && !r3) ((k : Int), 18, s.undo)).length ≤ 1003 := Nat.le_trans (noteL_len _ _ _) (by omega)
        have H11' : Hid (StW w W118 w.heap.size #[.string d.name, .string d.text, (.slice (some ⟨g, off, none⟩) d.steps.length sc)] (.func (.func 86) #[] #[.pointer (some ⟨w.heap.size + 1, 0, none⟩)]) va11 vc11 (noteL l10 (!false && !r3) ((k : Int), 18, s.undo))) := H11
        clear H10 HM10 HT10 z0 z1 z2 qn H11
        generalize noteL l10 (!false && !r3) ((k : Int), 18, s.undo) = l11 at *
        have qn := H11'.out.ncell
        obtain ⟨z0, z1, z2, -⟩ := cells13q HT11.out
        have hlk := HM11.out.look Try.keyText hnm
        rw [hix] at hlk
        gi_wp2_with fail
        refine (callsIn_wide.2 (nnote_any (decide (ix < (k : Int))) (k : Int) 6 s.name l11 (w.heap.size + 1) _ _ _ H11'.out.out (by omega))).mono ?_
        rintro e w12 ⟨rfl, hnt⟩
        obtain ⟨va12, vc12, h12, -, -, hs12, -⟩ := H11'.out.noted hnt
        have HM12 := Lib.hid (H11'.out.map hs12 HM11.out)
        rw [← HCS2.out] at h12
        have H12 := Lib.hid h12
        clear h12 hnt hs12 hlk z0 z1 z2 qn H11' HM11 HT11 HCS2
        gi_wp2_with fail
        gi_roundg (d.steps.length + 1 - (k + 1))
        case measure => omega
        case rel => exact ⟨k + 1, va12, vc12, by omega, by omega, by go_num, H12, HM12⟩
    · have d1 : decide ((k : Int) < (d.steps.length : Int)) = false := decide_eq_false (by omega)
      have hk1 : ¬ (k : Int) < (d.steps.length : Int) := by omega
      have HST' : Hid (StW w wr w.heap.size #[.string d.name, .string d.text, .slice sa d.steps.length sc] (.func (.func 86) #[] #[.pointer (some ⟨w.heap.size + 1, 0, none⟩)]) va0 vc0 (stepsN d.steps 0 d.steps l4)) := Lib.hid (by have := HST.out; rwa [List.take_of_length_le (by omega)] at this)
      have hll : (stepsN d.steps 0 d.steps l4).length ≤ 1000 := by have := stepsN_len d.steps d.steps 0 l4; omega
      clear HST HMP hcl0
      have hmm := @run_makeMap Try.prog
      have ea := World.alloc_heap_new wr (.map #[] 0)
      have eb1 := World.alloc_heap_new (wr.alloc (.map #[] 0)) (.cells #[.map (some wr.heap.size)] 144)
      rw [World.size_alloc] at eb1
      have ec : ((wr.alloc (.map #[] 0)).alloc (.cells #[.map (some wr.heap.size)] 144)).heap[wr.heap.size]? = some (.map #[] 0) := (Below.heap_alloc _ _ _ (by simp)).trans ea
      have hbl : Below wr.heap.size wr ((wr.alloc (.map #[] 0)).alloc (.cells #[.map (some wr.heap.size)] 144)) := ((Below.refl _ _).alloc (Nat.le_refl _) _).alloc (by simp) _
      have h14 := HST'.out.below hbl
      have hmo : MapO Try.prog 146 3 aggO ((wr.alloc (.map #[] 0)).alloc (.cells #[.map (some wr.heap.size)] 144)) wr.heap.size 0 fun _ => none := (MapO.made Try.prog 146 3 aggO wr).block (ec.trans ea.symm)
      have hTg : w.heap.size + 1 + 1 < wr.heap.size := HST'.out.nlt
      have hs14 : ((wr.alloc (.map #[] 0)).alloc (.cells #[.map (some wr.heap.size)] 144)).heap.size = wr.heap.size + 2 := by simp
      gi_upto_region 15 with fail
      generalize ((wr.alloc (.map #[] 0)).alloc (.cells #[.map (some wr.heap.size)] 144)) = w14 at *
      generalize wr.heap.size = R at *
      clear p0 p1 p2 ea ec hbl hmm HST'
      obtain ⟨p0, p1, p2, -, -, -⟩ := cells3h h14.dfb
      have H14 := Lib.hid h14
      have HO14 := Lib.hid hmo
      have HX14 : Hid (Boxed w14 (R + 1) 144 (.map (some R))) := Lib.hid eb1
      clear h14 hmo eb1
      gi_wp2_with fail
      refine (callsIn_wide.2 (refs_any [.string d.name, .string d.text, .slice sa d.steps.length sc] rfl w14)).mono ?_
      rintro e w15 ⟨rfl, rfl⟩
      have hX := World.alloc_heap_new w14 (.cells #[.string d.name, .string d.text, .slice sa d.steps.length sc] 24)
      have hbX : Below w14.heap.size w14 (w14.alloc (.cells #[.string d.name, .string d.text, .slice sa d.steps.length sc] 24)) := (Below.refl _ _).alloc (Nat.le_refl _) _
      have h15 := H14.out.below hbX
      have hm15 := HO14.out.alloc (.cells #[.string d.name, .string d.text, .slice sa d.steps.length sc] 24)
      have hx15 : Boxed (w14.alloc (.cells #[.string d.name, .string d.text, .slice sa d.steps.length sc] 24)) (R + 1) 144 (.map (some R)) := (hbX.block _ HX14.out.lt).trans HX14.out
      have hsX : (w14.alloc (.cells #[.string d.name, .string d.text, .slice sa d.steps.length sc] 24)).heap.size = R + 3 := by rw [World.size_alloc, hs14]
      rw [hs14] at hX
      clear hbX H14 HO14 HX14 p0 p1 p2
      gi_wp2_with fail
      (try simp only [hs14])
      generalize (w14.alloc (.cells #[.string d.name, .string d.text, .slice sa d.steps.length sc] 24)) = w15 at *
      clear hs14
      generalize hl15 : stepsN d.steps 0 d.steps l4 = l15 at *
      have HRM := Lib.hid (fun r => refsF_mem d.steps d.steps 0 r)
      refine' wpIn_rfB rfl (enters_of Try.func90 (by kernel_rfl) rfl) (refs_iter d sa sc (w.heap.size + 1) (R + 2) w w15 (by omega) (by omega) hX hna hta HVA.out (by omega) (h15.low.mono (by omega)) (by omega)) (by omega) (by rintro j rfl; omega) (fun _ => rfl)
        (nkJ w w.heap.size R #[.string d.name, .string d.text, .slice sa d.steps.length sc] (.func (.func 86) #[] #[.pointer (some ⟨w.heap.size + 1, 0, none⟩)]) d.steps l15) (fun _ => fun _ _ _ => False) ?hfin ?hJ ?hJx ?h0 _ (fun y => #[.int .i64 (y.1 : Int), .string y.2.1, .int .i64 y.2.2]) 102 ?assign ?body ?done ?stop
      case assign =>
        intro l S pre x W K hS hw hj hK
        dsimp only [encRf]
        have HS := Lib.hid hS
        have HK := Lib.hid hK
        have HJ := Lib.hid hj
        have hsW : w.heap.size + 1 ≤ W.heap.size := by omega
        clear hS hK hj
        gi_wp2_with fail
        have hal : Below W.heap.size W (W.alloc (.cells #[.int .i64 (x.1 : Int), .string x.2.1, .int .i64 x.2.2] 102)) := (Below.refl _ _).alloc (Nat.le_refl _) _
        have k1 : Keep (w.heap.size + 1) S W (W.alloc (.cells #[.int .i64 (x.1 : Int), .string x.2.1, .int .i64 x.2.2] 102)) := ⟨hal.mono hsW, fun j hj => hal.block j (HS.out j hj).2⟩
        have k2 := nkJ_step w w.heap.size R #[.string d.name, .string d.text, .slice sa d.steps.length sc] (.func (.func 86) #[] #[.pointer (some ⟨w.heap.size + 1, 0, none⟩)]) d.steps l15 S S _ _ _ HS.out HJ.out (Step.of_below hsW hal)
        have k3 := World.alloc_heap_new W (.cells #[.int .i64 (x.1 : Int), .string x.2.1, .int .i64 x.2.2] 102)
        generalize (W.alloc (.cells #[.int .i64 (x.1 : Int), .string x.2.1, .int .i64 x.2.2] 102)) = W' at *
        generalize W.heap.size = b at *
        exact HK.out b W' k1 k2 k3
      case hfin => exact fun h => absurd trivial h
      case hJ => exact nkJ_step w w.heap.size R #[.string d.name, .string d.text, .slice sa d.steps.length sc] (.func (.func 86) #[] #[.pointer (some ⟨w.heap.size + 1, 0, none⟩)]) d.steps l15
      case hJx => exact fun _ _ _ _ _ _ _ h _ => h
      case h0 =>
        refine ⟨_, _, 0, ⟨h15, ?_, Nat.le_refl _, hx15, by omega, by omega, by omega, by omega, ?_⟩⟩
        · have e : cntI (([] : List RefD).map keyR) = fun _ => none := by funext z; simp [cntI]
          rw [e]; exact hm15
        · rintro q e rfl
          exact h15.out.own.ne hX (by decide) e
      case stop => exact fun _ _ _ _ _ _ _ _ _ h => h.elim
      case done =>
        rintro D S W hD hS hSD ⟨va, vc, nM, h⟩ hKD
        have hc := h.st.out.box.cell
        have hck : refsN d.steps [] (refsF d.steps 0 d.steps) l15 = chkN d := HCK.out.symm
        have hst := h.st
        rw [hck] at hst hc
        have hlen : (chkN d).length ≤ 1000000 := by
          rw [← hck]
          have := refsN_len d.steps (refsF d.steps 0 d.steps) [] l15
          omega
        have HOKS := Lib.hid (fun x (hx : x ∈ sortD (chkN d)) => HOKK.out x ((sortD_mem _ x).1 hx))
        have HDG := Lib.hid (hst.out.own.read HOKK.out)
        have HLW := Lib.hid hst.low
        have hDl := (hS D hSD)
        have HKD := Lib.hid hKD
        clear hS h hX h15 hm15 hx15 hst hck hKD
        generalize hgl : (chkN d).length = nl at *
        gi_wp2_with fail
        subst hgl
        refine (callsIn_wide.2 (dSort_any _ _ _ HDG.out hlen)).mono ?_
        rintro e w6 ⟨ua, uc, rfl, ho6, hb6⟩
        have HO6 := Lib.hid ho6
        have HBF := Lib.hid (bthen HLW.out (by have := HLW.out.size; omega) hb6)
        have hKD6 := (hb6.block D hDl.2).trans HKD.out
        have hD6 : w.heap.size ≤ D := by omega
        clear ho6 hb6 hc
        gi_wp2
        refine ⟨by simp, .inl ⟨_, _, rfl, run_takeDeferred hKD6, ?_⟩⟩
        have hb : Below D w6 (w6.putObj D (.deferred none)) := below_putObj _ _ (Nat.le_refl D)
        exact ⟨_, results_tmp rfl _ _ _, _, _, rfl, (HO6.out.block fun q e => World.putObj_heap_other (by have := (HO6.out.heap q e).1; omega)).read HOKS.out, HBF.out.trans (hb.mono hD6)⟩
      case body =>
        rintro l S pre ⟨i, a, tt⟩ b W hS hw hSl - ⟨va, vc, nM, h⟩ hb hpre
        obtain ⟨-, hi0, -, s0, hs0, ha0⟩ := HRM.out _ (hpre.subset (by simp : ((i, a, tt) : RefD) ∈ pre ++ [(i, a, tt)]))
        simp only [Nat.zero_add, Nat.sub_zero] at hi0 hs0
        have hpl := hpre.length_le
        rw [List.length_append, List.length_singleton] at hpl
        have HSN : Hid (refsN d.steps [] (pre ++ [(i, a, tt)]) l15 = refN d.steps pre (i, a, tt) (refsN d.steps [] pre l15)) := Lib.hid (by rw [refsN_snoc, List.nil_append])
        have hrl0 := refsN_len d.steps pre [] l15
        have hgi : d.steps[i] = s0 := by rw [List.getElem?_eq_getElem hi0] at hs0; exact Option.some.inj hs0
        have hi1 : (i : Int) < (d.steps.length : Int) := by omega
        have hn63 : d.steps.length ≤ 9223372036854775807 := by omega
        have HOK : Hid (OkO (i, a)) := Lib.hid ⟨⟨by show -9223372036854775808 ≤ (i : Int); omega, by show (i : Int) ≤ 9223372036854775807; omega⟩, HATX.out s0 (List.mem_of_getElem? hs0) a ha0⟩
        have HC1 := Lib.hid (cntI_zero (pre.map keyR) (i, a))
        have HC2 : Hid (cntI ((pre ++ [((i, a, tt) : RefD)]).map keyR) = fun y => if y = (i, a) then some (((cntN (pre.map keyR) (i, a) : Nat) : Int) + 1) else cntI (pre.map keyR) y) := Lib.hid (by rw [List.map_append, List.map_singleton]; exact (cntI_push _ _).symm)
        have hcle : cntN (pre.map keyR) (i, a) ≤ pre.length := Nat.le_trans (cntN_le _ _) (by rw [List.length_map]; exact Nat.le_refl _)
        have hZ : decide (0 < cntN (pre.map keyR) (keyR (i, a, tt))) = decide ((0 : Int) < ((cntN (pre.map keyR) (i, a) : Nat) : Int)) := by
          rw [Bool.eq_iff_iff, decide_eq_true_eq, decide_eq_true_eq]
          show 0 < cntN (pre.map keyR) (i, a) ↔ _
          omega
        have hY : decide (d.steps[i]?.map StepD.name = some a) = (a.toList == s0.name.toList) := by
          rw [hs0, beqS, Bool.eq_iff_iff, decide_eq_true_eq, decide_eq_true_eq]
          constructor
          · intro h; exact (Option.some.inj h).symm
          · intro h; rw [h]; rfl
        unfold refN at HSN
        dsimp only at HSN
        rw [hZ, hY] at HSN
        clear hZ hY
        have hnM := h.few
        have HST0 := Lib.hid h.st
        have HMP0 := Lib.hid h.map
        have HMX0 := Lib.hid h.mbox
        have HT0 := Lib.hid hb
        have HO0 := Lib.hid h.o5
        have HS := Lib.hid hS
        have o1 := h.o1
        have o2 := h.o2
        have o3 := h.o3
        have o4 := h.o4
        have hTb : b ≠ w.heap.size + 1 := by rintro rfl; rw [show W.heap[w.heap.size + 1]? = _ from h.st.out.box] at hb; cases hb
        have hsW : R + 3 ≤ W.heap.size := by omega
        clear hS h hb hpre hs0 ha0
        (try clear hX)
        (try clear h15)
        (try clear hm15)
        (try clear hx15)
        generalize hrr : refsN d.steps [] pre l15 = l0 at *
        generalize hcc : cntN (pre.map keyR) (i, a) = c at *
        have hdt : decide (tt < (0 : Int)) = decide (tt < 0) := rfl
        generalize htn : decide (tt < 0) = b1 at *
        generalize heq2 : (a.toList == s0.name.toList) = b2 at *
        generalize hgt3 : decide ((0 : Int) < (c : Int)) = b3 at *
        have hgt4 : decide (0 < c) = b3 := by rw [← hgt3, Bool.eq_iff_iff, decide_eq_true_eq, decide_eq_true_eq]; omega
        obtain ⟨t0, t1, t2, -, -, -⟩ := cells3h HT0.out
        have qn := HST0.out.ncell
        dsimp only
        gi_wp2_with fail
        refine (CallsIn.inRound l (callsIn_wide.2 (nnote_any b1 (i : Int) 5 a l0 (w.heap.size + 1) _ _ W HST0.out.out (by omega)))).mono ?_
        rintro e W1 ⟨rfl, hnt⟩
        obtain ⟨va1, vc1, st1, mp1, mx1, hT1, ho1, hk1, hb1⟩ := NkN (n0 := w.heap.size + 1) HST0.out HMP0.out HMX0.out HT0.out (by decide) hTb (by omega) HS.out o1 HO0.out (Nat.le_refl _) hnt
        have hl1 : (noteL l0 b1 ((i : Int), 5, a)).length ≤ l0.length + 1 := noteL_len _ _ _
        have HS1 : Hid (∀ k, S k → w.heap.size + 1 ≤ k ∧ k < W1.heap.size) := Lib.hid fun k hk => ⟨(HS.out k hk).1, Nat.lt_of_lt_of_le (HS.out k hk).2 hk1.below.size⟩
        have HST1 := Lib.hid st1
        have HMP1 := Lib.hid mp1
        have HMX1 := Lib.hid mx1
        have HT1 := Lib.hid hT1
        have HO1 := Lib.hid ho1
        have HK1 := Lib.hid hk1
        clear st1 mp1 mx1 hT1 ho1 hk1 hb1 hnt t0 t1 t2 qn HST0 HMP0 HMX0 HT0 HO0
        generalize noteL l0 b1 ((i : Int), 5, a) = l1 at *
        obtain ⟨t0, t1, t2, -, -, -⟩ := cells3h HT1.out
        obtain ⟨p0, p1, p2, -, -, -⟩ := cells3h HST1.out.dfb
        have qn := HST1.out.ncell
        obtain ⟨g, off, cap, aa1, ac1, ka1, kc1, ba1, bc1, he, q1, q2, -, z0, -⟩ := (HVA.out.below HST1.out.low).at hi0
        cases he
        rw [hgi] at z0
        gi_wp2_with fail
        gi_upto_region 18 with fail
        refine E_regionR (S := (fun W => W.cell? ⟨w.heap.size + 1 + 1, 0, none⟩ = some (.func (.func 86) #[] #[.pointer (some ⟨w.heap.size + 1, 0, none⟩)]) ∧ W.cell? ⟨b, 0, none⟩ = some (.int .i64 (i : Int)) ∧ W.cell? ⟨b, 1, none⟩ = some (.string a) ∧ W.cell? ⟨w.heap.size, 2, none⟩ = some (.slice (some ⟨g, off, none⟩) d.steps.length sc) ∧ W.cell? ⟨g, off + i * 13, none⟩ = some (.string s0.name))) 15 (by kernel_rfl) (by kernel_rfl) ⟨qn, t0, t1, p2, z0⟩ (fun Q' hQ hK' hHeld => ?_)
        refine E_take hQ hHeld 0 (v := ?g8v1) rfl rfl (by kernel_rfl) (by kernel_rfl) (by kernel_rfl) (by kernel_rfl) (by kernel_rfl) (by rfl) ?g8y1 ?g8r1
        case g8y1 => (intro w hSw; (try dsimp only at hSw); go_simp; (try with_reducible rfl))
        (try simp only [Act.put, List.setIfInBounds_toArray, List.set_cons_zero, List.set_cons_succ])
        refine E_take0 hQ (fun _ => hHeld) 1 (v := ?g8v2) rfl rfl (by kernel_rfl) (by kernel_rfl) (by kernel_rfl) (by decide) (by rfl) ?g8y2 ?g8r2
        case g8y2 => (intro w; go_simp; (try with_reducible rfl))
        (try simp only [Act.put, List.setIfInBounds_toArray, List.set_cons_zero, List.set_cons_succ])
        refine E_take hQ hHeld 2 (v := ?g8v3) rfl rfl (by kernel_rfl) (by kernel_rfl) (by kernel_rfl) (by kernel_rfl) (by kernel_rfl) (by rfl) ?g8y3 ?g8r3
        case g8y3 => (intro w hSw; (try dsimp only at hSw); go_simp; (try with_reducible rfl))
        (try simp only [Act.put, List.setIfInBounds_toArray, List.set_cons_zero, List.set_cons_succ])
        refine E_take0 hQ (fun _ => hHeld) 3 (v := ?g8v4) rfl rfl (by kernel_rfl) (by kernel_rfl) (by kernel_rfl) (by decide) (by rfl) ?g8y4 ?g8r4
        case g8y4 => (intro w; go_simp; (try with_reducible rfl))
        (try simp only [Act.put, List.setIfInBounds_toArray, List.set_cons_zero, List.set_cons_succ])
        refine E_take hQ hHeld 4 (v := ?g8v5) rfl rfl (by kernel_rfl) (by kernel_rfl) (by kernel_rfl) (by kernel_rfl) (by kernel_rfl) (by rfl) ?g8y5 ?g8r5
        case g8y5 => (intro w hSw; (try dsimp only at hSw); go_simp; (try with_reducible rfl))
        (try simp only [Act.put, List.setIfInBounds_toArray, List.set_cons_zero, List.set_cons_succ])
        refine E_take0 hQ (fun _ => hHeld) 5 (v := ?g8v6) rfl rfl (by kernel_rfl) (by kernel_rfl) (by kernel_rfl) (by decide) (by rfl) ?g8y6 ?g8r6
        case g8y6 => (intro w; go_simp; (try with_reducible rfl))
        (try simp only [Act.put, List.setIfInBounds_toArray, List.set_cons_zero, List.set_cons_succ])
        refine E_take hQ hHeld 6 (v := ?g8v7) rfl rfl (by kernel_rfl) (by kernel_rfl) (by kernel_rfl) (by kernel_rfl) (by kernel_rfl) (by rfl) ?g8y7 ?g8r7
        case g8y7 => (intro w hSw; (try dsimp only at hSw); go_simp; (try with_reducible rfl))
        (try simp only [Act.put, List.setIfInBounds_toArray, List.set_cons_zero, List.set_cons_succ])
        refine E_take0 hQ (fun _ => hHeld) 7 (v := ?g8v8) rfl rfl (by kernel_rfl) (by kernel_rfl) (by kernel_rfl) (by decide) (by rfl) ?g8y8 ?g8r8
        case g8y8 => (intro w; go_simp; (try with_reducible rfl))
        (try simp only [Act.put, List.setIfInBounds_toArray, List.set_cons_zero, List.set_cons_succ])
        refine E_take0 hQ (fun _ => hHeld) 8 (v := ?g8v9) rfl rfl (by kernel_rfl) (by kernel_rfl) (by kernel_rfl) (by decide) (by rfl) ?g8y9 ?g8r9
        case g8y9 => (intro w; go_simp; (try with_reducible rfl))
        (try simp only [Act.put, List.setIfInBounds_toArray, List.set_cons_zero, List.set_cons_succ])
        refine E_take hQ hHeld 9 (v := ?g8v10) rfl rfl (by kernel_rfl) (by kernel_rfl) (by kernel_rfl) (by kernel_rfl) (by kernel_rfl) (by rfl) ?g8y10 ?g8r10
        case g8y10 => (intro w hSw; (try dsimp only at hSw); go_simp; (try with_reducible rfl))
        (try simp only [Act.put, List.setIfInBounds_toArray, List.set_cons_zero, List.set_cons_succ])
        refine E_take0 hQ (fun _ => hHeld) 10 (v := ?g8v11) rfl rfl (by kernel_rfl) (by kernel_rfl) (by kernel_rfl) (by decide) (by rfl) ?g8y11 ?g8r11
        case g8y11 => (intro w; go_simp; (try with_reducible rfl))
        (try simp only [Act.put, List.setIfInBounds_toArray, List.set_cons_zero, List.set_cons_succ])
        refine E_take0 hQ (fun _ => hHeld) 11 (v := ?g8v12) rfl rfl (by kernel_rfl) (by kernel_rfl) (by kernel_rfl) (by decide) (by rfl) ?g8y12 ?g8r12
        case g8y12 => (intro w; go_simp; (try with_reducible rfl))
        (try simp only [Act.put, List.setIfInBounds_toArray, List.set_cons_zero, List.set_cons_succ])
        refine E_take hQ hHeld 12 (v := ?g8v13) rfl rfl (by kernel_rfl) (by kernel_rfl) (by kernel_rfl) (by kernel_rfl) (by kernel_rfl) (by rfl) ?g8y13 ?g8r13
        case g8y13 => (intro w hSw; (try dsimp only at hSw); go_simp; (try with_reducible rfl))
        (try simp only [Act.put, List.setIfInBounds_toArray, List.set_cons_zero, List.set_cons_succ])
        refine E_take0 hQ (fun _ => hHeld) 13 (v := ?g8v14) rfl rfl (by kernel_rfl) (by kernel_rfl) (by kernel_rfl) (by decide) (by rfl) ?g8y14 ?g8r14
        case g8y14 => (intro w; go_simp; (try with_reducible rfl))
        (try simp only [Act.put, List.setIfInBounds_toArray, List.set_cons_zero, List.set_cons_succ])
        refine E_take hQ hHeld 14 (v := ?g8v15) rfl rfl (by kernel_rfl) (by kernel_rfl) (by kernel_rfl) (by kernel_rfl) (by kernel_rfl) (by rfl) ?g8y15 ?g8r15
        case g8y15 => (intro w hSw; (try dsimp only at hSw); go_simp; (try with_reducible rfl))
        (try simp only [Act.put, List.setIfInBounds_toArray, List.set_cons_zero, List.set_cons_succ])
        refine E_one 15 (by kernel_rfl) rfl (by rfl) (fun K hK => ?_)
        go_simp
        refine (nnote_any b2 (i : Int) 8 a l1 (w.heap.size + 1) _ _ W1.drew (HST1.out.drew.out) (by omega)).mono ?_
        rintro e W2 ⟨rfl, hnt⟩
        have HNT := Lib.hid hnt
        clear hnt
        (skip)
        refine hK.out _ _ (fun _ h => absurd rfl h) (fun _ => ?_)
        clear hK hHeld
        (try simp only [Act.put, List.setIfInBounds_toArray, List.set_cons_zero, List.set_cons_succ])
        refine E_done (by kernel_rfl) ?_ _
        refine hK'.out _ _ ?_
        obtain ⟨va2, vc2, st2, mp2, mx2, hT2, ho2, hk2, hb2⟩ := NkN (n0 := w.heap.size + 1) HST1.out.drew (HMP1.out.drew) (W := W1.drew) HMX1.out HT1.out (by decide) hTb (by omega) HS1.out o1 HO1.out (Nat.le_refl _) HNT.out
        have hl2 : (noteL l1 b2 ((i : Int), 8, a)).length ≤ l1.length + 1 := noteL_len _ _ _
        have HS2 : Hid (∀ k, S k → w.heap.size + 1 ≤ k ∧ k < W2.heap.size) := Lib.hid fun k hk => ⟨(HS1.out k hk).1, Nat.lt_of_lt_of_le (HS1.out k hk).2 hk2.below.size⟩
        have HST2 := Lib.hid st2
        have HMP2 := Lib.hid mp2
        have HMX2 := Lib.hid mx2
        have HT2 := Lib.hid hT2
        have HO2 := Lib.hid ho2
        have HK2 := Lib.hid hk2
        clear st2 mp2 mx2 hT2 ho2 hk2 hb2 HNT t0 t1 t2 qn p0 p1 p2 z0 HST1 HMP1 HMX1 HT1 HO1 HS1 hK' hQ
        generalize noteL l1 b2 ((i : Int), 8, a) = l2 at *
        obtain ⟨t0, t1, t2, -, -, -⟩ := cells3h HT2.out
        have qn := HST2.out.ncell
        have qx := HMX2.out.cell
        have hlk := (HMP2.out.drew).look Try.keyOwn HOK.out
        rw [HC1.out] at hlk
        dsimp only [aggO] at hlk
        gi_upto_region 19 with fail
        refine E_regionR (S := (fun W => W.cell? ⟨w.heap.size + 1 + 1, 0, none⟩ = some (.func (.func 86) #[] #[.pointer (some ⟨w.heap.size + 1, 0, none⟩)]) ∧ W.cell? ⟨R + 1, 0, none⟩ = some (.map (some R)) ∧ W.cell? ⟨b, 0, none⟩ = some (.int .i64 (i : Int)) ∧ W.cell? ⟨b, 1, none⟩ = some (.string a) ∧ (Instr.lookup 144 (.map (some R)) (.agg #[.int .i64 (i : Int), .string a]) false).run Try.prog W = .ok (.int .i64 (c : Int)) W)) 13 (by kernel_rfl) (by kernel_rfl) ⟨qn, qx, t0, t1, hlk⟩ (fun Q' hQ hK' hHeld => ?_)
        refine E_take hQ hHeld 0 (v := ?g9v1) rfl rfl (by kernel_rfl) (by kernel_rfl) (by kernel_rfl) (by kernel_rfl) (by kernel_rfl) (by rfl) ?g9y1 ?g9r1
        case g9y1 => (intro w hSw; (try dsimp only at hSw); go_simp; (try with_reducible rfl))
        (try simp only [Act.put, List.setIfInBounds_toArray, List.set_cons_zero, List.set_cons_succ])
        refine E_take hQ hHeld 1 (v := ?g9v2) rfl rfl (by kernel_rfl) (by kernel_rfl) (by kernel_rfl) (by kernel_rfl) (by kernel_rfl) (by rfl) ?g9y2 ?g9r2
        case g9y2 => (intro w hSw; (try dsimp only at hSw); go_simp; (try with_reducible rfl))
        (try simp only [Act.put, List.setIfInBounds_toArray, List.set_cons_zero, List.set_cons_succ])
        refine E_take0 hQ (fun _ => hHeld) 2 (v := ?g9v3) rfl rfl (by kernel_rfl) (by kernel_rfl) (by kernel_rfl) (by decide) (by rfl) ?g9y3 ?g9r3
        case g9y3 => (intro w; go_simp; (try with_reducible rfl))
        (try simp only [Act.put, List.setIfInBounds_toArray, List.set_cons_zero, List.set_cons_succ])
        refine E_take hQ hHeld 3 (v := ?g9v4) rfl rfl (by kernel_rfl) (by kernel_rfl) (by kernel_rfl) (by kernel_rfl) (by kernel_rfl) (by rfl) ?g9y4 ?g9r4
        case g9y4 => (intro w hSw; (try dsimp only at hSw); go_simp; (try with_reducible rfl))
        (try simp only [Act.put, List.setIfInBounds_toArray, List.set_cons_zero, List.set_cons_succ])
        refine E_take0 hQ (fun _ => hHeld) 4 (v := ?g9v5) rfl rfl (by kernel_rfl) (by kernel_rfl) (by kernel_rfl) (by decide) (by rfl) ?g9y5 ?g9r5
        case g9y5 => (intro w; go_simp; (try with_reducible rfl))
        (try simp only [Act.put, List.setIfInBounds_toArray, List.set_cons_zero, List.set_cons_succ])
        refine E_take hQ hHeld 5 (v := ?g9v6) rfl rfl (by kernel_rfl) (by kernel_rfl) (by kernel_rfl) (by kernel_rfl) (by kernel_rfl) (by rfl) ?g9y6 ?g9r6
        case g9y6 => (intro w hSw; (try dsimp only at hSw); go_simp; (try with_reducible rfl))
        (try simp only [Act.put, List.setIfInBounds_toArray, List.set_cons_zero, List.set_cons_succ])
        refine E_take0 hQ (fun _ => hHeld) 6 (v := ?g9v7) rfl rfl (by kernel_rfl) (by kernel_rfl) (by kernel_rfl) (by decide) (by rfl) ?g9y7 ?g9r7
        case g9y7 => (intro w; go_simp; (try with_reducible rfl))
        (try simp only [Act.put, List.setIfInBounds_toArray, List.set_cons_zero, List.set_cons_succ])
        refine E_take hQ hHeld 7 (v := ?g9v8) rfl rfl (by kernel_rfl) (by kernel_rfl) (by kernel_rfl) (by kernel_rfl) (by kernel_rfl) (by rfl) ?g9y8 ?g9r8
        case g9y8 => (intro w hSw; (try dsimp only at hSw); go_simp; (try with_reducible rfl))
        (try simp only [Act.put, List.setIfInBounds_toArray, List.set_cons_zero, List.set_cons_succ])
        refine E_take0 hQ (fun _ => hHeld) 8 (v := ?g9v9) rfl rfl (by kernel_rfl) (by kernel_rfl) (by kernel_rfl) (by decide) (by rfl) ?g9y9 ?g9r9
        case g9y9 => (intro w; go_simp; (try with_reducible rfl))
        (try simp only [Act.put, List.setIfInBounds_toArray, List.set_cons_zero, List.set_cons_succ])
        refine E_take0 hQ (fun _ => hHeld) 9 (v := ?g9v10) rfl rfl (by kernel_rfl) (by kernel_rfl) (by kernel_rfl) (by decide) (by rfl) ?g9y10 ?g9r10
        case g9y10 => (intro w; go_simp; (try with_reducible rfl))
        (try simp only [Act.put, List.setIfInBounds_toArray, List.set_cons_zero, List.set_cons_succ])
        refine E_take hQ hHeld 10 (v := ?g9v11) rfl rfl (by kernel_rfl) (by kernel_rfl) (by kernel_rfl) (by kernel_rfl) (by kernel_rfl) (by rfl) ?g9y11 ?g9r11
        case g9y11 => (intro w hSw; (try dsimp only at hSw); go_simp; (try with_reducible rfl))
        (try simp only [Act.put, List.setIfInBounds_toArray, List.set_cons_zero, List.set_cons_succ])
        refine E_take0 hQ (fun _ => hHeld) 11 (v := ?g9v12) rfl rfl (by kernel_rfl) (by kernel_rfl) (by kernel_rfl) (by decide) (by rfl) ?g9y12 ?g9r12
        case g9y12 => (intro w; go_simp; (try with_reducible rfl))
        (try simp only [Act.put, List.setIfInBounds_toArray, List.set_cons_zero, List.set_cons_succ])
        refine E_take hQ hHeld 12 (v := ?g9v13) rfl rfl (by kernel_rfl) (by kernel_rfl) (by kernel_rfl) (by kernel_rfl) (by kernel_rfl) (by rfl) ?g9y13 ?g9r13
        case g9y13 => (intro w hSw; (try dsimp only at hSw); go_simp; (try with_reducible rfl))
        (try simp only [Act.put, List.setIfInBounds_toArray, List.set_cons_zero, List.set_cons_succ])
        refine E_one 13 (by kernel_rfl) rfl (by rfl) (fun K hK => ?_)
        go_simp
        refine (nnote_any b3 (i : Int) 6 a l2 (w.heap.size + 1) _ _ W2.drew (HST2.out.drew.out) (by omega)).mono ?_
        rintro e W3 ⟨rfl, hnt⟩
        have HNT := Lib.hid hnt
        clear hnt
        (skip)
        refine hK.out _ _ (fun _ h => absurd rfl h) (fun _ => ?_)
        clear hK hHeld
        (try simp only [Act.put, List.setIfInBounds_toArray, List.set_cons_zero, List.set_cons_succ])
        refine E_done (by kernel_rfl) ?_ _
        refine hK'.out _ _ ?_
        obtain ⟨va3, vc3, st3, mp3, mx3, hT3, ho3, hk3, hb3⟩ := NkN (n0 := w.heap.size + 1) HST2.out.drew (HMP2.out.drew) (W := W2.drew) HMX2.out HT2.out (by decide) hTb (by omega) HS2.out o1 HO2.out (Nat.le_refl _) HNT.out
        have hl3 : (noteL l2 b3 ((i : Int), 6, a)).length ≤ l2.length + 1 := noteL_len _ _ _
        have HST3 := Lib.hid st3
        have HMP3 := Lib.hid mp3
        have HMX3 := Lib.hid mx3
        have HT3 := Lib.hid hT3
        have HO3 := Lib.hid ho3
        have HK3 := Lib.hid hk3
        clear st3 mp3 mx3 hT3 ho3 hk3 hb3 HNT t0 t1 t2 qn qx hlk HST2 HMP2 HMX2 HT2 HO2 HS2 hK' hQ
        generalize noteL l2 b3 ((i : Int), 6, a) = l3 at *
        obtain ⟨t0, t1, t2, -, -, -⟩ := cells3h HT3.out
        have qx := HMX3.out.cell
        have hlk := (HMP3.out.drew).look Try.keyOwn HOK.out
        rw [HC1.out] at hlk
        have hwf : ∀ d, cntI (pre.map keyR) (i, a) = some d → (Lit.int .i64 d).wf = true := fun d hd => by
          have := HC1.out
          rw [hd] at this
          simp at this
          rw [this]
          exact i64_wf ⟨by omega, by omega⟩
        obtain ⟨st, w5, hme, hm5, -, -, ho5, hst⟩ := (HMP3.out.drew).entry Try.lawOwn Try.keyOwn (by unfold maxLen; omega) HOK.out hwf
        obtain ⟨w6, hes, hm6, hb6, hs6, ho6⟩ := hst ((c : Int) + 1) (i64_wf ⟨by omega, by omega⟩)
        have HM6 := Lib.hid hm6
        have HB6 := Lib.hid hb6
        have HO6 := Lib.hid ho6
        have hlk5 := hm5.look Try.keyOwn HOK.out
        have hRR : R + 1 ≠ R := by omega
        have qx5 := Boxed.cell (t := 144) ((ho5 (R + 1) hRR).trans HMX3.out)
        obtain ⟨t05, t15, -⟩ := cells3h ((ho5 b (HMP3.out.ne HT3.out)).trans HT3.out)
        simp only [HC1.out, aggO, goInt, if_true, Option.getD_some] at hlk hme hes hlk5
        have hwr : IntKind.i64.wrap ((c : Int) + 1) = (c : Int) + 1 := IntWalk.i64_in _ (by omega)
        clear hst hwf hm6 hb6 ho6 hm5 ho5
        gi_upto_region 20 with fail
        refine E_regionR (S := (fun W => W.cell? ⟨R + 1, 0, none⟩ = some (.map (some R)) ∧ W.cell? ⟨b, 0, none⟩ = some (.int .i64 (i : Int)) ∧ W.cell? ⟨b, 1, none⟩ = some (.string a) ∧ (Instr.lookup 144 (.map (some R)) (.agg #[.int .i64 (i : Int), .string a]) false).run Try.prog W = .ok (.int .i64 (c : Int)) W)) 10 (by kernel_rfl) (by kernel_rfl) ⟨qx, t0, t1, hlk⟩ (fun Q' hQ hK' hHeld => ?_)
        refine E_take hQ hHeld 0 (v := ?g0v1) rfl rfl (by kernel_rfl) (by kernel_rfl) (by kernel_rfl) (by kernel_rfl) (by kernel_rfl) (by rfl) ?g0y1 ?g0r1
        case g0y1 => (intro w hSw; (try dsimp only at hSw); go_simp; (try with_reducible rfl))
        (try simp only [Act.put, List.setIfInBounds_toArray, List.set_cons_zero, List.set_cons_succ])
        refine E_take0 hQ (fun _ => hHeld) 1 (v := ?g0v2) rfl rfl (by kernel_rfl) (by kernel_rfl) (by kernel_rfl) (by decide) (by rfl) ?g0y2 ?g0r2
        case g0y2 => (intro w; go_simp; (try with_reducible rfl))
        (try simp only [Act.put, List.setIfInBounds_toArray, List.set_cons_zero, List.set_cons_succ])
        refine E_take hQ hHeld 2 (v := ?g0v3) rfl rfl (by kernel_rfl) (by kernel_rfl) (by kernel_rfl) (by kernel_rfl) (by kernel_rfl) (by rfl) ?g0y3 ?g0r3
        case g0y3 => (intro w hSw; (try dsimp only at hSw); go_simp; (try with_reducible rfl))
        (try simp only [Act.put, List.setIfInBounds_toArray, List.set_cons_zero, List.set_cons_succ])
        refine E_take0 hQ (fun _ => hHeld) 3 (v := ?g0v4) rfl rfl (by kernel_rfl) (by kernel_rfl) (by kernel_rfl) (by decide) (by rfl) ?g0y4 ?g0r4
        case g0y4 => (intro w; go_simp; (try with_reducible rfl))
        (try simp only [Act.put, List.setIfInBounds_toArray, List.set_cons_zero, List.set_cons_succ])
        refine E_take hQ hHeld 4 (v := ?g0v5) rfl rfl (by kernel_rfl) (by kernel_rfl) (by kernel_rfl) (by kernel_rfl) (by kernel_rfl) (by rfl) ?g0y5 ?g0r5
        case g0y5 => (intro w hSw; (try dsimp only at hSw); go_simp; (try with_reducible rfl))
        (try simp only [Act.put, List.setIfInBounds_toArray, List.set_cons_zero, List.set_cons_succ])
        refine E_take0 hQ (fun _ => hHeld) 5 (v := ?g0v6) rfl rfl (by kernel_rfl) (by kernel_rfl) (by kernel_rfl) (by decide) (by rfl) ?g0y6 ?g0r6
        case g0y6 => (intro w; go_simp; (try with_reducible rfl))
        (try simp only [Act.put, List.setIfInBounds_toArray, List.set_cons_zero, List.set_cons_succ])
        refine E_take hQ hHeld 6 (v := ?g0v7) rfl rfl (by kernel_rfl) (by kernel_rfl) (by kernel_rfl) (by kernel_rfl) (by kernel_rfl) (by rfl) ?g0y7 ?g0r7
        case g0y7 => (intro w hSw; (try dsimp only at hSw); go_simp; (try with_reducible rfl))
        (try simp only [Act.put, List.setIfInBounds_toArray, List.set_cons_zero, List.set_cons_succ])
        refine E_take0 hQ (fun _ => hHeld) 7 (v := ?g0v8) rfl rfl (by kernel_rfl) (by kernel_rfl) (by kernel_rfl) (by decide) (by rfl) ?g0y8 ?g0r8
        case g0y8 => (intro w; go_simp; (try with_reducible rfl))
        (try simp only [Act.put, List.setIfInBounds_toArray, List.set_cons_zero, List.set_cons_succ])
        refine E_one 8 (by kernel_rfl) rfl (by rfl) (fun K hK => ?_)
        go_simp
        (try simp only [Act.put, List.setIfInBounds_toArray, List.set_cons_zero, List.set_cons_succ])
        refine hK.out _ _ (fun _ _ => ⟨qx5, t05, t15, hlk5⟩) (fun hHeld' => ?_)
        replace hHeld := hHeld' (by rfl) (by decide)
        clear hK hHeld'
        (try simp only [Act.put, List.setIfInBounds_toArray, List.set_cons_zero, List.set_cons_succ])
        refine E_take0 hQ (fun _ => hHeld) 9 (v := ?g0v9) rfl rfl (by kernel_rfl) (by kernel_rfl) (by kernel_rfl) (by decide) (by rfl) ?g0y9 ?g0r9
        case g0y9 => (intro w; go_simp; (try with_reducible rfl))
        (try simp only [Act.put, List.setIfInBounds_toArray, List.set_cons_zero, List.set_cons_succ])
        refine E_one 10 (by kernel_rfl) rfl (by rfl) (fun K hK => ?_)
        go_simp
        (try simp only [Act.put, List.setIfInBounds_toArray, List.set_cons_zero, List.set_cons_succ])
        refine hK.out _ _ (fun _ h => absurd rfl h) (fun _ => ?_)
        clear hK hHeld
        (try simp only [Act.put, List.setIfInBounds_toArray, List.set_cons_zero, List.set_cons_succ])
        refine E_done (by kernel_rfl) ?_ _
        refine hK'.out _ _ ?_
        have hk6 : Keep (w.heap.size + 1) S W3.drew w6 := ⟨HB6.out.mono (by omega), fun q hq => HO6.out q (fun e => o3 (e ▸ hq))⟩
        have hblk : ∀ (q : Nat) (cc : Array Value) (ty : TypeId) (fr : Nat × Nat), W3.drew.heap[q]? = some (.cells cc ty fr) → w6.heap[q]? = some (.cells cc ty fr) := fun q cc ty fr hq => (HO6.out q (HMP3.out.drew.ne hq)).trans hq
        have st6 : StW w w6 w.heap.size #[.string d.name, .string d.text, .slice (some ⟨g, off, none⟩) d.steps.length sc] (.func (.func 86) #[] #[.pointer (some ⟨w.heap.size + 1, 0, none⟩)]) va3 vc3 (l3) := ⟨⟨hblk _ _ _ _ HST3.out.out.box, HST3.out.out.own.block fun q e => HO6.out q (fun e2 => HST3.out.out.own.nemap HMP3.out (e2 ▸ e))⟩, hblk _ _ _ _ HST3.out.note, hblk _ _ _ _ HST3.out.dfb, HST3.out.low.drew.trans (HB6.out.mono (by omega))⟩
        gi_wp2_with fail
        have hd1 : Keep (w.heap.size + 1) S W1 W1.drew := ⟨(Below.refl _ _).drew, fun _ _ => rfl⟩
        have hd2 : Keep (w.heap.size + 1) S W2 W2.drew := ⟨(Below.refl _ _).drew, fun _ _ => rfl⟩
        have hd3 : Keep (w.heap.size + 1) S W3 W3.drew := ⟨(Below.refl _ _).drew, fun _ _ => rfl⟩
        refine ⟨⟨va3, vc3, nM + 1, ⟨by rw [HSN.out]; exact st6, by rw [HC2.out]; exact HM6.out, by simp; omega, hblk _ _ _ _ HMX3.out, o1, o2, o3, o4, by rw [HSN.out]; exact HO3.out⟩⟩, HK1.out.trans (hd1.trans (HK2.out.trans (hd2.trans (HK3.out.trans (hd3.trans hk6)))))⟩
end Go.Proofs.Ytkgcpbhlbfjcoaa

/-
  What layer 25's laws ask whatever is asked.
-/
namespace Go.Proofs.Ytkgcpbhlbfjcoaa
open Go Go.RowKit Go.WideShapes

def s25a : StepD := ⟨{ data := #[97] }, { data := #[120] }, { data := #[] }, [], 0, 0, 0, 0, .mk 0 { data := #[] } [] [] 0⟩
def s25b : StepD := ⟨{ data := #[97] }, { data := #[121] }, { data := #[] }, [{ data := #[97] }, { data := #[98] }], 0, 0, 0, 0, .mk 0 { data := #[] } [] [] 0⟩
def d25 : DefD := ⟨{ data := #[115] }, { data := #[] }, [s25a, s25b]⟩
structure At25 (W : World) (g1 g2 : Nat) : Prop where
  b1 : W.heap[g1]? = some (.cells #[.string { data := #[97] }, .string { data := #[98] }] 9 (0, 0))
  b2 : W.heap[g2]? = some (.cells #[.string { data := #[97] }, .string { data := #[120] }, .string { data := #[] }, .slice none 0 0, .int .i64 0, .int .i64 0, .int .i64 0, .int .i64 0, .int .u8 0, .string { data := #[] }, .slice none 0 0, .slice none 0 0, .int .i64 0, .string { data := #[97] }, .string { data := #[121] }, .string { data := #[] }, .slice (some ⟨g1, 0, none⟩) 2 2, .int .i64 0, .int .i64 0, .int .i64 0, .int .i64 0, .int .u8 0, .string { data := #[] }, .slice none 0 0, .slice none 0 0, .int .i64 0] 45 (0, 0))
theorem At25.below {W W' : World} {g1 g2 : Nat} (h : At25 W g1 g2) (hb : Below W.heap.size W W') : At25 W' g1 g2 :=
  ⟨(hb.block _ (Array.getElem?_eq_some_iff.1 h.b1).1).trans h.b1, (hb.block _ (Array.getElem?_eq_some_iff.1 h.b2).1).trans h.b2⟩
theorem At25.toR {W : World} {g1 g2 : Nat} (h : At25 W g1 g2) : DefR W [.string { data := #[115] }, .string { data := #[] }, .slice (some ⟨g2, 0, none⟩) 2 2] d25 (some ⟨g2, 0, none⟩) 2 := by
  refine ⟨rfl, by decide, by decide, [[.string { data := #[97] }, .string { data := #[120] }, .string { data := #[] }, .slice none 0 0, .int .i64 0, .int .i64 0, .int .i64 0, .int .i64 0, .int .u8 0, .string { data := #[] }, .slice none 0 0, .slice none 0 0, .int .i64 0], [.string { data := #[97] }, .string { data := #[121] }, .string { data := #[] }, .slice (some ⟨g1, 0, none⟩) 2 2, .int .i64 0, .int .i64 0, .int .i64 0, .int .i64 0, .int .u8 0, .string { data := #[] }, .slice none 0 0, .slice none 0 0, .int .i64 0]], rfl, rds_row 2 13 h.b2 rfl (by decide), fun i r s hr hs => ?_⟩
  rcases i with _ | _ | i
  · cases hr
    cases hs
    exact ⟨none, 0, none, 0, none, 0, rfl, ⟨by decide, by decide, by decide, (fun a ha => by cases ha), by unfold I64w; decide, by unfold I64w; decide, by unfold I64w; decide, by unfold I64w; decide⟩, ⟨rfl, none, 0, rfl, Nat.le_refl _, Nat.zero_le _, .inl rfl⟩, node_none W⟩
  · cases hr
    cases hs
    exact ⟨some ⟨g1, 0, none⟩, 2, none, 0, none, 0, rfl, ⟨by decide, by decide, by decide, fun a ha => by simp only [s25b, List.mem_cons, List.not_mem_nil, or_false] at ha; rcases ha with rfl | rfl <;> decide, by unfold I64w; decide, by unfold I64w; decide, by unfold I64w; decide, by unfold I64w; decide⟩, rds_row 2 1 h.b1 rfl (by decide), node_none W⟩
  · simp at hr
theorem d25_chk : chkN d25 = [(1, 6, { data := #[97] }), (1, 8, { data := #[97] }), (1, 5, { data := #[98] })] := by decide +kernel
theorem d25_sort : sortD (chkN d25) = [(1, 5, { data := #[98] }), (1, 6, { data := #[97] }), (1, 8, { data := #[97] })] := by rw [d25_chk]; decide +kernel
theorem d25_refs : (refsF d25.steps 0 d25.steps).length ≤ 10000 := by decide +kernel
theorem d25_deps : depsA d25.steps 0 d25.steps = [[], [0]] := by decide +kernel
theorem d25_miss : missL (refsF d25.steps 0 d25.steps) = [{ data := #[98] }] := by decide +kernel
theorem c25_check {W0 W : World} {g1 g2 : Nat} (h : At25 W0 g1 g2) (hb : Below W0.heap.size W0 W) : Calls Try.prog 54 #[.agg #[.string { data := #[115] }, .string { data := #[] }, .slice (some ⟨g2, 0, none⟩) 2 2]] W fun e w' => ∃ va vc, e = .returned (.slice va 3 vc) ∧ DgR w' (.slice va 3 vc) [(1, 5, { data := #[98] }), (1, 6, { data := #[97] }), (1, 8, { data := #[97] })] ∧ Below W.heap.size W w' := by
  have := nCheck_any d25 _ _ _ W (h.below hb).toR (smallDef_of (by decide +kernel)) d25_refs (by
    rw [d25_chk]
    intro x hx
    simp at hx
    rcases hx with rfl | rfl | rfl
    · exact ⟨by unfold I64w; decide, by unfold I64w; decide, by decide⟩
    · exact ⟨by unfold I64w; decide, by unfold I64w; decide, by decide⟩
    · exact ⟨by unfold I64w; decide, by unfold I64w; decide, by decide⟩)
  rw [d25_sort] at this
  exact this
theorem c25_refs {W0 W : World} {g1 g2 : Nat} (h : At25 W0 g1 g2) (hb : Below W0.heap.size W0 W) : Calls Try.prog 16 #[.agg #[.string { data := #[115] }, .string { data := #[] }, .slice (some ⟨g2, 0, none⟩) 2 2]] W fun e w' => ∃ v, e = .returned v ∧ Rows2 w' v [[], [0]] ∧ Below W.heap.size W w' := by
  have := nRefs_any d25 _ _ _ W (h.below hb).toR (by decide) (Nat.le_trans d25_refs (by decide))
  rw [d25_deps] at this
  exact this
theorem c25_miss {W0 W : World} {g1 g2 : Nat} (h : At25 W0 g1 g2) (hb : Below W0.heap.size W0 W) : Calls Try.prog 21 #[.agg #[.string { data := #[115] }, .string { data := #[] }, .slice (some ⟨g2, 0, none⟩) 2 2]] W fun e w' => ∃ v, e = .returned v ∧ RdS w' v 1 1 (strsV [{ data := #[98] }]) ∧ Below W.heap.size W w' := by
  have := nMissing_any d25 _ _ _ W (h.below hb).toR (by decide) (Nat.le_trans d25_refs (by decide))
  rw [d25_miss] at this
  exact this
end Go.Proofs.Ytkgcpbhlbfjcoaa

/-
  rescripttop.awakeNames: contract.
-/
namespace Go.Proofs.Ytkgcpbhlbfjcoaa
open Go Go.RowKit Go.WideShapes

def s13a : StepD := ⟨{ data := #[97] }, { data := #[120] }, { data := #[] }, [], 0, 0, 0, 0, .mk 0 { data := #[] } [] [] 0⟩
def s13b : StepD := ⟨{ data := #[98] }, { data := #[120] }, { data := #[] }, [{ data := #[97] }], 0, 0, 0, 0, .mk 0 { data := #[] } [] [] 0⟩
def d13 : DefD := ⟨{ data := #[115] }, { data := #[] }, [s13a, s13b]⟩
structure At13n (W : World) (g1 g2 : Nat) : Prop where
  b1 : W.heap[g1]? = some (.cells #[.string { data := #[97] }] 9 (0, 0))
  b2 : W.heap[g2]? = some (.cells #[.string { data := #[97] }, .string { data := #[120] }, .string { data := #[] }, .slice none 0 0, .int .i64 0, .int .i64 0, .int .i64 0, .int .i64 0, .int .u8 0, .string { data := #[] }, .slice none 0 0, .slice none 0 0, .int .i64 0, .string { data := #[98] }, .string { data := #[120] }, .string { data := #[] }, .slice (some ⟨g1, 0, none⟩) 1 1, .int .i64 0, .int .i64 0, .int .i64 0, .int .i64 0, .int .u8 0, .string { data := #[] }, .slice none 0 0, .slice none 0 0, .int .i64 0] 45 (0, 0))
theorem At13n.below {W W' : World} {g1 g2 : Nat} (h : At13n W g1 g2) (hb : Below W.heap.size W W') : At13n W' g1 g2 :=
  ⟨(hb.block _ (Array.getElem?_eq_some_iff.1 h.b1).1).trans h.b1, (hb.block _ (Array.getElem?_eq_some_iff.1 h.b2).1).trans h.b2⟩
theorem At13n.toR {W : World} {g1 g2 : Nat} (h : At13n W g1 g2) : DefR W [.string { data := #[115] }, .string { data := #[] }, .slice (some ⟨g2, 0, none⟩) 2 2] d13 (some ⟨g2, 0, none⟩) 2 := by
  refine ⟨rfl, by decide, by decide, [[.string { data := #[97] }, .string { data := #[120] }, .string { data := #[] }, .slice none 0 0, .int .i64 0, .int .i64 0, .int .i64 0, .int .i64 0, .int .u8 0, .string { data := #[] }, .slice none 0 0, .slice none 0 0, .int .i64 0], [.string { data := #[98] }, .string { data := #[120] }, .string { data := #[] }, .slice (some ⟨g1, 0, none⟩) 1 1, .int .i64 0, .int .i64 0, .int .i64 0, .int .i64 0, .int .u8 0, .string { data := #[] }, .slice none 0 0, .slice none 0 0, .int .i64 0]], rfl, rds_row 2 13 h.b2 rfl (by decide), fun i r s hr hs => ?_⟩
  rcases i with _ | _ | i
  · cases hr
    cases hs
    exact ⟨none, 0, none, 0, none, 0, rfl, ⟨by decide, by decide, by decide, (fun a ha => by cases ha), by unfold I64w; decide, by unfold I64w; decide, by unfold I64w; decide, by unfold I64w; decide⟩, ⟨rfl, none, 0, rfl, Nat.le_refl _, Nat.zero_le _, .inl rfl⟩, node_none W⟩
  · cases hr
    cases hs
    exact ⟨some ⟨g1, 0, none⟩, 1, none, 0, none, 0, rfl, ⟨by decide, by decide, by decide, fun a ha => by simp only [s13b, List.mem_cons, List.not_mem_nil, or_false] at ha; subst ha; decide, by unfold I64w; decide, by unfold I64w; decide, by unfold I64w; decide, by unfold I64w; decide⟩, rds_row 1 1 h.b1 rfl (by decide), node_none W⟩
  · simp at hr
theorem d13_chk : chkN d13 = [] := by decide +kernel
theorem d13_refs : (refsF d13.steps 0 d13.steps).length ≤ 10000 := by decide +kernel
theorem d13_deps : depsA d13.steps 0 d13.steps = [[], [0]] := by decide +kernel
theorem d13_ord : ordO [[], [0]] = [0, 1] := by decide +kernel
theorem c13_check {W0 W : World} {g1 g2 : Nat} (h : At13n W0 g1 g2) (hb : Below W0.heap.size W0 W) : Calls Try.prog 54 #[.agg #[.string { data := #[115] }, .string { data := #[] }, .slice (some ⟨g2, 0, none⟩) 2 2]] W fun e w' => ∃ va vc, e = .returned (.slice va 0 vc) ∧ Below W.heap.size W w' := by
  have := nCheck_any d13 _ _ _ W (h.below hb).toR (smallDef_of (by decide +kernel)) d13_refs (by
    rw [d13_chk]
    intro x hx
    cases hx)
  rw [d13_chk] at this
  exact this.mono fun e w' ⟨va, vc, he, _, hb⟩ => ⟨va, vc, he, hb⟩
theorem c13_refs {W0 W : World} {g1 g2 : Nat} (h : At13n W0 g1 g2) (hb : Below W0.heap.size W0 W) : Calls Try.prog 16 #[.agg #[.string { data := #[115] }, .string { data := #[] }, .slice (some ⟨g2, 0, none⟩) 2 2]] W fun e w' => ∃ v, e = .returned v ∧ Rows2 w' v [[], [0]] ∧ Below W.heap.size W w' := by
  have := nRefs_any d13 _ _ _ W (h.below hb).toR (by decide) (Nat.le_trans d13_refs (by decide))
  rw [d13_deps] at this
  exact this
set_option maxRecDepth 100000 in
set_option maxHeartbeats 4000000 in
theorem awakeNames_any (w : World) : Calls Try.prog 15 #[] w fun e w' => e = .returned (.bool true) ∧ Below w.heap.size w w' := by
  go_enter Try.func15, Try.ntmps15
  go_wp2_with fail
  obtain ⟨h1, h2, h3, h4, h5⟩ := alloc3 w 9 45 24 #[.string { data := #[97] }] #[.string { data := #[97] }, .string { data := #[120] }, .string { data := #[] }, .slice none 0 0, .int .i64 0, .int .i64 0, .int .i64 0, .int .i64 0, .int .u8 0, .string { data := #[] }, .slice none 0 0, .slice none 0 0, .int .i64 0, .string { data := #[98] }, .string { data := #[120] }, .string { data := #[] }, .slice (some ⟨w.heap.size, 0, none⟩) 1 1, .int .i64 0, .int .i64 0, .int .i64 0, .int .i64 0, .int .u8 0, .string { data := #[] }, .slice none 0 0, .slice none 0 0, .int .i64 0] #[.string { data := #[115] }, .string { data := #[] }, .slice (some ⟨w.heap.size + 1, 0, none⟩) 2 2]
  generalize (((w.alloc (.cells #[.string { data := #[97] }] 9)).alloc (.cells #[.string { data := #[97] }, .string { data := #[120] }, .string { data := #[] }, .slice none 0 0, .int .i64 0, .int .i64 0, .int .i64 0, .int .i64 0, .int .u8 0, .string { data := #[] }, .slice none 0 0, .slice none 0 0, .int .i64 0, .string { data := #[98] }, .string { data := #[120] }, .string { data := #[] }, .slice (some ⟨w.heap.size, 0, none⟩) 1 1, .int .i64 0, .int .i64 0, .int .i64 0, .int .i64 0, .int .u8 0, .string { data := #[] }, .slice none 0 0, .slice none 0 0, .int .i64 0] 45)).alloc (.cells #[.string { data := #[115] }, .string { data := #[] }, .slice (some ⟨w.heap.size + 1, 0, none⟩) 2 2] 24)) = w1 at *
  have H13 : Hid (At13n w1 w.heap.size (w.heap.size + 1)) := Lib.hid ⟨h2, h3⟩
  have HB1 := Lib.hid h1
  have HD1 := Lib.hid h4
  have hs1 : w.heap.size + 2 < w1.heap.size := (Array.getElem?_eq_some_iff.1 h4).1
  clear h1 h2 h3 h4 h5
  refine (c13_refs H13.out (Below.refl _ _)).mono ?_
  rintro e w2 ⟨rv, rfl, hr2, hb2⟩
  have HR2 := Lib.hid hr2
  have HB2 := Lib.hid hb2
  clear hr2 hb2
  go_wp2_with fail
  refine (Order_any _ _ _ HR2.out (by decide)).mono ?_
  rintro e w3 ⟨ov, rfl, ho, hb3⟩
  rw [d13_ord] at ho
  rw [d13_ord]
  have HB3 := Lib.hid (bthen HB2.out (Nat.le_refl _) hb3)
  have hrd := RdS.of_owns ho
  obtain ⟨oa, oc, rfl⟩ := hrd.form
  have hrx : RdS w3 (.slice oa 2 oc) 1 2 (ints .i64 [0, 1]) := hrd
  obtain ⟨og, oo, rfl, -, -, u0⟩ := ints_at (l := [0, 1]) hrx (i := 0) (by decide)
  simp only [Nat.add_zero, List.getElem_cons_zero] at u0
  have dl : decide (([0, 1] : List Nat).length = ([[], [0]] : List (List Int)).length) = true := by decide
  rw [dl]
  obtain ⟨p0, p1, p2, -, -, -⟩ := cells3h ((HB3.out.block _ (by omega)).trans HD1.out)
  clear hrd hrx ho hb3 dl
  have HBX := Lib.hid (HB1.out.trans (HB3.out.mono (by omega)))
  go_wp2_with fail
  refine (c13_check H13.out HB3.out).mono ?_
  rintro e w4 ⟨va, vc, rfl, hb4⟩
  have HB4 := Lib.hid (bthen HBX.out (by have := HBX.out.size; exact Nat.le_refl _) (hb4.mono (by have := HB3.out.size; omega)))
  clear hb4
  go_wp2_with fail
  go_ret
  exact ⟨rfl, HB4.out⟩
end Go.Proofs.Ytkgcpbhlbfjcoaa

/-
  The law NamesRefs: walk; definitions' lists are right.
-/
namespace Go.Proofs.Ytkgcpbhlbfjcoaa
open Go Go.RowKit Go.WideShapes

theorem names_ok {d : DefD} (hs : SmallD d) : ∀ x ∈ rChkN d.steps 0 d.steps (headN d), OkG x := by
  have hn : ∀ (l : List DiagD) (b : Bool) (x : DiagD), (∀ y ∈ l, OkG y) → OkG x → ∀ y ∈ noteL l b x, OkG y := fun l b x h1 h2 y hy => by
    rcases (noteL_mem l b x y).1 hy with h | ⟨-, rfl⟩
    · exact h1 y h
    · exact h2
  have ok : ∀ (st er : Int) (tx : ByteArray), I64w st → I64w er → tx.size ≤ 200 → OkG (st, er, tx) := fun st er tx h1 h2 h3 => ⟨h1, h2, by show tx.size ≤ maxLen; unfold maxLen; omega⟩
  have hrows : ∀ (i : Nat) (s : StepD), i ≤ 30 → s.name.size ≤ 200 → ∀ (r seen : List ByteArray) (l : List DiagD), (∀ a ∈ r, a.size ≤ 200) → (∀ y ∈ l, OkG y) → ∀ y ∈ rowsN d.steps i s seen r l, OkG y := by
    intro i s hi hn1 r
    induction r with
    | nil => intro seen l _ h; exact h
    | cons a r ih =>
      intro seen l ha h
      have ha0 := ha a (by simp)
      refine ih _ _ (fun b hb => ha b (by simp [hb])) ?_
      unfold rowN
      exact hn _ _ _ (hn _ _ _ (hn _ _ _ h (ok _ _ _ (by unfold I64w; omega) (by unfold I64w; omega) ha0)) (ok _ _ _ (by unfold I64w; omega) (by unfold I64w; omega) hn1)) (ok _ _ _ (by unfold I64w; omega) (by unfold I64w; omega) ha0)
  have hall : ∀ (r : List StepD) (i : Nat) (l : List DiagD), i + r.length ≤ 30 → (∀ s ∈ r, SmallS s) → (∀ y ∈ l, OkG y) → ∀ y ∈ rChkN d.steps i r l, OkG y := by
    intro r
    induction r with
    | nil => intro i l _ _ h; exact h
    | cons s r ih =>
      intro i l hi hs h
      rw [List.length_cons] at hi
      have hs0 := hs s (by simp)
      refine ih _ _ (by omega) (fun t ht => hs t (by simp [ht])) (hrows i s (by omega) hs0.name _ _ _ hs0.aft ?_)
      unfold stepN
      exact hn _ _ _ (hn _ _ _ (hn _ _ _ (hn _ _ _ h (ok _ _ _ (by unfold I64w; omega) (by unfold I64w; omega) hs0.name)) (ok _ _ _ (by unfold I64w; omega) (by unfold I64w; omega) hs0.action)) (ok _ _ _ (by unfold I64w; omega) (by unfold I64w; omega) hs0.undo)) (ok _ _ _ (by unfold I64w; omega) (by unfold I64w; omega) hs0.name)
  refine hall d.steps 0 _ (by have := hs.steps; omega) hs.each ?_
  unfold headN
  exact hn _ _ _ (hn _ _ _ (fun y hy => by cases hy) (ok _ _ _ (by unfold I64w; omega) (by unfold I64w; omega) (by decide))) (ok _ _ _ (by unfold I64w; omega) (by unfold I64w; omega) hs.name)
theorem chkN_ok {d : DefD} (hs : SmallD d) : ∀ x ∈ chkN d, OkG x := by
  intro x hx
  have := (sortD_mem _ x).2 hx
  rw [← names_alike] at this
  exact names_ok hs x ((sortD_mem _ x).1 this)
theorem refs_few {d : DefD} (hs : SmallD d) : (refsF d.steps 0 d.steps).length ≤ 10000 := by
  have h1 := refsF_len d.steps (m := 70) d.steps 0 (fun s h => (hs.each s h).after)
  have h2 : d.steps.length * 70 ≤ 30 * 70 := Nat.mul_le_mul_right _ hs.steps
  omega
theorem chkN_few {d : DefD} (hs : SmallD d) : (chkN d).length ≤ 100000 := by
  unfold chkN
  have h1 := refsN_len d.steps (refsF d.steps 0 d.steps) [] (stepsN d.steps 0 d.steps (headN d))
  have h2 := stepsN_len d.steps d.steps 0 (headN d)
  have h3 := headN_len d
  have h4 := refs_few hs
  have h5 := hs.steps
  omega

end Go.Proofs.Ytkgcpbhlbfjcoaa
