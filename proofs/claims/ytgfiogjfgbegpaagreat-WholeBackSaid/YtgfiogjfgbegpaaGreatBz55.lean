/-
  WholeBack: the law's walk.
-/
import Derived.Test.YtgfiogjfgbegpaaGreatBz49
import Derived.Test.YtgfiogjfgbegpaaGreatBz54
namespace Go.Proofs.YtgfiogjfgbegpaaGreat
open Go Go.RowKit Go.Maps Go.WideShapes

set_option maxRecDepth 100000 in
set_option maxHeartbeats 8000000 in
theorem WholeBack_any (d : DefD) (sa : Option Addr) (sc : Nat) (bad : Nat) (w : World) (h : DefR w [.string d.name, .string d.text, .slice sa d.steps.length sc] d sa sc) (hbad : bad < 256) :
    Calls Tryz.prog 5 #[.agg #[.string d.name, .string d.text, .slice sa d.steps.length sc], .int .u8 (bad : Int)] w fun e w' => e = .returned (.bool true) ∧ Below w.heap.size w w' := by
  obtain ⟨i0, hi, hz0, hz1, hz2⟩ := info_parts Tryz.info_int
  obtain ⟨i1, hi1, hy0, hy1, hy2⟩ := info_parts Tryz.info_ord
  have hb0 := (Below.refl w.heap.size w).alloc (Nat.le_refl _) (.cells #[.string d.name, .string d.text, .slice sa d.steps.length sc] 24)
  have HD := Lib.hid (h.below hb0)
  have HG := Lib.hid (World.alloc_heap_new w (.cells #[.string d.name, .string d.text, .slice sa d.steps.length sc] 24))
  clear h
  go_enter Tryz.func5, Tryz.ntmps5
  go_upto_region 1 with fail
  generalize (w.alloc (.cells #[.string d.name, .string d.text, .slice sa d.steps.length sc] 24)) = w0 at *
  have HB0 := Lib.hid hb0
  have hlt := (Array.getElem?_eq_some_iff.1 HG.out).1
  clear hb0
  go_wp2_with fail
  refine (awakeSaga_any _).mono ?_
  rintro e w1 ⟨rfl, hb1⟩
  have HB1 := Lib.hid (bthen HB0.out (Nat.le_refl _) hb1)
  have HD1 := Lib.hid (HD.out.below hb1)
  have HG1 := Lib.hid ((hb1.block _ hlt).trans HG.out)
  obtain ⟨q0, q1, q2, -, -, -⟩ := cells3h HG1.out
  clear hb1
  go_wp2_with fail
  refine (rdSmall_any d _ _ _ w1 HD1.out).mono ?_
  rintro e w2 ⟨rfl, hb2⟩
  clear q0 q1 q2
  have HB2 := Lib.hid (bthen HB1.out (Nat.le_refl _) hb2)
  have HD2 := Lib.hid (HD1.out.below hb2)
  have hlt1 := (Array.getElem?_eq_some_iff.1 HG1.out).1
  have HG2 := Lib.hid ((hb2.block _ hlt1).trans HG1.out)
  obtain ⟨q0, q1, q2, -, -, -⟩ := cells3h HG2.out
  clear hb2
  rcases hsm : smallDef d with _ | _
  · clear hsm
    go_wp2
    go_ret
    exact ⟨rfl, HB2.out⟩
  have HSM := Lib.hid (smallDef_of hsm)
  clear hsm
  go_wp2_with fail
  refine (Clean_any d _ _ _ w2 HD2.out HSM.out).mono ?_
  rintro e w3 ⟨rfl, hb3⟩
  clear q0 q1 q2
  have HB3 := Lib.hid (bthen HB2.out (Nat.le_refl _) hb3)
  have HD3 := Lib.hid (HD2.out.below hb3)
  have hlt2 := (Array.getElem?_eq_some_iff.1 HG2.out).1
  have HG3 := Lib.hid ((hb3.block _ hlt2).trans HG2.out)
  obtain ⟨q0, q1, q2, -, -, -⟩ := cells3h HG3.out
  clear hb3
  rcases hcl : cleanB d with _ | _
  · clear hcl
    go_wp2
    go_ret
    exact ⟨rfl, HB3.out⟩
  have HCL := Lib.hid hcl
  have hn30 := HSM.out.steps
  have hpos := clean_some hcl
  clear hcl
  have hlt3 := (Array.getElem?_eq_some_iff.1 HG3.out).1
  go_wp2_with fail
  refine (New_any d _ _ _ w3 HD3.out HSM.out HCL.out).mono ?_
  rintro e w4 ⟨k, U, rfl, hkd, hkr, hsag, hb4, hU⟩
  clear q0 q1 q2
  have HG4 := Lib.hid ((hb4.block _ hlt3).trans HG3.out)
  obtain ⟨q0, q1, q2, -, -, -⟩ := cells3h HG4.out
  have HF := Lib.hid (fine_new hkd hkr HSM.out)
  have hN4 := hsag.bound
  have hs4 := hb4.size
  have HST := Lib.hid (Start_any k newSag 0 U w4 hsag (fun j hj => (hU j hj).2) HF.out (InvS.new _).good)
  have HU := Lib.hid hU
  have HB4 := Lib.hid hb4
  rw [hkd, hkr] at HST
  have HKD := Lib.hid hkd
  have HKR := Lib.hid hkr
  clear hkd hkr hsag hb4 hU
  have hne : ((d.steps.length : Int) == 0) = false := beq_eq_false_iff_ne.2 (by omega)
  have hn0 : (d.steps.length : Int) ≠ 0 := by omega
  go_wp2_with fail
  have hf : 0 ≤ (bad : Int) % (d.steps.length : Int) ∧ (bad : Int) % (d.steps.length : Int) < (d.steps.length : Int) := ⟨Int.emod_nonneg _ hn0, Int.emod_lt_of_pos _ (by omega)⟩
  have HQ0 := Lib.hid (back_start (d := d) (fail := (bad : Int) % (d.steps.length : Int)) HCL.out)
  generalize (bad : Int) % (d.steps.length : Int) = fail at *
  refine HST.out.mono ?_
  rintro e w5 ⟨v, rfl, hc⟩
  obtain ⟨V, oa, oc, rfl, hr5, hno5, hS5, hV5, hb5, hst5⟩ := hc.afterR (B := w3.heap.size) (fun j hj => HU.out j hj) hs4
  have hqb5 : ∀ g, queB oa oc = some g → (Value.slice oa (startX d.steps (depsA d.steps 0 d.steps) newSag 0).2.length oc).ownBlock = some g := fun g hg => by
    unfold queB at hg
    split at hg
    · cases hg
    · cases oa with
      | none => cases hg
      | some a => exact hg
  have HM5 : Hid (BakM w3 w4.heap.size k V w5 (startX d.steps (depsA d.steps 0 d.steps) newSag 0).1 (startX d.steps (depsA d.steps 0 d.steps) newSag 0).2 oa oc [] none 0) := Lib.hid ⟨hS5, hV5, QueR.of_owns hr5 (by decide), fun g hg => ⟨(hr5.lt g (hqb5 g hg)).1, hno5 g (hqb5 g hg)⟩, World.ownsRow_nil _ _ _ _, fun g hg => (by cases hg), HB4.out.trans hb5, hN4, ⟨hs4, hb5.size⟩⟩
  clear hc hr5 hno5 hS5 hV5 hb5 hst5 hqb5 q0 q1 q2 HST HU
  generalize (startX d.steps (depsA d.steps 0 d.steps) newSag 0).1 = S0 at *
  generalize (startX d.steps (depsA d.steps 0 d.steps) newSag 0).2 = td0 at *
  have HANS := Lib.hid (fun (S : SagD) (V : Nat → Prop) (W : World) (st tr o : Int) (u : Bool) (h1 : SagE W V k S) h2 (h3 : GoodS k.d.steps.length S) => AnswerS_any k S st tr o 0 u V W h1 h2 HF.out h3)
  rw [HKD.out, HKR.out] at HANS
  go_wp2_with fail
  go_loopg [9, 10, 8] 201 (fun gk un i td wi => ∃ (j : Nat) (S : SagD) (V : Nat → Prop) (todo : List OrdD) (und : List Int) (c : Nat) (ta : Option Addr) (tc : Nat) (ua : Option Addr) (uc : Nat), j + gk = 201 ∧ j + c ≤ 4 * d.steps.length + 1 ∧ i = .int .i64 j ∧ td = .slice ta todo.length tc ∧ un = .slice ua und.length uc ∧ Hid (BackQ d.steps (depsA d.steps 0 d.steps) fail S todo und c) ∧ Hid (BakM w3 w4.heap.size k V wi S todo ta tc und ua uc))
  case atStart => exact ⟨0, S0, V, td0, [], 4 * d.steps.length + 1, oa, oc, none, 0, by omega, by omega, rfl, rfl, rfl, HQ0, HM5⟩
  case round =>
    obtain ⟨j, S, V, todo, und, c, ta, tc, ua, uc, hgk, hjc, rfl, rfl, rfl, HQ, HM⟩ := hrel
    have hg : gk = 201 - j := by omega
    subst hg
    have hj200 : (j : Int) < 200 := by omega
    have d1 : decide ((j : Int) < (200 : Int)) = true := decide_eq_true (by omega)
    rcases todo with _ | ⟨o, rest⟩
    · have d2 : decide ((0 : Int) < ((([] : List OrdD).length : Nat) : Int)) = false := rfl
      have hD := HQ.out.done HCL.out hf
      have HBD := Lib.hid hD
      have hdl := hD.inv.dl
      have hul : S.undone.length = S.done.length := by rw [hD.un, List.length_reverse]
      have HUD : Hid (und = undK d.steps S.done 0) := Lib.hid (by rw [hD.ud, hD.un]; rfl)
      have hnf : decide (fail ∈ S.done) = false := decide_eq_false hD.ff
      have HNF := Lib.hid hnf
      have HBW := Lib.hid HM.out.low
      have HDO := Lib.hid (Done_any k S V wr HM.out.sag (by omega))
      have HUN := Lib.hid (fun W (hb : Below wr.heap.size wr W) => Undone_any k S V W (HM.out.sag.below hb) (by omega))
      have HSTA := Lib.hid (fun W (hb : Below wr.heap.size wr W) => Status_any k S V W (HM.out.sag.below hb))
      rw [hD.st] at HSTA
      rw [hul] at HUN
      have HUR := Lib.hid (fun W (hb : Below wr.heap.size wr W) => (RdS.of_owns HM.out.un).below hb)
      have HUL := Lib.hid hul
      clear hD hul hnf HQ HM HANS hf
      go_wp2_with fail
      refine HDO.out.mono ?_
      rintro e w10 ⟨da, dc, rfl, ho10, hb10⟩
      have HB10 := Lib.hid hb10
      have HDR := Lib.hid (RdS.of_owns ho10)
      have HHAS := Lib.hid (rHas_any S.done fail _ w10 (RdS.of_owns ho10))
      rw [HNF.out] at HHAS
      clear ho10 hb10
      go_wp2_with fail
      refine (HSTA.out w10 HB10.out).mono ?_
      rintro e w' ⟨rfl, rfl⟩
      go_wp2_with fail
      refine HHAS.out.mono ?_
      rintro e w11 ⟨rfl, rfl⟩
      go_wp2_with fail
      go_loopg [16, 17] (S.done.length + 1) (fun gk kv iv wi => ∃ (q : Nat) (z : Int), gk = q + 1 ∧ q ≤ S.done.length ∧ z = (q : Int) - 1 ∧ iv = .int .i64 z ∧ kv = .int .i64 ((undK d.steps S.done q).length : Int) ∧ Hid (Below w11.heap.size w11 wi))
      case atStart => exact ⟨S.done.length, _, rfl, by omega, rfl, by go_num, by rw [undK_all]; rfl, Lib.hid (Below.refl _ _)⟩
      case round =>
        obtain ⟨q, z, hgq, hq, hz, rfl, rfl, HBI⟩ := hrel
        rename World => wi
        rcases q with _ | q
        · have d3 : decide ((0 : Int) ≤ z) = false := decide_eq_false (by omega)
          clear hz
          subst hgq
          have d6 : (((undK d.steps S.done 0).length : Int) == (und.length : Int)) = true := by rw [← HUD.out]; simp
          have hbw : Below wr.heap.size wr wi := HB10.out.trans (HBI.out.mono HB10.out.size)
          have HU2 := Lib.hid (HUN.out wi hbw)
          have hbd : Below w3.heap.size w3 wi := HBW.out.trans (hbw.mono HBW.out.size)
          have HFW := Lib.hid (HB3.out.trans (hbd.mono HB3.out.size))
          clear hbw hbd
          go_wp2_with fail
          refine HU2.out.mono ?_
          rintro e w12 ⟨xa, xc, rfl, hb12⟩
          have HB12 := Lib.hid hb12
          clear hb12
          go_wp2_with fail
          go_ret
          exact ⟨rfl, bthen HFW.out (Nat.le_refl _) HB12.out⟩
        · have HZ : Hid (z = (q : Int)) := Lib.hid (by omega)
          have d3 : decide ((0 : Int) ≤ z) = true := decide_eq_true (by omega)
          subst hgq
          clear hz
          go_upto_region 32 with fail
          have hz2 := HZ.out
          subst hz2
          clear d3
          have hq0 : (0 : Int) ≤ (q : Int) := by omega
          have hmem := HBD.out.inv.dn _ (List.getElem_mem (show q < S.done.length by omega))
          obtain ⟨xn, hxn⟩ : ∃ xn : Nat, S.done[q]'(show q < S.done.length by omega) = (xn : Int) := ⟨(S.done[q]'(show q < S.done.length by omega)).toNat, by omega⟩
          rw [hxn] at hmem
          have hxl : xn < d.steps.length := by omega
          have hx1 : (xn : Int) < (d.steps.length : Int) := by omega
          have hx0 : (0 : Int) ≤ (xn : Int) := by omega
          have hql : (q : Int) < (S.done.length : Int) := by omega
          obtain ⟨dg, doff, rfl, -, -, hdc⟩ := ints_at (HDR.out.below HBI.out) (show q < S.done.length by omega)
          rw [hxn] at hdc
          have hbw : Below wr.heap.size wr wi := HB10.out.trans (HBI.out.mono HB10.out.size)
          have hbd : Below w3.heap.size w3 wi := HBW.out.trans (hbw.mono HBW.out.size)
          obtain ⟨p0, p1, p2, -, -, -⟩ := cells3h ((hbd.block _ hlt3).trans HG3.out)
          obtain ⟨sg, soff, scap, aa, ac, ka, kc, ba, bc, he, hcl, hcu, hstx, hat⟩ := (HD3.out.steps.below hbd).at hxl
          cases he
          have z2 := hat.q2
          have HSTP := Lib.hid (undK_step (l := d.steps) (show q < S.done.length by omega))
          have hub : undB d.steps (S.done[q]'(show q < S.done.length by omega)) = !decide (d.steps[xn].undo = { data := #[] }) := by
            rw [hxn]
            unfold undB
            rw [show ((xn : Int)).toNat = xn by omega, List.getElem?_eq_getElem hxl]
            rfl
          rw [hub, hxn] at HSTP
          have HPRE := Lib.hid (undK_pre d.steps S.done q)
          have HUW := Lib.hid (HUR.out wi hbw)
          have hkl := (undK_pre d.steps S.done (q + 1)).length_le
          have hkl0 : (undK d.steps S.done 0).length ≤ 30 := by
            rw [← HUD.out]
            have := HBD.out.ud
            have h1 := List.length_filter_le (undB d.steps) S.undone
            have h2 := HUL.out
            rw [this]
            omega
          clear hub hmem hstx hcl hcu hbw hbd p0 p1 hat
          have HXN := Lib.hid hxn
          generalize hun : d.steps[xn].undo = us at *
          clear hun hxn
          by_cases hu : us = { data := #[] }
          · have hemp : us.toList.isEmpty = true := by rw [undo_nil]; exact decide_eq_true hu
            rw [if_neg (by rw [decide_eq_true hu]; decide)] at HSTP
            clear hu
            refine E_region (S := (fun W => W.cell? ⟨w.heap.size, 2, none⟩ = some (.slice (some ⟨sg, soff, none⟩) d.steps.length sc) ∧ W.cell? ⟨dg, doff + q, none⟩ = some (.int .i64 (xn : Int)) ∧ W.cell? ⟨sg, soff + xn * 13 + 2, none⟩ = some (.string us))) 9 (by kernel_rfl) ⟨p2, hdc, z2⟩ (fun _ _ _ _ _ h => h) (fun Q' hQ hK' hHeld => ?_)
            refine E_take0 hQ (fun _ => hHeld) 0 (v := ?rav1) rfl rfl (by kernel_rfl) (by kernel_rfl) (by kernel_rfl) (by decide) (by rfl) ?ray1 ?rar1
            case ray1 => (intro w; go_simp; (try with_reducible rfl))
            (try simp only [layE])
            refine E_take hQ hHeld 1 (v := ?rav2) rfl rfl (by kernel_rfl) (by kernel_rfl) (by kernel_rfl) (by kernel_rfl) (by kernel_rfl) (by rfl) ?ray2 ?rar2
            case ray2 => (intro w hSw; (try dsimp only at hSw); go_simp; (try with_reducible rfl))
            (try simp only [layE])
            refine E_take0 hQ (fun _ => hHeld) 2 (v := ?rav3) rfl rfl (by kernel_rfl) (by kernel_rfl) (by kernel_rfl) (by decide) (by rfl) ?ray3 ?rar3
            case ray3 => (intro w; go_simp; (try with_reducible rfl))
            (try simp only [layE])
            refine E_take0 hQ (fun _ => hHeld) 3 (v := ?rav4) rfl rfl (by kernel_rfl) (by kernel_rfl) (by kernel_rfl) (by decide) (by rfl) ?ray4 ?rar4
            case ray4 => (intro w; go_simp; (try with_reducible rfl))
            (try simp only [layE])
            refine E_take0 hQ (fun _ => hHeld) 4 (v := ?rav5) rfl rfl (by kernel_rfl) (by kernel_rfl) (by kernel_rfl) (by decide) (by rfl) ?ray5 ?rar5
            case ray5 => (intro w; go_simp; (try with_reducible rfl))
            (try simp only [layE])
            refine E_take hQ hHeld 5 (v := ?rav6) rfl rfl (by kernel_rfl) (by kernel_rfl) (by kernel_rfl) (by kernel_rfl) (by kernel_rfl) (by rfl) ?ray6 ?rar6
            case ray6 => (intro w hSw; (try dsimp only at hSw); go_simp; (try with_reducible rfl))
            (try simp only [layE])
            refine E_take0 hQ (fun _ => hHeld) 6 (v := ?rav7) rfl rfl (by kernel_rfl) (by kernel_rfl) (by kernel_rfl) (by decide) (by rfl) ?ray7 ?rar7
            case ray7 => (intro w; go_simp; (try with_reducible rfl))
            (try simp only [layE])
            refine E_take0 hQ (fun _ => hHeld) 7 (v := ?rav8) rfl rfl (by kernel_rfl) (by kernel_rfl) (by kernel_rfl) (by decide) (by rfl) ?ray8 ?rar8
            case ray8 => (intro w; go_simp; (try with_reducible rfl))
            (try simp only [layE])
            refine E_take hQ hHeld 8 (v := ?rav9) rfl rfl (by kernel_rfl) (by kernel_rfl) (by kernel_rfl) (by kernel_rfl) (by kernel_rfl) (by rfl) ?ray9 ?rar9
            case ray9 => (intro w hSw; (try dsimp only at hSw); go_simp; (try with_reducible rfl))
            (try simp only [layE])
            refine E_one 9 (by kernel_rfl) rfl (by rfl) (fun K hK => ?_)
            go_simp
            (try simp only [layE])
            refine hK.out _ _ (fun _ h => absurd rfl h) (fun _ => ?_)
            clear hK hHeld
            (try simp only [layE])
            refine E_done (by kernel_rfl) ?_ _
            refine hK'.out _ _ ?_
            clear hK' hQ z2 hemp p2 hdc
            go_wp2_with fail
            go_roundg (q + 1)
            case measure => omega
            case rel => exact ⟨q, _, rfl, by omega, rfl, by go_num, by rw [HSTP.out], Lib.hid (HBI.out.trans ((Below.refl _ _).drew.mono HBI.out.size))⟩
          · have hemp : us.toList.isEmpty = false := by rw [undo_nil]; exact decide_eq_false hu
            rw [if_pos (by rw [decide_eq_false hu]; decide)] at HSTP
            clear hu
            refine E_region (S := (fun W => W.cell? ⟨w.heap.size, 2, none⟩ = some (.slice (some ⟨sg, soff, none⟩) d.steps.length sc) ∧ W.cell? ⟨dg, doff + q, none⟩ = some (.int .i64 (xn : Int)) ∧ W.cell? ⟨sg, soff + xn * 13 + 2, none⟩ = some (.string us))) 9 (by kernel_rfl) ⟨p2, hdc, z2⟩ (fun _ _ _ _ _ h => h) (fun Q' hQ hK' hHeld => ?_)
            refine E_take0 hQ (fun _ => hHeld) 0 (v := ?rbv1) rfl rfl (by kernel_rfl) (by kernel_rfl) (by kernel_rfl) (by decide) (by rfl) ?rby1 ?rbr1
            case rby1 => (intro w; go_simp; (try with_reducible rfl))
            (try simp only [layE])
            refine E_take hQ hHeld 1 (v := ?rbv2) rfl rfl (by kernel_rfl) (by kernel_rfl) (by kernel_rfl) (by kernel_rfl) (by kernel_rfl) (by rfl) ?rby2 ?rbr2
            case rby2 => (intro w hSw; (try dsimp only at hSw); go_simp; (try with_reducible rfl))
            (try simp only [layE])
            refine E_take0 hQ (fun _ => hHeld) 2 (v := ?rbv3) rfl rfl (by kernel_rfl) (by kernel_rfl) (by kernel_rfl) (by decide) (by rfl) ?rby3 ?rbr3
            case rby3 => (intro w; go_simp; (try with_reducible rfl))
            (try simp only [layE])
            refine E_take0 hQ (fun _ => hHeld) 3 (v := ?rbv4) rfl rfl (by kernel_rfl) (by kernel_rfl) (by kernel_rfl) (by decide) (by rfl) ?rby4 ?rbr4
            case rby4 => (intro w; go_simp; (try with_reducible rfl))
            (try simp only [layE])
            refine E_take0 hQ (fun _ => hHeld) 4 (v := ?rbv5) rfl rfl (by kernel_rfl) (by kernel_rfl) (by kernel_rfl) (by decide) (by rfl) ?rby5 ?rbr5
            case rby5 => (intro w; go_simp; (try with_reducible rfl))
            (try simp only [layE])
            refine E_take hQ hHeld 5 (v := ?rbv6) rfl rfl (by kernel_rfl) (by kernel_rfl) (by kernel_rfl) (by kernel_rfl) (by kernel_rfl) (by rfl) ?rby6 ?rbr6
            case rby6 => (intro w hSw; (try dsimp only at hSw); go_simp; (try with_reducible rfl))
            (try simp only [layE])
            refine E_take0 hQ (fun _ => hHeld) 6 (v := ?rbv7) rfl rfl (by kernel_rfl) (by kernel_rfl) (by kernel_rfl) (by decide) (by rfl) ?rby7 ?rbr7
            case rby7 => (intro w; go_simp; (try with_reducible rfl))
            (try simp only [layE])
            refine E_take0 hQ (fun _ => hHeld) 7 (v := ?rbv8) rfl rfl (by kernel_rfl) (by kernel_rfl) (by kernel_rfl) (by decide) (by rfl) ?rby8 ?rbr8
            case rby8 => (intro w; go_simp; (try with_reducible rfl))
            (try simp only [layE])
            refine E_take hQ hHeld 8 (v := ?rbv9) rfl rfl (by kernel_rfl) (by kernel_rfl) (by kernel_rfl) (by kernel_rfl) (by kernel_rfl) (by rfl) ?rby9 ?rbr9
            case rby9 => (intro w hSw; (try dsimp only at hSw); go_simp; (try with_reducible rfl))
            (try simp only [layE])
            refine E_one 9 (by kernel_rfl) rfl (by rfl) (fun K hK => ?_)
            go_simp
            (try simp only [layE])
            refine hK.out _ _ (fun _ h => absurd rfl h) (fun _ => ?_)
            clear hK hHeld
            (try simp only [layE])
            refine E_done (by kernel_rfl) ?_ _
            refine hK'.out _ _ ?_
            clear hK' hQ z2 hemp p2
            have hkq : (undK d.steps S.done q).length = (undK d.steps S.done (q + 1)).length + 1 := by rw [HSTP.out, List.length_append, List.length_singleton]
            have hpl := (undK_pre d.steps S.done q).length_le
            have hul2 : und.length = (undK d.steps S.done 0).length := by rw [← HUD.out]
            have hlt2 : (undK d.steps S.done (q + 1)).length < und.length := by omega
            obtain ⟨ug, uoff, rfl, -, -, huc⟩ := ints_at HUW.out hlt2
            have hue : und[(undK d.steps S.done (q + 1)).length]'hlt2 = (xn : Int) := by
              obtain ⟨suf, he2⟩ := HPRE.out
              rw [HSTP.out, ← HUD.out] at he2
              have : und[(undK d.steps S.done (q + 1)).length]? = some (xn : Int) := by rw [← he2]; simp
              rw [List.getElem?_eq_getElem hlt2, Option.some.injEq] at this
              exact this
            rw [hue] at huc
            have HKQ := Lib.hid hkq
            have hk30 : (undK d.steps S.done (q + 1)).length ≤ 30 := by omega
            clear hue hkq hpl hul2 hkl hkl0
            generalize (undK d.steps S.done (q + 1)).length = kq at *
            have d5 : decide ((und.length : Int) ≤ (kq : Int)) = false := decide_eq_false (by omega)
            have hk0 : (0 : Int) ≤ (kq : Int) := by omega
            have hk1 : (kq : Int) < (und.length : Int) := by omega
            have dx : ((xn : Int) != (xn : Int)) = false := bne_self_eq_false _
            go_upto_region 33 with fail
            refine E_region (S := (fun W => W.cell? ⟨ug, uoff + kq, none⟩ = some (.int .i64 (xn : Int)) ∧ W.cell? ⟨dg, doff + q, none⟩ = some (.int .i64 (xn : Int)))) 14 (by kernel_rfl) ⟨huc, hdc⟩ (fun _ _ _ _ _ h => h) (fun Q' hQ hK' hHeld => ?_)
            refine E_take0 hQ (fun _ => hHeld) 0 (v := ?rcv1) rfl rfl (by kernel_rfl) (by kernel_rfl) (by kernel_rfl) (by decide) (by rfl) ?rcy1 ?rcr1
            case rcy1 => (intro w; go_simp; (try with_reducible rfl))
            (try simp only [layE])
            refine E_take0 hQ (fun _ => hHeld) 1 (v := ?rcv2) rfl rfl (by kernel_rfl) (by kernel_rfl) (by kernel_rfl) (by decide) (by rfl) ?rcy2 ?rcr2
            case rcy2 => (intro w; go_simp; (try with_reducible rfl))
            (try simp only [layE])
            refine E_take0 hQ (fun _ => hHeld) 2 (v := ?rcv3) rfl rfl (by kernel_rfl) (by kernel_rfl) (by kernel_rfl) (by decide) (by rfl) ?rcy3 ?rcr3
            case rcy3 => (intro w; go_simp; (try with_reducible rfl))
            (try simp only [layE])
            refine E_take0 hQ (fun _ => hHeld) 3 (v := .bool false) rfl rfl (by kernel_rfl) (by kernel_rfl) (by kernel_rfl) (by decide) (by rfl) ?rcy4 ?rcr4
            case rcy4 => (intro w; go_simp; (try with_reducible rfl))
            (try simp only [layE])
            refine E_take0 hQ (fun _ => hHeld) 4 (v := .bool false) rfl rfl (by kernel_rfl) (by kernel_rfl) (by kernel_rfl) (by decide) (by rfl) ?rcy5 ?rcr5
            case rcy5 => (intro w; go_simp; (try with_reducible rfl))
            (try simp only [layE])
            refine E_take0 hQ (fun _ => hHeld) 5 (v := ?rcv6) rfl rfl (by kernel_rfl) (by kernel_rfl) (by kernel_rfl) (by decide) (by rfl) ?rcy6 ?rcr6
            case rcy6 => (intro w; go_simp; (try with_reducible rfl))
            (try simp only [layE])
            refine E_take0 hQ (fun _ => hHeld) 6 (v := ?rcv7) rfl rfl (by kernel_rfl) (by kernel_rfl) (by kernel_rfl) (by decide) (by rfl) ?rcy7 ?rcr7
            case rcy7 => (intro w; go_simp; (try with_reducible rfl))
            (try simp only [layE])
            refine E_take0 hQ (fun _ => hHeld) 7 (v := ?rcv8) rfl rfl (by kernel_rfl) (by kernel_rfl) (by kernel_rfl) (by decide) (by rfl) ?rcy8 ?rcr8
            case rcy8 => (intro w; go_simp; (try with_reducible rfl))
            (try simp only [layE])
            refine E_take hQ hHeld 8 (v := ?rcv9) rfl rfl (by kernel_rfl) (by kernel_rfl) (by kernel_rfl) (by kernel_rfl) (by kernel_rfl) (by rfl) ?rcy9 ?rcr9
            case rcy9 => (intro w hSw; (try dsimp only at hSw); go_simp; (try with_reducible rfl))
            (try simp only [layE])
            refine E_take0 hQ (fun _ => hHeld) 9 (v := ?rcv10) rfl rfl (by kernel_rfl) (by kernel_rfl) (by kernel_rfl) (by decide) (by rfl) ?rcy10 ?rcr10
            case rcy10 => (intro w; go_simp; (try with_reducible rfl))
            (try simp only [layE])
            refine E_take0 hQ (fun _ => hHeld) 10 (v := ?rcv11) rfl rfl (by kernel_rfl) (by kernel_rfl) (by kernel_rfl) (by decide) (by rfl) ?rcy11 ?rcr11
            case rcy11 => (intro w; go_simp; (try with_reducible rfl))
            (try simp only [layE])
            refine E_take0 hQ (fun _ => hHeld) 11 (v := ?rcv12) rfl rfl (by kernel_rfl) (by kernel_rfl) (by kernel_rfl) (by decide) (by rfl) ?rcy12 ?rcr12
            case rcy12 => (intro w; go_simp; (try with_reducible rfl))
            (try simp only [layE])
            refine E_take hQ hHeld 12 (v := ?rcv13) rfl rfl (by kernel_rfl) (by kernel_rfl) (by kernel_rfl) (by kernel_rfl) (by kernel_rfl) (by rfl) ?rcy13 ?rcr13
            case rcy13 => (intro w hSw; (try dsimp only at hSw); go_simp; (try with_reducible rfl))
            (try simp only [layE])
            refine E_take0 hQ (fun _ => hHeld) 13 (v := .bool false) rfl rfl (by kernel_rfl) (by kernel_rfl) (by kernel_rfl) (by decide) (by rfl) ?rcy14 ?rcr14
            case rcy14 => (intro w; go_simp; (try with_reducible rfl))
            (try simp only [layE])
            refine E_one 14 (by kernel_rfl) rfl (by rfl) (fun K hK => ?_)
            go_simp
            (try simp only [layE])
            refine hK.out _ _ (fun _ h => absurd rfl h) (fun _ => ?_)
            clear hK hHeld
            (try simp only [layE])
            refine E_done (by kernel_rfl) ?_ _
            refine hK'.out _ _ ?_
            clear hK' hQ huc hdc d5 dx
            go_wp2_with fail
            go_roundg (q + 1)
            case measure => omega
            case rel => exact ⟨q, _, rfl, by omega, rfl, by go_num, by rw [HKQ.out]; go_num, Lib.hid (HBI.out.trans ((Below.refl _ _).drew.drew.mono HBI.out.size))⟩
    · obtain ⟨o1, o2, ou, o4⟩ := o
      have d2 : decide ((0 : Int) < ((((o1, o2, ou, o4) :: rest : List OrdD).length : Nat) : Int)) = true := decide_eq_true (by rw [List.length_cons]; omega)
      obtain ⟨hc1, hinv, hok, hq'⟩ := HQ.out.answer hf
      have hlen := HQ.out.len
      have HQ' := Lib.hid hq'
      have HOK := Lib.hid hok
      have HINV := Lib.hid hinv
      obtain ⟨g, off, rfl, hcells⟩ := HM.out.q.cells (Nat.succ_pos _)
      have z0 := hcells 0 _ rfl
      have z1 := hcells 1 _ rfl
      have z2 := hcells 2 _ rfl
      have z3 := hcells 3 _ rfl
      rw [Nat.add_zero] at z0
      obtain ⟨ta', hta, HMT⟩ := HM.out.tail
      have hta2 : (if tc = 1 then some (⟨g, off, none⟩ : Addr) else some ⟨g, off + 4, none⟩) = ta' := by
        have e := (Value.slice.inj hta).1
        rw [← e]
        simp [Addr.add_lit]
      have HT2 := Lib.hid hta2
      have HMT := Lib.hid HMT
      have hb6 : Below wr.heap.size wr (wr.alloc (.cells #[.int .i64 o1, .int .i64 o2, .bool ou, .int .i64 o4] 55)) := (Below.refl _ _).alloc (Nat.le_refl _) _
      have g6 := World.alloc_heap_new wr (.cells #[.int .i64 o1, .int .i64 o2, .bool ou, .int .i64 o4] 55)
      clear hcells hq' hok hinv HQ hta hta2
      go_upto_region 15 with fail
      generalize wr.alloc (.cells #[.int .i64 o1, .int .i64 o2, .bool ou, .int .i64 o4] 55) = w6 at *
      have hql := HM.out.q.2.1
      have hqc : tc ≤ 9223372036854775807 := by have := HM.out.q.2.2.1; unfold maxLen at this; omega
      have hq1 : 1 ≤ ((o1, o2, ou, o4) :: rest : List OrdD).length := Nat.succ_pos _
      obtain ⟨x0, x1, x2, x3, -⟩ := cells4h g6
      have hl6 := (Array.getElem?_eq_some_iff.1 g6).1
      clear z0 z1 z2 z3 d1 d2
      go_upto_region 16 with fail
      rw [HT2.out]
      have HM6 := Lib.hid (HMT.out.below hb6)
      have hb7 : Below w6.heap.size w6 (w6.alloc (.cells #[.int .i64 o1, .int .i64 o2, .bool ou, .int .u8 0] 30)) := (Below.refl _ _).alloc (Nat.le_refl _) _
      have g7 := World.alloc_heap_new w6 (.cells #[.int .i64 o1, .int .i64 o2, .bool ou, .int .u8 0] 30)
      clear hql hqc hq1 HT2 HM HMT hb6
      go_upto_region 17 with fail
      generalize w6.alloc (.cells #[.int .i64 o1, .int .i64 o2, .bool ou, .int .u8 0] 30) = w7 at *
      have HM7 := Lib.hid (HM6.out.below hb7)
      have HX2 : Hid (w4.heap.size ≤ w6.heap.size ∧ ¬ V w6.heap.size ∧ queB ta' (tc - 1) ≠ some w6.heap.size ∧ (Value.slice ua und.length uc).ownBlock ≠ some w6.heap.size) := Lib.hid ⟨HM6.out.b2.2, fun e => by have := (HM6.out.vB _ e).2; omega, fun e => by have := HM6.out.qlt e; omega, fun e => by have := (HM6.out.un.lt _ e).2; omega⟩
      obtain ⟨x0, x1, x2, x3, -⟩ := cells4h ((hb7.block _ hl6).trans g6)
      have HG7 := Lib.hid g7
      generalize w6.heap.size = X2 at *
      clear hb7 g6 HM6
      rw [List.length_cons] at hlen
      rcases ou with _ | _
      · clear x1 x3
        by_cases he : o1 = fail
        · have d3 : (o1 == fail) = true := by simpa using he
          have HE := Lib.hid he
          clear he
          have hf7 := froz8 (i := 3) g7
          have HM8 : Hid (BakM w3 w4.heap.size k V (w7.setCell ⟨X2, 3, none⟩ (.int .u8 2)) S rest ta' (tc - 1) und ua uc) := Lib.hid (HM7.out.away HX2.out _)
          have g8 : (w7.setCell ⟨X2, 3, none⟩ (.int .u8 2)).heap[X2]? = some (.cells #[.int .i64 o1, .int .i64 o2, .bool false, .int .u8 2] 30 (0, 0)) := by
            have := setCell_heap 3 (.int .u8 2) g7
            simpa using this
          obtain ⟨y0, y1, y2, y3, -⟩ := cells4h g7
          go_upto_region 21 with fail
          generalize w7.setCell ⟨X2, 3, none⟩ (.int .u8 2) = w8 at *
          clear y0 y1 y2 y3 x0 x2 d3
          obtain ⟨y0, y1, y2, y3, -⟩ := cells4h g8
          clear g7 g8 HG7 hf7
          have HA := Lib.hid (HANS.out S V w8 o1 o2 2 false HM8.out.sag (fun j hj => (HM8.out.vB j hj).2) HINV.out.good)
          have HOK' : Hid ((answerX d.steps (depsA d.steps 0 d.steps) S (o1, false) o2 2 0).2 = true) := Lib.hid (by have := HOK.out; (have ho : outQ fail (o1, o2, false, o4) = 2 := by (unfold outQ; rw [if_neg (fun e => by cases e), if_pos HE.out])); rw [ho] at this; exact this)
          have HQ'' : Hid (BackQ d.steps (depsA d.steps 0 d.steps) fail (answerX d.steps (depsA d.steps 0 d.steps) S (o1, false) o2 2 0).1.1 (rest ++ (answerX d.steps (depsA d.steps 0 d.steps) S (o1, false) o2 2 0).1.2) und (c - 1)) := Lib.hid (by have := HQ'.out; (have ho : outQ fail (o1, o2, false, o4) = 2 := by (unfold outQ; rw [if_neg (fun e => by cases e), if_pos HE.out])); rw [ho] at this; exact this)
          rw [HOK'.out] at HA
          go_wp2_with fail
          refine HA.out.mono ?_
          rintro e w9 ⟨v, rfl, hc⟩
          obtain ⟨V9, oa9, oc9, rfl, HM9, hr9⟩ := HM8.out.call hc
          have HR9 := Lib.hid hr9
          have HM9 := Lib.hid HM9
          have hln := HQ''.out.len
          rw [List.length_append] at hln
          clear hc hr9 HA HOK HQ' HOK' y0 y1 y2 y3
          generalize (answerX d.steps (depsA d.steps 0 d.steps) S (o1, false) o2 2 0).1.1 = S9 at *
          generalize (answerX d.steps (depsA d.steps 0 d.steps) S (o1, false) o2 2 0).1.2 = os9 at *
          go_wp2_with (at_builtin; go_must (refine wpList_que rfl _ _ 52 rfl 55 i1 (.agg #[.int .i64 0, .int .i64 0, .bool false, .int .i64 0]) 4 32 Tryz.underlying52 hi1 hy0 hy1 hy2 rfl (by decide) _ _ _ _ rfl HM9.out.q _ os9.length (flatO os9) rfl HR9.out (flatO_one os9) (by unfold maxLen; omega) (by omega) ?_; intro ao' cap' w10 hq10 hg10 hn10; have HM10 := Lib.hid (HM9.out.que hq10 hg10 hn10); clear hq10 hg10 hn10))
          go_roundg (201 - (j + 1))
          case measure => omega
          case rel => exact ⟨j + 1, S9, V9, rest ++ os9, und, c - 1, ao', cap', ua, uc, by omega, by omega, by go_num, by rw [List.length_append], rfl, HQ'', HM10⟩

        · have d3 : (o1 == fail) = false := by simpa using he
          have HE := Lib.hid he
          clear he
          obtain ⟨y0, y1, y2, y3, -⟩ := cells4h g7
          clear g7
          have HA := Lib.hid (HANS.out S V w7 o1 o2 0 false HM7.out.sag (fun j hj => (HM7.out.vB j hj).2) HINV.out.good)
          have HOK' : Hid ((answerX d.steps (depsA d.steps 0 d.steps) S (o1, false) o2 0 0).2 = true) := Lib.hid (by have := HOK.out; (have ho : outQ fail (o1, o2, false, o4) = 0 := by (unfold outQ; rw [if_neg (fun e => by cases e), if_neg HE.out])); rw [ho] at this; exact this)
          have HQ'' : Hid (BackQ d.steps (depsA d.steps 0 d.steps) fail (answerX d.steps (depsA d.steps 0 d.steps) S (o1, false) o2 0 0).1.1 (rest ++ (answerX d.steps (depsA d.steps 0 d.steps) S (o1, false) o2 0 0).1.2) und (c - 1)) := Lib.hid (by have := HQ'.out; (have ho : outQ fail (o1, o2, false, o4) = 0 := by (unfold outQ; rw [if_neg (fun e => by cases e), if_neg HE.out])); rw [ho] at this; exact this)
          rw [HOK'.out] at HA
          go_wp2_with fail
          refine HA.out.mono ?_
          rintro e w9 ⟨v, rfl, hc⟩
          obtain ⟨V9, oa9, oc9, rfl, HM9, hr9⟩ := HM7.out.call hc
          have HR9 := Lib.hid hr9
          have HM9 := Lib.hid HM9
          have hln := HQ''.out.len
          rw [List.length_append] at hln
          clear hc hr9 HA HOK HQ' HOK' y0 y1 y2 y3
          generalize (answerX d.steps (depsA d.steps 0 d.steps) S (o1, false) o2 0 0).1.1 = S9 at *
          generalize (answerX d.steps (depsA d.steps 0 d.steps) S (o1, false) o2 0 0).1.2 = os9 at *
          go_wp2_with (at_builtin; go_must (refine wpList_que rfl _ _ 52 rfl 55 i1 (.agg #[.int .i64 0, .int .i64 0, .bool false, .int .i64 0]) 4 32 Tryz.underlying52 hi1 hy0 hy1 hy2 rfl (by decide) _ _ _ _ rfl HM9.out.q _ os9.length (flatO os9) rfl HR9.out (flatO_one os9) (by unfold maxLen; omega) (by omega) ?_; intro ao' cap' w10 hq10 hg10 hn10; have HM10 := Lib.hid (HM9.out.que hq10 hg10 hn10); clear hq10 hg10 hn10))
          go_roundg (201 - (j + 1))
          case measure => omega
          case rel => exact ⟨j + 1, S9, V9, rest ++ os9, und, c - 1, ao', cap', ua, uc, by omega, by omega, by go_num, by rw [List.length_append], rfl, HQ'', HM10⟩

      · have g5 := World.alloc_heap_new w7 (.cells #[.int .i64 o1] 3)
        have hb72 := HM7.out.b2
        clear x1 x3
        go_upto_region 21 with (at_builtin; go_must (refine wpList_pushS rfl _ _ 38 rfl w4.heap.size 3 i0 (.int .i64 0) 1 8 Tryz.underlying38 hi hz0 hz1 hz2 rfl (by decide) _ _ _ rfl (ownsRow_keepB HM7.out.un (fun q hq => Below.heap_alloc _ _ _ (HM7.out.un.lt q hq).2)) (.slice (some ⟨w7.heap.size, 0, none⟩) 1 1) 1 [.int .i64 o1] rfl (rds_rowK 1 1 (l := [.int .i64 o1]) g5 rfl (by decide)) (fun u hu => by cases List.mem_singleton.1 hu; rfl) (by unfold maxLen; omega) (by omega) (by simp; omega) ?_; intro v' w8 hown' hgrow hfr; obtain ⟨ua', uc', rfl⟩ := (RdS.of_owns hown').form))
        have HM8 := Lib.hid (HM7.out.noted hown' hgrow hfr)
        have g8 := ((hgrow.block X2 (by have := (Array.getElem?_eq_some_iff.1 HG7.out).1; simp; omega) (fun e => HX2.out.2.2.2 e.symm)).trans (Below.heap_alloc _ _ _ (Array.getElem?_eq_some_iff.1 HG7.out).1)).trans HG7.out
        clear hown' hgrow hfr x0 x2 g5 g7 HG7
        obtain ⟨y0, y1, y2, y3, -⟩ := cells4h g8
        clear g8
        have HA := Lib.hid (HANS.out S V w8 o1 o2 0 true HM8.out.sag (fun j hj => (HM8.out.vB j hj).2) HINV.out.good)
        have HOK' : Hid ((answerX d.steps (depsA d.steps 0 d.steps) S (o1, true) o2 0 0).2 = true) := Lib.hid (by have := HOK.out; (have ho : outQ fail (o1, o2, true, o4) = 0 := by (unfold outQ; rw [if_pos rfl])); rw [ho] at this; exact this)
        have HQ'' : Hid (BackQ d.steps (depsA d.steps 0 d.steps) fail (answerX d.steps (depsA d.steps 0 d.steps) S (o1, true) o2 0 0).1.1 (rest ++ (answerX d.steps (depsA d.steps 0 d.steps) S (o1, true) o2 0 0).1.2) (und ++ [o1]) (c - 1)) := Lib.hid (by have := HQ'.out; (have ho : outQ fail (o1, o2, true, o4) = 0 := by (unfold outQ; rw [if_pos rfl])); rw [ho] at this; exact this)
        rw [HOK'.out] at HA
        go_wp2_with fail
        refine HA.out.mono ?_
        rintro e w9 ⟨v, rfl, hc⟩
        obtain ⟨V9, oa9, oc9, rfl, HM9, hr9⟩ := HM8.out.call hc
        have HR9 := Lib.hid hr9
        have HM9 := Lib.hid HM9
        have hln := HQ''.out.len
        rw [List.length_append] at hln
        clear hc hr9 HA HOK HQ' HOK' y0 y1 y2 y3
        generalize (answerX d.steps (depsA d.steps 0 d.steps) S (o1, true) o2 0 0).1.1 = S9 at *
        generalize (answerX d.steps (depsA d.steps 0 d.steps) S (o1, true) o2 0 0).1.2 = os9 at *
        go_wp2_with (at_builtin; go_must (refine wpList_que rfl _ _ 52 rfl 55 i1 (.agg #[.int .i64 0, .int .i64 0, .bool false, .int .i64 0]) 4 32 Tryz.underlying52 hi1 hy0 hy1 hy2 rfl (by decide) _ _ _ _ rfl HM9.out.q _ os9.length (flatO os9) rfl HR9.out (flatO_one os9) (by unfold maxLen; omega) (by omega) ?_; intro ao' cap' w10 hq10 hg10 hn10; have HM10 := Lib.hid (HM9.out.que hq10 hg10 hn10); clear hq10 hg10 hn10))
        go_roundg (201 - (j + 1))
        case measure => omega
        case rel => exact ⟨j + 1, S9, V9, rest ++ os9, (und ++ [o1]), c - 1, ao', cap', ua', uc', by omega, by omega, by go_num, by rw [List.length_append], by rw [List.length_append]; rfl, HQ'', HM10⟩

end Go.Proofs.YtgfiogjfgbegpaaGreat
