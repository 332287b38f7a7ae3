/-
  Sagas: back: contract.
-/
import Derived.Test.YtgfiogjfgbegpaaGreatBz4
import Derived.Test.YtgfiogjfgbegpaaGreatBz35
import Derived.Test.YtgfiogjfgbegpaaGreatBz49
import Derived.Test.YtgfiogjfgbegpaaGreatBz50
namespace Go.Proofs.YtgfiogjfgbegpaaGreat
open Go Go.RowKit Go.Maps Go.WideShapes
attribute [local go_sem] Oper.semAt_some wide_fn wide_depth wide_fn' wide_depth'

theorem undo_nil {s : ByteArray} : s.toList.isEmpty = decide (s = { data := #[] }) := by
  rw [str_empty, decide_eq_decide]
  refine ⟨fun h => ByteArray.ext (Array.eq_empty_of_size_eq_zero h), fun h => by rw [h]; rfl⟩
theorem backL_succ {l : List StepD} {now : Int} {m : Nat} {Y : AskX} {jn : Nat} (h : Y.1.done[Y.1.done.length - 1 - Y.1.undone.length]? = some (jn : Int)) (hj : jn < l.length) :
    backL l now (m + 1) Y = if l[jn].undo = { data := #[] } ∨ (Y.1.runs ((jn : Int), true)).1 = 3 then backL l now m ({ Y.1 with undone := Y.1.undone ++ [(jn : Int)] }, Y.2) else if (Y.1.runs ((jn : Int), true)).1 = 4 then ({ Y.1 with status := 5 }, Y.2) else if (Y.1.runs ((jn : Int), true)).1 = 0 then putX Y ((jn : Int), true) (1, inc 0, nowI now + limI l[jn].limit, false) else Y := by
  rw [backL]
  dsimp only
  rw [h]
  simp only [Option.getD_some, Int.toNat_natCast, List.getElem?_eq_getElem hj]
  rfl
set_option maxRecDepth 100000 in
set_option maxHeartbeats 8000000 in
theorem back_any (k : SagK) (bs bo ob : Nat) (X : AskX) (now : Int) (U : Nat → Prop) (w : World) (h : AskE w U k bs bo ob X) (hf : FineK k) (hdl : X.1.done.length ≤ 900000) (hul : X.1.undone.length ≤ 900000) (hol : X.2.length ≤ 900000) (hdn : ∀ i ∈ X.1.done, 0 ≤ i ∧ i < (k.d.steps.length : Int)) : Calls Tryz.prog 85 #[.pointer (some ⟨k.p, 0, none⟩), .func (.func 83) #[] #[.pointer (some ⟨bs, 0, none⟩), .pointer (some ⟨bo, 0, none⟩)], .int .i64 now] w fun e w' => e = .returned (.tuple #[]) ∧ AskTo w U w' k bs bo ob (backX k.d.steps now X) := by
  have hn30 := hf.small.steps
  have HF := Lib.hid hf
  have HDN := Lib.hid hdn
  have HANY := Lib.hid (any_any k X.1 U 1 w h.sag (by omega))
  have HH := Lib.hid h
  have HUL : Hid (∀ us : List Int, us.length ≤ X.1.undone.length + X.1.done.length → us.length ≤ 1800000) := Lib.hid (fun us e => by omega)
  obtain ⟨p, m, sa, sc, vr, d, rs, N⟩ := k
  dsimp only at hn30 HANY HDN HH ⊢
  clear h hf hdn
  unfold backX
  rcases hany : anyB d.steps.length X.1 1 with _ | _
  case true =>
    rw [hany] at HANY
    simp only [if_true]
    have HFIN := Lib.hid (HH.out.to (Below.refl _ w))
    clear hany HH
    refine (callsIn_wide (n := 0)).1 ?_
    refine callsIn_of_wp Tryz.func85 rfl trivial ?_ rfl
    simp only [Tryz.ntmps85, List.size_toArray, List.length_cons, List.length_nil, Nat.reduceAdd, Nat.reduceSub, Array.replicate_succ, Array.replicate_zero, List.push_toArray, List.append_toArray, List.nil_append, List.cons_append]
    gi_wp2_with fail
    refine wpIn_scope ?_
    gi_wp2_with fail
    refine (callsIn_wide.2 HANY.out).mono ?_
    rintro e w' ⟨rfl, rfl⟩
    gi_wp2_with fail
    rw [Exit.noGoto_ret]
    gi_wp2_with fail
    refine bodyPost_ret (results_none rfl _ _ _) rfl ?_
    exact ⟨rfl, HFIN.out⟩
  rw [hany] at HANY
  simp only [Bool.false_eq_true, if_false]
  clear hany
  refine (callsIn_wide (n := 0)).1 ?_
  refine callsIn_of_wp Tryz.func85 rfl trivial ?_ rfl
  simp only [Tryz.ntmps85, List.size_toArray, List.length_cons, List.length_nil, Nat.reduceAdd, Nat.reduceSub, Array.replicate_succ, Array.replicate_zero, List.push_toArray, List.append_toArray, List.nil_append, List.cons_append]
  gi_wp2_with fail
  refine wpIn_scope ?_
  gi_wp2_with fail
  refine (callsIn_wide.2 HANY.out).mono ?_
  rintro e w' ⟨rfl, rfl⟩
  gi_wp2_with fail
  refine wpIn_label ?_
  gi_wp2_with fail
  have HS0 : Hid (AskTo w U w ⟨p, m, sa, sc, vr, d, rs, N⟩ bs bo ob ({ X.1 with undone := X.1.undone }, X.2)) := Lib.hid (HH.out.to (Below.refl _ w))
  gi_loopg [] (X.1.done.length - X.1.undone.length + 1) (fun gk wi => ∃ us : List Int, X.1.done.length - us.length + 1 = gk ∧ us.length ≤ X.1.undone.length + X.1.done.length ∧ Hid (AskTo w U wi ⟨p, m, sa, sc, vr, d, rs, N⟩ bs bo ob ({ X.1 with undone := us }, X.2)) ∧ Hid (backL d.steps now (X.1.done.length - us.length) ({ X.1 with undone := us }, X.2) = backL d.steps now (X.1.done.length - X.1.undone.length) X))
  case atStart => exact ⟨X.1.undone, rfl, by omega, HS0, Lib.hid rfl⟩
  case round =>
    obtain ⟨us, rfl, hus, HJ, HEQ⟩ := hrel
    obtain ⟨V, ⟨da1, dc1, ua1, uc1, va1, vc1, hA⟩, hG⟩ := HJ.out
    dsimp only at hA
    have HA := Lib.hid hA
    have HG := Lib.hid hG
    obtain ⟨-, -, -, -, -, x5, x6, -⟩ := hA.sag.cells
    dsimp only at x5 x6
    clear hA hG HJ
    by_cases hlt : us.length < X.1.done.length
    case neg =>
      have d1 : decide ((us.length : Int) < (X.1.done.length : Int)) = false := decide_eq_false (by omega)
      have hb0 : Below wr.heap.size wr wr.drew := (Below.refl _ _).drew
      have HA2 := Lib.hid (HA.out.below hb0)
      have hfr := HA2.out.sag.froz 7
      obtain ⟨-, -, -, -, -, -, -, x7⟩ := HA2.out.sag.cells
      obtain ⟨hS, hGS⟩ := HA2.out.status 4
      have hz : X.1.done.length - us.length = 0 := by omega
      have HFIN : Hid (AskTo w U (wr.drew.setCell ⟨p, 7, none⟩ (.int .u8 4)) ⟨p, m, sa, sc, vr, d, rs, N⟩ bs bo ob (backL d.steps now (X.1.done.length - X.1.undone.length) X)) := Lib.hid (by
        rw [← HEQ.out, hz]
        exact ⟨V, ⟨da1, dc1, ua1, uc1, va1, vc1, hS⟩, (HG.out.trans (Grow.of_chg (Chg.of_below hb0))).trans hGS⟩)
      clear hz hS hGS hb0 HEQ
      gi_upto_region 1 with fail
      refine E_regionW (S := (fun W => W.cell? ⟨p, 5, none⟩ = some (.slice da1 X.1.done.length dc1) ∧ W.cell? ⟨p, 6, none⟩ = some (.slice ua1 us.length uc1))) 10 (by kernel_rfl) (by kernel_rfl) ⟨x5, x6⟩ (fun Q' hQ hK' hHeld => ?_)
      refine E_take0 hQ (fun _ => hHeld) 0 (v := ?av1) rfl rfl (by kernel_rfl) (by kernel_rfl) (by kernel_rfl) (by decide) (by rfl) ?ay1 ?ar1
      case ay1 => (intro w; go_simp; (try with_reducible rfl))
      (try simp only [layE])
      refine E_take0 hQ (fun _ => hHeld) 1 (v := ?av2) rfl rfl (by kernel_rfl) (by kernel_rfl) (by kernel_rfl) (by decide) (by rfl) ?ay2 ?ar2
      case ay2 => (intro w; go_simp; (try with_reducible rfl))
      (try simp only [layE])
      refine E_take0 hQ (fun _ => hHeld) 2 (v := ?av3) rfl rfl (by kernel_rfl) (by kernel_rfl) (by kernel_rfl) (by decide) (by rfl) ?ay3 ?ar3
      case ay3 => (intro w; go_simp; (try with_reducible rfl))
      (try simp only [layE])
      refine E_take hQ hHeld 3 (v := ?av4) rfl rfl (by kernel_rfl) (by kernel_rfl) (by kernel_rfl) (by kernel_rfl) (by kernel_rfl) (by rfl) ?ay4 ?ar4
      case ay4 => (intro w hSw; (try dsimp only at hSw); go_simp; (try with_reducible rfl))
      (try simp only [layE])
      refine E_take0 hQ (fun _ => hHeld) 4 (v := ?av5) rfl rfl (by kernel_rfl) (by kernel_rfl) (by kernel_rfl) (by decide) (by rfl) ?ay5 ?ar5
      case ay5 => (intro w; go_simp; (try with_reducible rfl))
      (try simp only [layE])
      refine E_take0 hQ (fun _ => hHeld) 5 (v := ?av6) rfl rfl (by kernel_rfl) (by kernel_rfl) (by kernel_rfl) (by decide) (by rfl) ?ay6 ?ar6
      case ay6 => (intro w; go_simp; (try with_reducible rfl))
      (try simp only [layE])
      refine E_take0 hQ (fun _ => hHeld) 6 (v := ?av7) rfl rfl (by kernel_rfl) (by kernel_rfl) (by kernel_rfl) (by decide) (by rfl) ?ay7 ?ar7
      case ay7 => (intro w; go_simp; (try with_reducible rfl))
      (try simp only [layE])
      refine E_take0 hQ (fun _ => hHeld) 7 (v := ?av8) rfl rfl (by kernel_rfl) (by kernel_rfl) (by kernel_rfl) (by decide) (by rfl) ?ay8 ?ar8
      case ay8 => (intro w; go_simp; (try with_reducible rfl))
      (try simp only [layE])
      refine E_take hQ hHeld 8 (v := ?av9) rfl rfl (by kernel_rfl) (by kernel_rfl) (by kernel_rfl) (by kernel_rfl) (by kernel_rfl) (by rfl) ?ay9 ?ar9
      case ay9 => (intro w hSw; (try dsimp only at hSw); go_simp; (try with_reducible rfl))
      (try simp only [layE])
      refine E_take0 hQ (fun _ => hHeld) 9 (v := ?av10) rfl rfl (by kernel_rfl) (by kernel_rfl) (by kernel_rfl) (by decide) (by rfl) ?ay10 ?ar10
      case ay10 => (intro w; go_simp; (try with_reducible rfl))
      (try simp only [layE])
      refine E_one 10 (by kernel_rfl) rfl (by rfl) (fun K hK => ?_)
      go_simp
      (try simp only [layE])
      refine hK.out _ _ (fun _ h => absurd rfl h) (fun _ => ?_)
      clear hK hHeld
      (try simp only [layE])
      refine E_done (by kernel_rfl) ?_ _
      refine hK'.out _ _ ?_
      clear hK' hQ x5 x6
      gi_wp2_with fail
      go_end0
      exact ⟨rfl, HFIN.out⟩
    case pos =>
      have d1 : decide ((us.length : Int) < (X.1.done.length : Int)) = true := decide_eq_true (by omega)
      have hix : ∃ ix : Nat, ix = X.1.done.length - 1 - us.length ∧ ix < X.1.done.length := ⟨_, rfl, by omega⟩
      obtain ⟨ix, hix, hixl⟩ := hix
      have hw1 : IntKind.i64.wrap ((X.1.done.length : Int) - 1) = (X.1.done.length : Int) - 1 := IntWalk.i64_in _ (by omega)
      have hw2 : IntKind.i64.wrap ((X.1.done.length : Int) - 1 - (us.length : Int)) = (ix : Int) := (IntWalk.i64_in _ (by omega)).trans (by omega)
      have hix0 : (0 : Int) ≤ (ix : Int) := by omega
      have hix1 : (ix : Int) < (X.1.done.length : Int) := by omega
      obtain ⟨jn, hjn, hjl⟩ : ∃ jn : Nat, X.1.done[ix] = (jn : Int) ∧ jn < d.steps.length := by
        have := HDN.out _ (List.getElem_mem hixl)
        exact ⟨X.1.done[ix].toNat, by omega, by omega⟩
      have hdx : X.1.done[ix]? = some (jn : Int) := by rw [List.getElem?_eq_getElem hixl, hjn]
      have hm1 : X.1.done.length - us.length = (X.1.done.length - (us ++ [(jn : Int)]).length) + 1 := by simp; omega
      have HSTEP := Lib.hid (backL_succ (l := d.steps) (now := now) (m := X.1.done.length - (us ++ [(jn : Int)]).length) (Y := ({ X.1 with undone := us }, X.2)) (jn := jn) (by dsimp only; rw [← hix]; exact hdx) hjl)
      rw [← hm1] at HSTEP
      rw [HEQ.out] at HSTEP
      have HM1 := Lib.hid hm1
      obtain ⟨gd, od, hda, -, -, hcell⟩ := ints_at (RdS.of_owns HA.out.sag.done) hixl
      dsimp only at hda hcell
      subst hda
      rw [hjn] at hcell
      have z0 := hcell
      have HIX := Lib.hid hix
      clear hcell hdx hjn hm1 hix HEQ
      gi_upto_region 1 with fail
      refine E_regionW (S := (fun W => W.cell? ⟨p, 5, none⟩ = some ((.slice (some ⟨gd, od, none⟩) X.1.done.length dc1)) ∧ W.cell? ⟨p, 6, none⟩ = some (.slice ua1 us.length uc1))) 10 (by kernel_rfl) (by kernel_rfl) ⟨x5, x6⟩ (fun Q' hQ hK' hHeld => ?_)
      refine E_take0 hQ (fun _ => hHeld) 0 (v := ?ev1) rfl rfl (by kernel_rfl) (by kernel_rfl) (by kernel_rfl) (by decide) (by rfl) ?ey1 ?er1
      case ey1 => (intro w; go_simp; (try with_reducible rfl))
      (try simp only [layE])
      refine E_take0 hQ (fun _ => hHeld) 1 (v := ?ev2) rfl rfl (by kernel_rfl) (by kernel_rfl) (by kernel_rfl) (by decide) (by rfl) ?ey2 ?er2
      case ey2 => (intro w; go_simp; (try with_reducible rfl))
      (try simp only [layE])
      refine E_take0 hQ (fun _ => hHeld) 2 (v := ?ev3) rfl rfl (by kernel_rfl) (by kernel_rfl) (by kernel_rfl) (by decide) (by rfl) ?ey3 ?er3
      case ey3 => (intro w; go_simp; (try with_reducible rfl))
      (try simp only [layE])
      refine E_take hQ hHeld 3 (v := ?ev4) rfl rfl (by kernel_rfl) (by kernel_rfl) (by kernel_rfl) (by kernel_rfl) (by kernel_rfl) (by rfl) ?ey4 ?er4
      case ey4 => (intro w hSw; (try dsimp only at hSw); go_simp; (try with_reducible rfl))
      (try simp only [layE])
      refine E_take0 hQ (fun _ => hHeld) 4 (v := ?ev5) rfl rfl (by kernel_rfl) (by kernel_rfl) (by kernel_rfl) (by decide) (by rfl) ?ey5 ?er5
      case ey5 => (intro w; go_simp; (try with_reducible rfl))
      (try simp only [layE])
      refine E_take0 hQ (fun _ => hHeld) 5 (v := ?ev6) rfl rfl (by kernel_rfl) (by kernel_rfl) (by kernel_rfl) (by decide) (by rfl) ?ey6 ?er6
      case ey6 => (intro w; go_simp; (try with_reducible rfl))
      (try simp only [layE])
      refine E_take0 hQ (fun _ => hHeld) 6 (v := ?ev7) rfl rfl (by kernel_rfl) (by kernel_rfl) (by kernel_rfl) (by decide) (by rfl) ?ey7 ?er7
      case ey7 => (intro w; go_simp; (try with_reducible rfl))
      (try simp only [layE])
      refine E_take0 hQ (fun _ => hHeld) 7 (v := ?ev8) rfl rfl (by kernel_rfl) (by kernel_rfl) (by kernel_rfl) (by decide) (by rfl) ?ey8 ?er8
      case ey8 => (intro w; go_simp; (try with_reducible rfl))
      (try simp only [layE])
      refine E_take hQ hHeld 8 (v := ?ev9) rfl rfl (by kernel_rfl) (by kernel_rfl) (by kernel_rfl) (by kernel_rfl) (by kernel_rfl) (by rfl) ?ey9 ?er9
      case ey9 => (intro w hSw; (try dsimp only at hSw); go_simp; (try with_reducible rfl))
      (try simp only [layE])
      refine E_take0 hQ (fun _ => hHeld) 9 (v := ?ev10) rfl rfl (by kernel_rfl) (by kernel_rfl) (by kernel_rfl) (by decide) (by rfl) ?ey10 ?er10
      case ey10 => (intro w; go_simp; (try with_reducible rfl))
      (try simp only [layE])
      refine E_one 10 (by kernel_rfl) rfl (by rfl) (fun K hK => ?_)
      go_simp
      (try simp only [layE])
      refine hK.out _ _ (fun _ h => absurd rfl h) (fun _ => ?_)
      clear hK hHeld
      (try simp only [layE])
      refine E_done (by kernel_rfl) ?_ _
      refine hK'.out _ _ ?_
      clear hK' hQ
      have x5 : wr.drew.cell? ⟨p, 5, none⟩ = some (.slice (some ⟨gd, od, none⟩) X.1.done.length dc1) := x5
      have x6 : wr.drew.cell? ⟨p, 6, none⟩ = some (.slice ua1 us.length uc1) := x6
      have z0 : wr.drew.cell? ⟨gd, od + ix, none⟩ = some (.int .i64 (jn : Int)) := z0
      have hb0 : Below wr.heap.size wr wr.drew := (Below.refl _ _).drew
      have HA2 := Lib.hid (HA.out.below hb0)
      have HG2 := Lib.hid (HG.out.trans (Grow.of_chg (Chg.of_below hb0)))
      gi_upto_region 2 with fail
      clear hb0
      generalize wr.drew = wa at *
      refine E_regionW (S := (fun W => W.cell? ⟨p, 5, none⟩ = some (.slice (some ⟨gd, od, none⟩) X.1.done.length dc1) ∧ W.cell? ⟨p, 6, none⟩ = some (.slice ua1 us.length uc1) ∧ W.cell? ⟨gd, od + ix, none⟩ = some (.int .i64 (jn : Int)))) 18 (by kernel_rfl) (by kernel_rfl) ⟨x5, x6, z0⟩ (fun Q' hQ hK' hHeld => ?_)
      refine E_take0 hQ (fun _ => hHeld) 0 (v := ?bv1) rfl rfl (by kernel_rfl) (by kernel_rfl) (by kernel_rfl) (by decide) (by rfl) ?by1 ?br1
      case by1 => (intro w; go_simp; (try with_reducible rfl))
      (try simp only [layE])
      refine E_take0 hQ (fun _ => hHeld) 1 (v := ?bv2) rfl rfl (by kernel_rfl) (by kernel_rfl) (by kernel_rfl) (by decide) (by rfl) ?by2 ?br2
      case by2 => (intro w; go_simp; (try with_reducible rfl))
      (try simp only [layE])
      refine E_take0 hQ (fun _ => hHeld) 2 (v := ?bv3) rfl rfl (by kernel_rfl) (by kernel_rfl) (by kernel_rfl) (by decide) (by rfl) ?by3 ?br3
      case by3 => (intro w; go_simp; (try with_reducible rfl))
      (try simp only [layE])
      refine E_take hQ hHeld 3 (v := ?bv4) rfl rfl (by kernel_rfl) (by kernel_rfl) (by kernel_rfl) (by kernel_rfl) (by kernel_rfl) (by rfl) ?by4 ?br4
      case by4 => (intro w hSw; (try dsimp only at hSw); go_simp; (try with_reducible rfl))
      (try simp only [layE])
      refine E_take0 hQ (fun _ => hHeld) 4 (v := ?bv5) rfl rfl (by kernel_rfl) (by kernel_rfl) (by kernel_rfl) (by decide) (by rfl) ?by5 ?br5
      case by5 => (intro w; go_simp; (try with_reducible rfl))
      (try simp only [layE])
      refine E_take0 hQ (fun _ => hHeld) 5 (v := ?bv6) rfl rfl (by kernel_rfl) (by kernel_rfl) (by kernel_rfl) (by decide) (by rfl) ?by6 ?br6
      case by6 => (intro w; go_simp; (try with_reducible rfl))
      (try simp only [layE])
      refine E_take0 hQ (fun _ => hHeld) 6 (v := ?bv7) rfl rfl (by kernel_rfl) (by kernel_rfl) (by kernel_rfl) (by decide) (by rfl) ?by7 ?br7
      case by7 => (intro w; go_simp; (try with_reducible rfl))
      (try simp only [layE])
      refine E_take hQ hHeld 7 (v := ?bv8) rfl rfl (by kernel_rfl) (by kernel_rfl) (by kernel_rfl) (by kernel_rfl) (by kernel_rfl) (by rfl) ?by8 ?br8
      case by8 => (intro w hSw; (try dsimp only at hSw); go_simp; (try with_reducible rfl))
      (try simp only [layE])
      refine E_take0 hQ (fun _ => hHeld) 8 (v := ?bv9) rfl rfl (by kernel_rfl) (by kernel_rfl) (by kernel_rfl) (by decide) (by rfl) ?by9 ?br9
      case by9 => (intro w; go_simp; (try with_reducible rfl))
      (try simp only [layE])
      refine E_take0 hQ (fun _ => hHeld) 9 (v := ?bv10) rfl rfl (by kernel_rfl) (by kernel_rfl) (by kernel_rfl) (by decide) (by rfl) ?by10 ?br10
      case by10 => (intro w; go_simp; (try with_reducible rfl))
      (try simp only [layE])
      refine E_take0 hQ (fun _ => hHeld) 10 (v := ?bv11) rfl rfl (by kernel_rfl) (by kernel_rfl) (by kernel_rfl) (by decide) (by rfl) ?by11 ?br11
      case by11 => (intro w; go_simp; (try with_reducible rfl))
      (try simp only [layE])
      refine E_take0 hQ (fun _ => hHeld) 11 (v := ?bv12) rfl rfl (by kernel_rfl) (by kernel_rfl) (by kernel_rfl) (by decide) (by rfl) ?by12 ?br12
      case by12 => (intro w; go_simp; (try with_reducible rfl))
      (try simp only [layE])
      refine E_take0 hQ (fun _ => hHeld) 12 (v := ?bv13) rfl rfl (by kernel_rfl) (by kernel_rfl) (by kernel_rfl) (by decide) (by rfl) ?by13 ?br13
      case by13 => (intro w; go_simp; (try with_reducible rfl))
      (try simp only [layE])
      refine E_take hQ hHeld 13 (v := ?bv14) rfl rfl (by kernel_rfl) (by kernel_rfl) (by kernel_rfl) (by kernel_rfl) (by kernel_rfl) (by rfl) ?by14 ?br14
      case by14 => (intro w hSw; (try dsimp only at hSw); go_simp; (try with_reducible rfl))
      (try simp only [layE])
      refine E_take0 hQ (fun _ => hHeld) 14 (v := ?bv15) rfl rfl (by kernel_rfl) (by kernel_rfl) (by kernel_rfl) (by decide) (by rfl) ?by15 ?br15
      case by15 => (intro w; go_simp; (try with_reducible rfl))
      (try simp only [layE])
      refine E_take0 hQ (fun _ => hHeld) 15 (v := ?bv16) rfl rfl (by kernel_rfl) (by kernel_rfl) (by kernel_rfl) (by decide) (by rfl) ?by16 ?br16
      case by16 => (intro w; go_simp; (try with_reducible rfl))
      (try simp only [layE])
      refine E_take0 hQ (fun _ => hHeld) 16 (v := ?bv17) rfl rfl (by kernel_rfl) (by kernel_rfl) (by kernel_rfl) (by decide) (by rfl) ?by17 ?br17
      case by17 => (intro w; go_simp; (try with_reducible rfl))
      (try simp only [layE])
      refine E_take hQ hHeld 17 (v := ?bv18) rfl rfl (by kernel_rfl) (by kernel_rfl) (by kernel_rfl) (by kernel_rfl) (by kernel_rfl) (by rfl) ?by18 ?br18
      case by18 => (intro w hSw; (try dsimp only at hSw); go_simp; (try with_reducible rfl))
      (try simp only [layE])
      refine E_one 18 (by kernel_rfl) rfl (by rfl) (fun K hK => ?_)
      go_simp
      (try simp only [layE])
      refine hK.out _ _ (fun _ h => absurd rfl h) (fun _ => ?_)
      clear hK hHeld
      (try simp only [layE])
      refine E_done (by kernel_rfl) ?_ _
      refine hK'.out _ _ ?_
      clear hK' hQ x5 x6 z0
      have hb0 : Below wa.heap.size wa wa.drew := (Below.refl _ _).drew
      have HA3 := Lib.hid (HA2.out.below hb0)
      have HG3 := Lib.hid (HG2.out.trans (Grow.of_chg (Chg.of_below hb0)))
      clear hb0 HA HG
      obtain ⟨g, off, cap, aa, ac, ka, kc, ba, bc, he, hcl, hcu, hst, hat⟩ := HA3.out.sag.df.now.steps.at hjl
      cases he
      obtain ⟨t0, t1, t2, t3, t4, t5, t6, t7, t8, t9, t10, t11, t12⟩ := hat
      obtain ⟨-, -, x2, -, -, -, -, -⟩ := HA3.out.sag.cells
      have hjn0 : (0 : Int) ≤ (jn : Int) := by omega
      have hjn1 : (jn : Int) < (d.steps.length : Int) := by omega
      have hbeg := fun w => Begin_any (s0 := d.steps[jn].name) (s1 := d.steps[jn].action) (s2 := d.steps[jn].undo) (af := aa) (an := d.steps[jn].after.length) (ac := ac) (m := d.steps[jn].most) (f := d.steps[jn].first) (k := d.steps[jn].factor) (l := d.steps[jn].limit) (nk := (d.steps[jn].note.kind : Int)) (nt := d.steps[jn].note.text) (ka := ka) (kn := d.steps[jn].note.keys.length) (kc := kc) (da := ba) (dn := d.steps[jn].note.kids.length) (dc := bc) (nl := d.steps[jn].note.line) now w
      unfold stepV runV at hbeg
      have HBEG := Lib.hid hbeg
      clear hbeg hst
      gi_upto_region 5 with fail
      obtain ⟨hb4, hsz4, hf⟩ := allocF [.cells #[.string d.steps[jn].name, .string d.steps[jn].action, .string d.steps[jn].undo, .slice aa d.steps[jn].after.length ac, .int .i64 d.steps[jn].most, .int .i64 d.steps[jn].first, .int .i64 d.steps[jn].factor, .int .i64 d.steps[jn].limit, .int .u8 (d.steps[jn].note.kind : Int), .string d.steps[jn].note.text, .slice ka d.steps[jn].note.keys.length kc, .slice ba d.steps[jn].note.kids.length bc, .int .i64 d.steps[jn].note.line] 47, .cells #[.int .i64 (jn : Int), .bool true] 98] wa
      have g0 := hf 0 _ rfl
      have g1 := hf 1 _ rfl
      clear hf t0 t1 t2 t3 t4 t5 t6 t7 t8 t9 t10 t11 t12 x2
      have e0 : wa.heap.size + 0 = wa.heap.size := rfl
      simp only [List.foldl_cons, List.foldl_nil, List.length_cons, List.length_nil, Nat.reduceAdd] at hb4 hsz4 g0 g1
      rw [e0] at g0
      have hb4 := hb4.drew
      have g0 : (((wa.alloc (.cells #[.string d.steps[jn].name, .string d.steps[jn].action, .string d.steps[jn].undo, .slice aa d.steps[jn].after.length ac, .int .i64 d.steps[jn].most, .int .i64 d.steps[jn].first, .int .i64 d.steps[jn].factor, .int .i64 d.steps[jn].limit, .int .u8 (d.steps[jn].note.kind : Int), .string d.steps[jn].note.text, .slice ka d.steps[jn].note.keys.length kc, .slice ba d.steps[jn].note.kids.length bc, .int .i64 d.steps[jn].note.line] 47)).alloc (.cells #[.int .i64 (jn : Int), .bool true] 98)).drew).heap[wa.heap.size]? = _ := g0
      have g1 : (((wa.alloc (.cells #[.string d.steps[jn].name, .string d.steps[jn].action, .string d.steps[jn].undo, .slice aa d.steps[jn].after.length ac, .int .i64 d.steps[jn].most, .int .i64 d.steps[jn].first, .int .i64 d.steps[jn].factor, .int .i64 d.steps[jn].limit, .int .u8 (d.steps[jn].note.kind : Int), .string d.steps[jn].note.text, .slice ka d.steps[jn].note.keys.length kc, .slice ba d.steps[jn].note.kids.length bc, .int .i64 d.steps[jn].note.line] 47)).alloc (.cells #[.int .i64 (jn : Int), .bool true] 98)).drew).heap[wa.heap.size + 1]? = _ := g1
      clear hsz4 e0
      generalize ((wa.alloc (.cells #[.string d.steps[jn].name, .string d.steps[jn].action, .string d.steps[jn].undo, .slice aa d.steps[jn].after.length ac, .int .i64 d.steps[jn].most, .int .i64 d.steps[jn].first, .int .i64 d.steps[jn].factor, .int .i64 d.steps[jn].limit, .int .u8 (d.steps[jn].note.kind : Int), .string d.steps[jn].note.text, .slice ka d.steps[jn].note.keys.length kc, .slice ba d.steps[jn].note.kids.length bc, .int .i64 d.steps[jn].note.line] 47)).alloc (.cells #[.int .i64 (jn : Int), .bool true] 98)).drew = wc at *
      have HA4 := Lib.hid (HA2.out.below hb4)
      have HG4 := Lib.hid (HG2.out.trans (Grow.of_chg (Chg.of_below hb4)))
      have HT0 := Lib.hid g0
      have HT1 := Lib.hid g1
      obtain ⟨q0, q1, q2, q3, hq⟩ : ∃ q0 q1 q2 q3, X.1.runs ((jn : Int), true) = (q0, q1, q2, q3) := ⟨_, _, _, _, rfl⟩
      have HLK : Hid (∀ W, Below wc.heap.size wc W → (Instr.lookup 89 (.map (some m)) (.agg #[.int .i64 (jn : Int), .bool true]) false).run Tryz.prog W = .ok (.agg #[.int .u8 q0, .int .i64 q1, .int .i64 q2, .bool q3]) W) := Lib.hid (fun W hb => by
        have := (HA4.out.sag.below hb).look (k := ((jn : Int), true)) (by unfold I64w; dsimp only; omega)
        dsimp only at this
        rw [hq] at this
        exact this)
      have hst := HSTEP.out
      dsimp only at hst
      rw [hq] at hst
      dsimp only at hst
      have HST := Lib.hid hst
      obtain ⟨-, -, t2, -, -, -, -, -, -, -, -, -, -⟩ := cells13q g0
      have hlu := HUL.out us hus
      obtain ⟨i0, hi0, hz0, hz1, hz2⟩ := info_parts Tryz.info_int
      clear HSTEP hst hq g0 g1 hb4 HA3 HG3 HA2 HG2
      by_cases hu : d.steps[jn].undo = { data := #[] }
      · have hE : d.steps[jn].undo.toList.isEmpty = true := by rw [undo_nil, decide_eq_true hu]
        have HR := Lib.hid (HST.out.trans (if_pos (.inl hu))).symm
        clear hu HST HLK
        obtain ⟨-, -, -, -, -, -, x6, -⟩ := HA4.out.sag.cells
        dsimp only at x6
        have hb7 : Below wc.heap.size wc (wc.alloc (.cells #[.int .i64 (jn : Int)] 3)) := (Below.refl _ _).alloc (Nat.le_refl _) _
        have HA7 := Lib.hid (HA4.out.below hb7)
        have HB7 := Lib.hid hb7
        clear hb7
        gi_wp2_with (gi_at_builtin; go_must (refine wpListIn_push rfl _ _ 38 rfl 0 3 i0 (.int .i64 0) 1 8 Tryz.underlying38 hi0 hz0 hz1 hz2 rfl (by decide) (.slice ua1 us.length uc1) us.length (ints .i64 us) rfl HA7.out.sag.undone ⟨wc.heap.size, 0, none⟩ 1 1 [.int .i64 (jn : Int)] rfl rfl (cell_one_new _ _ _) (by simp [Value.oneCell']) (by unfold maxLen; omega) (by omega) (by simp) ?_; intro v7 w7 ho7 hg7 hf7; obtain ⟨a7, c7, rfl⟩ := (RdS.of_owns ho7).form; have hpc := (hg7.block p (Array.getElem?_eq_some_iff.1 HA7.out.sag.cell).1 (fun e => row_ne HA7.out.sag.undone HA7.out.sag.cell (by decide) e.symm)).trans HA7.out.sag.cell; obtain ⟨-, -, -, -, -, -, x67, -⟩ := cells8 hpc; have hfz7 := froz8 (i := 6) hpc; obtain ⟨HAZ, HGZ⟩ := HA4.out.push_undone (i := (jn : Int)) HB7.out ho7 hg7 hf7; clear hpc ho7 hg7 hf7))
        have HN : Hid (AskTo w U _ ⟨p, m, some ⟨g, off, none⟩, sc, vr, d, rs, N⟩ bs bo ob ({ X.1 with undone := us ++ [(jn : Int)] }, X.2)) := Lib.hid ⟨_, ⟨_, dc1, a7, c7, va1, vc1, HAZ⟩, HG4.out.trans HGZ⟩
        gi_roundg (X.1.done.length - (us ++ [(jn : Int)]).length + 1)
        case measure => rw [HM1.out]; omega
        case rel => exact ⟨us ++ [(jn : Int)], rfl, by rw [List.length_append, List.length_singleton]; omega, HN, HR⟩
      have hE : d.steps[jn].undo.toList.isEmpty = false := by rw [undo_nil, decide_eq_false hu]
      have hfld := @field_runK
      gi_upto_region 6 with fail
      obtain ⟨-, -, -, -, x4, -, -, -⟩ := HA4.out.sag.cells
      obtain ⟨y0, y1, -, -⟩ := cells2 HT1.out
      refine E_regionW (S := (fun W => W.cell? ⟨p, 4, none⟩ = some (.map (some m)) ∧ W.cell? ⟨(wa.heap.size + 1), 0, none⟩ = some (.int .i64 (jn : Int)) ∧ W.cell? ⟨(wa.heap.size + 1), 1, none⟩ = some (.bool true) ∧ (Instr.lookup 89 (.map (some m)) (.agg #[.int .i64 (jn : Int), .bool true]) false).run Tryz.prog W = .ok (.agg #[.int .u8 q0, .int .i64 q1, .int .i64 q2, .bool q3]) W)) 8 (by kernel_rfl) (by kernel_rfl) ⟨x4, y0, y1, HLK.out _ (Below.refl _ _).drew⟩ (fun Q' hQ hK' hHeld => ?_)
      refine E_take0 hQ (fun _ => hHeld) 0 (v := ?fv1) rfl rfl (by kernel_rfl) (by kernel_rfl) (by kernel_rfl) (by decide) (by rfl) ?fy1 ?fr1
      case fy1 => (intro w; go_simp; (try with_reducible rfl))
      (try simp only [layE])
      refine E_take0 hQ (fun _ => hHeld) 1 (v := ?fv2) rfl rfl (by kernel_rfl) (by kernel_rfl) (by kernel_rfl) (by decide) (by rfl) ?fy2 ?fr2
      case fy2 => (intro w; go_simp; (try with_reducible rfl))
      (try simp only [layE])
      refine E_take0 hQ (fun _ => hHeld) 2 (v := ?fv3) rfl rfl (by kernel_rfl) (by kernel_rfl) (by kernel_rfl) (by decide) (by rfl) ?fy3 ?fr3
      case fy3 => (intro w; go_simp; (try with_reducible rfl))
      (try simp only [layE])
      refine E_take hQ hHeld 3 (v := ?fv4) rfl rfl (by kernel_rfl) (by kernel_rfl) (by kernel_rfl) (by kernel_rfl) (by kernel_rfl) (by rfl) ?fy4 ?fr4
      case fy4 => (intro w hSw; (try dsimp only at hSw); go_simp; (try with_reducible rfl))
      (try simp only [layE])
      refine E_take hQ hHeld 4 (v := ?fv5) rfl rfl (by kernel_rfl) (by kernel_rfl) (by kernel_rfl) (by kernel_rfl) (by kernel_rfl) (by rfl) ?fy5 ?fr5
      case fy5 => (intro w hSw; (try dsimp only at hSw); go_simp; (try with_reducible rfl))
      (try simp only [layE])
      refine E_take hQ hHeld 5 (v := ?fv6) rfl rfl (by kernel_rfl) (by kernel_rfl) (by kernel_rfl) (by kernel_rfl) (by kernel_rfl) (by rfl) ?fy6 ?fr6
      case fy6 => (intro w hSw; (try dsimp only at hSw); go_simp; (try with_reducible rfl))
      (try simp only [layE])
      refine E_take0 hQ (fun _ => hHeld) 6 (v := ?fv7) rfl rfl (by kernel_rfl) (by kernel_rfl) (by kernel_rfl) (by decide) (by rfl) ?fy7 ?fr7
      case fy7 => (intro w; go_simp; (try with_reducible rfl))
      (try simp only [layE])
      refine E_take0 hQ (fun _ => hHeld) 7 (v := ?fv8) rfl rfl (by kernel_rfl) (by kernel_rfl) (by kernel_rfl) (by decide) (by rfl) ?fy8 ?fr8
      case fy8 => (intro w; go_simp; (try with_reducible rfl))
      (try simp only [layE])
      refine E_one 8 (by kernel_rfl) rfl (by rfl) (fun K hK => ?_)
      go_simp
      (try simp only [layE])
      refine hK.out _ _ (fun _ h => absurd rfl h) (fun _ => ?_)
      clear hK hHeld
      (try simp only [layE])
      refine E_done (by kernel_rfl) ?_ _
      refine hK'.out _ _ ?_
      clear hK' hQ t2 hE
      have hb5 : Below wc.heap.size wc wc.drew := (Below.refl _ _).drew
      have HA5 := Lib.hid (HA4.out.below hb5)
      have HG5 := Lib.hid (HG4.out.trans (Grow.of_chg (Chg.of_below hb5)))
      have HLK5 : Hid (∀ W, Below wc.drew.heap.size wc.drew W → (Instr.lookup 89 (.map (some m)) (.agg #[.int .i64 (jn : Int), .bool true]) false).run Tryz.prog W = .ok (.agg #[.int .u8 q0, .int .i64 q1, .int .i64 q2, .bool q3]) W) := Lib.hid (fun W hb => HLK.out W (bthen hb5 (Nat.le_refl _) hb))
      have HT05 : Hid (wc.drew.heap[wa.heap.size]? = some (.cells #[.string d.steps[jn].name, .string d.steps[jn].action, .string d.steps[jn].undo, .slice aa d.steps[jn].after.length ac, .int .i64 d.steps[jn].most, .int .i64 d.steps[jn].first, .int .i64 d.steps[jn].factor, .int .i64 d.steps[jn].limit, .int .u8 (d.steps[jn].note.kind : Int), .string d.steps[jn].note.text, .slice ka d.steps[jn].note.keys.length kc, .slice ba d.steps[jn].note.kids.length bc, .int .i64 d.steps[jn].note.line] 47 (0, 0))) := Lib.hid HT0.out
      have HT15 : Hid (wc.drew.heap[wa.heap.size + 1]? = some (.cells #[.int .i64 (jn : Int), .bool true] 98 (0, 0))) := Lib.hid HT1.out
      clear HLK HA4 HG4 HT0 HT1 hb5 x4 y0 y1
      gi_upto_if 50 with fail
      generalize wc.drew = wd at *
      by_cases h3 : q0 = 3
      · have d3 : (q0 == 3) = true := by simpa using h3
        have HR := Lib.hid (HST.out.trans (if_pos (.inr h3))).symm
        clear h3 HST HLK5 HT05 HT15
        obtain ⟨-, -, -, -, -, -, x6, -⟩ := HA5.out.sag.cells
        dsimp only at x6
        have hb7 : Below wd.heap.size wd (wd.alloc (.cells #[.int .i64 (jn : Int)] 3)) := (Below.refl _ _).alloc (Nat.le_refl _) _
        have HA7 := Lib.hid (HA5.out.below hb7)
        have HB7 := Lib.hid hb7
        clear hb7
        gi_wp2_with (gi_at_builtin; go_must (refine wpListIn_push rfl _ _ 38 rfl 0 3 i0 (.int .i64 0) 1 8 Tryz.underlying38 hi0 hz0 hz1 hz2 rfl (by decide) (.slice ua1 us.length uc1) us.length (ints .i64 us) rfl HA7.out.sag.undone ⟨wd.heap.size, 0, none⟩ 1 1 [.int .i64 (jn : Int)] rfl rfl (cell_one_new _ _ _) (by simp [Value.oneCell']) (by unfold maxLen; omega) (by omega) (by simp) ?_; intro v7 w7 ho7 hg7 hf7; obtain ⟨a7, c7, rfl⟩ := (RdS.of_owns ho7).form; have hpc := (hg7.block p (Array.getElem?_eq_some_iff.1 HA7.out.sag.cell).1 (fun e => row_ne HA7.out.sag.undone HA7.out.sag.cell (by decide) e.symm)).trans HA7.out.sag.cell; obtain ⟨-, -, -, -, -, -, x67, -⟩ := cells8 hpc; have hfz7 := froz8 (i := 6) hpc; obtain ⟨HAZ, HGZ⟩ := HA5.out.push_undone (i := (jn : Int)) HB7.out ho7 hg7 hf7; clear hpc ho7 hg7 hf7))
        have HN : Hid (AskTo w U _ ⟨p, m, some ⟨g, off, none⟩, sc, vr, d, rs, N⟩ bs bo ob ({ X.1 with undone := us ++ [(jn : Int)] }, X.2)) := Lib.hid ⟨_, ⟨_, dc1, a7, c7, va1, vc1, HAZ⟩, HG5.out.trans HGZ⟩
        gi_roundg (X.1.done.length - (us ++ [(jn : Int)]).length + 1)
        case measure => rw [HM1.out]; omega
        case rel => exact ⟨us ++ [(jn : Int)], rfl, by rw [List.length_append, List.length_singleton]; omega, HN, HR⟩
      have d3 : (q0 == 3) = false := by simpa using h3
      have HST3 := Lib.hid (HST.out.trans (if_neg (fun e => e.elim hu h3)))
      have HLK := HLK5
      gi_upto_region 8 with fail
      obtain ⟨-, -, -, -, x4, -, -, -⟩ := HA5.out.sag.cells
      obtain ⟨y0, y1, -, -⟩ := cells2 HT15.out
      refine E_regionW (S := (fun W => W.cell? ⟨p, 4, none⟩ = some (.map (some m)) ∧ W.cell? ⟨(wa.heap.size + 1), 0, none⟩ = some (.int .i64 (jn : Int)) ∧ W.cell? ⟨(wa.heap.size + 1), 1, none⟩ = some (.bool true) ∧ (Instr.lookup 89 (.map (some m)) (.agg #[.int .i64 (jn : Int), .bool true]) false).run Tryz.prog W = .ok (.agg #[.int .u8 q0, .int .i64 q1, .int .i64 q2, .bool q3]) W)) 8 (by kernel_rfl) (by kernel_rfl) ⟨x4, y0, y1, HLK.out _ (Below.refl _ _).drew⟩ (fun Q' hQ hK' hHeld => ?_)
      refine E_take0 hQ (fun _ => hHeld) 0 (v := ?gv1) rfl rfl (by kernel_rfl) (by kernel_rfl) (by kernel_rfl) (by decide) (by rfl) ?gy1 ?gr1
      case gy1 => (intro w; go_simp; (try with_reducible rfl))
      (try simp only [layE])
      refine E_take0 hQ (fun _ => hHeld) 1 (v := ?gv2) rfl rfl (by kernel_rfl) (by kernel_rfl) (by kernel_rfl) (by decide) (by rfl) ?gy2 ?gr2
      case gy2 => (intro w; go_simp; (try with_reducible rfl))
      (try simp only [layE])
      refine E_take0 hQ (fun _ => hHeld) 2 (v := ?gv3) rfl rfl (by kernel_rfl) (by kernel_rfl) (by kernel_rfl) (by decide) (by rfl) ?gy3 ?gr3
      case gy3 => (intro w; go_simp; (try with_reducible rfl))
      (try simp only [layE])
      refine E_take hQ hHeld 3 (v := ?gv4) rfl rfl (by kernel_rfl) (by kernel_rfl) (by kernel_rfl) (by kernel_rfl) (by kernel_rfl) (by rfl) ?gy4 ?gr4
      case gy4 => (intro w hSw; (try dsimp only at hSw); go_simp; (try with_reducible rfl))
      (try simp only [layE])
      refine E_take hQ hHeld 4 (v := ?gv5) rfl rfl (by kernel_rfl) (by kernel_rfl) (by kernel_rfl) (by kernel_rfl) (by kernel_rfl) (by rfl) ?gy5 ?gr5
      case gy5 => (intro w hSw; (try dsimp only at hSw); go_simp; (try with_reducible rfl))
      (try simp only [layE])
      refine E_take hQ hHeld 5 (v := ?gv6) rfl rfl (by kernel_rfl) (by kernel_rfl) (by kernel_rfl) (by kernel_rfl) (by kernel_rfl) (by rfl) ?gy6 ?gr6
      case gy6 => (intro w hSw; (try dsimp only at hSw); go_simp; (try with_reducible rfl))
      (try simp only [layE])
      refine E_take0 hQ (fun _ => hHeld) 6 (v := ?gv7) rfl rfl (by kernel_rfl) (by kernel_rfl) (by kernel_rfl) (by decide) (by rfl) ?gy7 ?gr7
      case gy7 => (intro w; go_simp; (try with_reducible rfl))
      (try simp only [layE])
      refine E_take0 hQ (fun _ => hHeld) 7 (v := ?gv8) rfl rfl (by kernel_rfl) (by kernel_rfl) (by kernel_rfl) (by decide) (by rfl) ?gy8 ?gr8
      case gy8 => (intro w; go_simp; (try with_reducible rfl))
      (try simp only [layE])
      refine E_one 8 (by kernel_rfl) rfl (by rfl) (fun K hK => ?_)
      go_simp
      (try simp only [layE])
      refine hK.out _ _ (fun _ h => absurd rfl h) (fun _ => ?_)
      clear hK hHeld
      (try simp only [layE])
      refine E_done (by kernel_rfl) ?_ _
      refine hK'.out _ _ ?_
      clear hK' hQ HST HLK hu
      have hb6 : Below wd.heap.size wd wd.drew := (Below.refl _ _).drew
      have HA6 := Lib.hid (HA5.out.below hb6)
      have HG6 := Lib.hid (HG5.out.trans (Grow.of_chg (Chg.of_below hb6)))
      have HLK6 : Hid (∀ W, Below wd.drew.heap.size wd.drew W → (Instr.lookup 89 (.map (some m)) (.agg #[.int .i64 (jn : Int), .bool true]) false).run Tryz.prog W = .ok (.agg #[.int .u8 q0, .int .i64 q1, .int .i64 q2, .bool q3]) W) := Lib.hid (fun W hb => HLK5.out W (bthen hb6 (Nat.le_refl _) hb))
      have HT06 : Hid (wd.drew.heap[wa.heap.size]? = some (.cells #[.string d.steps[jn].name, .string d.steps[jn].action, .string d.steps[jn].undo, .slice aa d.steps[jn].after.length ac, .int .i64 d.steps[jn].most, .int .i64 d.steps[jn].first, .int .i64 d.steps[jn].factor, .int .i64 d.steps[jn].limit, .int .u8 (d.steps[jn].note.kind : Int), .string d.steps[jn].note.text, .slice ka d.steps[jn].note.keys.length kc, .slice ba d.steps[jn].note.kids.length bc, .int .i64 d.steps[jn].note.line] 47 (0, 0))) := Lib.hid HT05.out
      have HT16 : Hid (wd.drew.heap[wa.heap.size + 1]? = some (.cells #[.int .i64 (jn : Int), .bool true] 98 (0, 0))) := Lib.hid HT15.out
      clear HLK5 HA5 HG5 HT05 HT15 hb6 x4 y0 y1
      gi_upto_if 72 with fail
      generalize wd.drew = we at *
      by_cases h4 : q0 = 4
      · have d4 : (q0 == 4) = true := by simpa using h4
        have HR := Lib.hid (HST3.out.trans (if_pos h4))
        obtain ⟨hS, hGS⟩ := HA6.out.status 5
        have HFIN : Hid (AskTo w U (we.setCell ⟨p, 7, none⟩ (.int .u8 5)) ⟨p, m, some ⟨g, off, none⟩, sc, vr, d, rs, N⟩ bs bo ob (backL d.steps now (X.1.done.length - X.1.undone.length) X)) := Lib.hid (by
          rw [HR.out]
          exact ⟨V, ⟨_, dc1, ua1, uc1, va1, vc1, hS⟩, HG6.out.trans hGS⟩)
        have hfr := HA6.out.sag.froz 7
        obtain ⟨-, -, -, -, -, -, -, x7⟩ := HA6.out.sag.cells
        clear hS hGS h4 h3 HR HST3 HLK6 HT06 HT16
        gi_wp2_with fail
        (try rw [Exit.noGoto_ret])
        (try gi_wp2_with fail)
        refine bodyPost_ret (results_none rfl _ _ _) rfl ?_
        exact ⟨rfl, HFIN.out⟩
      have d4 : (q0 == 4) = false := by simpa using h4
      have HST4 := Lib.hid (HST3.out.trans (if_neg h4))
      have HLK := HLK6
      gi_upto_region 10 with fail
      obtain ⟨-, -, -, -, x4, -, -, -⟩ := HA6.out.sag.cells
      obtain ⟨y0, y1, -, -⟩ := cells2 HT16.out
      refine E_regionW (S := (fun W => W.cell? ⟨p, 4, none⟩ = some (.map (some m)) ∧ W.cell? ⟨(wa.heap.size + 1), 0, none⟩ = some (.int .i64 (jn : Int)) ∧ W.cell? ⟨(wa.heap.size + 1), 1, none⟩ = some (.bool true) ∧ (Instr.lookup 89 (.map (some m)) (.agg #[.int .i64 (jn : Int), .bool true]) false).run Tryz.prog W = .ok (.agg #[.int .u8 q0, .int .i64 q1, .int .i64 q2, .bool q3]) W)) 8 (by kernel_rfl) (by kernel_rfl) ⟨x4, y0, y1, HLK.out _ (Below.refl _ _).drew⟩ (fun Q' hQ hK' hHeld => ?_)
      refine E_take0 hQ (fun _ => hHeld) 0 (v := ?hv1) rfl rfl (by kernel_rfl) (by kernel_rfl) (by kernel_rfl) (by decide) (by rfl) ?hy1 ?hr1
      case hy1 => (intro w; go_simp; (try with_reducible rfl))
      (try simp only [layE])
      refine E_take0 hQ (fun _ => hHeld) 1 (v := ?hv2) rfl rfl (by kernel_rfl) (by kernel_rfl) (by kernel_rfl) (by decide) (by rfl) ?hy2 ?hr2
      case hy2 => (intro w; go_simp; (try with_reducible rfl))
      (try simp only [layE])
      refine E_take0 hQ (fun _ => hHeld) 2 (v := ?hv3) rfl rfl (by kernel_rfl) (by kernel_rfl) (by kernel_rfl) (by decide) (by rfl) ?hy3 ?hr3
      case hy3 => (intro w; go_simp; (try with_reducible rfl))
      (try simp only [layE])
      refine E_take hQ hHeld 3 (v := ?hv4) rfl rfl (by kernel_rfl) (by kernel_rfl) (by kernel_rfl) (by kernel_rfl) (by kernel_rfl) (by rfl) ?hy4 ?hr4
      case hy4 => (intro w hSw; (try dsimp only at hSw); go_simp; (try with_reducible rfl))
      (try simp only [layE])
      refine E_take hQ hHeld 4 (v := ?hv5) rfl rfl (by kernel_rfl) (by kernel_rfl) (by kernel_rfl) (by kernel_rfl) (by kernel_rfl) (by rfl) ?hy5 ?hr5
      case hy5 => (intro w hSw; (try dsimp only at hSw); go_simp; (try with_reducible rfl))
      (try simp only [layE])
      refine E_take hQ hHeld 5 (v := ?hv6) rfl rfl (by kernel_rfl) (by kernel_rfl) (by kernel_rfl) (by kernel_rfl) (by kernel_rfl) (by rfl) ?hy6 ?hr6
      case hy6 => (intro w hSw; (try dsimp only at hSw); go_simp; (try with_reducible rfl))
      (try simp only [layE])
      refine E_take0 hQ (fun _ => hHeld) 6 (v := ?hv7) rfl rfl (by kernel_rfl) (by kernel_rfl) (by kernel_rfl) (by decide) (by rfl) ?hy7 ?hr7
      case hy7 => (intro w; go_simp; (try with_reducible rfl))
      (try simp only [layE])
      refine E_take0 hQ (fun _ => hHeld) 7 (v := ?hv8) rfl rfl (by kernel_rfl) (by kernel_rfl) (by kernel_rfl) (by decide) (by rfl) ?hy8 ?hr8
      case hy8 => (intro w; go_simp; (try with_reducible rfl))
      (try simp only [layE])
      refine E_one 8 (by kernel_rfl) rfl (by rfl) (fun K hK => ?_)
      go_simp
      (try simp only [layE])
      refine hK.out _ _ (fun _ h => absurd rfl h) (fun _ => ?_)
      clear hK hHeld
      (try simp only [layE])
      refine E_done (by kernel_rfl) ?_ _
      refine hK'.out _ _ ?_
      clear hK' hQ HST3 HLK HLK6 h3 h4
      have hb7 : Below we.heap.size we we.drew := (Below.refl _ _).drew
      have HA7 := Lib.hid (HA6.out.below hb7)
      have HG7 := Lib.hid (HG6.out.trans (Grow.of_chg (Chg.of_below hb7)))
      have HT07 : Hid (we.drew.heap[wa.heap.size]? = some (.cells #[.string d.steps[jn].name, .string d.steps[jn].action, .string d.steps[jn].undo, .slice aa d.steps[jn].after.length ac, .int .i64 d.steps[jn].most, .int .i64 d.steps[jn].first, .int .i64 d.steps[jn].factor, .int .i64 d.steps[jn].limit, .int .u8 (d.steps[jn].note.kind : Int), .string d.steps[jn].note.text, .slice ka d.steps[jn].note.keys.length kc, .slice ba d.steps[jn].note.kids.length bc, .int .i64 d.steps[jn].note.line] 47 (0, 0))) := Lib.hid HT06.out
      have HT17 : Hid (we.drew.heap[wa.heap.size + 1]? = some (.cells #[.int .i64 (jn : Int), .bool true] 98 (0, 0))) := Lib.hid HT16.out
      clear HA6 HG6 HT06 HT16 hb7 x4 y0 y1
      gi_upto_if 84 with fail
      generalize we.drew = wf at *
      by_cases h0 : q0 = 0
      · have d0 : (q0 == 0) = true := by simpa using h0
        have HR := Lib.hid (HST4.out.trans (if_pos h0))
        clear h0 HST4
        obtain ⟨y0, y1, -, -⟩ := cells2 HT17.out
        obtain ⟨t0, t1, t2, t3, t4, t5, t6, t7, t8, t9, t10, t11, t12⟩ := cells13q HT07.out
        have HK := Lib.hid (ways_t hjl)
        gi_upto_region 11 with fail
        refine E_regionW (S := (fun W => W.cell? ⟨(wa.heap.size + 1), 0, none⟩ = some (.int .i64 (jn : Int)) ∧ W.cell? ⟨(wa.heap.size + 1), 1, none⟩ = some (.bool true) ∧ W.cell? ⟨wa.heap.size, 0, none⟩ = some (.string d.steps[jn].name) ∧ W.cell? ⟨wa.heap.size, 1, none⟩ = some (.string d.steps[jn].action) ∧ W.cell? ⟨wa.heap.size, 2, none⟩ = some (.string d.steps[jn].undo) ∧ W.cell? ⟨wa.heap.size, 3, none⟩ = some (.slice aa d.steps[jn].after.length ac) ∧ W.cell? ⟨wa.heap.size, 4, none⟩ = some (.int .i64 d.steps[jn].most) ∧ W.cell? ⟨wa.heap.size, 5, none⟩ = some (.int .i64 d.steps[jn].first) ∧ W.cell? ⟨wa.heap.size, 6, none⟩ = some (.int .i64 d.steps[jn].factor) ∧ W.cell? ⟨wa.heap.size, 7, none⟩ = some (.int .i64 d.steps[jn].limit) ∧ W.cell? ⟨wa.heap.size, 8, none⟩ = some (.int .u8 (d.steps[jn].note.kind : Int)) ∧ W.cell? ⟨wa.heap.size, 9, none⟩ = some (.string d.steps[jn].note.text) ∧ W.cell? ⟨wa.heap.size, 10, none⟩ = some (.slice ka d.steps[jn].note.keys.length kc) ∧ W.cell? ⟨wa.heap.size, 11, none⟩ = some (.slice ba d.steps[jn].note.kids.length bc) ∧ W.cell? ⟨wa.heap.size, 12, none⟩ = some (.int .i64 d.steps[jn].note.line))) 5 (by kernel_rfl) (by kernel_rfl) ⟨y0, y1, t0, t1, t2, t3, t4, t5, t6, t7, t8, t9, t10, t11, t12⟩ (fun Q' hQ hK' hHeld => ?_)
        refine E_take0 hQ (fun _ => hHeld) 0 (v := ?kv1) rfl rfl (by kernel_rfl) (by kernel_rfl) (by kernel_rfl) (by decide) (by rfl) ?ky1 ?kr1
        case ky1 => (intro w; go_simp; (try with_reducible rfl))
        (try simp only [layE])
        refine E_take hQ hHeld 1 (v := ?kv2) rfl rfl (by kernel_rfl) (by kernel_rfl) (by kernel_rfl) (by kernel_rfl) (by kernel_rfl) (by rfl) ?ky2 ?kr2
        case ky2 => (intro w hSw; (try dsimp only at hSw); go_simp; (try with_reducible rfl))
        (try simp only [layE])
        refine E_take hQ hHeld 2 (v := ?kv3) rfl rfl (by kernel_rfl) (by kernel_rfl) (by kernel_rfl) (by kernel_rfl) (by kernel_rfl) (by rfl) ?ky3 ?kr3
        case ky3 => (intro w hSw; (try dsimp only at hSw); go_simp; (try with_reducible rfl))
        (try simp only [layE])
        refine E_take0 hQ (fun _ => hHeld) 3 (v := ?kv4) rfl rfl (by kernel_rfl) (by kernel_rfl) (by kernel_rfl) (by decide) (by rfl) ?ky4 ?kr4
        case ky4 => (intro w; go_simp; (try with_reducible rfl))
        (try simp only [layE])
        refine E_one 4 (by kernel_rfl) rfl (by rfl) (fun K hK => ?_)
        go_simp
        refine (HBEG.out _).mono ?_
        rintro e w8 ⟨rfl, hb8⟩
        have hb8' : Below wf.heap.size wf w8 := bthen (Below.refl wf.heap.size wf).drew (Nat.le_refl _) hb8
        have HA8 := Lib.hid (HA7.out.below hb8')
        have HG8 := Lib.hid (HG7.out.trans (Grow.of_chg (Chg.of_below hb8')))
        (skip)
        refine hK.out _ _ (fun _ _ => ⟨cellB hb8 hHeld.1, cellB hb8 hHeld.2.1, cellB hb8 hHeld.2.2.1, cellB hb8 hHeld.2.2.2.1, cellB hb8 hHeld.2.2.2.2.1, cellB hb8 hHeld.2.2.2.2.2.1, cellB hb8 hHeld.2.2.2.2.2.2.1, cellB hb8 hHeld.2.2.2.2.2.2.2.1, cellB hb8 hHeld.2.2.2.2.2.2.2.2.1, cellB hb8 hHeld.2.2.2.2.2.2.2.2.2.1, cellB hb8 hHeld.2.2.2.2.2.2.2.2.2.2.1, cellB hb8 hHeld.2.2.2.2.2.2.2.2.2.2.2.1, cellB hb8 hHeld.2.2.2.2.2.2.2.2.2.2.2.2.1, cellB hb8 hHeld.2.2.2.2.2.2.2.2.2.2.2.2.2.1, cellB hb8 hHeld.2.2.2.2.2.2.2.2.2.2.2.2.2.2⟩) (fun hHeld' => ?_)
        replace hHeld := hHeld' (by rfl) (by decide)
        clear hK hHeld'
        (try simp only [layE])
        refine E_one 5 (by kernel_rfl) rfl (by rfl) (fun K hK => ?_)
        go_simp
        refine (sagPut_any (jn : Int) true 1 (inc 0) _ false ({ X.1 with undone := us }, X.2) w8 V p m _ sc vr d rs N bs bo ob _ dc1 ua1 uc1 va1 vc1 HA8.out HK.out (by omega) (by dsimp only; omega) (by dsimp only; omega)).mono ?_
        rintro e w9 ⟨rfl, hT⟩
        have HFIN : Hid (AskTo w U w9 ⟨p, m, some ⟨g, off, none⟩, sc, vr, d, rs, N⟩ bs bo ob (backL d.steps now (X.1.done.length - X.1.undone.length) X)) := Lib.hid (AskTo.trans HG8.out (by rw [HR.out]; exact hT))
        clear hT
        (skip)
        refine hK.out _ _ (fun _ h => absurd rfl h) (fun _ => ?_)
        clear hK hHeld
        (try simp only [layE])
        refine E_done (by kernel_rfl) ?_ _
        refine hK'.out _ _ ?_
        clear hK' hQ
        gi_wp2_with fail
        (try rw [Exit.noGoto_ret])
        (try gi_wp2_with fail)
        refine bodyPost_ret (results_none rfl _ _ _) rfl ?_
        exact ⟨rfl, HFIN.out⟩
      · have d0 : (q0 == 0) = false := by simpa using h0
        have HR := Lib.hid (HST4.out.trans (if_neg h0))
        have HFIN : Hid (AskTo w U wf ⟨p, m, some ⟨g, off, none⟩, sc, vr, d, rs, N⟩ bs bo ob (backL d.steps now (X.1.done.length - X.1.undone.length) X)) := Lib.hid (by
          rw [HR.out]
          exact ⟨V, ⟨_, dc1, ua1, uc1, va1, vc1, HA7.out⟩, HG7.out⟩)
        clear h0 HST4 HR
        gi_wp2_with fail
        (try rw [Exit.noGoto_ret])
        (try gi_wp2_with fail)
        refine bodyPost_ret (results_none rfl _ _ _) rfl ?_
        exact ⟨rfl, HFIN.out⟩
end Go.Proofs.YtgfiogjfgbegpaaGreat

/-
  names.Check: what its second loop keeps.
-/
namespace Go.Proofs.YtgfiogjfgbegpaaGreat
open Go.RowKit Go.WideShapes Go.Maps

theorem stepN_len (all : List StepD) (i : Nat) (s : StepD) (l : List DiagD) : (stepN all i s l).length ≤ l.length + 4 := by
  unfold stepN
  refine Nat.le_trans (noteL_len _ _ _) ?_
  refine Nat.succ_le_succ (Nat.le_trans (noteL_len _ _ _) ?_)
  refine Nat.succ_le_succ (Nat.le_trans (noteL_len _ _ _) ?_)
  exact Nat.succ_le_succ (noteL_len _ _ _)
theorem stepsN_len (all : List StepD) : ∀ (r : List StepD) (i : Nat) (l : List DiagD), (stepsN all i r l).length ≤ l.length + 4 * r.length
  | [], i, l => by simp [stepsN]
  | s :: r, i, l => by
    rw [stepsN, List.length_cons]
    have := stepsN_len all r (i + 1) (stepN all i s l)
    have := stepN_len all i s l
    omega
theorem stepsN_snoc (all : List StepD) (s : StepD) : ∀ (r : List StepD) (i : Nat) (l : List DiagD), stepsN all i (r ++ [s]) l = stepN all (i + r.length) s (stepsN all i r l)
  | [], i, l => rfl
  | t :: r, i, l => by
    rw [List.cons_append, stepsN, stepsN_snoc all s r (i + 1) _, stepsN, List.length_cons, show i + 1 + r.length = i + (r.length + 1) by omega]
theorem refN_len (all : List StepD) (pre : List RefD) (r : RefD) (l : List DiagD) : (refN all pre r l).length ≤ l.length + 3 := by
  unfold refN
  refine Nat.le_trans (noteL_len _ _ _) ?_
  refine Nat.succ_le_succ (Nat.le_trans (noteL_len _ _ _) ?_)
  exact Nat.succ_le_succ (noteL_len _ _ _)
theorem refsN_len (all : List StepD) : ∀ (r pre : List RefD) (l : List DiagD), (refsN all pre r l).length ≤ l.length + 3 * r.length
  | [], pre, l => by simp [refsN]
  | s :: r, pre, l => by
    rw [refsN, List.length_cons]
    have := refsN_len all r (pre ++ [s]) (refN all pre s l)
    have := refN_len all pre s l
    omega
theorem headN_len (d : DefD) : (headN d).length ≤ 2 := by
  unfold headN
  exact Nat.le_trans (noteL_len _ _ _) (Nat.succ_le_succ (noteL_len _ _ _))
theorem idxStep_get (n : ByteArray) : ∀ (l : List StepD) (i k : Nat) (hk : k < l.length), l[k].name = n → 0 ≤ idxStep l n i
  | a :: l, i, 0, _, h => by
    have h' : a.name = n := h
    rw [idxStep, if_pos h']; omega
  | a :: l, i, k + 1, hk, h => by
    rw [idxStep]
    split
    · omega
    · exact idxStep_get n l (i + 1) k (by simpa using hk) (by simpa using h)
theorem plN_get {l : List StepD} {k : Nat} (hk : k < l.length) : (plN l l[k].name).getD 0 = idxStep l l[k].name 0 := by
  unfold plN
  rw [if_pos (idxStep_get _ l 0 k hk rfl)]
  rfl
structure StW (w0 W : World) (b : Nat) (dc : Array Value) (nf : Value) (va : Option Addr) (vc : Nat) (l : List DiagD) : Prop where
  out : OutG W (b + 1) va vc l
  note : W.heap[b + 1 + 1]? = some (.cells #[nf] 155 (0, 0))
  dfb : W.heap[b]? = some (.cells dc 24 (0, 0))
  low : Below b w0 W
theorem StW.drew {w0 W : World} {b vc : Nat} {dc : Array Value} {nf : Value} {va : Option Addr} {l : List DiagD} (h : StW w0 W b dc nf va vc l) : StW w0 W.drew b dc nf va vc l := ⟨h.out.below ((Below.refl _ _).drew), h.note, h.dfb, h.low.drew⟩
theorem StW.below {w0 W W' : World} {b vc : Nat} {dc : Array Value} {nf : Value} {va : Option Addr} {l : List DiagD} (h : StW w0 W b dc nf va vc l) (hb : Below W.heap.size W W') : StW w0 W' b dc nf va vc l :=
  ⟨h.out.below hb, (hb.block _ (Array.getElem?_eq_some_iff.1 h.note).1).trans h.note, (hb.block _ (Array.getElem?_eq_some_iff.1 h.dfb).1).trans h.dfb, h.low.trans (hb.mono (Nat.le_of_lt (Array.getElem?_eq_some_iff.1 h.dfb).1))⟩
theorem StW.nlt {w0 W : World} {b vc : Nat} {dc : Array Value} {nf : Value} {va : Option Addr} {l : List DiagD} (h : StW w0 W b dc nf va vc l) : b + 1 + 1 < W.heap.size := (Array.getElem?_eq_some_iff.1 h.note).1
theorem StW.ncell {w0 W : World} {b vc : Nat} {dc : Array Value} {nf : Value} {va : Option Addr} {l : List DiagD} (h : StW w0 W b dc nf va vc l) : W.cell? ⟨b + 1 + 1, 0, none⟩ = some nf := Boxed.cell (t := 155) h.note
theorem StW.noted {w0 W w' : World} {b vc : Nat} {dc : Array Value} {nf : Value} {va : Option Addr} {l l' : List DiagD} (h : StW w0 W b dc nf va vc l) (hn : Noted W w' (b + 1) va vc l' l) :
    ∃ va' vc', StW w0 w' b dc nf va' vc' l' ∧ Below (b + 1) W w' ∧ (∀ q, q < W.heap.size → (Value.slice va l.length vc).ownBlock ≠ some q → (Value.slice va' l'.length vc').ownBlock ≠ some q) ∧ (∀ q, q < W.heap.size → q ≠ b + 1 → (Value.slice va l.length vc).ownBlock ≠ some q → w'.heap[q]? = W.heap[q]?) ∧
      (∀ (q : Nat) (c : Array Value) (t : TypeId) (fr : Nat × Nat), W.heap[q]? = some (.cells c t fr) → t ≠ 154 → q ≠ b + 1 → w'.heap[q]? = some (.cells c t fr)) := by
  obtain ⟨va', vc', h1, h2, h3, h4⟩ := hn
  have key : ∀ (q : Nat) (c : Array Value) (t : TypeId) (fr : Nat × Nat), W.heap[q]? = some (.cells c t fr) → t ≠ 154 → q ≠ b + 1 → w'.heap[q]? = some (.cells c t fr) :=
    fun q c t fr hq ht hqb => h3 q _ hq hqb (h.out.own.ne hq ht)
  refine ⟨va', vc', ⟨h1, key _ _ _ _ h.note (by decide) (by omega), key _ _ _ _ h.dfb (by decide) (by omega), h.low.trans (h2.mono (by omega))⟩, h2, h4, fun q hq hqb hqo => ?_, key⟩
  have e := Array.getElem?_eq_getElem hq
  rw [h3 q _ e hqb hqo, e]
theorem StW.map {w0 W w' : World} {b vc : Nat} {dc : Array Value} {nf : Value} {va : Option Addr} {l : List DiagD} (h : StW w0 W b dc nf va vc l) (hs : ∀ q, q < W.heap.size → q ≠ b + 1 → (Value.slice va l.length vc).ownBlock ≠ some q → w'.heap[q]? = W.heap[q]?) {κ : Type} {enc : κ → Value} {P : Program} {k e n M : Nat} {g : κ → Option Int} (hm : MapO P k e enc W M n g) : MapO P k e enc w' M n g :=
  hm.block (hs M hm.lt (fun e => hm.ne (h.out.box) e.symm) (h.out.own.nemap hm))

theorem MapO.step {n0 : Nat} {S S' : Nat → Prop} {W W' : World} {P : Program} {k e : TypeId} {κ : Type} {enc : κ → Value} {b n : Nat} {g : κ → Option Int} (h : Step n0 S S' W W') (hm : MapO P k e enc W b n g) (hS : ¬ S b) : MapO P k e enc W' b n g ∧ ¬ S' b :=
  ⟨hm.block (h.same b hm.lt hS), fun hs' => by rcases h.new b hs' with h1 | ⟨h1, _⟩; exact hS h1; have := hm.lt; omega⟩
structure NkJ (w0 : World) (b R : Nat) (dc : Array Value) (nf : Value) (all : List StepD) (l0 : List DiagD) (S : Nat → Prop) (pre : List RefD) (W : World) (va : Option Addr) (vc nM : Nat) : Prop where
  st : StW w0 W b dc nf va vc (refsN all [] pre l0)
  map : MapO Tryz.prog 158 3 aggO W R nM (cntI (pre.map keyR))
  few : nM ≤ pre.length
  mbox : Boxed W (R + 1) 156 (.map (some R))
  o1 : ¬ S (b + 1)
  o2 : ¬ S (b + 1 + 1)
  o3 : ¬ S R
  o4 : ¬ S (R + 1)
  o5 : ∀ g, (Value.slice va (refsN all [] pre l0).length vc).ownBlock = some g → ¬ S g
def nkJ (w0 : World) (b R : Nat) (dc : Array Value) (nf : Value) (all : List StepD) (l0 : List DiagD) : (Nat → Prop) → List RefD → World → Prop := fun S pre W => ∃ va vc nM, NkJ w0 b R dc nf all l0 S pre W va vc nM
theorem nkJ_step (w0 : World) (b R : Nat) (dc : Array Value) (nf : Value) (all : List StepD) (l0 : List DiagD) : Stable (b + 1) (nkJ w0 b R dc nf all l0) := by
  rintro S S' s W W' hS ⟨va, vc, nM, h⟩ hs
  obtain ⟨k1, k2⟩ := hs.boxed h.st.out.box h.o1
  obtain ⟨k3, k4⟩ := hs.owns h.st.out.own h.o5
  obtain ⟨k5, k6⟩ := hs.boxed (B := b + 1 + 1) h.st.note h.o2
  obtain ⟨k7, k8⟩ := MapO.step hs h.map h.o3
  obtain ⟨k9, k10⟩ := hs.boxed h.mbox h.o4
  exact ⟨va, vc, nM, ⟨⟨k1, k3⟩, k5, (hs.below.block b (Nat.lt_succ_self b)).trans h.st.dfb, h.st.low.trans (hs.below.mono (Nat.le_succ b))⟩, k7, h.few, k9, k2, k6, k8, k10, k4⟩
theorem NkN {w0 W w' : World} {b R T nM vc : Nat} {dc : Array Value} {nf : Value} {va : Option Addr} {l l' : List DiagD} {S : Nat → Prop} {g : Nat × ByteArray → Option Int} {tc : Array Value} {tt : TypeId} {n0 : Nat}
    (h : StW w0 W b dc nf va vc l) (hm : MapO Tryz.prog 158 3 aggO W R nM g) (hx : Boxed W (R + 1) 156 (.map (some R))) (hT : W.heap[T]? = some (.cells tc tt (0, 0))) (htt : tt ≠ 154) (hTb : T ≠ b + 1) (hRb : R + 1 ≠ b + 1)
    (hS : ∀ k, S k → n0 ≤ k ∧ k < W.heap.size) (h1 : ¬ S (b + 1)) (h5 : ∀ g, (Value.slice va l.length vc).ownBlock = some g → ¬ S g) (hn0 : n0 ≤ b + 1) (hn : Noted W w' (b + 1) va vc l' l) :
    ∃ va' vc', StW w0 w' b dc nf va' vc' l' ∧ MapO Tryz.prog 158 3 aggO w' R nM g ∧ Boxed w' (R + 1) 156 (.map (some R)) ∧ w'.heap[T]? = some (.cells tc tt (0, 0)) ∧ (∀ g, (Value.slice va' l'.length vc').ownBlock = some g → ¬ S g) ∧ Keep n0 S W w' ∧ Below (b + 1) W w' := by
  obtain ⟨va', vc', k1, k2, k3, k4, k5⟩ := h.noted hn
  refine ⟨va', vc', k1, h.map k4 hm, k5 _ _ _ _ hx (by decide) hRb, k5 _ _ _ _ hT htt hTb, fun g hg hs => ?_, ⟨k2.mono hn0, fun q hq => ?_⟩, k2⟩
  · have hlt := (hS g hs).2
    by_cases e : (Value.slice va l.length vc).ownBlock = some g
    · exact h5 g e hs
    · exact k3 g hlt e hg
  · exact k4 q (hS q hq).2 (fun e => h1 (e ▸ hq)) (fun e => h5 q e hq)
theorem wpIn_rfB {P : Program} {α : Type} {g : Operand} {ps : Array Tmp} {assign body : Code} {Q : Exit → Act → World → Prop} {a : Act} {w : World}
    {gf : Nat} {lb : Array Value} (hg : a.eval g = .func (.func gf) #[] lb) (eg : ∀ args w, (callFunc gf args).run P w = .ok (.enter gf args) w)
    {encs : α → Array Value} {xs : List α} {n0 : Nat} {S0 : Nat → Prop} {fin : Prop} (hit : IterAt P n0 gf lb encs xs fin S0 w)
    (hn0 : n0 ≤ w.heap.size) (hS0 : ∀ k, S0 k → n0 ≤ k ∧ k < w.heap.size) (hps : ∀ x, (encs x).size = ps.size)
    (J : (Nat → Prop) → List α → World → Prop) (Jx : Code → (Nat → Prop) → List α → World → Prop) (hfin : ¬ fin → ∀ S W, ¬ J S xs W) (hJ : Stable n0 J) (hJx : ∀ c, Stable n0 (Jx c)) (h0 : J S0 [] w)
    (F : α → Nat → Act) (cs : α → Array Value) (t : TypeId)
    (hassign : ∀ (l : Nat) (S : Nat → Prop) (pre : List α) (x : α) (W : World) (K : Act → World → Prop), (∀ k, S k → n0 ≤ k ∧ k < W.heap.size) → w.heap.size ≤ W.heap.size → J S pre W → (∀ b W', Keep n0 S W W' → J S pre W' → W'.heap[b]? = some (.cells (cs x) t (0, 0)) → K (F x b) W') →
      assign.wpIn (Fence.wide.inRound l) 0 P (Exit.then K (fun _ _ _ => False)) { tmps := (ps.zip (encs x)).foldl (fun t (p, v) => t.setIfInBounds p v) a.tmps, defers := [] } W)
    (hbody : ∀ (l : Nat) (S : Nat → Prop) (pre : List α) (x : α) (b : Nat) (W : World), (∀ k, S k → n0 ≤ k ∧ k < W.heap.size) → w.heap.size ≤ W.heap.size → S l → (∃ r, W.heap[l]? = some (.loop r)) → J S pre W → W.heap[b]? = some (.cells (cs x) t (0, 0)) → pre ++ [x] <+: xs →
      body.wpIn (Fence.wide.inRound l) 0 P (rfPost n0 S J Jx (pre ++ [x]) W) (F x b) W)
    (hdone : ∀ (D : Nat) (S : Nat → Prop) (W : World), w.heap.size ≤ D → (∀ k, S k → n0 ≤ k ∧ k < W.heap.size) → S D → J S xs W → W.heap[D]? = some (.deferred (some [])) → Q .normal { a with defers := { target := .collected D, args := #[] } :: a.defers } W)
    (hstop : ∀ (D : Nat) (c : Code) (S : Nat → Prop) (pre : List α) (W : World), w.heap.size ≤ D → (∀ k, S k → n0 ≤ k ∧ k < W.heap.size) → S D → pre <+: xs → Jx c S pre W → W.heap[D]? = some (.deferred (some [])) → c.wpIn Fence.wide 0 P Q { a with defers := { target := .collected D, args := #[] } :: a.defers } W) :
    (Code.rangeFunc g ps assign body).wpIn Fence.wide 0 P Q a w := by
  refine wpIn_rf hg eg hit hn0 hS0 hps J Jx hfin hJ hJx h0 (fun x a' W => ∃ b, a' = F x b ∧ W.heap[b]? = some (.cells (cs x) t (0, 0))) ?_ ?_ ?_ hdone hstop
  · rintro x a' l W W' hl hlt ⟨b, rfl, hb⟩ hs ⟨r, hr⟩
    have hne : b ≠ l := by rintro rfl; rw [hr] at hb; cases hb
    exact ⟨b, rfl, (hs.same b (Array.getElem?_eq_some_iff.1 hb).1 hne).trans hb⟩
  · exact fun l S pre x W K h1 h2 h3 h4 hk => hassign l S pre x W K h1 h2 h3 fun b W' k1 k2 k3 => hk _ W' k1 k2 ⟨b, rfl, k3⟩
  · rintro l S pre x a' W h1 h2 h3 h4 h5 ⟨b, rfl, hb⟩ h7
    exact hbody l S pre x b W h1 h2 h3 h4 h5 hb h7
end Go.Proofs.YtgfiogjfgbegpaaGreat

/-
  The law BoundsChecks: walk.
-/
namespace Go.Proofs.YtgfiogjfgbegpaaGreat
open Go Go.RowKit Go.WideShapes

theorem refsF_len (all : List StepD) {m : Nat} : ∀ (l : List StepD) (i : Nat), (∀ s ∈ l, s.after.length ≤ m) → (refsF all i l).length ≤ l.length * m
  | [], i, _ => by simp [refsF]
  | s :: l, i, h => by
    rw [refsF, List.length_append, List.length_cons, Nat.add_mul, Nat.one_mul]
    have h1 := refsF_len all l (i + 1) (fun t ht => h t (by simp [ht]))
    have h2 := h s (by simp)
    unfold rowRf
    rw [List.length_map]
    omega
theorem chk_ok {d : DefD} (hs : SmallD d) : ∀ x ∈ chkU d.steps d.steps.length (chkR 0 d.steps []), OkG x := by
  intro x hx
  have hl := hs.steps
  rw [chkU_mem, chkR_mem] at hx
  rcases hx with (h | ⟨i, s, hi, h⟩) | ⟨q, u, t, s, hq, hu, h1, h2, h3, h4, rfl⟩
  · cases h
  · have hil : i < d.steps.length := (List.getElem?_eq_some_iff.1 hi).1
    unfold rangeL at h
    simp only [noteL_mem, List.not_mem_nil, false_or] at h
    rcases h with ((⟨-, rfl⟩ | ⟨-, rfl⟩) | ⟨-, rfl⟩) | ⟨-, rfl⟩
    all_goals exact ⟨by unfold I64w; simp only; omega, by unfold I64w; simp only; omega, by simp only; decide⟩
  · obtain ⟨n, rfl, hn⟩ := depsD_in d.steps q u t h2
    have := (hs.each s (List.mem_of_getElem? h3)).name
    exact ⟨by unfold I64w; simp only; omega, by unfold I64w; simp only; omega, by unfold maxLen; simp only; omega⟩
end Go.Proofs.YtgfiogjfgbegpaaGreat

/-
  Plain: what holds of a definition with whose names nothing is wrong.
-/
namespace Go.Proofs.YtgfiogjfgbegpaaGreat
open Go Go.RowKit

theorem noteL_none {l : List DiagD} {b : Bool} {y : DiagD} (h : noteL l b y = []) : l = [] ∧ b = false := by
  cases b with
  | true => simp [noteL] at h
  | false => exact ⟨h, rfl⟩
theorem headN_none {d : DefD} (h : headN d = []) : 0 < d.steps.length ∧ rightB d.name = true := by
  unfold headN at h
  obtain ⟨h1, h2⟩ := noteL_none h
  obtain ⟨-, h3⟩ := noteL_none h1
  have h4 := of_decide_eq_false h3
  refine ⟨by omega, ?_⟩
  cases h5 : rightB d.name with
  | true => rfl
  | false => rw [h5] at h2; cases h2
theorem stepN_none {all : List StepD} {i : Nat} {s : StepD} {l : List DiagD} (h : stepN all i s l = []) : l = [] ∧ rightB s.name = true ∧ (i : Int) ≤ idxStep all s.name 0 := by
  unfold stepN at h
  obtain ⟨h, h4⟩ := noteL_none h
  obtain ⟨h, -⟩ := noteL_none h
  obtain ⟨h, -⟩ := noteL_none h
  obtain ⟨h, h1⟩ := noteL_none h
  have h5 := of_decide_eq_false h4
  refine ⟨h, ?_, by omega⟩
  cases h5 : rightB s.name with
  | true => rfl
  | false => rw [h5] at h1; cases h1
theorem stepsN_none {all : List StepD} : ∀ {r : List StepD} {i : Nat} {l : List DiagD}, stepsN all i r l = [] → l = [] ∧ ∀ (k : Nat) (hk : k < r.length), rightB r[k].name = true ∧ ((i + k : Nat) : Int) ≤ idxStep all r[k].name 0
  | [], i, l, h => ⟨h, fun k hk => absurd hk (Nat.not_lt_zero _)⟩
  | s :: r, i, l, h => by
    rw [stepsN] at h
    obtain ⟨h1, h2⟩ := stepsN_none h
    obtain ⟨h3, h4, h5⟩ := stepN_none h1
    refine ⟨h3, fun k hk => ?_⟩
    cases k with
    | zero => exact ⟨h4, h5⟩
    | succ k =>
      have := h2 k (by simpa using hk)
      rw [show i + 1 + k = i + (k + 1) by omega] at this
      exact this
theorem refN_none {all : List StepD} {pre : List RefD} {r : RefD} {l : List DiagD} (h : refN all pre r l = []) : l = [] ∧ 0 ≤ r.2.2 ∧ all[r.1]?.map StepD.name ≠ some r.2.1 ∧ keyR r ∉ pre.map keyR := by
  unfold refN at h
  obtain ⟨h, h3⟩ := noteL_none h
  obtain ⟨h, h2⟩ := noteL_none h
  obtain ⟨h, h1⟩ := noteL_none h
  have h1 := of_decide_eq_false h1
  have h2 := of_decide_eq_false h2
  have h3 := of_decide_eq_false h3
  exact ⟨h, by omega, h2, (cntN_zero _ _).1 (by omega)⟩
theorem refsN_none {all : List StepD} : ∀ {rs pre : List RefD} {l : List DiagD}, refsN all pre rs l = [] → l = [] ∧ ∀ (us : List RefD) (r : RefD), us ++ [r] <+: rs → 0 ≤ r.2.2 ∧ all[r.1]?.map StepD.name ≠ some r.2.1 ∧ keyR r ∉ (pre ++ us).map keyR
  | [], pre, l, h => ⟨h, fun us r hp => by have := hp.length_le; simp at this⟩
  | q :: rs, pre, l, h => by
    rw [refsN] at h
    obtain ⟨h1, h2⟩ := refsN_none h
    obtain ⟨h3, h4⟩ := refN_none h1
    refine ⟨h3, fun us r hp => ?_⟩
    cases us with
    | nil =>
      obtain ⟨t, ht⟩ := hp
      simp at ht
      rw [ht.1, List.append_nil]
      exact h4
    | cons u us =>
      obtain ⟨t, ht⟩ := hp
      simp at ht
      have := h2 us r ⟨t, by simpa using ht.2⟩
      rw [← ht.1] at this
      rw [List.append_assoc] at this
      exact this
structure FineN (d : DefD) : Prop where
  some : 0 < d.steps.length
  name : rightB d.name = true
  each : ∀ (k : Nat) (hk : k < d.steps.length), rightB d.steps[k].name = true
  unlike : ∀ (i k : Nat) (hi : i < d.steps.length) (hk : k < i), d.steps[k].name ≠ d.steps[i].name
  deps : ∀ (k : Nat) (hk : k < d.steps.length), depsD d.steps k d.steps[k] = d.steps[k].after.map fun a => idxStep d.steps a 0
  tos : ∀ (k : Nat) (hk : k < d.steps.length) (j : Nat) (hj : j < d.steps[k].after.length), ∃ (n : Nat) (hn : n < d.steps.length), idxStep d.steps d.steps[k].after[j] 0 = (n : Int) ∧ n ≠ k ∧ d.steps[n].name = d.steps[k].after[j]
  missing : missL (refsF d.steps 0 d.steps) = []
end Go.Proofs.YtgfiogjfgbegpaaGreat

/-
  Sagas: on, asker: contracts.
-/
namespace Go.Proofs.YtgfiogjfgbegpaaGreat
open Go Go.RowKit Go.Maps Go.WideShapes

structure GoodS (n : Nat) (S : SagD) : Prop where
  dn : ∀ i ∈ S.done, 0 ≤ i ∧ i < (n : Int)
  dl : S.done.length ≤ n
  ul : S.undone.length ≤ n
theorem forthX_undone (l : List StepD) (rs : List (List Int)) (now : Int) (X : AskX) : (forthX l rs now X).1.undone = X.1.undone := by
  have h : ∀ j, (begsX l rs now X j).1.undone = X.1.undone := by
    intro j
    induction j with
    | zero => rfl
    | succ j ih =>
      rw [begsX_succ]
      unfold begX
      split
      · rw [putX_undone]; exact ih
      · exact ih
  unfold forthX
  split
  · rfl
  · split
    · rfl
    · exact h l.length
theorem putX_done (X : AskX) (k : WayD) (r : RunD) (h : r.1 ≠ 3) : (putX X k r).1.done = X.1.done := by
  unfold putX
  rw [if_neg (fun e => h e.1)]
  split <;> rfl
theorem begX_done (l : List StepD) (rs : List (List Int)) (now : Int) (X : AskX) (i : Nat) : (begX l rs now X i).1.done = X.1.done := by
  unfold begX
  split
  · exact putX_done _ _ _ (by unfold beginR; show (1 : Int) ≠ 3; decide)
  · rfl
theorem forthX_done (l : List StepD) (rs : List (List Int)) (now : Int) (X : AskX) : (forthX l rs now X).1.done = X.1.done := by
  have h : ∀ j, (begsX l rs now X j).1.done = X.1.done := by
    intro j
    induction j with
    | zero => rfl
    | succ j ih =>
      rw [begsX_succ, begX_done]
      exact ih
  unfold forthX
  split
  · rfl
  · split
    · rfl
    · exact h l.length
theorem forthX_out (l : List StepD) (rs : List (List Int)) (now : Int) (X : AskX) : (forthX l rs now X).2.length ≤ X.2.length + l.length := by
  unfold forthX
  split
  · exact Nat.le_add_right _ _
  · split
    · exact Nat.le_add_right _ _
    · exact (begsX_len l rs now X l.length).1
set_option maxRecDepth 100000 in
set_option maxHeartbeats 2000000 in
theorem on_any (k : SagK) (bs bo ob : Nat) (X : AskX) (now : Int) (U : Nat → Prop) (w : World) (h : AskE w U k bs bo ob X) (hf : FineK k) (hdn : ∀ i ∈ X.1.done, 0 ≤ i ∧ i < (k.d.steps.length : Int)) (hdl : X.1.done.length ≤ 800000) (hul : X.1.undone.length ≤ 800000) (hol : X.2.length ≤ 800000) : Calls Tryz.prog 45 #[.pointer (some ⟨k.p, 0, none⟩), (.func (.func 83) #[] #[.pointer (some ⟨bs, 0, none⟩), .pointer (some ⟨bo, 0, none⟩)]), .int .i64 now] w fun e w' => e = .returned (.tuple #[]) ∧ AskTo w U w' k bs bo ob (onX k.d.steps k.rs now X) := by
  have hn30 := hf.small.steps
  have HF := Lib.hid hf
  have HDN := Lib.hid hdn
  have HFO := Lib.hid (forth_any k bs bo ob X now U w h hf (by omega) (by omega))
  have hfu := forthX_undone k.d.steps k.rs now X
  have hfd := forthX_done k.d.steps k.rs now X
  have hfo := forthX_out k.d.steps k.rs now X
  have HBK := Lib.hid (fun Y V W (hY : AskE W V k bs bo ob Y) h1 h2 h3 h4 => back_any k bs bo ob Y now V W hY hf h1 h2 h3 h4)
  have HSE := Lib.hid (fun Y V W (hY : AskE W V k bs bo ob Y) => (hY : ∃ da dc ua uc va vc, AskR W V k.p k.m k.sa k.sc k.vr k.d k.rs k.N bs bo ob da dc ua uc va vc Y))
  have HH := Lib.hid h
  have HDN2 : Hid (∀ i ∈ (forthX k.d.steps k.rs now X).1.done, 0 ≤ i ∧ i < (k.d.steps.length : Int)) := Lib.hid (by rw [hfd]; exact hdn)
  have hfd2 : (forthX k.d.steps k.rs now X).1.done.length ≤ 800000 := by rw [hfd]; omega
  have hfu2 : (forthX k.d.steps k.rs now X).1.undone.length ≤ 800000 := by rw [hfu]; omega
  have hfo2 : (forthX k.d.steps k.rs now X).2.length ≤ 900000 := by omega
  clear hf hdn hfu hfd hfo
  unfold onX
  dsimp only
  by_cases h1 : X.1.status = 1
  · rw [if_pos h1]
    have d1 : (X.1.status == 1) = true := by simpa using h1
    generalize forthX k.d.steps k.rs now X = Y at *
    by_cases h2 : Y.1.status = 2
    · rw [if_pos h2]
      have d2 : (Y.1.status == 2) = true := by simpa using h2
      obtain ⟨da, dc, ua, uc, va, vc, h⟩ := h
      obtain ⟨p, m, sa, sc, vr, d, rs, N⟩ := k
      dsimp only at *
      obtain ⟨-, -, -, -, -, -, -, x7⟩ := h.sag.cells
      clear h h1 h2
      go_enter Tryz.func45, Tryz.ntmps45
      go_wp2_with fail
      refine HFO.out.mono ?_
      rintro e w1 ⟨rfl, V, hY, hG⟩
      obtain ⟨da', dc', ua', uc', va', vc', hA⟩ := HSE.out _ _ _ hY
      obtain ⟨-, -, -, -, -, -, -, y7⟩ := hA.sag.cells
      have HT := Lib.hid (HBK.out Y V w1 hY (by omega) (by omega) hfo2 HDN2.out)
      have HG := Lib.hid hG
      clear hA hY hG x7
      go_wp2_with fail
      refine HT.out.mono ?_
      rintro e w2 ⟨rfl, hT⟩
      have HFIN := Lib.hid (AskTo.trans HG.out hT)
      clear hT
      go_wp2_with fail
      go_end0
      exact ⟨rfl, HFIN.out⟩
    · rw [if_neg h2]
      have d2 : (Y.1.status == 2) = false := by simpa using h2
      obtain ⟨da, dc, ua, uc, va, vc, h⟩ := h
      obtain ⟨p, m, sa, sc, vr, d, rs, N⟩ := k
      dsimp only at *
      obtain ⟨-, -, -, -, -, -, -, x7⟩ := h.sag.cells
      clear h h1 h2
      go_enter Tryz.func45, Tryz.ntmps45
      go_wp2_with fail
      refine HFO.out.mono ?_
      rintro e w1 ⟨rfl, V, hY, hG⟩
      obtain ⟨da', dc', ua', uc', va', vc', hA⟩ := HSE.out _ _ _ hY
      obtain ⟨-, -, -, -, -, -, -, y7⟩ := hA.sag.cells
      have HFIN := Lib.hid (show AskTo w U w1 ⟨p, m, sa, sc, vr, d, rs, N⟩ bs bo ob Y from ⟨V, hY, hG⟩)
      clear hA hY hG x7
      go_wp2_with fail
      go_end0
      exact ⟨rfl, HFIN.out⟩
  · rw [if_neg h1]
    have d1 : (X.1.status == 1) = false := by simpa using h1
    have HT := Lib.hid (HBK.out X U w h (by omega) (by omega) (by omega) HDN.out)
    have HFIN := Lib.hid (HH.out.to (Below.refl _ w))
    by_cases h2 : X.1.status = 2
    · rw [if_pos h2]
      have d2 : (X.1.status == 2) = true := by simpa using h2
      obtain ⟨da, dc, ua, uc, va, vc, h⟩ := h
      obtain ⟨p, m, sa, sc, vr, d, rs, N⟩ := k
      dsimp only at *
      obtain ⟨-, -, -, -, -, -, -, x7⟩ := h.sag.cells
      clear h h1 h2
      go_enter Tryz.func45, Tryz.ntmps45
      go_wp2_with fail
      refine HT.out.mono ?_
      rintro e w2 ⟨rfl, hT⟩
      have HFIN := Lib.hid hT
      clear hT
      go_wp2_with fail
      go_end0
      exact ⟨rfl, HFIN.out⟩
    · rw [if_neg h2]
      have d2 : (X.1.status == 2) = false := by simpa using h2
      obtain ⟨da, dc, ua, uc, va, vc, h⟩ := h
      obtain ⟨p, m, sa, sc, vr, d, rs, N⟩ := k
      dsimp only at *
      obtain ⟨-, -, -, -, -, -, -, x7⟩ := h.sag.cells
      clear h h1 h2
      go_enter Tryz.func45, Tryz.ntmps45
      go_wp2_with fail
      go_end0
      exact ⟨rfl, HFIN.out⟩
theorem asker_any (k : SagK) (S : SagD) (U : Nat → Prop) (w : World) (h : SagE w U k S) (hU : ∀ j, U j → j < w.heap.size) : Calls Tryz.prog 44 #[.pointer (some ⟨k.p, 0, none⟩)] w fun e w' => ∃ bs bo ob, e = .returned (.tuple #[.pointer (some ⟨ob, 0, none⟩), (.func (.func 83) #[] #[.pointer (some ⟨bs, 0, none⟩), .pointer (some ⟨bo, 0, none⟩)])]) ∧ AskE w' (fun j => U j ∨ j = ob) k bs bo ob (S, []) ∧ Below w.heap.size w w' ∧ w.heap.size ≤ ob ∧ ob < w'.heap.size := by
  have HH := Lib.hid h
  clear h
  obtain ⟨hb1, hsz1, hf⟩ := allocF [.cells #[.pointer (some ⟨k.p, 0, none⟩)] 48, .cells #[.slice none 0 0] 52, .cells #[.pointer (some ⟨w.heap.size + 1, 0, none⟩)] 92] w
  have g0 := hf 0 _ rfl
  have g1 := hf 1 _ rfl
  have g2 := hf 2 _ rfl
  clear hf
  have e0 : w.heap.size + 0 = w.heap.size := rfl
  simp only [List.foldl_cons, List.foldl_nil, List.length_cons, List.length_nil, Nat.reduceAdd] at hb1 hsz1 g0 g1 g2
  rw [e0] at g0
  have HB := Lib.hid hb1
  have HG0 := Lib.hid g0
  have HG1 := Lib.hid g1
  have HG2 := Lib.hid g2
  have HU := Lib.hid hU
  have HS1 := Lib.hid (HH.out.below hb1)
  have HSZ := Lib.hid hsz1
  clear g0 g1 g2 hb1 hsz1 e0 hU
  go_enter Tryz.func44, Tryz.ntmps44
  go_wp2_with fail
  have HT := HSZ.out
  refine bodyPost_ret (results_tmp2 rfl _ _ _) rfl ⟨w.heap.size, w.heap.size + 1 + 1, w.heap.size + 1, rfl, ?_, HB.out, by omega, by omega⟩
  generalize ((w.alloc (.cells #[.pointer (some ⟨k.p, 0, none⟩)] 48)).alloc (.cells #[.slice none 0 0] 52)).alloc (.cells #[.pointer (some ⟨w.heap.size + 1, 0, none⟩)] 92) = w3 at *
  obtain ⟨da, dc, ua, uc, h⟩ := HH.out
  have hG : Grow U (fun j => U j ∨ j = w.heap.size + 1) w w3 := ⟨Chg.of_below HB.out, fun j hj => hj.elim .inl (fun e => .inr (by omega)), fun j hj => .inl hj⟩
  obtain ⟨L, g, q1, _⟩ := h.map
  exact ⟨da, dc, ua, uc, none, 0, ⟨h.turn hG (HB.out.block _ h.ltp) (HB.out.block _ h.ltm) (fun g e => HB.out.block _ (h.done.lt g e).2) (fun g e => HB.out.block _ (h.undone.lt g e).2), HG0.out, HG2.out, HG1.out, World.ownsRow_nil _ _ _ _, fun e => e.elim (fun e => by have := HU.out _ e; omega) (fun e => by omega), fun e => e.elim (fun e => by have := HU.out _ e; omega) (fun e => by omega), .inr rfl, fun g e => by cases e⟩⟩
def CallTo (w : World) (U : Nat → Prop) (w' : World) (k : SagK) (S : SagD) (os : List OrdD) (v : Value) : Prop :=
  ∃ (V : Nat → Prop) (va : Option Addr) (vc : Nat), v = .slice va os.length vc ∧ w'.ownsRow w.heap.size 55 4 (.slice va os.length vc) os.length (flatO os) ∧ (∀ g, (Value.slice va os.length vc).ownBlock = some g → ¬ V g) ∧ SagE w' V k S ∧ Grow U V w w' ∧ ∀ j, V j → j < w'.heap.size
theorem AskE.read {w : World} {U : Nat → Prop} {k : SagK} {bs bo ob : Nat} {X : AskX} (h : AskE w U k bs bo ob X) : ∃ va vc, w.heap[ob]? = some (.cells #[.slice va X.2.length vc] 52 (0, 0)) ∧ w.ownsRow ob 55 4 (.slice va X.2.length vc) X.2.length (flatO X.2) := by
  obtain ⟨da, dc, ua, uc, va, vc, h⟩ := h
  exact ⟨va, vc, h.hob, h.row⟩
theorem call_fin {w w1 w' : World} {U U' : Nat → Prop} {k : SagK} {bs bo ob : Nat} {X : AskX} (hU : ∀ j, U j → j < w.heap.size) (hb1 : Below w.heap.size w w1) (hob : w.heap.size ≤ ob) (hA : AskE w' U' k bs bo ob X) (hG : Grow (fun j => U j ∨ j = ob) U' w1 w') :
    ∃ va vc, w'.heap[ob]? = some (.cells #[.slice va X.2.length vc] 52 (0, 0)) ∧ CallTo w U w' k X.1 X.2 (.slice va X.2.length vc) := by
  obtain ⟨da, dc, ua, uc, va, vc, h⟩ := hA
  have hs1 := hb1.size
  have hs := hG.size
  refine ⟨va, vc, h.hob, fun j => U' j ∧ j ≠ ob ∧ (Value.slice va X.2.length vc).ownBlock ≠ some j ∧ j < w'.heap.size, va, vc, rfl, ownsRow_mono h.row hob, fun g e e2 => e2.2.2.1 e, ⟨da, dc, ua, uc, ?_⟩, ⟨?_, fun j hj => (hG.new j hj.1).elim (fun e => e.elim .inl (fun e => absurd e hj.2.1)) (fun e => .inr (by omega)), fun j hj => ?_⟩, fun j hj => hj.2.2.2⟩
  · have hp : k.p ≠ ob := fun e => by
      have h1 := h.sag.cell
      rw [e] at h1
      exact absurd (h1.symm.trans h.hob) (by simp)
    have hn : ∀ {e : TypeId} {size n : Nat} {v : Value} {xs : List Value}, w'.ownsRow 0 e size v n xs → 52 ≠ e → 55 ≠ e → ∀ g, v.ownBlock = some g → U' g → g ≠ ob ∧ (Value.slice va X.2.length vc).ownBlock ≠ some g ∧ g < w'.heap.size := fun hr he1 he2 g hg _ => ⟨fun e => row_ne hr h.hob he1 (by rw [← e]; exact hg), fun e => by
      obtain ⟨c1, k1⟩ := owns_cells h.row e
      exact row_ne hr k1 he2 hg, (hr.lt g hg).2⟩
    refine ⟨h.sag.cell, h.sag.df.less (fun j hj => hj.1), h.sag.refs.less (fun j hj => hj.1), h.sag.map, h.sag.done, h.sag.undone, h.sag.apart, ⟨h.sag.ownp, hp, row_ne h.row h.sag.cell (by decide), h.sag.ltp⟩, ⟨h.sag.ownm, fun e => h.sag.nem h.hob e.symm, row_map h.row h.sag rfl, h.sag.ltm⟩, fun g e => ⟨h.sag.ownd g e, hn h.sag.done (by decide) (by decide) g e (h.sag.ownd g e)⟩, fun g e => ⟨h.sag.ownu g e, hn h.sag.undone (by decide) (by decide) g e (h.sag.ownu g e)⟩⟩
  · exact (Chg.of_below hb1).trans hG.chg (fun j hj hl => hj.elim id (fun e => by omega))
  · have hl := hU j hj
    exact ⟨hG.old j (.inl hj), by omega, fun e => by have := (h.row.lt j e).1; omega, by omega⟩
end Go.Proofs.YtgfiogjfgbegpaaGreat
