/-
  Diags as arguments; rescriptlaw24.small; the law DiagSorts: walk.
-/
import Derived.Test.YtbnggfhofdpdcaaBq10
import Derived.Test.YtbnggfhofdpdcaaBq13
import Derived.Test.YtbnggfhofdpdcaaBq53
namespace Go.Proofs.Ytbnggfhofdpdcaa
open Go Go.RowKit Go.WideShapes Go.ChangeShapes Go.ChangeAt

theorem Try.struct_diag : ∃ f0 f1 f2 : Field, Try.prog.underlying 61 = some (.struct #[f0, f1, f2]) ∧ (f0.offset = 0 ∧ f0.type = 3) ∧ (f1.offset = 1 ∧ f1.type = 27) ∧ (f2.offset = 2 ∧ f2.type = 9) := ⟨_, _, _, Try.underlying61, ⟨rfl, rfl⟩, ⟨rfl, rfl⟩, ⟨rfl, rfl⟩⟩
set_option maxRecDepth 100000 in
theorem open_diagF {H : Type} {enc : TypeId × Value → H} {W : World} {fuel : Nat} {cs : List Value} {y : DataW H × List MemPlace} (hlen : cs.length = 3) (hy : DataW.trod enc Try.prog W 0 (fun _ => true) true fuel 61 cs = some y) : ∃ x : DiagD, OkG x ∧ cs = encG x := by
  have c0 : Try.prog.cellsOf 3 = 1 := by kernel_rfl
  have c1 : Try.prog.cellsOf 27 = 1 := by kernel_rfl
  have c2 : Try.prog.cellsOf 9 = 1 := by kernel_rfl
  obtain ⟨f0, f1, f2, hs, ⟨o0, t0⟩, ⟨o1, t1⟩, ⟨o2, t2⟩⟩ := Try.struct_diag
  obtain ⟨xs, k, hk, hxy, _, hxl, hf⟩ := DataW.trod_struct hs hy
  match cs, hlen, xs, hxl with
  | [v0, v1, v2], _, [y0, y1, y2], _ =>
    have g0 := hf 0 f0 rfl
    have g1 := hf 1 f1 rfl
    have g2 := hf 2 f2 rfl
    simp [o0, o1, o2, t0, t1, t2, c0, c1, c2] at g0 g1 g2
    obtain ⟨n0, e0, _, w0⟩ := DataW.trod_int Try.underlying3 g0
    obtain ⟨n1, e1, _, w1⟩ := DataW.trod_int Try.underlying27 g1
    obtain ⟨n2, e2, _, w2⟩ := DataW.trod_string Try.underlying9 g2
    simp at e0 e1 e2
    subst e0 e1 e2
    exact ⟨(n0, n1, n2), ⟨wf_i64 w0, wf_i64 w1, w2⟩, rfl⟩
set_option maxRecDepth 100000 in
theorem open_diagsR {H : Type} {enc : TypeId × Value → H} {W : World} {base : Nat} {v : Value} {d : DataW H} {ps : List MemPlace} (hv : Value.okWide Try.prog W .any base 51 v) (h : DataW.Trod enc Try.prog W 0 (fun _ => true) true 51 v d ps) :
    ∃ l : List DiagD, DgR W v l := by
  have hc3 : Try.prog.cellsOf 61 = 3 := by kernel_rfl
  obtain ⟨n, C, hC, hr⟩ := open_rowsR (m := 3) Try.underlying51 hc3 (by decide) hv h
  obtain ⟨l, hl, hp, hf⟩ := rows_of (f := fun x : DiagD => encG x) (p := OkG) (C := C) (n := n) (fun i hi => by
    obtain ⟨hlen, fuel, y, hy⟩ := hC i hi
    exact open_diagF hlen hy)
  refine ⟨l, ?_, hp⟩
  rw [hl]
  rw [hf] at hr
  exact hr
set_option maxRecDepth 100000 in
theorem open_diagR {H : Type} {enc : TypeId × Value → H} {W : World} {base : Nat} {v : Value} {d : DataW H} {ps : List MemPlace} (hv : Value.okWide Try.prog W .any base 61 v) (h : DataW.Trod enc Try.prog W 0 (fun _ => true) true 61 v d ps) :
    ∃ x : DiagD, v = .agg #[.int .i64 x.1, .int .i64 x.2.1, .string x.2.2] ∧ OkG x := by
  obtain ⟨cs, rfl, hsz, _⟩ := open_aggW (n := 3) Try.underlying61 (by kernel_rfl) (ts := [3, 27, 9]) (by kernel_rfl) rfl hv
  obtain ⟨fuel, hf⟩ := h
  obtain ⟨x, hx, e⟩ := open_diagF (cs := (Value.agg cs).cells.toList) (by simp [Value.cells, hsz]) hf
  refine ⟨x, ?_, hx⟩
  have : cs.toList = encG x := by simpa [Value.cells] using e
  rw [← Array.toArray_toList (xs := cs), this]
  rfl
/-- Few, and short. -/
def smallG (l : List DiagD) : Bool := decide (l.length ≤ 60) && l.all fun x => decide (x.2.2.size ≤ 500)
theorem smallG_of {l : List DiagD} (h : smallG l = true) : l.length ≤ 60 ∧ ∀ x ∈ l, x.2.2.size ≤ 500 := by
  simp only [smallG, Bool.and_eq_true, decide_eq_true_eq, List.all_eq_true] at h
  exact h
set_option maxRecDepth 100000 in
set_option maxHeartbeats 2000000 in
theorem smallG_any (l : List DiagD) (v : Value) (w : World) (hv : DgR w v l) :
    Calls Try.prog 39 #[v] w fun e w' => e = .returned (.bool (smallG l)) ∧ w' = w := by
  have HV := Lib.hid hv
  obtain ⟨va, vc, rfl, hc1, hc2⟩ := hv.form
  clear hv
  by_cases h60 : (60 : Int) < (l.length : Int)
  · have d1 : decide ((60 : Int) < (l.length : Int)) = true := decide_eq_true h60
    have HS : Hid (smallG l = false) := Lib.hid (by unfold smallG; rw [decide_eq_false (by omega)]; rfl)
    go_enter Try.func39, Try.ntmps39
    go_wp2_with fail
    go_ret
    rw [HS.out]
    exact ⟨rfl, rfl⟩
  have d1 : decide ((60 : Int) < (l.length : Int)) = false := decide_eq_false h60
  go_enter Try.func39, Try.ntmps39
  go_wp2_with fail
  go_loopg [3] (l.length + 1) (fun gk i wr => ∃ k : Nat, k + gk = l.length + 1 ∧ k ≤ l.length ∧ i = .int .i64 k ∧ Hid (∀ x ∈ l.take k, x.2.2.size ≤ 500) ∧ wr = w)
  case atStart => exact ⟨0, by omega, by omega, rfl, Lib.hid (by simp), rfl⟩
  case round =>
    obtain ⟨k, hgk, hk, rfl, HA, rfl⟩ := hrel
    have hg : gk = l.length + 1 - k := by omega
    subst hg
    by_cases hkl : k < l.length
    · have d2 : decide ((k : Int) < (l.length : Int)) = true := decide_eq_true (by omega)
      have hk1 : (k : Int) < (l.length : Int) := by omega
      obtain ⟨g, off, cap, he, -, -, z0, z1, z2⟩ := HV.out.at hkl
      cases he
      have HT := Lib.hid (take_succ_get hkl)
      have HM := Lib.hid (List.getElem_mem hkl)
      generalize l[k] = x at *
      by_cases h5 : (500 : Int) < (x.2.2.size : Int)
      · have d3 : decide ((500 : Int) < (x.2.2.size : Int)) = true := decide_eq_true h5
        have HS : Hid (smallG l = false) := Lib.hid (by
          cases h : smallG l with
          | false => rfl
          | true => have := (smallG_of h).2 x HM.out; omega)
        go_wp2_with fail
        go_ret
        rw [HS.out]
        exact ⟨rfl, rfl⟩
      · have d3 : decide ((500 : Int) < (x.2.2.size : Int)) = false := decide_eq_false h5
        have HA2 : Hid (∀ y ∈ l.take (k + 1), y.2.2.size ≤ 500) := Lib.hid (by rw [HT.out]; intro y hy; rcases List.mem_append.1 hy with h | h; exact HA.out y h; simp at h; subst h; omega)
        go_wp2_with fail
        go_roundg (l.length + 1 - (k + 1))
        case measure => omega
        case rel => exact ⟨k + 1, by omega, by omega, by go_num, HA2, rfl⟩
    · have d2 : decide ((k : Int) < (l.length : Int)) = false := decide_eq_false (by omega)
      have hk1 : ¬ (k : Int) < (l.length : Int) := by omega
      have HS : Hid (smallG l = true) := Lib.hid (by
        unfold smallG
        rw [decide_eq_true (by omega)]
        simp only [Bool.true_and, List.all_eq_true, decide_eq_true_eq]
        have := HA.out
        rwa [List.take_of_length_le (by omega)] at this)
      go_wp2_with fail
      go_ret
      rw [HS.out]
      exact ⟨rfl, rfl⟩

set_option maxRecDepth 100000 in
set_option maxHeartbeats 8000000 in
theorem DiagSorts_any (l : List DiagD) (v : Value) (st : Int) (a b : DiagD) (w : World) (hv : DgR w v l) (_h1 : -9223372036854775808 ≤ st) (_h2 : st ≤ 9223372036854775807) (_ha : OkG a) (_hb : OkG b) :
    Calls Try.prog 8 #[v, .int .i64 st, .agg #[.int .i64 a.1, .int .i64 a.2.1, .string a.2.2], .agg #[.int .i64 b.1, .int .i64 b.2.1, .string b.2.2]] w fun e w' => e = .returned (.bool true) ∧ Below w.heap.size w w' := by
  obtain ⟨i0, hi, hz0, hz1, hz2⟩ := info_parts Try.info_diag
  obtain ⟨hb0, g0, g1, hsz⟩ := alloc2 w 61 61 #[.int .i64 a.1, .int .i64 a.2.1, .string a.2.2] #[.int .i64 b.1, .int .i64 b.2.1, .string b.2.2]
  obtain ⟨va, vc, rfl, hc1, hc2⟩ := hv.form
  have HV0 := Lib.hid (hv.below hb0)
  have HB0 := Lib.hid hb0
  have HA0 := Lib.hid g0
  have HBB0 := Lib.hid g1
  clear hv hb0 g0 g1 hsz
  go_enter Try.func8, Try.ntmps8
  go_upto_region 1 with fail
  generalize ((w.alloc (.cells #[.int .i64 a.1, .int .i64 a.2.1, .string a.2.2] 61)).alloc (.cells #[.int .i64 b.1, .int .i64 b.2.1, .string b.2.2] 61)) = w0 at *
  go_wp2_with fail
  refine (live24_any _).mono ?_
  rintro e w1 ⟨rfl, hb1⟩
  have HB1 := Lib.hid (bthen HB0.out (Nat.le_refl _) hb1)
  have HV1 := Lib.hid (HV0.out.below hb1)
  have HA1 := Lib.hid ((hb1.block _ (Array.getElem?_eq_some_iff.1 HA0.out).1).trans HA0.out)
  have HBB1 := Lib.hid ((hb1.block _ (Array.getElem?_eq_some_iff.1 HBB0.out).1).trans HBB0.out)
  clear hb1
  go_wp2_with fail
  refine (smallG_any l _ w1 HV1.out).mono ?_
  rintro e w2 ⟨rfl, rfl⟩
  cases hsm : smallG l with
  | false =>
    clear hsm
    go_wp2
    go_ret
    exact ⟨rfl, HB1.out⟩
  | true =>
  obtain ⟨hl60, hls⟩ := smallG_of hsm
  clear hsm hls
  obtain ⟨p0, p1, p2, -, -, -⟩ := cells3h HA1.out
  obtain ⟨r0, r1, r2, -, -, -⟩ := cells3h HBB1.out
  by_cases ha5 : (500 : Int) < (a.2.2.size : Int)
  · have d3 : decide ((500 : Int) < (a.2.2.size : Int)) = true := decide_eq_true ha5
    go_wp2_with fail
    go_ret
    exact ⟨rfl, HB1.out⟩
  have d3 : decide ((500 : Int) < (a.2.2.size : Int)) = false := decide_eq_false ha5
  by_cases hb5 : (500 : Int) < (b.2.2.size : Int)
  · have d4 : decide ((500 : Int) < (b.2.2.size : Int)) = true := decide_eq_true hb5
    go_wp2_with fail
    go_ret
    exact ⟨rfl, HB1.out⟩
  have d4 : decide ((500 : Int) < (b.2.2.size : Int)) = false := decide_eq_false hb5
  clear ha5 hb5
  go_wp2_with fail
  clear p0 p1 p2 r0 r1 r2 d3 d4
  go_loopg [10, 9] (l.length + 1) (fun gk i s9 wr => ∃ (k : Nat) (va' : Option Addr) (vc' n : Nat), k + gk = l.length + 1 ∧ k ≤ l.length ∧ i = .int .i64 k ∧ s9 = .slice va' n vc' ∧ Hid (n = (keepG st (l.take k)).length) ∧ Hid (OwnG wr w2.heap.size va' vc' (keepG st (l.take k))) ∧ Hid (Below w2.heap.size w2 wr))
  case atStart => exact ⟨0, _, _, _, by omega, by omega, rfl, rfl, Lib.hid rfl, Lib.hid (OwnG.nil _ _), Lib.hid (Below.refl _ _)⟩
  case round =>
    obtain ⟨k, va0, vc0, n0, hgk, hk, rfl, rfl, HNL, HO, HB⟩ := hrel
    rename World => wr
    have hg : gk = l.length + 1 - k := by omega
    subst hg
    have hkn := keepG_len st (l.take k)
    rw [List.length_take] at hkn
    have hnl := HNL.out
    by_cases hkl : k < l.length
    · have d1 : decide ((k : Int) < (l.length : Int)) = true := decide_eq_true (by omega)
      have hk1 : (k : Int) < (l.length : Int) := by omega
      obtain ⟨g, off, cap, he, -, -, z0, z1, z2⟩ := (HV1.out.below HB.out).at hkl
      cases he
      have HKS := Lib.hid (keepG_snoc st (l.take k) l[k])
      have HT := Lib.hid (take_succ_get hkl)
      generalize l[k] = x at *
      by_cases hs : x.1 = st
      · have e1 : (x.1 == st) = true := by simpa using hs
        have HE : Hid (keepG st (l.take (k + 1)) = keepG st (l.take k) ++ [x]) := Lib.hid (by rw [HT.out, HKS.out, if_pos hs])
        clear hs HKS HT
        generalize keepG st (l.take k) = o9 at *
        subst hnl
        go_wp2_with (at_builtin; go_must (refine wpList_push rfl _ _ 51 rfl w2.heap.size 61 i0 (.agg #[.int .i64 0, .int .i64 0, .string { data := #[] }]) 3 32 Try.underlying51 hi hz0 hz1 hz2 rfl (by decide) _ _ _ rfl (HO.out.alloc _) ⟨wr.heap.size, 0, none⟩ 1 1 (encG x) rfl rfl cells3_new (encG_one x) (by unfold maxLen; omega) (by omega) (by have := HB.out.size; simp; omega) ?_; intro v' w2 hown' hgrow hfr; obtain ⟨va', vc', rfl, kb1, kb2, kb3⟩ := ownG_pushed HO.out (by have := HB.out.size; omega) hown' hgrow; have KB1 := Lib.hid kb1; have KB2 := Lib.hid kb2; clear hown' hgrow hfr kb1 kb2 kb3))
        go_roundg (l.length + 1 - (k + 1))
        case measure => omega
        case rel => exact ⟨k + 1, va', vc', _, by omega, by omega, by go_num, rfl, Lib.hid (by rw [HE.out, List.length_append]; rfl), Lib.hid (by rw [HE.out]; exact KB1.out), Lib.hid (HB.out.trans KB2.out)⟩
      · have e1 : (x.1 == st) = false := by simpa using hs
        have HE : Hid (keepG st (l.take (k + 1)) = keepG st (l.take k)) := Lib.hid (by rw [HT.out, HKS.out, if_neg hs])
        clear hs HKS HT
        go_wp2_with fail
        go_roundg (l.length + 1 - (k + 1))
        case measure => omega
        case rel => exact ⟨k + 1, va0, vc0, n0, by omega, by omega, by go_num, (by first | rfl | rw [hnl]), Lib.hid (by rw [HE.out]; exact hnl), Lib.hid (by rw [HE.out]; exact HO.out), HB⟩
    · have d1 : decide ((k : Int) < (l.length : Int)) = false := decide_eq_false (by omega)
      have hk1 : ¬ (k : Int) < (l.length : Int) := by omega
      have ho := HO.out
      rw [List.take_of_length_le (by omega)] at ho hnl
      subst hnl
      have HGK : Hid (DgR wr (.slice va0 (keepG st l).length vc0) (keepG st l)) := Lib.hid (ho.read (fun x hx => HV1.out.2 x (List.mem_filter.1 hx).1))
      have HVR := Lib.hid (HV1.out.below HB.out)
      have HAR := Lib.hid ((HB.out.block _ (Array.getElem?_eq_some_iff.1 HA1.out).1).trans HA1.out)
      have HBR := Lib.hid ((HB.out.block _ (Array.getElem?_eq_some_iff.1 HBB1.out).1).trans HBB1.out)
      have HBW := Lib.hid (bthen HB1.out (Nat.le_refl _) HB.out)
      have HOKS := Lib.hid (fun x (hx : x ∈ sortD l) => HV1.out.2 x ((sortD_mem _ x).1 hx))
      clear ho HO HNL hkn
      obtain ⟨p0, p1, p2, -, -, -⟩ := cells3h HAR.out
      obtain ⟨r0, r1, r2, -, -, -⟩ := cells3h HBR.out
      generalize hcm : decide (cmpD a b < 0) = cm at *
      have hee : (cm == cm) = true := by simp
      have HX0 : Hid (Below wr.heap.size wr wr.drew) := Lib.hid ((Below.refl _ _).drew)
      go_wp2_with fail
      go_upto_region 11 with fail
      refine E_region (S := (fun W => W.cell? ⟨w.heap.size, 0, none⟩ = some (.int .i64 a.1) ∧ W.cell? ⟨w.heap.size, 1, none⟩ = some (.int .i64 a.2.1) ∧ W.cell? ⟨w.heap.size, 2, none⟩ = some (.string a.2.2) ∧ W.cell? ⟨w.heap.size + 1, 0, none⟩ = some (.int .i64 b.1) ∧ W.cell? ⟨w.heap.size + 1, 1, none⟩ = some (.int .i64 b.2.1) ∧ W.cell? ⟨w.heap.size + 1, 2, none⟩ = some (.string b.2.2))) 18 (by kernel_rfl) ⟨p0, p1, p2, r0, r1, r2⟩ (fun _ _ _ _ _ h => h) (fun Q' hQ hK' hHeld => ?_)
      refine E_take0 hQ (fun _ => hHeld) 0 (v := ?qv1) rfl rfl (by kernel_rfl) (by kernel_rfl) (by kernel_rfl) (by decide) (by rfl) ?qy1 ?qr1
      case qy1 => (intro w; go_simp; (try with_reducible rfl))
      (try simp only [Act.put, List.setIfInBounds_toArray, List.set_cons_zero, List.set_cons_succ])
      refine E_take0 hQ (fun _ => hHeld) 2 (v := ?qv2) rfl rfl (by kernel_rfl) (by kernel_rfl) (by kernel_rfl) (by decide) (by rfl) ?qy2 ?qr2
      case qy2 => (intro w; go_simp; (try with_reducible rfl))
      (try simp only [Act.put, List.setIfInBounds_toArray, List.set_cons_zero, List.set_cons_succ])
      refine E_one 1 (by kernel_rfl) rfl (by rfl) (fun K hK => ?_)
      go_simp
      refine (dSort_any l _ _ (HVR.out.below HX0.out) (by omega)).mono ?_
      rintro e X1 ⟨va1, vc1, rfl, ho, hb⟩
      have HG1 := Lib.hid (ho.read HOKS.out)
      clear ho
      have HY1 := Lib.hid hb
      have HX1 : Hid (Below wr.heap.size wr X1) := Lib.hid (bthen HX0.out (by have := HX0.out.size; exact Nat.le_refl _) hb)
      clear hb
      (skip)
      refine hK.out _ _ (fun _ _ => ⟨cellB HY1.out hHeld.1, cellB HY1.out hHeld.2.1, cellB HY1.out hHeld.2.2.1, cellB HY1.out hHeld.2.2.2.1, cellB HY1.out hHeld.2.2.2.2.1, cellB HY1.out hHeld.2.2.2.2.2⟩) (fun hHeld' => ?_)
      replace hHeld := hHeld' (by rfl) (by decide)
      clear hK hHeld'
      (try simp only [Act.put, List.setIfInBounds_toArray, List.set_cons_zero, List.set_cons_succ])
      refine E_one 3 (by kernel_rfl) rfl (by rfl) (fun K hK => ?_)
      go_simp
      refine (rSort_any l _ _ (HVR.out.below HX1.out) (by omega)).mono ?_
      rintro e X2 ⟨va2, vc2, rfl, ho, hb⟩
      have HG2 := Lib.hid (ho.read HOKS.out)
      have HG1' := Lib.hid (HG1.out.below hb)
      clear ho
      have HY2 := Lib.hid hb
      have HX2 : Hid (Below wr.heap.size wr X2) := Lib.hid (bthen HX1.out (by have := HX1.out.size; exact Nat.le_refl _) hb)
      clear hb
      (skip)
      refine hK.out _ _ (fun _ _ => ⟨cellB HY2.out hHeld.1, cellB HY2.out hHeld.2.1, cellB HY2.out hHeld.2.2.1, cellB HY2.out hHeld.2.2.2.1, cellB HY2.out hHeld.2.2.2.2.1, cellB HY2.out hHeld.2.2.2.2.2⟩) (fun hHeld' => ?_)
      replace hHeld := hHeld' (by rfl) (by decide)
      clear hK hHeld'
      (try simp only [Act.put, List.setIfInBounds_toArray, List.set_cons_zero, List.set_cons_succ])
      refine E_one 4 (by kernel_rfl) rfl (by rfl) (fun K hK => ?_)
      go_simp
      refine (rSameG_any _ _ _ _ _ HG1'.out HG2.out (by have := sortD_len l; omega)).mono ?_
      rintro e X3 hq
      obtain ⟨q3, rfl, rfl⟩ := hq
      rw [show decide (sortD l = sortD l) = true from decide_eq_true rfl]
      have hb : Below X2.heap.size X2 (X2.drewN q3) := belowN (Below.refl _ _) q3
      generalize X2.drewN q3 = X3 at *
      have HY3 := Lib.hid hb
      have HX3 : Hid (Below wr.heap.size wr X3) := Lib.hid (bthen HX2.out (by have := HX2.out.size; exact Nat.le_refl _) hb)
      clear hb
      (skip)
      refine hK.out _ _ (fun _ _ => ⟨cellB HY3.out hHeld.1, cellB HY3.out hHeld.2.1, cellB HY3.out hHeld.2.2.1, cellB HY3.out hHeld.2.2.2.1, cellB HY3.out hHeld.2.2.2.2.1, cellB HY3.out hHeld.2.2.2.2.2⟩) (fun hHeld' => ?_)
      replace hHeld := hHeld' (by rfl) (by decide)
      clear hK hHeld'
      (try simp only [Act.put, List.setIfInBounds_toArray, List.set_cons_zero, List.set_cons_succ])
      refine E_take0 hQ (fun _ => hHeld) 5 (v := ?qv3) rfl rfl (by kernel_rfl) (by kernel_rfl) (by kernel_rfl) (by decide) (by rfl) ?qy3 ?qr3
      case qy3 => (intro w; go_simp; (try with_reducible rfl))
      (try simp only [Act.put, List.setIfInBounds_toArray, List.set_cons_zero, List.set_cons_succ])
      refine E_take0 hQ (fun _ => hHeld) 6 (v := ?qv4) rfl rfl (by kernel_rfl) (by kernel_rfl) (by kernel_rfl) (by decide) (by rfl) ?qy4 ?qr4
      case qy4 => (intro w; go_simp; (try with_reducible rfl))
      (try simp only [Act.put, List.setIfInBounds_toArray, List.set_cons_zero, List.set_cons_succ])
      refine E_take0 hQ (fun _ => hHeld) 7 (v := ?qv5) rfl rfl (by kernel_rfl) (by kernel_rfl) (by kernel_rfl) (by decide) (by rfl) ?qy5 ?qr5
      case qy5 => (intro w; go_simp; (try with_reducible rfl))
      (try simp only [Act.put, List.setIfInBounds_toArray, List.set_cons_zero, List.set_cons_succ])
      refine E_take0 hQ (fun _ => hHeld) 9 (v := ?qv6) rfl rfl (by kernel_rfl) (by kernel_rfl) (by kernel_rfl) (by decide) (by rfl) ?qy6 ?qr6
      case qy6 => (intro w; go_simp; (try with_reducible rfl))
      (try simp only [Act.put, List.setIfInBounds_toArray, List.set_cons_zero, List.set_cons_succ])
      refine E_one 8 (by kernel_rfl) rfl (by rfl) (fun K hK => ?_)
      go_simp
      refine (dOf_any l _ st _ (HVR.out.below HX3.out) (by omega)).mono ?_
      rintro e X4 ⟨va4, vc4, rfl, ho, hb⟩
      have HG4 := Lib.hid ho
      clear ho
      have HY4 := Lib.hid hb
      have HX4 : Hid (Below wr.heap.size wr X4) := Lib.hid (bthen HX3.out (by have := HX3.out.size; exact Nat.le_refl _) hb)
      clear hb
      (skip)
      refine hK.out _ _ (fun _ _ => ⟨cellB HY4.out hHeld.1, cellB HY4.out hHeld.2.1, cellB HY4.out hHeld.2.2.1, cellB HY4.out hHeld.2.2.2.1, cellB HY4.out hHeld.2.2.2.2.1, cellB HY4.out hHeld.2.2.2.2.2⟩) (fun hHeld' => ?_)
      replace hHeld := hHeld' (by rfl) (by decide)
      clear hK hHeld'
      (try simp only [Act.put, List.setIfInBounds_toArray, List.set_cons_zero, List.set_cons_succ])
      refine E_one 10 (by kernel_rfl) rfl (by rfl) (fun K hK => ?_)
      go_simp
      refine (rSameG_any _ _ _ _ _ HG4.out (HGK.out.below HX4.out) (by have := keepG_len st l; omega)).mono ?_
      rintro e X5 hq
      obtain ⟨q5, rfl, rfl⟩ := hq
      rw [show decide (keepG st l = keepG st l) = true from decide_eq_true rfl]
      have hb : Below X4.heap.size X4 (X4.drewN q5) := belowN (Below.refl _ _) q5
      generalize X4.drewN q5 = X5 at *
      have HY5 := Lib.hid hb
      have HX5 : Hid (Below wr.heap.size wr X5) := Lib.hid (bthen HX4.out (by have := HX4.out.size; exact Nat.le_refl _) hb)
      clear hb
      (skip)
      refine hK.out _ _ (fun _ _ => ⟨cellB HY5.out hHeld.1, cellB HY5.out hHeld.2.1, cellB HY5.out hHeld.2.2.1, cellB HY5.out hHeld.2.2.2.1, cellB HY5.out hHeld.2.2.2.2.1, cellB HY5.out hHeld.2.2.2.2.2⟩) (fun hHeld' => ?_)
      replace hHeld := hHeld' (by rfl) (by decide)
      clear hK hHeld'
      (try simp only [Act.put, List.setIfInBounds_toArray, List.set_cons_zero, List.set_cons_succ])
      refine E_take0 hQ (fun _ => hHeld) 11 (v := ?qv7) rfl rfl (by kernel_rfl) (by kernel_rfl) (by kernel_rfl) (by decide) (by rfl) ?qy7 ?qr7
      case qy7 => (intro w; go_simp; (try with_reducible rfl))
      (try simp only [Act.put, List.setIfInBounds_toArray, List.set_cons_zero, List.set_cons_succ])
      refine E_take0 hQ (fun _ => hHeld) 12 (v := ?qv8) rfl rfl (by kernel_rfl) (by kernel_rfl) (by kernel_rfl) (by decide) (by rfl) ?qy8 ?qr8
      case qy8 => (intro w; go_simp; (try with_reducible rfl))
      (try simp only [Act.put, List.setIfInBounds_toArray, List.set_cons_zero, List.set_cons_succ])
      refine E_take hQ hHeld 13 (v := ?qv9) rfl rfl (by kernel_rfl) (by kernel_rfl) (by kernel_rfl) (by kernel_rfl) (by kernel_rfl) (by rfl) ?qy9 ?qr9
      case qy9 => (intro w hSw; (try dsimp only at hSw); go_simp; (try with_reducible rfl))
      (try simp only [Act.put, List.setIfInBounds_toArray, List.set_cons_zero, List.set_cons_succ])
      refine E_take hQ hHeld 14 (v := ?qv10) rfl rfl (by kernel_rfl) (by kernel_rfl) (by kernel_rfl) (by kernel_rfl) (by kernel_rfl) (by rfl) ?qy10 ?qr10
      case qy10 => (intro w hSw; (try dsimp only at hSw); go_simp; (try with_reducible rfl))
      (try simp only [Act.put, List.setIfInBounds_toArray, List.set_cons_zero, List.set_cons_succ])
      refine E_take hQ hHeld 16 (v := ?qv11) rfl rfl (by kernel_rfl) (by kernel_rfl) (by kernel_rfl) (by kernel_rfl) (by kernel_rfl) (by rfl) ?qy11 ?qr11
      case qy11 => (intro w hSw; (try dsimp only at hSw); go_simp; (try with_reducible rfl))
      (try simp only [Act.put, List.setIfInBounds_toArray, List.set_cons_zero, List.set_cons_succ])
      refine E_take hQ hHeld 17 (v := ?qv12) rfl rfl (by kernel_rfl) (by kernel_rfl) (by kernel_rfl) (by kernel_rfl) (by kernel_rfl) (by rfl) ?qy12 ?qr12
      case qy12 => (intro w hSw; (try dsimp only at hSw); go_simp; (try with_reducible rfl))
      (try simp only [Act.put, List.setIfInBounds_toArray, List.set_cons_zero, List.set_cons_succ])
      refine E_one 15 (by kernel_rfl) rfl (by rfl) (fun K hK => ?_)
      go_simp
      refine (dLess_any a b _).mono ?_
      rintro e X6 ⟨rfl, hb⟩
      rw [hcm]
      have HY6 := Lib.hid hb
      have HX6 : Hid (Below wr.heap.size wr X6) := Lib.hid (bthen HX5.out (by have := HX5.out.size; exact Nat.le_refl _) hb)
      clear hb
      (skip)
      refine hK.out _ _ (fun _ _ => ⟨cellB HY6.out hHeld.1, cellB HY6.out hHeld.2.1, cellB HY6.out hHeld.2.2.1, cellB HY6.out hHeld.2.2.2.1, cellB HY6.out hHeld.2.2.2.2.1, cellB HY6.out hHeld.2.2.2.2.2⟩) (fun hHeld' => ?_)
      replace hHeld := hHeld' (by rfl) (by decide)
      clear hK hHeld'
      (try simp only [Act.put, List.setIfInBounds_toArray, List.set_cons_zero, List.set_cons_succ])
      refine E_one 18 (by kernel_rfl) rfl (by rfl) (fun K hK => ?_)
      go_simp
      refine (rLess_any a b _).mono ?_
      rintro e X7 ⟨rfl, hb⟩
      rw [hcm]
      have HY7 := Lib.hid hb
      have HX7 : Hid (Below wr.heap.size wr X7) := Lib.hid (bthen HX6.out (by have := HX6.out.size; exact Nat.le_refl _) hb)
      clear hb
      (skip)
      refine hK.out _ _ (fun _ h => absurd rfl h) (fun _ => ?_)
      clear hK hHeld
      (try simp only [Act.put, List.setIfInBounds_toArray, List.set_cons_zero, List.set_cons_succ])
      refine E_take0 hQ (fun h => absurd h (by decide)) 19 (v := ?qv13) rfl rfl (by kernel_rfl) (by kernel_rfl) (by kernel_rfl) (by decide) (by rfl) ?qy13 ?qr13
      case qy13 => (intro w; go_simp; (try with_reducible rfl))
      (try simp only [Act.put, List.setIfInBounds_toArray, List.set_cons_zero, List.set_cons_succ])
      refine E_take0 hQ (fun h => absurd h (by decide)) 20 (v := ?qv14) rfl rfl (by kernel_rfl) (by kernel_rfl) (by kernel_rfl) (by decide) (by rfl) ?qy14 ?qr14
      case qy14 => (intro w; go_simp; (try with_reducible rfl))
      (try simp only [Act.put, List.setIfInBounds_toArray, List.set_cons_zero, List.set_cons_succ])
      refine E_take0 hQ (fun h => absurd h (by decide)) 21 (v := ?qv15) rfl rfl (by kernel_rfl) (by kernel_rfl) (by kernel_rfl) (by decide) (by rfl) ?qy15 ?qr15
      case qy15 => (intro w; go_simp; (try with_reducible rfl))
      (try simp only [Act.put, List.setIfInBounds_toArray, List.set_cons_zero, List.set_cons_succ])
      refine E_done (by kernel_rfl) ?_ _
      refine hK'.out _ _ ?_
      go_wp2_with fail
      go_ret
      exact ⟨rfl, bthen HBW.out (by have := HBW.out.size; exact Nat.le_refl _) HX7.out⟩
end Go.Proofs.Ytbnggfhofdpdcaa

/-
  The law DiagStays: walk.
-/
namespace Go.Proofs.Ytbnggfhofdpdcaa
open Go Go.RowKit Go.WideShapes

theorem flatG_one (l : List DiagD) : ∀ u ∈ flatG l, u.oneCell' = true := by
  intro u hu
  obtain ⟨x, _, hx⟩ := List.mem_flatMap.1 hu
  exact encG_one x u hx
theorem flatG_app (l m : List DiagD) : flatG l ++ flatG m = flatG (l ++ m) := by simp [flatG]
theorem sortD_twice (l : List DiagD) : sortD (sortD l) = sortD l := (sortD_of (sortD_str l) fun _x => Iff.rfl).symm
theorem sortD_parts (a b : List DiagD) : sortD (sortD b ++ sortD a) = sortD (a ++ b) := sortD_congr fun x => by
  rw [List.mem_append, List.mem_append, sortD_mem, sortD_mem]
  exact Or.comm
theorem sortD_count {l : List DiagD} {x : DiagD} (h : x ∈ l) : (sortD l).count x = 1 := by
  have h1 := (List.nodup_iff_count.1 (strD_nodup (sortD_str l))) x
  have h2 := List.count_pos_iff.2 ((sortD_mem l x).2 h)
  omega
theorem sortD_step {l : List DiagD} {k : Nat} {x y : DiagD} (h1 : 1 ≤ k) (hx : (sortD l)[k - 1]? = some x) (hy : (sortD l)[k]? = some y) : cmpD x y < 0 := by
  obtain ⟨hx1, rfl⟩ := List.getElem?_eq_some_iff.1 hx
  obtain ⟨hy1, rfl⟩ := List.getElem?_eq_some_iff.1 hy
  exact List.pairwise_iff_getElem.1 (sortD_str l) (k - 1) k hx1 hy1 (by omega)

set_option maxRecDepth 100000 in
set_option maxHeartbeats 8000000 in
theorem DiagStays_any (a : List DiagD) (va : Value) (b : List DiagD) (vb : Value) (w : World) (hva : DgR w va a) (hvb : DgR w vb b) :
    Calls Try.prog 10 #[va, vb] w fun e w' => e = .returned (.bool true) ∧ Below w.heap.size w w' := by
  obtain ⟨i0, hi, hz0, hz1, hz2⟩ := info_parts Try.info_diag
  obtain ⟨aa, ac, rfl, hc1, hc2⟩ := hva.form
  obtain ⟨ba, bc, rfl, hd1, hd2⟩ := hvb.form
  have HA0 := Lib.hid hva
  have HB0 := Lib.hid hvb
  clear hva hvb
  go_enter Try.func10, Try.ntmps10
  go_wp2_with fail
  refine (live24_any _).mono ?_
  rintro e w1 ⟨rfl, hb1⟩
  have HX1 := Lib.hid hb1
  have HA1 := Lib.hid (HA0.out.below hb1)
  have HB1 := Lib.hid (HB0.out.below hb1)
  clear hb1
  go_wp2_with fail
  refine (smallG_any a _ w1 HA1.out).mono ?_
  rintro e w2 ⟨rfl, rfl⟩
  cases hsa : smallG a with
  | false =>
    clear hsa
    go_wp2
    go_ret
    exact ⟨rfl, HX1.out⟩
  | true =>
  obtain ⟨hla, _⟩ := smallG_of hsa
  clear hsa
  go_wp2_with fail
  refine (smallG_any b _ w2 HB1.out).mono ?_
  rintro e w2' ⟨rfl, rfl⟩
  cases hsb : smallG b with
  | false =>
    clear hsb
    go_wp2
    go_ret
    exact ⟨rfl, HX1.out⟩
  | true =>
  obtain ⟨hlb, _⟩ := smallG_of hsb
  clear hsb
  go_wp2_with fail
  refine (dSort_any a _ _ HA1.out (by omega)).mono ?_
  rintro e w3 ⟨sa, sc, rfl, ho, hb3⟩
  have HS3 : Hid (DgR w3 (.slice sa (sortD a).length sc) (sortD a)) := Lib.hid (ho.read fun x hx => HA1.out.2 x ((sortD_mem a x).1 hx))
  have HX3 := Lib.hid (bthen HX1.out (Nat.le_refl _) hb3)
  have HA3 := Lib.hid (HA1.out.below hb3)
  have HB3 := Lib.hid (HB1.out.below hb3)
  have hsl := sortD_len a
  have HST := Lib.hid (fun (k : Nat) (x y : DiagD) (h1 : 1 ≤ k) (hx : (sortD a)[k - 1]? = some x) (hy : (sortD a)[k]? = some y) => sortD_step (l := a) h1 hx hy)
  have HCT := Lib.hid (fun (x : DiagD) (h : x ∈ a) => sortD_count h)
  have HTW := Lib.hid (sortD_twice a)
  have HPT := Lib.hid (sortD_parts a b)
  clear ho hb3
  generalize hss : sortD a = s at *
  go_wp2_with fail
  go_loopg [6] (s.length + 2) (fun gk i wr => ∃ k : Nat, k + gk = s.length + 3 ∧ 1 ≤ k ∧ k ≤ s.length + 1 ∧ i = .int .i64 k ∧ Hid (Below w3.heap.size w3 wr))
  case atStart => exact ⟨1, by omega, by omega, by omega, rfl, Lib.hid (Below.refl _ _)⟩
  case round =>
    obtain ⟨k, hgk, hk1, hk, rfl, HB⟩ := hrel
    rename World => wr
    have hg : gk = s.length + 3 - k := by omega
    subst hg
    by_cases hkl : k < s.length
    · have d1 : decide ((k : Int) < (s.length : Int)) = true := decide_eq_true (by omega)
      have hkk : (k : Int) < (s.length : Int) := by omega
      obtain ⟨g, off, cap, he, -, -, y0, y1, y2⟩ := (HS3.out.below HB.out).at hkl
      cases he
      obtain ⟨_, _, _, he, -, -, x0, x1, x2⟩ := (HS3.out.below HB.out).at (show k - 1 < s.length by omega)
      cases he
      have hcm : decide (cmpD (s[k - 1]'(by omega)) s[k] < 0) = true := decide_eq_true (HST.out k _ _ hk1 (List.getElem?_eq_getElem (by omega)) (List.getElem?_eq_getElem hkl))
      generalize (s[k - 1]'(by omega)) = x at *
      generalize s[k] = y at *
      have hw1 : IntKind.i64.wrap ((k : Int) - 1) = ((k - 1 : Nat) : Int) := by rw [IntWalk.i64_in _ (by omega)]; omega
      have hkm : ((k - 1 : Nat) : Int) < (s.length : Int) := by omega
      go_upto_region 9 with fail
      refine E_region (S := (fun W => W.cell? ⟨g, off + (k - 1) * 3, none⟩ = some (.int .i64 x.1) ∧ W.cell? ⟨g, off + (k - 1) * 3 + 1, none⟩ = some (.int .i64 x.2.1) ∧ W.cell? ⟨g, off + (k - 1) * 3 + 2, none⟩ = some (.string x.2.2) ∧ W.cell? ⟨g, off + k * 3, none⟩ = some (.int .i64 y.1) ∧ W.cell? ⟨g, off + k * 3 + 1, none⟩ = some (.int .i64 y.2.1) ∧ W.cell? ⟨g, off + k * 3 + 2, none⟩ = some (.string y.2.2))) 9 (by kernel_rfl) ⟨x0, x1, x2, y0, y1, y2⟩ (fun _ _ _ _ _ h => h) (fun Q' hQ hK' hHeld => ?_)
      refine E_take0 hQ (fun _ => hHeld) 0 (v := ?sv1) rfl rfl (by kernel_rfl) (by kernel_rfl) (by kernel_rfl) (by decide) (by rfl) ?sy1 ?sr1
      case sy1 => (intro w; go_simp; (try with_reducible rfl))
      (try simp only [Act.put, List.setIfInBounds_toArray, List.set_cons_zero, List.set_cons_succ])
      refine E_take0 hQ (fun _ => hHeld) 1 (v := ?sv2) rfl rfl (by kernel_rfl) (by kernel_rfl) (by kernel_rfl) (by decide) (by rfl) ?sy2 ?sr2
      case sy2 => (intro w; go_simp; (try with_reducible rfl))
      (try simp only [Act.put, List.setIfInBounds_toArray, List.set_cons_zero, List.set_cons_succ])
      refine E_take0 hQ (fun _ => hHeld) 2 (v := ?sv3) rfl rfl (by kernel_rfl) (by kernel_rfl) (by kernel_rfl) (by decide) (by rfl) ?sy3 ?sr3
      case sy3 => (intro w; go_simp; (try with_reducible rfl))
      (try simp only [Act.put, List.setIfInBounds_toArray, List.set_cons_zero, List.set_cons_succ])
      refine E_take0 hQ (fun _ => hHeld) 3 (v := ?sv4) rfl rfl (by kernel_rfl) (by kernel_rfl) (by kernel_rfl) (by decide) (by rfl) ?sy4 ?sr4
      case sy4 => (intro w; go_simp; (try with_reducible rfl))
      (try simp only [Act.put, List.setIfInBounds_toArray, List.set_cons_zero, List.set_cons_succ])
      refine E_take hQ hHeld 4 (v := ?sv5) rfl rfl (by kernel_rfl) (by kernel_rfl) (by kernel_rfl) (by kernel_rfl) (by kernel_rfl) (by rfl) ?sy5 ?sr5
      case sy5 => (intro w hSw; (try dsimp only at hSw); go_simp; (try with_reducible rfl))
      (try simp only [Act.put, List.setIfInBounds_toArray, List.set_cons_zero, List.set_cons_succ])
      refine E_take0 hQ (fun _ => hHeld) 5 (v := ?sv6) rfl rfl (by kernel_rfl) (by kernel_rfl) (by kernel_rfl) (by decide) (by rfl) ?sy6 ?sr6
      case sy6 => (intro w; go_simp; (try with_reducible rfl))
      (try simp only [Act.put, List.setIfInBounds_toArray, List.set_cons_zero, List.set_cons_succ])
      refine E_take0 hQ (fun _ => hHeld) 6 (v := ?sv7) rfl rfl (by kernel_rfl) (by kernel_rfl) (by kernel_rfl) (by decide) (by rfl) ?sy7 ?sr7
      case sy7 => (intro w; go_simp; (try with_reducible rfl))
      (try simp only [Act.put, List.setIfInBounds_toArray, List.set_cons_zero, List.set_cons_succ])
      refine E_take0 hQ (fun _ => hHeld) 7 (v := ?sv8) rfl rfl (by kernel_rfl) (by kernel_rfl) (by kernel_rfl) (by decide) (by rfl) ?sy8 ?sr8
      case sy8 => (intro w; go_simp; (try with_reducible rfl))
      (try simp only [Act.put, List.setIfInBounds_toArray, List.set_cons_zero, List.set_cons_succ])
      refine E_take hQ hHeld 8 (v := ?sv9) rfl rfl (by kernel_rfl) (by kernel_rfl) (by kernel_rfl) (by kernel_rfl) (by kernel_rfl) (by rfl) ?sy9 ?sr9
      case sy9 => (intro w hSw; (try dsimp only at hSw); go_simp; (try with_reducible rfl))
      (try simp only [Act.put, List.setIfInBounds_toArray, List.set_cons_zero, List.set_cons_succ])
      refine E_one 9 (by kernel_rfl) rfl (by rfl) (fun K hK => ?_)
      go_simp
      refine (dLess_any x y _).mono ?_
      rintro e X1 ⟨rfl, hb⟩
      rw [hcm]
      have HX1 : Hid (Below w3.heap.size w3 X1) := Lib.hid (bthen HB.out.drew (Nat.le_refl _) hb)
      clear hb
      (skip)
      refine hK.out _ _ (fun _ h => absurd rfl h) (fun _ => ?_)
      clear hK hHeld
      (try simp only [Act.put, List.setIfInBounds_toArray, List.set_cons_zero, List.set_cons_succ])
      refine E_take0 hQ (fun h => absurd h (by decide)) 10 (v := ?sv10) rfl rfl (by kernel_rfl) (by kernel_rfl) (by kernel_rfl) (by decide) (by rfl) ?sy10 ?sr10
      case sy10 => (intro w; go_simp; (try with_reducible rfl))
      (try simp only [Act.put, List.setIfInBounds_toArray, List.set_cons_zero, List.set_cons_succ])
      refine E_done (by kernel_rfl) ?_ _
      refine hK'.out _ _ ?_
      go_wp2_with fail
      go_roundg (s.length + 3 - (k + 1))
      case measure => omega
      case rel => exact ⟨k + 1, by omega, by omega, by omega, by go_num, HX1⟩
    have d1 : decide ((k : Int) < (s.length : Int)) = false := decide_eq_false (by omega)
    have hk2 : ¬ (k : Int) < (s.length : Int) := by omega
    clear hgk hkl hk hk1
    have hlt := HB.out.size
    go_wp2_with fail
    clear d1 hk2
    go_loopg [7] (a.length + 1) (fun gk i wi => ∃ k : Nat, k + gk = a.length + 1 ∧ k ≤ a.length ∧ i = .int .i64 k ∧ Hid (Below w3.heap.size w3 wi))
    case atStart => exact ⟨0, by omega, by omega, rfl, HB⟩
    case round =>
      obtain ⟨k, hgk, hk, rfl, HBI⟩ := hrel
      rename World => wi
      have hg : gk = a.length + 1 - k := by omega
      subst hg
      by_cases hkl : k < a.length
      · have d1 : decide ((k : Int) < (a.length : Int)) = true := decide_eq_true (by omega)
        have hk1 : (k : Int) < (a.length : Int) := by omega
        obtain ⟨g2, off2, cap2, he2, -, -, z0', z1', z2'⟩ := HA3.out.at hkl
        cases he2
        have Z0 := Lib.hid z0'
        have Z1 := Lib.hid z1'
        have Z2 := Lib.hid z2'
        have HC1 := Lib.hid (HCT.out _ (List.getElem_mem hkl))
        clear z0' z1' z2'
        generalize a[k] = x at *
        go_wp2_with fail
        go_loopg [9, 8] (s.length + 1) (fun gk i s8 wj => ∃ j : Nat, j + gk = s.length + 1 ∧ j ≤ s.length ∧ i = .int .i64 j ∧ s8 = .int .i64 (((s.take j).count x : Nat) : Int) ∧ Hid (Below w3.heap.size w3 wj))
        case atStart => exact ⟨0, by omega, by omega, rfl, by simp, HBI⟩
        case round =>
          obtain ⟨j, hgj, hj, rfl, rfl, HBJ⟩ := hrel
          rename World => wj
          have hg : gk = s.length + 1 - j := by omega
          subst hg
          have hct : (s.take j).count x ≤ j := Nat.le_trans List.count_le_length (by rw [List.length_take]; omega)
          have z0 := cellB HBJ.out Z0.out
          have z1 := cellB HBJ.out Z1.out
          have z2 := cellB HBJ.out Z2.out
          by_cases hjl : j < s.length
          · have d2 : decide ((j : Int) < (s.length : Int)) = true := decide_eq_true (by omega)
            have hj1 : (j : Int) < (s.length : Int) := by omega
            obtain ⟨g, off, cap, he, -, -, y0, y1, y2⟩ := (HS3.out.below HBJ.out).at hjl
            cases he
            have HTC : Hid ((s.take (j + 1)).count x = (s.take j).count x + if s[j] = x then 1 else 0) := Lib.hid (by
              rw [take_succ_get hjl, List.count_append]
              congr 1
              by_cases h : s[j] = x
              · rw [if_pos h, h]; simp
              · rw [if_neg h]; simp [h])
            generalize s[j] = y at *
            generalize (s.take j).count x = c at *
            have heq := fun w => eqG y x w
            go_upto_region 18 with fail
            go_quiet (fail)
            have HBQ := Lib.hid (belowN HBJ.out nq)
            clear z0 z1 z2 y0 y1 y2 heq
            by_cases hyx : y = x
            · have e1 : decide (y = x) = true := decide_eq_true hyx
              have HE : Hid ((s.take (j + 1)).count x = c + 1) := Lib.hid (by rw [HTC.out, if_pos hyx])
              rw [e1]
              clear hyx e1 HTC
              go_wp2_with fail
              go_roundg (s.length + 1 - (j + 1))
              case measure => omega
              case rel => exact ⟨j + 1, by omega, by omega, by go_num, by rw [HE.out]; go_num, HBQ⟩
            · have e1 : decide (y = x) = false := decide_eq_false hyx
              have HE : Hid ((s.take (j + 1)).count x = c) := Lib.hid (by rw [HTC.out, if_neg hyx]; rfl)
              rw [e1]
              clear hyx e1 HTC
              go_wp2_with fail
              go_roundg (s.length + 1 - (j + 1))
              case measure => omega
              case rel => exact ⟨j + 1, by omega, by omega, by go_num, by rw [HE.out], HBQ⟩
          · have d2 : decide ((j : Int) < (s.length : Int)) = false := decide_eq_false (by omega)
            have hj1 : ¬ (j : Int) < (s.length : Int) := by omega
            rw [List.take_of_length_le (by omega), HC1.out]
            clear z0 z1 z2 hct
            go_wp2_with fail
            go_roundg (a.length + 1 - (k + 1))
            case measure => omega
            case rel => exact ⟨k + 1, by omega, by omega, by go_num, HBJ⟩
      have d1 : decide ((k : Int) < (a.length : Int)) = false := decide_eq_false (by omega)
      have hk2 : ¬ (k : Int) < (a.length : Int) := by omega
      clear hgk hkl hk
      have HX5 := Lib.hid (bthen HX3.out (Nat.le_refl _) HBI.out)
      have HA5 := Lib.hid (HA3.out.below HBI.out)
      have HB5 := Lib.hid (HB3.out.below HBI.out)
      have HS5 := Lib.hid (HS3.out.below HBI.out)
      have hszz : ∀ (W : World), W.heap.size ≤ (W.alloc (.cells #[] 61)).heap.size := fun W => by simp
      have hbe : ∀ (W : World), Below W.heap.size W (W.alloc (.cells #[] 61)) := fun W => (Below.refl _ _).alloc (Nat.le_refl _) _
      have HBE := Lib.hid hbe
      clear hbe
      go_wp2_with first
        | (at_builtin; refine wpList_pushS rfl (.tmp 66) (.tmp 67) 51 rfl wi.heap.size 61 i0 (.agg #[.int .i64 0, .int .i64 0, .string { data := #[] }]) 3 32 Try.underlying51 hi hz0 hz1 hz2 rfl (by decide) _ _ _ rfl (World.ownsRow_made wi #[] 0 (Nat.le_refl _) (Nat.zero_le _) rfl) _ a.length (flatG a) rfl (HA5.out.1.below (HBE.out wi)) (flatG_one a) (by unfold maxLen; omega) (by omega) (by simp) ?_; intro v' w6 hown' hgrow hfr; have HO6 := Lib.hid (show w6.ownsRow wi.heap.size 61 3 v' a.length (flatG a) by simpa using hown'); have HB6 := Lib.hid (((Below.refl wi.heap.size wi).alloc (Nat.le_refl _) _).grown (show (wi.alloc (.cells #[] 61)).grownBy w6 (some wi.heap.size) from hgrow) (by simp) (fun j ej => by cases ej; exact Nat.le_refl _)); obtain ⟨xa, xc, rfl⟩ := (RdS.of_owns HO6.out).form; clear hown' hgrow hfr)
        | (at_builtin; refine wpList_pushS rfl (.tmp 68) (.tmp 69) 51 rfl wi.heap.size 61 i0 (.agg #[.int .i64 0, .int .i64 0, .string { data := #[] }]) 3 32 Try.underlying51 hi hz0 hz1 hz2 rfl (by decide) _ _ _ rfl HO6.out _ b.length (flatG b) rfl (HB5.out.1.below HB6.out) (flatG_one b) (by unfold maxLen; omega) (by omega) (by have := HB6.out.size; omega) ?_; intro v' w7 hown' hgrow hfr; have HO7 := Lib.hid hown'; have HB7 := Lib.hid (HB6.out.grown hgrow (by have := HB6.out.size; omega) (fun j ej => (World.ownsRow.lt HO6.out j ej).1)); clear hown' hgrow hfr)
      have HD7 : Hid (DgR w7 v' (a ++ b)) := Lib.hid ⟨by have := RdS.of_owns HO7.out; rw [flatG_app] at this; rw [List.length_append]; exact this, fun x hx => by rcases List.mem_append.1 hx with h | h; exact HA5.out.2 x h; exact HB5.out.2 x h⟩
      have HX7 := Lib.hid (bthen HX5.out (Nat.le_refl _) HB7.out)
      have HS7 := Lib.hid (HS5.out.below HB7.out)
      have HB7' := Lib.hid (HB5.out.below HB7.out)
      have HOKAB := Lib.hid (fun (x : DiagD) (hx : x ∈ sortD (a ++ b)) => HD7.out.2 x ((sortD_mem _ x).1 hx))
      have hlab := sortD_len (a ++ b)
      rw [List.length_append] at hlab
      clear HO6 HB6 HO7 HB7 HA5 HB5 HS5 HX5
      refine (dSort_any (a ++ b) v' w7 HD7.out (by rw [List.length_append]; omega)).mono ?_
      rintro e w8 ⟨xa', xc', rfl, ho8, hb8⟩
      have HX8 := Lib.hid (bthen HX7.out (Nat.le_refl _) hb8)
      have HS8 := Lib.hid (HS7.out.below hb8)
      have HB8 := Lib.hid (HB7'.out.below hb8)
      have HD8 := Lib.hid (ho8.read HOKAB.out)
      clear ho8 hb8 HX7 HS7 HB7' HD7
      have HPT2 : Hid (sortD (sortD b ++ s) = sortD (a ++ b)) := Lib.hid HPT.out
      generalize hxx : sortD (a ++ b) = xl at *
      have HM8 := Lib.hid (World.ownsRow_made (base := w8.heap.size) (e := 61) (size := 3) w8 #[] 0 (Nat.le_refl _) (Nat.zero_le _) rfl)
      have hsz8 : (w8.alloc (.cells #[] 61)).heap.size = w8.heap.size + 1 := World.size_alloc _ _
      have HZ8 := Lib.hid hsz8
      clear hsz8 hszz
      go_wp2_with fail
      refine (dSort_any b _ _ (HB8.out.below (HBE.out w8)) (by omega)).mono ?_
      rintro e w9 ⟨ya, yc, rfl, ho9, hb9⟩
      have HM9 := Lib.hid (ownsB HM8.out hb9)
      have HO9 := Lib.hid ho9
      have hb9' : Below w8.heap.size w8 w9 := bthen (HBE.out w8) (Nat.le_refl _) hb9
      have HB9 := Lib.hid hb9'
      have hlsb := sortD_len b
      have HOKB := Lib.hid (fun (x : DiagD) (hx : x ∈ sortD b) => HB8.out.2 x ((sortD_mem _ x).1 hx))
      clear ho9 hb9 hb9' HM8
      generalize hbb : sortD b = sb at *
      go_wp2_with first
        | (at_builtin; refine wpList_pushS rfl (.tmp 72) (.tmp 74) 51 rfl w8.heap.size 61 i0 (.agg #[.int .i64 0, .int .i64 0, .string { data := #[] }]) 3 32 Try.underlying51 hi hz0 hz1 hz2 rfl (by decide) _ _ _ rfl HM9.out _ sb.length (flatG sb) rfl (RdS.of_owns HO9.out) (flatG_one sb) (by unfold maxLen; omega) (by omega) (by have := HB9.out.size; omega) ?_; intro v' w10 hown' hgrow hfr; have HO10 := Lib.hid (show w10.ownsRow w8.heap.size 61 3 v' sb.length (flatG sb) by simpa using hown'); have HB10 := Lib.hid (HB9.out.grown hgrow (by have := HB9.out.size; omega) (fun j ej => (World.ownsRow.lt HM9.out j ej).1)); obtain ⟨za, zc, rfl⟩ := (RdS.of_owns HO10.out).form; clear hown' hgrow hfr)
        | (at_builtin; refine wpList_pushS rfl (.tmp 75) (.tmp 76) 51 rfl w8.heap.size 61 i0 (.agg #[.int .i64 0, .int .i64 0, .string { data := #[] }]) 3 32 Try.underlying51 hi hz0 hz1 hz2 rfl (by decide) _ _ _ rfl HO10.out _ s.length (flatG s) rfl (HS8.out.1.below HB10.out) (flatG_one s) (by unfold maxLen; omega) (by omega) (by have := HB10.out.size; omega) ?_; intro v' w11 hown' hgrow hfr; have HO11 := Lib.hid hown'; have HB11 := Lib.hid (HB10.out.grown hgrow (by have := HB10.out.size; omega) (fun j ej => (World.ownsRow.lt HO10.out j ej).1)); clear hown' hgrow hfr)
      have HD11 : Hid (DgR w11 v' (sb ++ s)) := Lib.hid ⟨by have := RdS.of_owns HO11.out; rw [flatG_app] at this; rw [List.length_append]; exact this, fun x hx => by rcases List.mem_append.1 hx with h | h; exact HOKB.out x h; exact HS8.out.2 x h⟩
      have HX11 := Lib.hid (bthen HX8.out (Nat.le_refl _) HB11.out)
      have HS11 := Lib.hid (HS8.out.below HB11.out)
      have HD12 := Lib.hid (HD8.out.below HB11.out)
      clear HO10 HB10 HO11 HB11 HM9 HO9 HB9
      refine (dSort_any (sb ++ s) v' w11 HD11.out (by rw [List.length_append]; omega)).mono ?_
      rintro e w12 ⟨yya, yyc, rfl, ho12, hb12⟩
      rw [HPT2.out] at ho12 ⊢
      have HY12 := Lib.hid (ho12.read HOKAB.out)
      have HX12 := Lib.hid (bthen HX11.out (Nat.le_refl _) hb12)
      have HS12 := Lib.hid (HS11.out.below hb12)
      have HD13 := Lib.hid (HD12.out.below hb12)
      have d6 : decide ((s.length : Int) ≤ (a.length : Int)) = true := decide_eq_true (by omega)
      clear ho12 hb12
      go_wp2_with fail
      refine (dSort_any s _ _ HS12.out (by omega)).mono ?_
      rintro e w13 ⟨ta, tc, rfl, ho13, hb13⟩
      rw [HTW.out] at ho13 ⊢
      have HT13 := Lib.hid (ho13.read HS12.out.2)
      have HX13 := Lib.hid (bthen HX12.out (Nat.le_refl _) hb13)
      have HS13 := Lib.hid (HS12.out.below hb13)
      have HD14 := Lib.hid (HD13.out.below hb13)
      have HY13 := Lib.hid (HY12.out.below hb13)
      clear ho13 hb13
      go_wp2_with fail
      refine (rSameG_any _ _ _ _ _ HT13.out HS13.out (by omega)).mono ?_
      rintro e w14 hq
      obtain ⟨q14, rfl, rfl⟩ := hq
      rw [show decide (s = s) = true from decide_eq_true rfl]
      have hbq : Below w13.heap.size w13 (w13.drewN q14) := belowN (Below.refl _ _) q14
      have HX14 := Lib.hid (bthen HX13.out (Nat.le_refl _) hbq)
      have HD15 := Lib.hid (HD14.out.below hbq)
      have HY14 := Lib.hid (HY13.out.below hbq)
      generalize w13.drewN q14 = w14 at *
      clear hbq
      go_wp2_with fail
      refine (rSameG_any _ _ _ _ _ HD15.out HY14.out (by omega)).mono ?_
      rintro e w15 hq
      obtain ⟨q15, rfl, rfl⟩ := hq
      rw [show decide (xl = xl) = true from decide_eq_true rfl]
      have HX15 := Lib.hid (belowN HX14.out q15)
      go_wp2_with fail
      go_ret
      exact ⟨rfl, HX15.out⟩
end Go.Proofs.Ytbnggfhofdpdcaa
