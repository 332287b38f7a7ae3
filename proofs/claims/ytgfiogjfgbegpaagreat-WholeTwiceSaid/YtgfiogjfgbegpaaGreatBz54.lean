/-
  reach.Drive: contract.
-/
import Derived.Test.YtgfiogjfgbegpaaGreatBz53
namespace Go.Proofs.YtgfiogjfgbegpaaGreat
open Go Go.RowKit Go.Maps Go.WideShapes
attribute [local go_sem] Oper.semAt_some wide_fn wide_depth wide_fn' wide_depth'

theorem range_pre {pre : List Nat} {x m : Nat} (h : pre ++ [x] <+: List.range m) : x = pre.length ∧ pre.length < m := by
  obtain ⟨suf, e⟩ := h
  have h1 : (List.range m)[pre.length]? = some x := by rw [← e]; simp
  by_cases hlt : pre.length < m
  · rw [List.getElem?_range hlt] at h1
    cases h1
    exact ⟨rfl, hlt⟩
  · rw [List.getElem?_eq_none (by rw [List.length_range]; omega)] at h1
    cases h1
theorem driveO_drop {l : List StepD} {rs : List (List Int)} {ss : List SayD} {b n : Nat} {t : Int} {q : SagD × Int} (hn : n < b + 1) :
    driveO l rs ss ((List.range (b + 1)).drop n) (t, q) = if overB (roundO l rs ss (n : Int) q).1 then ((n : Int), roundO l rs ss (n : Int) q) else driveO l rs ss ((List.range (b + 1)).drop (n + 1)) ((n : Int), roundO l rs ss (n : Int) q) := by
  rw [List.drop_eq_getElem_cons (by rw [List.length_range]; exact hn), List.getElem_range]
  rfl
set_option maxRecDepth 100000 in
set_option maxHeartbeats 8000000 in
theorem Drive_any (d : DefD) (cs : List Value) (sa : Option Addr) (sc : Nat) (ss : List SayD) (va : Option Addr) (vc : Nat) (w : World) (h : DefR w cs d sa sc) (hs : SmallD d) (hl : ss.length ≤ 1000) (hok : ∀ x ∈ ss, I64w x.1) (hr : RdS w (.slice va ss.length vc) 5 ss.length (flatS ss)) :
    Calls Tryz.prog 10 #[.agg cs.toArray, .slice va ss.length vc] w fun e w' => e = .returned (.tuple #[.int .u8 (drvD d ss).1, .int .i64 (drvD d ss).2.1, .int .i64 (drvD d ss).2.2]) ∧ Below w.heap.size w w' := by
  obtain ⟨rfl, hnm, htx, hst⟩ := h
  have hb0 := (Below.refl w.heap.size w).alloc (Nat.le_refl _) (.cells #[.string d.name, .string d.text, .slice sa d.steps.length sc] 24)
  have g0 := World.alloc_heap_new w (.cells #[.string d.name, .string d.text, .slice sa d.steps.length sc] 24)
  have HD0 := Lib.hid (show DefR (w.alloc (.cells #[.string d.name, .string d.text, .slice sa d.steps.length sc] 24)) [.string d.name, .string d.text, .slice sa d.steps.length sc] d sa sc from ⟨rfl, hnm, htx, hst.below hb0⟩)
  have HR := Lib.hid hr
  have HB := Lib.hid hb0
  have HG := Lib.hid g0
  have HS := Lib.hid hs
  have HOK := Lib.hid hok
  have hbr := boundI_range hs
  clear hst hb0 g0 hnm htx hr hs hok
  generalize hres : drvD d ss = res
  have HRT : Hid (cleanB d = true → driveX d.steps (depsA d.steps 0 d.steps) ss (boundI d).toNat = res) := Lib.hid (fun e => by rw [← hres]; unfold drvD; rw [if_pos e])
  have HRF : Hid (cleanB d = false → res = (0, 0, 0)) := Lib.hid (fun e => by rw [← hres]; unfold drvD; rw [if_neg (by rw [e]; decide)])
  clear hres
  refine (callsIn_wide (n := 0)).1 ?_
  refine callsIn_of_wp_marks Tryz.func10 rfl trivial ?_ rfl
  simp only [Tryz.ntmps10, List.size_toArray, List.length_cons, List.length_nil, Nat.reduceAdd, Nat.reduceSub, Array.replicate_succ, Array.replicate_zero, List.push_toArray, List.append_toArray, List.nil_append, List.cons_append]
  gi_upto_region 1 with fail
  generalize (w.alloc (.cells #[.string d.name, .string d.text, .slice sa d.steps.length sc] 24)) = w0 at *
  refine wpIn_scope ?_
  obtain ⟨p0, p1, p2, -, -, -⟩ := cells3h HG.out
  rcases hc : cleanB d with _ | _
  · have HN := Lib.hid (New_no d _ sa sc w0 HD0.out HS.out hc)
    obtain rfl := HRF.out hc
    gi_wp2_with fail
    refine (callsIn_wide.2 HN.out).mono ?_
    rintro e w1 ⟨rfl, hb1⟩
    have HB1 := Lib.hid (bthen HB.out (Nat.le_refl _) hb1)
    clear p0 p1 p2 hb1
    gi_wp2_with fail
    exact ⟨_, results_tmp3 rfl _ _ _, rfl, HB1.out.alloc HB1.out.size _⟩
  have HN := Lib.hid (New_any d _ sa sc w0 HD0.out HS.out hc)
  have HRES := Lib.hid (HRT.out hc)
  clear HRT HRF
  gi_wp2_with fail
  refine (callsIn_wide.2 HN.out).mono ?_
  rintro e w1 ⟨k, U, rfl, hkd, hkr, hsag, hb1, hU⟩
  clear p0 p1 p2
  have hb2 : Below w1.heap.size w1 (w1.alloc (.cells #[.pointer (some ⟨k.p, 0, none⟩)] 48)) := (Below.refl _ _).alloc (Nat.le_refl _) _
  have g2 := World.alloc_heap_new w1 (.cells #[.pointer (some ⟨k.p, 0, none⟩)] 48)
  gi_upto_region 4 with fail
  generalize hE : w1.heap.size = eS at *
  generalize w1.alloc (.cells #[.pointer (some ⟨k.p, 0, none⟩)] 48) = w2 at *
  have hbE : Below w1.heap.size w1 w2 := by rw [hE]; exact hb2
  have hs1 := hb1.size
  have hs0 := HB.out.size
  have hl0 := (Array.getElem?_eq_some_iff.1 HG.out).1
  have hs2 := (Array.getElem?_eq_some_iff.1 g2).1
  have hN := hsag.bound
  have hfk := fine_new hkd hkr HS.out
  have hb12 : Below w0.heap.size w0 w2 := bthen hb1 (Nat.le_refl _) hbE
  have hg2d := (hb12.block _ hl0).trans HG.out
  have HST := Lib.hid (Start_any k newSag 0 U w2 (hsag.below hbE) (fun j hj => by have := hU j hj; omega) hfk (InvS.new _).good)
  have s0 := cell1 g2
  have HU := Lib.hid hU
  have HG2 := Lib.hid g2
  have HF := Lib.hid hfk
  have HB12 := Lib.hid hb12
  have HGD := Lib.hid hg2d
  have HKD := Lib.hid hkd
  have HKR := Lib.hid hkr
  clear hU g2 hfk hsag hb1 hb2 hbE hb12 hg2d hkd hkr HN
  gi_wp2_with fail
  refine (callsIn_wide.2 HST.out).mono ?_
  rintro e w3 ⟨v, rfl, hc⟩
  obtain ⟨V, oa, oc, rfl, -, hS3, hV3, hb3, hst3⟩ := hc.after (B := w0.heap.size) (fun j hj => ⟨(HU.out j hj).1, by have := (HU.out j hj).2; omega⟩) (by omega)
  have hs3 := hb3.size
  have hsl3 := hS3.bound
  obtain ⟨hgs3, hnv3⟩ := hst3 eS hs2 (fun e => by have := (HU.out _ e).2; omega)
  obtain ⟨hgd3, hnd3⟩ := hst3 w.heap.size (by omega) (fun e => by have := (HU.out _ e).1; omega)
  have hb03 : Below w0.heap.size w0 w3 := HB12.out.trans hb3
  have hgs3 := hgs3.trans HG2.out
  have hgd3 := hgd3.trans HGD.out
  clear s0 hst3 hb3 HST hc
  gi_upto_region 6 with fail
  refine wpIn_label ?_
  obtain ⟨hb5, hsz5, hf5⟩ := allocF [.cells #[.int .i64 ((startX k.d.steps k.rs newSag 0).2.length : Int)] 3, .cells #[.int .i64 0] 2] w3
  have g0 := hf5 0 _ rfl
  have g1 := hf5 1 _ rfl
  have e0 : w3.heap.size + 0 = w3.heap.size := rfl
  simp only [List.foldl_cons, List.foldl_nil, List.length_cons, List.length_nil, Nat.reduceAdd] at hb5 hsz5 g0 g1
  rw [e0] at g0
  generalize (w3.alloc (.cells #[.int .i64 ((startX k.d.steps k.rs newSag 0).2.length : Int)] 3)).alloc (.cells #[.int .i64 0] 2) = w5 at *
  have HM5 : Hid (DrvM w k eS w3.heap.size (w3.heap.size + 1) V w5 0 ((startX k.d.steps k.rs newSag 0).1, ((startX k.d.steps k.rs newSag 0).2.length : Int))) := Lib.hid ⟨hS3.below hb5, beginO_inv k.d.steps k.rs, (hb5.block _ (by omega)).trans hgs3, g0, g1, HB.out.trans ((bthen hb03 (Nat.le_refl _) hb5).mono hs0), fun j hj => by
    have h1 := hV3 j hj
    exact ⟨by omega, by omega, fun e => hnv3 (e ▸ hj), by omega, by omega⟩, by omega, by omega, by omega⟩
  have HD5 := Lib.hid (HD0.out.below (bthen hb03 (Nat.le_refl _) hb5))
  have hgd5 := (hb5.block _ (by omega)).trans hgd3
  obtain ⟨p0, p1, p2, -, -, -⟩ := cells3h hgd5
  obtain ⟨b, hbb⟩ : ∃ b : Nat, boundI d = (b : Int) := ⟨(boundI d).toNat, by omega⟩
  have HBO := Lib.hid (Bound_any d _ sa sc w5 HD5.out HS.out)
  rw [hbb] at HBO hbr
  have HRS : Hid (driveX d.steps (depsA d.steps 0 d.steps) ss b = res) := Lib.hid (by
    have := HRES.out
    rw [hbb, Int.toNat_natCast] at this
    exact this)
  clear hf5 g0 g1 e0 hgs3 hgd3 hgd5 hS3 hV3 HRES hb03 hnv3 hnd3 hsl3 HGD HG2 HB12 HU
  generalize hO : w3.heap.size = eO at *
  generalize hos : (startX k.d.steps k.rs newSag 0).2.length = on at *
  gi_wp2_with fail
  refine (callsIn_wide.2 HBO.out).mono ?_
  rintro e w6 ⟨rfl, hb6⟩
  have HM6 := Lib.hid (HM5.out.below hb6)
  clear p0 p1 p2 HM5
  gi_wp2_with fail
  refine (callsIn_wide.2 (eachS_any _ _ _ _ w6)).mono ?_
  rintro e w7 ⟨rfl, rfl⟩
  gi_wp2_with fail
  obtain ⟨hb7, hsz7, hf7⟩ := allocF [.cells #[.int .i64 (b : Int)] 3, .cells #[.slice va ss.length vc] 25] w6
  have g0 := hf7 0 _ rfl
  have g1 := hf7 1 _ rfl
  have e0 : w6.heap.size + 0 = w6.heap.size := rfl
  simp only [List.foldl_cons, List.foldl_nil, List.length_cons, List.length_nil, Nat.reduceAdd] at hb7 hsz7 g0 g1
  rw [e0] at g0
  have hN6 := HM6.out.sag.bound
  have hl6 := HM6.out.low.size
  obtain ⟨hx1, hx2, hx3⟩ := HM6.out.lt
  have hv6 := HM6.out.vB
  have HM7 := Lib.hid (HM6.out.below hb7)
  clear hf7 e0 hb6 HM6
  generalize (w6.alloc (.cells #[.int .i64 (b : Int)] 3)).alloc (.cells #[.slice va ss.length vc] 25) = w7 at *
  generalize hB2 : w6.heap.size = B2 at *
  clear hb7
  refine' wpIn_rfE rfl (enters_of Tryz.func64 (by kernel_rfl) rfl) (eachS_iter b ss (B2 + 1) B2 va vc w7 g1 g0 (by omega) hl HOK.out) (Nat.zero_le _) (fun j hj => ⟨Nat.zero_le _, by omega⟩) ?hps ?hE
    (fun S pre W => DrJ w k eS eO (eO + 1) B2 ss b S pre W ∧ w7.heap.size ≤ W.heap.size) (fun c S _ W => c = .exit 0 ∧ DrX w k eS eO (eO + 1) B2 ss b S W ∧ w7.heap.size ≤ W.heap.size) ?hfin ?hR ?hJ ?hJx ?h0 ?Ax ?hAx ?assign ?body ?done ?stop
  case hps =>
    rintro S x args W ⟨a, c, rfl, _⟩
    rfl
  case hE =>
    rintro S S' x args W hk ⟨a, c, e, hr, hg⟩
    exact ⟨a, c, e, hr, fun g h => hk g (hg g h)⟩
  case hfin => exact fun h => absurd trivial h
  case hR =>
    rintro S pre W ⟨⟨V, t, q, hM, _⟩, _⟩
    exact HR.out.below hM.low
  case hJ => exact DrJ_stable _ _ _ _ _ _ _ _ hl6 hN6 _ (by omega)
  case hJx =>
    rintro c S S' pre A C hS ⟨e, h⟩ hs
    exact ⟨e, DrX_stable w k eS eO (eO + 1) B2 ss b hl6 hN6 w7.heap.size (by omega) S S' pre A C hS h hs⟩
  case h0 => exact ⟨⟨V, 0, _, HM7.out, by rw [List.length_nil, List.drop_zero]; unfold beginO; rw [← hos], fun j hj e => by have := hv6 j hj; omega, by omega, by omega, by omega, fun j hj => by omega⟩, Nat.le_refl _⟩
  case Ax => exact fun S x a' W => ∃ (ga : Option Addr) (gc : Nat), a' = { tmps := #[.agg #[.string d.name, .string d.text, .slice sa d.steps.length sc], .slice va ss.length vc, .pointer (some ⟨w.heap.size, 0, none⟩), undef, .int .u8 0, .int .i64 0, .int .i64 0, .pointer (some ⟨eS, 0, none⟩), .int .i64 0, .pointer (some ⟨eO, 0, none⟩), .pointer (some ⟨eO + 1, 0, none⟩), .int .i64 (x : Int), .slice ga (saysAt ss x).length gc, undef, undef, undef, undef, .tuple #[.pointer (some ⟨k.p, 0, none⟩), .int .i64 0], .agg #[.string d.name, .string d.text, .slice sa d.steps.length sc], .tuple #[.pointer (some ⟨k.p, 0, none⟩), .int .i64 0], .pointer (some ⟨k.p, 0, none⟩), .int .i64 0, .int .i64 0, .bool false, .pointer (some ⟨k.p, 0, none⟩), .slice oa on oc, .int .i64 (on : Int), .agg #[.string d.name, .string d.text, .slice sa d.steps.length sc], .int .i64 (b : Int), .slice va ss.length vc, .func (.func 64) #[] #[.pointer (some ⟨B2 + 1, 0, none⟩), .pointer (some ⟨B2, 0, none⟩)], .int .i64 (x : Int), .slice ga (saysAt ss x).length gc, undef, undef, undef, undef, undef, undef, undef, undef, undef, undef, undef, undef, undef, undef, undef, undef, undef, undef, undef, undef, undef, undef, undef, undef, undef, undef, undef, undef, undef, undef, undef, undef, undef, undef], defers := [] } ∧ W.ownsRow 0 32 5 (.slice ga (saysAt ss x).length gc) (saysAt ss x).length (flatS (saysAt ss x)) ∧ ∀ g, (Value.slice ga (saysAt ss x).length gc).ownBlock = some g → S g
  case hAx =>
    rintro S x a' l W W' hl' hlt ⟨ga, gc, rfl, hr, hg⟩ hs ⟨r, hr2⟩
    refine ⟨ga, gc, rfl, ownsRow_keepB hr (fun g hgg => hs.same g (hr.lt g hgg).2 (fun e => ?_)), hg⟩
    obtain ⟨cur, hc2⟩ := owns_cells hr hgg
    rw [show g = l from e, hr2] at hc2
    cases hc2
  case assign =>
    rintro l S pre x args W K hS hw hj hpre ⟨ga, gc, rfl, hro, hrS⟩ hK
    have HK := Lib.hid hK
    have HJ := Lib.hid hj
    have HRO := Lib.hid hro
    have HRS' := Lib.hid hrS
    clear hS hK hj hro hrS
    gi_wp2_with fail
    exact HK.out _ _ (Keep.refl _ _ _) HJ.out ⟨ga, gc, rfl, HRO.out, HRS'.out⟩
  case stop =>
    rintro D c S pre W hD hS hSD hpre ⟨rfl, ⟨V, t, q, hM, hdr, hV, n1, n2, n3, hSB⟩, hz⟩ hKD
    have hres : res = (q.1.status, t, q.2) := by
      have h := HRS.out
      have e1 := HKD.out
      have e2 := HKR.out
      unfold driveX at h
      rw [← e2, ← e1, hdr] at h
      exact h.symm
    subst hres
    have s0 := cell1 hM.bS
    have o0 := cell1 hM.bO
    have a0 := cell1 hM.bA
    have HST := Lib.hid (Status_any k q.1 V W.drew (hM.sag.below (Below.refl _ _).drew))
    have HLOW := Lib.hid hM.low
    have HKD9 := Lib.hid hKD
    clear hM hdr hS hKD HRS
    gi_upto_region 19 with fail
    refine E_regionW (S := (fun W => W.cell? ⟨eS, 0, none⟩ = some (.pointer (some ⟨k.p, 0, none⟩)) ∧ W.cell? ⟨eO, 0, none⟩ = some (.int .i64 q.2) ∧ W.cell? ⟨eO + 1, 0, none⟩ = some (.int .i64 t))) 6 (by kernel_rfl) (by kernel_rfl) ⟨s0, o0, a0⟩ (fun Q' hQ hK' hHeld => ?_)
    refine E_take hQ hHeld 0 (v := ?qav1) rfl rfl (by kernel_rfl) (by kernel_rfl) (by kernel_rfl) (by kernel_rfl) (by kernel_rfl) (by rfl) ?qay1 ?qar1
    case qay1 => (intro w hSw; (try dsimp only at hSw); go_simp; (try with_reducible rfl))
    (try simp only [Act.put, List.setIfInBounds_toArray, List.set_cons_zero, List.set_cons_succ])
    refine E_take hQ hHeld 2 (v := ?qav2) rfl rfl (by kernel_rfl) (by kernel_rfl) (by kernel_rfl) (by kernel_rfl) (by kernel_rfl) (by rfl) ?qay2 ?qar2
    case qay2 => (intro w hSw; (try dsimp only at hSw); go_simp; (try with_reducible rfl))
    (try simp only [Act.put, List.setIfInBounds_toArray, List.set_cons_zero, List.set_cons_succ])
    refine E_take hQ hHeld 3 (v := ?qav3) rfl rfl (by kernel_rfl) (by kernel_rfl) (by kernel_rfl) (by kernel_rfl) (by kernel_rfl) (by rfl) ?qay3 ?qar3
    case qay3 => (intro w hSw; (try dsimp only at hSw); go_simp; (try with_reducible rfl))
    (try simp only [Act.put, List.setIfInBounds_toArray, List.set_cons_zero, List.set_cons_succ])
    refine E_one 1 (by kernel_rfl) rfl (by rfl) (fun K hK => ?_)
    go_simp
    refine HST.out.mono ?_
    rintro e w9 ⟨rfl, rfl⟩
    (skip)
    refine hK.out _ _ (fun _ _ => hHeld) (fun hHeld' => ?_)
    replace hHeld := hHeld' (by rfl) (by decide)
    clear hK hHeld'
    (try simp only [Act.put, List.setIfInBounds_toArray, List.set_cons_zero, List.set_cons_succ])
    refine E_take0 hQ (fun _ => hHeld) 4 (v := ?qav4) rfl rfl (by kernel_rfl) (by kernel_rfl) (by kernel_rfl) (by decide) (by rfl) ?qay4 ?qar4
    case qay4 => (intro w; go_simp; (try with_reducible rfl))
    (try simp only [Act.put, List.setIfInBounds_toArray, List.set_cons_zero, List.set_cons_succ])
    refine E_take0 hQ (fun _ => hHeld) 5 (v := ?qav5) rfl rfl (by kernel_rfl) (by kernel_rfl) (by kernel_rfl) (by decide) (by rfl) ?qay5 ?qar5
    case qay5 => (intro w; go_simp; (try with_reducible rfl))
    (try simp only [Act.put, List.setIfInBounds_toArray, List.set_cons_zero, List.set_cons_succ])
    refine E_one 6 (by kernel_rfl) rfl (by rfl) (fun K hK => ?_)
    go_simp
    (try simp only [Act.put, List.setIfInBounds_toArray, List.set_cons_zero, List.set_cons_succ])
    refine hK.out _ _ (fun _ h => absurd rfl h) (fun _ => ?_)
    clear hK hHeld
    (try simp only [Act.put, List.setIfInBounds_toArray, List.set_cons_zero, List.set_cons_succ])
    refine E_done (by kernel_rfl) ?_ _
    refine hK'.out _ _ ?_
    clear hK' hQ
    gi_wp2_with fail
    refine ⟨by simp, .inl ⟨_, _, rfl, run_takeDeferred HKD9.out, ?_⟩⟩
    exact ⟨_, results_tmp3 rfl _ _ _, rfl, (HLOW.out.drew).trans (below_putObj _ _ (by omega))⟩
  case done =>
    rintro D S W hD hS hSD ⟨⟨V, t, q, hM, hdr, hV, n1, n2, n3, hSB⟩, hz⟩ hKD
    rw [List.length_range, List.drop_of_length_le (by rw [List.length_range]; omega)] at hdr
    have hres : res = (q.1.status, t, q.2) := by
      have h := HRS.out
      have e1 := HKD.out
      have e2 := HKR.out
      unfold driveX at h
      rw [← e2, ← e1, hdr] at h
      exact h.symm
    subst hres
    have s0 := cell1 hM.bS
    have o0 := cell1 hM.bO
    have a0 := cell1 hM.bA
    have HST := Lib.hid (Status_any k q.1 V W.drew (hM.sag.below (Below.refl _ _).drew))
    have HLOW := Lib.hid hM.low
    have HKD9 := Lib.hid hKD
    clear hM hdr hS hKD HRS
    gi_upto_region 19 with fail
    refine E_regionW (S := (fun W => W.cell? ⟨eS, 0, none⟩ = some (.pointer (some ⟨k.p, 0, none⟩)) ∧ W.cell? ⟨eO, 0, none⟩ = some (.int .i64 q.2) ∧ W.cell? ⟨eO + 1, 0, none⟩ = some (.int .i64 t))) 6 (by kernel_rfl) (by kernel_rfl) ⟨s0, o0, a0⟩ (fun Q' hQ hK' hHeld => ?_)
    refine E_take hQ hHeld 0 (v := ?qbv1) rfl rfl (by kernel_rfl) (by kernel_rfl) (by kernel_rfl) (by kernel_rfl) (by kernel_rfl) (by rfl) ?qby1 ?qbr1
    case qby1 => (intro w hSw; (try dsimp only at hSw); go_simp; (try with_reducible rfl))
    (try simp only [Act.put, List.setIfInBounds_toArray, List.set_cons_zero, List.set_cons_succ])
    refine E_take hQ hHeld 2 (v := ?qbv2) rfl rfl (by kernel_rfl) (by kernel_rfl) (by kernel_rfl) (by kernel_rfl) (by kernel_rfl) (by rfl) ?qby2 ?qbr2
    case qby2 => (intro w hSw; (try dsimp only at hSw); go_simp; (try with_reducible rfl))
    (try simp only [Act.put, List.setIfInBounds_toArray, List.set_cons_zero, List.set_cons_succ])
    refine E_take hQ hHeld 3 (v := ?qbv3) rfl rfl (by kernel_rfl) (by kernel_rfl) (by kernel_rfl) (by kernel_rfl) (by kernel_rfl) (by rfl) ?qby3 ?qbr3
    case qby3 => (intro w hSw; (try dsimp only at hSw); go_simp; (try with_reducible rfl))
    (try simp only [Act.put, List.setIfInBounds_toArray, List.set_cons_zero, List.set_cons_succ])
    refine E_one 1 (by kernel_rfl) rfl (by rfl) (fun K hK => ?_)
    go_simp
    refine HST.out.mono ?_
    rintro e w9 ⟨rfl, rfl⟩
    (skip)
    refine hK.out _ _ (fun _ _ => hHeld) (fun hHeld' => ?_)
    replace hHeld := hHeld' (by rfl) (by decide)
    clear hK hHeld'
    (try simp only [Act.put, List.setIfInBounds_toArray, List.set_cons_zero, List.set_cons_succ])
    refine E_take0 hQ (fun _ => hHeld) 4 (v := ?qbv4) rfl rfl (by kernel_rfl) (by kernel_rfl) (by kernel_rfl) (by decide) (by rfl) ?qby4 ?qbr4
    case qby4 => (intro w; go_simp; (try with_reducible rfl))
    (try simp only [Act.put, List.setIfInBounds_toArray, List.set_cons_zero, List.set_cons_succ])
    refine E_take0 hQ (fun _ => hHeld) 5 (v := ?qbv5) rfl rfl (by kernel_rfl) (by kernel_rfl) (by kernel_rfl) (by decide) (by rfl) ?qby5 ?qbr5
    case qby5 => (intro w; go_simp; (try with_reducible rfl))
    (try simp only [Act.put, List.setIfInBounds_toArray, List.set_cons_zero, List.set_cons_succ])
    refine E_one 6 (by kernel_rfl) rfl (by rfl) (fun K hK => ?_)
    go_simp
    (try simp only [Act.put, List.setIfInBounds_toArray, List.set_cons_zero, List.set_cons_succ])
    refine hK.out _ _ (fun _ h => absurd rfl h) (fun _ => ?_)
    clear hK hHeld
    (try simp only [Act.put, List.setIfInBounds_toArray, List.set_cons_zero, List.set_cons_succ])
    refine E_done (by kernel_rfl) ?_ _
    refine hK'.out _ _ ?_
    clear hK' hQ
    gi_wp2_with fail
    refine ⟨by simp, .inl ⟨_, _, rfl, run_takeDeferred HKD9.out, ?_⟩⟩
    exact ⟨_, results_tmp3 rfl _ _ _, rfl, (HLOW.out.drew).trans (below_putObj _ _ (by omega))⟩
  case body =>
    rintro l S pre x a' W hS hw hSl - ⟨⟨V, t, q, hM, hdr, hV, n1, n2, n3, hSB⟩, hz⟩ ⟨ga, gc, rfl, hro, hrS⟩ hpre
    obtain ⟨hx, hxb⟩ := range_pre hpre
    rw [← hx] at hdr hxb
    rw [driveO_drop hxb] at hdr
    have hpl : (pre ++ [x]).length = x + 1 := by rw [List.length_append, List.length_singleton, hx]
    have HPL := Lib.hid hpl
    have HDR := Lib.hid hdr
    have a0 := cell1 hM.bA
    have f0 := froz8 (i := 0) hM.bA
    have HMA := Lib.hid (hM.setA (x : Int))
    have HKA : Hid (Keep 0 S W (W.setCell ⟨eO + 1, 0, none⟩ (.int .i64 (x : Int)))) := Lib.hid ⟨(Below.refl 0 W).setCell (Nat.zero_le _) _, fun j hj => Below.heap_setCell _ _ _ _ (by show j ≠ eO + 1; rintro rfl; exact n3 hj)⟩
    have HRO : Hid (∀ W', Keep 0 S W W' → W'.ownsRow 0 32 5 (.slice ga (saysAt ss x).length gc) (saysAt ss x).length (flatS (saysAt ss x))) := Lib.hid (fun W' hk => ownsRow_keepB hro (fun g hg => hk.same g (hrS g hg)))
    have HVV := Lib.hid hV
    have HSB := Lib.hid hSB
    have HSS := Lib.hid hS
    have hln := saysAt_len ss (x : Int)
    clear hM hdr hV hro hrS hpre hS hSl hSB hx hpl
    gi_upto_region 10 with fail
    generalize W.setCell ⟨eO + 1, 0, none⟩ (.int .i64 (x : Int)) = Wa at *
    gi_wp2_with fail
    clear a0 f0
    gi_loopg [36] ((saysAt ss x).length + 1) (fun gk i wr => ∃ (j : Nat) (V : Nat → Prop) (p : SagD × Int), j + gk = (saysAt ss x).length + 1 ∧ j ≤ (saysAt ss x).length ∧ i = .int .i64 j ∧ Hid (DrvM w k eS eO (eO + 1) V wr (x : Int) p) ∧ Hid (((saysAt ss x).take j).foldl (answO k.d.steps k.rs x) q = p) ∧ Hid (∀ j, V j → ¬ S j) ∧ Hid (Keep 0 S W wr))
    case atStart => exact ⟨0, V, q, by omega, by omega, rfl, HMA, Lib.hid rfl, HVV, HKA⟩
    case round =>
      obtain ⟨j, V', p, hgk, hj, rfl, HMr, HFO, HVr, HKr⟩ := hrel
      have hg : gk = (saysAt ss x).length + 1 - j := by omega
      subst hg
      by_cases hjl : j < (saysAt ss x).length
      · have d1 : decide ((j : Int) < ((saysAt ss x).length : Int)) = true := decide_eq_true (by omega)
        have hj1 : (j : Int) < ((saysAt ss x).length : Int) := by omega
        have hj0 : (0 : Int) ≤ (j : Int) := by omega
        have HTK : Hid ((saysAt ss x).take (j + 1) = (saysAt ss x).take j ++ [(saysAt ss x)[j]]) := Lib.hid (by rw [List.take_add_one, List.getElem?_eq_getElem hjl]; rfl)
        obtain ⟨sg, soff, scap, he, q0, q1, q2, q3, q4⟩ := says_at (RdS.of_owns (HRO.out wr HKr.out)) hjl
        cases he
        generalize (saysAt ss x)[j] = y at *
        have hb1 : Below wr.heap.size wr (wr.alloc (.cells #[.int .i64 y.1, .int .i64 y.2.1, .int .i64 y.2.2.1, .bool y.2.2.2.1, .int .u8 y.2.2.2.2] 32)) := (Below.refl _ _).alloc (Nat.le_refl _) _
        have g5 := World.alloc_heap_new wr (.cells #[.int .i64 y.1, .int .i64 y.2.1, .int .i64 y.2.2.1, .bool y.2.2.2.1, .int .u8 y.2.2.2.2] 32)
        gi_upto_region 13 with fail
        generalize wr.alloc (.cells #[.int .i64 y.1, .int .i64 y.2.1, .int .i64 y.2.2.1, .bool y.2.2.2.1, .int .u8 y.2.2.2.2] 32) = w8 at *
        clear q0 q1 q2 q3 q4
        obtain ⟨z0, z1, z2, z3, z4⟩ := cells5s g5
        have HM8 := Lib.hid (HMr.out.below hb1)
        have HB8 := Lib.hid hb1
        have s0 := cell1 HM8.out.bS
        have HAN := Lib.hid (AnswerS_any k p.1 y.2.1 y.2.2.1 y.2.2.2.2 (x : Int) y.2.2.2.1 V' w8 HM8.out.sag (fun j hj => (HM8.out.vB j hj).2.1) HF.out HM8.out.inv.good)
        clear hb1 g5
        gi_wp2_with fail
        refine ((callsIn_wide.2 HAN.out).inRound l).mono ?_
        rintro e w9 ⟨v, rfl, hc⟩
        obtain ⟨V9, oa9, oc9, rfl, hM9, hst9⟩ := HM8.out.call hc (HM8.out.inv.answer _ _ _ _)
        have o0 := cell1 hM9.bO
        have fO := froz8 (i := 0) hM9.bO
        have HMZ := Lib.hid (hM9.setO (wrap64 (p.2 + ((answerX k.d.steps k.rs p.1 (y.2.1, y.2.2.2.1) y.2.2.1 y.2.2.2.2 (x : Int)).1.2.length : Int))))
        have hs8 := HB8.out.size
        have hsr := HKr.out.below.size
        have hln1 := hM9.low
        have HKZ : Hid (Keep 0 S W (w9.setCell ⟨eO, 0, none⟩ (.int .i64 (wrap64 (p.2 + ((answerX k.d.steps k.rs p.1 (y.2.1, y.2.2.2.1) y.2.2.1 y.2.2.2.2 (x : Int)).1.2.length : Int)))))) := Lib.hid ⟨(HKr.out.below.trans ((HB8.out.mono (Nat.zero_le _)).trans ⟨hln1.os.trans HM8.out.low.os.symm, hln1.tape.trans HM8.out.low.tape.symm, hln1.output.trans HM8.out.low.output.symm, (by obtain ⟨va9, vc9, V10, h1, h2, h3, h4, h5, h6⟩ := hc; exact h5.size), fun j hj => absurd hj (Nat.not_lt_zero j)⟩)).setCell (Nat.zero_le _) _, fun j hj => (Below.heap_setCell _ _ _ _ (by show j ≠ eO; rintro rfl; exact n2 hj)).trans (((hst9 j (by have := (HSS.out j hj).2; omega) (fun e => HVr.out j e hj)).1).trans ((HB8.out.block j (by have := (HSS.out j hj).2; omega)).trans (HKr.out.same j hj)))⟩
        have HV9 : Hid (∀ j, V9 j → ¬ S j) := Lib.hid (fun j hj e => (hst9 j (by have := (HSS.out j e).2; omega) (fun e2 => HVr.out j e2 e)).2 hj)
        clear hM9 hst9 hc hln1 s0 z0 z1 z2 z3 z4 HAN
        gi_wp2_with fail
        gi_roundg ((saysAt ss x).length + 1 - (j + 1))
        case measure => omega
        case rel => exact ⟨j + 1, V9, answO k.d.steps k.rs (x : Int) p y, by omega, by omega, by go_num, HMZ, Lib.hid (by rw [HTK.out, List.foldl_append, HFO.out]; rfl), HV9, HKZ⟩
      · have d1 : decide ((j : Int) < ((saysAt ss x).length : Int)) = false := decide_eq_false (by omega)
        have hj1 : ¬ (j : Int) < ((saysAt ss x).length : Int) := by omega
        obtain rfl : j = (saysAt ss x).length := by omega
        rw [List.take_length] at HFO
        clear hgk
        by_cases hx0 : 0 < x
        · have hx1 : (0 : Int) < (x : Int) := by omega
          have d2 : decide ((0 : Int) < (x : Int)) = true := decide_eq_true (by omega)
          have s0 := cell1 HMr.out.bS
          have o0 := cell1 HMr.out.bO
          have HMd := Lib.hid (HMr.out.below (Below.refl _ wr).drew)
          have HTK := Lib.hid (TickS_any k p.1 (x : Int) V' wr.drew HMd.out.sag (fun j hj => (HMd.out.vB j hj).2.1) HF.out HMd.out.inv.good)
          have hsr := HKr.out.below.size
          gi_upto_region 17 with fail
          refine E_regionR (S := (fun W => W.cell? ⟨eO, 0, none⟩ = some (.int .i64 p.2) ∧ W.cell? ⟨eS, 0, none⟩ = some (.pointer (some ⟨k.p, 0, none⟩)))) 6 (by kernel_rfl) (by kernel_rfl) ⟨o0, s0⟩ (fun Q' hQ hK' hHeld => ?_)
          refine E_take hQ hHeld 0 (v := ?qcv1) rfl rfl (by kernel_rfl) (by kernel_rfl) (by kernel_rfl) (by kernel_rfl) (by kernel_rfl) (by rfl) ?qcy1 ?qcr1
          case qcy1 => (intro w hSw; (try dsimp only at hSw); go_simp; (try with_reducible rfl))
          (try simp only [Act.put, List.setIfInBounds_toArray, List.set_cons_zero, List.set_cons_succ])
          refine E_take hQ hHeld 1 (v := ?qcv2) rfl rfl (by kernel_rfl) (by kernel_rfl) (by kernel_rfl) (by kernel_rfl) (by kernel_rfl) (by rfl) ?qcy2 ?qcr2
          case qcy2 => (intro w hSw; (try dsimp only at hSw); go_simp; (try with_reducible rfl))
          (try simp only [Act.put, List.setIfInBounds_toArray, List.set_cons_zero, List.set_cons_succ])
          refine E_take0 hQ (fun _ => hHeld) 2 (v := ?qcv3) rfl rfl (by kernel_rfl) (by kernel_rfl) (by kernel_rfl) (by decide) (by rfl) ?qcy3 ?qcr3
          case qcy3 => (intro w; go_simp; (try with_reducible rfl))
          (try simp only [Act.put, List.setIfInBounds_toArray, List.set_cons_zero, List.set_cons_succ])
          refine E_one 3 (by kernel_rfl) rfl (by rfl) (fun K hK => ?_)
          go_simp
          refine HTK.out.mono ?_
          rintro e w9 ⟨v, rfl, hc⟩
          have hsz9 : wr.heap.size ≤ w9.heap.size := by obtain ⟨va9, vc9, V10, h1, h2, h3, h4, h5, h6⟩ := hc; exact h5.size
          obtain ⟨V9, oa9, oc9, rfl, hM9, hst9⟩ := HMd.out.call hc (HMd.out.inv.tick _)
          have o9 := cell1 hM9.bO
          have s9 := cell1 hM9.bS
          have f9 := froz8 (i := 0) hM9.bO
          (skip)
          refine hK.out _ _ (fun _ _ => ⟨o9, s9⟩) (fun hHeld' => ?_)
          replace hHeld := hHeld' (by rfl) (by decide)
          clear hK hHeld'
          (try simp only [Act.put, List.setIfInBounds_toArray, List.set_cons_zero, List.set_cons_succ])
          refine E_take0 hQ (fun _ => hHeld) 4 (v := ?qcv4) rfl rfl (by kernel_rfl) (by kernel_rfl) (by kernel_rfl) (by decide) (by rfl) ?qcy4 ?qcr4
          case qcy4 => (intro w; go_simp; (try with_reducible rfl))
          (try simp only [Act.put, List.setIfInBounds_toArray, List.set_cons_zero, List.set_cons_succ])
          refine E_take0 hQ (fun _ => hHeld) 5 (v := ?qcv5) rfl rfl (by kernel_rfl) (by kernel_rfl) (by kernel_rfl) (by decide) (by rfl) ?qcy5 ?qcr5
          case qcy5 => (intro w; go_simp; (try with_reducible rfl))
          (try simp only [Act.put, List.setIfInBounds_toArray, List.set_cons_zero, List.set_cons_succ])
          refine E_one 6 (by kernel_rfl) rfl (by rfl) (fun K hK => ?_)
          go_simp
          (try simp only [Act.put, List.setIfInBounds_toArray, List.set_cons_zero, List.set_cons_succ])
          refine hK.out _ _ (fun _ h => absurd rfl h) (fun _ => ?_)
          clear hK hHeld
          (try simp only [Act.put, List.setIfInBounds_toArray, List.set_cons_zero, List.set_cons_succ])
          refine E_done (by kernel_rfl) ?_ _
          refine hK'.out _ _ ?_
          have HMZ : Hid (DrvM w k eS eO (eO + 1) V9 (w9.setCell ⟨eO, 0, none⟩ (.int .i64 (wrap64 (p.2 + ((tickX k.d.steps k.rs p.1 (x : Int)).2.length : Int))))) (x : Int) ((tickX k.d.steps k.rs p.1 (x : Int)).1, wrap64 (p.2 + ((tickX k.d.steps k.rs p.1 (x : Int)).2.length : Int)))) := Lib.hid (hM9.setO _)
          have HKZ : Hid (Keep 0 S W (w9.setCell ⟨eO, 0, none⟩ (.int .i64 (wrap64 (p.2 + ((tickX k.d.steps k.rs p.1 (x : Int)).2.length : Int)))))) := Lib.hid ⟨(HKr.out.below.trans ⟨hM9.low.os.trans HMr.out.low.os.symm, hM9.low.tape.trans HMr.out.low.tape.symm, hM9.low.output.trans HMr.out.low.output.symm, hsz9, fun j hj => absurd hj (Nat.not_lt_zero j)⟩).setCell (Nat.zero_le _) _, fun j hj => (Below.heap_setCell _ _ _ _ (by show j ≠ eO; rintro rfl; exact n2 hj)).trans (((hst9 j (by have := (HSS.out j hj).2; show j < wr.heap.size; omega) (fun e => HVr.out j e hj)).1).trans (HKr.out.same j hj))⟩
          have HV9 : Hid (∀ j, V9 j → ¬ S j) := Lib.hid (fun j hj e => (hst9 j (by have := (HSS.out j e).2; show j < wr.heap.size; omega) (fun e2 => HVr.out j e2 e)).2 hj)
          have HRD : Hid (roundO k.d.steps k.rs ss (x : Int) q = ((tickX k.d.steps k.rs p.1 (x : Int)).1, wrap64 (p.2 + ((tickX k.d.steps k.rs p.1 (x : Int)).2.length : Int)))) := Lib.hid (by unfold roundO tickO; rw [HFO.out, if_pos hx1])
          clear hM9 hst9 s9 o9 f9 s0 o0 hK' hQ HTK HMd HMr HVr HKr HFO
          gi_upto_region 18 with fail
          rw [IntWalk.i64_left]
          generalize (w9.setCell ⟨eO, 0, none⟩ (.int .i64 (wrap64 (p.2 + ((tickX k.d.steps k.rs p.1 (x : Int)).2.length : Int))))) = wz at *
          have s0 := cell1 HMZ.out.bS
          gi_wp2_with fail
          refine ((callsIn_wide.2 (Over_any k ((tickX k.d.steps k.rs p.1 (x : Int)).1, wrap64 (p.2 + ((tickX k.d.steps k.rs p.1 (x : Int)).2.length : Int))).1 V9 wz HMZ.out.sag)).inRound l).mono ?_
          rintro e w' ⟨rfl, rfl⟩
          have hsz := HKZ.out.below.size
          rcases hov : overB ((tickX k.d.steps k.rs p.1 (x : Int)).1, wrap64 (p.2 + ((tickX k.d.steps k.rs p.1 (x : Int)).2.length : Int))).1 with _ | _
          · have HDZ : Hid (driveO k.d.steps k.rs ss (List.range (b + 1)) (beginO k.d.steps k.rs) = driveO k.d.steps k.rs ss ((List.range (b + 1)).drop (pre ++ [x]).length) ((x : Int), ((tickX k.d.steps k.rs p.1 (x : Int)).1, wrap64 (p.2 + ((tickX k.d.steps k.rs p.1 (x : Int)).2.length : Int))))) := Lib.hid (by rw [HDR.out, HRD.out, hov, HPL.out]; rfl)
            gi_wp2_with fail
            exact ⟨⟨⟨V9, (x : Int), ((tickX k.d.steps k.rs p.1 (x : Int)).1, wrap64 (p.2 + ((tickX k.d.steps k.rs p.1 (x : Int)).2.length : Int))), HMZ.out, HDZ.out, HV9.out, n1, n2, n3, HSB.out⟩, by omega⟩, HKZ.out⟩
          · have HDZ : Hid (driveO k.d.steps k.rs ss (List.range (b + 1)) (beginO k.d.steps k.rs) = ((x : Int), ((tickX k.d.steps k.rs p.1 (x : Int)).1, wrap64 (p.2 + ((tickX k.d.steps k.rs p.1 (x : Int)).2.length : Int))))) := Lib.hid (by rw [HDR.out, HRD.out, hov]; rfl)
            gi_wp2_with fail
            exact ⟨⟨rfl, ⟨V9, (x : Int), ((tickX k.d.steps k.rs p.1 (x : Int)).1, wrap64 (p.2 + ((tickX k.d.steps k.rs p.1 (x : Int)).2.length : Int))), HMZ.out, HDZ.out, HV9.out, n1, n2, n3, HSB.out⟩, by omega⟩, HKZ.out⟩
        · have hx1 : ¬ (0 : Int) < (x : Int) := by omega
          have d2 : decide ((0 : Int) < (x : Int)) = false := decide_eq_false (by omega)
          have HRD : Hid (roundO k.d.steps k.rs ss (x : Int) q = p) := Lib.hid (by unfold roundO tickO; rw [HFO.out, if_neg hx1])
          have s0 := cell1 HMr.out.bS
          gi_wp2_with fail
          refine ((callsIn_wide.2 (Over_any k p.1 V' wr HMr.out.sag)).inRound l).mono ?_
          rintro e w' ⟨rfl, rfl⟩
          have hsz := HKr.out.below.size
          rcases hov : overB p.1 with _ | _
          · have HDZ : Hid (driveO k.d.steps k.rs ss (List.range (b + 1)) (beginO k.d.steps k.rs) = driveO k.d.steps k.rs ss ((List.range (b + 1)).drop (pre ++ [x]).length) ((x : Int), p)) := Lib.hid (by rw [HDR.out, HRD.out, hov, HPL.out]; rfl)
            gi_wp2_with fail
            exact ⟨⟨⟨V', (x : Int), p, HMr.out, HDZ.out, HVr.out, n1, n2, n3, HSB.out⟩, by omega⟩, HKr.out⟩
          · have HDZ : Hid (driveO k.d.steps k.rs ss (List.range (b + 1)) (beginO k.d.steps k.rs) = ((x : Int), p)) := Lib.hid (by rw [HDR.out, HRD.out, hov]; rfl)
            gi_wp2_with fail
            exact ⟨⟨rfl, ⟨V', (x : Int), p, HMr.out, HDZ.out, HVr.out, n1, n2, n3, HSB.out⟩, by omega⟩, HKr.out⟩
end Go.Proofs.YtgfiogjfgbegpaaGreat

/-
  rescripttop.awakeSaga: contract.
-/
namespace Go.Proofs.YtgfiogjfgbegpaaGreat
open Go Go.RowKit Go.Maps Go.WideShapes

def sSa : StepD := ⟨{ data := #[97] }, { data := #[120] }, { data := #[117] }, [], 0, 0, 0, 5, zeroTA⟩
def sSb : StepD := ⟨{ data := #[98] }, { data := #[121] }, { data := #[118] }, [{ data := #[97] }], 0, 0, 0, 5, zeroTA⟩
def dSg : DefD := ⟨{ data := #[115] }, { data := #[] }, [sSa, sSb]⟩
theorem dSg_small : SmallD dSg := by
  have hz : SmallP 18 zeroTA := (small_of (by decide +kernel)).1
  refine ⟨by show ByteArray.size { data := #[115] } ≤ _; decide, by show ByteArray.size { data := #[] } ≤ _; decide, by show 2 ≤ 30; decide, fun s hs => ?_⟩
  rcases List.mem_cons.1 hs with rfl | hs
  · exact ⟨by decide, by decide, by decide, by decide, hz, fun a h => by cases h⟩
  · cases List.mem_singleton.1 hs
    exact ⟨by decide, by decide, by decide, by decide, hz, fun a h => by cases List.mem_singleton.1 h; decide⟩
theorem drvSg1 : drvD dSg [(1, 0, 1, false, 0), (2, 1, 1, false, 0)] = (3, 2, 2) := by decide +kernel
theorem drvSg2 : drvD dSg [(1, 0, 1, false, 0)] = (5, 11, 3) := by decide +kernel
theorem dSg_r {W : World} {g0 g : Nat} (h0 : W.heap[g0]? = some (.cells #[.string { data := #[97] }] 9 (0, 0))) (h : W.heap[g]? = some (.cells #[.string { data := #[97] }, .string { data := #[120] }, .string { data := #[117] }, .slice none 0 0, .int .i64 0, .int .i64 0, .int .i64 0, .int .i64 5, .int .u8 0, .string { data := #[] }, .slice none 0 0, .slice none 0 0, .int .i64 0, .string { data := #[98] }, .string { data := #[121] }, .string { data := #[118] }, .slice (some ⟨g0, 0, none⟩) 1 1, .int .i64 0, .int .i64 0, .int .i64 0, .int .i64 5, .int .u8 0, .string { data := #[] }, .slice none 0 0, .slice none 0 0, .int .i64 0] 47 (0, 0))) : DefR W [.string { data := #[115] }, .string { data := #[] }, .slice (some ⟨g, 0, none⟩) 2 2] dSg (some ⟨g, 0, none⟩) 2 := by
  refine ⟨rfl, by show ByteArray.size { data := #[115] } ≤ _; unfold maxLen; decide, Nat.zero_le _, [[.string { data := #[97] }, .string { data := #[120] }, .string { data := #[117] }, .slice none 0 0, .int .i64 0, .int .i64 0, .int .i64 0, .int .i64 5, .int .u8 0, .string { data := #[] }, .slice none 0 0, .slice none 0 0, .int .i64 0], [.string { data := #[98] }, .string { data := #[121] }, .string { data := #[118] }, .slice (some ⟨g0, 0, none⟩) 1 1, .int .i64 0, .int .i64 0, .int .i64 0, .int .i64 5, .int .u8 0, .string { data := #[] }, .slice none 0 0, .slice none 0 0, .int .i64 0]], rfl, rds_rowK 2 13 (l := [.string { data := #[97] }, .string { data := #[120] }, .string { data := #[117] }, .slice none 0 0, .int .i64 0, .int .i64 0, .int .i64 0, .int .i64 5, .int .u8 0, .string { data := #[] }, .slice none 0 0, .slice none 0 0, .int .i64 0, .string { data := #[98] }, .string { data := #[121] }, .string { data := #[118] }, .slice (some ⟨g0, 0, none⟩) 1 1, .int .i64 0, .int .i64 0, .int .i64 0, .int .i64 5, .int .u8 0, .string { data := #[] }, .slice none 0 0, .slice none 0 0, .int .i64 0]) h rfl (by decide), fun i r s hr hs => ?_⟩
  have hi : I64w 0 := by unfold I64w; decide
  have h5 : I64w 5 := by unfold I64w; decide
  rcases i with _ | _ | i
  · cases hr
    cases hs
    exact ⟨none, 0, none, 0, none, 0, rfl, ⟨by show ByteArray.size { data := #[97] } ≤ _; unfold maxLen; decide, by show ByteArray.size { data := #[120] } ≤ _; unfold maxLen; decide, by show ByteArray.size { data := #[117] } ≤ _; unfold maxLen; decide, (fun a h => by cases h), hi, hi, hi, h5⟩, ⟨rfl, none, 0, rfl, Nat.le_refl _, Nat.zero_le _, .inl rfl⟩, zeroTA_r W⟩
  · cases hr
    cases hs
    exact ⟨some ⟨g0, 0, none⟩, 1, none, 0, none, 0, rfl, ⟨by show ByteArray.size { data := #[98] } ≤ _; unfold maxLen; decide, by show ByteArray.size { data := #[121] } ≤ _; unfold maxLen; decide, by show ByteArray.size { data := #[118] } ≤ _; unfold maxLen; decide, (fun a h => by cases List.mem_singleton.1 h; show ByteArray.size { data := #[97] } ≤ _; unfold maxLen; decide), hi, hi, hi, h5⟩, rds_rowK 1 1 (l := [.string { data := #[97] }]) h0 rfl (by decide), zeroTA_r W⟩
  · cases hr
set_option maxRecDepth 100000 in
set_option maxHeartbeats 4000000 in
theorem awakeSaga_any (w : World) : Calls Tryz.prog 7 #[] w fun e w' => e = .returned (.bool true) ∧ Below w.heap.size w w' := by
  obtain ⟨hb3, hsz3, hf3⟩ := allocF [(.cells #[.string { data := #[97] }] 9), (.cells #[.string { data := #[97] }, .string { data := #[120] }, .string { data := #[117] }, .slice none 0 0, .int .i64 0, .int .i64 0, .int .i64 0, .int .i64 5, .int .u8 0, .string { data := #[] }, .slice none 0 0, .slice none 0 0, .int .i64 0, .string { data := #[98] }, .string { data := #[121] }, .string { data := #[118] }, .slice (some ⟨w.heap.size, 0, none⟩) 1 1, .int .i64 0, .int .i64 0, .int .i64 0, .int .i64 5, .int .u8 0, .string { data := #[] }, .slice none 0 0, .slice none 0 0, .int .i64 0] 47), (.cells #[.string { data := #[115] }, .string { data := #[] }, .slice (some ⟨w.heap.size + 1, 0, none⟩) 2 2] 24)] w
  have g0 := hf3 0 _ rfl
  have g1 := hf3 1 _ rfl
  have g2 := hf3 2 _ rfl
  have e0 : w.heap.size + 0 = w.heap.size := rfl
  simp only [List.foldl_cons, List.foldl_nil, List.length_cons, List.length_nil, Nat.reduceAdd] at hb3 hsz3 g0 g1 g2
  rw [e0] at g0
  clear hf3 e0
  go_enter Tryz.func7, Tryz.ntmps7
  go_upto_region 2 with fail
  generalize (((w.alloc (.cells #[.string { data := #[97] }] 9)).alloc (.cells #[.string { data := #[97] }, .string { data := #[120] }, .string { data := #[117] }, .slice none 0 0, .int .i64 0, .int .i64 0, .int .i64 0, .int .i64 5, .int .u8 0, .string { data := #[] }, .slice none 0 0, .slice none 0 0, .int .i64 0, .string { data := #[98] }, .string { data := #[121] }, .string { data := #[118] }, .slice (some ⟨w.heap.size, 0, none⟩) 1 1, .int .i64 0, .int .i64 0, .int .i64 0, .int .i64 5, .int .u8 0, .string { data := #[] }, .slice none 0 0, .slice none 0 0, .int .i64 0] 47)).alloc (.cells #[.string { data := #[115] }, .string { data := #[] }, .slice (some ⟨w.heap.size + 1, 0, none⟩) 2 2] 24)) = w3 at *
  have hb4 : Below w3.heap.size w3 (w3.alloc (.cells #[.int .i64 1, .int .i64 0, .int .i64 1, .bool false, .int .u8 0, .int .i64 2, .int .i64 1, .int .i64 1, .bool false, .int .u8 0] 32)) := (Below.refl _ _).alloc (Nat.le_refl _) _
  have g4 := World.alloc_heap_new w3 (.cells #[.int .i64 1, .int .i64 0, .int .i64 1, .bool false, .int .u8 0, .int .i64 2, .int .i64 1, .int .i64 1, .bool false, .int .u8 0] 32)
  have HDR := Lib.hid (Drive_any dSg _ _ _ [(1, 0, 1, false, 0), (2, 1, 1, false, 0)] (some ⟨w3.heap.size, 0, none⟩) 2 _ ((dSg_r g0 g1).below hb4) dSg_small (by decide) (fun x hx => by
    simp only [List.mem_cons, List.not_mem_nil, or_false] at hx
    rcases hx with rfl | rfl <;> (unfold I64w; decide)) (rds_rowK 2 5 (l := [.int .i64 1, .int .i64 0, .int .i64 1, .bool false, .int .u8 0, .int .i64 2, .int .i64 1, .int .i64 1, .bool false, .int .u8 0]) g4 rfl (by decide)))
  rw [drvSg1] at HDR
  obtain ⟨p0, p1, p2, -, -, -⟩ := cells3h g2
  have HB := Lib.hid hb3
  have HB4 := Lib.hid hb4
  have HG0 := Lib.hid g0
  have HG1 := Lib.hid g1
  have HG2 := Lib.hid g2
  have HSZ := Lib.hid hsz3
  clear hb3 hb4 g0 g1 g2 g4 hsz3
  go_wp2_with fail
  refine HDR.out.mono ?_
  rintro e w5 ⟨rfl, hb5⟩
  have hl2 := HSZ.out
  have hb35 : Below w3.heap.size w3 w5 := HB4.out.trans (hb5.mono HB4.out.size)
  have hg0 := (hb35.block _ (by omega)).trans HG0.out
  have hg1 := (hb35.block _ (by omega)).trans HG1.out
  have hg2 := (hb35.block _ (by omega)).trans HG2.out
  have HB5 := Lib.hid (bthen HB.out (by omega) hb35)
  clear p0 p1 p2 hb5 hb35 HDR HB4 hl2
  obtain ⟨p0, p1, p2, -, -, -⟩ := cells3h hg2
  have hb6 : Below w5.heap.size w5 (w5.alloc (.cells #[.int .i64 1, .int .i64 0, .int .i64 1, .bool false, .int .u8 0] 32)) := (Below.refl _ _).alloc (Nat.le_refl _) _
  have g6 := World.alloc_heap_new w5 (.cells #[.int .i64 1, .int .i64 0, .int .i64 1, .bool false, .int .u8 0] 32)
  have HDR := Lib.hid (Drive_any dSg _ _ _ [(1, 0, 1, false, 0)] (some ⟨w5.heap.size, 0, none⟩) 1 _ ((dSg_r hg0 hg1).below hb6) dSg_small (by decide) (fun x hx => by
    cases List.mem_singleton.1 hx
    unfold I64w
    decide) (rds_rowK 1 5 (l := [.int .i64 1, .int .i64 0, .int .i64 1, .bool false, .int .u8 0]) g6 rfl (by decide)))
  rw [drvSg2] at HDR
  have HB6 := Lib.hid hb6
  clear hg0 hg1 hg2 hb6 g6
  go_wp2_with fail
  refine HDR.out.mono ?_
  rintro e w7 ⟨rfl, hb7⟩
  have HB7 := Lib.hid ((HB5.out.trans ((HB6.out.trans (hb7.mono HB6.out.size)).mono HB5.out.size)))
  clear p0 p1 p2 hb7 HDR
  go_wp2_with fail
  go_ret
  exact ⟨rfl, HB7.out⟩
end Go.Proofs.YtgfiogjfgbegpaaGreat

/-
  WholeTwice: the law's walk.
-/
namespace Go.Proofs.YtgfiogjfgbegpaaGreat
open Go Go.RowKit Go.Maps Go.WideShapes

theorem againL_len (t : Nat) : ∀ l : List SayD, (againL t l).length = l.length * (t + 1)
  | [] => by simp [againL]
  | x :: l => by
    have e : againL t (x :: l) = List.replicate (t + 1) x ++ againL t l := rfl
    rw [e, List.length_append, againL_len t l, List.length_replicate, List.length_cons, Nat.add_mul]
    omega
theorem againL_snoc (t : Nat) (l : List SayD) (x : SayD) : againL t (l ++ [x]) = againL t l ++ List.replicate (t + 1) x := by
  unfold againL
  rw [List.flatMap_append, List.flatMap_cons, List.flatMap_nil, List.append_nil]
theorem againL_mem {t : Nat} {l : List SayD} {x : SayD} (h : x ∈ againL t l) : x ∈ l := by
  unfold againL at h
  obtain ⟨y, hy, hx⟩ := List.mem_flatMap.1 h
  rw [(List.mem_replicate.1 hx).2]
  exact hy
theorem drvD_again (d : DefD) (ss : List SayD) (t : Nat) : drvD d (againL t ss) = drvD d ss := by
  unfold drvD
  rw [driveX_again]
set_option maxRecDepth 100000 in
set_option maxHeartbeats 4000000 in
theorem WholeTwice_any (d : DefD) (sa : Option Addr) (sc : Nat) (ss : List SayD) (v : Value) (times : Nat) (w : World) (h : DefR w [.string d.name, .string d.text, .slice sa d.steps.length sc] d sa sc) (hok : ∀ x ∈ ss, I64w x.1) (hr : RdS w v 5 ss.length (flatS ss)) (_ht : times < 256) :
    Calls Tryz.prog 3 #[.agg #[.string d.name, .string d.text, .slice sa d.steps.length sc], v, .int .u8 (times : Int)] w fun e w' => e = .returned (.bool true) ∧ Below w.heap.size w w' := by
  obtain ⟨va, vc, rfl⟩ := hr.form
  obtain ⟨i0, hi, hz0, hz1, hz2⟩ := info_parts Tryz.info_say
  have hb0 := (Below.refl w.heap.size w).alloc (Nat.le_refl _) (.cells #[.string d.name, .string d.text, .slice sa d.steps.length sc] 24)
  have HD := Lib.hid (h.below hb0)
  have HR := Lib.hid (hr.below hb0)
  have HG := Lib.hid (World.alloc_heap_new w (.cells #[.string d.name, .string d.text, .slice sa d.steps.length sc] 24))
  have HOK := Lib.hid hok
  clear h hr hok
  go_enter Tryz.func3, Tryz.ntmps3
  go_upto_region 1 with fail
  generalize (w.alloc (.cells #[.string d.name, .string d.text, .slice sa d.steps.length sc] 24)) = w0 at *
  have HB0 := Lib.hid hb0
  have hlt := (Array.getElem?_eq_some_iff.1 HG.out).1
  clear hb0
  go_wp2_with fail
  refine (awakeSaga_any _).mono ?_
  rintro e w1 ⟨rfl, hb1⟩
  have HB1 := Lib.hid (bthen HB0.out (Nat.le_refl _) hb1)
  have HD1 := Lib.hid (HD.out.below hb1)
  have HR1 := Lib.hid (HR.out.below hb1)
  have HG1 := Lib.hid ((hb1.block _ hlt).trans HG.out)
  obtain ⟨q0, q1, q2, -, -, -⟩ := cells3h HG1.out
  clear hb1
  go_wp2_with fail
  refine (rdSmall_any d _ _ _ w1 HD1.out).mono ?_
  rintro e w2 ⟨rfl, hb2⟩
  clear q0 q1 q2
  have HB2 := Lib.hid (bthen HB1.out (Nat.le_refl _) hb2)
  have HD2 := Lib.hid (HD1.out.below hb2)
  have HR2 := Lib.hid (HR1.out.below hb2)
  have hlt1 := (Array.getElem?_eq_some_iff.1 HG1.out).1
  have HG2 := Lib.hid ((hb2.block _ hlt1).trans HG1.out)
  obtain ⟨q0, q1, q2, -, -, -⟩ := cells3h HG2.out
  clear hb2
  rcases hsm : smallDef d with _ | _
  · clear hsm
    go_wp2
    go_ret
    exact ⟨rfl, HB2.out⟩
  have HSM := Lib.hid (smallDef_of hsm)
  clear hsm
  by_cases hl : 30 < ss.length
  · have d1 : decide ((30 : Int) < (ss.length : Int)) = true := decide_eq_true (by omega)
    go_wp2_with fail
    go_ret
    exact ⟨rfl, HB2.out⟩
  have d1 : decide ((30 : Int) < (ss.length : Int)) = false := decide_eq_false (by omega)
  have hbr := boundI_range HSM.out
  go_wp2_with fail
  refine (rBound_any d _ _ _ w2 HD2.out HSM.out).mono ?_
  rintro e w3 ⟨rfl, hb3⟩
  clear q0 q1 q2 d1
  have HB3 := Lib.hid (bthen HB2.out (Nat.le_refl _) hb3)
  have HD3 := Lib.hid (HD2.out.below hb3)
  have HR3 := Lib.hid (HR2.out.below hb3)
  have hlt2 := (Array.getElem?_eq_some_iff.1 HG2.out).1
  have HG3 := Lib.hid ((hb3.block _ hlt2).trans HG2.out)
  clear hb3
  by_cases hbd : 3000 < boundI d
  · have d2 : decide ((3000 : Int) < boundI d) = true := decide_eq_true hbd
    generalize boundI d = N at *
    go_wp2_with fail
    go_ret
    exact ⟨rfl, HB3.out⟩
  have d2 : decide ((3000 : Int) < boundI d) = false := decide_eq_false hbd
  generalize boundI d = N at *
  by_cases ht5 : 5 < times
  · have d3 : decide ((5 : Int) < (times : Int)) = true := decide_eq_true (by omega)
    go_wp2_with fail
    go_ret
    exact ⟨rfl, HB3.out⟩
  have d3 : decide ((5 : Int) < (times : Int)) = false := decide_eq_false (by omega)
  go_wp2_with fail
  clear d2 d3 hbd hbr
  have hlt3 := (Array.getElem?_eq_some_iff.1 HG3.out).1
  go_loopg [7, 8] (ss.length + 1) (fun gk tw i wi => ∃ (j : Nat) (ta : Option Addr) (tc : Nat), j + gk = ss.length + 1 ∧ j ≤ ss.length ∧ i = .int .i64 j ∧ tw = .slice ta (againL times (ss.take j)).length tc ∧ Hid (wi.ownsRow w3.heap.size 32 5 (.slice ta (againL times (ss.take j)).length tc) (againL times (ss.take j)).length (flatS (againL times (ss.take j)))) ∧ Hid (Below w3.heap.size w3 wi))
  case atStart => exact ⟨0, none, 0, by omega, by omega, rfl, rfl, Lib.hid (World.ownsRow_nil _ _ _ _), Lib.hid (Below.refl _ _)⟩
  case round =>
    obtain ⟨j, ta, tc, hgk, hj, rfl, rfl, HO, HB⟩ := hrel
    have hg : gk = ss.length + 1 - j := by omega
    subst hg
    by_cases hjl : j < ss.length
    · have d1 : decide ((j : Int) < (ss.length : Int)) = true := decide_eq_true (by omega)
      have hj1 : (j : Int) < (ss.length : Int) := by omega
      have hj0 : (0 : Int) ≤ (j : Int) := by omega
      have HTK : Hid (againL times (ss.take (j + 1)) = againL times (ss.take j) ++ List.replicate (times + 1) ss[j]) := Lib.hid (by rw [List.take_add_one, List.getElem?_eq_getElem hjl]; exact againL_snoc _ _ _)
      have hlen : (againL times (ss.take j)).length ≤ 30 * 6 := by
        rw [againL_len, List.length_take]
        exact Nat.mul_le_mul (by omega) (by omega)
      have HRJ := Lib.hid (fun W (hb : Below w3.heap.size w3 W) => says_at (HR3.out.below hb) hjl)
      generalize hY : ss[j] = y at *
      generalize hL : againL times (ss.take j) = L0 at *
      go_wp2_with fail
      go_loopg [9, 7] (times + 2) (fun gm kv tw wj => ∃ (p : Nat) (ta : Option Addr) (tc : Nat), p + gm = times + 2 ∧ p ≤ times + 1 ∧ kv = .int .u8 p ∧ tw = .slice ta (L0.length + p) tc ∧ Hid (wj.ownsRow w3.heap.size 32 5 (.slice ta (L0.length + p) tc) (L0.length + p) (flatS (L0 ++ List.replicate p y))) ∧ Hid (Below w3.heap.size w3 wj))
      case atStart => exact ⟨0, ta, tc, by omega, by omega, rfl, rfl, Lib.hid (by simpa using HO.out), HB⟩
      case round =>
        obtain ⟨p, ta, tc, hgm, hp, rfl, rfl, HO, HB⟩ := hrel
        rename World => wj
        have hg : gk = times + 2 - p := by omega
        subst hg
        by_cases hpt : p ≤ times
        · have d2 : decide ((p : Int) ≤ (times : Int)) = true := decide_eq_true (by omega)
          have hp1 : (p : Int) ≤ (times : Int) := by omega
          obtain ⟨sg, soff, scap, he, z0, z1, z2, z3, z4⟩ := HRJ.out wj HB.out
          cases he
          have g5 := World.alloc_heap_new wj (.cells #[.int .i64 y.1, .int .i64 y.2.1, .int .i64 y.2.2.1, .bool y.2.2.2.1, .int .u8 y.2.2.2.2] 32)
          have hs := HB.out.size
          go_wp2_with (at_builtin; go_must (refine wpList_pushS rfl _ _ 25 rfl w3.heap.size 32 i0 (.agg #[.int .i64 0, .int .i64 0, .int .i64 0, .bool false, .int .u8 0]) 5 32 Tryz.underlying25 hi hz0 hz1 hz2 rfl (by decide) _ _ _ rfl (HO.out.alloc _) (.slice (some ⟨wj.heap.size, 0, none⟩) 1 1) 1 (sayC y) rfl (rds_rowK 1 5 (l := sayC y) g5 rfl (by decide)) (fun u hu => by unfold sayC at hu; simp only [List.mem_cons, List.not_mem_nil, or_false] at hu; rcases hu with rfl | rfl | rfl | rfl | rfl <;> rfl) (by unfold maxLen; omega) (by omega) (by simp; omega) ?_; intro v' w9 hown' hgrow hfr; obtain ⟨a', c', rfl⟩ := (RdS.of_owns hown').form; have HON := Lib.hid hown'; have HBN := Lib.hid (((Below.refl w3.heap.size wj).alloc hs (.cells #[.int .i64 y.1, .int .i64 y.2.1, .int .i64 y.2.2.1, .bool y.2.2.2.1, .int .u8 y.2.2.2.2] 32)).grown hgrow (by simp; omega) (fun q eq => (World.ownsRow.lt HO.out q eq).1)); clear hown' hgrow hfr))
          go_roundg (times + 2 - (p + 1))
          case measure => omega
          case rel => exact ⟨p + 1, a', c', by omega, by omega, by go_num, rfl, Lib.hid (by rw [List.replicate_succ', ← List.append_assoc, flatS_snoc]; exact HON.out), Lib.hid (HB.out.trans HBN.out)⟩
        · have d2 : decide ((p : Int) ≤ (times : Int)) = false := decide_eq_false (by omega)
          have hp1 : ¬ (p : Int) ≤ (times : Int) := by omega
          obtain rfl : p = times + 1 := by omega
          go_wp2_with fail
          go_roundg (ss.length + 1 - (j + 1))
          case measure => omega
          case rel =>
            have e : (L0 ++ List.replicate (times + 1) y).length = L0.length + (times + 1) := by rw [List.length_append, List.length_replicate]
            exact ⟨j + 1, ta, tc, by omega, by omega, by go_num, by rw [HTK.out, e], Lib.hid (by rw [HTK.out, e]; exact HO.out), HB⟩
    · have d1 : decide ((j : Int) < (ss.length : Int)) = false := decide_eq_false (by omega)
      have hj1 : ¬ (j : Int) < (ss.length : Int) := by omega
      obtain rfl : j = ss.length := by omega
      rw [List.take_length] at HO
      have HDR := Lib.hid (HD3.out.below HB.out)
      have hlen : (againL times ss).length ≤ 1000 := by
        rw [againL_len]
        have := Nat.mul_le_mul (show ss.length ≤ 30 by omega) (show times + 1 ≤ 6 by omega)
        omega
      obtain ⟨p0, p1, p2, -, -, -⟩ := cells3h ((HB.out.block _ hlt3).trans HG3.out)
      have H1 := Lib.hid (Drive_any d _ _ _ ss va vc wr HDR.out HSM.out (by omega) HOK.out (HR3.out.below HB.out))
      have H2 := Lib.hid (fun W hb => Drive_any d _ sa sc (againL times ss) ta tc W (HDR.out.below hb) HSM.out hlen (fun x hx => HOK.out x (againL_mem hx)) (RdS.of_owns (ownsRow_keepB HO.out (fun g hg => hb.block g (HO.out.lt g hg).2))))
      rw [drvD_again] at H2
      obtain ⟨r1, r2, r3⟩ := drvD d ss
      rw [List.take_length]
      generalize (againL times ss).length = nn at *
      go_wp2_with fail
      refine H1.out.mono ?_
      rintro e w5 ⟨rfl, hb5⟩
      have HB5 := Lib.hid hb5
      clear p0 p1 p2
      obtain ⟨p0, p1, p2, -, -, -⟩ := cells3h ((hb5.block _ (by have := HB.out.size; omega)).trans ((HB.out.block _ hlt3).trans HG3.out))
      clear hb5
      go_wp2_with fail
      refine (H2.out w5 HB5.out).mono ?_
      rintro e w6 ⟨rfl, hb6⟩
      have HB6 := Lib.hid hb6
      clear p0 p1 p2 hb6
      go_wp2_with fail
      go_ret
      exact ⟨rfl, HB3.out.trans ((HB.out.trans ((HB5.out.trans (HB6.out.mono HB5.out.size)).mono HB.out.size)).mono HB3.out.size)⟩
end Go.Proofs.YtgfiogjfgbegpaaGreat
