/-
  The law BoundsPoints: walk.
-/
import Derived.Test.YtlakmfhpinljjaaBp50
namespace Go.Proofs.Ytlakmfhpinljjaa
open Go Go.RowKit Go.WideShapes

theorem ptsK_step (all : List StepD) {k : Nat} (hk : k < all.length) : ptsK all k <+: ptsK all (k + 1) := by
  rw [ptsK_succ all hk]
  split
  · exact List.prefix_append _ _
  · exact List.prefix_refl _
theorem ptsK_prefix (all : List StepD) (k : Nat) : ∀ m : Nat, k + m ≤ all.length → ptsK all k <+: ptsK all (k + m)
  | 0, _ => List.prefix_refl _
  | m + 1, h => (ptsK_prefix all k m (by omega)).trans (ptsK_step all (by omega))
theorem ptsK_at (all : List StepD) {k : Nat} (hk : k < all.length) (he : emp all[k] = true) : ∃ h : (ptsK all k).length < (ptsK all all.length).length, (ptsK all all.length)[(ptsK all k).length] = (k : Int) := by
  have h1 := ptsK_prefix all (k + 1) (all.length - (k + 1)) (by omega)
  rw [show k + 1 + (all.length - (k + 1)) = all.length by omega, ptsK_succ all hk, if_pos he] at h1
  have hl := h1.length_le
  rw [List.length_append, List.length_singleton] at hl
  refine ⟨by omega, ?_⟩
  have h2 := h1.getElem (i := (ptsK all k).length) (by simp)
  rw [← h2]
  simp
theorem or_ge {x n : Int} {b : Bool} {y : DiagD} (h : noteL [] (!(decide (n ≤ x) && b)) y = []) : n ≤ x := by
  unfold noteL at h
  split at h
  · simp at h
  · rename_i h1
    simp at h1
    exact h1.1
theorem range_none {i : Nat} {s : StepD} (h : rangeL i s [] = []) : 1 ≤ or0 s.most 1 ∧ 0 ≤ s.first ∧ 1 ≤ or0 s.factor 1 ∧ 1 ≤ or0 s.limit 100 := by
  have key : ∀ (l : List DiagD) (b : Bool) (y : DiagD), noteL l b y = [] → l = [] ∧ noteL [] b y = [] := by
    intro l b y h
    cases b with
    | true => simp [noteL] at h
    | false => exact ⟨h, rfl⟩
  unfold rangeL at h
  obtain ⟨h3, h4⟩ := key _ _ _ h
  obtain ⟨h2, h3⟩ := key _ _ _ h3
  obtain ⟨h1, h2⟩ := key _ _ _ h2
  exact ⟨or_ge h1, or_ge h2, or_ge h3, or_ge h4⟩
theorem sort_none {l : List DiagD} (h : ¬ 0 < (sortD l).length) : l = [] := by
  cases l with
  | nil => rfl
  | cons x l =>
    have := (sortD_mem (x :: l) x).2 (by simp)
    have h0 : sortD (x :: l) = [] := List.eq_nil_of_length_eq_zero (by omega)
    rw [h0] at this
    cases this
/-- Where nothing is wrong. -/
theorem fine_nums {all : List StepD} (h : chkU all all.length (chkR 0 all []) = []) : ∀ (i : Nat) (hi : i < all.length), 1 ≤ or0 all[i].most 1 ∧ 0 ≤ all[i].first ∧ 1 ≤ or0 all[i].factor 1 ∧ 1 ≤ or0 all[i].limit 100 := by
  intro i hi
  refine range_none (i := i) (List.eq_nil_iff_forall_not_mem.2 fun y hy => ?_)
  have : y ∈ chkU all all.length (chkR 0 all []) := by
    rw [chkU_mem, chkR_mem]
    exact .inl (.inr ⟨i, all[i], List.getElem?_eq_getElem hi, by rwa [Nat.zero_add]⟩)
  rw [h] at this
  cases this
theorem fine_undo {all : List StepD} (h : chkU all all.length (chkR 0 all []) = []) (i : Nat) (hi : i < all.length) (n : Nat) (hn : n < all.length) (hm : (n : Int) ∈ depsD all i all[i]) (he : emp all[n] = true) : emp all[i] = true := by
  cases h1 : emp all[i] with
  | true => rfl
  | false =>
    have : ((n : Int), 19, all[n].name) ∈ chkU all all.length (chkR 0 all []) := by
      rw [chkU_mem]
      exact .inr ⟨i, all[i], (n : Int), all[n], hi, List.getElem?_eq_getElem hi, h1, hm, by rw [Int.toNat_natCast]; exact List.getElem?_eq_getElem hn, he, rfl⟩
    rw [h] at this
    cases this

set_option maxRecDepth 100000 in
set_option maxHeartbeats 8000000 in
theorem BoundsPoints_any (d : DefD) (sa : Option Addr) (sc : Nat) (w : World) (h : DefR w [.string d.name, .string d.text, .slice sa d.steps.length sc] d sa sc) :
    Calls Try.prog 10 #[.agg #[.string d.name, .string d.text, .slice sa d.steps.length sc]] w fun e w' => e = .returned (.bool true) ∧ Below w.heap.size w w' := by
  have hb0 := (Below.refl w.heap.size w).alloc (Nat.le_refl _) (.cells #[.string d.name, .string d.text, .slice sa d.steps.length sc] 24)
  have HD := Lib.hid (h.below hb0)
  have HG := Lib.hid (World.alloc_heap_new w (.cells #[.string d.name, .string d.text, .slice sa d.steps.length sc] 24))
  clear h
  go_enter Try.func10, Try.ntmps10
  go_upto_region 1 with fail
  generalize w.alloc (.cells #[.string d.name, .string d.text, .slice sa d.steps.length sc] 24) = w0 at *
  have HB0 := Lib.hid hb0
  have hlt := (Array.getElem?_eq_some_iff.1 HG.out).1
  clear hb0
  go_wp2_with fail
  refine (live27_any _).mono ?_
  rintro e w1 ⟨rfl, hb1⟩
  have HB1 := Lib.hid (bthen HB0.out (Nat.le_refl _) hb1)
  have HD1 := Lib.hid (HD.out.below hb1)
  have HG1 := Lib.hid ((hb1.block _ hlt).trans HG.out)
  obtain ⟨q0, q1, q2, -, -, -⟩ := cells3h HG1.out
  clear hb1
  go_wp2_with fail
  refine (rdSmall_any d _ _ _ w1 HD1.out).mono ?_
  rintro e w2 ⟨rfl, hb2⟩
  clear q0 q1 q2
  have HB2 := Lib.hid (bthen HB1.out (Nat.le_refl _) hb2)
  have HD2 := Lib.hid (HD1.out.below hb2)
  have hlt1 := (Array.getElem?_eq_some_iff.1 HG1.out).1
  have HG2 := Lib.hid ((hb2.block _ hlt1).trans HG1.out)
  obtain ⟨q0, q1, q2, -, -, -⟩ := cells3h HG2.out
  clear hb2
  rcases hsm : smallDef d with _ | _
  · clear hsm
    go_wp2
    go_ret
    exact ⟨rfl, HB2.out⟩
  have HSM := Lib.hid (smallDef_of hsm)
  clear hsm
  have hst : d.steps.length ≤ 100 := Nat.le_trans HSM.out.steps (by decide)
  have haf : ∀ s ∈ d.steps, s.after.length ≤ 100 := fun s hs => Nat.le_trans (HSM.out.each s hs).after (by decide)
  have hrf : (refsF d.steps 0 d.steps).length ≤ 1000000 := by
    have := refsF_len d.steps d.steps 0 haf
    have : d.steps.length * 100 ≤ 100 * 100 := Nat.mul_le_mul_right _ hst
    omega
  have HOK := Lib.hid (chk_ok HSM.out)
  have HAF := Lib.hid haf
  have hpl := ptsK_len d.steps d.steps.length
  clear haf
  go_wp2_with fail
  refine (Points_any d _ _ _ _ HD2.out (by omega)).mono ?_
  rintro e w3 ⟨pv, rfl, hrd, hb3⟩
  have HB3 := Lib.hid (bthen HB2.out (Nat.le_refl _) hb3)
  have HD3 := Lib.hid (HD2.out.below hb3)
  have hlt2 := (Array.getElem?_eq_some_iff.1 HG2.out).1
  have HG3 := Lib.hid ((hb3.block _ hlt2).trans HG2.out)
  obtain ⟨pa, pc, rfl⟩ := hrd.form
  have HRD := Lib.hid hrd
  obtain ⟨q0, q1, q2, -, -, -⟩ := cells3h HG3.out
  obtain ⟨_, hnm, htx, hva⟩ := HD3.out
  obtain ⟨_, _, he1, hl1, hl2⟩ := hva.form
  cases he1
  have HV3 := Lib.hid hva
  clear hb3 hrd hva
  go_wp2_with fail
  go_loopg [5, 4] (d.steps.length + 1) (fun gk i v wr => ∃ k : Nat, k + gk = d.steps.length + 1 ∧ k ≤ d.steps.length ∧ i = .int .i64 k ∧ v = .int .i64 ((ptsK d.steps k).length : Nat) ∧ wr = w3)
  case atStart => exact ⟨0, by omega, by omega, rfl, rfl, rfl⟩
  case round =>
    obtain ⟨k, hgk, hk, rfl, rfl, rfl⟩ := hrel
    have hg : gk = d.steps.length + 1 - k := by omega
    subst hg
    have hpk := ptsK_len d.steps k
    by_cases hkl : k < d.steps.length
    · have d1 : decide ((k : Int) < (d.steps.length : Int)) = true := decide_eq_true (by omega)
      have hk1 : (k : Int) < (d.steps.length : Int) := by omega
      obtain ⟨g, off, cap, aa1, ac1, ka1, kc1, ba1, bc1, he, -, -, hns0, -, -, z2, -⟩ := HV3.out.at hkl
      cases he
      have hem : emp d.steps[k] = d.steps[k].undo.toList.isEmpty := rfl
      have HPS := Lib.hid (ptsK_succ d.steps hkl)
      have HPA := Lib.hid (fun h => ptsK_at d.steps hkl h)
      clear hns0
      generalize d.steps[k] = s at *
      generalize heb : s.undo.toList.isEmpty = eb at *
      cases eb with
      | false =>
        have HE : Hid (ptsK d.steps (k + 1) = ptsK d.steps k) := Lib.hid (by rw [HPS.out, hem]; rfl)
        clear hem
        go_wp2_with fail
        go_roundg (d.steps.length + 1 - (k + 1))
        case measure => omega
        case rel => exact ⟨k + 1, by omega, by omega, by go_num, by rw [HE.out], rfl⟩
      | true =>
        have HE : Hid (ptsK d.steps (k + 1) = ptsK d.steps k ++ [(k : Int)]) := Lib.hid (by rw [HPS.out, hem]; rfl)
        obtain ⟨hlp, hat⟩ := HPA.out hem
        obtain ⟨pg, po, rfl, -, -, y0⟩ := ints_at HRD.out hlp
        rw [hat] at y0
        have hlp1 : ((ptsK d.steps k).length : Int) < ((ptsK d.steps d.steps.length).length : Int) := by omega
        have d2 : decide (((ptsK d.steps d.steps.length).length : Int) ≤ ((ptsK d.steps k).length : Int)) = false := decide_eq_false (by omega)
        clear hem hat HPA
        obtain ⟨pn, hpn⟩ : ∃ pn, (ptsK d.steps k).length = pn := ⟨_, rfl⟩
        have HPN := Lib.hid hpn
        rw [hpn] at y0 hlp1 d2 hpk
        rw [hpn]
        clear hpn
        generalize (ptsK d.steps d.steps.length).length = pl at *
        go_wp2_with fail
        go_roundg (d.steps.length + 1 - (k + 1))
        case measure => omega
        case rel =>
          have hx : (ptsK d.steps (k + 1)).length = pn + 1 := by rw [HE.out, List.length_append, HPN.out]; rfl
          exact ⟨k + 1, by omega, by omega, by go_num, by rw [hx]; go_num, rfl⟩
    have d1 : decide ((k : Int) < (d.steps.length : Int)) = false := decide_eq_false (by omega)
    have hk1 : ¬ (k : Int) < (d.steps.length : Int) := by omega
    have hke : k = d.steps.length := by omega
    subst hke
    clear hgk hk hpk hkl
    have hwr : IntKind.i64.wrap ((d.steps.length : Int) - ((ptsK d.steps d.steps.length).length : Int)) = (d.steps.length : Int) - ((ptsK d.steps d.steps.length).length : Int) := IntWalk.i64_in _ (by omega)
    go_upto_region 14 with fail
    go_cut [58] (fun s58 wx => s58 = .bool false ∧ Below wr.heap.size wr wx)
    case first =>
      refine E_region (S := (fun W => W.cell? ⟨w.heap.size, 0, none⟩ = some (.string d.name) ∧ W.cell? ⟨w.heap.size, 1, none⟩ = some (.string d.text) ∧ W.cell? ⟨w.heap.size, 2, none⟩ = some (.slice sa d.steps.length sc))) 12 (by kernel_rfl) ⟨q0, q1, q2⟩ (fun _ _ _ _ _ h => h) (fun Q' hQ hK' hHeld => ?_)
      refine E_take0 hQ (fun _ => hHeld) 0 (v := ?ev1) rfl rfl (by kernel_rfl) (by kernel_rfl) (by kernel_rfl) (by decide) (by rfl) ?ey1 ?er1
      case ey1 => (intro w; go_simp; (try with_reducible rfl))
      (try simp only [Act.put, List.setIfInBounds_toArray, List.set_cons_zero, List.set_cons_succ])
      refine E_take0 hQ (fun _ => hHeld) 1 (v := ?ev2) rfl rfl (by kernel_rfl) (by kernel_rfl) (by kernel_rfl) (by decide) (by rfl) ?ey2 ?er2
      case ey2 => (intro w; go_simp; (try with_reducible rfl))
      (try simp only [Act.put, List.setIfInBounds_toArray, List.set_cons_zero, List.set_cons_succ])
      refine E_take0 hQ (fun _ => hHeld) 2 (v := ?ev3) rfl rfl (by kernel_rfl) (by kernel_rfl) (by kernel_rfl) (by decide) (by rfl) ?ey3 ?er3
      case ey3 => (intro w; go_simp; (try with_reducible rfl))
      (try simp only [Act.put, List.setIfInBounds_toArray, List.set_cons_zero, List.set_cons_succ])
      refine E_take0 hQ (fun _ => hHeld) 3 (v := ?ev4) rfl rfl (by kernel_rfl) (by kernel_rfl) (by kernel_rfl) (by decide) (by rfl) ?ey4 ?er4
      case ey4 => (intro w; go_simp; (try with_reducible rfl))
      (try simp only [Act.put, List.setIfInBounds_toArray, List.set_cons_zero, List.set_cons_succ])
      refine E_take0 hQ (fun _ => hHeld) 4 (v := ?ev5) rfl rfl (by kernel_rfl) (by kernel_rfl) (by kernel_rfl) (by decide) (by rfl) ?ey5 ?er5
      case ey5 => (intro w; go_simp; (try with_reducible rfl))
      (try simp only [Act.put, List.setIfInBounds_toArray, List.set_cons_zero, List.set_cons_succ])
      refine E_take hQ hHeld 5 (v := ?ev6) rfl rfl (by kernel_rfl) (by kernel_rfl) (by kernel_rfl) (by kernel_rfl) (by kernel_rfl) (by rfl) ?ey6 ?er6
      case ey6 => (intro w hSw; (try dsimp only at hSw); go_simp; (try with_reducible rfl))
      (try simp only [Act.put, List.setIfInBounds_toArray, List.set_cons_zero, List.set_cons_succ])
      refine E_take0 hQ (fun _ => hHeld) 7 (v := ?ev7) rfl rfl (by kernel_rfl) (by kernel_rfl) (by kernel_rfl) (by decide) (by rfl) ?ey7 ?er7
      case ey7 => (intro w; go_simp; (try with_reducible rfl))
      (try simp only [Act.put, List.setIfInBounds_toArray, List.set_cons_zero, List.set_cons_succ])
      refine E_take hQ hHeld 8 (v := ?ev8) rfl rfl (by kernel_rfl) (by kernel_rfl) (by kernel_rfl) (by kernel_rfl) (by kernel_rfl) (by rfl) ?ey8 ?er8
      case ey8 => (intro w hSw; (try dsimp only at hSw); go_simp; (try with_reducible rfl))
      (try simp only [Act.put, List.setIfInBounds_toArray, List.set_cons_zero, List.set_cons_succ])
      refine E_take0 hQ (fun _ => hHeld) 9 (v := ?ev9) rfl rfl (by kernel_rfl) (by kernel_rfl) (by kernel_rfl) (by decide) (by rfl) ?ey9 ?er9
      case ey9 => (intro w; go_simp; (try with_reducible rfl))
      (try simp only [Act.put, List.setIfInBounds_toArray, List.set_cons_zero, List.set_cons_succ])
      refine E_take0 hQ (fun _ => hHeld) 10 (v := ?ev10) rfl rfl (by kernel_rfl) (by kernel_rfl) (by kernel_rfl) (by decide) (by rfl) ?ey10 ?er10
      case ey10 => (intro w; go_simp; (try with_reducible rfl))
      (try simp only [Act.put, List.setIfInBounds_toArray, List.set_cons_zero, List.set_cons_succ])
      refine E_take0 hQ (fun _ => hHeld) 11 (v := ?ev11) rfl rfl (by kernel_rfl) (by kernel_rfl) (by kernel_rfl) (by decide) (by rfl) ?ey11 ?er11
      case ey11 => (intro w; go_simp; (try with_reducible rfl))
      (try simp only [Act.put, List.setIfInBounds_toArray, List.set_cons_zero, List.set_cons_succ])
      refine E_one 6 (by kernel_rfl) rfl (by rfl) (fun K hK => ?_)
      go_simp
      refine (Steps_any d _ _ _ _ (HD3.out.below ((Below.refl _ _).drew)) (by omega)).mono ?_
      rintro e W6 ⟨rfl, hb6⟩
      have HB6 := Lib.hid hb6
      clear hb6
      refine hK.out _ _ (fun _ _ => ⟨cellB HB6.out hHeld.1, cellB HB6.out hHeld.2.1, cellB HB6.out hHeld.2.2⟩) (fun hHeld' => ?_)
      replace hHeld := hHeld' (by rfl) (by decide)
      clear hK hHeld'
      (try simp only [Act.put, List.setIfInBounds_toArray, List.set_cons_zero, List.set_cons_succ])
      refine E_one 12 (by kernel_rfl) rfl (by rfl) (fun K hK => ?_)
      go_simp
      (try simp only [Act.put, List.setIfInBounds_toArray, List.set_cons_zero, List.set_cons_succ])
      refine hK.out _ _ (fun _ h => absurd rfl h) (fun _ => ?_)
      clear hK hHeld
      (try simp only [Act.put, List.setIfInBounds_toArray, List.set_cons_zero, List.set_cons_succ])
      refine E_take0 hQ (fun h => absurd h (by decide)) 13 (v := ?ev12) rfl rfl (by kernel_rfl) (by kernel_rfl) (by kernel_rfl) (by decide) (by rfl) ?ey12 ?er12
      case ey12 => (intro w; go_simp; (try with_reducible rfl))
      (try simp only [Act.put, List.setIfInBounds_toArray, List.set_cons_zero, List.set_cons_succ])
      refine E_done (by kernel_rfl) ?_ _
      refine hK'.out _ _ ?_
      go_wp2_with fail
      go_meet
      exact ⟨rfl, ((Below.refl _ wr).drew).trans HB6.out⟩
    case rest =>
    obtain ⟨rfl, hbx⟩ := hcut
    generalize wc = w4 at *
    have HB4 := Lib.hid (bthen HB3.out (Nat.le_refl _) hbx)
    have HD4 := Lib.hid (HD3.out.below hbx)
    have hlt3 := (Array.getElem?_eq_some_iff.1 HG3.out).1
    have HG4 := Lib.hid ((hbx.block _ hlt3).trans HG3.out)
    clear hbx q0 q1 q2
    obtain ⟨q0, q1, q2, -, -, -⟩ := cells3h HG4.out
    go_wp2_with fail
    refine (bCheck_any d _ _ _ _ HD4.out hst HAF.out hrf HOK.out).mono ?_
    rintro e w5 ⟨ua, uc, rfl, hdg, hb5⟩
    have HB5 := Lib.hid (bthen HB4.out (Nat.le_refl _) hb5)
    have HBW5 := Lib.hid HB5.out
    have HD5 := Lib.hid (HD4.out.below hb5)
    have hlt4 := (Array.getElem?_eq_some_iff.1 HG4.out).1
    have HG5 := Lib.hid ((hb5.block _ hlt4).trans HG4.out)
    clear hdg hb5 q0 q1 q2
    obtain ⟨q0, q1, q2, -, -, -⟩ := cells3h HG5.out
    by_cases hno : 0 < (sortD (chkU d.steps d.steps.length (chkR 0 d.steps []))).length
    · have d3 : decide ((0 : Int) < ((sortD (chkU d.steps d.steps.length (chkR 0 d.steps []))).length : Int)) = true := decide_eq_true (by omega)
      go_wp2_with fail
      go_ret
      exact ⟨rfl, HBW5.out⟩
    have d3 : decide ((0 : Int) < ((sortD (chkU d.steps d.steps.length (chkR 0 d.steps []))).length : Int)) = false := decide_eq_false (by omega)
    have HNONE := Lib.hid (sort_none hno)
    have HNUM := Lib.hid (fine_nums HNONE.out)
    have HUND := Lib.hid (fine_undo HNONE.out)
    generalize (sortD (chkU d.steps d.steps.length (chkR 0 d.steps []))).length = sl at *
    have hz : sl = 0 := by omega
    subst hz
    clear d3
    go_wp2_with fail
    refine (nRefs_any d _ _ _ _ HD5.out (by omega) hrf).mono ?_
    rintro e w6 ⟨rv, rfl, hr6, hb6⟩
    obtain ⟨ra, rc, rfl⟩ := hr6.form
    have HR6 := Lib.hid hr6
    have HB6 := Lib.hid (bthen HB5.out (Nat.le_refl _) hb6)
    have HD6 := Lib.hid (HD5.out.below hb6)
    have hlt5 := (Array.getElem?_eq_some_iff.1 HG5.out).1
    have HG6 := Lib.hid ((hb6.block _ hlt5).trans HG5.out)
    have HV6 : Hid (StepsR w6 (.slice sa d.steps.length sc) d.steps) := Lib.hid HD6.out.steps
    have hdl := depsA_len d.steps d.steps 0
    rw [hdl]
    clear hr6 hb6 q0 q1 q2
    go_wp2_with fail
    have hlt6 := (Array.getElem?_eq_some_iff.1 HG6.out).1
    go_loopg [7] (d.steps.length + 1) (fun gk i wi => ∃ k : Nat, k + gk = d.steps.length + 1 ∧ k ≤ d.steps.length ∧ i = .int .i64 k ∧ Hid (Below w6.heap.size w6 wi))
    case atStart => exact ⟨0, by omega, by omega, rfl, Lib.hid (Below.refl _ _)⟩
    case round =>
      obtain ⟨k, hgk, hk, rfl, HBI⟩ := hrel
      rename World => wi
      have hg : gk = d.steps.length + 1 - k := by omega
      subst hg
      obtain ⟨q0, q1, q2, -, -, -⟩ := cells3h ((HBI.out.block _ hlt6).trans HG6.out)
      by_cases hkl : k < d.steps.length
      · have d1 : decide ((k : Int) < (d.steps.length : Int)) = true := decide_eq_true (by omega)
        have hk1 : (k : Int) < (d.steps.length : Int) := by omega
        obtain ⟨g, off, cap, aa1, ac1, ka1, kc1, ba1, bc1, he, -, -, hns0, z0, z1, z2, z3, z4, z5, z6, z7, z8, z9, z10, z11, z12⟩ := (HV6.out.below HBI.out).at hkl
        cases he
        obtain ⟨g3, off3, cap3, aa3, ac3, ka3, kc3, ba3, bc3, he, -, -, -, -, -, u2, -⟩ := HV6.out.at hkl
        cases he
        have hri : k < (depsA d.steps 0 d.steps).length := by rw [hdl]; exact hkl
        have hrk : (depsA d.steps 0 d.steps)[k] = depsD d.steps k d.steps[k] := by have := depsA_get d.steps d.steps 0 k hkl; rw [List.getElem?_eq_getElem hri] at this; simpa using this
        obtain ⟨rg, ro, ra2, rc2, rfl, -, -, y0, hrow⟩ := HR6.out.at hri
        rw [hrk] at y0 hrow
        obtain ⟨n1, n2, n3, n4⟩ := HNUM.out k hkl
        have HU := Lib.hid (HUND.out k hkl)
        have hrl : (depsD d.steps k d.steps[k]).length ≤ 100 := Nat.le_trans (depsD_len d.steps k d.steps[k]) (HAF.out _ (List.getElem_mem hkl))
        have HIN := Lib.hid (depsD_in d.steps k d.steps[k])
        have HEM : Hid (emp d.steps[k] = d.steps[k].undo.toList.isEmpty) := Lib.hid rfl
        have HY0 := Lib.hid y0
        have HROW := Lib.hid hrow
        have HU2 := Lib.hid u2
        clear hns0 hrk y0 hrow u2
        generalize depsD d.steps k d.steps[k] = row at *
        generalize d.steps[k] = s at *
        have hR := Real_any s.name s.action s.undo aa1 s.after.length ac1 s.most s.first s.factor s.limit (s.note.kind : Int) s.note.text ka1 s.note.keys.length kc1 ba1 s.note.kids.length bc1 s.note.line wi
        unfold stepV at hR
        have HRL := Lib.hid hR
        clear hR
        go_wp2_with fail
        refine HRL.out.mono ?_
        rintro e w7 ⟨rfl, hb7⟩
        have HB7 := Lib.hid (bthen HBI.out (Nat.le_refl _) hb7)
        generalize or0 s.most 1 = m at *
        generalize or0 s.factor 1 = fa at *
        generalize or0 s.limit 100 = lm at *
        generalize s.first = fi at *
        clear z0 z1 z2 z3 z4 z5 z6 z7 z8 z9 z10 z11 z12 q0 q1 q2 hb7
        go_upto_region 23 with fail
        have hx := World.alloc_heap_new w7 (.cells #[.string s.name, .string s.action, .string s.undo, .slice aa1 s.after.length ac1, .int .i64 m, .int .i64 fi, .int .i64 fa, .int .i64 lm, .int .u8 (s.note.kind : Int), .string s.note.text, .slice ka1 s.note.keys.length kc1, .slice ba1 s.note.kids.length bc1, .int .i64 s.note.line] 45)
        have hbx : Below w7.heap.size w7 (w7.alloc (.cells #[.string s.name, .string s.action, .string s.undo, .slice aa1 s.after.length ac1, .int .i64 m, .int .i64 fi, .int .i64 fa, .int .i64 lm, .int .u8 (s.note.kind : Int), .string s.note.text, .slice ka1 s.note.keys.length kc1, .slice ba1 s.note.kids.length bc1, .int .i64 s.note.line] 45)) := (Below.refl _ _).alloc (Nat.le_refl _) _
        have HB8 := Lib.hid (bthen HB7.out (by have := HB7.out.size; exact Nat.le_refl _) hbx)
        generalize (w7.alloc (.cells #[.string s.name, .string s.action, .string s.undo, .slice aa1 s.after.length ac1, .int .i64 m, .int .i64 fi, .int .i64 fa, .int .i64 lm, .int .u8 (s.note.kind : Int), .string s.note.text, .slice ka1 s.note.keys.length kc1, .slice ba1 s.note.kids.length bc1, .int .i64 s.note.line] 45)) = w8 at *
        obtain ⟨-, -, -, -, z4, z5, z6, z7, -⟩ := cells13q hx
        clear hx hbx
        have e1 : decide (m < 1) = false := decide_eq_false (by omega)
        have e2 : decide (fa < 1) = false := decide_eq_false (by omega)
        have e3 : decide (lm < 1) = false := decide_eq_false (by omega)
        have e4 : decide (fi < 0) = false := decide_eq_false (by omega)
        go_wp2_with fail
        clear z4 z5 z6 z7 e1 e2 e3 e4
        go_loopg [9] (row.length + 1) (fun gk i wj => ∃ j : Nat, j + gk = row.length + 1 ∧ j ≤ row.length ∧ i = .int .i64 j ∧ Hid (Below w6.heap.size w6 wj))
        case atStart => exact ⟨0, by omega, by omega, rfl, HB8⟩
        case round =>
          obtain ⟨j, hgj, hj, rfl, HBJ⟩ := hrel
          rename World => wj
          have hg : gk = row.length + 1 - j := by omega
          subst hg
          have y0 := cellB HBJ.out HY0.out
          obtain ⟨q0, q1, q2, -, -, -⟩ := cells3h ((HBJ.out.block _ hlt6).trans HG6.out)
          by_cases hjl : j < row.length
          · have d2 : decide ((j : Int) < (row.length : Int)) = true := decide_eq_true (by omega)
            have hj1 : (j : Int) < (row.length : Int) := by omega
            obtain ⟨rg2, ro2, rfl, -, -, x0⟩ := ints_at (HROW.out.below HBJ.out) hjl
            obtain ⟨n, hn, hnl⟩ := HIN.out _ (List.getElem_mem hjl)
            have hmem := List.getElem_mem hjl
            rw [hn] at x0 hmem
            have hn1 : (n : Int) < (d.steps.length : Int) := by omega
            obtain ⟨g4, off4, cap4, aa4, ac4, ka4, kc4, ba4, bc4, he, -, -, hns4, -, -, t2, -⟩ := (HV6.out.below HBJ.out).at hnl
            cases he
            have u2 := cellB HBJ.out HU2.out
            have HUN := Lib.hid (HU.out n hnl hmem)
            have hem4 : emp d.steps[n] = d.steps[n].undo.toList.isEmpty := rfl
            clear hns4 hn hmem
            generalize d.steps[n] = t at *
            cases het : t.undo.toList.isEmpty with
            | false =>
              clear hem4
              go_wp2_with fail
              go_quiet (fail)
              clear q0 q1 q2 y0 x0 t2 u2
              go_wp2_with fail
              go_roundg (row.length + 1 - (j + 1))
              case measure => omega
              case rel => exact ⟨j + 1, by omega, by omega, by go_num, Lib.hid (belowN HBJ.out nq)⟩
            | true =>
              have hes : s.undo.toList.isEmpty = true := by rw [← HEM.out]; exact HUN.out (by rw [hem4, het])
              clear hem4
              go_wp2_with fail
              go_quiet (fail)
              clear q0 q1 q2 y0 x0 t2 u2
              go_wp2_with fail
              go_roundg (row.length + 1 - (j + 1))
              case measure => omega
              case rel => exact ⟨j + 1, by omega, by omega, by go_num, Lib.hid (belowN HBJ.out nq)⟩
          · have d2 : decide ((j : Int) < (row.length : Int)) = false := decide_eq_false (by omega)
            have hj1 : ¬ (j : Int) < (row.length : Int) := by omega
            go_wp2_with fail
            go_roundg (d.steps.length + 1 - (k + 1))
            case measure => omega
            case rel => exact ⟨k + 1, by omega, by omega, by go_num, HBJ⟩
      · have d1 : decide ((k : Int) < (d.steps.length : Int)) = false := decide_eq_false (by omega)
        have hk1 : ¬ (k : Int) < (d.steps.length : Int) := by omega
        have HBF := Lib.hid (bthen HB6.out (Nat.le_refl _) HBI.out)
        go_wp2_with fail
        go_ret
        exact ⟨rfl, HBF.out⟩
end Go.Proofs.Ytlakmfhpinljjaa
