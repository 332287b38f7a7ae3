/-
  The law NamesRefs: walk; definitions' lists are right.
-/
import Derived.Test.YtbnggfhofdpdcaaBq55
import Derived.Test.YtbnggfhofdpdcaaBq57
import Derived.Test.YtbnggfhofdpdcaaBq58
namespace Go.Proofs.Ytbnggfhofdpdcaa
open Go Go.RowKit Go.WideShapes

theorem names_ok {d : DefD} (hs : SmallD d) : ∀ x ∈ rChkN d.steps 0 d.steps (headN d), OkG x := by
  have hn : ∀ (l : List DiagD) (b : Bool) (x : DiagD), (∀ y ∈ l, OkG y) → OkG x → ∀ y ∈ noteL l b x, OkG y := fun l b x h1 h2 y hy => by
    rcases (noteL_mem l b x y).1 hy with h | ⟨-, rfl⟩
    · exact h1 y h
    · exact h2
  have ok : ∀ (st er : Int) (tx : ByteArray), I64w st → I64w er → tx.size ≤ 200 → OkG (st, er, tx) := fun st er tx h1 h2 h3 => ⟨h1, h2, by show tx.size ≤ maxLen; unfold maxLen; omega⟩
  have hrows : ∀ (i : Nat) (s : StepD), i ≤ 30 → s.name.size ≤ 200 → ∀ (r seen : List ByteArray) (l : List DiagD), (∀ a ∈ r, a.size ≤ 200) → (∀ y ∈ l, OkG y) → ∀ y ∈ rowsN d.steps i s seen r l, OkG y := by
    intro i s hi hn1 r
    induction r with
    | nil => intro seen l _ h; exact h
    | cons a r ih =>
      intro seen l ha h
      have ha0 := ha a (by simp)
      refine ih _ _ (fun b hb => ha b (by simp [hb])) ?_
      unfold rowN
      exact hn _ _ _ (hn _ _ _ (hn _ _ _ h (ok _ _ _ (by unfold I64w; omega) (by unfold I64w; omega) ha0)) (ok _ _ _ (by unfold I64w; omega) (by unfold I64w; omega) hn1)) (ok _ _ _ (by unfold I64w; omega) (by unfold I64w; omega) ha0)
  have hall : ∀ (r : List StepD) (i : Nat) (l : List DiagD), i + r.length ≤ 30 → (∀ s ∈ r, SmallS s) → (∀ y ∈ l, OkG y) → ∀ y ∈ rChkN d.steps i r l, OkG y := by
    intro r
    induction r with
    | nil => intro i l _ _ h; exact h
    | cons s r ih =>
      intro i l hi hs h
      rw [List.length_cons] at hi
      have hs0 := hs s (by simp)
      refine ih _ _ (by omega) (fun t ht => hs t (by simp [ht])) (hrows i s (by omega) hs0.name _ _ _ hs0.aft ?_)
      unfold stepN
      exact hn _ _ _ (hn _ _ _ (hn _ _ _ (hn _ _ _ h (ok _ _ _ (by unfold I64w; omega) (by unfold I64w; omega) hs0.name)) (ok _ _ _ (by unfold I64w; omega) (by unfold I64w; omega) hs0.action)) (ok _ _ _ (by unfold I64w; omega) (by unfold I64w; omega) hs0.undo)) (ok _ _ _ (by unfold I64w; omega) (by unfold I64w; omega) hs0.name)
  refine hall d.steps 0 _ (by have := hs.steps; omega) hs.each ?_
  unfold headN
  exact hn _ _ _ (hn _ _ _ (fun y hy => by cases hy) (ok _ _ _ (by unfold I64w; omega) (by unfold I64w; omega) (by decide))) (ok _ _ _ (by unfold I64w; omega) (by unfold I64w; omega) hs.name)
theorem chkN_ok {d : DefD} (hs : SmallD d) : ∀ x ∈ chkN d, OkG x := by
  intro x hx
  have := (sortD_mem _ x).2 hx
  rw [← names_alike] at this
  exact names_ok hs x ((sortD_mem _ x).1 this)
theorem refs_few {d : DefD} (hs : SmallD d) : (refsF d.steps 0 d.steps).length ≤ 10000 := by
  have h1 := refsF_len d.steps (m := 70) d.steps 0 (fun s h => (hs.each s h).after)
  have h2 : d.steps.length * 70 ≤ 30 * 70 := Nat.mul_le_mul_right _ hs.steps
  omega
theorem chkN_few {d : DefD} (hs : SmallD d) : (chkN d).length ≤ 100000 := by
  unfold chkN
  have h1 := refsN_len d.steps (refsF d.steps 0 d.steps) [] (stepsN d.steps 0 d.steps (headN d))
  have h2 := stepsN_len d.steps d.steps 0 (headN d)
  have h3 := headN_len d
  have h4 := refs_few hs
  have h5 := hs.steps
  omega

set_option maxRecDepth 100000 in
set_option maxHeartbeats 8000000 in
theorem NamesRefs_any (d : DefD) (sa : Option Addr) (sc : Nat) (w : World) (h : DefR w [.string d.name, .string d.text, .slice sa d.steps.length sc] d sa sc) :
    Calls Try.prog 6 #[.agg #[.string d.name, .string d.text, .slice sa d.steps.length sc]] w fun e w' => e = .returned (.bool true) ∧ Below w.heap.size w w' := by
  have hb0 := (Below.refl w.heap.size w).alloc (Nat.le_refl _) (.cells #[.string d.name, .string d.text, .slice sa d.steps.length sc] 24)
  have HD := Lib.hid (h.below hb0)
  have HG := Lib.hid (World.alloc_heap_new w (.cells #[.string d.name, .string d.text, .slice sa d.steps.length sc] 24))
  clear h
  go_enter Try.func6, Try.ntmps6
  go_upto_region 1 with fail
  generalize w.alloc (.cells #[.string d.name, .string d.text, .slice sa d.steps.length sc] 24) = w0 at *
  have HB0 := Lib.hid hb0
  have hlt := (Array.getElem?_eq_some_iff.1 HG.out).1
  clear hb0
  go_wp2_with fail
  refine (live25_any _).mono ?_
  rintro e w1 ⟨rfl, hb1⟩
  have HB1 := Lib.hid (bthen HB0.out (Nat.le_refl _) hb1)
  have HD1 := Lib.hid (HD.out.below hb1)
  have HG1 := Lib.hid ((hb1.block _ hlt).trans HG.out)
  obtain ⟨q0, q1, q2, -, -, -⟩ := cells3h HG1.out
  clear hb1
  go_wp2_with fail
  refine (rdSmall_any d _ _ _ w1 HD1.out).mono ?_
  rintro e w2 ⟨rfl, hb2⟩
  clear q0 q1 q2
  have HB2 := Lib.hid (bthen HB1.out (Nat.le_refl _) hb2)
  have HD2 := Lib.hid (HD1.out.below hb2)
  have hlt1 := (Array.getElem?_eq_some_iff.1 HG1.out).1
  have HG2 := Lib.hid ((hb2.block _ hlt1).trans HG1.out)
  obtain ⟨q0, q1, q2, -, -, -⟩ := cells3h HG2.out
  clear hb2
  rcases hsm : smallDef d with _ | _
  · clear hsm
    go_wp2
    go_ret
    exact ⟨rfl, HB2.out⟩
  have HSM := Lib.hid (smallDef_of hsm)
  clear hsm
  have hst : d.steps.length ≤ 30 := HSM.out.steps
  have haf : ∀ s ∈ d.steps, s.after.length ≤ 1000000 := fun s hs => Nat.le_trans (HSM.out.each s hs).after (by decide)
  have hrf : (refsF d.steps 0 d.steps).length ≤ 1000000 := Nat.le_trans (refs_few HSM.out) (by decide)
  have hdl := depsA_len d.steps d.steps 0
  go_wp2_with fail
  have HX0 : Hid (Below w2.heap.size w2 w2.drew) := Lib.hid ((Below.refl _ _).drew)
  refine E_region (S := (fun W => W.cell? ⟨w.heap.size, 0, none⟩ = some (.string d.name) ∧ W.cell? ⟨w.heap.size, 1, none⟩ = some (.string d.text) ∧ W.cell? ⟨w.heap.size, 2, none⟩ = some (.slice sa d.steps.length sc))) 3 (by kernel_rfl) ⟨q0, q1, q2⟩ (fun _ _ _ _ _ h => h) (fun Q' hQ hK' hHeld => ?_)
  refine E_take hQ hHeld 0 (v := ?yav1) rfl rfl (by kernel_rfl) (by kernel_rfl) (by kernel_rfl) (by kernel_rfl) (by kernel_rfl) (by rfl) ?yay1 ?yar1
  case yay1 => (intro w hSw; (try dsimp only at hSw); go_simp; (try with_reducible rfl))
  (try simp only [Act.put, List.setIfInBounds_toArray, List.set_cons_zero, List.set_cons_succ])
  refine E_take hQ hHeld 2 (v := ?yav2) rfl rfl (by kernel_rfl) (by kernel_rfl) (by kernel_rfl) (by kernel_rfl) (by kernel_rfl) (by rfl) ?yay2 ?yar2
  case yay2 => (intro w hSw; (try dsimp only at hSw); go_simp; (try with_reducible rfl))
  (try simp only [Act.put, List.setIfInBounds_toArray, List.set_cons_zero, List.set_cons_succ])
  refine E_one 1 (by kernel_rfl) rfl (by rfl) (fun K hK => ?_)
  go_simp
  refine (nRefs_any d _ _ _ _ (HD2.out.below HX0.out) (by omega) hrf).mono ?_
  rintro e V1 ⟨v1, rfl, hr1, hb⟩
  obtain ⟨ra, rc, rfl⟩ := hr1.form
  have HR1 := Lib.hid hr1
  have HY1 := Lib.hid hb
  have HX1 : Hid (Below w2.heap.size w2 V1) := Lib.hid (bthen HX0.out (Nat.le_refl _) hb)
  clear hb hr1
  (skip)
  refine hK.out _ _ (fun _ _ => ⟨cellB HY1.out hHeld.1, cellB HY1.out hHeld.2.1, cellB HY1.out hHeld.2.2⟩) (fun hHeld' => ?_)
  replace hHeld := hHeld' (by rfl) (by decide)
  clear hK hHeld'
  (try simp only [Act.put, List.setIfInBounds_toArray, List.set_cons_zero, List.set_cons_succ])
  refine E_one 3 (by kernel_rfl) rfl (by rfl) (fun K hK => ?_)
  go_simp
  refine (rRefs_any d _ _ _ _ (HD2.out.below HX1.out) (by omega) haf).mono ?_
  rintro e V3 ⟨v3, rfl, hr3, hb⟩
  obtain ⟨rb, rd, rfl⟩ := hr3.form
  have HR3 := Lib.hid hr3
  have HR2 := Lib.hid (HR1.out.below hb)
  have HX3 : Hid (Below w2.heap.size w2 V3) := Lib.hid (bthen HX1.out (by have := HX1.out.size; exact Nat.le_refl _) hb)
  clear hb hr3
  (skip)
  refine hK.out _ _ (fun _ h => absurd rfl h) (fun _ => ?_)
  clear hK hHeld
  (try simp only [Act.put, List.setIfInBounds_toArray, List.set_cons_zero, List.set_cons_succ])
  refine E_take0 hQ (fun h => absurd h (by decide)) 4 (v := ?yav3) rfl rfl (by kernel_rfl) (by kernel_rfl) (by kernel_rfl) (by decide) (by rfl) ?yay3 ?yar3
  case yay3 => (intro w; go_simp; (try with_reducible rfl))
  (try simp only [Act.put, List.setIfInBounds_toArray, List.set_cons_zero, List.set_cons_succ])
  refine E_take0 hQ (fun h => absurd h (by decide)) 5 (v := ?yav4) rfl rfl (by kernel_rfl) (by kernel_rfl) (by kernel_rfl) (by decide) (by rfl) ?yay4 ?yar4
  case yay4 => (intro w; go_simp; (try with_reducible rfl))
  (try simp only [Act.put, List.setIfInBounds_toArray, List.set_cons_zero, List.set_cons_succ])
  refine E_done (by kernel_rfl) ?_ _
  refine hK'.out _ _ ?_
  rw [hdl]
  have HD3 := Lib.hid (HD2.out.below HX3.out)
  have hlt2 := (Array.getElem?_eq_some_iff.1 HG2.out).1
  clear q0 q1 q2 hK' hQ
  obtain ⟨q0, q1, q2, -, -, -⟩ := cells3h ((HX3.out.block _ hlt2).trans HG2.out)
  have hne : ((d.steps.length : Int) != (d.steps.length : Int)) = false := by simp
  go_upto_region 6 with fail
  refine E_region (S := (fun W => W.cell? ⟨w.heap.size, 0, none⟩ = some (.string d.name) ∧ W.cell? ⟨w.heap.size, 1, none⟩ = some (.string d.text) ∧ W.cell? ⟨w.heap.size, 2, none⟩ = some (.slice sa d.steps.length sc))) 9 (by kernel_rfl) ⟨q0, q1, q2⟩ (fun _ _ _ _ _ h => h) (fun Q' hQ hK' hHeld => ?_)
  refine E_take0 hQ (fun _ => hHeld) 0 (v := ?ybv1) rfl rfl (by kernel_rfl) (by kernel_rfl) (by kernel_rfl) (by decide) (by rfl) ?yby1 ?ybr1
  case yby1 => (intro w; go_simp; (try with_reducible rfl))
  (try simp only [Act.put, List.setIfInBounds_toArray, List.set_cons_zero, List.set_cons_succ])
  refine E_take0 hQ (fun _ => hHeld) 1 (v := ?ybv2) rfl rfl (by kernel_rfl) (by kernel_rfl) (by kernel_rfl) (by decide) (by rfl) ?yby2 ?ybr2
  case yby2 => (intro w; go_simp; (try with_reducible rfl))
  (try simp only [Act.put, List.setIfInBounds_toArray, List.set_cons_zero, List.set_cons_succ])
  refine E_take0 hQ (fun _ => hHeld) 2 (v := ?ybv3) rfl rfl (by kernel_rfl) (by kernel_rfl) (by kernel_rfl) (by decide) (by rfl) ?yby3 ?ybr3
  case yby3 => (intro w; go_simp; (try with_reducible rfl))
  (try simp only [Act.put, List.setIfInBounds_toArray, List.set_cons_zero, List.set_cons_succ])
  refine E_take0 hQ (fun _ => hHeld) 3 (v := ?ybv4) rfl rfl (by kernel_rfl) (by kernel_rfl) (by kernel_rfl) (by decide) (by rfl) ?yby4 ?ybr4
  case yby4 => (intro w; go_simp; (try with_reducible rfl))
  (try simp only [Act.put, List.setIfInBounds_toArray, List.set_cons_zero, List.set_cons_succ])
  refine E_take0 hQ (fun _ => hHeld) 4 (v := ?ybv5) rfl rfl (by kernel_rfl) (by kernel_rfl) (by kernel_rfl) (by decide) (by rfl) ?yby5 ?ybr5
  case yby5 => (intro w; go_simp; (try with_reducible rfl))
  (try simp only [Act.put, List.setIfInBounds_toArray, List.set_cons_zero, List.set_cons_succ])
  refine E_take0 hQ (fun _ => hHeld) 5 (v := ?ybv6) rfl rfl (by kernel_rfl) (by kernel_rfl) (by kernel_rfl) (by decide) (by rfl) ?yby6 ?ybr6
  case yby6 => (intro w; go_simp; (try with_reducible rfl))
  (try simp only [Act.put, List.setIfInBounds_toArray, List.set_cons_zero, List.set_cons_succ])
  refine E_take hQ hHeld 6 (v := ?ybv7) rfl rfl (by kernel_rfl) (by kernel_rfl) (by kernel_rfl) (by kernel_rfl) (by kernel_rfl) (by rfl) ?yby7 ?ybr7
  case yby7 => (intro w hSw; (try dsimp only at hSw); go_simp; (try with_reducible rfl))
  (try simp only [Act.put, List.setIfInBounds_toArray, List.set_cons_zero, List.set_cons_succ])
  refine E_take hQ hHeld 8 (v := ?ybv8) rfl rfl (by kernel_rfl) (by kernel_rfl) (by kernel_rfl) (by kernel_rfl) (by kernel_rfl) (by rfl) ?yby8 ?ybr8
  case yby8 => (intro w hSw; (try dsimp only at hSw); go_simp; (try with_reducible rfl))
  (try simp only [Act.put, List.setIfInBounds_toArray, List.set_cons_zero, List.set_cons_succ])
  refine E_one 7 (by kernel_rfl) rfl (by rfl) (fun K hK => ?_)
  go_simp
  refine (nMissing_any d _ _ _ _ (HD3.out.below (Below.refl _ _).drew) (by omega) hrf).mono ?_
  rintro e V7 ⟨v7, rfl, hm7, hb⟩
  have HM7 := Lib.hid hm7
  have HY1 := Lib.hid hb
  have HD7 := Lib.hid ((HD3.out.below (Below.refl _ _).drew).below hb)
  have HX7 : Hid (Below V3.heap.size V3 V7) := Lib.hid (((Below.refl _ V3).drew).trans hb)
  clear hb hm7
  (skip)
  refine hK.out _ _ (fun _ _ => ⟨cellB HY1.out hHeld.1, cellB HY1.out hHeld.2.1, cellB HY1.out hHeld.2.2⟩) (fun hHeld' => ?_)
  replace hHeld := hHeld' (by rfl) (by decide)
  clear hK hHeld'
  (try simp only [Act.put, List.setIfInBounds_toArray, List.set_cons_zero, List.set_cons_succ])
  refine E_one 9 (by kernel_rfl) rfl (by rfl) (fun K hK => ?_)
  go_simp
  refine (rMissing_any d _ _ _ _ HD7.out hrf).mono ?_
  rintro e V9 ⟨v9, rfl, hm9, hb⟩
  have HM9 := Lib.hid hm9
  have HM8 := Lib.hid (HM7.out.below hb)
  have HX9 : Hid (Below V3.heap.size V3 V9) := Lib.hid (bthen HX7.out (Nat.le_refl _) hb)
  clear hb hm9
  (skip)
  refine hK.out _ _ (fun _ h => absurd rfl h) (fun _ => ?_)
  clear hK hHeld
  (try simp only [Act.put, List.setIfInBounds_toArray, List.set_cons_zero, List.set_cons_succ])
  refine E_one 10 (by kernel_rfl) rfl (by rfl) (fun K hK => ?_)
  go_simp
  refine (Texts_any _ _ _ _ _ HM8.out HM9.out).mono ?_
  rintro e V10 ⟨rfl, hb⟩
  have HX10 : Hid (Below V3.heap.size V3 V10) := Lib.hid (bthen HX9.out (Nat.le_refl _) hb)
  rw [show decide (missL (refsF d.steps 0 d.steps) = missL (refsF d.steps 0 d.steps)) = true from decide_eq_true rfl]
  clear hb
  (skip)
  refine hK.out _ _ (fun h => absurd h (by decide)) (fun _ => ?_)
  clear hK
  (try simp only [Act.put, List.setIfInBounds_toArray, List.set_cons_zero, List.set_cons_succ])
  refine E_take0 hQ (fun h => absurd h (by decide)) 11 (v := ?ybv9) rfl rfl (by kernel_rfl) (by kernel_rfl) (by kernel_rfl) (by decide) (by rfl) ?yby9 ?ybr9
  case yby9 => (intro w; go_simp; (try with_reducible rfl))
  (try simp only [Act.put, List.setIfInBounds_toArray, List.set_cons_zero, List.set_cons_succ])
  refine E_take0 hQ (fun h => absurd h (by decide)) 12 (v := ?ybv10) rfl rfl (by kernel_rfl) (by kernel_rfl) (by kernel_rfl) (by decide) (by rfl) ?yby10 ?ybr10
  case yby10 => (intro w; go_simp; (try with_reducible rfl))
  (try simp only [Act.put, List.setIfInBounds_toArray, List.set_cons_zero, List.set_cons_succ])
  refine E_done (by kernel_rfl) ?_ _
  refine hK'.out _ _ ?_
  have HRA := Lib.hid (HR2.out.below HX10.out)
  have HRB := Lib.hid (HR3.out.below HX10.out)
  have HB10 := Lib.hid (bthen HB2.out (Nat.le_refl _) (HX3.out.trans (HX10.out.mono HX3.out.size)))
  clear HR1 HR2 HR3 HX10 HX9 HX7 HX3 HX1 HM7 HM8 HM9 q0 q1 q2 hne hK' hQ
  generalize hrows : depsA d.steps 0 d.steps = rows at *
  have HDL := Lib.hid hdl
  clear hdl hrows
  go_wp2_with fail
  go_loopg [5] (d.steps.length + 1) (fun gk i wi => ∃ k : Nat, k + gk = d.steps.length + 1 ∧ k ≤ d.steps.length ∧ i = .int .i64 k ∧ Hid (Below V10.heap.size V10 wi))
  case atStart => exact ⟨0, by omega, by omega, rfl, Lib.hid (Below.refl _ _)⟩
  case round =>
    obtain ⟨k, hgk, hk, rfl, HBI⟩ := hrel
    rename World => wi
    have hg : gk = d.steps.length + 1 - k := by omega
    subst hg
    by_cases hkl : k < d.steps.length
    · have d1 : decide ((k : Int) < (d.steps.length : Int)) = true := decide_eq_true (by omega)
      have hk1 : (k : Int) < (d.steps.length : Int) := by omega
      have hkr : k < rows.length := by rw [HDL.out]; exact hkl
      obtain ⟨rg, ro, ra2, rc2, rfl, e1, e2, y0, hrow⟩ := HRA.out.at hkr
      obtain ⟨sg, so, rb2, rd2, rfl, e3, e4, x0, hrow2⟩ := HRB.out.at hkr
      have HROW := Lib.hid hrow
      have HROW2 := Lib.hid hrow2
      have Y0 := Lib.hid y0
      have X0 := Lib.hid x0
      have hrl : rows[k].length ≤ 9223372036854775807 := rds_len2 hrow
      have y0 := cellB HBI.out Y0.out
      have x0 := cellB HBI.out X0.out
      clear hrow hrow2
      clear e1 e2 e3 e4
      generalize rows[k] = row at *
      have hne : ((row.length : Int) != (row.length : Int)) = false := by simp
      go_upto_region 11 with fail
      go_quiet (fail)
      have HBQ := Lib.hid (belowN HBI.out nq)
      clear y0 x0
      go_wp2_with fail
      go_loopg [6] (row.length + 1) (fun gk i wj => ∃ j : Nat, j + gk = row.length + 1 ∧ j ≤ row.length ∧ i = .int .i64 j ∧ Hid (Below V10.heap.size V10 wj))
      case atStart => exact ⟨0, by omega, by omega, rfl, HBQ⟩
      case round =>
        obtain ⟨j, hgj, hj, rfl, HBJ⟩ := hrel
        rename World => wj
        have hg : gk = row.length + 1 - j := by omega
        subst hg
        have y0 := cellB HBJ.out Y0.out
        have x0 := cellB HBJ.out X0.out
        by_cases hjl : j < row.length
        · have d2 : decide ((j : Int) < (row.length : Int)) = true := decide_eq_true (by omega)
          have hj1 : (j : Int) < (row.length : Int) := by omega
          obtain ⟨ag, ao, rfl, -, -, t0⟩ := ints_at (HROW.out.below HBJ.out) hjl
          obtain ⟨bg, bo, rfl, -, -, u0⟩ := ints_at (HROW2.out.below HBJ.out) hjl
          generalize row[j] = x at *
          have hne2 : (x != x) = false := by simp
          go_upto_region 16 with fail
          go_quiet (fail)
          have HBQ := Lib.hid (belowN HBJ.out nq)
          clear y0 x0 t0 u0
          go_wp2_with fail
          go_roundg (row.length + 1 - (j + 1))
          case measure => omega
          case rel => exact ⟨j + 1, by omega, by omega, by go_num, HBQ⟩
        · have d2 : decide ((j : Int) < (row.length : Int)) = false := decide_eq_false (by omega)
          have hj1 : ¬ (j : Int) < (row.length : Int) := by omega
          go_wp2_with fail
          go_roundg (d.steps.length + 1 - (k + 1))
          case measure => omega
          case rel => exact ⟨k + 1, by omega, by omega, by go_num, HBJ⟩
    · have d1 : decide ((k : Int) < (d.steps.length : Int)) = false := decide_eq_false (by omega)
      have hk1 : ¬ (k : Int) < (d.steps.length : Int) := by omega
      have HBF := Lib.hid (bthen HB10.out (Nat.le_refl _) HBI.out)
      go_wp2_with fail
      go_ret
      exact ⟨rfl, HBF.out⟩
end Go.Proofs.Ytbnggfhofdpdcaa

/-
  The law NamesChecks: walk.
-/
namespace Go.Proofs.Ytbnggfhofdpdcaa
open Go Go.RowKit Go.WideShapes

set_option maxRecDepth 100000 in
set_option maxHeartbeats 8000000 in
theorem NamesChecks_any (d : DefD) (sa : Option Addr) (sc : Nat) (s : ByteArray) (w : World) (h : DefR w [.string d.name, .string d.text, .slice sa d.steps.length sc] d sa sc) (hs63 : s.size ≤ 9223372036854775807) :
    Calls Try.prog 5 #[.agg #[.string d.name, .string d.text, .slice sa d.steps.length sc], .string s] w fun e w' => e = .returned (.bool true) ∧ Below w.heap.size w w' := by
  have hb0 := (Below.refl w.heap.size w).alloc (Nat.le_refl _) (.cells #[.string d.name, .string d.text, .slice sa d.steps.length sc] 24)
  have HD := Lib.hid (h.below hb0)
  have HG := Lib.hid (World.alloc_heap_new w (.cells #[.string d.name, .string d.text, .slice sa d.steps.length sc] 24))
  clear h
  go_enter Try.func5, Try.ntmps5
  go_upto_region 1 with fail
  generalize w.alloc (.cells #[.string d.name, .string d.text, .slice sa d.steps.length sc] 24) = w0 at *
  have HB0 := Lib.hid hb0
  have hlt := (Array.getElem?_eq_some_iff.1 HG.out).1
  clear hb0
  go_wp2_with fail
  refine (live25_any _).mono ?_
  rintro e w1 ⟨rfl, hb1⟩
  have HB1 := Lib.hid (bthen HB0.out (Nat.le_refl _) hb1)
  have HD1 := Lib.hid (HD.out.below hb1)
  have HG1 := Lib.hid ((hb1.block _ hlt).trans HG.out)
  obtain ⟨q0, q1, q2, -, -, -⟩ := cells3h HG1.out
  clear hb1
  go_wp2_with fail
  refine (rdSmall_any d _ _ _ w1 HD1.out).mono ?_
  rintro e w2 ⟨rfl, hb2⟩
  clear q0 q1 q2
  have HB2 := Lib.hid (bthen HB1.out (Nat.le_refl _) hb2)
  have HD2 := Lib.hid (HD1.out.below hb2)
  have hlt1 := (Array.getElem?_eq_some_iff.1 HG1.out).1
  have HG2 := Lib.hid ((hb2.block _ hlt1).trans HG1.out)
  obtain ⟨q0, q1, q2, -, -, -⟩ := cells3h HG2.out
  clear hb2
  rcases hsm : smallDef d with _ | _
  · clear hsm
    go_wp2
    go_ret
    exact ⟨rfl, HB2.out⟩
  by_cases hs5 : (500 : Int) < (s.size : Int)
  · have d5 : decide ((500 : Int) < (s.size : Int)) = true := decide_eq_true hs5
    clear hsm
    go_wp2_with fail
    go_ret
    exact ⟨rfl, HB2.out⟩
  have d5 : decide ((500 : Int) < (s.size : Int)) = false := decide_eq_false hs5
  have HSM := Lib.hid (smallDef_of hsm)
  clear hsm
  have hrf : (refsF d.steps 0 d.steps).length ≤ 10000 := refs_few HSM.out
  have HOK := Lib.hid (chkN_ok HSM.out)
  have HOR := Lib.hid (names_ok HSM.out)
  have hsl : (sortD (chkN d)).length ≤ 1000000 := by
    have h1 := sortD_len (chkN d)
    have h2 := chkN_few HSM.out
    omega
  have HEQ : Hid (decide (sortD (chkN d) = sortD (rChkN d.steps 0 d.steps (headN d))) = true) := Lib.hid (decide_eq_true (names_alike d).symm)
  have hrr : (rightB s == rightB s) = true := by simp
  generalize hrb : rightB s = rb at *
  go_wp2_with fail
  have HX0 : Hid (Below w2.heap.size w2 w2.drew) := Lib.hid ((Below.refl _ _).drew)
  refine E_region (S := (fun W => W.cell? ⟨w.heap.size, 0, none⟩ = some (.string d.name) ∧ W.cell? ⟨w.heap.size, 1, none⟩ = some (.string d.text) ∧ W.cell? ⟨w.heap.size, 2, none⟩ = some (.slice sa d.steps.length sc))) 3 (by kernel_rfl) ⟨q0, q1, q2⟩ (fun _ _ _ _ _ h => h) (fun Q' hQ hK' hHeld => ?_)
  refine E_take hQ hHeld 0 (v := ?zv1) rfl rfl (by kernel_rfl) (by kernel_rfl) (by kernel_rfl) (by kernel_rfl) (by kernel_rfl) (by rfl) ?zy1 ?zr1
  case zy1 => (intro w hSw; (try dsimp only at hSw); go_simp; (try with_reducible rfl))
  (try simp only [Act.put, List.setIfInBounds_toArray, List.set_cons_zero, List.set_cons_succ])
  refine E_take hQ hHeld 2 (v := ?zv2) rfl rfl (by kernel_rfl) (by kernel_rfl) (by kernel_rfl) (by kernel_rfl) (by kernel_rfl) (by rfl) ?zy2 ?zr2
  case zy2 => (intro w hSw; (try dsimp only at hSw); go_simp; (try with_reducible rfl))
  (try simp only [Act.put, List.setIfInBounds_toArray, List.set_cons_zero, List.set_cons_succ])
  refine E_one 1 (by kernel_rfl) rfl (by rfl) (fun K hK => ?_)
  go_simp
  refine (nCheck_any d _ _ _ _ (HD2.out.below HX0.out) HSM.out hrf HOK.out).mono ?_
  rintro e V1 ⟨ua, uc, rfl, hdg, hb⟩
  have HDG1 := Lib.hid hdg
  have HY1 := Lib.hid hb
  have HX1 : Hid (Below w2.heap.size w2 V1) := Lib.hid (bthen HX0.out (Nat.le_refl _) hb)
  clear hb hdg
  (skip)
  refine hK.out _ _ (fun _ _ => ⟨cellB HY1.out hHeld.1, cellB HY1.out hHeld.2.1, cellB HY1.out hHeld.2.2⟩) (fun hHeld' => ?_)
  replace hHeld := hHeld' (by rfl) (by decide)
  clear hK hHeld'
  (try simp only [Act.put, List.setIfInBounds_toArray, List.set_cons_zero, List.set_cons_succ])
  refine E_one 3 (by kernel_rfl) rfl (by rfl) (fun K hK => ?_)
  go_simp
  refine (rnCheck_any d _ _ _ _ (HD2.out.below HX1.out) HSM.out HOR.out).mono ?_
  rintro e V3 ⟨ta, tc, rfl, hdg, hb⟩
  have HDG3 := Lib.hid hdg
  have HDG2 := Lib.hid (HDG1.out.below hb)
  have HX3 : Hid (Below w2.heap.size w2 V3) := Lib.hid (bthen HX1.out (by have := HX1.out.size; exact Nat.le_refl _) hb)
  clear hb hdg
  (skip)
  refine hK.out _ _ (fun _ h => absurd rfl h) (fun _ => ?_)
  clear hK hHeld
  (try simp only [Act.put, List.setIfInBounds_toArray, List.set_cons_zero, List.set_cons_succ])
  refine E_one 4 (by kernel_rfl) rfl (by rfl) (fun K hK => ?_)
  go_simp
  refine (rSameG_any _ _ _ _ _ HDG2.out HDG3.out hsl).mono ?_
  rintro e V4 hq
  obtain ⟨nq, rfl, rfl⟩ := hq
  rw [HEQ.out]
  (skip)
  refine hK.out _ _ (fun h => absurd h (by decide)) (fun _ => ?_)
  clear hK
  (try simp only [Act.put, List.setIfInBounds_toArray, List.set_cons_zero, List.set_cons_succ])
  refine E_take0 hQ (fun h => absurd h (by decide)) 5 (v := ?zv3) rfl rfl (by kernel_rfl) (by kernel_rfl) (by kernel_rfl) (by decide) (by rfl) ?zy3 ?zr3
  case zy3 => (intro w; go_simp; (try with_reducible rfl))
  (try simp only [Act.put, List.setIfInBounds_toArray, List.set_cons_zero, List.set_cons_succ])
  refine E_take0 hQ (fun h => absurd h (by decide)) 6 (v := ?zv4) rfl rfl (by kernel_rfl) (by kernel_rfl) (by kernel_rfl) (by decide) (by rfl) ?zy4 ?zr4
  case zy4 => (intro w; go_simp; (try with_reducible rfl))
  (try simp only [Act.put, List.setIfInBounds_toArray, List.set_cons_zero, List.set_cons_succ])
  refine E_take0 hQ (fun h => absurd h (by decide)) 8 (v := ?zv5) rfl rfl (by kernel_rfl) (by kernel_rfl) (by kernel_rfl) (by decide) (by rfl) ?zy5 ?zr5
  case zy5 => (intro w; go_simp; (try with_reducible rfl))
  (try simp only [Act.put, List.setIfInBounds_toArray, List.set_cons_zero, List.set_cons_succ])
  refine E_one 7 (by kernel_rfl) rfl (by rfl) (fun K hK => ?_)
  go_simp
  refine (nRight_any s _ (by omega)).mono ?_
  rintro e V7 ⟨rfl, rfl⟩; rw [hrb]
  (skip)
  refine hK.out _ _ (fun h => absurd h (by decide)) (fun _ => ?_)
  clear hK
  (try simp only [Act.put, List.setIfInBounds_toArray, List.set_cons_zero, List.set_cons_succ])
  refine E_one 9 (by kernel_rfl) rfl (by rfl) (fun K hK => ?_)
  go_simp
  refine (rRight_any s _ (by omega)).mono ?_
  rintro e V9 ⟨rfl, rfl⟩; rw [hrb]
  (skip)
  refine hK.out _ _ (fun h => absurd h (by decide)) (fun _ => ?_)
  clear hK
  (try simp only [Act.put, List.setIfInBounds_toArray, List.set_cons_zero, List.set_cons_succ])
  refine E_take0 hQ (fun h => absurd h (by decide)) 10 (v := ?zv6) rfl rfl (by kernel_rfl) (by kernel_rfl) (by kernel_rfl) (by decide) (by rfl) ?zy6 ?zr6
  case zy6 => (intro w; go_simp; (try with_reducible rfl))
  (try simp only [Act.put, List.setIfInBounds_toArray, List.set_cons_zero, List.set_cons_succ])
  refine E_take0 hQ (fun h => absurd h (by decide)) 11 (v := ?zv7) rfl rfl (by kernel_rfl) (by kernel_rfl) (by kernel_rfl) (by decide) (by rfl) ?zy7 ?zr7
  case zy7 => (intro w; go_simp; (try with_reducible rfl))
  (try simp only [Act.put, List.setIfInBounds_toArray, List.set_cons_zero, List.set_cons_succ])
  refine E_take0 hQ (fun h => absurd h (by decide)) 12 (v := ?zv8) rfl rfl (by kernel_rfl) (by kernel_rfl) (by kernel_rfl) (by decide) (by rfl) ?zy8 ?zr8
  case zy8 => (intro w; go_simp; (try with_reducible rfl))
  (try simp only [Act.put, List.setIfInBounds_toArray, List.set_cons_zero, List.set_cons_succ])
  refine E_done (by kernel_rfl) ?_ _
  refine hK'.out _ _ ?_
  go_wp2
  go_ret
  exact ⟨rfl, bthen HB2.out (Nat.le_refl _) (belowN HX3.out nq)⟩
end Go.Proofs.Ytbnggfhofdpdcaa
