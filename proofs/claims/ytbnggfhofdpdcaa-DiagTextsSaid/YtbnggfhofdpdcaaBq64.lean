/-
  The law DiagTexts: walk.
-/
import Derived.Test.YtbnggfhofdpdcaaBq61
import Derived.Test.YtbnggfhofdpdcaaBq63
namespace Go.Proofs.Ytbnggfhofdpdcaa
open Go Go.RowKit Go.WideShapes

theorem putS_size (s : ByteArray) : (putS s).size ≤ 4 * s.size + 2 := by
  unfold putS
  split
  · omega
  · rw [mkS_size, ← accQ_all, List.length_append]
    have := accQ_len s s.size (Nat.le_refl _)
    simp only [List.length_singleton]
    omega
theorem textG_size (x : DiagD) (p : ByteArray) : (textG x p).size ≤ p.size + 18 := by
  have h1 := stD_size x.1
  have h2 := wordD_size x.2.1
  unfold textG
  split
  · show (stD x.1 ++ sepB ++ wordD x.2.1).size ≤ _
    rw [ByteArray.size_append, ByteArray.size_append]
    have : sepB.size = 1 := rfl
    omega
  · show (stD x.1 ++ sepB ++ wordD x.2.1 ++ sepB ++ p).size ≤ _
    rw [ByteArray.size_append, ByteArray.size_append, ByteArray.size_append, ByteArray.size_append]
    have : sepB.size = 1 := rfl
    omega
theorem idxS_word : ∀ i : Nat, (h : i < wordsL.length) → idxS wordsL wordsL[i] = (i : Int) := by decide +kernel
theorem contains_snoc (a : List ByteArray) (x s : ByteArray) : (a ++ [x]).contains s = (a.contains s || (x == s)) := by
  cases hc : a.contains s with
  | true =>
    have := (List.contains_iff_mem).1 hc
    simp [this]
  | false =>
    have hn : s ∉ a := by simpa using hc
    by_cases he : x = s
    · simp [he]
    · have : ¬ s = x := fun h => he h.symm
      simp [hn, he, this]
theorem take_words {k : Nat} (h : k < wordsL.length) (s : ByteArray) : (wordsL.take (k + 1)).contains s = ((wordsL.take k).contains s || (wordsL[k] == s)) := by
  rw [List.take_add_one, List.getElem?_eq_getElem h, Option.toList_some, contains_snoc]
/-- The text about each. -/
def txD (x : DiagD) : ByteArray := textG x (putS x.2.2)

set_option maxRecDepth 100000 in
set_option maxHeartbeats 8000000 in
theorem DiagTexts_any (l : List DiagD) (v : Value) (er : Int) (word : ByteArray) (w : World) (hv : DgR w v l) (_h1 : -9223372036854775808 ≤ er) (_h2 : er ≤ 9223372036854775807) (_hs : word.size ≤ 9223372036854775807) :
    Calls Try.prog 9 #[v, .int .i64 er, .string word] w fun e w' => e = .returned (.bool true) ∧ Below w.heap.size w w' := by
  obtain ⟨va, vc, rfl, hc1, hc2⟩ := hv.form
  have HV0 := Lib.hid hv
  clear hv
  go_enter Try.func9, Try.ntmps9
  go_wp2_with fail
  refine (live24_any _).mono ?_
  rintro e w1 ⟨rfl, hb1⟩
  have HB1 := Lib.hid hb1
  have HV1 := Lib.hid (HV0.out.below hb1)
  clear hb1
  go_wp2_with fail
  refine (smallG_any l _ w1 HV1.out).mono ?_
  rintro e w2 ⟨rfl, rfl⟩
  cases hsa : smallG l with
  | false =>
    clear hsa
    go_wp2
    go_ret
    exact ⟨rfl, HB1.out⟩
  | true =>
  obtain ⟨hla, hxs⟩ := smallG_of hsa
  have HXA := Lib.hid hxs
  clear hsa hxs
  by_cases h100 : (100 : Int) < (word.size : Int)
  · have d100 : decide ((100 : Int) < (word.size : Int)) = true := decide_eq_true h100
    go_wp2
    go_ret
    exact ⟨rfl, HB1.out⟩
  have d100 : decide ((100 : Int) < (word.size : Int)) = false := decide_eq_false h100
  go_wp2_with fail
  have HTZ : Hid (∀ x ∈ l, (txD x).size ≤ 3000) := Lib.hid (fun x hx => by
    have h1 := HXA.out x hx
    have h2 := putS_size x.2.2
    have h3 := textG_size x (putS x.2.2)
    show (textG x (putS x.2.2)).size ≤ 3000
    omega)
  go_loopg [7, 8] (l.length + 1) (fun gk wt i wr => ∃ k : Nat, k + gk = l.length + 1 ∧ k ≤ l.length ∧ wt = .string (linesG txD (l.take k)) ∧ i = .int .i64 k ∧ Hid (Below w2.heap.size w2 wr))
  case atStart => exact ⟨0, by omega, by omega, rfl, rfl, Lib.hid (Below.refl _ _)⟩
  case round =>
    obtain ⟨k, hgk, hk, rfl, rfl, HB⟩ := hrel
    rename World => wr
    have hg : gk = l.length + 1 - k := by omega
    subst hg
    by_cases hkl : k < l.length
    · have d1 : decide ((k : Int) < (l.length : Int)) = true := decide_eq_true (by omega)
      have hkk : (k : Int) < (l.length : Int) := by omega
      obtain ⟨g, off, cap, he, -, -, z0, z1, z2⟩ := (HV1.out.below HB.out).at hkl
      cases he
      have HXS := Lib.hid (HXA.out _ (List.getElem_mem hkl))
      have HTX := Lib.hid (HTZ.out _ (List.getElem_mem hkl))
      have HSN := Lib.hid (show linesG txD (l.take (k + 1)) = linesG txD (l.take k) ++ txD l[k] ++ { data := #[10] } by rw [take_succ_get hkl, linesG_snoc])
      have HLZ := Lib.hid (show (linesG txD (l.take k)).size ≤ 1000000 by
        have := linesG_size txD 3000 (l.take k) (fun x hx => HTZ.out x (List.mem_of_mem_take hx))
        have h2 : (l.take k).length ≤ 60 := by rw [List.length_take]; omega
        have h3 : (l.take k).length * (3000 + 1) ≤ 60 * 3001 := Nat.mul_le_mul_right _ h2
        omega)
      generalize l[k] = x at *
      generalize linesG txD (l.take k) = wt at *
      have HPZ := Lib.hid (show (putS x.2.2).size ≤ 3000 by have := putS_size x.2.2; have := HXS.out; omega)
      have HTT := Lib.hid (show txD x = textG x (putS x.2.2) from rfl)
      have HX0 : Hid (Below wr.heap.size wr wr.drew) := Lib.hid ((Below.refl _ _).drew)
      go_wp2_with fail
      go_upto_region 9 with fail
      refine E_region (S := (fun W => W.cell? ⟨g, off + k * 3, none⟩ = some (.int .i64 x.1) ∧ W.cell? ⟨g, off + k * 3 + 1, none⟩ = some (.int .i64 x.2.1) ∧ W.cell? ⟨g, off + k * 3 + 2, none⟩ = some (.string x.2.2))) 9 (by kernel_rfl) ⟨z0, z1, z2⟩ (fun _ _ _ _ _ h => h) (fun Q' hQ hK' hHeld => ?_)
      refine E_take0 hQ (fun _ => hHeld) 0 (v := ?tv1) rfl rfl (by kernel_rfl) (by kernel_rfl) (by kernel_rfl) (by decide) (by rfl) ?ty1 ?tr1
      case ty1 => (intro w; go_simp; (try with_reducible rfl))
      (try simp only [Act.put, List.setIfInBounds_toArray, List.set_cons_zero, List.set_cons_succ])
      refine E_take0 hQ (fun _ => hHeld) 1 (v := ?tv2) rfl rfl (by kernel_rfl) (by kernel_rfl) (by kernel_rfl) (by decide) (by rfl) ?ty2 ?tr2
      case ty2 => (intro w; go_simp; (try with_reducible rfl))
      (try simp only [Act.put, List.setIfInBounds_toArray, List.set_cons_zero, List.set_cons_succ])
      refine E_take0 hQ (fun _ => hHeld) 2 (v := ?tv3) rfl rfl (by kernel_rfl) (by kernel_rfl) (by kernel_rfl) (by decide) (by rfl) ?ty3 ?tr3
      case ty3 => (intro w; go_simp; (try with_reducible rfl))
      (try simp only [Act.put, List.setIfInBounds_toArray, List.set_cons_zero, List.set_cons_succ])
      refine E_take hQ hHeld 3 (v := ?tv4) rfl rfl (by kernel_rfl) (by kernel_rfl) (by kernel_rfl) (by kernel_rfl) (by kernel_rfl) (by rfl) ?ty4 ?tr4
      case ty4 => (intro w hSw; (try dsimp only at hSw); go_simp; (try with_reducible rfl))
      (try simp only [Act.put, List.setIfInBounds_toArray, List.set_cons_zero, List.set_cons_succ])
      refine E_take0 hQ (fun _ => hHeld) 5 (v := ?tv5) rfl rfl (by kernel_rfl) (by kernel_rfl) (by kernel_rfl) (by decide) (by rfl) ?ty5 ?tr5
      case ty5 => (intro w; go_simp; (try with_reducible rfl))
      (try simp only [Act.put, List.setIfInBounds_toArray, List.set_cons_zero, List.set_cons_succ])
      refine E_take0 hQ (fun _ => hHeld) 6 (v := ?tv6) rfl rfl (by kernel_rfl) (by kernel_rfl) (by kernel_rfl) (by decide) (by rfl) ?ty6 ?tr6
      case ty6 => (intro w; go_simp; (try with_reducible rfl))
      (try simp only [Act.put, List.setIfInBounds_toArray, List.set_cons_zero, List.set_cons_succ])
      refine E_take0 hQ (fun _ => hHeld) 7 (v := ?tv7) rfl rfl (by kernel_rfl) (by kernel_rfl) (by kernel_rfl) (by decide) (by rfl) ?ty7 ?tr7
      case ty7 => (intro w; go_simp; (try with_reducible rfl))
      (try simp only [Act.put, List.setIfInBounds_toArray, List.set_cons_zero, List.set_cons_succ])
      refine E_take hQ hHeld 8 (v := ?tv8) rfl rfl (by kernel_rfl) (by kernel_rfl) (by kernel_rfl) (by kernel_rfl) (by kernel_rfl) (by rfl) ?ty8 ?tr8
      case ty8 => (intro w hSw; (try dsimp only at hSw); go_simp; (try with_reducible rfl))
      (try simp only [Act.put, List.setIfInBounds_toArray, List.set_cons_zero, List.set_cons_succ])
      refine E_one 4 (by kernel_rfl) rfl (by rfl) (fun K hK => ?_)
      go_simp
      refine (dText_any x _ _ (by have := HPZ.out; omega) (fun _ W => sPut_any x.2.2 W (by have := HXS.out; omega))).mono ?_
      rintro e X1 ⟨rfl, hb⟩
      have HY1 := Lib.hid hb
      have HX1 : Hid (Below wr.heap.size wr X1) := Lib.hid (bthen HX0.out (by have := HX0.out.size; exact Nat.le_refl _) hb)
      clear hb
      (skip)
      refine hK.out _ _ (fun _ _ => ⟨cellB HY1.out hHeld.1, cellB HY1.out hHeld.2.1, cellB HY1.out hHeld.2.2⟩) (fun hHeld' => ?_)
      replace hHeld := hHeld' (by rfl) (by decide)
      clear hK hHeld'
      (try simp only [Act.put, List.setIfInBounds_toArray, List.set_cons_zero, List.set_cons_succ])
      refine E_one 9 (by kernel_rfl) rfl (by rfl) (fun K hK => ?_)
      go_simp
      refine (rText_any x _ _ (by have := HPZ.out; omega) (fun _ W => rPut_any x.2.2 W (by have := HXS.out; omega))).mono ?_
      rintro e X2 ⟨rfl, hb⟩
      have HX2 : Hid (Below wr.heap.size wr X2) := Lib.hid (bthen HX1.out (by have := HX1.out.size; exact Nat.le_refl _) hb)
      clear hb
      (skip)
      refine hK.out _ _ (fun _ h => absurd rfl h) (fun _ => ?_)
      clear hK hHeld
      (try simp only [Act.put, List.setIfInBounds_toArray, List.set_cons_zero, List.set_cons_succ])
      refine E_take0 hQ (fun h => absurd h (by decide)) 10 (v := ?tv9) rfl rfl (by kernel_rfl) (by kernel_rfl) (by kernel_rfl) (by decide) (by rfl) ?ty9 ?tr9
      case ty9 => (intro w; go_simp; (try with_reducible rfl))
      (try simp only [Act.put, List.setIfInBounds_toArray, List.set_cons_zero, List.set_cons_succ])
      refine E_done (by kernel_rfl) ?_ _
      refine hK'.out _ _ ?_
      have hq1 := cellB HX2.out z0
      have hq2 := cellB HX2.out z1
      have hq3 := cellB HX2.out z2
      clear z0 z1 z2 hK' hQ
      have hee : (textG x (putS x.2.2) == textG x (putS x.2.2)) = true := by simp
      have hne : (textG x (putS x.2.2) != textG x (putS x.2.2)) = false := by simp
      go_wp2_with fail
      refine (rText_any x _ _ (by have := HPZ.out; omega) (fun _ W => rPut_any x.2.2 W (by have := HXS.out; omega))).mono ?_
      rintro e X3 ⟨rfl, hb⟩
      have HX3 : Hid (Below w2.heap.size w2 X3) := Lib.hid (bthen HB.out (Nat.le_refl _) (bthen HX2.out (Nat.le_refl _) hb))
      clear hb hee hne hq1 hq2 hq3
      rw [← HTT.out]
      have hb1 : ¬ 9223372036854775807 < wt.size + (txD x).size := by have := HLZ.out; have := HTX.out; omega
      have hb2 : ¬ 9223372036854775807 < wt.size + (txD x).size + 1 := by have := HLZ.out; have := HTX.out; omega
      generalize txD x = tx at *
      go_wp2_with fail
      go_roundg (l.length + 1 - (k + 1))
      case measure => omega
      case rel => exact ⟨k + 1, by omega, by omega, by rw [HSN.out], by go_num, HX3⟩
    · have d1 : decide ((k : Int) < (l.length : Int)) = false := decide_eq_false (by omega)
      have hk1 : ¬ (k : Int) < (l.length : Int) := by omega
      have hwt : l.take k = l := List.take_of_length_le (by omega)
      rw [hwt]
      have HBW := Lib.hid (bthen HB1.out (Nat.le_refl _) HB.out)
      have HVW := Lib.hid (HV1.out.below HB.out)
      have HLN := Lib.hid (fun (W : World) (h : DgR W (.slice va l.length vc) l) => Lines_any l txD _ W h (by omega) (fun x hx => Nat.le_trans (HTZ.out x hx) (by decide)) (fun x hx W' => dText_any x (putS x.2.2) W' (by have := putS_size x.2.2; have := HXA.out x hx; omega) (fun _ W => sPut_any x.2.2 W (by have := HXA.out x hx; omega))))
      clear hwt
      generalize linesG txD l = want at *
      go_wp2_with fail
      refine (rWords_any _).mono ?_
      rintro e w3 ⟨rfl, hb3⟩
      have HB3 := Lib.hid (bthen HBW.out (Nat.le_refl _) hb3)
      have HV3 := Lib.hid (HVW.out.below hb3)
      clear hb3
      unfold wordsV
      have hst1 := run_storeAt_new (P := Try.prog) w3 68 #[.string { data := #[] }, .string { data := #[] }, .string { data := #[] }, .string { data := #[] }, .string { data := #[] }, .string { data := #[] }, .string { data := #[] }, .string { data := #[] }, .string { data := #[] }, .string { data := #[] }, .string { data := #[] }, .string { data := #[] }, .string { data := #[] }, .string { data := #[] }, .string { data := #[] }, .string { data := #[] }, .string { data := #[] }, .string { data := #[] }, .string { data := #[] }, .string { data := #[] }, .string { data := #[] }] wordsA (by kernel_rfl) (by kernel_rfl) (by kernel_rfl)
      have hst2 := run_storeVar_new (P := Try.prog) w3 68 #[.string { data := #[] }, .string { data := #[] }, .string { data := #[] }, .string { data := #[] }, .string { data := #[] }, .string { data := #[] }, .string { data := #[] }, .string { data := #[] }, .string { data := #[] }, .string { data := #[] }, .string { data := #[] }, .string { data := #[] }, .string { data := #[] }, .string { data := #[] }, .string { data := #[] }, .string { data := #[] }, .string { data := #[] }, .string { data := #[] }, .string { data := #[] }, .string { data := #[] }, .string { data := #[] }] wordsA (by kernel_rfl) (by kernel_rfl) (by kernel_rfl)
      have hst3 := run_storeCells_new (P := Try.prog) w3 68 #[.string { data := #[] }, .string { data := #[] }, .string { data := #[] }, .string { data := #[] }, .string { data := #[] }, .string { data := #[] }, .string { data := #[] }, .string { data := #[] }, .string { data := #[] }, .string { data := #[] }, .string { data := #[] }, .string { data := #[] }, .string { data := #[] }, .string { data := #[] }, .string { data := #[] }, .string { data := #[] }, .string { data := #[] }, .string { data := #[] }, .string { data := #[] }, .string { data := #[] }, .string { data := #[] }] wordsA (by kernel_rfl) (by kernel_rfl) (by kernel_rfl)
      have hg4 := heap_alloc_last w3 (.cells wordsA 68)
      go_upto_region 14 with fail
      have hb4 : Below w3.heap.size w3 (w3.alloc (.cells wordsA 68)) := (Below.refl _ _).alloc (Nat.le_refl _) _
      have HB4 := Lib.hid (bthen HB3.out (Nat.le_refl _) hb4)
      have HV4 := Lib.hid (HV3.out.below hb4)
      have HW4 := Lib.hid hg4
      clear hst1 hst2 hst3 hb4 hg4
      generalize (w3.alloc (.cells wordsA 68)) = w4 at *
      generalize w3.heap.size = G at *
      obtain ⟨bi, hbi⟩ : ∃ bi, bi = decide (0 ≤ er ∧ er ≤ 20) := ⟨_, rfl⟩
      have HBI := Lib.hid hbi
      clear hbi
      go_cut [56] (fun s20 wx => s20 = .bool bi ∧ wx = w4)
      case first =>
        by_cases h1 : 0 ≤ er
        · have d1 : decide (0 ≤ er) = true := decide_eq_true h1
          have d2 : decide (er < 21) = bi := by rw [HBI.out]; by_cases h2 : er < 21 <;> simp [h2] <;> omega
          go_wp2_with fail
          go_meet
          exact ⟨rfl, rfl⟩
        · have d1 : decide (0 ≤ er) = false := decide_eq_false h1
          have d2 : bi = false := by rw [HBI.out]; exact decide_eq_false (by omega)
          subst d2
          go_wp2_with fail
          go_meet
          exact ⟨rfl, rfl⟩
      case rest =>
      obtain ⟨rfl, rfl⟩ := hcut
      go_upto_if 56 with fail
      go_cut [10] (fun s4 wx => s4 = .string (wordD er) ∧ wx = wc)
      case first =>
        cases bi with
        | true =>
          have hin : 0 ≤ er ∧ er ≤ 20 := of_decide_eq_true HBI.out.symm
          obtain ⟨n, hn⟩ : ∃ n : Nat, er = (n : Int) := ⟨er.toNat, by omega⟩
          have hn21 : n < 21 := by omega
          have hcell : wc.cell? ⟨G, er.toNat, none⟩ = some (.string (wordD er)) := by
            rw [hn]
            exact (cell_of_row _ _ n _ _ _ HW4.out).trans (wordsA_at n hn21)
          clear hn hn21
          have hlt : er < 21 := by omega
          have h0n : 0 ≤ er := hin.1
          go_wp2_with fail
          go_meet
          exact ⟨rfl, rfl⟩
        | false =>
          have hE : wordD er = { data := #[] } := by
            unfold wordD
            rw [if_neg (fun h => absurd HBI.out (by rw [decide_eq_true h]; decide))]
          go_wp2_with fail
          go_meet
          exact ⟨by rw [hE], rfl⟩
      case rest =>
      obtain ⟨rfl, rfl⟩ := hcut
      have HWD := Lib.hid (dWord_any er)
      clear HBI
      generalize hwd : wordD er = wd at *
      go_wp2_with fail
      refine (dErrno_any word _).mono ?_
      rintro e w5 ⟨rfl, hb5⟩
      have HB5 := Lib.hid (bthen HB4.out (Nat.le_refl _) hb5)
      have HV5 := Lib.hid (HV4.out.below hb5)
      have HW5 := Lib.hid ((hb5.block _ (Array.getElem?_eq_some_iff.1 HW4.out).1).trans HW4.out)
      clear hb5
      have HE0 := Lib.hid (fun h => errD_no (s := word) h)
      have HE1 := Lib.hid (fun (i : Nat) h => errD_at (s := word) (k := i) h)
      generalize errD word = ed at *
      generalize isErr word = ie at *
      go_wp2_with fail
      go_loopg [13, 14] (21 + 1) (fun gk z i wx => ∃ (k : Nat) (zi : Int), k + gk = 21 + 1 ∧ k ≤ 21 ∧ z = .int .i64 zi ∧ i = .int .i64 k ∧ Hid ((zi = -1 ∧ (wordsL.take k).contains word = false) ∨ ∃ j : Nat, j < 21 ∧ zi = (j : Int) ∧ idxS wordsL word = (j : Int)) ∧ wx = w5)
      case atStart => exact ⟨0, -1, by omega, by omega, rfl, rfl, Lib.hid (Or.inl ⟨rfl, by simp⟩), rfl⟩
      case round =>
        obtain ⟨k2, zi, hgk2, hk2, rfl, rfl, HZ, rfl⟩ := hrel
        have hg2 : gk = 21 + 1 - k2 := by omega
        subst hg2
        by_cases hk21 : k2 < 21
        · have d2 : decide ((k2 : Int) < 21) = true := decide_eq_true (by omega)
          have hk22 : (k2 : Int) < 21 := by omega
          have hkL : k2 < wordsL.length := hk21
          have hcell := (cell_of_row _ _ k2 _ _ _ HW5.out).trans (wordsA_at k2 hk21)
          rw [wordD_at k2 hkL] at hcell
          have HIX := Lib.hid (idxS_word k2 hkL)
          have HTW := Lib.hid (take_words hkL word)
          generalize wordsL[k2] = wk at *
          by_cases hw : wk = word
          · subst hw
            have e1 : (wk.toList == wk.toList) = true := by simp
            have HZ2 : Hid ((((k2 : Int)) = -1 ∧ (wordsL.take (k2 + 1)).contains wk = false) ∨ ∃ j : Nat, j < 21 ∧ (k2 : Int) = (j : Int) ∧ idxS wordsL wk = (j : Int)) := Lib.hid (Or.inr ⟨k2, hk21, rfl, HIX.out⟩)
            go_wp2_with fail
            go_roundg (21 + 1 - (k2 + 1))
            case measure => omega
            case rel => exact ⟨k2 + 1, k2, by omega, by omega, rfl, by go_num, HZ2, rfl⟩
          · have hww : (wk == word) = false := by simpa using hw
            have e1 : (wk.toList == word.toList) = false := beqS_no hw
            have HZ2 : Hid ((zi = -1 ∧ (wordsL.take (k2 + 1)).contains word = false) ∨ ∃ j : Nat, j < 21 ∧ zi = (j : Int) ∧ idxS wordsL word = (j : Int)) := Lib.hid (by
              rcases HZ.out with ⟨h1, h2⟩ | h
              · exact Or.inl ⟨h1, by rw [HTW.out, h2, hww]; rfl⟩
              · exact Or.inr h)
            go_wp2_with fail
            go_roundg (21 + 1 - (k2 + 1))
            case measure => omega
            case rel => exact ⟨k2 + 1, zi, by omega, by omega, rfl, by go_num, HZ2, rfl⟩
        · have d2 : decide ((k2 : Int) < 21) = false := decide_eq_false (by omega)
          have hk22 : ¬ (k2 : Int) < 21 := by omega
          have HZ3 : Hid ((zi = -1 ∧ ed = 0 ∧ ie = false) ∨ ∃ j : Nat, j < 21 ∧ zi = (j : Int) ∧ ed = (j : Int) ∧ ie = true) := Lib.hid (by
            rcases HZ.out with ⟨h1, h2⟩ | ⟨j, h0, h1, h2⟩
            · rw [List.take_of_length_le (by rw [wordsL_len]; omega)] at h2
              have := HE0.out (by unfold idxS; rw [h2]; rfl)
              exact Or.inl ⟨h1, this.1, this.2⟩
            · have := HE1.out j h2
              exact Or.inr ⟨j, h0, h1, this.1, this.2⟩)
          have hee : (want == want) = true := by simp
          have hww : (wd == wd) = true := by simp
          rcases HZ3.out with ⟨rfl, rfl, rfl⟩ | ⟨j, h0, rfl, rfl, rfl⟩
          · clear HZ HZ3 HE0 HE1
            go_wp2_with fail
            refine (HLN.out _ HV5.out).mono ?_
            rintro e w6 ⟨rfl, hb6⟩
            have HB6 := Lib.hid (bthen HB5.out (Nat.le_refl _) hb6)
            clear hb6
            go_wp2_with fail
            refine (HWD.out _).mono ?_
            rintro e w7 ⟨rfl, hb7⟩
            have HB7 := Lib.hid (bthen HB6.out (Nat.le_refl _) hb7)
            clear hb7
            go_wp2_with fail
            go_ret
            exact ⟨rfl, HB7.out⟩
          · have dj : decide (0 ≤ (j : Int)) = true := decide_eq_true (by omega)
            have hj : 0 ≤ (j : Int) := by omega
            clear HZ HZ3 HE0 HE1
            go_wp2_with fail
            refine (HLN.out _ HV5.out).mono ?_
            rintro e w6 ⟨rfl, hb6⟩
            have HB6 := Lib.hid (bthen HB5.out (Nat.le_refl _) hb6)
            clear hb6
            go_wp2_with fail
            refine (HWD.out _).mono ?_
            rintro e w7 ⟨rfl, hb7⟩
            have HB7 := Lib.hid (bthen HB6.out (Nat.le_refl _) hb7)
            clear hb7
            go_wp2_with fail
            go_ret
            exact ⟨rfl, HB7.out⟩
end Go.Proofs.Ytbnggfhofdpdcaa
