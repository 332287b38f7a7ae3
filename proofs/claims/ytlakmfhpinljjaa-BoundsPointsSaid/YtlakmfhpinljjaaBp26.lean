/-
  rescriptref20: has, check, Check, Size; rescriptref21.None: contracts.
-/
import Derived.StillTailTactics
import Derived.WalkMore
import Derived.Test.YtlakmfhpinljjaaBp19
import Derived.Test.YtlakmfhpinljjaaBp22
import Derived.Test.YtlakmfhpinljjaaBp25
namespace Go.Proofs.Ytlakmfhpinljjaa
open Go Go.RowKit Go.WideShapes

set_option maxRecDepth 100000 in
theorem has20_any (l : List ByteArray) (v : Value) (s : ByteArray) (w : World) (hv : RdS w v 1 l.length (strsV l)) :
    Calls Try.prog 153 #[v, .string s] w fun e w' => e = .returned (.bool (hasS l s)) ∧ w = w' := by
  have HV := Lib.hid hv
  have hl63 := rds_len2 hv
  obtain ⟨a, cap, rfl⟩ := hv.form
  clear hv
  go_enter Try.func153, Try.ntmps153
  go_wp2
  go_loop [5] (fun i => ∃ k : Nat, k ≤ l.length ∧ i = .int .i64 k ∧ Hid ((l.take k).contains s = false)) (fun i => l.length - (intOf i).toNat)
  case atStart => exact ⟨0, by omega, rfl, Lib.hid rfl⟩
  case round =>
    obtain ⟨k, hk, rfl, HE⟩ := hrel
    by_cases hlt : k < l.length
    · obtain ⟨g, off, rfl, q1, q2, c1⟩ := strs_at HV.out hlt
      have hk0 : (0 : Int) ≤ (k : Int) := by omega
      have hk1 : (k : Int) < (l.length : Int) := by omega
      by_cases he : s = l[k]
      · have HF : Hid (hasS l s = true) := Lib.hid (by simp [hasS, he])
        have hq := beqS_yes he.symm
        clear he
        generalize l[k] = s1 at *
        go_wp2
        go_ret
        exact ⟨by rw [HF.out]; rfl, rfl⟩
      · have HF := Lib.hid (contains_step hlt HE.out he)
        have hq := beqS_no (fun h => he h.symm)
        clear he
        generalize l[k] = s1 at *
        go_wp2
        go_round
        case rel => exact ⟨k + 1, by omega, by go_num, HF⟩
        case measure => simp [intOf]; omega
    · have HF : Hid (hasS l s = false) := Lib.hid (by unfold hasS; have h := HE.out; rwa [List.take_of_length_le (by omega)] at h)
      go_wp2
      go_ret
      exact ⟨by rw [HF.out]; rfl, rfl⟩

theorem odd_no {k : Nat} {t : ByteArray} {ks : List ByteArray} {kids : List Tree} {ln : Int} (h : oddT (.mk k t ks kids ln) = false) (h1 : 1 ≤ k) (h3 : k ≤ 3) :
    (k = 1 ∧ ks.length = 0 ∧ kids.length = 0) ∨ (k = 2 ∧ t.size = 0 ∧ ks.length = 0) ∨ (k = 3 ∧ t.size = 0 ∧ ks.length = kids.length) := by
  rw [oddT] at h
  split at h
  · simp only [decide_eq_false_iff_not] at h; omega
  · split at h <;> rw [Bool.or_eq_false_iff, decide_eq_false_iff_not, decide_eq_false_iff_not] at h <;> omega
theorem odd_yes {k : Nat} {t : ByteArray} {ks : List ByteArray} {kids : List Tree} {ln : Int} (h : oddT (.mk k t ks kids ln) = true) (h1 : 1 ≤ k) (h3 : k ≤ 3) :
    (k = 1 ∧ 0 < kids.length) ∨ (k = 1 ∧ kids.length = 0 ∧ 0 < ks.length) ∨ (k = 2 ∧ t.size ≠ 0) ∨ (k = 2 ∧ t.size = 0 ∧ 0 < ks.length) ∨ (k = 3 ∧ t.size ≠ 0) ∨ (k = 3 ∧ t.size = 0 ∧ ks.length ≠ kids.length) := by
  rw [oddT] at h
  split at h
  · simp only [decide_eq_true_eq] at h; omega
  · split at h <;> rw [Bool.or_eq_true, decide_eq_true_eq, decide_eq_true_eq] at h <;> omega
theorem kind_dec {k : Nat} (n : Nat) (h : k = n) (m : Nat) : (((k : Int) != (m : Int)) = decide (n ≠ m)) ∧ (((k : Int) == (m : Int)) = decide (n = m)) := by
  subst h
  by_cases hm : k = m
  · subst hm; simp
  · have : (k : Int) ≠ (m : Int) := by omega
    simp [hm, this]
theorem kind_decs {k n : Nat} (h : k = n) : ((((k : Int) != 1) = decide (n ≠ 1)) ∧ (((k : Int) == 1) = decide (n = 1))) ∧ ((((k : Int) != 3) = decide (n ≠ 3)) ∧ (((k : Int) == 3) = decide (n = 3))) := ⟨kind_dec n h 1, kind_dec n h 3⟩

set_option maxRecDepth 100000 in
set_option maxHeartbeats 4000000 in
theorem rcheck_any : ∀ (x : Tree) (n lev : Nat) (cs : List Value) (w : World), NodeR w cs x → SmallP n x → lev + n ≤ 1000 →
    Calls Try.prog 143 #[.agg cs.toArray, .int .i64 (lev : Int)] w fun e w' => e = .returned (.int .i64 (rcheckT lev x)) ∧ Below w.heap.size w w' := by
  refine Tree.ind fun k t ks kids ln ih n lev cs w ha hsm hlev => ?_
  obtain ⟨m, rfl, ht, hkl, hks, hkids, hkl2⟩ := hsm.parts
  obtain ⟨vk, vc, rfl, hk8, _, _, _, hk1, hc1⟩ := ha.parts
  obtain ⟨ba, bc, rfl, hv1, hv2⟩ := hc1.form
  obtain ⟨ka, kc, rfl⟩ := hk1.form
  have hkc : ks.length ≤ kc ∧ kc ≤ 9223372036854775807 := by
    obtain ⟨_, a', c', he, h3, h4, _⟩ := hk1
    injection he with _ _ e3; subst e3; unfold maxLen at h4; exact ⟨h3, h4⟩
  obtain ⟨hkc1, hkc2⟩ := hkc
  have hb0 := (Below.refl w.heap.size w).alloc (Nat.le_refl _) (.cells #[.int .u8 (k : Int), .string t, .slice ka ks.length kc, .slice ba kids.length bc, .int .i64 ln] 34)
  have g1 := World.alloc_heap_new w (.cells #[.int .u8 (k : Int), .string t, .slice ka ks.length kc, .slice ba kids.length bc, .int .i64 ln] 34)
  have HK1 := Lib.hid (hk1.below hb0)
  have HC1 := Lib.hid (hc1.below hb0)
  have IH := Lib.hid ih
  have HKS := Lib.hid hks
  have HKD := Lib.hid hkids
  clear ha hsm hk1 hc1 ih hks hkids
  have hsz : (w.alloc (.cells #[.int .u8 (k : Int), .string t, .slice ka ks.length kc, .slice ba kids.length bc, .int .i64 ln] 34)).heap.size = w.heap.size + 1 := by simp
  generalize hwz : w.alloc (.cells #[.int .u8 (k : Int), .string t, .slice ka ks.length kc, .slice ba kids.length bc, .int .i64 ln] 34) = wz at *
  obtain ⟨p0, p1, p2, p3, p4⟩ := cells5 g1
  have G1 := Lib.hid g1
  have HN0 : Hid (nodeC lev (.mk k t ks kids ln) = if 16 < lev then 11 else if k < 1 ∨ 3 < k then 7 else if oddT (.mk k t ks kids ln) then 3 else if checkN (bsN t) 4096 = 0 then keysC ks else checkN (bsN t) 4096) := Lib.hid rfl
  rw [rcheckT]
  have HX : Hid (∀ c : Int, nodeC lev (.mk k t ks kids ln) = c → c ≠ 0 → (if nodeC lev (.mk k t ks kids ln) = 0 then rcheckTs (lev + 1) kids else nodeC lev (.mk k t ks kids ln)) = c) := Lib.hid (fun c hc h0 => by rw [hc, if_neg h0])
  have HX0 : Hid (nodeC lev (.mk k t ks kids ln) = 0 → (if nodeC lev (.mk k t ks kids ln) = 0 then rcheckTs (lev + 1) kids else nodeC lev (.mk k t ks kids ln)) = firstNZ (kids.map (rcheckT (lev + 1)))) := Lib.hid (fun hc => by rw [if_pos hc, rcheckTs_first])
  generalize (if nodeC lev (.mk k t ks kids ln) = 0 then rcheckTs (lev + 1) kids else nodeC lev (.mk k t ks kids ln)) = res at *
  clear g1
  by_cases c1 : 16 < lev
  · have HC := Lib.hid (HX.out _ (HN0.out.trans (if_pos c1)) (by decide))
    have d1 : decide ((16 : Int) < (lev : Int)) = true := by simp; omega
    go_enter Try.func143, Try.ntmps143
    go_wp2
    go_ret
    exact ⟨by rw [HC.out]; rfl, hb0⟩
  have d1 : decide ((16 : Int) < (lev : Int)) = false := by simp; omega
  by_cases c2 : k < 1
  · have HC := Lib.hid (HX.out _ (HN0.out.trans ((if_neg c1).trans (if_pos (.inl c2)))) (by decide))
    have d2 : decide ((k : Int) < 1) = true := by simp; omega
    clear c2
    go_enter Try.func143, Try.ntmps143
    go_wp2
    go_ret
    exact ⟨by rw [HC.out]; rfl, hb0⟩
  by_cases c3 : 3 < k
  · have HC := Lib.hid (HX.out _ (HN0.out.trans ((if_neg c1).trans (if_pos (.inr c3)))) (by decide))
    go_enter Try.func143, Try.ntmps143
    go_wp2
    go_ret
    exact ⟨by rw [HC.out]; rfl, hb0⟩
  have HN1 := Lib.hid (HN0.out.trans ((if_neg c1).trans (if_neg (show ¬ (k < 1 ∨ 3 < k) by omega))))
  have d5 : decide ((k : Int) < 1) = false := by simp; omega
  have d6 : decide ((3 : Int) < (k : Int)) = false := by simp; omega
  rcases ho : oddT (.mk k t ks kids ln) with _ | _
  · have HN2 := Lib.hid (HN1.out.trans (if_neg (by rw [ho]; decide)))
    have HRC := Lib.hid (fun W => rCheck_any t 4096 W (by omega))
    have HOD : (k = 1 ∧ ks.length = 0 ∧ kids.length = 0) ∨ (k = 2 ∧ t.size = 0 ∧ ks.length = 0) ∨ (k = 3 ∧ t.size = 0 ∧ ks.length = kids.length) := odd_no ho (by omega) (by omega)
    have HKE : Hid (∀ c : Int, checkN (bsN t) 4096 = 0 → keysC ks = c → c ≠ 0 → res = c) := Lib.hid (fun c h1 h2 h3 => HX.out c (HN2.out.trans ((if_pos h1).trans h2)) h3)
    have HCE : Hid (checkN (bsN t) 4096 ≠ 0 → res = checkN (bsN t) 4096) := Lib.hid (fun h1 => HX.out _ (HN2.out.trans (if_neg h1)) h1)
    have HDE : Hid (checkN (bsN t) 4096 = 0 → keysC ks = 0 → res = firstNZ (kids.map (rcheckT (lev + 1)))) := Lib.hid (fun h1 h2 => HX0.out (HN2.out.trans ((if_pos h1).trans h2)))
    generalize checkN (bsN t) 4096 = cn at *
    clear HN0 HN1 HN2 HX HX0 ho c2 c3
    rcases HOD with ⟨hk, h, h'⟩ | ⟨hk, h, h'⟩ | ⟨hk, h, h'⟩
    · obtain ⟨⟨f1, f2⟩, ⟨f3, f4⟩⟩ := kind_decs hk
      have d2 : decide (0 < kids.length) = false := by rw [h']; rfl
      have d3 : decide (0 < ks.length) = false := by rw [h]; rfl
      clear hk h h'
      go_enter Try.func143, Try.ntmps143
      go_wp2_with fail
      refine (HRC.out _).mono ?_
      rintro e w1 ⟨rfl, rfl⟩
      by_cases hc4 : cn = 0
      · have d7 : (cn != 0) = false := by simp [hc4]
        have HKE1 := Lib.hid (fun c h => HKE.out c hc4 h)
        have HDE1 := Lib.hid (HDE.out hc4)
        clear hc4 HKE HDE HCE
        go_wp2
        go_loopw [6] (fun i wr => ∃ j : Nat, j ≤ ks.length ∧ i = .int .i64 j ∧ Hid (firstNZ ((keysE ks).take j) = 0) ∧ Hid (Below wz.heap.size wz wr)) (fun i _ => ks.length - (intOf i).toNat)
        case atStart => exact ⟨0, by omega, rfl, Lib.hid rfl, Lib.hid (Below.refl _ _)⟩
        case round =>
          obtain ⟨j, hj, rfl, HE, HB⟩ := hrel
          have hbr := HB.out
          obtain ⟨-, -, p2, p3, -⟩ := cells5 ((hbr.block _ (by omega)).trans G1.out)
          by_cases hlt : j < ks.length
          · obtain ⟨g, off, rfl, z1, z2, y1⟩ := strs_at (HK1.out.below hbr) hlt
            have hss := HKS.out _ (List.getElem_mem hlt)
            have HST := Lib.hid (keysC_stop hlt HE.out)
            have HGO := Lib.hid (keysC_go hlt HE.out)
            have HCK := Lib.hid (fun W => rCheck_any ks[j] 64 W (by omega))
            have HKC : Hid (keyC ks j ks[j] = if checkN (bsN ks[j]) 64 = 0 then (if hasS (ks.take j) ks[j] then 6 else 0) else checkN (bsN ks[j]) 64) := Lib.hid rfl
            have HCT := Lib.hid (fun W (hW : Below wz.heap.size wz W) => has20_any (ks.take j) _ ks[j] W (rds_takeS (HK1.out.below hW) (by omega)))
            generalize keyC ks j ks[j] = kcd at *
            generalize checkN (bsN ks[j]) 64 = cn2 at *
            generalize hasS (ks.take j) ks[j] = cb at *
            generalize ks[j] = s1 at *
            have hj0 : (0 : Int) ≤ (j : Int) := by omega
            have hj1 : (j : Int) < (ks.length : Int) := by omega
            have hj2 : (j : Int) ≤ (kc : Int) := by omega
            go_wp2_with fail
            refine (HCK.out _).mono ?_
            rintro e w1 ⟨rfl, rfl⟩
            by_cases hc0 : cn2 = 0
            · have HKC2 : Hid (kcd = if cb then 6 else 0) := Lib.hid (by rw [HKC.out, if_pos hc0])
              have hd : (cn2 != 0) = false := by simp [hc0]
              clear hc0
              go_wp2
              go_still_tail 9, (by kernel_rfl)
              change wpList _ _ _ _ _ wr.drew
              go_wp2_with fail
              refine (HCT.out _ (hbr.drew)).mono ?_
              rintro e w2 ⟨rfl, rfl⟩
              cases cb with
              | true =>
                have HF : Hid (res = 6) := Lib.hid (HKE1.out 6 ((HST.out (by rw [HKC2.out]; decide)).trans HKC2.out) (by decide))
                go_wp2
                go_ret
                exact ⟨by rw [HF.out]; rfl, bthen hb0 (Nat.le_refl _) hbr.drew⟩
              | false =>
                have HF := Lib.hid (HGO.out HKC2.out)
                go_wp2
                go_roundw
                case rel => exact ⟨j + 1, by omega, by go_num, HF, Lib.hid hbr.drew⟩
                case measure => simp [intOf]; omega
            · have HF : Hid (res = cn2) := Lib.hid (HKE1.out cn2 ((HST.out (by rw [HKC.out, if_neg hc0]; exact hc0)).trans (by rw [HKC.out, if_neg hc0])) hc0)
              have hd : (cn2 != 0) = true := by simp [hc0]
              clear hc0
              go_wp2
              go_ret
              exact ⟨by rw [HF.out]; rfl, bthen hb0 (Nat.le_refl _) hbr⟩
          · have HRES : Hid (res = firstNZ (kids.map (rcheckT (lev + 1)))) := Lib.hid (HDE1.out (by
              have h := HE.out
              rwa [List.take_of_length_le (by simp [keysE]; omega)] at h))
            obtain ⟨wo, hwo⟩ : ∃ wo, wo = wr := ⟨_, rfl⟩
            subst hwo
            go_wp2
            go_loopw [8] (fun i wr => ∃ j : Nat, j ≤ kids.length ∧ i = .int .i64 j ∧ Hid (firstNZ ((kids.map (rcheckT (lev + 1))).take j) = 0) ∧ Hid (Below wz.heap.size wz wr)) (fun i _ => kids.length - (intOf i).toNat)
            case atStart => exact ⟨0, by omega, rfl, Lib.hid rfl, Lib.hid hbr⟩
            case round =>
              obtain ⟨i, hi, rfl, HE2, HB2⟩ := hrel
              have hbr2 := HB2.out
              obtain ⟨-, -, -, p3, -⟩ := cells5 ((hbr2.block _ (by omega)).trans G1.out)
              by_cases hlt2 : i < kids.length
              · obtain ⟨g, off, cap, ka1, kc1, ba1, bc1, he, z1, z2, hn, y0, y1, y2, y3, y4⟩ := (HC1.out.below hbr2).at hlt2
                cases he
                have HIH := Lib.hid (IH.out _ (List.getElem_mem hlt2) m (lev + 1) _ wr hn (HKD.out _ (List.getElem_mem hlt2)) (by omega))
                rw [show ((lev + 1 : Nat) : Int) = (lev : Int) + 1 by omega] at HIH
                have hgl : ((kids.map (rcheckT (lev + 1))))[i]'(by simpa using hlt2) = rcheckT (lev + 1) kids[i] := by simp
                have HST := Lib.hid (fun h : rcheckT (lev + 1) kids[i] ≠ 0 => (firstNZ_stop (l := kids.map (rcheckT (lev + 1))) (by simpa using hlt2) HE2.out (by rw [hgl]; exact h)).trans hgl)
                have HGO := Lib.hid (fun h : rcheckT (lev + 1) kids[i] = 0 => firstNZ_go (l := kids.map (rcheckT (lev + 1))) (by simpa using hlt2) HE2.out (by rw [hgl]; exact h))
                clear hgl hn
                generalize rcheckT (lev + 1) kids[i] = rc at *
                have hi0 : (0 : Int) ≤ (i : Int) := by omega
                have hi1 : (i : Int) < (kids.length : Int) := by omega
                go_wp2_with fail
                refine HIH.out.mono ?_
                rintro e w5 ⟨rfl, hb5⟩
                have hbw5 := bthen hbr2 (Nat.le_refl _) hb5
                have hbw5' : Below wz.heap.size wz w5 := hbr2.trans (hb5.mono hbr2.size)
                clear y0 y1 y2 y3 y4 p3
                by_cases hrc : rc = 0
                · have hd : (rc != 0) = false := by simp [hrc]
                  have HG := Lib.hid (HGO.out hrc)
                  clear hrc
                  go_wp2
                  go_roundw
                  case rel => exact ⟨i + 1, by omega, by go_num, HG, Lib.hid hbw5'⟩
                  case measure => simp [intOf]; omega
                · have hd : (rc != 0) = true := by simp [hrc]
                  have HG := Lib.hid (HRES.out.trans (HST.out hrc))
                  clear hrc
                  go_wp2
                  go_ret
                  exact ⟨by rw [HG.out]; rfl, bthen hb0 (Nat.le_refl _) hbw5'⟩
              · have HG : Hid (res = 0) := Lib.hid (HRES.out.trans (by
                  have h := HE2.out
                  rwa [List.take_of_length_le (by simp; omega)] at h))
                go_wp2
                go_ret
                exact ⟨by rw [HG.out]; rfl, bthen hb0 (Nat.le_refl _) hbr2⟩
      · have d7 : (cn != 0) = true := by simp [hc4]
        have HG := Lib.hid (HCE.out hc4)
        clear hc4
        go_wp2
        go_ret
        exact ⟨by rw [HG.out]; rfl, hb0⟩
    · obtain ⟨⟨f1, f2⟩, ⟨f3, f4⟩⟩ := kind_decs hk
      have htn : t.toList = [] := (toList_nil t).2 h
      have htb : t.toList.isEmpty = true := by rw [htn]; rfl
      have d3 : decide (0 < ks.length) = false := by rw [h']; rfl
      clear hk h h'
      go_enter Try.func143, Try.ntmps143
      go_wp2_with fail
      refine (HRC.out _).mono ?_
      rintro e w1 ⟨rfl, rfl⟩
      by_cases hc4 : cn = 0
      · have d7 : (cn != 0) = false := by simp [hc4]
        have HKE1 := Lib.hid (fun c h => HKE.out c hc4 h)
        have HDE1 := Lib.hid (HDE.out hc4)
        clear hc4 HKE HDE HCE
        go_wp2
        go_loopw [6] (fun i wr => ∃ j : Nat, j ≤ ks.length ∧ i = .int .i64 j ∧ Hid (firstNZ ((keysE ks).take j) = 0) ∧ Hid (Below wz.heap.size wz wr)) (fun i _ => ks.length - (intOf i).toNat)
        case atStart => exact ⟨0, by omega, rfl, Lib.hid rfl, Lib.hid (Below.refl _ _)⟩
        case round =>
          obtain ⟨j, hj, rfl, HE, HB⟩ := hrel
          have hbr := HB.out
          obtain ⟨-, -, p2, p3, -⟩ := cells5 ((hbr.block _ (by omega)).trans G1.out)
          by_cases hlt : j < ks.length
          · obtain ⟨g, off, rfl, z1, z2, y1⟩ := strs_at (HK1.out.below hbr) hlt
            have hss := HKS.out _ (List.getElem_mem hlt)
            have HST := Lib.hid (keysC_stop hlt HE.out)
            have HGO := Lib.hid (keysC_go hlt HE.out)
            have HCK := Lib.hid (fun W => rCheck_any ks[j] 64 W (by omega))
            have HKC : Hid (keyC ks j ks[j] = if checkN (bsN ks[j]) 64 = 0 then (if hasS (ks.take j) ks[j] then 6 else 0) else checkN (bsN ks[j]) 64) := Lib.hid rfl
            have HCT := Lib.hid (fun W (hW : Below wz.heap.size wz W) => has20_any (ks.take j) _ ks[j] W (rds_takeS (HK1.out.below hW) (by omega)))
            generalize keyC ks j ks[j] = kcd at *
            generalize checkN (bsN ks[j]) 64 = cn2 at *
            generalize hasS (ks.take j) ks[j] = cb at *
            generalize ks[j] = s1 at *
            have hj0 : (0 : Int) ≤ (j : Int) := by omega
            have hj1 : (j : Int) < (ks.length : Int) := by omega
            have hj2 : (j : Int) ≤ (kc : Int) := by omega
            go_wp2_with fail
            refine (HCK.out _).mono ?_
            rintro e w1 ⟨rfl, rfl⟩
            by_cases hc0 : cn2 = 0
            · have HKC2 : Hid (kcd = if cb then 6 else 0) := Lib.hid (by rw [HKC.out, if_pos hc0])
              have hd : (cn2 != 0) = false := by simp [hc0]
              clear hc0
              go_wp2
              go_still_tail 9, (by kernel_rfl)
              change wpList _ _ _ _ _ wr.drew
              go_wp2_with fail
              refine (HCT.out _ (hbr.drew)).mono ?_
              rintro e w2 ⟨rfl, rfl⟩
              cases cb with
              | true =>
                have HF : Hid (res = 6) := Lib.hid (HKE1.out 6 ((HST.out (by rw [HKC2.out]; decide)).trans HKC2.out) (by decide))
                go_wp2
                go_ret
                exact ⟨by rw [HF.out]; rfl, bthen hb0 (Nat.le_refl _) hbr.drew⟩
              | false =>
                have HF := Lib.hid (HGO.out HKC2.out)
                go_wp2
                go_roundw
                case rel => exact ⟨j + 1, by omega, by go_num, HF, Lib.hid hbr.drew⟩
                case measure => simp [intOf]; omega
            · have HF : Hid (res = cn2) := Lib.hid (HKE1.out cn2 ((HST.out (by rw [HKC.out, if_neg hc0]; exact hc0)).trans (by rw [HKC.out, if_neg hc0])) hc0)
              have hd : (cn2 != 0) = true := by simp [hc0]
              clear hc0
              go_wp2
              go_ret
              exact ⟨by rw [HF.out]; rfl, bthen hb0 (Nat.le_refl _) hbr⟩
          · have HRES : Hid (res = firstNZ (kids.map (rcheckT (lev + 1)))) := Lib.hid (HDE1.out (by
              have h := HE.out
              rwa [List.take_of_length_le (by simp [keysE]; omega)] at h))
            obtain ⟨wo, hwo⟩ : ∃ wo, wo = wr := ⟨_, rfl⟩
            subst hwo
            go_wp2
            go_loopw [8] (fun i wr => ∃ j : Nat, j ≤ kids.length ∧ i = .int .i64 j ∧ Hid (firstNZ ((kids.map (rcheckT (lev + 1))).take j) = 0) ∧ Hid (Below wz.heap.size wz wr)) (fun i _ => kids.length - (intOf i).toNat)
            case atStart => exact ⟨0, by omega, rfl, Lib.hid rfl, Lib.hid hbr⟩
            case round =>
              obtain ⟨i, hi, rfl, HE2, HB2⟩ := hrel
              have hbr2 := HB2.out
              obtain ⟨-, -, -, p3, -⟩ := cells5 ((hbr2.block _ (by omega)).trans G1.out)
              by_cases hlt2 : i < kids.length
              · obtain ⟨g, off, cap, ka1, kc1, ba1, bc1, he, z1, z2, hn, y0, y1, y2, y3, y4⟩ := (HC1.out.below hbr2).at hlt2
                cases he
                have HIH := Lib.hid (IH.out _ (List.getElem_mem hlt2) m (lev + 1) _ wr hn (HKD.out _ (List.getElem_mem hlt2)) (by omega))
                rw [show ((lev + 1 : Nat) : Int) = (lev : Int) + 1 by omega] at HIH
                have hgl : ((kids.map (rcheckT (lev + 1))))[i]'(by simpa using hlt2) = rcheckT (lev + 1) kids[i] := by simp
                have HST := Lib.hid (fun h : rcheckT (lev + 1) kids[i] ≠ 0 => (firstNZ_stop (l := kids.map (rcheckT (lev + 1))) (by simpa using hlt2) HE2.out (by rw [hgl]; exact h)).trans hgl)
                have HGO := Lib.hid (fun h : rcheckT (lev + 1) kids[i] = 0 => firstNZ_go (l := kids.map (rcheckT (lev + 1))) (by simpa using hlt2) HE2.out (by rw [hgl]; exact h))
                clear hgl hn
                generalize rcheckT (lev + 1) kids[i] = rc at *
                have hi0 : (0 : Int) ≤ (i : Int) := by omega
                have hi1 : (i : Int) < (kids.length : Int) := by omega
                go_wp2_with fail
                refine HIH.out.mono ?_
                rintro e w5 ⟨rfl, hb5⟩
                have hbw5 := bthen hbr2 (Nat.le_refl _) hb5
                have hbw5' : Below wz.heap.size wz w5 := hbr2.trans (hb5.mono hbr2.size)
                clear y0 y1 y2 y3 y4 p3
                by_cases hrc : rc = 0
                · have hd : (rc != 0) = false := by simp [hrc]
                  have HG := Lib.hid (HGO.out hrc)
                  clear hrc
                  go_wp2
                  go_roundw
                  case rel => exact ⟨i + 1, by omega, by go_num, HG, Lib.hid hbw5'⟩
                  case measure => simp [intOf]; omega
                · have hd : (rc != 0) = true := by simp [hrc]
                  have HG := Lib.hid (HRES.out.trans (HST.out hrc))
                  clear hrc
                  go_wp2
                  go_ret
                  exact ⟨by rw [HG.out]; rfl, bthen hb0 (Nat.le_refl _) hbw5'⟩
              · have HG : Hid (res = 0) := Lib.hid (HRES.out.trans (by
                  have h := HE2.out
                  rwa [List.take_of_length_le (by simp; omega)] at h))
                go_wp2
                go_ret
                exact ⟨by rw [HG.out]; rfl, bthen hb0 (Nat.le_refl _) hbr2⟩
      · have d7 : (cn != 0) = true := by simp [hc4]
        have HG := Lib.hid (HCE.out hc4)
        clear hc4
        go_wp2
        go_ret
        exact ⟨by rw [HG.out]; rfl, hb0⟩
    · obtain ⟨⟨f1, f2⟩, ⟨f3, f4⟩⟩ := kind_decs hk
      have htn : t.toList = [] := (toList_nil t).2 h
      have htb : t.toList.isEmpty = true := by rw [htn]; rfl
      have d3 : ((ks.length : Int) != (kids.length : Int)) = false := by simp; omega
      clear hk h h'
      go_enter Try.func143, Try.ntmps143
      go_wp2_with fail
      refine (HRC.out _).mono ?_
      rintro e w1 ⟨rfl, rfl⟩
      by_cases hc4 : cn = 0
      · have d7 : (cn != 0) = false := by simp [hc4]
        have HKE1 := Lib.hid (fun c h => HKE.out c hc4 h)
        have HDE1 := Lib.hid (HDE.out hc4)
        clear hc4 HKE HDE HCE
        go_wp2
        go_loopw [6] (fun i wr => ∃ j : Nat, j ≤ ks.length ∧ i = .int .i64 j ∧ Hid (firstNZ ((keysE ks).take j) = 0) ∧ Hid (Below wz.heap.size wz wr)) (fun i _ => ks.length - (intOf i).toNat)
        case atStart => exact ⟨0, by omega, rfl, Lib.hid rfl, Lib.hid (Below.refl _ _)⟩
        case round =>
          obtain ⟨j, hj, rfl, HE, HB⟩ := hrel
          have hbr := HB.out
          obtain ⟨-, -, p2, p3, -⟩ := cells5 ((hbr.block _ (by omega)).trans G1.out)
          by_cases hlt : j < ks.length
          · obtain ⟨g, off, rfl, z1, z2, y1⟩ := strs_at (HK1.out.below hbr) hlt
            have hss := HKS.out _ (List.getElem_mem hlt)
            have HST := Lib.hid (keysC_stop hlt HE.out)
            have HGO := Lib.hid (keysC_go hlt HE.out)
            have HCK := Lib.hid (fun W => rCheck_any ks[j] 64 W (by omega))
            have HKC : Hid (keyC ks j ks[j] = if checkN (bsN ks[j]) 64 = 0 then (if hasS (ks.take j) ks[j] then 6 else 0) else checkN (bsN ks[j]) 64) := Lib.hid rfl
            have HCT := Lib.hid (fun W (hW : Below wz.heap.size wz W) => has20_any (ks.take j) _ ks[j] W (rds_takeS (HK1.out.below hW) (by omega)))
            generalize keyC ks j ks[j] = kcd at *
            generalize checkN (bsN ks[j]) 64 = cn2 at *
            generalize hasS (ks.take j) ks[j] = cb at *
            generalize ks[j] = s1 at *
            have hj0 : (0 : Int) ≤ (j : Int) := by omega
            have hj1 : (j : Int) < (ks.length : Int) := by omega
            have hj2 : (j : Int) ≤ (kc : Int) := by omega
            go_wp2_with fail
            refine (HCK.out _).mono ?_
            rintro e w1 ⟨rfl, rfl⟩
            by_cases hc0 : cn2 = 0
            · have HKC2 : Hid (kcd = if cb then 6 else 0) := Lib.hid (by rw [HKC.out, if_pos hc0])
              have hd : (cn2 != 0) = false := by simp [hc0]
              clear hc0
              go_wp2
              go_still_tail 9, (by kernel_rfl)
              change wpList _ _ _ _ _ wr.drew
              go_wp2_with fail
              refine (HCT.out _ (hbr.drew)).mono ?_
              rintro e w2 ⟨rfl, rfl⟩
              cases cb with
              | true =>
                have HF : Hid (res = 6) := Lib.hid (HKE1.out 6 ((HST.out (by rw [HKC2.out]; decide)).trans HKC2.out) (by decide))
                go_wp2
                go_ret
                exact ⟨by rw [HF.out]; rfl, bthen hb0 (Nat.le_refl _) hbr.drew⟩
              | false =>
                have HF := Lib.hid (HGO.out HKC2.out)
                go_wp2
                go_roundw
                case rel => exact ⟨j + 1, by omega, by go_num, HF, Lib.hid hbr.drew⟩
                case measure => simp [intOf]; omega
            · have HF : Hid (res = cn2) := Lib.hid (HKE1.out cn2 ((HST.out (by rw [HKC.out, if_neg hc0]; exact hc0)).trans (by rw [HKC.out, if_neg hc0])) hc0)
              have hd : (cn2 != 0) = true := by simp [hc0]
              clear hc0
              go_wp2
              go_ret
              exact ⟨by rw [HF.out]; rfl, bthen hb0 (Nat.le_refl _) hbr⟩
          · have HRES : Hid (res = firstNZ (kids.map (rcheckT (lev + 1)))) := Lib.hid (HDE1.out (by
              have h := HE.out
              rwa [List.take_of_length_le (by simp [keysE]; omega)] at h))
            obtain ⟨wo, hwo⟩ : ∃ wo, wo = wr := ⟨_, rfl⟩
            subst hwo
            go_wp2
            go_loopw [8] (fun i wr => ∃ j : Nat, j ≤ kids.length ∧ i = .int .i64 j ∧ Hid (firstNZ ((kids.map (rcheckT (lev + 1))).take j) = 0) ∧ Hid (Below wz.heap.size wz wr)) (fun i _ => kids.length - (intOf i).toNat)
            case atStart => exact ⟨0, by omega, rfl, Lib.hid rfl, Lib.hid hbr⟩
            case round =>
              obtain ⟨i, hi, rfl, HE2, HB2⟩ := hrel
              have hbr2 := HB2.out
              obtain ⟨-, -, -, p3, -⟩ := cells5 ((hbr2.block _ (by omega)).trans G1.out)
              by_cases hlt2 : i < kids.length
              · obtain ⟨g, off, cap, ka1, kc1, ba1, bc1, he, z1, z2, hn, y0, y1, y2, y3, y4⟩ := (HC1.out.below hbr2).at hlt2
                cases he
                have HIH := Lib.hid (IH.out _ (List.getElem_mem hlt2) m (lev + 1) _ wr hn (HKD.out _ (List.getElem_mem hlt2)) (by omega))
                rw [show ((lev + 1 : Nat) : Int) = (lev : Int) + 1 by omega] at HIH
                have hgl : ((kids.map (rcheckT (lev + 1))))[i]'(by simpa using hlt2) = rcheckT (lev + 1) kids[i] := by simp
                have HST := Lib.hid (fun h : rcheckT (lev + 1) kids[i] ≠ 0 => (firstNZ_stop (l := kids.map (rcheckT (lev + 1))) (by simpa using hlt2) HE2.out (by rw [hgl]; exact h)).trans hgl)
                have HGO := Lib.hid (fun h : rcheckT (lev + 1) kids[i] = 0 => firstNZ_go (l := kids.map (rcheckT (lev + 1))) (by simpa using hlt2) HE2.out (by rw [hgl]; exact h))
                clear hgl hn
                generalize rcheckT (lev + 1) kids[i] = rc at *
                have hi0 : (0 : Int) ≤ (i : Int) := by omega
                have hi1 : (i : Int) < (kids.length : Int) := by omega
                go_wp2_with fail
                refine HIH.out.mono ?_
                rintro e w5 ⟨rfl, hb5⟩
                have hbw5 := bthen hbr2 (Nat.le_refl _) hb5
                have hbw5' : Below wz.heap.size wz w5 := hbr2.trans (hb5.mono hbr2.size)
                clear y0 y1 y2 y3 y4 p3
                by_cases hrc : rc = 0
                · have hd : (rc != 0) = false := by simp [hrc]
                  have HG := Lib.hid (HGO.out hrc)
                  clear hrc
                  go_wp2
                  go_roundw
                  case rel => exact ⟨i + 1, by omega, by go_num, HG, Lib.hid hbw5'⟩
                  case measure => simp [intOf]; omega
                · have hd : (rc != 0) = true := by simp [hrc]
                  have HG := Lib.hid (HRES.out.trans (HST.out hrc))
                  clear hrc
                  go_wp2
                  go_ret
                  exact ⟨by rw [HG.out]; rfl, bthen hb0 (Nat.le_refl _) hbw5'⟩
              · have HG : Hid (res = 0) := Lib.hid (HRES.out.trans (by
                  have h := HE2.out
                  rwa [List.take_of_length_le (by simp; omega)] at h))
                go_wp2
                go_ret
                exact ⟨by rw [HG.out]; rfl, bthen hb0 (Nat.le_refl _) hbr2⟩
      · have d7 : (cn != 0) = true := by simp [hc4]
        have HG := Lib.hid (HCE.out hc4)
        clear hc4
        go_wp2
        go_ret
        exact ⟨by rw [HG.out]; rfl, hb0⟩
  · have HC := Lib.hid (HX.out _ (HN1.out.trans (if_pos ho)) (by decide))
    rcases odd_yes ho (by omega) (by omega) with ⟨hk, h⟩ | ⟨hk, h, h'⟩ | ⟨hk, h⟩ | ⟨hk, h, h'⟩ | ⟨hk, h⟩ | ⟨hk, h, h'⟩
    · have d2 : decide (0 < kids.length) = true := decide_eq_true h
      obtain ⟨⟨f1, f2⟩, ⟨f3, f4⟩⟩ := kind_decs hk
      clear ho c1 c2 c3 HN0 HN1 HX HX0 hk
      go_enter Try.func143, Try.ntmps143
      go_wp2
      go_ret
      exact ⟨by rw [HC.out]; rfl, hb0⟩
    · have d2 : decide (0 < kids.length) = false := by rw [h]; rfl
      have d3 : decide (0 < ks.length) = true := decide_eq_true h'
      obtain ⟨⟨f1, f2⟩, ⟨f3, f4⟩⟩ := kind_decs hk
      clear ho c1 c2 c3 HN0 HN1 HX HX0 hk h
      go_enter Try.func143, Try.ntmps143
      go_wp2
      go_ret
      exact ⟨by rw [HC.out]; rfl, hb0⟩
    · have htn : ¬ t.toList = [] := fun hh => h ((toList_nil t).1 hh)
      have htb : t.toList.isEmpty = false := by simpa using htn
      obtain ⟨⟨f1, f2⟩, ⟨f3, f4⟩⟩ := kind_decs hk
      clear ho c1 c2 c3 HN0 HN1 HX HX0 hk h
      go_enter Try.func143, Try.ntmps143
      go_wp2
      go_ret
      exact ⟨by rw [HC.out]; rfl, hb0⟩
    · have htn : t.toList = [] := (toList_nil t).2 h
      have htb : t.toList.isEmpty = true := by rw [htn]; rfl
      have d3 : decide (0 < ks.length) = true := decide_eq_true h'
      obtain ⟨⟨f1, f2⟩, ⟨f3, f4⟩⟩ := kind_decs hk
      clear ho c1 c2 c3 HN0 HN1 HX HX0 hk h
      go_enter Try.func143, Try.ntmps143
      go_wp2
      go_ret
      exact ⟨by rw [HC.out]; rfl, hb0⟩
    · have htn : ¬ t.toList = [] := fun hh => h ((toList_nil t).1 hh)
      have htb : t.toList.isEmpty = false := by simpa using htn
      obtain ⟨⟨f1, f2⟩, ⟨f3, f4⟩⟩ := kind_decs hk
      clear ho c1 c2 c3 HN0 HN1 HX HX0 hk h
      go_enter Try.func143, Try.ntmps143
      go_wp2
      go_ret
      exact ⟨by rw [HC.out]; rfl, hb0⟩
    · have htn : t.toList = [] := (toList_nil t).2 h
      have htb : t.toList.isEmpty = true := by rw [htn]; rfl
      have d3 : ((ks.length : Int) != (kids.length : Int)) = true := by simp; omega
      obtain ⟨⟨f1, f2⟩, ⟨f3, f4⟩⟩ := kind_decs hk
      clear ho c1 c2 c3 HN0 HN1 HX HX0 hk h h'
      go_enter Try.func143, Try.ntmps143
      go_wp2
      go_ret
      exact ⟨by rw [HC.out]; rfl, hb0⟩

set_option maxRecDepth 100000 in
theorem rCheckT_any (x : Tree) (cs : List Value) (w : World) (h : NodeR w cs x) (hs : SmallP 18 x) :
    Calls Try.prog 120 #[.agg cs.toArray] w fun e w' => e = .returned (.int .i64 (checkT x)) ∧ Below w.heap.size w w' := by
  rw [← rcheckT_check]
  have H := Lib.hid h
  obtain ⟨ka, kc, ba, bc, rfl⟩ := h.cells
  clear h
  have hb0 := (Below.refl w.heap.size w).alloc (Nat.le_refl _) (.cells #[.int .u8 (x.kind : Int), .string x.text, .slice ka x.keys.length kc, .slice ba x.kids.length bc, .int .i64 x.line] 34)
  have HC := Lib.hid (rcheck_any x 18 1 _ _ (H.out.belowW hb0) hs (by omega))
  go_enter Try.func120, Try.ntmps120
  go_wp2_with fail
  refine HC.out.mono ?_
  rintro e w1 ⟨rfl, hb1⟩
  go_wp2
  go_ret
  exact ⟨rfl, bthen hb0 (Nat.le_refl _) hb1⟩

theorem sizeD_snoc {n : Nat} {kids : List Tree} {j : Nat} (hj : j < kids.length) : depthTs n (kids.take (j + 1)) = max (depthTs n (kids.take j)) (depthT n kids[j]) ∧ countTs n (kids.take (j + 1)) = countTs n (kids.take j) + countT n kids[j] := by
  have key : ∀ (a : List Tree) (x : Tree), depthTs n (a ++ [x]) = max (depthTs n a) (depthT n x) ∧ countTs n (a ++ [x]) = countTs n a + countT n x := by
    intro a x
    induction a with
    | nil => simp [depthTs, countTs]
    | cons b a ih => simp only [List.cons_append, depthTs, countTs, ih.1, ih.2]; omega
  rw [List.take_succ_eq_append_getElem hj]
  exact key _ _
theorem depthT_le : ∀ t n, depthT n t ≤ n := by
  refine Tree.ind fun k t ks kids l ih n => ?_
  cases n with
  | zero => simp [depthT]
  | succ n =>
    rw [depthT]
    have : ∀ m : List Tree, (∀ x ∈ m, x ∈ kids) → depthTs n m ≤ n := by
      intro m hm
      induction m with
      | nil => simp [depthTs]
      | cons a m ihm =>
        rw [depthTs]
        have := ih a (hm a (List.mem_cons_self ..)) n
        have := ihm (fun x hx => hm x (List.mem_cons_of_mem _ hx))
        omega
    have := this kids (fun x hx => hx)
    omega
theorem depthTs_le (l : List Tree) (n : Nat) : depthTs n l ≤ n := by
  induction l with
  | nil => simp [depthTs]
  | cons a l ih => rw [depthTs]; have := depthT_le a n; omega

set_option maxRecDepth 100000 in
set_option maxHeartbeats 2000000 in
theorem TreeSize_any : ∀ (x : Tree) (n : Nat) (cs : List Value) (w : World), NodeR w cs x → n ≤ 1000 →
    Calls Try.prog 121 #[.agg cs.toArray, .int .i64 (n : Int)] w fun e w' => ∃ c : Int, e = .returned (.tuple #[.int .i64 (depthT n x : Int), .int .i64 c]) ∧ Below w.heap.size w w' := by
  have hmx := @run_max2 Try.prog
  refine Tree.ind fun k t ks kids ln ih n cs w ha hn => ?_
  obtain ⟨vk, vc, rfl, hk8, _, _, _, hk1, hc1⟩ := ha.parts
  obtain ⟨ba, bc, rfl, hv1, hv2⟩ := hc1.form
  obtain ⟨ka, kc, rfl⟩ := hk1.form
  have hb0 := (Below.refl w.heap.size w).alloc (Nat.le_refl _) (.cells #[.int .u8 (k : Int), .string t, .slice ka ks.length kc, .slice ba kids.length bc, .int .i64 ln] 34)
  have g1 := World.alloc_heap_new w (.cells #[.int .u8 (k : Int), .string t, .slice ka ks.length kc, .slice ba kids.length bc, .int .i64 ln] 34)
  have HC1 := Lib.hid (hc1.below hb0)
  have IH := Lib.hid ih
  clear ha hk1 hc1 ih
  have hsz : (w.alloc (.cells #[.int .u8 (k : Int), .string t, .slice ka ks.length kc, .slice ba kids.length bc, .int .i64 ln] 34)).heap.size = w.heap.size + 1 := by simp
  generalize hwz : w.alloc (.cells #[.int .u8 (k : Int), .string t, .slice ka ks.length kc, .slice ba kids.length bc, .int .i64 ln] 34) = wz at *
  obtain ⟨p0, p1, p2, p3, p4⟩ := cells5 g1
  have G1 := Lib.hid g1
  clear g1
  cases n with
  | zero =>
    rw [depthT]
    go_enter Try.func121, Try.ntmps121
    go_wp2
    go_ret2
    exact ⟨_, rfl, hb0⟩
  | succ n =>
    obtain ⟨lev, hlev⟩ : ∃ lev : Int, ((n + 1 : Nat) : Int) = lev := ⟨_, rfl⟩
    have hlv1 : 1 ≤ lev := by omega
    have hlv2 : lev ≤ 1000 := by omega
    have HLV := Lib.hid (show lev - 1 = (n : Int) by omega)
    have d1 : decide (lev < 1) = false := by simp; omega
    have hdl := depthTs_le kids n
    rw [hlev, depthT]
    clear hlev
    go_enter Try.func121, Try.ntmps121
    go_wp2
    go_loopw [6, 7, 8] (fun d c i wr => ∃ (j : Nat) (cc : Int), j ≤ kids.length ∧ i = .int .i64 j ∧ d = .int .i64 (depthTs n (kids.take j) : Int) ∧ c = .int .i64 cc ∧ Hid (Below wz.heap.size wz wr)) (fun _ _ i _ => kids.length - (intOf i).toNat)
    case atStart => exact ⟨0, 1, by omega, rfl, rfl, rfl, Lib.hid (Below.refl _ _)⟩
    case round =>
      obtain ⟨j, cc, hj, rfl, rfl, rfl, HB⟩ := hrel
      have hbr := HB.out
      obtain ⟨-, -, -, p3, -⟩ := cells5 ((hbr.block _ (by omega)).trans G1.out)
      by_cases hlt : j < kids.length
      · obtain ⟨g, off, cap, ka1, kc1, ba1, bc1, he, z1, z2, hn', y0, y1, y2, y3, y4⟩ := (HC1.out.below hbr).at hlt
        cases he
        have HIH := Lib.hid (IH.out _ (List.getElem_mem hlt) n _ wr hn' (by omega))
        have HSN := Lib.hid (sizeD_snoc (n := n) hlt).1
        have hd1 := depthT_le kids[j] n
        have hd2 := depthTs_le (kids.take j) n
        clear hn'
        generalize depthT n kids[j] = dk at *
        have hj0 : (0 : Int) ≤ (j : Int) := by omega
        have hj1 : (j : Int) < (kids.length : Int) := by omega
        have hlv := HLV.out
        go_wp2_with fail
        refine HIH.out.mono ?_
        rintro e w5 ⟨c5, rfl, hb5⟩
        have hbw5' : Below wz.heap.size wz w5 := hbr.trans (hb5.mono hbr.size)
        clear y0 y1 y2 y3 y4 p3
        go_wp2
        go_roundw
        case rel => exact ⟨j + 1, _, by omega, by go_num, by rw [HSN.out]; congr 1; omega, rfl, Lib.hid hbw5'⟩
        case measure => simp [intOf]; omega
      · have e : kids.take j = kids := List.take_of_length_le (by omega)
        rw [e]
        clear e
        go_wp2
        go_ret2
        exact ⟨_, (by rw [show ((depthTs n kids + 1 : Nat) : Int) = (depthTs n kids : Int) + 1 by omega]; try rfl), bthen hb0 (Nat.le_refl _) hbr⟩

/-- Is it no note? -/
def noneT (x : Tree) : Bool := decide (x.kind = 0) && decide (x.text.size = 0) && decide (x.keys.length = 0) && decide (x.kids.length = 0)
end Go.Proofs.Ytlakmfhpinljjaa

/-
  def: note, texts, fits: contracts; what is wrong with a step and a definition (plain).
-/
namespace Go.Proofs.Ytlakmfhpinljjaa
open Go Go.RowKit Go.WideShapes

def c64 (s : ByteArray) : Int := checkN (bsN s) 64
def textsC (l : List ByteArray) : Int := firstNZ (l.map c64)
def fitsB (l : List Int) : Bool := l.all fun x => decide (0 ≤ x) && decide (x ≤ 999999999)
def stepC (s : StepD) : Int :=
  if textsC [s.name, s.action, s.undo] ≠ 0 then textsC [s.name, s.action, s.undo]
  else if 64 < s.after.length then 2
  else if textsC s.after ≠ 0 then textsC s.after
  else if fitsB [s.most, s.first, s.factor, s.limit] = false then 1
  else if noneT s.note then 0
  else if checkT s.note ≠ 0 then checkT s.note
  else if 13 < depthT 18 s.note then 11 else 0
/-- What is wrong with steps, and with which: the first, counted from 1. -/
def stepsC : List StepD → Nat → Int × Int
  | [], _ => (0, 0)
  | s :: l, i => if stepC s = 0 then stepsC l (i + 1) else (stepC s, (i : Int) + 1)
def defC (d : DefD) : Int × Int :=
  if c64 d.name ≠ 0 then (c64 d.name, 0)
  else if checkN (bsN d.text) 4096 ≠ 0 then (checkN (bsN d.text) 4096, 0)
  else if 1024 < d.steps.length then (2, 0)
  else stepsC d.steps 0
theorem stepsC_go {l : List StepD} {k : Nat} : ∀ {i : Nat}, (∀ s ∈ l.take k, stepC s = 0) → stepsC l i = stepsC (l.drop k) (i + k) := by
  induction k generalizing l with
  | zero => intro i _; simp
  | succ k ih =>
    intro i h
    cases l with
    | nil => simp [stepsC]
    | cons a l =>
      rw [stepsC, if_pos (h a (by simp)), List.drop_succ_cons, ih (fun s hs => h s (by simp [hs]))]
      congr 1; omega
theorem stepsC_stop {l : List StepD} {k : Nat} (hk : k < l.length) (h : ∀ s ∈ l.take k, stepC s = 0) (h1 : stepC l[k] ≠ 0) : stepsC l 0 = (stepC l[k], (k : Int) + 1) := by
  rw [stepsC_go (k := k) h, List.drop_eq_getElem_cons hk, stepsC, if_neg h1]; simp
theorem stepsC_all {l : List StepD} (h : ∀ s ∈ l, stepC s = 0) : stepsC l 0 = (0, 0) := by
  rw [stepsC_go (k := l.length) (by simpa using h)]; simp [stepsC]
theorem take_all {α : Type} {p : α → Prop} {l : List α} {k : Nat} (hk : k < l.length) (h : ∀ s ∈ l.take k, p s) (h1 : p l[k]) : ∀ s ∈ l.take (k + 1), p s := by
  rw [List.take_succ_eq_append_getElem hk]
  intro s hs
  rcases List.mem_append.1 hs with hs | hs
  · exact h s hs
  · rw [List.mem_singleton.1 hs]; exact h1
theorem textsC_stop {l : List ByteArray} {k : Nat} (hk : k < l.length) (h0 : firstNZ ((l.map c64).take k) = 0) (h1 : c64 l[k] ≠ 0) : textsC l = c64 l[k] := by
  have e : (l.map c64)[k]'(by simpa using hk) = c64 l[k] := by simp
  unfold textsC
  rw [firstNZ_stop (by simpa using hk) h0 (by rw [e]; exact h1), e]
theorem textsC_go {l : List ByteArray} {k : Nat} (hk : k < l.length) (h0 : firstNZ ((l.map c64).take k) = 0) (h1 : c64 l[k] = 0) : firstNZ ((l.map c64).take (k + 1)) = 0 :=
  firstNZ_go (by simpa using hk) h0 (by simpa using h1)
theorem textsC_all {l : List ByteArray} {k : Nat} (hk : ¬ k < l.length) (h0 : firstNZ ((l.map c64).take k) = 0) : textsC l = 0 := by
  rwa [List.take_of_length_le (by simp; omega)] at h0

set_option maxRecDepth 100000 in
theorem texts_any (l : List ByteArray) (v : Value) (w : World) (hv : RdS w v 1 l.length (strsV l)) (hs : ∀ s ∈ l, s.size ≤ 9223372036854775807) :
    Calls Try.prog 51 #[v] w fun e w' => e = .returned (.int .i64 (textsC l)) ∧ Below w.heap.size w w' := by
  have HV := Lib.hid hv
  have HS := Lib.hid hs
  have hl63 := rds_len2 hv
  obtain ⟨a, cap, rfl⟩ := hv.form
  clear hv hs
  go_enter Try.func51, Try.ntmps51
  go_wp2
  go_loopw [8] (fun i wr => ∃ k : Nat, k ≤ l.length ∧ i = .int .i64 k ∧ Hid (firstNZ ((l.map c64).take k) = 0) ∧ Hid (Below w.heap.size w wr)) (fun i _ => l.length - (intOf i).toNat)
  case atStart => exact ⟨0, by omega, rfl, Lib.hid rfl, Lib.hid (Below.refl _ _)⟩
  case round =>
    obtain ⟨k, hk, rfl, HE, HB⟩ := hrel
    by_cases hlt : k < l.length
    · obtain ⟨g, off, rfl, q1, q2, c1⟩ := strs_at (HV.out.below HB.out) hlt
      have hss := HS.out _ (List.getElem_mem hlt)
      have HST := Lib.hid (textsC_stop hlt HE.out)
      have HGO := Lib.hid (textsC_go hlt HE.out)
      have HCK : Hid (∀ w, Calls Try.prog 52 #[.string l[k], .int .i64 64] w fun e w' => e = .returned (.int .i64 (c64 l[k])) ∧ Below w.heap.size w w') := Lib.hid (fun w => Check_any l[k] 64 w hss)
      generalize c64 l[k] = cn at *
      generalize l[k] = s1 at *
      have hk0 : (0 : Int) ≤ (k : Int) := by omega
      have hk1 : (k : Int) < (l.length : Int) := by omega
      go_wp2_with fail
      refine (HCK.out _).mono ?_
      rintro e w1 ⟨rfl, hb1⟩
      have hbw1 := bthen HB.out (Nat.le_refl _) hb1
      clear c1
      by_cases hc0 : cn = 0
      · have HF := Lib.hid (HGO.out hc0)
        have hd : (cn != 0) = false := by simp [hc0]
        clear hc0
        go_wp2
        go_roundw
        case rel => exact ⟨k + 1, by omega, by go_num, HF, Lib.hid hbw1⟩
        case measure => simp [intOf]; omega
      · have HF := Lib.hid (HST.out hc0)
        have hd : (cn != 0) = true := by simp [hc0]
        clear hc0
        go_wp2
        go_ret
        exact ⟨by rw [HF.out]; rfl, hbw1⟩
    · have HF := Lib.hid (textsC_all hlt HE.out)
      go_wp2
      go_ret
      exact ⟨by rw [HF.out]; rfl, HB.out⟩

theorem ints64_at {w : World} {a : Option Addr} {cap : Nat} {l : List Int} (h : RdS w (.slice a l.length cap) 1 l.length (ints .i64 l)) {i : Nat} (hi : i < l.length) :
    ∃ g off, a = some ⟨g, off, none⟩ ∧ l.length ≤ cap ∧ cap ≤ 9223372036854775807 ∧ w.cell? ⟨g, off + i, none⟩ = some (.int .i64 l[i]) := by
  rcases h.cases (by decide) with ⟨h0, _⟩ | ⟨hn, _, g, off, cap', hq, q1, q2, q3⟩
  · omega
  · injection hq with e1 e2 e3
    subst e1 e3
    exact ⟨g, off, rfl, q1, q2, q3 i _ (by simp [ints, hi])⟩
/-- The least (or greatest) of some: one of them, and no other is beyond it. -/
def leastOf (l : List Int) (m : Int) : Prop := m ∈ l ∧ ∀ x ∈ l, m ≤ x
def mostOf (l : List Int) (m : Int) : Prop := m ∈ l ∧ ∀ x ∈ l, x ≤ m
theorem leastOf_go {l : List Int} {k : Nat} {m : Int} (hk : k < l.length) (h : leastOf (l.take k) m) : leastOf (l.take (k + 1)) (min m l[k]) := by
  rw [List.take_succ_eq_append_getElem hk]
  refine ⟨?_, fun x hx => ?_⟩
  · rcases Int.le_total m l[k] with h1 | h1
    · rw [Int.min_eq_left h1]; exact List.mem_append_left _ h.1
    · rw [Int.min_eq_right h1]; exact List.mem_append_right _ (List.mem_singleton.2 rfl)
  · rcases List.mem_append.1 hx with hx | hx
    · have := h.2 x hx; omega
    · rw [List.mem_singleton.1 hx]; omega
theorem mostOf_go {l : List Int} {k : Nat} {m : Int} (hk : k < l.length) (h : mostOf (l.take k) m) : mostOf (l.take (k + 1)) (max m l[k]) := by
  rw [List.take_succ_eq_append_getElem hk]
  refine ⟨?_, fun x hx => ?_⟩
  · rcases Int.le_total m l[k] with h1 | h1
    · rw [Int.max_eq_right h1]; exact List.mem_append_right _ (List.mem_singleton.2 rfl)
    · rw [Int.max_eq_left h1]; exact List.mem_append_left _ h.1
  · rcases List.mem_append.1 hx with hx | hx
    · have := h.2 x hx; omega
    · rw [List.mem_singleton.1 hx]; omega

set_option maxRecDepth 100000 in
theorem Min_any (l : List Int) (v : Value) (w : World) (hv : RdS w v 1 l.length (ints .i64 l)) (h0 : 0 < l.length) :
    Calls Try.prog 135 #[v] w fun e w' => (∃ m : Int, e = .returned (.int .i64 m) ∧ leastOf l m) ∧ w = w' := by
  have hmn := @run_min2 Try.prog
  have HV := Lib.hid hv
  have hl63 := rds_len2 hv
  obtain ⟨a, cap, rfl⟩ := hv.form
  obtain ⟨g0, off0, ha, q1, q2, c1⟩ := ints64_at hv h0
  have hst : leastOf (l.take 1) l[0] := by rw [List.take_one, List.head?_eq_getElem?, List.getElem?_eq_getElem h0]; exact ⟨by simp, by simp⟩
  have HST := Lib.hid hst
  subst ha
  rw [Nat.add_zero] at c1
  have h1 : (0 : Int) < (l.length : Int) := by omega
  have h2 : decide ((l.length : Int) < 1) = false := by simp; omega
  clear hv hst
  generalize l[0] = x0 at *
  go_enter Try.func135, Try.ntmps135
  go_wp2
  go_loop [3, 4] (fun m i => ∃ (k : Nat) (mm : Int), 1 ≤ k ∧ k ≤ l.length ∧ i = .int .i64 k ∧ m = .int .i64 mm ∧ Hid (leastOf (l.take k) mm)) (fun _ i => l.length - (intOf i).toNat)
  case atStart => exact ⟨1, x0, by omega, by omega, rfl, rfl, HST⟩
  case round =>
    obtain ⟨k, mm, hk0, hk, rfl, rfl, HE⟩ := hrel
    by_cases hlt : k < l.length
    · obtain ⟨g, off, he, z1, z2, c2⟩ := ints64_at HV.out hlt
      cases he
      have HGO := Lib.hid (leastOf_go hlt HE.out)
      generalize l[k] = x1 at *
      have hk2 : (0 : Int) ≤ (k : Int) := by omega
      have hk1 : (k : Int) < (l.length : Int) := by omega
      go_wp2
      go_round
      case rel => exact ⟨k + 1, _, by omega, by omega, by go_num, rfl, HGO⟩
      case measure => simp [intOf]; omega
    · have HF : Hid (leastOf l mm) := Lib.hid (by have h := HE.out; rwa [List.take_of_length_le (by omega)] at h)
      go_wp2
      go_ret
      exact ⟨⟨mm, rfl, HF.out⟩, rfl⟩
set_option maxRecDepth 100000 in
theorem Max_any (l : List Int) (v : Value) (w : World) (hv : RdS w v 1 l.length (ints .i64 l)) (h0 : 0 < l.length) :
    Calls Try.prog 136 #[v] w fun e w' => (∃ m : Int, e = .returned (.int .i64 m) ∧ mostOf l m) ∧ w = w' := by
  have hmn := @run_max2 Try.prog
  have HV := Lib.hid hv
  have hl63 := rds_len2 hv
  obtain ⟨a, cap, rfl⟩ := hv.form
  obtain ⟨g0, off0, ha, q1, q2, c1⟩ := ints64_at hv h0
  have hst : mostOf (l.take 1) l[0] := by rw [List.take_one, List.head?_eq_getElem?, List.getElem?_eq_getElem h0]; exact ⟨by simp, by simp⟩
  have HST := Lib.hid hst
  subst ha
  rw [Nat.add_zero] at c1
  have h1 : (0 : Int) < (l.length : Int) := by omega
  have h2 : decide ((l.length : Int) < 1) = false := by simp; omega
  clear hv hst
  generalize l[0] = x0 at *
  go_enter Try.func136, Try.ntmps136
  go_wp2
  go_loop [3, 4] (fun m i => ∃ (k : Nat) (mm : Int), 1 ≤ k ∧ k ≤ l.length ∧ i = .int .i64 k ∧ m = .int .i64 mm ∧ Hid (mostOf (l.take k) mm)) (fun _ i => l.length - (intOf i).toNat)
  case atStart => exact ⟨1, x0, by omega, by omega, rfl, rfl, HST⟩
  case round =>
    obtain ⟨k, mm, hk0, hk, rfl, rfl, HE⟩ := hrel
    by_cases hlt : k < l.length
    · obtain ⟨g, off, he, z1, z2, c2⟩ := ints64_at HV.out hlt
      cases he
      have HGO := Lib.hid (mostOf_go hlt HE.out)
      generalize l[k] = x1 at *
      have hk2 : (0 : Int) ≤ (k : Int) := by omega
      have hk1 : (k : Int) < (l.length : Int) := by omega
      go_wp2
      go_round
      case rel => exact ⟨k + 1, _, by omega, by omega, by go_num, rfl, HGO⟩
      case measure => simp [intOf]; omega
    · have HF : Hid (mostOf l mm) := Lib.hid (by have h := HE.out; rwa [List.take_of_length_le (by omega)] at h)
      go_wp2
      go_ret
      exact ⟨⟨mm, rfl, HF.out⟩, rfl⟩

theorem fitsB_of {l : List Int} {a b : Int} (ha : leastOf l a) (hb : mostOf l b) : fitsB l = (decide (0 ≤ a) && decide (b ≤ 999999999)) := by
  rw [Bool.eq_iff_iff]
  simp only [fitsB, List.all_eq_true, Bool.and_eq_true, decide_eq_true_eq]
  constructor
  · intro h; exact ⟨(h a ha.1).1, (h b hb.1).2⟩
  · rintro ⟨h1, h2⟩ x hx
    have := ha.2 x hx; have := hb.2 x hx; omega
set_option maxRecDepth 100000 in
theorem fits_any (l : List Int) (v : Value) (w : World) (hv : RdS w v 1 l.length (ints .i64 l)) (h0 : 0 < l.length) :
    Calls Try.prog 103 #[v] w fun e w' => e = .returned (.bool (fitsB l)) ∧ w = w' := by
  have HV := Lib.hid hv
  obtain ⟨a, cap, rfl⟩ := hv.form
  clear hv
  go_enter Try.func103, Try.ntmps103
  go_wp2_with fail
  refine (Min_any l _ _ HV.out h0).mono ?_
  rintro e w1 ⟨⟨m, rfl, hm⟩, rfl⟩
  have HM := Lib.hid hm
  clear hm
  by_cases h1 : 0 ≤ m
  · have d1 : decide (0 ≤ m) = true := by simpa using h1
    go_wp2_with fail
    refine (Max_any l _ _ HV.out h0).mono ?_
    rintro e w1 ⟨⟨M, rfl, hM⟩, rfl⟩
    have HF := Lib.hid (fitsB_of HM.out hM)
    clear hM
    go_wp2
    go_ret
    exact ⟨by rw [HF.out, d1]; rfl, rfl⟩
  · have HF : Hid (fitsB l = false) := Lib.hid (by
      rw [Bool.eq_false_iff]; intro h
      have := List.all_eq_true.1 h m HM.out.1
      simp at this; omega)
    have d1 : decide (0 ≤ m) = false := by simpa using h1
    go_wp2
    go_ret
    exact ⟨by rw [HF.out]; rfl, rfl⟩

theorem noneT_same (x : Tree) : sameT x (.mk 0 { data := #[] } [] [] 0) = noneT x := by
  obtain ⟨k, t, ks, kids, l⟩ := x
  unfold noneT
  rw [sameT]
  dsimp only [Tree.kind, Tree.text, Tree.keys, Tree.kids]
  have h1 : decide (t = { data := #[] }) = decide (t.size = 0) := by
    rw [Bool.eq_iff_iff, decide_eq_true_eq, decide_eq_true_eq]
    constructor
    · rintro rfl; rfl
    · intro h; have := (toList_nil t).2 h; rw [Lib.toList_data] at this
      exact bytes_inj (by rw [this])
  have h2 : decide (ks = []) = decide (ks.length = 0) := by
    rw [Bool.eq_iff_iff, decide_eq_true_eq, decide_eq_true_eq]; exact ⟨fun h => by rw [h]; rfl, List.eq_nil_of_length_eq_zero⟩
  have h3 : sameTs kids [] = decide (kids.length = 0) := by
    cases kids with
    | nil => rfl
    | cons a l => rfl
  rw [h1, h2, h3]; rfl
set_option maxRecDepth 100000 in
theorem note_any (x : Tree) (cs : List Value) (w : World) (h : NodeR w cs x) :
    Calls Try.prog 104 #[.agg cs.toArray] w fun e w' => e = .returned (.bool (!noneT x)) ∧ Below w.heap.size w w' := by
  rw [← noneT_same]
  have H := Lib.hid h
  obtain ⟨ka, kc, ba, bc, rfl⟩ := h.cells
  have hb0 := (Below.refl w.heap.size w).alloc (Nat.le_refl _) (.cells #[.int .u8 (x.kind : Int), .string x.text, .slice ka x.keys.length kc, .slice ba x.kids.length bc, .int .i64 x.line] 34)
  clear h
  have HS := Lib.hid (bSame_any x (.mk 0 { data := #[] } [] [] 0) _ [.int .u8 0, .string { data := #[] }, .slice none 0 0, .slice none 0 0, .int .i64 0] _ (H.out.belowW hb0) (NodeR.of_parts (k := 0) (by decide) (Nat.zero_le _) (by simp) (by decide) ⟨rfl, none, 0, rfl, Nat.le_refl _, Nat.zero_le _, .inl rfl⟩ (NodesR.nil_of (Nat.zero_le _))))
  generalize sameT x (.mk 0 { data := #[] } [] [] 0) = sb at *
  go_enter Try.func104, Try.ntmps104
  go_wp2_with fail
  refine HS.out.mono ?_
  rintro e w1 ⟨rfl, hb1⟩
  go_wp2
  go_ret
  exact ⟨rfl, bthen hb0 (Nat.le_refl _) hb1⟩
end Go.Proofs.Ytlakmfhpinljjaa

/-
  cmp.Compare on numbers and on errors, cmp.Or: contracts.
-/
namespace Go.Proofs.Ytlakmfhpinljjaa
open Go.RowKit Go.WideShapes

/-- -1, 0, 1: as two numbers stand to one another. -/
def cmpZ (a b : Int) : Int := if a < b then -1 else if b < a then 1 else 0
def orZ : List Int → Int
  | [] => 0
  | a :: l => if a = 0 then orZ l else a

theorem nanI_any (a : Int) (w : World) : Calls Try.prog 164 #[.int .i64 a] w fun e w' => e = .returned (.bool false) ∧ w = w' := by
  go_enter Try.func164, Try.ntmps164
  go_wp2
  go_ret
  exact ⟨rfl, rfl⟩
theorem nanE_any (a : Int) (w : World) : Calls Try.prog 165 #[.int .i64 a] w fun e w' => e = .returned (.bool false) ∧ w = w' := by
  go_enter Try.func165, Try.ntmps165
  go_wp2
  go_ret
  exact ⟨rfl, rfl⟩

set_option maxRecDepth 100000 in
theorem cmpI_any (a b : Int) (w : World) : Calls Try.prog 147 #[.int .i64 a, .int .i64 b] w fun e w' => e = .returned (.int .i64 (cmpZ a b)) ∧ w = w' := by
  by_cases h1 : a < b
  · have F : Hid (cmpZ a b = -1) := Lib.hid (if_pos h1)
    have d1 : decide (a < b) = true := decide_eq_true h1
    clear h1
    go_enter Try.func147, Try.ntmps147
    go_wp2_with (go_at_call 164; refine (nanI_any _ _).mono ?_; rintro e w1 ⟨rfl, rfl⟩)
    go_ret
    exact ⟨by rw [F.out]; rfl, rfl⟩
  have d1 : decide (a < b) = false := decide_eq_false h1
  by_cases h2 : b < a
  · have F : Hid (cmpZ a b = 1) := Lib.hid (by unfold cmpZ; rw [if_neg h1, if_pos h2])
    have d2 : decide (b < a) = true := decide_eq_true h2
    clear h1 h2
    go_enter Try.func147, Try.ntmps147
    go_wp2_with (go_at_call 164; refine (nanI_any _ _).mono ?_; rintro e w1 ⟨rfl, rfl⟩)
    go_ret
    exact ⟨by rw [F.out]; rfl, rfl⟩
  have F : Hid (cmpZ a b = 0) := Lib.hid (by unfold cmpZ; rw [if_neg h1, if_neg h2])
  have d2 : decide (b < a) = false := decide_eq_false h2
  clear h1 h2
  go_enter Try.func147, Try.ntmps147
  go_wp2_with (go_at_call 164; refine (nanI_any _ _).mono ?_; rintro e w1 ⟨rfl, rfl⟩)
  go_ret
  exact ⟨by rw [F.out]; rfl, rfl⟩

set_option maxRecDepth 100000 in
theorem cmpE_any (a b : Int) (w : World) : Calls Try.prog 148 #[.int .i64 a, .int .i64 b] w fun e w' => e = .returned (.int .i64 (cmpZ a b)) ∧ w = w' := by
  by_cases h1 : a < b
  · have F : Hid (cmpZ a b = -1) := Lib.hid (if_pos h1)
    have d1 : decide (a < b) = true := decide_eq_true h1
    clear h1
    go_enter Try.func148, Try.ntmps148
    go_wp2_with (go_at_call 165; refine (nanE_any _ _).mono ?_; rintro e w1 ⟨rfl, rfl⟩)
    go_ret
    exact ⟨by rw [F.out]; rfl, rfl⟩
  have d1 : decide (a < b) = false := decide_eq_false h1
  by_cases h2 : b < a
  · have F : Hid (cmpZ a b = 1) := Lib.hid (by unfold cmpZ; rw [if_neg h1, if_pos h2])
    have d2 : decide (b < a) = true := decide_eq_true h2
    clear h1 h2
    go_enter Try.func148, Try.ntmps148
    go_wp2_with (go_at_call 165; refine (nanE_any _ _).mono ?_; rintro e w1 ⟨rfl, rfl⟩)
    go_ret
    exact ⟨by rw [F.out]; rfl, rfl⟩
  have F : Hid (cmpZ a b = 0) := Lib.hid (by unfold cmpZ; rw [if_neg h1, if_neg h2])
  have d2 : decide (b < a) = false := decide_eq_false h2
  clear h1 h2
  go_enter Try.func148, Try.ntmps148
  go_wp2_with (go_at_call 165; refine (nanE_any _ _).mono ?_; rintro e w1 ⟨rfl, rfl⟩)
  go_ret
  exact ⟨by rw [F.out]; rfl, rfl⟩
/-- The first that is not 0. -/
theorem orZ_stop {l : List Int} {k : Nat} (hk : k < l.length) (h : ∀ x ∈ l.take k, x = 0) (h1 : l[k] ≠ 0) : orZ l = l[k] := by
  induction l generalizing k with
  | nil => simp at hk
  | cons a l ih =>
    cases k with
    | zero => exact if_neg h1
    | succ k =>
      rw [orZ, if_pos (h a (by simp))]
      exact ih (by simpa using hk) (fun x hx => h x (by simp [hx])) h1
theorem orZ_all {l : List Int} (h : ∀ x ∈ l, x = 0) : orZ l = 0 := by
  induction l with
  | nil => rfl
  | cons a l ih => rw [orZ, if_pos (h a (by simp))]; exact ih fun x hx => h x (by simp [hx])

theorem rdI_at {w : World} {a : Option Addr} {cap : Nat} {l : List Int} (h : RdS w (.slice a l.length cap) 1 l.length (ints .i64 l)) {i : Nat} (hi : i < l.length) :
    ∃ g off, a = some ⟨g, off, none⟩ ∧ l.length ≤ cap ∧ cap ≤ 9223372036854775807 ∧ w.cell? ⟨g, off + i, none⟩ = some (.int .i64 l[i]) := by
  rcases h.cases (by decide) with ⟨h0, _⟩ | ⟨hn, _, g, off, cap', hq, q1, q2, q3⟩
  · omega
  · cases hq
    exact ⟨g, off, rfl, q1, q2, q3 i _ (by simp [ints, hi])⟩

set_option maxRecDepth 100000 in
set_option maxHeartbeats 1000000 in
theorem orI_any (l : List Int) (v : Value) (w : World) (hv : RdS w v 1 l.length (ints .i64 l)) :
    Calls Try.prog 146 #[v] w fun e w' => e = .returned (.int .i64 (orZ l)) ∧ w = w' := by
  have HV := Lib.hid hv
  have hl63 := rds_len2 hv
  obtain ⟨a, cap, rfl⟩ := hv.form
  clear hv
  go_enter Try.func146, Try.ntmps146
  go_wp2
  go_loop [8] (fun i => ∃ k : Nat, k ≤ l.length ∧ i = .int .i64 k ∧ Hid (∀ x ∈ l.take k, x = 0)) (fun i => l.length - (intOf i).toNat)
  case atStart => exact ⟨0, by omega, rfl, Lib.hid (by simp)⟩
  case round =>
    obtain ⟨k, hk, rfl, HA⟩ := hrel
    by_cases hlt : k < l.length
    · obtain ⟨g, off, rfl, h1, h2, hcell⟩ := rdI_at HV.out hlt
      have HGO := Lib.hid (fun h => take_all (p := fun x : Int => x = 0) hlt HA.out h)
      have HST := Lib.hid (orZ_stop hlt HA.out)
      have hlt' : (k : Int) < l.length := by omega
      generalize l[k] = y at *
      by_cases hy : y = 0
      · have hd : (y != 0) = false := by simp [hy]
        have HN := Lib.hid (HGO.out hy)
        clear hy
        go_wp2
        go_round
        case rel => exact ⟨k + 1, by omega, by go_num, HN⟩
        case measure => simp [intOf]; omega
      · have hd : (y != 0) = true := by simp [hy]
        have HN := Lib.hid (HST.out hy)
        clear hy
        go_wp2
        go_ret
        exact ⟨by rw [HN.out]; rfl, rfl⟩
    · have HN : Hid (orZ l = 0) := Lib.hid (orZ_all (by have := HA.out; rwa [List.take_of_length_le (by omega)] at this))
      go_wp2
      go_ret
      exact ⟨by rw [HN.out]; rfl, rfl⟩
end Go.Proofs.Ytlakmfhpinljjaa

/-
  def.step, def.Check: contracts.
-/
namespace Go.Proofs.Ytlakmfhpinljjaa
open Go Go.RowKit Go.WideShapes

theorem cells13q {W : World} {B : Nat} {t : TypeId} {fr : Nat × Nat} {c0 c1 c2 c3 c4 c5 c6 c7 c8 c9 c10 c11 c12 : Value} (h : W.heap[B]? = some (.cells #[c0, c1, c2, c3, c4, c5, c6, c7, c8, c9, c10, c11, c12] t fr)) :
    W.cell? ⟨B, 0, none⟩ = some c0 ∧ W.cell? ⟨B, 1, none⟩ = some c1 ∧ W.cell? ⟨B, 2, none⟩ = some c2 ∧ W.cell? ⟨B, 3, none⟩ = some c3 ∧ W.cell? ⟨B, 4, none⟩ = some c4 ∧ W.cell? ⟨B, 5, none⟩ = some c5 ∧ W.cell? ⟨B, 6, none⟩ = some c6 ∧ W.cell? ⟨B, 7, none⟩ = some c7 ∧ W.cell? ⟨B, 8, none⟩ = some c8 ∧ W.cell? ⟨B, 9, none⟩ = some c9 ∧ W.cell? ⟨B, 10, none⟩ = some c10 ∧ W.cell? ⟨B, 11, none⟩ = some c11 ∧ W.cell? ⟨B, 12, none⟩ = some c12 := by
  simp [World.cell?, h]
theorem rds_newL {l : List Value} (W : World) (t : TypeId) (hl : l.length ≤ maxLen) : RdS (W.alloc (.cells l.toArray t)) (.slice (some ⟨W.heap.size, 0, none⟩) l.length l.length) 1 l.length l := by
  refine ⟨by simp, some ⟨W.heap.size, 0, none⟩, l.length, rfl, Nat.le_refl _, hl, .inr ⟨W.heap.size, 0, rfl, fun i c hi => ?_⟩⟩
  simp only [World.cell?, World.alloc_heap_new, Nat.zero_add]
  simpa using hi

set_option maxRecDepth 100000 in
set_option maxHeartbeats 2000000 in
theorem dstep_any (s : StepD) (cs : List Value) (aa : Option Addr) (ac : Nat) (ka : Option Addr) (kc : Nat) (ba : Option Addr) (bc : Nat) (w : World) (h : StepR w cs s aa ac ka kc ba bc) (hs : SmallS s) :
    Calls Try.prog 53 #[.agg cs.toArray] w fun e w' => e = .returned (.int .i64 (stepC s)) ∧ Below w.heap.size w w' := by
  obtain ⟨he, hok, hafter, hnote⟩ := h
  subst he
  have hb0 := (Below.refl w.heap.size w).alloc (Nat.le_refl _) (.cells #[.string s.name, .string s.action, .string s.undo, .slice aa s.after.length ac, .int .i64 s.most, .int .i64 s.first, .int .i64 s.factor, .int .i64 s.limit, .int .u8 (s.note.kind : Int), .string s.note.text, .slice ka s.note.keys.length kc, .slice ba s.note.kids.length bc, .int .i64 s.note.line] 45)
  have g0 := World.alloc_heap_new w (.cells #[.string s.name, .string s.action, .string s.undo, .slice aa s.after.length ac, .int .i64 s.most, .int .i64 s.first, .int .i64 s.factor, .int .i64 s.limit, .int .u8 (s.note.kind : Int), .string s.note.text, .slice ka s.note.keys.length kc, .slice ba s.note.kids.length bc, .int .i64 s.note.line] 45)
  have HAF := Lib.hid hafter
  have HNT := Lib.hid hnote
  have HSM := Lib.hid hs
  have hal := hs.after
  clear hafter hnote hs
  generalize hwz : w.alloc (.cells #[.string s.name, .string s.action, .string s.undo, .slice aa s.after.length ac, .int .i64 s.most, .int .i64 s.first, .int .i64 s.factor, .int .i64 s.limit, .int .u8 (s.note.kind : Int), .string s.note.text, .slice ka s.note.keys.length kc, .slice ba s.note.kids.length bc, .int .i64 s.note.line] 45) = wz at *
  have hlt0 := (Array.getElem?_eq_some_iff.1 g0).1
  have hb1 : Below wz.heap.size wz (wz.alloc (.cells #[.string s.name, .string s.action, .string s.undo] 9)) := (Below.refl _ _).alloc (Nat.le_refl _) _
  have HT1 := Lib.hid (texts_any [s.name, s.action, s.undo] _ (wz.alloc (.cells #[.string s.name, .string s.action, .string s.undo] 9)) (rds_newL (l := strsV [s.name, s.action, s.undo]) wz 9 (by simp [strsV, maxLen])) (fun x hx => by
    have h1 := HSM.out.name; have h2 := HSM.out.action; have h3 := HSM.out.undo
    simp at hx; rcases hx with rfl | rfl | rfl <;> omega))
  rw [show (strsV [s.name, s.action, s.undo]).length = 3 from rfl] at HT1
  have G0 := Lib.hid g0
  obtain ⟨q0, q1, q2, q3, q4, q5, q6, q7, q8, q9, q10, q11, q12⟩ := cells13q g0
  have HC0 : Hid (textsC [s.name, s.action, s.undo] ≠ 0 → stepC s = textsC [s.name, s.action, s.undo]) := Lib.hid (fun h => by unfold stepC; rw [if_pos h])
  have HC1 : Hid (textsC [s.name, s.action, s.undo] = 0 → stepC s = if 64 < s.after.length then 2 else if textsC s.after ≠ 0 then textsC s.after else if fitsB [s.most, s.first, s.factor, s.limit] = false then 1 else if noneT s.note then 0 else if checkT s.note ≠ 0 then checkT s.note else if 13 < depthT 18 s.note then 11 else 0) := Lib.hid (fun h => by unfold stepC; rw [if_neg (by simp [h])])
  generalize textsC [s.name, s.action, s.undo] = c0 at *
  clear g0
  go_enter Try.func53, Try.ntmps53
  go_wp2_with fail
  refine HT1.out.mono ?_
  rintro e w1 ⟨rfl, hb2⟩
  have hbz1 := bthen hb1 (Nat.le_refl _) hb2
  have HBZ1 := Lib.hid hbz1
  have g1 := (hbz1.block _ hlt0).trans G0.out
  have G1 := Lib.hid g1
  clear q0 q1 q2 q3 q4 q5 q6 q7 q8 q9 q10 q11 q12 hb1 hb2
  obtain ⟨q0, q1, q2, q3, q4, q5, q6, q7, q8, q9, q10, q11, q12⟩ := cells13q g1
  clear g1
  by_cases hc0 : c0 = 0
  · have HC2 := Lib.hid (HC1.out hc0)
    have hd : (c0 != 0) = false := by simp [hc0]
    clear hc0
    by_cases h64 : 64 < s.after.length
    · have HF := Lib.hid (HC2.out.trans (if_pos h64))
      have hd2 : decide ((64 : Int) < (s.after.length : Int)) = true := by simp; omega
      go_wp2
      go_ret
      exact ⟨by rw [HF.out]; rfl, bthen hb0 (Nat.le_refl _) hbz1⟩
    have HC3 := Lib.hid (HC2.out.trans (if_neg h64))
    have hd2 : decide ((64 : Int) < (s.after.length : Int)) = false := by simp; omega
    have HT2 := Lib.hid (texts_any s.after _ w1 (HAF.out.below (bthen hb0 (Nat.le_refl _) hbz1)) (fun x hx => by have := HSM.out.aft x hx; omega))
    generalize textsC s.after = c1 at *
    go_wp2_with fail
    refine HT2.out.mono ?_
    rintro e w2 ⟨rfl, hb2⟩
    have hbz2 := bthen hbz1 (Nat.le_refl _) hb2
    have g2 := (hbz2.block _ hlt0).trans G0.out
    clear q0 q1 q2 q3 q4 q5 q6 q7 q8 q9 q10 q11 q12
    obtain ⟨q0, q1, q2, q3, q4, q5, q6, q7, q8, q9, q10, q11, q12⟩ := cells13q g2
    clear g2
    by_cases hc1 : c1 = 0
    · have HC4 := Lib.hid (HC3.out.trans (if_neg (by simp [hc1])))
      have hd3 : (c1 != 0) = false := by simp [hc1]
      clear hc1
      have hb3 : Below w2.heap.size w2 (w2.alloc (.cells #[.int .i64 s.most, .int .i64 s.first, .int .i64 s.factor, .int .i64 s.limit] 3)) := (Below.refl _ _).alloc (Nat.le_refl _) _
      have HFT := Lib.hid (fits_any [s.most, s.first, s.factor, s.limit] _ (w2.alloc (.cells #[.int .i64 s.most, .int .i64 s.first, .int .i64 s.factor, .int .i64 s.limit] 3)) (rds_newL (l := ints .i64 [s.most, s.first, s.factor, s.limit]) w2 3 (by simp [ints, maxLen])) (by simp))
      rw [show (ints .i64 [s.most, s.first, s.factor, s.limit]).length = 4 from rfl] at HFT
      generalize fitsB [s.most, s.first, s.factor, s.limit] = fb at *
      go_wp2_with fail
      refine HFT.out.mono ?_
      rintro e w3 ⟨rfl, rfl⟩
      have hbz3 := bthen hbz2 (Nat.le_refl _) hb3
      cases fb with
      | false =>
        have HF := Lib.hid (HC4.out.trans (if_pos rfl))
        go_wp2
        go_ret
        exact ⟨by rw [HF.out]; rfl, bthen hb0 (Nat.le_refl _) hbz3⟩
      | true =>
        have HC5 := Lib.hid (HC4.out.trans (if_neg (by decide)))
        have g3 := (hbz3.block _ hlt0).trans G0.out
        have HNO := Lib.hid (note_any s.note _ _ (HNT.out.belowW (bthen hb0 (Nat.le_refl _) hbz3)))
        generalize w2.alloc (.cells #[.int .i64 s.most, .int .i64 s.first, .int .i64 s.factor, .int .i64 s.limit] 3) = w4 at *
        clear q0 q1 q2 q3 q4 q5 q6 q7 q8 q9 q10 q11 q12
        obtain ⟨q0, q1, q2, q3, q4, q5, q6, q7, q8, q9, q10, q11, q12⟩ := cells13q g3
        clear g3
        generalize noneT s.note = nb at *
        go_wp2_with fail
        refine HNO.out.mono ?_
        rintro e w5 ⟨rfl, hb5⟩
        have hbz5 := bthen hbz3 (Nat.le_refl _) hb5
        have g5 := (hbz5.block _ hlt0).trans G0.out
        clear q0 q1 q2 q3 q4 q5 q6 q7 q8 q9 q10 q11 q12
        cases nb with
        | true =>
          have HF := Lib.hid (HC5.out.trans (if_pos rfl))
          clear g5
          go_wp2
          go_ret
          exact ⟨by rw [HF.out]; rfl, bthen hb0 (Nat.le_refl _) hbz5⟩
        | false =>
          have HC6 := Lib.hid (HC5.out.trans (if_neg (by decide)))
          obtain ⟨q0, q1, q2, q3, q4, q5, q6, q7, q8, q9, q10, q11, q12⟩ := cells13q g5
          have HCB := Lib.hid (CheckB_any s.note _ w5 (HNT.out.belowW (bthen hb0 (Nat.le_refl _) hbz5)) ⟨18, HSM.out.note⟩)
          generalize checkT s.note = c2 at *
          clear g5
          go_wp2_with fail
          refine HCB.out.mono ?_
          rintro e w6 ⟨rfl, hb6⟩
          have hbz6 := bthen hbz5 (Nat.le_refl _) hb6
          have g6 := (hbz6.block _ hlt0).trans G0.out
          clear q0 q1 q2 q3 q4 q5 q6 q7 q8 q9 q10 q11 q12
          obtain ⟨q0, q1, q2, q3, q4, q5, q6, q7, q8, q9, q10, q11, q12⟩ := cells13q g6
          clear g6
          by_cases hc2 : c2 = 0
          · have HC7 := Lib.hid (HC6.out.trans (if_neg (by simp [hc2])))
            have hd4 : (c2 != 0) = false := by simp [hc2]
            clear hc2
            have HDP := Lib.hid (Depth_any s.note _ w6 (HNT.out.belowW (bthen hb0 (Nat.le_refl _) hbz6)))
            generalize depthT 18 s.note = dp at *
            go_wp2_with fail
            refine HDP.out.mono ?_
            rintro e w7 ⟨rfl, hb7⟩
            have hbz7 := bthen hbz6 (Nat.le_refl _) hb7
            by_cases hdp : 13 < dp
            · have HF := Lib.hid (HC7.out.trans (if_pos hdp))
              have hd5 : decide ((13 : Int) < (dp : Int)) = true := by simp; omega
              go_wp2
              go_ret
              exact ⟨by rw [HF.out]; rfl, bthen hb0 (Nat.le_refl _) hbz7⟩
            · have HF := Lib.hid (HC7.out.trans (if_neg hdp))
              have hd5 : decide ((13 : Int) < (dp : Int)) = false := by simp; omega
              go_wp2
              go_ret
              exact ⟨by rw [HF.out]; rfl, bthen hb0 (Nat.le_refl _) hbz7⟩
          · have HF := Lib.hid (HC6.out.trans (if_pos hc2))
            have hd4 : (c2 != 0) = true := by simp [hc2]
            clear hc2
            go_wp2
            go_ret
            exact ⟨by rw [HF.out]; rfl, bthen hb0 (Nat.le_refl _) hbz6⟩
    · have HF := Lib.hid (HC3.out.trans (if_pos hc1))
      have hd3 : (c1 != 0) = true := by simp [hc1]
      clear hc1
      go_wp2
      go_ret
      exact ⟨by rw [HF.out]; rfl, bthen hb0 (Nat.le_refl _) hbz2⟩
  · have HF := Lib.hid (HC0.out hc0)
    have hd : (c0 != 0) = true := by simp [hc0]
    clear hc0
    go_wp2
    go_ret
    exact ⟨by rw [HF.out]; rfl, bthen hb0 (Nat.le_refl _) hbz1⟩

/-- A fault's cells. -/
def faultV (f : Int × Int) : Value := .agg #[.int .i64 f.1, .int .i64 f.2]

theorem two_set {W : World} {B : Nat} {a b x y : Value} {t : TypeId} (h : W.heap[B]? = some (.cells #[a, b] t (0, 0))) : ((W.setCell ⟨B, 0, none⟩ x).setCell ⟨B, 1, none⟩ y).heap[B]? = some (.cells #[x, y] t (0, 0)) := by
  simp [World.setCell, h, Array.getElem?_modify]

set_option maxRecDepth 100000 in
set_option maxHeartbeats 2000000 in
theorem dCheck_any (d : DefD) (cs : List Value) (sa : Option Addr) (sc : Nat) (w : World) (h : DefR w cs d sa sc) (hs : SmallD d) :
    Calls Try.prog 16 #[.agg cs.toArray] w fun e w' => e = .returned (faultV (defC d)) ∧ Below w.heap.size w w' := by
  obtain ⟨he, hn63, ht63, hst⟩ := h
  subst he
  have hb0 : Below w.heap.size w ((w.alloc (.cells #[.string d.name, .string d.text, .slice sa d.steps.length sc] 24)).alloc (.cells #[.int .i64 0, .int .i64 0] 29)) := ((Below.refl w.heap.size w).alloc (Nat.le_refl _) _).alloc (by simp) _
  have g0 : ((w.alloc (.cells #[.string d.name, .string d.text, .slice sa d.steps.length sc] 24)).alloc (.cells #[.int .i64 0, .int .i64 0] 29)).heap[w.heap.size]? = some (.cells #[.string d.name, .string d.text, .slice sa d.steps.length sc] 24 (0, 0)) := (Below.heap_alloc _ _ _ (by simp)).trans (World.alloc_heap_new w _)
  have f0 : ((w.alloc (.cells #[.string d.name, .string d.text, .slice sa d.steps.length sc] 24)).alloc (.cells #[.int .i64 0, .int .i64 0] 29)).heap[w.heap.size + 1]? = some (.cells #[.int .i64 0, .int .i64 0] 29 (0, 0)) := by
    have := World.alloc_heap_new (w.alloc (.cells #[.string d.name, .string d.text, .slice sa d.steps.length sc] 24)) (.cells #[.int .i64 0, .int .i64 0] 29)
    rwa [World.size_alloc] at this
  have hsz : ((w.alloc (.cells #[.string d.name, .string d.text, .slice sa d.steps.length sc] 24)).alloc (.cells #[.int .i64 0, .int .i64 0] 29)).heap.size = w.heap.size + 2 := by simp
  have HST := Lib.hid hst
  have HSM := Lib.hid hs
  have hsl := hs.steps
  obtain ⟨_, _, he, hc1, hc2⟩ := hst.form
  cases he
  clear hst hs
  generalize hwz : (w.alloc (.cells #[.string d.name, .string d.text, .slice sa d.steps.length sc] 24)).alloc (.cells #[.int .i64 0, .int .i64 0] 29) = wz at *
  have hsz' : w.heap.size + 2 ≤ wz.heap.size := by omega
  clear hsz
  have hb1 : Below wz.heap.size wz (wz.alloc (.cells #[.string d.name] 9)) := (Below.refl _ _).alloc (Nat.le_refl _) _
  have HT1 : Hid (Calls Try.prog 51 #[.slice (some ⟨wz.heap.size, 0, none⟩) 1 1] (wz.alloc (.cells #[.string d.name] 9)) fun e w' => e = .returned (.int .i64 (c64 d.name)) ∧ Below (wz.alloc (.cells #[.string d.name] 9)).heap.size (wz.alloc (.cells #[.string d.name] 9)) w') := Lib.hid (by
    have := texts_any [d.name] _ (wz.alloc (.cells #[.string d.name] 9)) (rds_newL (l := strsV [d.name]) wz 9 (by simp [strsV, maxLen])) (fun x hx => by have h1 := HSM.out.name; simp at hx; subst hx; omega)
    have e : textsC [d.name] = c64 d.name := by simp only [textsC, List.map_cons, List.map_nil, firstNZ]; split <;> simp_all
    rw [e] at this; exact this)
  have G0 := Lib.hid g0
  have F0 := Lib.hid f0
  obtain ⟨q0, q1, q2, -, -, -⟩ := cells3h g0
  have HC0 : Hid (c64 d.name ≠ 0 → defC d = (c64 d.name, 0)) := Lib.hid (fun h => by unfold defC; rw [if_pos h])
  have HC1 : Hid (c64 d.name = 0 → checkN (bsN d.text) 4096 ≠ 0 → defC d = (checkN (bsN d.text) 4096, 0)) := Lib.hid (fun h h2 => by unfold defC; rw [if_neg (by simp [h]), if_pos h2])
  have HC2 : Hid (c64 d.name = 0 → checkN (bsN d.text) 4096 = 0 → defC d = stepsC d.steps 0) := Lib.hid (fun h h2 => by unfold defC; rw [if_neg (by simp [h]), if_neg (by simp [h2]), if_neg (by omega)])
  have HTX := Lib.hid (fun W => Check_any d.text 4096 W (by unfold maxLen at ht63; omega))
  generalize c64 d.name = c0 at *
  generalize checkN (bsN d.text) 4096 = c1 at *
  generalize defC d = res at *
  clear g0 f0
  have hd1 : decide ((1024 : Int) < (d.steps.length : Int)) = false := by simp; omega
  go_enter Try.func16, Try.ntmps16
  go_wp2
  go_step3
  go_wp2_with fail
  refine HT1.out.mono ?_
  rintro e w1 ⟨rfl, hb2⟩
  have hbz1 := bthen hb1 (Nat.le_refl _) hb2
  have hbw1 := bthen hb0 (Nat.le_refl _) hbz1
  have f1 := (hbz1.block _ (by omega)).trans F0.out
  have g1 := (hbz1.block _ (by omega)).trans G0.out
  have G1 := Lib.hid g1
  have F1 := Lib.hid f1
  clear q0 q1 q2 hb1 hb2
  obtain ⟨q0, q1, q2, -, -, -⟩ := cells3h g1
  obtain ⟨x0, x1, y0, y1⟩ := cells2 f1
  clear g1 f1
  by_cases hc0 : c0 = 0
  · have hd : (c0 == 0) = true := by simp [hc0]
    have hc0' := Lib.hid hc0
    clear hc0
    go_wp2_with fail
    refine (HTX.out _).mono ?_
    rintro e w2 ⟨rfl, hb2⟩
    have hbz2 := bthen hbz1 (Nat.le_refl _) hb2
    have hbw2 := bthen hb0 (Nat.le_refl _) hbz2
    have f2 := (hbz2.block _ (by omega)).trans F0.out
    have g2 := (hbz2.block _ (by omega)).trans G0.out
    have F2 := Lib.hid f2
    clear q0 q1 q2 x0 x1 y0 y1
    obtain ⟨q0, q1, q2, -, -, -⟩ := cells3h g2
    obtain ⟨x0, x1, y0, y1⟩ := cells2 f2
    clear g2 f2
    by_cases hc1 : c1 = 0
    · have hd2 : (c1 == 0) = true := by simp [hc1]
      have hd3 : (c1 != 0) = false := by simp [hc1]
      have HC := Lib.hid (HC2.out hc0'.out hc1)
      clear hc1
      go_wp2
      go_step3
      go_wp2
      go_loopw [31] (fun i wr => ∃ k : Nat, k ≤ d.steps.length ∧ i = .int .i64 k ∧ Hid (∀ s ∈ d.steps.take k, stepC s = 0) ∧ Hid (Below wz.heap.size wz wr)) (fun i _ => d.steps.length - (intOf i).toNat)
      case atStart => exact ⟨0, by omega, rfl, Lib.hid (by simp), Lib.hid hbz2⟩
      case round =>
        obtain ⟨k, hk, rfl, HE, HB⟩ := hrel
        have hbr := HB.out
        have f3 := (hbr.block _ (by omega)).trans F0.out
        clear q0 q1 q2 x0 x1 y0 y1
        by_cases hlt : k < d.steps.length
        · obtain ⟨g, off, cap, aa, ac, ka, kc, ba, bc, he, z1, z2, hn, hat⟩ := (HST.out.below (bthen hb0 (Nat.le_refl _) hbr)).at hlt
          cases he
          obtain ⟨c0', c1', c2', c3', c4', c5', c6', c7', c8', c9', c10', c11', c12'⟩ := hat
          have hb4 := hbr.alloc hbr.size (.cells #[.string d.steps[k].name, .string d.steps[k].action, .string d.steps[k].undo, .slice aa d.steps[k].after.length ac, .int .i64 d.steps[k].most, .int .i64 d.steps[k].first, .int .i64 d.steps[k].factor, .int .i64 d.steps[k].limit, .int .u8 (d.steps[k].note.kind : Int), .string d.steps[k].note.text, .slice ka d.steps[k].note.keys.length kc, .slice ba d.steps[k].note.kids.length bc, .int .i64 d.steps[k].note.line] 45)
          have HDS := Lib.hid (dstep_any d.steps[k] _ aa ac ka kc ba bc _ (hn.below ((Below.refl wr.heap.size wr).alloc (Nat.le_refl _) (.cells #[.string d.steps[k].name, .string d.steps[k].action, .string d.steps[k].undo, .slice aa d.steps[k].after.length ac, .int .i64 d.steps[k].most, .int .i64 d.steps[k].first, .int .i64 d.steps[k].factor, .int .i64 d.steps[k].limit, .int .u8 (d.steps[k].note.kind : Int), .string d.steps[k].note.text, .slice ka d.steps[k].note.keys.length kc, .slice ba d.steps[k].note.kids.length bc, .int .i64 d.steps[k].note.line] 45))) (HSM.out.each _ (List.getElem_mem hlt)))
          have HGO := Lib.hid (fun h => take_all (p := fun s => stepC s = 0) hlt HE.out h)
          have HSP := Lib.hid (stepsC_stop hlt HE.out)
          have hk0 : (0 : Int) ≤ (k : Int) := by omega
          have hk1 : (k : Int) < (d.steps.length : Int) := by omega
          clear hn
          generalize stepC d.steps[k] = sc1 at *
          go_wp2_with fail
          refine HDS.out.mono ?_
          rintro e w5 ⟨rfl, hb5⟩
          have hbz5 := hb4.trans (hb5.mono hb4.size)
          have hbw5 := bthen hb0 (Nat.le_refl _) hbz5
          have f5 := (hbz5.block _ (by omega)).trans F0.out
          obtain ⟨x0, x1, y0, y1⟩ := cells2 f5
          have F5 := Lib.hid f5
          clear f5 c0' c1' c2' c3' c4' c5' c6' c7' c8' c9' c10' c11' c12'
          by_cases hs1 : sc1 = 0
          · have hd4 : (sc1 == 0) = true := by simp [hs1]
            have HG := Lib.hid (HGO.out hs1)
            clear hs1
            go_wp2
            go_roundw
            case rel => exact ⟨k + 1, by omega, by go_num, HG, Lib.hid hbz5⟩
            case measure => simp [intOf]; omega
          · have hd4 : (sc1 == 0) = false := by simp [hs1]
            have HF := Lib.hid (HC.out.trans (HSP.out hs1))
            clear hs1
            go_wp2
            have hs2 := two_set (x := .int .i64 sc1) (y := .int .i64 ((k : Int) + 1)) F5.out
            have hbw := (hbw5).setCell (p := ⟨w.heap.size + 1, 0, none⟩) (by show w.heap.size ≤ w.heap.size + 1; omega) (.int .i64 sc1)
            have hbw := hbw.setCell (p := ⟨w.heap.size + 1, 1, none⟩) (by show w.heap.size ≤ w.heap.size + 1; omega) (.int .i64 ((k : Int) + 1))
            generalize (w5.setCell ⟨w.heap.size + 1, 0, none⟩ (.int .i64 sc1)).setCell ⟨w.heap.size + 1, 1, none⟩ (.int .i64 ((k : Int) + 1)) = wf at *
            obtain ⟨z0, z1, -, -⟩ := cells2 hs2
            try rw [Exit.noGoto_ret]
            refine bodyPost_ret (v := .agg #[.int .i64 sc1, .int .i64 ((k : Int) + 1)]) (by simp [results, Try.results16, go_sem, z0, z1]) rfl ⟨by rw [HF.out]; rfl, hbw⟩
        · have HF := Lib.hid (HC.out.trans (stepsC_all (by have h := HE.out; rwa [List.take_of_length_le (by omega)] at h)))
          obtain ⟨x0, x1, y0, y1⟩ := cells2 f3
          have F3 := Lib.hid f3
          have hbw3 := bthen hb0 (Nat.le_refl _) hbr
          clear f3
          go_wp2
          have hs2 := two_set (x := .int .i64 0) (y := .int .i64 0) F3.out
          have hbw := (hbw3).setCell (p := ⟨w.heap.size + 1, 0, none⟩) (by show w.heap.size ≤ w.heap.size + 1; omega) (.int .i64 0)
          have hbw := hbw.setCell (p := ⟨w.heap.size + 1, 1, none⟩) (by show w.heap.size ≤ w.heap.size + 1; omega) (.int .i64 0)
          generalize (wr.setCell ⟨w.heap.size + 1, 0, none⟩ (.int .i64 0)).setCell ⟨w.heap.size + 1, 1, none⟩ (.int .i64 0) = wf at *
          obtain ⟨z0, z1, -, -⟩ := cells2 hs2
          try rw [Exit.noGoto_ret]
          refine bodyPost_ret (v := .agg #[.int .i64 0, .int .i64 0]) (by simp [results, Try.results16, go_sem, z0, z1]) rfl ⟨by rw [HF.out]; rfl, hbw⟩
    · have hd2 : (c1 == 0) = false := by simp [hc1]
      have hd3 : (c1 != 0) = true := by simp [hc1]
      have HF := Lib.hid (HC1.out hc0'.out hc1)
      clear hc1
      go_wp2
      have hs2 := two_set (x := .int .i64 c1) (y := .int .i64 0) F2.out
      have hbw := (hbw2).setCell (p := ⟨w.heap.size + 1, 0, none⟩) (by show w.heap.size ≤ w.heap.size + 1; omega) (.int .i64 c1)
      have hbw := hbw.setCell (p := ⟨w.heap.size + 1, 1, none⟩) (by show w.heap.size ≤ w.heap.size + 1; omega) (.int .i64 0)
      generalize (w2.setCell ⟨w.heap.size + 1, 0, none⟩ (.int .i64 c1)).setCell ⟨w.heap.size + 1, 1, none⟩ (.int .i64 0) = wf at *
      obtain ⟨z0, z1, -, -⟩ := cells2 hs2
      try rw [Exit.noGoto_ret]
      refine bodyPost_ret (v := .agg #[.int .i64 c1, .int .i64 0]) (by simp [results, Try.results16, go_sem, z0, z1]) rfl ⟨by rw [HF.out]; rfl, hbw⟩
  · have hd : (c0 == 0) = false := by simp [hc0]
    have hd2 : (c0 != 0) = true := by simp [hc0]
    have HF := Lib.hid (HC0.out hc0)
    clear hc0
    go_wp2
    have hs2 := two_set (x := .int .i64 c0) (y := .int .i64 0) F1.out
    have hbw := (hbw1).setCell (p := ⟨w.heap.size + 1, 0, none⟩) (by show w.heap.size ≤ w.heap.size + 1; omega) (.int .i64 c0)
    have hbw := hbw.setCell (p := ⟨w.heap.size + 1, 1, none⟩) (by show w.heap.size ≤ w.heap.size + 1; omega) (.int .i64 0)
    generalize (w1.setCell ⟨w.heap.size + 1, 0, none⟩ (.int .i64 c0)).setCell ⟨w.heap.size + 1, 1, none⟩ (.int .i64 0) = wf at *
    obtain ⟨z0, z1, -, -⟩ := cells2 hs2
    try rw [Exit.noGoto_ret]
    refine bodyPost_ret (v := .agg #[.int .i64 c0, .int .i64 0]) (by simp [results, Try.results16, go_sem, z0, z1]) rfl ⟨by rw [HF.out]; rfl, hbw⟩
end Go.Proofs.Ytlakmfhpinljjaa
