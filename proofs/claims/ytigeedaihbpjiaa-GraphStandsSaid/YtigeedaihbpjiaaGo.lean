/-
  GraphTells: the law's walk.
-/
import Derived.Test.YtigeedaihbpjiaaGm
import Derived.Test.YtigeedaihbpjiaaGn
import Derived.Deep.DeepCutAuto
namespace Go.Proofs.Ytigeedaihbpjiaa
open Go.RowKit

theorem beh_has {rows : List (List Int)} {i : Int} {k : Nat} (hk : k < rows.length) : behB rows i k = (decide (0 ≤ i) && (decide (i < rows.length) && hasB rows[k] i)) := by
  unfold behB hasB depL inB
  rw [List.getElem?_eq_getElem hk, Option.getD_some, Bool.eq_iff_iff]
  simp only [List.contains_iff_mem, List.mem_filter, Bool.and_eq_true, decide_eq_true_eq]
  constructor
  · rintro ⟨h1, h2, h3⟩; exact ⟨h2, h3, h1⟩
  · rintro ⟨h1, h2, h3⟩; exact ⟨h3, h1, h2⟩

/-- Two rows of a call's own that lie in blocks of their own. -/
def Apart (x y : Value) : Prop := ∀ g, x.ownBlock = some g → y.ownBlock ≠ some g
theorem Apart.symm {x y : Value} (h : Apart x y) : Apart y x := fun g hg hx => h g hx hg
theorem apart_nil (y : Value) : Apart (.slice none 0 0) y := fun g hg => by simp [Value.ownBlock] at hg
theorem push_apart {W w1 : World} {tmp : Obj} {x x' y : Value} {bx b2 : Nat} {e e' : TypeId} {sx sy nx ny : Nat} {xs ys : List Value} (hy : W.ownsRow b2 e' sy y ny ys) (hD : Apart x y) (hx : W.ownsRow bx e sx x nx xs)
    (hgrow : (W.alloc tmp).grownBy w1 x.ownBlock) (hfr : Fresh (W.alloc tmp) x x') : w1.ownsRow b2 e' sy y ny ys ∧ Apart x' y := by
  refine ⟨(hy.alloc tmp).kept hgrow ?_, fun g hg hyg => ?_⟩
  · cases h : y.ownBlock with
    | none => exact .inl rfl
    | some g => exact .inr fun h2 => hD g h2.symm h
  · rcases hfr g hg with h | h
    · exact hD g h hyg
    · have := (hy.lt g hyg).2; simp at h; omega

set_option maxRecDepth 100000 in
set_option maxHeartbeats 2000000 in
theorem GraphTells_any (rows : List (List Int)) (v : Value) (i : Int) (there : List Bool) (vt : Value) (w : World) (hr : Rows2 w v rows) (ht : RdS w vt 1 there.length (bls there)) :
    Calls Try.prog 13 #[v, .int .i64 i, vt] w fun e w' => e = .returned (.bool true) ∧ Below w.heap.size w w' := by
  obtain ⟨i0, hi, hz0, hz1, hz2⟩ := info_parts Try.info_i64g
  have HR := Lib.hid hr
  have HT := Lib.hid ht
  have htl := rds_len ht
  obtain ⟨a, cap, rfl⟩ := hr.form
  obtain ⟨ta, tc, rfl⟩ := ht.form
  clear hr ht
  go_enter Try.func13, Try.ntmps13
  go_wp2_with fail
  refine (live26_any _).mono ?_
  rintro e w1 ⟨rfl, hb1⟩
  go_wp2_with fail
  refine (Small_any rows _ _ (HR.out.below hb1)).mono ?_
  rintro e w2 ⟨rfl, rfl⟩
  by_cases hsm : smallB rows = true
  · obtain ⟨hlen, _⟩ := small_all hsm
    rw [hsm]
    by_cases hth : (100 : Int) < there.length
    · have hd : decide ((100 : Int) < there.length) = true := by simpa using hth
      go_wp2
      go_ret
      exact ⟨rfl, hb1⟩
    · have hd : decide ((100 : Int) < there.length) = false := by simpa using hth
      have HR1 := Lib.hid (HR.out.below hb1)
      have HT1 := Lib.hid (HT.out.below hb1)
      have HB1 := Lib.hid hb1
      clear hb1 HR HT
      go_wp2
      go_loopw [7, 8, 9] (fun x y r wr => ∃ k : Nat, k ≤ rows.length ∧ r = .int .i64 k ∧ wr.ownsRow w1.heap.size 3 1 x (behL rows i k).length (ints .i64 (behL rows i k)) ∧ wr.ownsRow w1.heap.size 3 1 y (rdyL rows there k).length (ints .i64 (rdyL rows there k)) ∧ Apart x y ∧ Below w1.heap.size w1 wr) (fun _ _ r _ => rows.length - (intOf r).toNat)
      case atStart => exact ⟨0, by omega, rfl, by simpa [behL, ints] using World.ownsRow_nil w1 w1.heap.size 3 1, by simpa [rdyL, ints] using World.ownsRow_nil w1 w1.heap.size 3 1, apart_nil _, Below.refl _ _⟩
      case round =>
        obtain ⟨k, hk, rfl, hx, hy, hap, hb⟩ := hrel
        by_cases hkn : k < rows.length
        · have hkn' : (k : Int) < rows.length := by omega
          obtain ⟨g, off, ra, rc, rfl, h1, h2, hcell, hrow⟩ := (HR1.out.below hb).at hkn
          have HC := Lib.hid (Has_any rows[k] i _ wr hrow)
          have HBH := Lib.hid (beh_has (i := i) hkn)
          have HY1 := Lib.hid (behL_yes (rows := rows) (i := i) (k := k))
          have HN1 := Lib.hid (behL_no (rows := rows) (i := i) (k := k))
          have HY2 := Lib.hid (rdyL_yes (rows := rows) (there := there) (k := k))
          have HN2 := Lib.hid (rdyL_no (rows := rows) (there := there) (k := k))
          have hl1 := behL_len rows i k
          have hl2 := rdyL_len rows there k
          have HM : Hid (∀ W, Below w1.heap.size w1 W → Calls Try.prog 66 #[.slice (some ⟨g, off, none⟩) rows.length cap, .slice ta there.length tc, .int .i64 k] W fun e w' => e = .returned (.bool (mayB rows there k)) ∧ W = w') :=
            Lib.hid (fun W hW => rMay_any rows there k _ _ W (HR1.out.below hW) (HT1.out.below hW) hkn)
          have HRD : Hid (rdyB rows there k = (!thereB there k && mayB rows there k)) := Lib.hid rfl
          clear hrow
          generalize hasB rows[k] i = hh at *
          generalize behB rows i k = bh at *
          generalize rdyB rows there k = rb at *
          generalize rows[k].length = rl at *
          generalize mayB rows there k = mb at *
          generalize htb : thereB there k = tb at *
          have HTB := Lib.hid htb
          clear htb
          go_upto_region 9 with fail
          go_cut [41] (fun s wx => s = .bool bh ∧ wr = wx)
          case first =>
            rcases (show i < 0 ∨ (0 ≤ i ∧ (rows.length : Int) ≤ i) ∨ (0 ≤ i ∧ i < (rows.length : Int)) by omega) with hi1 | ⟨hi1, hi2⟩ | ⟨hi1, hi2⟩
            · have d1 : decide (0 ≤ i) = false := by simp; omega
              have e1 := HBH.out
              rw [d1, Bool.false_and] at e1
              go_wp2_with fail
              go_meet
              exact ⟨by rw [e1], rfl⟩
            · have d1 : decide (0 ≤ i) = true := by simpa using hi1
              have d2 : decide (i < (rows.length : Int)) = false := by simp; omega
              have e1 := HBH.out
              rw [d2, Bool.false_and, Bool.and_false] at e1
              go_wp2_with fail
              go_meet
              exact ⟨by rw [e1], rfl⟩
            · have d1 : decide (0 ≤ i) = true := by simpa using hi1
              have d2 : decide (i < (rows.length : Int)) = true := by simpa using hi2
              have e1 := HBH.out
              rw [d1, d2, Bool.true_and, Bool.true_and] at e1
              go_wp2_with fail
              refine HC.out.mono ?_
              rintro e w3 ⟨rfl, rfl⟩
              go_wp2_with fail
              go_meet
              exact ⟨by rw [e1], rfl⟩
          case rest =>
            obtain ⟨rfl, rfl⟩ := hcut
            clear HC HBH
            go_upto_if 41 with fail
            go_cut [7] (fun s wx => wx.ownsRow w1.heap.size 3 1 s (behL rows i (k + 1)).length (ints .i64 (behL rows i (k + 1))) ∧ wx.ownsRow w1.heap.size 3 1 u8 (rdyL rows there k).length (ints .i64 (rdyL rows there k)) ∧ Apart s u8 ∧ Below w1.heap.size w1 wx)
            case first =>
              cases bh with
              | false =>
                have HK := Lib.hid (HN1.out rfl)
                go_wp2_with fail
                go_meet
                exact ⟨by rw [HK.out]; exact hx, hy, hap, hb⟩
              | true =>
                have HK := Lib.hid (HY1.out rfl)
                go_wp2_with (at_builtin; go_must (refine wpList_push rfl _ _ 104 rfl w1.heap.size 3 i0 (.int .i64 0) 1 8 Try.underlying104 hi hz0 hz1 hz2 rfl (by decide) _ _ _ rfl (hx.alloc _) ⟨wr.heap.size, 0, none⟩ 1 1 [_] rfl rfl (cell_one_new _ _ _) (by simp [Value.oneCell']) (by unfold maxLen; omega) (by omega) (by have := hb.size; simp; omega) ?_; intro v' w5 hown' hgrow hfr))
                have hgrow : (wr.alloc _).grownBy w5 u7.ownBlock := hgrow
                obtain ⟨hy', hap'⟩ := push_apart hy hap hx hgrow hfr
                go_meet
                exact ⟨by rw [HK.out]; simpa [ints] using hown', hy', hap', below_push hb hb.size hx (Nat.le_refl _) hgrow⟩
            case rest =>
              obtain ⟨hx2, hy2, hap2, hb2⟩ := hcut
              clear hx hy hap HY1 HN1 hl1 hcell hb
              rename World => wr
              have hx := hx2
              have hy := hy2
              have hap := hap2
              have hb := hb2
              clear hx2 hy2 hap2 hb2
              have hl1 := behL_len rows i (k + 1)
              by_cases hkt : k < there.length
              · obtain ⟨tg, toff, rfl, t1, t2, tcell0⟩ := bls_at HT1.out hkt
                have tcell := cellB hb tcell0
                have hkt' : (k : Int) < there.length := by omega
                have HE : Hid (there[k] = tb) := Lib.hid (by have := HTB.out; unfold thereB at this; simpa [hkt] using this)
                rw [HE.out] at tcell
                clear tcell0
                cases tb with
                | true =>
                  have hrb : rb = false := by rw [HRD.out]; rfl
                  subst hrb
                  have HK := Lib.hid (HN2.out rfl)
                  go_wp2
                  go_roundw
                  case rel => exact ⟨k + 1, by omega, by go_num, hx, by rw [HK.out]; exact hy, hap, hb⟩
                  case measure => simp [intOf]; omega
                | false =>
                  have hrb : rb = mb := by rw [HRD.out]; rfl
                  subst hrb
                  cases rb with
                  | false =>
                    have HK := Lib.hid (HN2.out rfl)
                    go_wp2_with fail
                    refine (HM.out _ hb).mono ?_
                    rintro e w6 ⟨rfl, rfl⟩
                    go_wp2
                    go_roundw
                    case rel => exact ⟨k + 1, by omega, by go_num, hx, by rw [HK.out]; exact hy, hap, hb⟩
                    case measure => simp [intOf]; omega
                  | true =>
                    have HK := Lib.hid (HY2.out rfl)
                    go_wp2_with fail
                    refine (HM.out _ hb).mono ?_
                    rintro e w6 ⟨rfl, rfl⟩
                    go_wp2_with (at_builtin; go_must (refine wpList_push rfl _ _ 104 rfl w1.heap.size 3 i0 (.int .i64 0) 1 8 Try.underlying104 hi hz0 hz1 hz2 rfl (by decide) _ _ _ rfl (hy.alloc _) ⟨wr.heap.size, 0, none⟩ 1 1 [_] rfl rfl (cell_one_new _ _ _) (by simp [Value.oneCell']) (by unfold maxLen; omega) (by omega) (by have := hb.size; simp; omega) ?_; intro v' w5 hown' hgrow hfr))
                    have hgrow : (wr.alloc _).grownBy w5 u8.ownBlock := hgrow
                    obtain ⟨hx', hap'⟩ := push_apart hx hap.symm hy hgrow hfr
                    go_roundw
                    case rel => exact ⟨k + 1, by omega, by go_num, hx', by rw [HK.out]; simpa [ints] using hown', hap'.symm, below_push hb hb.size hy (Nat.le_refl _) hgrow⟩
                    case measure => simp [intOf]; omega
              · have htf : tb = false := by have := HTB.out; unfold thereB at this; simpa [hkt] using this.symm
                subst htf
                have hrb : rb = mb := by rw [HRD.out]; rfl
                subst hrb
                have d3 : decide ((k : Int) < there.length) = false := by simp; omega
                cases rb with
                | false =>
                  have HK := Lib.hid (HN2.out rfl)
                  go_wp2_with fail
                  refine (HM.out _ hb).mono ?_
                  rintro e w6 ⟨rfl, rfl⟩
                  go_wp2
                  go_roundw
                  case rel => exact ⟨k + 1, by omega, by go_num, hx, by rw [HK.out]; exact hy, hap, hb⟩
                  case measure => simp [intOf]; omega
                | true =>
                  have HK := Lib.hid (HY2.out rfl)
                  go_wp2_with fail
                  refine (HM.out _ hb).mono ?_
                  rintro e w6 ⟨rfl, rfl⟩
                  go_wp2_with (at_builtin; go_must (refine wpList_push rfl _ _ 104 rfl w1.heap.size 3 i0 (.int .i64 0) 1 8 Try.underlying104 hi hz0 hz1 hz2 rfl (by decide) _ _ _ rfl (hy.alloc _) ⟨wr.heap.size, 0, none⟩ 1 1 [_] rfl rfl (cell_one_new _ _ _) (by simp [Value.oneCell']) (by unfold maxLen; omega) (by omega) (by have := hb.size; simp; omega) ?_; intro v' w5 hown' hgrow hfr))
                  have hgrow : (wr.alloc _).grownBy w5 u8.ownBlock := hgrow
                  obtain ⟨hx', hap'⟩ := push_apart hx hap.symm hy hgrow hfr
                  go_roundw
                  case rel => exact ⟨k + 1, by omega, by go_num, hx', by rw [HK.out]; simpa [ints] using hown', hap'.symm, below_push hb hb.size hy (Nat.le_refl _) hgrow⟩
                  case measure => simp [intOf]; omega
        · have hkl : k = rows.length := by omega
          subst hkl
          have HX := Lib.hid (RdS.of_owns hx)
          have HY := Lib.hid (RdS.of_owns hy)
          have HRr := Lib.hid (HR1.out.below hb)
          have HTr := Lib.hid (HT1.out.below hb)
          have HBr := Lib.hid (bthen HB1.out (Nat.le_refl _) hb)
          clear hx hy hap hb HR1 HT1 HB1
          go_wp2_with fail
          refine (Before_any rows i _ _ HRr.out (by omega)).mono ?_
          rintro e w2 ⟨v2, rfl, o2, b2⟩
          have H2 := Lib.hid (RdS.of_owns o2)
          have B2 := Lib.hid b2
          clear o2 b2
          go_wp2_with fail
          refine (rBefore_any rows i _ _ (HRr.out.below B2.out) (by omega)).mono ?_
          rintro e w3 ⟨v3, rfl, o3, b3⟩
          have H2' := Lib.hid (H2.out.below b3)
          have H3 := Lib.hid (RdS.of_owns o3)
          have B3 := Lib.hid (bthen B2.out (Nat.le_refl _) b3)
          clear o3 b3 H2
          go_wp2_with fail
          refine (gSame_true _ _ _ _ H2'.out H3.out).mono ?_
          rintro e w4 ⟨rfl, b4⟩
          have B4 := Lib.hid (bthen B3.out (Nat.le_refl _) b4)
          clear b4
          go_wp2_with fail
          refine (Behind_any rows i _ _ (HRr.out.below B4.out) (by omega)).mono ?_
          rintro e w5 ⟨v5, rfl, o5, b5⟩
          have H5 := Lib.hid (RdS.of_owns o5)
          have B5 := Lib.hid (bthen B4.out (Nat.le_refl _) b5)
          clear o5 b5
          go_wp2_with fail
          refine (gSame_true _ _ _ _ H5.out (HX.out.below B5.out)).mono ?_
          rintro e w6 ⟨rfl, b6⟩
          have B6 := Lib.hid (bthen B5.out (Nat.le_refl _) b6)
          clear b6
          go_wp2_with fail
          refine (Ready_any rows there _ _ _ (HRr.out.below B6.out) (HTr.out.below B6.out) (by omega)).mono ?_
          rintro e w7 ⟨v7, rfl, o7, b7⟩
          have H7 := Lib.hid (RdS.of_owns o7)
          have B7 := Lib.hid (bthen B6.out (Nat.le_refl _) b7)
          clear o7 b7
          go_wp2_with fail
          refine (gSame_true _ _ _ _ H7.out (HY.out.below B7.out)).mono ?_
          rintro e w8 ⟨rfl, b8⟩
          have B8 := Lib.hid (bthen B7.out (Nat.le_refl _) b8)
          clear b8
          go_wp2_with fail
          refine (Longest_any rows _ _ (HRr.out.below B8.out) (by omega)).mono ?_
          rintro e w9 ⟨rfl, b9⟩
          have B9 := Lib.hid (bthen B8.out (Nat.le_refl _) b9)
          clear b9
          go_wp2_with fail
          refine (rLongest_any rows _ _ (HRr.out.below B9.out) (by omega)).mono ?_
          rintro e w10 ⟨rfl, b10⟩
          have B10 := Lib.hid (bthen B9.out (Nat.le_refl _) b10)
          clear b10
          have hll : ((lonO rows : Int) == (lonO rows : Int)) = true := by simp
          go_wp2
          go_ret
          exact ⟨by first | rfl | simp, bthen HBr.out (Nat.le_refl _) B10.out⟩
  · have hsf : smallB rows = false := by simpa using hsm
    rw [hsf]
    go_wp2
    go_ret
    exact ⟨rfl, hb1⟩
end Go.Proofs.Ytigeedaihbpjiaa
