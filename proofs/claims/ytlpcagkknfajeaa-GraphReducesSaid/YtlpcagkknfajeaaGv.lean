/-
  graph: the reference's Reduce: contract.
-/
import Derived.Test.YtlpcagkknfajeaaGt
import Derived.Test.YtlpcagkknfajeaaGq
import Derived.Deep.DeepCutAuto
import Derived.Deep.QuietTactic
import Derived.BigQuiet
namespace Go.Proofs.Ytlpcagkknfajeaa
open Go.RowKit

theorem heldQ {w1 W W' : World} {p q : Addr} {a b : Value} (h : Below w1.heap.size w1 W ∧ W.cell? p = some a ∧ W.cell? q = some b) (hb : Below W.heap.size W W') : Below w1.heap.size w1 W' ∧ W'.cell? p = some a ∧ W'.cell? q = some b :=
  ⟨bthen h.1 (Nat.le_refl _) hb, cellB hb h.2.1, cellB hb h.2.2⟩
theorem once_has {pre : List Int} {x : Int} : (hasB (onceF pre) x = true → onceF (pre ++ [x]) = onceF pre) ∧ (hasB (onceF pre) x = false → onceF (pre ++ [x]) = onceF pre ++ [x]) := by
  unfold hasB
  constructor
  · intro h; rw [onceF_snoc]; unfold onceStep; rw [if_pos h]
  · intro h; rw [onceF_snoc]; unfold onceStep; rw [if_neg (by rw [h]; simp)]

set_option maxRecDepth 100000 in
set_option maxHeartbeats 4000000 in
theorem rReduce_any (rows : List (List Int)) (v : Value) (w : World) (hr : Rows2 w v rows) (hlen : rows.length ≤ 1073741824) (hrl : ∀ i (hi : i < rows.length), (rows[i]).length ≤ 1073741824) :
    Calls Try.prog 20 #[v] w fun e w' => ∃ v', e = .returned v' ∧ OwnR w' w.heap.size v' (redL rows) ∧ Below w.heap.size w w' := by
  obtain ⟨i0, hi, hz0, hz1, hz2⟩ := info_parts Try.info_i64g
  obtain ⟨j0, hj, hy0, hy1, hy2⟩ := info_parts Try.info_rowsg
  have HR := Lib.hid hr
  have HRL := Lib.hid hrl
  obtain ⟨a, cap, rfl⟩ := hr.form
  clear hr hrl
  go_enter Try.func20, Try.ntmps20
  go_wp2
  go_loopw [3, 4] (fun out r wr => ∃ i : Nat, i ≤ rows.length ∧ r = .int .i64 i ∧ Hid (OwnR wr w.heap.size out ((List.range i).map (redR rows))) ∧ Below w.heap.size w wr) (fun _ r _ => rows.length - (intOf r).toNat)
  case atStart => exact ⟨0, by omega, rfl, Lib.hid (OwnR.nil _ _), Below.refl _ _⟩
  case round =>
    obtain ⟨i, hi', rfl, HO, hb⟩ := hrel
    by_cases hir : i < rows.length
    · have hir' : (i : Int) < rows.length := by omega
      have HRo := Lib.hid (HR.out.below hb)
      obtain ⟨g, off, ra, rc, rfl, h1, h2, hcell0, hrow0⟩ := HRo.out.at hir
      have hrlen := HRL.out i hir
      have hrl63 := rds_len hrow0
      have HRW := Lib.hid hrow0
      have HC0 := Lib.hid hcell0
      have HOW : Hid (ownL rows i = onceF (depL rows.length rows[i])) := Lib.hid (by unfold ownL; simp [hir])
      have HRED : Hid (partL rows (ownL rows i) (ownL rows i).length = redR rows i) := Lib.hid partL_all
      have HOWN : Hid (∀ z ∈ ownL rows i, ∃ y : Nat, z = y ∧ y < rows.length) := Lib.hid (fun z hz => by obtain ⟨y, rfl, he⟩ := (mem_ownL hir).1 hz; exact ⟨y, rfl, he.2.1⟩)
      have HNDO : Hid (ownL rows i).Nodup := Lib.hid (onceF_nodup _)
      clear hcell0 hrow0
      generalize rows[i] = row at *
      rename World => wo
      go_wp2
      go_loopw [5, 6] (fun own r wr => ∃ m : Nat, m ≤ row.length ∧ r = .int .i64 m ∧ wr.ownsRow wo.heap.size 3 1 own (onceF (depL rows.length (row.take m))).length (ints .i64 (onceF (depL rows.length (row.take m)))) ∧ Below wo.heap.size wo wr) (fun _ r _ => row.length - (intOf r).toNat)
      case atStart => exact ⟨0, by omega, rfl, by simpa [onceF, depL, ints] using World.ownsRow_nil wo wo.heap.size 3 1, Below.refl _ _⟩
      case round =>
        obtain ⟨m, hm, rfl, hown, hbi⟩ := hrel
        have hcell := cellB hbi HC0.out
        by_cases hml : m < row.length
        · have hml' : (m : Int) < row.length := by omega
          obtain ⟨rg, roff, rfl, r1, r2, rcell0⟩ := ints_at HRW.out hml
          have rcell := cellB hbi rcell0
          have HYS := Lib.hid (depL_yes (n := rows.length) hml)
          have HNO := Lib.hid (depL_no (n := rows.length) hml)
          have HON := Lib.hid (once_has (pre := depL rows.length (row.take m)) (x := row[m]))
          have HA := Lib.hid (among_any (onceF (depL rows.length (row.take m))) row[m] u5 wr (RdS.of_owns hown))
          have hol : (onceF (depL rows.length (row.take m))).length ≤ row.length := Nat.le_trans (onceF_len _) (Nat.le_trans (by unfold depL; exact List.length_filter_le _ _) (by simp; omega))
          clear rcell0
          generalize row[m] = j at *
          generalize depL rows.length (row.take m) = dl at *
          generalize hasB (onceF dl) j = hh at *
          by_cases hji : 0 ≤ j ∧ j < (rows.length : Int)
          · have HE := Lib.hid (HYS.out (by unfold inB; simpa using hji))
            have d1 : decide (0 ≤ j) = true := by simpa using hji.1
            have d2 : decide (j < (rows.length : Int)) = true := by simpa using hji.2
            clear HYS HNO
            cases hh with
            | true =>
              have HE2 := Lib.hid (HON.out.1 rfl)
              go_wp2_with fail
              refine HA.out.mono ?_
              rintro e w3 ⟨rfl, rfl⟩
              go_wp2
              go_roundw
              case rel => exact ⟨m + 1, by omega, by go_num, by rw [HE.out, HE2.out]; exact hown, hbi⟩
              case measure => simp [intOf]; omega
            | false =>
              have HE2 := Lib.hid (HON.out.2 rfl)
              go_wp2_with fail
              refine HA.out.mono ?_
              rintro e w3 ⟨rfl, rfl⟩
              go_wp2_with (at_builtin; go_must (refine wpList_push rfl _ _ 46 rfl wo.heap.size 3 i0 (.int .i64 0) 1 8 Try.underlying46 hi hz0 hz1 hz2 rfl (by decide) _ _ _ rfl (hown.alloc _) ⟨wr.heap.size, 0, none⟩ 1 1 [_] rfl rfl (cell_one_new _ _ _) (by simp [Value.oneCell']) (by unfold maxLen; omega) (by omega) (by have := hbi.size; simp; omega) ?_; intro v' w5 hown' hgrow hfr))
              have hgrow : (wr.alloc _).grownBy w5 u5.ownBlock := hgrow
              go_roundw
              case rel => exact ⟨m + 1, by omega, by go_num, by rw [HE.out, HE2.out]; simpa [ints] using hown', below_push hbi hbi.size hown (Nat.le_refl _) hgrow⟩
              case measure => simp [intOf]; omega
          · have HE := Lib.hid (HNO.out (by unfold inB; simpa using hji))
            clear HYS HNO
            rcases (show j < 0 ∨ (0 ≤ j ∧ (rows.length : Int) ≤ j) by omega) with hj1 | ⟨hj1, hj2⟩
            · have d1 : decide (0 ≤ j) = false := by simp; omega
              go_wp2
              go_roundw
              case rel => exact ⟨m + 1, by omega, by go_num, by rw [HE.out]; exact hown, hbi⟩
              case measure => simp [intOf]; omega
            · have d1 : decide (0 ≤ j) = true := by simpa using hj1
              have d2 : decide (j < (rows.length : Int)) = false := by simp; omega
              go_wp2
              go_roundw
              case rel => exact ⟨m + 1, by omega, by go_num, by rw [HE.out]; exact hown, hbi⟩
              case measure => simp [intOf]; omega
        · have hml2 : row.take m = row := List.take_of_length_le (by omega)
          rw [hml2, ← HOW.out] at hown
          have hol : (ownL rows i).length ≤ 1073741824 := by
            rw [HOW.out]; exact Nat.le_trans (onceF_len _) (Nat.le_trans (by unfold depL; exact List.length_filter_le _ _) hrlen)
          clear HOW hml2
          generalize ownL rows i = own at *
          have HOWR := Lib.hid (RdS.of_owns hown)
          have HB2 := Lib.hid hbi
          obtain ⟨va, vc, rfl⟩ := (RdS.of_owns hown).form
          have hcc : own.length ≤ vc ∧ vc ≤ 9223372036854775807 := by
            obtain ⟨_, a', c', he, h1, h2, _⟩ := RdS.of_owns hown
            injection he with _ _ e3; subst e3; unfold maxLen at h2; exact ⟨h1, h2⟩
          obtain ⟨hv1, hv2⟩ := hcc
          clear hown hbi
          rename World => w2
          go_wp2
          clear hcell
          go_loopw [8, 9] (fun l r wr => ∃ m : Nat, m ≤ own.length ∧ r = .int .i64 m ∧ wr.ownsRow w2.heap.size 3 1 l (partL rows own m).length (ints .i64 (partL rows own m)) ∧ Below w2.heap.size w2 wr) (fun _ r _ => own.length - (intOf r).toNat)
          case atStart => exact ⟨0, by omega, rfl, by simpa [partL, ints] using World.ownsRow_nil w2 w2.heap.size 3 1, Below.refl _ _⟩
          case round =>
            obtain ⟨m, hm, rfl, hl, hb3⟩ := hrel
            by_cases hml : m < own.length
            · have hml' : (m : Int) < own.length := by omega
              obtain ⟨lg, loff, rfl, _, _, mcell0⟩ := ints_at HOWR.out hml
              obtain ⟨x, hx, hxn⟩ := HOWN.out _ (List.getElem_mem hml)
              have HYES : Hid (folB rows own (x : Int) = false → partL rows own (m + 1) = partL rows own m ++ [(x : Int)]) := Lib.hid (fun h => by rw [← hx] at h ⊢; exact partL_yes hml h)
              have HNO : Hid (folB rows own (x : Int) = true → partL rows own (m + 1) = partL rows own m) := Lib.hid (fun h => by rw [← hx] at h; exact partL_no hml h)
              have HNE : Hid (∀ (q : Nat) (hq : q < own.length), decide (own[q] ≠ (x : Int)) = ((q : Int) != (m : Int))) := Lib.hid (fun q hq => by
                rw [← hx]
                by_cases hqm : q = m
                · subst hqm; simp
                · have h1 : own[q] ≠ own[m] := by
                    rcases Nat.lt_or_gt_of_ne hqm with h | h
                    · exact List.pairwise_iff_getElem.1 HNDO.out q m hq hml h
                    · exact fun e => List.pairwise_iff_getElem.1 HNDO.out m q hml hq h e.symm
                  have h2 : ((q : Int) != (m : Int)) = true := by simp; omega
                  rw [h2]; simpa using h1)
              rw [hx] at mcell0
              have hpl := partL_len rows own m
              have HMC := Lib.hid (cellB hb3 mcell0)
              have HL := Lib.hid hl
              have HB3 := Lib.hid hb3
              clear hx mcell0 hl hb3
              rename World => w3
              go_wp2
              go_loopw [10, 11] (fun b r wr => ∃ q : Nat, q ≤ own.length ∧ r = .int .i64 q ∧ b = .bool (folP rows own (x : Int) q) ∧ Below w3.heap.size w3 wr) (fun _ r _ => own.length - (intOf r).toNat)
              case atStart => exact ⟨0, by omega, rfl, by simp [folP], Below.refl _ _⟩
              case round =>
                obtain ⟨q, hq, rfl, rfl, hb4⟩ := hrel
                by_cases hql : q < own.length
                · have hql' : (q : Int) < own.length := by omega
                  obtain ⟨lg', loff', hq', _, _, qcell0⟩ := ints_at HOWR.out hql
                  obtain ⟨rfl, rfl⟩ : lg = lg' ∧ loff = loff' := by
                    injection hq' with hq'; injection hq' with h1 h2; exact ⟨h1, h2⟩
                  obtain ⟨y, hy, hyn⟩ := HOWN.out _ (List.getElem_mem hql)
                  have HFS : Hid (folP rows own (x : Int) (q + 1) = (folP rows own (x : Int) q || (((q : Int) != (m : Int)) && hasB (befL rows y) x))) := Lib.hid (by rw [folP_succ hql, HNE.out q hql, hy])
                  rw [hy] at qcell0
                  have qcell := cellB hb4 (cellB HB3.out qcell0)
                  have mcell := cellB hb4 HMC.out
                  clear hy hq' qcell0
                  have hbm := bthen (bthen HB2.out (Nat.le_refl _) HB3.out) (Nat.le_refl _) hb4
                  have HBF : Hid (∀ W, (Below wr.heap.size wr W ∧ W.cell? ⟨lg, loff + q, none⟩ = some (.int .i64 (y : Int)) ∧ W.cell? ⟨lg, loff + m, none⟩ = some (.int .i64 (x : Int))) → Calls Try.prog 41 #[.slice (some ⟨g, off, none⟩) rows.length cap, .int .i64 y] W fun e w' => ∃ v', e = .returned v' ∧ RdS w' v' 1 (befL rows y).length (ints .i64 (befL rows y)) ∧ Below W.heap.size W w') := Lib.hid (fun W hW => by
                    refine (rBefore_any rows y _ W (HRo.out.below (bthen hbm (Nat.le_refl _) hW.1)) (by omega)).mono ?_
                    rintro e w' ⟨v', rfl, h1, h2⟩
                    exact ⟨v', rfl, RdS.of_owns h1, h2⟩)
                  generalize folP rows own (x : Int) q = fb at *
                  generalize hh : hasB (befL rows y) (x : Int) = hy at *
                  have HH := Lib.hid hh
                  clear hh
                  by_cases hqm : q = m
                  · subst hqm
                    have HF2 : Hid (folP rows own (x : Int) (q + 1) = fb) := Lib.hid (by rw [HFS.out]; simp)
                    have hd : ((q : Int) != (q : Int)) = false := by simp
                    clear HFS HBF
                    cases fb
                    all_goals
                      go_wp2_with fail
                      go_quiet (fail)
                      go_wp2
                      go_roundw
                      case rel => exact ⟨q + 1, by omega, by go_num, by rw [HF2.out], belowN hb4 _⟩
                      case measure => simp [intOf]; omega
                  · have hd : ((q : Int) != (m : Int)) = true := by simp; omega
                    rw [hd, Bool.true_and] at HFS
                    cases fb with
                    | true =>
                      have HF2 : Hid (folP rows own (x : Int) (q + 1) = true) := Lib.hid (by rw [HFS.out]; simp)
                      clear HFS HBF
                      go_wp2_with fail
                      go_quiet (fail)
                      go_wp2
                      go_roundw
                      case rel => exact ⟨q + 1, by omega, by go_num, by rw [HF2.out], belowN hb4 _⟩
                      case measure => simp [intOf]; omega
                    | false =>
                      have HF2 : Hid (folP rows own (x : Int) (q + 1) = hy) := Lib.hid (by rw [HFS.out]; simp)
                      clear HFS
                      go_wp2_with fail
                      first | go_region_held3 (fun W' => Below wr.heap.size wr W' ∧ W'.cell? ⟨lg, loff + q, none⟩ = some (.int .i64 (y : Int)) ∧ W'.cell? ⟨lg, loff + m, none⟩ = some (.int .i64 (x : Int)))
                        (first | assumption | exact ⟨(Below.refl _ _).drew, qcell, mcell⟩ | exact heldQ (by assumption) (by assumption)) (first
                          | (go_at_call 41; refine (HBF.out _ (by assumption)).mono ?_; rintro e w7 ⟨v7, rfl, H7, hb7⟩)
                          | (go_at_call 40; refine (among_any (befL rows y) x _ _ H7).mono ?_; rintro e w8 ⟨rfl, rfl⟩)) | fail
                      rename_i hS
                      rw [HH.out]
                      go_wp2
                      go_roundw
                      case rel => exact ⟨q + 1, by omega, by go_num, by rw [HF2.out], bthen hb4 (Nat.le_refl _) hS.1⟩
                      case measure => simp [intOf]; omega
                · have hqe : q = own.length := by omega
                  subst hqe
                  have HFB : Hid (folP rows own (x : Int) own.length = folB rows own (x : Int)) := Lib.hid folP_all
                  rw [HFB.out]
                  have mcell := cellB hb4 HMC.out
                  have hl4 := ownsB HL.out hb4
                  have hb34 := bthen HB3.out (Nat.le_refl _) hb4
                  generalize folB rows own (x : Int) = fb at *
                  cases fb with
                  | true =>
                    have HE := Lib.hid (HNO.out rfl)
                    go_wp2
                    go_roundw
                    case rel => exact ⟨m + 1, by omega, by go_num, by rw [HE.out]; exact hl4, hb34⟩
                    case measure => simp [intOf]; omega
                  | false =>
                    have HE := Lib.hid (HYES.out rfl)
                    go_wp2_with (at_builtin; go_must (refine wpList_push rfl _ _ 46 rfl w2.heap.size 3 i0 (.int .i64 0) 1 8 Try.underlying46 hi hz0 hz1 hz2 rfl (by decide) _ _ _ rfl (hl4.alloc _) ⟨wr.heap.size, 0, none⟩ 1 1 [_] rfl rfl (cell_one_new _ _ _) (by simp [Value.oneCell']) (by unfold maxLen; omega) (by omega) (by have := hb34.size; simp; omega) ?_; intro v' w5 hown' hgrow hfr))
                    have hgrow : (wr.alloc _).grownBy w5 u8.ownBlock := hgrow
                    go_roundw
                    case rel => exact ⟨m + 1, by omega, by go_num, by rw [HE.out]; simpa [ints] using hown', below_push hb34 hb34.size hl4 (Nat.le_refl _) hgrow⟩
                    case measure => simp [intOf]; omega
            · have hme : m = own.length := by omega
              subst hme
              rw [HRED.out] at hl
              have hbm := bthen HB2.out (Nat.le_refl _) hb3
              have hsz : w.heap.size ≤ w2.heap.size := by have := hb.size; have := HB2.out.size; omega
              have hlc := ownsRow_mono hl hsz
              obtain ⟨la, lc, rfl⟩ := (RdS.of_owns hl).form
              obtain ⟨cs, hcs, hrs⟩ := HO.out.below hbm
              have HRS := Lib.hid hrs
              have hcl : ((List.range i).map (redR rows)).length = i := by simp
              have hbw := bthen hb (Nat.le_refl _) hbm
              clear hrs hl
              go_wp2_with (at_builtin; go_must (refine wpList_push rfl _ _ 41 rfl w.heap.size 46 j0 (.slice none 0 0) 1 24 Try.underlying41 hj hy0 hy1 hy2 rfl (by decide) _ _ _ rfl (hcs.alloc _) ⟨wr.heap.size, 0, none⟩ 1 1 [_] rfl rfl (cell_one_new _ _ _) (by simp [Value.oneCell']) (by unfold maxLen; omega) (by omega) (by have := hbw.size; simp; omega) ?_; intro v' w5 hown' hgrow hfr))
              have hgrow : (wr.alloc _).grownBy w5 u3.ownBlock := hgrow
              have HP := OwnR.pushed hcs HRS.out hlc hown' hgrow
              go_roundw
              case rel => exact ⟨i + 1, by omega, by go_num, Lib.hid (by rw [List.range_succ, List.map_append]; exact HP), below_push hbw hbw.size hcs (Nat.le_refl _) hgrow⟩
              case measure => simp [intOf]; omega
    · have hil : i = rows.length := by omega
      subst hil
      go_wp2
      go_ret
      exact ⟨_, rfl, HO.out, hb⟩
end Go.Proofs.Ytlpcagkknfajeaa
