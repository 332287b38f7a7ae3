/-
  graph: the reference's Before, Longest: contracts.
-/
import Derived.Test.YtlpcagkknfajeaaGk
namespace Go.Proofs.Ytlpcagkknfajeaa
open Go.RowKit

theorem rbStep_skip {rows : List (List Int)} {i k : Nat} {th : List Bool} (h : k ≠ i) (hg : gb th k = false) : rbStep rows i th k = th := by unfold rbStep; rw [if_pos ⟨h, hg⟩]
theorem rbStep_go {rows : List (List Int)} {i k : Nat} {th : List Bool} (h : k = i ∨ gb th k = true) : rbStep rows i th k = rbRow (depL rows.length (rows[k]?.getD [])) th := by
  unfold rbStep
  rw [if_neg]
  rintro ⟨h1, h2⟩
  rcases h with h | h
  · exact h1 h
  · rw [h2] at h; cases h
theorem rbRow_len (l : List Int) : ∀ th : List Bool, (rbRow l th).length = th.length := by
  induction l with
  | nil => intro th; rfl
  | cons a t ih => intro th; unfold rbRow at *; rw [List.foldl_cons, ih]; simp
theorem rbStep_len (rows : List (List Int)) (i : Nat) (th : List Bool) (k : Nat) : (rbStep rows i th k).length = th.length := by
  unfold rbStep
  split
  · rfl
  · exact rbRow_len _ _
theorem rbPass_len (rows : List (List Int)) (i : Nat) (th : List Bool) : ∀ k, (rbPass rows i k th).length = th.length := by
  intro k
  induction k with
  | zero => rfl
  | succ k ih => rw [rbPass_succ, rbStep_len, ih]

set_option maxRecDepth 100000 in
set_option maxHeartbeats 1000000 in
theorem rBefore_any (rows : List (List Int)) (i : Int) (v : Value) (w : World) (hr : Rows2 w v rows) (hlen : rows.length ≤ 1073741824) :
    Calls Try.prog 41 #[v, .int .i64 i] w fun e w' => ∃ v', e = .returned v' ∧ w'.ownsRow w.heap.size 3 1 v' (befL rows i).length (ints .i64 (befL rows i)) ∧ Below w.heap.size w w' := by
  obtain ⟨i0, hi, hz0, hz1, hz2⟩ := info_parts Try.info_i64g
  have HR := Lib.hid hr
  obtain ⟨a, cap, rfl⟩ := hr.form
  clear hr
  have hmk : ∀ w : World, (Instr.makeSlice 60 (.int .i64 rows.length) (.int .i64 rows.length)).run Try.prog w = .ok (.slice (some ⟨w.heap.size, 0, none⟩) rows.length rows.length) (w.alloc (.cells (bls (List.replicate rows.length false)).toArray 4)) := fun w => make_bools rows.length w hlen
  by_cases hin : 0 ≤ i ∧ i < rows.length
  · obtain ⟨I, rfl⟩ : ∃ I : Nat, i = I := ⟨i.toNat, by omega⟩
    have hI : I < rows.length := by omega
    rw [befL_in hI, bef_same hI]
    have d1 : decide ((I : Int) < 0) = false := by simp
    have d2 : decide ((rows.length : Int) ≤ (I : Int)) = false := by simp; omega
    go_enter Try.func41, Try.ntmps41
    go_wp2
    generalize decide (rows.length ≤ I) = dd
    clear hmk
    have c0 : Hid ((w.alloc (.cells (bls (List.replicate rows.length false)).toArray 4)).heap[w.heap.size]? = some (.cells (bls (List.replicate rows.length false)).toArray 4 (0, 0))) := Lib.hid (World.alloc_heap_new w _)
    have hbl0 : Below w.heap.size w (w.alloc (.cells (bls (List.replicate rows.length false)).toArray 4)) := (Below.refl _ w).alloc (Nat.le_refl _) _
    generalize w.alloc (.cells (bls (List.replicate rows.length false)).toArray 4) = w1 at *
    go_loopw [6] (fun r wr => ∃ (q : Nat) (th : List Bool), q ≤ rows.length + 1 ∧ r = .int .i64 q ∧ th.length = rows.length ∧ Hid (wr.heap[w.heap.size]? = some (.cells (bls th).toArray 4 (0, 0))) ∧ Hid (rbF rows I (rows.length + 1 - q) th = rbIn rows I) ∧ Below w.heap.size w wr) (fun r _ => rows.length + 1 - (intOf r).toNat)
    case atStart => exact ⟨0, _, by omega, rfl, by simp, c0, Lib.hid rfl, hbl0⟩
    case round =>
      obtain ⟨q, th, hq, rfl, hth, HB, HF, hb⟩ := hrel
      clear c0
      rename World => wo
      by_cases hlt : q ≤ rows.length
      · have hlt' : (q : Int) ≤ rows.length := by omega
        have HNX : Hid (rbF rows I (rows.length + 1 - q) th = rbF rows I (rows.length + 1 - (q + 1)) (rbPass rows I rows.length th)) := Lib.hid (by
          obtain ⟨m, hm⟩ : ∃ m, rows.length + 1 - q = m + 1 := ⟨rows.length - q, by omega⟩
          rw [hm, show rows.length + 1 - (q + 1) = m by omega]; rfl)
        go_wp2
        go_loopw [7] (fun r wr => ∃ k : Nat, k ≤ rows.length ∧ r = .int .i64 k ∧ Hid (wr.heap[w.heap.size]? = some (.cells (bls (rbPass rows I k th)).toArray 4 (0, 0))) ∧ Below w.heap.size w wr) (fun r _ => rows.length - (intOf r).toNat)
        case atStart => exact ⟨0, by omega, rfl, HB, hb⟩
        case round =>
          obtain ⟨k, hk, rfl, HB2, hb2⟩ := hrel
          rename World => wp
          by_cases hkn : k < rows.length
          · have hkn' : (k : Int) < rows.length := by omega
            obtain ⟨g, off, ra, rc, rfl, h1, h2, hcell0, hrow0⟩ := (HR.out.at hkn)
            have hrl := rds_len hrow0
            have HRW := Lib.hid hrow0
            have HPS := Lib.hid (rbPass_succ rows I k th)
            have hpl := rbPass_len rows I th k
            have HEQ : Hid (rows[k]?.getD [] = rows[k]) := Lib.hid (by simp [hkn])
            have HC0 := Lib.hid hcell0
            clear hcell0 hrow0
            generalize rbPass rows I k th = tp at *
            generalize rows[k] = row at *
            have hkt : k < tp.length := by omega
            have tcell : wp.cell? ⟨w.heap.size, k, none⟩ = some (.bool tp[k]) := by
              simp only [World.cell?, HB2.out, Option.bind_some]
              simp [bls, hkt]
            have HG : Hid (gb tp k = tp[k]) := Lib.hid (by unfold gb; simp [hkt])
            by_cases hgo : k = I ∨ gb tp k = true
            · have HST : Hid (rbStep rows I tp k = rbRow (depL rows.length row) tp) := Lib.hid (by rw [rbStep_go hgo, HEQ.out])
              clear HEQ
              have hcase : ((k : Int) != (I : Int)) = false ∨ (((k : Int) != (I : Int)) = true ∧ tp[k] = true) := by
                rcases hgo with h | h
                · left; simp; omega
                · by_cases hki : (k : Int) = (I : Int)
                  · left; simpa using hki
                  · right; exact ⟨by simpa using hki, by rw [← HG.out]; exact h⟩
              clear hgo HG
              generalize tp[k] = bt at *
              rcases hcase with hd | ⟨hd, rfl⟩
              all_goals
                go_wp2
                go_loopw [8] (fun r wr => ∃ m : Nat, m ≤ row.length ∧ r = .int .i64 m ∧ Hid (wr.heap[w.heap.size]? = some (.cells (bls (rbRow (depL rows.length (row.take m)) tp)).toArray 4 (0, 0))) ∧ Below w.heap.size w wr) (fun r _ => row.length - (intOf r).toNat)
                case atStart => exact ⟨0, by omega, rfl, HB2, hb2⟩
                case round =>
                  obtain ⟨m, hm, rfl, HB3, hb3⟩ := hrel
                  have hcell := cellB hb3 HC0.out
                  by_cases hmn : m < row.length
                  · have hmn' : (m : Int) < row.length := by omega
                    obtain ⟨rg, roff, rfl, r1, r2, rcell0⟩ := ints_at HRW.out hmn
                    have rcell := cellB hb3 rcell0
                    have HNEW : Hid (inB rows.length row[m] = true → rbRow (depL rows.length (row.take (m + 1))) tp = (rbRow (depL rows.length (row.take m)) tp).set row[m].toNat true) := Lib.hid (fun h => by rw [depL_yes hmn h, rbRow_snoc])
                    have HOLD : Hid (inB rows.length row[m] = false → rbRow (depL rows.length (row.take (m + 1))) tp = rbRow (depL rows.length (row.take m)) tp) := Lib.hid (fun h => by rw [depL_no hmn h])
                    have htl := rbRow_len (depL rows.length (row.take m)) tp
                    clear rcell0
                    generalize rbRow (depL rows.length (row.take m)) tp = tr at *
                    generalize hj : row[m] = j at *
                    by_cases hji : 0 ≤ j ∧ j < (rows.length : Int)
                    · obtain ⟨J, rfl⟩ : ∃ J : Nat, j = J := ⟨j.toNat, by omega⟩
                      have HE := Lib.hid (HNEW.out (by unfold inB; simpa using hji))
                      have hJt : J < tr.length := by omega
                      have hJn : (J : Int) < rows.length := hji.2
                      have fx : wr.frozen? ⟨w.heap.size, J, none⟩ = false := by simp [World.frozen?, HB3.out]
                      have cx : wr.cell? ⟨w.heap.size, J, none⟩ = some (.bool tr[J]) := by
                        simp only [World.cell?, HB3.out, Option.bind_some]
                        simp [bls, hJt]
                      have hset := setCell_heap J (.bool true) HB3.out
                      rw [show (bls tr).toArray.setIfInBounds J (.bool true) = (bls (tr.set J true)).toArray by simp [bls, List.map_set]] at hset
                      have HSET := Lib.hid hset
                      have hd1 : decide (0 ≤ (J : Int)) = true := by simp
                      clear hset HNEW HOLD hj hji
                      go_wp2
                      go_roundw
                      case rel => exact ⟨m + 1, by omega, by go_num, Lib.hid (by rw [HE.out]; exact HSET.out), hb3.setCell (p := ⟨w.heap.size, J, none⟩) (Nat.le_refl _) _⟩
                      case measure => simp [intOf]; omega
                    · have HE := Lib.hid (HOLD.out (by unfold inB; simpa using hji))
                      rcases (show j < 0 ∨ (0 ≤ j ∧ (rows.length : Int) ≤ j) by omega) with hj1 | ⟨hj1, hj2⟩
                      · have e1 : decide (0 ≤ j) = false := by simp; omega
                        clear HNEW HOLD hj hji
                        go_wp2
                        go_roundw
                        case rel => exact ⟨m + 1, by omega, by go_num, by rw [HE.out]; exact HB3, hb3⟩
                        case measure => simp [intOf]; omega
                      · have e1 : decide (0 ≤ j) = true := by simpa using hj1
                        have e2 : decide (j < (rows.length : Int)) = false := by simp; omega
                        clear HNEW HOLD hj hji
                        go_wp2
                        go_roundw
                        case rel => exact ⟨m + 1, by omega, by go_num, by rw [HE.out]; exact HB3, hb3⟩
                        case measure => simp [intOf]; omega
                  · have hml : m = row.length := by omega
                    have HE : Hid (rbPass rows I (k + 1) th = rbRow (depL rows.length (row.take m)) tp) := Lib.hid (by rw [HPS.out, HST.out, List.take_of_length_le (by omega)])
                    go_wp2
                    go_roundw
                    case rel => exact ⟨k + 1, by omega, by go_num, by rw [HE.out]; exact HB3, hb3⟩
                    case measure => simp [intOf]; omega
            · have hne : k ≠ I := fun h => hgo (.inl h)
              have hgf : gb tp k = false := by
                cases h : gb tp k with
                | false => rfl
                | true => exact absurd (.inr h) hgo
              have HE : Hid (rbPass rows I (k + 1) th = tp) := Lib.hid (by rw [HPS.out, rbStep_skip hne hgf])
              have hd : ((k : Int) == (I : Int)) = false := by simp; omega
              have hd' : ((k : Int) != (I : Int)) = true := by simp; omega
              have htk : tp[k] = false := by rw [← HG.out]; exact hgf
              rw [htk] at tcell
              clear hgo hgf HG htk hne
              go_wp2
              go_roundw
              case rel => exact ⟨k + 1, by omega, by go_num, by rw [HE.out]; exact HB2, hb2⟩
              case measure => simp [intOf]; omega
          · have hkl : k = rows.length := by omega
            subst hkl
            go_wp2
            go_roundw
            case rel => exact ⟨q + 1, _, by omega, by go_num, by rw [rbPass_len]; exact hth, HB2, Lib.hid (by rw [← HNX.out]; exact HF.out), hb2⟩
            case measure => simp [intOf]; omega
      · have hE : Hid (rbIn rows I = th) := Lib.hid (by have := HF.out; rw [show rows.length + 1 - q = 0 by omega] at this; exact this.symm)
        go_wp2
        go_loopw [10, 11] (fun out r wr => ∃ k : Nat, k ≤ rows.length ∧ r = .int .i64 k ∧ wr.ownsRow wo.heap.size 3 1 out (selL th k).length (ints .i64 (selL th k)) ∧ Below wo.heap.size wo wr) (fun _ r _ => rows.length - (intOf r).toNat)
        case atStart => exact ⟨0, by omega, rfl, by simpa [selL, ints] using World.ownsRow_nil wo wo.heap.size 3 1, Below.refl _ _⟩
        case round =>
          obtain ⟨k, hk, rfl, hown, hbi⟩ := hrel
          have hn0 : w.heap.size < wo.heap.size := (Array.getElem?_eq_some_iff.1 HB.out).1
          have HBI : Hid (wr.heap[w.heap.size]? = some (.cells (bls th).toArray 4 (0, 0))) := Lib.hid (by rw [hbi.block _ hn0]; exact HB.out)
          by_cases hkn : k < rows.length
          · have hkn' : (k : Int) < rows.length := by omega
            have hkt : k < th.length := by omega
            have tcell : wr.cell? ⟨w.heap.size, k, none⟩ = some (.bool th[k]) := by
              simp only [World.cell?, HBI.out, Option.bind_some]
              simp [bls, hkt]
            have HG : Hid (gb th k = th[k]) := Lib.hid (by unfold gb; simp [hkt])
            have HYES := Lib.hid (selL_yes (th := th) (k := k))
            have HNO := Lib.hid (selL_no (th := th) (k := k))
            have hlk := selL_len th k
            generalize th[k] = bt at *
            cases bt with
            | false =>
              have HK2 := Lib.hid (HNO.out HG.out)
              go_wp2
              go_roundw
              case rel => exact ⟨k + 1, by omega, by go_num, by rw [HK2.out]; exact hown, hbi⟩
              case measure => simp [intOf]; omega
            | true =>
              have HK2 := Lib.hid (HYES.out HG.out)
              go_wp2_with (at_builtin; go_must (refine wpList_push rfl _ _ 46 rfl wo.heap.size 3 i0 (.int .i64 0) 1 8 Try.underlying46 hi hz0 hz1 hz2 rfl (by decide) _ _ _ rfl (hown.alloc _) ⟨wr.heap.size, 0, none⟩ 1 1 [_] rfl rfl (cell_one_new _ _ _) (by simp [Value.oneCell']) (by unfold maxLen; omega) (by omega) (by have := hbi.size; simp; omega) ?_; intro v' w5 hown' hgrow hfr))
              have hgrow : (wr.alloc _).grownBy w5 u10.ownBlock := hgrow
              go_roundw
              case rel => exact ⟨k + 1, by omega, by go_num, by rw [HK2.out]; simpa [ints] using hown', below_push hbi (by have := hbi.size; omega) hown (Nat.le_refl _) hgrow⟩
              case measure => simp [intOf]; omega
          · have hkl : k = rows.length := by omega
            subst hkl
            go_wp2
            go_ret
            rw [hE.out]
            exact ⟨_, rfl, ownsRow_mono hown (by omega), hb.trans (hbi.mono (by omega))⟩
  · rw [befL_out hin]
    rcases (show i < 0 ∨ (0 ≤ i ∧ (rows.length : Int) ≤ i) by omega) with h1 | ⟨h1, h2⟩
    · have d1 : decide (i < 0) = true := by simpa using h1
      go_enter Try.func41, Try.ntmps41
      go_wp2
      go_ret
      exact ⟨_, rfl, by simpa [ints] using World.ownsRow_nil _ w.heap.size 3 1, (Below.refl _ w).alloc (Nat.le_refl _) _⟩
    · have d1 : decide (i < 0) = false := by simpa using h1
      have d2 : decide ((rows.length : Int) ≤ i) = true := by simpa using h2
      go_enter Try.func41, Try.ntmps41
      go_wp2
      go_ret
      exact ⟨_, rfl, by simpa [ints] using World.ownsRow_nil _ w.heap.size 3 1, (Below.refl _ w).alloc (Nat.le_refl _) _⟩

end Go.Proofs.Ytlpcagkknfajeaa
