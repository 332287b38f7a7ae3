/-
  graph.Ready: contract.
-/
import Derived.Test.YtlpcagkknfajeaaGd
namespace Go.Proofs.Ytlpcagkknfajeaa
open Go.RowKit

/-- What may begin: not there, and all behind which it comes are. -/
def thereB (there : List Bool) (i : Nat) : Bool := decide (i < there.length) && there[i]?.getD false
def rdyB (rows : List (List Int)) (there : List Bool) (i : Nat) : Bool := !thereB there i && mayB rows there i
def rdyL (rows : List (List Int)) (there : List Bool) (k : Nat) : List Int := ((List.range k).filter (rdyB rows there)).map Int.ofNat
theorem rdyL_len (rows : List (List Int)) (there : List Bool) (k : Nat) : (rdyL rows there k).length ≤ k := by
  unfold rdyL
  rw [List.length_map]
  exact Nat.le_trans (List.length_filter_le _ _) (by simp)
theorem rdyL_yes {rows : List (List Int)} {there : List Bool} {k : Nat} (h : rdyB rows there k = true) : rdyL rows there (k + 1) = rdyL rows there k ++ [(k : Int)] := by
  unfold rdyL; rw [List.range_succ, List.filter_append]; simp [h]
theorem rdyL_no {rows : List (List Int)} {there : List Bool} {k : Nat} (h : rdyB rows there k = false) : rdyL rows there (k + 1) = rdyL rows there k := by
  unfold rdyL; rw [List.range_succ, List.filter_append]; simp [h]
theorem Try.info_i64g : (Try.prog.info? 3).map (fun i => (i.zero, i.size, i.bytes)) = some (some (.int .i64 0), 1, 8) := by kernel_rfl

set_option maxRecDepth 100000 in
set_option maxHeartbeats 1000000 in
theorem Ready_any (rows : List (List Int)) (there : List Bool) (v vt : Value) (w : World) (hr : Rows2 w v rows) (ht : RdS w vt 1 there.length (bls there)) (hlen : rows.length ≤ 1073741824) :
    Calls Try.prog 34 #[v, vt] w fun e w' => ∃ v', e = .returned v' ∧ w'.ownsRow w.heap.size 3 1 v' (rdyL rows there rows.length).length (ints .i64 (rdyL rows there rows.length)) ∧ Below w.heap.size w w' := by
  obtain ⟨i0, hi, hz0, hz1, hz2⟩ := info_parts Try.info_i64g
  have HT := Lib.hid ht
  have htl := rds_len ht
  have HR := Lib.hid hr
  obtain ⟨a, cap, rfl⟩ := hr.form
  obtain ⟨ta, tc, rfl⟩ := ht.form
  clear hr ht
  go_enter Try.func34, Try.ntmps34
  go_wp2
  go_loopw [5, 9] (fun out i wr => ∃ k : Nat, k ≤ rows.length ∧ i = .int .i64 k ∧ wr.ownsRow w.heap.size 3 1 out (rdyL rows there k).length (ints .i64 (rdyL rows there k)) ∧ Below w.heap.size w wr) (fun _ i _ => rows.length - (intOf i).toNat)
  case atStart => exact ⟨0, by omega, rfl, by simpa [rdyL, ints] using World.ownsRow_nil w w.heap.size 3 1, Below.refl _ _⟩
  case round =>
    obtain ⟨k, hk, rfl, hown, hb⟩ := hrel
    by_cases hlt : k < rows.length
    · have hlt' : (k : Int) < rows.length := by omega
      have HM : Hid (∀ W, Below w.heap.size w W → Calls Try.prog 37 #[.slice a rows.length cap, .slice ta there.length tc, .int .i64 k] W fun e w' => e = .returned (.bool (mayB rows there k)) ∧ Below W.heap.size W w') :=
        Lib.hid (fun W hW => may_any rows there k _ _ W (HR.out.below hW) (HT.out.below hW) hlt)
      have hlk := rdyL_len rows there k
      have HYES := Lib.hid (rdyL_yes (rows := rows) (there := there) (k := k))
      have HNO := Lib.hid (rdyL_no (rows := rows) (there := there) (k := k))
      have HBD : Hid (rdyB rows there k = (!thereB there k && mayB rows there k)) := Lib.hid rfl
      generalize mayB rows there k = m at *
      generalize hth : thereB there k = tb at *
      have HTB := Lib.hid hth
      clear hth
      by_cases hkt : k < there.length
      · obtain ⟨tg, toff, rfl, t1, t2, tcell0⟩ := bls_at HT.out hkt
        have tcell := cellB hb tcell0
        have d3 : decide ((there.length : Int) ≤ (k : Int)) = false := by simp; omega
        have hkt' : (k : Int) < there.length := by omega
        have HE : Hid (there[k] = tb) := Lib.hid (by have := HTB.out; unfold thereB at this; simpa [hkt] using this)
        rw [HE.out] at tcell
        clear tcell0
        cases tb with
        | true =>
          have HK := Lib.hid (HNO.out (by rw [HBD.out]; rfl))
          go_wp2
          go_roundw
          case rel => exact ⟨k + 1, by omega, by go_num, by rw [HK.out]; exact hown, hb⟩
          case measure => simp [intOf]; omega
        | false =>
          cases m with
          | false =>
            have HK := Lib.hid (HNO.out (by rw [HBD.out]; rfl))
            go_wp2_with (go_at_call 37; refine (HM.out _ hb).mono ?_; rintro e w1 ⟨rfl, hb1⟩)
            go_roundw
            case rel => exact ⟨k + 1, by omega, by go_num, by rw [HK.out]; exact ownsB hown hb1, bthen hb (Nat.le_refl _) hb1⟩
            case measure => simp [intOf]; omega
          | true =>
            have HK := Lib.hid (HYES.out (by rw [HBD.out]; rfl))
            go_wp2_with (first | (go_at_call 37; refine (HM.out _ hb).mono ?_; rintro e w1 ⟨rfl, hb1⟩) | (at_builtin; go_must (refine wpList_push rfl _ _ 46 rfl w.heap.size 3 i0 (.int .i64 0) 1 8 Try.underlying46 hi hz0 hz1 hz2 rfl (by decide) _ _ _ rfl ((ownsB hown hb1).alloc _) ⟨w1.heap.size, 0, none⟩ 1 1 [_] rfl rfl (cell_one_new _ _ _) (by simp [Value.oneCell']) (by unfold maxLen; omega) (by omega) (by have := hb1.size; have := hb.size; simp; omega) ?_; intro v' w2 hown' hgrow hfr)))
            have hgrow : (w1.alloc _).grownBy w2 u5.ownBlock := hgrow
            go_roundw
            case rel => exact ⟨k + 1, by omega, by go_num, by rw [HK.out]; simpa [ints] using hown', below_push (bthen hb (Nat.le_refl _) hb1) (by have := hb1.size; have := hb.size; omega) (ownsB hown hb1) (Nat.le_refl _) hgrow⟩
            case measure => simp [intOf]; omega
      · have d3 : decide ((there.length : Int) ≤ (k : Int)) = true := by simp; omega
        obtain rfl : tb = false := by have := HTB.out; unfold thereB at this; simpa [hkt] using this.symm
        cases m with
        | false =>
          have HK := Lib.hid (HNO.out (by rw [HBD.out]; rfl))
          go_wp2_with (go_at_call 37; refine (HM.out _ hb).mono ?_; rintro e w1 ⟨rfl, hb1⟩)
          go_roundw
          case rel => exact ⟨k + 1, by omega, by go_num, by rw [HK.out]; exact ownsB hown hb1, bthen hb (Nat.le_refl _) hb1⟩
          case measure => simp [intOf]; omega
        | true =>
          have HK := Lib.hid (HYES.out (by rw [HBD.out]; rfl))
          go_wp2_with (first | (go_at_call 37; refine (HM.out _ hb).mono ?_; rintro e w1 ⟨rfl, hb1⟩) | (at_builtin; go_must (refine wpList_push rfl _ _ 46 rfl w.heap.size 3 i0 (.int .i64 0) 1 8 Try.underlying46 hi hz0 hz1 hz2 rfl (by decide) _ _ _ rfl ((ownsB hown hb1).alloc _) ⟨w1.heap.size, 0, none⟩ 1 1 [_] rfl rfl (cell_one_new _ _ _) (by simp [Value.oneCell']) (by unfold maxLen; omega) (by omega) (by have := hb1.size; have := hb.size; simp; omega) ?_; intro v' w2 hown' hgrow hfr)))
          have hgrow : (w1.alloc _).grownBy w2 u5.ownBlock := hgrow
          go_roundw
          case rel => exact ⟨k + 1, by omega, by go_num, by rw [HK.out]; simpa [ints] using hown', below_push (bthen hb (Nat.le_refl _) hb1) (by have := hb1.size; have := hb.size; omega) (ownsB hown hb1) (Nat.le_refl _) hgrow⟩
          case measure => simp [intOf]; omega
    · have hkl : k = rows.length := by omega
      subst hkl
      go_wp2
      go_ret
      exact ⟨_, rfl, hown, hb⟩
end Go.Proofs.Ytlpcagkknfajeaa
