/-
  slices.Index and slices.Contains on numbers; graph.Round: contracts.
-/
import Derived.Test.YtlpcagkknfajeaaGg
namespace Go.Proofs.Ytlpcagkknfajeaa
open Go.RowKit

set_option maxRecDepth 100000 in
theorem Index_any (l : List Int) (x : Int) (v : Value) (w : World) (h : RdS w v 1 l.length (ints .i64 l)) :
    Calls Try.prog 47 #[v, .int .i64 x] w fun e w' => (∃ r : Int, e = .returned (.int .i64 r) ∧ (0 ≤ r ↔ x ∈ l)) ∧ w = w' := by
  have H := Lib.hid h
  have hl := rds_len h
  obtain ⟨a, cap, rfl⟩ := h.form
  clear h
  go_enter Try.func47, Try.ntmps47
  go_wp2
  go_loop [8] (fun i => ∃ k : Nat, k ≤ l.length ∧ i = .int .i64 k ∧ Hid (¬ x ∈ l.take k)) (fun i => l.length - (intOf i).toNat)
  case atStart => exact ⟨0, by omega, rfl, Lib.hid (by simp)⟩
  case round =>
    obtain ⟨k, hk, rfl, HA⟩ := hrel
    by_cases hlt : k < l.length
    · obtain ⟨g, off, rfl, h1, h2, hcell⟩ := ints_at H.out hlt
      have HT := Lib.hid (take_snocG l k hlt)
      have HM := Lib.hid (List.getElem_mem hlt)
      generalize l[k] = y at *
      have hlt' : (k : Int) < l.length := by omega
      by_cases hxy : x = y
      · subst hxy
        go_wp2
        go_ret
        exact ⟨⟨_, rfl, ⟨fun _ => HM.out, fun _ => by omega⟩⟩, rfl⟩
      · have hd : (x == y) = false := by simpa using hxy
        have HN : Hid (¬ x ∈ l.take (k + 1)) := Lib.hid (by rw [HT.out]; simp [HA.out, hxy])
        go_wp2
        go_round
        case rel => exact ⟨k + 1, by omega, by go_num, HN⟩
        case measure => simp [intOf]; omega
    · have HN : Hid (¬ x ∈ l) := Lib.hid (by have := HA.out; rwa [List.take_of_length_le (by omega)] at this)
      go_wp2
      go_ret
      exact ⟨⟨_, rfl, ⟨fun h => absurd h (by omega), fun h => absurd h HN.out⟩⟩, rfl⟩

set_option maxRecDepth 100000 in
theorem Contains_any (l : List Int) (x : Int) (v : Value) (w : World) (h : RdS w v 1 l.length (ints .i64 l)) :
    Calls Try.prog 39 #[v, .int .i64 x] w fun e w' => e = .returned (.bool (decide (x ∈ l))) ∧ w = w' := by
  have HI := Lib.hid (Index_any l x v w h)
  go_enter Try.func39, Try.ntmps39
  go_wp2_with fail
  refine HI.out.mono ?_
  rintro e w' ⟨⟨r, rfl, hr⟩, rfl⟩
  have HD : Hid (decide (0 ≤ r) = decide (x ∈ l)) := Lib.hid (by rw [decide_eq_decide]; exact hr)
  clear hr
  go_wp2
  go_ret
  exact ⟨by rw [← HD.out]; rfl, rfl⟩

/-- Those that no order reaches. -/
def rndB (rows : List (List Int)) (i : Nat) : Bool := !decide (i ∈ ordO rows)
def rndL (rows : List (List Int)) (k : Nat) : List Int := ((List.range k).filter (rndB rows)).map Int.ofNat
theorem rndL_len (rows : List (List Int)) (k : Nat) : (rndL rows k).length ≤ k := by
  unfold rndL
  rw [List.length_map]
  exact Nat.le_trans (List.length_filter_le _ _) (by simp)
theorem rndL_yes {rows : List (List Int)} {k : Nat} (h : rndB rows k = true) : rndL rows (k + 1) = rndL rows k ++ [(k : Int)] := by
  unfold rndL; rw [List.range_succ, List.filter_append]; simp [h]
theorem rndL_no {rows : List (List Int)} {k : Nat} (h : rndB rows k = false) : rndL rows (k + 1) = rndL rows k := by
  unfold rndL; rw [List.range_succ, List.filter_append]; simp [h]
theorem natI_ints (l : List Nat) : natI l = ints .i64 (l.map Int.ofNat) := by simp [natI, ints]
theorem mem_ofNat {l : List Nat} {k : Nat} : ((k : Int) ∈ l.map Int.ofNat) ↔ k ∈ l := by
  rw [List.mem_map]
  constructor
  · rintro ⟨a, h, e⟩
    have e' : (a : Int) = (k : Int) := e
    have : a = k := by omega
    subst this; exact h
  · intro h
    exact ⟨k, h, rfl⟩

set_option maxRecDepth 100000 in
set_option maxHeartbeats 1000000 in
theorem Round_any (rows : List (List Int)) (v : Value) (w : World) (hr : Rows2 w v rows) (hlen : rows.length ≤ 1073741824) :
    Calls Try.prog 32 #[v] w fun e w' => ∃ v', e = .returned v' ∧ w'.ownsRow w.heap.size 3 1 v' (rndL rows rows.length).length (ints .i64 (rndL rows rows.length)) ∧ Below w.heap.size w w' := by
  obtain ⟨i0, hi, hz0, hz1, hz2⟩ := info_parts Try.info_i64g
  have HO := Lib.hid (Order_any rows v w hr hlen)
  obtain ⟨a, cap, rfl⟩ := hr.form
  clear hr
  go_enter Try.func32, Try.ntmps32
  go_wp2_with fail
  refine HO.out.mono ?_
  rintro e w1 ⟨vo, rfl, hown0, hb0⟩
  have HV : Hid (RdS w1 vo 1 ((ordO rows).map Int.ofNat).length (ints .i64 ((ordO rows).map Int.ofNat))) := Lib.hid (by rw [← natI_ints, List.length_map]; exact RdS.of_owns hown0)
  clear hown0
  go_wp2
  go_loopw [5, 14] (fun out i wr => ∃ k : Nat, k ≤ rows.length ∧ i = .int .i64 k ∧ wr.ownsRow w1.heap.size 3 1 out (rndL rows k).length (ints .i64 (rndL rows k)) ∧ Below w1.heap.size w1 wr) (fun _ i _ => rows.length - (intOf i).toNat)
  case atStart => exact ⟨0, by omega, rfl, by simpa [rndL, ints] using World.ownsRow_nil w1 w1.heap.size 3 1, Below.refl _ _⟩
  case round =>
    obtain ⟨k, hk, rfl, hown, hb1⟩ := hrel
    by_cases hlt : k < rows.length
    · have hlt' : (k : Int) < rows.length := by omega
      have hlk := rndL_len rows k
      have HC := Lib.hid (Contains_any ((ordO rows).map Int.ofNat) k vo wr (HV.out.below hb1))
      have HYES := Lib.hid (rndL_yes (rows := rows) (k := k))
      have HNO := Lib.hid (rndL_no (rows := rows) (k := k))
      have HBD : Hid (rndB rows k = !decide ((k : Int) ∈ (ordO rows).map Int.ofNat)) := Lib.hid (by unfold rndB; simp only [mem_ofNat])
      generalize decide ((k : Int) ∈ (ordO rows).map Int.ofNat) = m at *
      cases m with
      | true =>
        have HK := Lib.hid (HNO.out (by rw [HBD.out]; rfl))
        go_wp2_with fail
        refine HC.out.mono ?_
        rintro e w2 ⟨rfl, rfl⟩
        go_wp2
        go_roundw
        case rel => exact ⟨k + 1, by omega, by go_num, by rw [HK.out]; exact hown, hb1⟩
        case measure => simp [intOf]; omega
      | false =>
        have HK := Lib.hid (HYES.out (by rw [HBD.out]; rfl))
        go_wp2_with fail
        refine HC.out.mono ?_
        rintro e w2 ⟨rfl, rfl⟩
        go_wp2_with (at_builtin; go_must (refine wpList_push rfl _ _ 46 rfl w1.heap.size 3 i0 (.int .i64 0) 1 8 Try.underlying46 hi hz0 hz1 hz2 rfl (by decide) _ _ _ rfl (hown.alloc _) ⟨wr.heap.size, 0, none⟩ 1 1 [_] rfl rfl (cell_one_new _ _ _) (by simp [Value.oneCell']) (by unfold maxLen; omega) (by omega) (by have := hb1.size; simp; omega) ?_; intro v' w2 hown' hgrow hfr))
        have hgrow : (wr.alloc _).grownBy w2 u5.ownBlock := hgrow
        go_roundw
        case rel => exact ⟨k + 1, by omega, by go_num, by rw [HK.out]; simpa [ints] using hown', below_push hb1 hb1.size hown (Nat.le_refl _) hgrow⟩
        case measure => simp [intOf]; omega
    · have hkl : k = rows.length := by omega
      subst hkl
      go_wp2
      go_ret
      exact ⟨_, rfl, ownsRow_mono hown hb0.size, bthen hb0 (Nat.le_refl _) hb1⟩
end Go.Proofs.Ytlpcagkknfajeaa
