/-
  backoff.Total, the reference's Wait and Total: contracts.
-/
import Derived.Test.YtkaadkjbimaodaaBf
namespace Go.Proofs.Ytkaadkjbimaodaa
open Go.RowKit

set_option maxRecDepth 100000 in
set_option maxHeartbeats 1000000 in
theorem Total_any (m f k : Int) (w : World) :
    Calls Try.prog 19 #[retryV m f k] w fun e w' => e = .returned (.int .i64 (bSum f k (wN m))) ∧ Below w.heap.size w w' := by
  have hn9 := wN_le m
  obtain ⟨N, hN⟩ : ∃ N, wN m = N := ⟨_, rfl⟩
  rw [hN] at hn9 ⊢
  have HN := Lib.hid hN
  clear hN
  unfold retryV
  go_enter Try.func19, Try.ntmps19
  go_wp2_with fail
  refine (Waits_any m f k _).mono ?_
  rintro e w1 ⟨v, rfl, hown, hb1⟩
  have hb : Below w.heap.size w w1 := ((Below.refl _ w).alloc (Nat.le_refl _) _).trans (hb1.mono (by simp))
  have hr := RdS.of_owns hown
  rw [HN.out] at hr
  clear hb1 hown
  rcases hr.cases (by decide) with ⟨rfl, h1, a, cap, rfl, hm⟩ | ⟨hn, hl, g, off, cap, rfl, hnc, hcm, hc⟩
  · clear h1 hm hn9 hr
    go_wp2
    go_loop [3, 9] (fun s i => s = .int .i64 0 ∧ i = .int .i64 0) (fun s i => 0)
    case atStart => exact ⟨rfl, rfl⟩
    case round =>
      obtain ⟨rfl, rfl⟩ := hrel
      go_wp2
      go_ret
      exact ⟨rfl, hb⟩
  · have HC := Lib.hid hc
    clear hc hr hl
    go_wp2
    go_loop [3, 9] (fun s i => ∃ j : Nat, j ≤ N ∧ i = .int .i64 j ∧ s = .int .i64 (bSum f k j)) (fun _ i => N - (intOf i).toNat)
    case atStart => exact ⟨0, by omega, rfl, rfl⟩
    case round =>
      obtain ⟨j, hj, rfl, rfl⟩ := hrel
      have hs := bSum_range f k j
      have hq := bSeq_range f k j
      by_cases hlt : j < N
      · have hcell := HC.out j _ (bList_get f k N j hlt)
        go_wp2
        go_round
        case rel => exact ⟨j + 1, by omega, by go_num, rfl⟩
        case measure => simp [intOf]; omega
      · obtain rfl : j = N := by omega
        go_wp2
        go_ret
        exact ⟨rfl, hb⟩

set_option maxRecDepth 100000 in
set_option maxHeartbeats 1000000 in
theorem rWait_any (m f k t : Int) (w : World) :
    Calls Try.prog 21 #[retryV m f k, .int .i64 t] w fun e w' => e = .returned (.int .i64 (waitI f k t)) ∧ Below w.heap.size w w' := by
  have hmn := @run_min2 Try.prog
  have h0 := rFirst f k
  have hF : max (or0 k 1) 0 = rFac k := rfl
  have hF0 : 0 ≤ rFac k := by unfold rFac; omega
  by_cases h1 : t < 1
  · have hw : waitI f k t = 0 := by unfold waitI; rw [if_pos h1]
    rw [hw]
    clear hw
    unfold retryV
    go_enter Try.func21, Try.ntmps21
    go_wp2_with fail
    refine (rMeant_any m f k _).mono ?_
    rintro e w1 ⟨rfl, hb1⟩
    unfold retryV
    have hb : Below w.heap.size w w1 := ((Below.refl _ w).alloc (Nat.le_refl _) _).trans (hb1.mono (by simp))
    have hs := hb.size
    clear hb1 h0 hmn hF hF0
    go_wp2
    go_ret
    exact ⟨rfl, hb.alloc hs _⟩
  · have hw : waitI f k t = bSeq f k ((min t 20).toNat - 1) := by unfold waitI; rw [if_neg h1]
    rw [hw]
    clear hw
    obtain ⟨N, hN⟩ : ∃ N, (min t 20).toNat - 1 = N := ⟨_, rfl⟩
    rw [hN]
    have hNt : (N : Int) + 1 = min t 20 := by omega
    clear hN
    have HN := Lib.hid hNt
    unfold retryV
    go_enter Try.func21, Try.ntmps21
    go_wp2_with fail
    refine (rMeant_any m f k _).mono ?_
    rintro e w1 ⟨rfl, hb1⟩
    unfold retryV
    rw [hF]
    have hb : Below w.heap.size w w1 := ((Below.refl _ w).alloc (Nat.le_refl _) _).trans (hb1.mono (by simp))
    have hs := hb.size
    have hbx : Boxed3 (w1.alloc (Obj.cells #[.int .i64 (bMost m), .int .i64 (max f 0), .int .i64 (rFac k)] 23)) w1.heap.size (bMost m) (max f 0) (rFac k) := World.alloc_heap_new w1 _
    have hb' := hb.alloc hs (Obj.cells #[.int .i64 (bMost m), .int .i64 (max f 0), .int .i64 (rFac k)] 23)
    clear hb1 hF hNt
    generalize hw2 : (w1.alloc (Obj.cells #[.int .i64 (bMost m), .int .i64 (max f 0), .int .i64 (rFac k)] 23)) = w2 at *
    obtain ⟨q0, q1, q2, _⟩ := cells3h hbx
    go_wp2
    go_loop [6, 7] (fun n i => ∃ j : Nat, j ≤ N ∧ n = .int .i64 (bSeq f k j) ∧ i = .int .i64 ((j : Int) + 1)) (fun _ i => N + 1 - (intOf i).toNat)
    case atStart => exact ⟨0, by omega, rfl, rfl⟩
    case round =>
      obtain ⟨j, hj, rfl, rfl⟩ := hrel
      have hq := bSeq_range f k j
      by_cases hlt : j < N
      · have t1 : (j : Int) + 1 < t := by have := HN.out; omega
        have t2 : (j : Int) + 1 < 20 := by have := HN.out; omega
        by_cases hp : 0 < rFac k
        · by_cases hd : 1000 / rFac k < bSeq f k j
          · have hst := Lib.hid (rStep_hi rfl hp hd)
            go_wp2
            go_round
            case rel => exact ⟨j + 1, by omega, by rw [hst.out], by go_num⟩
            case measure => simp [intOf]; omega
          · have hst := Lib.hid (rStep_lo (f := f) (k := k) (i := j) rfl (fun h => hd h.2))
            obtain ⟨_, m1, m2⟩ := hst.out
            go_wp2
            go_round
            case rel => exact ⟨j + 1, by omega, by rw [hst.out.1], by go_num⟩
            case measure => simp [intOf]; omega
        · have hst := Lib.hid (rStep_lo (f := f) (k := k) (i := j) rfl (fun h => hp h.1))
          obtain ⟨_, m1, m2⟩ := hst.out
          go_wp2
          go_round
          case rel => exact ⟨j + 1, by omega, by rw [hst.out.1], by go_num⟩
          case measure => simp [intOf]; omega
      · obtain rfl : j = N := by omega
        have t1 : ¬ ((j : Int) + 1 < t ∧ (j : Int) + 1 < 20) := by have := HN.out; omega
        by_cases t2 : (j : Int) + 1 < t
        · have t3 : ¬ (j : Int) + 1 < 20 := fun h => t1 ⟨t2, h⟩
          clear t1
          go_wp2
          go_ret
          exact ⟨rfl, hb'⟩
        · clear t1
          go_wp2
          go_ret
          exact ⟨rfl, hb'⟩

set_option maxRecDepth 100000 in
set_option maxHeartbeats 1000000 in
theorem rTotal_any (m f k : Int) (w : World) :
    Calls Try.prog 20 #[retryV m f k] w fun e w' => e = .returned (.int .i64 (bSum f k (wN m))) ∧ Below w.heap.size w w' := by
  have hn9 := wN_le m
  have hM : bMost m - 1 ≤ wN m ∧ (wN m = 0 ∨ (wN m : Int) = bMost m - 1) := by unfold wN; omega
  generalize wN m = N at *
  have hMr := bMost_range m
  have hf0 := @field_retry0
  unfold retryV
  go_enter Try.func20, Try.ntmps20
  go_wp2
  have hbx : Boxed3 (w.alloc (Obj.cells #[.int .i64 m, .int .i64 f, .int .i64 k] 23)) w.heap.size m f k := World.alloc_heap_new w _
  have hb := (Below.refl w.heap.size w).alloc (Nat.le_refl _) (Obj.cells #[.int .i64 m, .int .i64 f, .int .i64 k] 23)
  have hsz : (w.alloc (Obj.cells #[.int .i64 m, .int .i64 f, .int .i64 k] 23)).heap.size = w.heap.size + 1 := by simp
  generalize (w.alloc (Obj.cells #[.int .i64 m, .int .i64 f, .int .i64 k] 23)) = w1 at *
  go_loopw [3, 4] (fun n i wr => ∃ j : Nat, j ≤ N ∧ n = .int .i64 (bSum f k j) ∧ i = .int .i64 ((j : Int) + 1) ∧ Below w1.heap.size w1 wr) (fun _ i _ => N + 1 - (intOf i).toNat)
  case atStart => exact ⟨0, by omega, rfl, rfl, Below.refl _ _⟩
  case round =>
    obtain ⟨j, hj, rfl, rfl, hbw⟩ := hrel
    have hq := bSeq_range f k j
    have hs := bSum_range f k j
    have hbr : Boxed3 wr w.heap.size m f k := (hbw.block _ (by omega)).trans hbx
    obtain ⟨q0, q1, q2, _⟩ := cells3h hbr
    go_wp2_with fail
    refine (rMeant_any m f k _).mono ?_
    rintro e w2 ⟨rfl, hb2⟩
    unfold retryV
    have hbw2 := hbw.trans (hb2.mono hbw.size)
    have hbr2 : Boxed3 w2 w.heap.size m f k := (hbw2.block _ (by omega)).trans hbx
    clear q0 q1 q2 hb2 hbr
    obtain ⟨q0, q1, q2, _⟩ := cells3h hbr2
    by_cases hlt : j < N
    · have t1 : (j : Int) + 1 < bMost m := by omega
      go_wp2_with fail
      refine (rWait_any m f k _ _).mono ?_
      rintro e w3 ⟨rfl, hb3⟩
      have hbw3 := hbw2.trans (hb3.mono hbw2.size)
      rw [waitI_succ f k j (by omega)]
      go_wp2
      go_roundw
      case rel => exact ⟨j + 1, by omega, rfl, by go_num, hbw3⟩
      case measure => simp [intOf]; omega
    · obtain rfl : j = N := by omega
      have t1 : ¬ (j : Int) + 1 < bMost m := by omega
      go_wp2
      go_ret
      exact ⟨rfl, hb.trans (hbw2.mono (by omega))⟩
end Go.Proofs.Ytkaadkjbimaodaa
