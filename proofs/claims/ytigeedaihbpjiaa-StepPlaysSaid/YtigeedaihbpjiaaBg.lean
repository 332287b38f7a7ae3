/-
  backoff.Total, the reference's Wait and Total: contracts.
-/
import Derived.Test.YtigeedaihbpjiaaBf
namespace Go.Proofs.Ytigeedaihbpjiaa
open Go.RowKit

set_option maxRecDepth 100000 in
set_option maxHeartbeats 1000000 in
theorem rWait_any (m f k t : Int) (w : World) :
    Calls Try.prog 106 #[retryV m f k, .int .i64 t] w fun e w' => e = .returned (.int .i64 (waitI f k t)) ∧ Below w.heap.size w w' := by
  have hmn := @run_min2 Try.prog
  have h0 := rFirst f k
  have hF : max (or0 k 1) 0 = rFac k := rfl
  have hF0 : 0 ≤ rFac k := by unfold rFac; omega
  by_cases h1 : t < 1
  · have hw : waitI f k t = 0 := by unfold waitI; rw [if_pos h1]
    rw [hw]
    clear hw
    unfold retryV
    go_enter Try.func106, Try.ntmps106
    go_wp2_with fail
    refine (rMeant_any m f k _).mono ?_
    rintro e w1 ⟨rfl, hb1⟩
    unfold retryV
    have hb : Below w.heap.size w w1 := ((Below.refl _ w).alloc (Nat.le_refl _) _).trans (hb1.mono (by simp))
    have hs := hb.size
    clear hb1 h0 hmn hF hF0
    go_wp2
    go_ret
    exact ⟨rfl, hb.alloc hs _⟩
  · have hw : waitI f k t = bSeq f k ((min t 20).toNat - 1) := by unfold waitI; rw [if_neg h1]
    rw [hw]
    clear hw
    obtain ⟨N, hN⟩ : ∃ N, (min t 20).toNat - 1 = N := ⟨_, rfl⟩
    rw [hN]
    have hNt : (N : Int) + 1 = min t 20 := by omega
    clear hN
    have HN := Lib.hid hNt
    unfold retryV
    go_enter Try.func106, Try.ntmps106
    go_wp2_with fail
    refine (rMeant_any m f k _).mono ?_
    rintro e w1 ⟨rfl, hb1⟩
    unfold retryV
    rw [hF]
    have hb : Below w.heap.size w w1 := ((Below.refl _ w).alloc (Nat.le_refl _) _).trans (hb1.mono (by simp))
    have hs := hb.size
    have hbx : Boxed3 (w1.alloc (Obj.cells #[.int .i64 (bMost m), .int .i64 (max f 0), .int .i64 (rFac k)] 77)) w1.heap.size (bMost m) (max f 0) (rFac k) := World.alloc_heap_new w1 _
    have hb' := hb.alloc hs (Obj.cells #[.int .i64 (bMost m), .int .i64 (max f 0), .int .i64 (rFac k)] 77)
    clear hb1 hF hNt
    generalize hw2 : (w1.alloc (Obj.cells #[.int .i64 (bMost m), .int .i64 (max f 0), .int .i64 (rFac k)] 77)) = w2 at *
    obtain ⟨q0, q1, q2, _⟩ := cells3h hbx
    go_wp2
    go_loop [6, 7] (fun n i => ∃ j : Nat, j ≤ N ∧ n = .int .i64 (bSeq f k j) ∧ i = .int .i64 ((j : Int) + 1)) (fun _ i => N + 1 - (intOf i).toNat)
    case atStart => exact ⟨0, by omega, rfl, rfl⟩
    case round =>
      obtain ⟨j, hj, rfl, rfl⟩ := hrel
      have hq := bSeq_range f k j
      by_cases hlt : j < N
      · have t1 : (j : Int) + 1 < t := by have := HN.out; omega
        have t2 : (j : Int) + 1 < 20 := by have := HN.out; omega
        by_cases hp : 0 < rFac k
        · by_cases hd : 1000 / rFac k < bSeq f k j
          · have hst := Lib.hid (rStep_hi rfl hp hd)
            go_wp2
            go_round
            case rel => exact ⟨j + 1, by omega, by rw [hst.out], by go_num⟩
            case measure => simp [intOf]; omega
          · have hst := Lib.hid (rStep_lo (f := f) (k := k) (i := j) rfl (fun h => hd h.2))
            obtain ⟨_, m1, m2⟩ := hst.out
            go_wp2
            go_round
            case rel => exact ⟨j + 1, by omega, by rw [hst.out.1], by go_num⟩
            case measure => simp [intOf]; omega
        · have hst := Lib.hid (rStep_lo (f := f) (k := k) (i := j) rfl (fun h => hp h.1))
          obtain ⟨_, m1, m2⟩ := hst.out
          go_wp2
          go_round
          case rel => exact ⟨j + 1, by omega, by rw [hst.out.1], by go_num⟩
          case measure => simp [intOf]; omega
      · obtain rfl : j = N := by omega
        have t1 : ¬ ((j : Int) + 1 < t ∧ (j : Int) + 1 < 20) := by have := HN.out; omega
        by_cases t2 : (j : Int) + 1 < t
        · have t3 : ¬ (j : Int) + 1 < 20 := fun h => t1 ⟨t2, h⟩
          clear t1
          go_wp2
          go_ret
          exact ⟨rfl, hb'⟩
        · clear t1
          go_wp2
          go_ret
          exact ⟨rfl, hb'⟩

end Go.Proofs.Ytigeedaihbpjiaa
