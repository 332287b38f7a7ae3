/-
  backoff.Total, the reference's Wait and Total: contracts.
-/
import Derived.Test.YtlpcagkknfajeaaBf
namespace Go.Proofs.Ytlpcagkknfajeaa
open Go.RowKit

set_option maxRecDepth 100000 in
set_option maxHeartbeats 1000000 in
theorem Total_any (m f k : Int) (w : World) :
    Calls Try.prog 28 #[retryV m f k] w fun e w' => e = .returned (.int .i64 (bSum f k (wN m))) ∧ Below w.heap.size w w' := by
  have hn9 := wN_le m
  obtain ⟨N, hN⟩ : ∃ N, wN m = N := ⟨_, rfl⟩
  rw [hN] at hn9 ⊢
  have HN := Lib.hid hN
  clear hN
  unfold retryV
  go_enter Try.func28, Try.ntmps28
  go_wp2_with fail
  refine (Waits_any m f k _).mono ?_
  rintro e w1 ⟨v, rfl, hown, hb1⟩
  have hb : Below w.heap.size w w1 := ((Below.refl _ w).alloc (Nat.le_refl _) _).trans (hb1.mono (by simp))
  have hr := RdS.of_owns hown
  rw [HN.out] at hr
  clear hb1 hown
  rcases hr.cases (by decide) with ⟨rfl, h1, a, cap, rfl, hm⟩ | ⟨hn, hl, g, off, cap, rfl, hnc, hcm, hc⟩
  · clear h1 hm hn9 hr
    go_wp2
    go_loop [3, 9] (fun s i => s = .int .i64 0 ∧ i = .int .i64 0) (fun s i => 0)
    case atStart => exact ⟨rfl, rfl⟩
    case round =>
      obtain ⟨rfl, rfl⟩ := hrel
      go_wp2
      go_ret
      exact ⟨rfl, hb⟩
  · have HC := Lib.hid hc
    clear hc hr hl
    go_wp2
    go_loop [3, 9] (fun s i => ∃ j : Nat, j ≤ N ∧ i = .int .i64 j ∧ s = .int .i64 (bSum f k j)) (fun _ i => N - (intOf i).toNat)
    case atStart => exact ⟨0, by omega, rfl, rfl⟩
    case round =>
      obtain ⟨j, hj, rfl, rfl⟩ := hrel
      have hs := bSum_range f k j
      have hq := bSeq_range f k j
      by_cases hlt : j < N
      · have hcell := HC.out j _ (bList_get f k N j hlt)
        go_wp2
        go_round
        case rel => exact ⟨j + 1, by omega, by go_num, rfl⟩
        case measure => simp [intOf]; omega
      · obtain rfl : j = N := by omega
        go_wp2
        go_ret
        exact ⟨rfl, hb⟩

end Go.Proofs.Ytlpcagkknfajeaa
