/-
  The reference's Plan: contract.
-/
import Derived.Test.YtkaadkjbimaodaaBi
namespace Go.Proofs.Ytkaadkjbimaodaa
open Go.RowKit

theorem Try.infoRWin : (Try.prog.info? 66).map (fun i => (i.zero, i.size, i.bytes)) = some (some (.agg #[.int .i64 0, .int .i64 0, .int .i64 0]), 3, 24) := by kernel_rfl

set_option maxRecDepth 100000 in
set_option maxHeartbeats 1000000 in
theorem rPlan_any (s0 s1 s2 : ByteArray) (af : Option Addr) (an ac : Nat) (m f k l : Int) (nk : Int) (nt : ByteArray) (ka : Option Addr) (kn kc : Nat) (da : Option Addr) (dn dc : Nat) (nl : Int) (now : Int) (w : World) :
    Calls Try.prog 40 #[stepV s0 s1 s2 af an ac m f k l nk nt ka kn kc da dn dc nl, .int .i64 now] w fun e w' =>
      ∃ v, e = .returned v ∧ w'.ownsRow w.heap.size 66 3 v (bMost m).toNat (wins (atI now) (limI l) f k (bMost m).toNat) ∧ Below w.heap.size w w' := by
  have hmn := @run_min2 Try.prog
  have hmx := @run_max2 Try.prog
  have hf5 := @field_step5
  have hf0 := @field_retry0
  have hlr := limI_range l
  have har := atI_range now
  have hMr := bMost_range m
  obtain ⟨L, hL⟩ : ∃ L, limI l = L := ⟨_, rfl⟩
  obtain ⟨A, hA⟩ : ∃ A, atI now = A := ⟨_, rfl⟩
  obtain ⟨M, hM⟩ : ∃ M, (bMost m).toNat = M := ⟨_, rfl⟩
  rw [hM, hL, hA]
  rw [hL] at hlr
  rw [hA] at har
  have HL := Lib.hid (show min (max (or0 l 100) 0) 10000 = L from hL)
  have HA := Lib.hid (show min (max now (-1099511627776)) 1099511627776 = A from hA)
  have HM := Lib.hid (show bMost m = (M : Int) by omega)
  clear hL hA hM hMr
  obtain ⟨i0, hi, hz0, hz1, hz2⟩ := info_parts Try.infoRWin
  unfold stepV
  go_enter Try.func40, Try.ntmps40
  go_wp2_with fail
  refine (rReal_any _ _ _ _ _ _ m f k l _ _ _ _ _ _ _ _ _ _).mono ?_
  rintro e w1 ⟨rfl, hb1⟩
  unfold stepV
  rw [HA.out]
  have hb : Below w.heap.size w w1 := ((Below.refl _ w).alloc (Nat.le_refl _) _).trans (hb1.mono (by simp))
  have hbx := (hb1.block w.heap.size (by simp)).trans (World.alloc_heap_new w _)
  have hsz : w.heap.size + 1 ≤ w1.heap.size := by have := hb1.size; simpa using this
  have hM10 : M ≤ 10 := by have := HM.out; have := bMost_range m; omega
  have HBX := Lib.hid hbx
  clear hb1 hbx
  go_wp2
  rw [HL.out]
  go_loopw [5, 7, 8] (fun a out i wr => ∃ j : Nat, j ≤ M ∧ a = .int .i64 (planAt A L f k j) ∧ i = .int .i64 ((j : Int) + 1) ∧ wr.ownsRow w1.heap.size 66 3 out j (wins A L f k j) ∧ Below w1.heap.size w1 wr) (fun _ _ i _ => M + 1 - (intOf i).toNat)
  case atStart => exact ⟨0, by omega, by rw [planAt_zero], rfl, World.ownsRow_nil _ _ _ _, Below.refl _ _⟩
  case round =>
    obtain ⟨j, hj, rfl, rfl, hown, hbw⟩ := hrel
    have hpr := planAt_range (f := f) (k := k) har hlr (show j ≤ 10 by omega)
    have hsr := bSeq_range f k j
    have HPN := Lib.hid (planAt_succ A L f k j)
    have hszw := hbw.size
    have hst := (hbw.block w.heap.size (by omega)).trans HBX.out
    obtain ⟨q4, q5, q6⟩ := cells13h hst
    go_wp2_with fail
    refine (rMeant_any m f k _).mono ?_
    rintro e w2 ⟨rfl, hb2⟩
    unfold retryV
    rw [HM.out]
    have hown2 := ownsB hown hb2
    have hbw2 := hbw.trans (hb2.mono hszw)
    have hszw2 := hbw2.size
    have hst2 := (hbw2.block w.heap.size (by omega)).trans HBX.out
    clear q4 q5 q6 hst hown hb2
    obtain ⟨q4, q5, q6⟩ := cells13h hst2
    by_cases hm : j < M
    · have hm1 : (j : Int) + 1 ≤ M := by omega
      have HST := Lib.hid hst2
      clear hst2 q4 q5 q6
      go_wp2_with (at_builtin; go_must (refine wpList_push rfl _ _ 63 rfl w1.heap.size 66 i0 (.agg #[.int .i64 0, .int .i64 0, .int .i64 0]) 3 24 Try.underlying63 hi hz0 hz1 hz2 rfl (by decide) _ _ _ rfl (hown2.alloc _) ⟨w2.heap.size, 0, none⟩ 1 1 [_, _, _] rfl rfl (cells_new3 _ _ _ _ _) (by simp [Value.oneCell']) (by unfold maxLen; omega) (by omega) (by simp; omega) ?_; intro v' w3 hown3 hgrow hfr; have hbw3 := below_push hbw2 hszw2 hown2 (Nat.le_refl _) hgrow; have hst3 := (hbw3.block w.heap.size (by omega)).trans HBX.out; obtain ⟨q4, q5, q6⟩ := cells13h hst3; clear hgrow hfr hst3))
      refine (rWait_any m f k _ _).mono ?_
      rintro e w4 ⟨rfl, hb4⟩
      rw [waitI_succ f k j (by omega)]
      have hbw4 := hbw3.trans (hb4.mono hbw3.size)
      have hown4 := ownsB hown3 hb4
      clear q4 q5 q6
      go_wp2
      go_roundw
      case rel => exact ⟨j + 1, by omega, by rw [← HPN.out], by go_num, hown4, hbw4⟩
      case measure => simp [intOf]; omega
    · obtain rfl : j = M := by omega
      have hm1 : ¬ (j : Int) + 1 ≤ j := by omega
      clear q4 q5 q6 hst2
      go_wp2
      go_ret
      exact ⟨_, rfl, ownsRow_mono hown2 (by omega), hb.trans (hbw2.mono (by omega))⟩
end Go.Proofs.Ytkaadkjbimaodaa
