/-
  varint: Size, and the reference.
-/
import Derived.Test.YtkaadkjbimaodaaVc
import Derived.Deep.QuietTactic
import Derived.BigQuiet
namespace Go.Proofs.Ytkaadkjbimaodaa
open Go.RowKit
attribute [local go_sem] Oper.semAt_some wide_fn wide_depth wide_fn' wide_depth'

set_option maxRecDepth 100000 in
set_option maxHeartbeats 400000 in
theorem Size_any (n : Nat) (w : World) (hn : n < 18446744073709551616) :
    Calls Try.prog 29 #[.int .u64 n] w fun e w' => e = .returned (.int .i64 (putL 9 n).length) ∧ Below w.heap.size w w' := by
  have HQ := Lib.hid (sevL_len' 9 n)
  refine (callsIn_wide (n := 0)).1 ?_
  refine callsIn_of_wp_marks Try.func29 rfl trivial ?_ rfl
  simp only [Try.ntmps29, List.size_toArray, List.length_cons, List.length_nil, Nat.reduceAdd, Nat.reduceSub, Array.replicate_succ, Array.replicate_zero, List.push_toArray, List.append_toArray, List.nil_append, List.cons_append]
  gi_wp2_with (gi_at_call 51; refine (callsIn_wide.2 (sevens_any _ _)).mono ?_; rintro e w' ⟨rfl, rfl⟩)
  refine wpIn_rf1 rfl (enters_of Try.func62 (by kernel_rfl) rfl) (sevens_iter n w.heap.size (w.heap.size + 1) _ hn (by omega) (by have := Boxed.new (w.alloc (.cells #[Value.int .i64 0] 3)) 40 (.int .u64 n); simpa using this)) (by simp; omega) (by rintro k rfl; simp) (fun _ => rfl)
    (fun S pre W => Boxed W w.heap.size 3 (.int .i64 pre.length) ∧ ¬ S w.heap.size ∧ Below w.heap.size w W)
    (fun _ _ _ _ => False) (fun h => (h trivial).elim) ?hJ ?hJx ?h0 ?a1 ?assign ?body ?done ?stop
  case a1 =>
    exact fun x => { tmps := #[.int .u64 n, undef, .int .i64 0, .pointer (some ⟨w.heap.size, 0, none⟩), .int .u64 n, .func (.func 62) #[] #[.pointer (some ⟨w.heap.size + 1, 0, none⟩)], .int .u8 x.1, .bool x.2, undef, undef, undef], defers := [] }
  case hJ =>
    rintro S S' s W W' hS ⟨h1, h2, h5⟩ hs
    exact ⟨(hs.boxed h1 h2).1, (hs.boxed h1 h2).2, h5.trans hs.below⟩
  case hJx => intro c S S' s W W' _ h; exact h.elim
  case h0 =>
    refine ⟨(Boxed.new w _ _).alloc _, by omega, ((Below.refl _ w).alloc (Nat.le_refl _) _).alloc (by simp) _⟩
  case assign =>
    intro l x W K hK
    dsimp only [encBB]
    gi_wp2
    simpa using hK
  case body =>
    rintro l S pre x W hS hw hl _ ⟨h1, h2, h5⟩ hpre
    have hc := h1.cell
    have hf := h1.frozen
    have hpl : pre.length + 1 ≤ 10 := by
      have e1 := hpre.length_le; have e2 := sevL_len 9 n; simp at e1; omega
    have HS := Lib.hid hS
    clear hS hpre hw
    gi_wp2
    refine ⟨⟨?_, h2, ?_⟩, ?_, ?_⟩
    · have := h1.set (.int .i64 (pre.length + 1)); simpa using this
    · exact h5.setCell (Nat.le_refl _) _
    · exact (Below.refl w.heap.size W).setCell (p := ⟨w.heap.size, 0, none⟩) (Nat.le_refl _) _
    · exact fun k hk => Below.heap_setCell _ _ _ _ (fun e => h2 (by rw [show k = w.heap.size from e] at hk; exact hk))
  case done =>
    rintro D S W hD hS hSD ⟨h1, h2, h5⟩ hK
    have hc := h1.cell
    have HS := Lib.hid hS
    clear hS
    gi_wp2
    refine ⟨by simp, .inl ⟨_, _, rfl, run_takeDeferred hK, ?_⟩⟩
    exact ⟨_, results_tmp rfl _ _ _, by rw [HQ.out]; rfl, h5.trans (below_putObj _ _ (by simp at hD; omega))⟩
  case stop =>
    rintro D c S pre W _ _ _ _ h _
    exact h.elim

set_option maxRecDepth 100000 in
set_option maxHeartbeats 400000 in
theorem rPut_any (n : Nat) (w : World) (hn : n < 18446744073709551616) :
    Calls Try.prog 28 #[.int .u64 n] w fun e w' => ∃ v, e = .returned v ∧ w'.ownsRow w.heap.size 5 1 v (putL 9 n).length (u8s (putL 9 n)) ∧ Below w.heap.size w w' := by
  obtain ⟨i0, hi, hz0, hz1, hz2⟩ := info_parts Try.info5
  go_enter Try.func28, Try.ntmps28
  go_wp2
  go_loopw [0, 3] (fun v out wr => ∃ (m f : Nat) (pre : List Nat), v = .int .u64 m ∧ wr.ownsRow w.heap.size 5 1 out pre.length (u8s pre) ∧ putL 9 n = pre ++ putL f m ∧ m < 128 ^ (f + 1) ∧ m < 18446744073709551616 ∧ pre.length + f = 9 ∧ Below w.heap.size w wr) (fun v _ _ => (intOf v).toNat)
  case atStart => exact ⟨n, 9, [], rfl, World.ownsRow_nil _ _ _ _, rfl, by omega, hn, rfl, Below.refl _ _⟩
  case round =>
    obtain ⟨m, f, pre, rfl, hown, hL, hmf, hm, hpf, hb⟩ := hrel
    have hsz : w.heap.size ≤ wr.heap.size := hb.size
    have HL := Lib.hid hL
    have HM := Lib.hid hmf
    have HPF := Lib.hid hpf
    have hpl : pre.length ≤ 9 := by omega
    clear hL hmf hpf
    by_cases hlt : m < 128
    · go_wp2_with (at_builtin; go_must (refine wpList_push rfl _ _ 41 rfl w.heap.size 5 i0 (.int .u8 0) 1 1 Try.underlying41 hi hz0 hz1 hz2 rfl (by decide) _ _ _ rfl (hown.alloc _) ⟨wr.heap.size, 0, none⟩ 1 1 [_] rfl rfl (cell_one_new _ _ _) (by simp [Value.oneCell']) (by unfold maxLen; omega) (by omega) (by simp; omega) ?_; intro v' w1 hown' hgrow hfr))
      have hgrow : (wr.alloc _).grownBy w1 u3.ownBlock := hgrow
      go_ret
      rw [putL_lt f m hlt] at HL
      exact ⟨v', rfl, by rw [HL.out]; simpa [u8s] using hown', (hb.alloc hsz _).grown hgrow (by simp; omega) (fun j ej => (hown.lt j ej).1)⟩
    · cases f with
      | zero => have := HM.out; simp at this; omega
      | succ f =>
      rw [putL_ge f m hlt] at HL
      go_wp2_with (at_builtin; go_must (refine wpList_push rfl _ _ 41 rfl w.heap.size 5 i0 (.int .u8 0) 1 1 Try.underlying41 hi hz0 hz1 hz2 rfl (by decide) _ _ _ rfl (hown.alloc _) ⟨wr.heap.size, 0, none⟩ 1 1 [_] rfl rfl (cell_one_new _ _ _) (by simp [Value.oneCell']) (by unfold maxLen; omega) (by omega) (by simp; omega) ?_; intro v' w1 hown' hgrow hfr))
      have hgrow : (wr.alloc _).grownBy w1 u3.ownBlock := hgrow
      go_roundw
      case rel => exact ⟨m / 128, f, pre ++ [m % 128 + 128], by go_num, by simpa [u8s] using hown', by rw [HL.out]; simp, by have := HM.out; rw [Nat.pow_succ] at this; omega, by omega, by have := HPF.out; simp; omega, (hb.alloc hsz _).grown hgrow (by simp; omega) (fun j ej => (hown.lt j ej).1)⟩
      case measure => simp [intOf]; omega

/-- Are bytes alike? Those that are. -/
theorem Same_true (v v' : Value) (bs : List Nat) (w : World) (h : RdS w v 1 bs.length (u8s bs)) (h' : RdS w v' 1 bs.length (u8s bs)) :
    Calls Try.prog 27 #[v, v'] w fun e w' => e = .returned (.bool true) ∧ Below w.heap.size w w' := by
  rcases h.cases (by decide) with ⟨h0, h1, a, cap, rfl, hm⟩ | ⟨hn, hl, g, off, cap, rfl, hnc, hcm, hc⟩
  · obtain rfl : bs = [] := List.eq_nil_of_length_eq_zero h0
    rcases h'.cases (by decide) with ⟨_, _, a', cap', rfl, hm'⟩ | ⟨hn, _⟩
    · go_enter Try.func27, Try.ntmps27
      go_wp2
      go_loop [5] (fun i => i = .int .i64 0) (fun i => 0)
      case atStart => rfl
      case round =>
        obtain rfl := hrel
        go_wp2
        go_ret
        exact ⟨rfl, Below.refl _ _⟩
    · simp at hn
  · rcases h'.cases (by decide) with ⟨h0, _⟩ | ⟨_, _, g', off', cap', rfl, hnc', hcm', hc'⟩
    · omega
    · have HC := Lib.hid hc
      have HC' := Lib.hid hc'
      have H := Lib.hid h
      have H' := Lib.hid h'
      clear hc hc' h h' hl
      go_enter Try.func27, Try.ntmps27
      go_wp2
      go_loopw [5] (fun i wr => ∃ (k : Nat), k ≤ bs.length ∧ i = .int .i64 k ∧ Below w.heap.size w wr) (fun i _ => bs.length - (intOf i).toNat)
      case atStart => exact ⟨0, by omega, rfl, Below.refl _ _⟩
      case round =>
        obtain ⟨k, hk, rfl, hb⟩ := hrel
        by_cases hlt : k < bs.length
        · have c1 := cellB hb (HC.out k _ (u8s_get bs k hlt))
          have c2 := cellB hb (HC'.out k _ (u8s_get bs k hlt))
          generalize bs[k]?.getD 0 = b at *
          have hlt' : (k : Int) < bs.length := by omega
          go_wp2
          go_quiet (fail)
          go_wp2
          go_roundw
          case rel => exact ⟨k + 1, by omega, by go_num, belowN hb _⟩
          case measure => simp [intOf]; omega
        · go_wp2
          go_ret
          exact ⟨rfl, hb⟩
end Go.Proofs.Ytkaadkjbimaodaa
