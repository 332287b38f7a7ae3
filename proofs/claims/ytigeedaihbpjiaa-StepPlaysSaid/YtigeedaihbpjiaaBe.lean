/-
  backoff.More, Wait, Waits, Total: contracts.
-/
import Derived.Test.YtigeedaihbpjiaaBd
import Derived.Test.YtigeedaihbpjiaaSc
import Derived.Test.YtigeedaihbpjiaaPc
namespace Go.Proofs.Ytigeedaihbpjiaa
open Go.RowKit
attribute [local go_sem] Oper.semAt_some wide_fn wide_depth wide_fn' wide_depth'

theorem field_retry0 (m : Int) (c1 c2 : Value) (w : World) : (Instr.field 77 (.agg #[.int .i64 m, c1, c2]) 0).run Try.prog w = .ok (.int .i64 m) w := by kernel_rfl
theorem field_retry1 (m : Int) (c0 c2 : Value) (w : World) : (Instr.field 77 (.agg #[c0, .int .i64 m, c2]) 1).run Try.prog w = .ok (.int .i64 m) w := by kernel_rfl
theorem field_retry2 (m : Int) (c0 c1 : Value) (w : World) : (Instr.field 77 (.agg #[c0, c1, .int .i64 m]) 2).run Try.prog w = .ok (.int .i64 m) w := by kernel_rfl

def moreB (m t : Int) : Bool := decide (1 ≤ t ∧ t < bMost m)

set_option maxRecDepth 100000 in
set_option maxHeartbeats 400000 in
theorem More_any (m f k t : Int) (w : World) :
    Calls Try.prog 109 #[retryV m f k, .int .i64 t] w fun e w' => e = .returned (.bool (moreB m t)) ∧ Below w.heap.size w w' := by
  by_cases h1 : 1 ≤ t
  · have hm : moreB m t = decide (t < bMost m) := by unfold moreB; simp [h1]
    rw [hm]
    clear hm
    have hd : decide (1 ≤ t) = true := by simpa using h1
    have hf0 := @field_retry0
    unfold retryV
    go_enter Try.func109, Try.ntmps109
    go_wp2_with fail
    refine (meant_any m f k _).mono ?_
    rintro e w1 ⟨rfl, hb1⟩
    unfold retryV
    go_wp2
    go_ret
    exact ⟨rfl, ((Below.refl _ w).alloc (Nat.le_refl _) _).trans (hb1.mono (by simp))⟩
  · have hm : moreB m t = false := by unfold moreB; simp [h1]
    rw [hm]
    clear hm
    have hd : decide (1 ≤ t) = false := by simpa using h1
    unfold retryV
    go_enter Try.func109, Try.ntmps109
    go_wp2
    go_ret
    exact ⟨rfl, (Below.refl _ w).alloc (Nat.le_refl _) _⟩


set_option maxRecDepth 100000 in
set_option maxHeartbeats 1000000 in
theorem Wait_any (m f k t : Int) (w : World) :
    Calls Try.prog 110 #[retryV m f k, .int .i64 t] w fun e w' => e = .returned (.int .i64 (waitI f k t)) ∧ Below w.heap.size w w' := by
  refine (callsIn_wide (n := 0)).1 ?_
  refine callsIn_of_wp_marks Try.func110 rfl trivial ?_ rfl
  simp only [Try.ntmps110, List.size_toArray, List.length_cons, List.length_nil, Nat.reduceAdd, Nat.reduceSub, Array.replicate_succ, Array.replicate_zero, List.push_toArray, List.append_toArray, List.nil_append, List.cons_append]
  by_cases h1 : t < 1
  · have hw : waitI f k t = 0 := by unfold waitI; rw [if_pos h1]
    rw [hw]
    clear hw
    unfold retryV
    gi_wp2
    refine wpIn_scope ?_
    gi_wp2
    rw [Exit.noGoto_ret]
    exact ⟨_, results_tmp rfl _ _ _, rfl, (Below.refl _ w).alloc (Nat.le_refl _) _⟩
  · have hw : waitI f k t = bSeq f k ((min t 20).toNat - 1) := by unfold waitI; rw [if_neg h1]
    rw [hw]
    clear hw
    have hmn := @run_min2 Try.prog
    unfold retryV
    gi_wp2
    refine wpIn_scope ?_
    gi_wp2
    refine wpIn_label ?_
    gi_wp2_with (gi_at_call 119; refine (callsIn_wide.2 (waits_any m f k _)).mono ?_; rintro e w1 ⟨rfl, rfl⟩)
    have HN := Lib.hid (show min t 20 = ((min t 20).toNat : Int) by omega)
    have HN1 := Lib.hid (show 1 ≤ (min t 20).toNat ∧ (min t 20).toNat ≤ 20 by omega)
    rw [HN.out]
    generalize hNN : (min t 20).toNat = N at HN HN1 ⊢
    have HNN := Lib.hid hNN
    clear hmn HN hNN
    have hb4 : Boxed3 (((((w.alloc (Obj.cells #[Value.int IntKind.i64 m, Value.int IntKind.i64 f, Value.int IntKind.i64 k] 77)).alloc (Obj.cells #[Value.int IntKind.i64 0] 3)).alloc (Obj.cells #[Value.int IntKind.i64 N] 3)).alloc (Obj.cells #[Value.int IntKind.i64 m, Value.int IntKind.i64 f, Value.int IntKind.i64 k] 77))) (w.heap.size + 1 + 1 + 1) m f k := by
      have := World.alloc_heap_new (((w.alloc (Obj.cells #[Value.int IntKind.i64 m, Value.int IntKind.i64 f, Value.int IntKind.i64 k] 77)).alloc (Obj.cells #[Value.int IntKind.i64 0] 3)).alloc (Obj.cells #[Value.int IntKind.i64 N] 3)) (Obj.cells #[Value.int IntKind.i64 m, Value.int IntKind.i64 f, Value.int IntKind.i64 k] 77)
      simpa [Boxed3] using this
    have hb2 : Boxed (((((w.alloc (Obj.cells #[Value.int IntKind.i64 m, Value.int IntKind.i64 f, Value.int IntKind.i64 k] 77)).alloc (Obj.cells #[Value.int IntKind.i64 0] 3)).alloc (Obj.cells #[Value.int IntKind.i64 N] 3)).alloc (Obj.cells #[Value.int IntKind.i64 m, Value.int IntKind.i64 f, Value.int IntKind.i64 k] 77))) (w.heap.size + 1) 3 (.int .i64 0) := by
      have := Boxed.new (w.alloc (Obj.cells #[Value.int IntKind.i64 m, Value.int IntKind.i64 f, Value.int IntKind.i64 k] 77)) 3 (.int .i64 0)
      rw [World.size_alloc] at this
      exact (this.alloc _).alloc _
    have hb3 : Boxed (((((w.alloc (Obj.cells #[Value.int IntKind.i64 m, Value.int IntKind.i64 f, Value.int IntKind.i64 k] 77)).alloc (Obj.cells #[Value.int IntKind.i64 0] 3)).alloc (Obj.cells #[Value.int IntKind.i64 N] 3)).alloc (Obj.cells #[Value.int IntKind.i64 m, Value.int IntKind.i64 f, Value.int IntKind.i64 k] 77))) (w.heap.size + 1 + 1) 3 (.int .i64 N) := by
      have := Boxed.new ((w.alloc (Obj.cells #[Value.int IntKind.i64 m, Value.int IntKind.i64 f, Value.int IntKind.i64 k] 77)).alloc (Obj.cells #[Value.int IntKind.i64 0] 3)) 3 (.int .i64 N)
      rw [World.size_alloc, World.size_alloc] at this
      exact this.alloc _
    have hbl : Below w.heap.size w (((((w.alloc (Obj.cells #[Value.int IntKind.i64 m, Value.int IntKind.i64 f, Value.int IntKind.i64 k] 77)).alloc (Obj.cells #[Value.int IntKind.i64 0] 3)).alloc (Obj.cells #[Value.int IntKind.i64 N] 3)).alloc (Obj.cells #[Value.int IntKind.i64 m, Value.int IntKind.i64 f, Value.int IntKind.i64 k] 77))) :=
      (((((Below.refl _ w).alloc (Nat.le_refl _) _).alloc (by simp) _).alloc (by simp; omega) _).alloc (by simp; omega) _)
    have hsz : (((((w.alloc (Obj.cells #[Value.int IntKind.i64 m, Value.int IntKind.i64 f, Value.int IntKind.i64 k] 77)).alloc (Obj.cells #[Value.int IntKind.i64 0] 3)).alloc (Obj.cells #[Value.int IntKind.i64 N] 3)).alloc (Obj.cells #[Value.int IntKind.i64 m, Value.int IntKind.i64 f, Value.int IntKind.i64 k] 77))).heap.size = w.heap.size + 4 := by simp
    generalize (((((w.alloc (Obj.cells #[Value.int IntKind.i64 m, Value.int IntKind.i64 f, Value.int IntKind.i64 k] 77)).alloc (Obj.cells #[Value.int IntKind.i64 0] 3)).alloc (Obj.cells #[Value.int IntKind.i64 N] 3)).alloc (Obj.cells #[Value.int IntKind.i64 m, Value.int IntKind.i64 f, Value.int IntKind.i64 k] 77))) = w4 at *
    have HB := Lib.hid hbl
    have HSZ := Lib.hid hsz
    refine wpIn_rf1 rfl (enters_of Try.func120 (by kernel_rfl) rfl) (waits_iter m f k w.heap.size (w.heap.size + 1 + 1 + 1) N w4 (by omega) hb4) (by omega) (by rintro j rfl; omega) (fun _ => rfl)
      (fun S pre W => pre.length < N ∧ (∃ o, Boxed W (w.heap.size + 1) 3 (.int .i64 o)) ∧ ¬ S (w.heap.size + 1) ∧ Boxed W (w.heap.size + 1 + 1) 3 (.int .i64 ((N : Int) - pre.length)) ∧ ¬ S (w.heap.size + 1 + 1) ∧ Below w.heap.size w W)
      (fun c S pre W => c = .exit 0 ∧ Boxed W (w.heap.size + 1) 3 (.int .i64 (bSeq f k (N - 1))) ∧ ¬ S (w.heap.size + 1) ∧ Below w.heap.size w W) ?hfin ?hJ ?hJx ?h0 ?a1 ?assign ?body ?done ?stop
    case a1 =>
      exact fun x => { tmps := #[.agg #[.int .i64 m, .int .i64 f, .int .i64 k], .int .i64 t, .pointer (some ⟨w.heap.size, 0, none⟩), undef, .int .i64 0, .pointer (some ⟨w.heap.size + 1, 0, none⟩), .pointer (some ⟨w.heap.size + 1 + 1, 0, none⟩), .int .i64 x, .int .i64 t, .bool (decide (t < 1)), .int .i64 t, .int .i64 N, .agg #[.int .i64 m, .int .i64 f, .int .i64 k], .func (.func 120) #[] #[.pointer (some ⟨w.heap.size + 1 + 1 + 1, 0, none⟩)], .int .i64 x, undef, undef, undef, undef, undef, undef], defers := [] }
    case hfin => rintro _ S W ⟨h, _⟩; simp [bList_len] at h
    case hJ =>
      rintro S S' s W W' hS ⟨h0, ⟨o, h1⟩, h2, h3, h4, h5⟩ hs
      exact ⟨h0, ⟨o, (hs.boxed h1 h2).1⟩, (hs.boxed h1 h2).2, (hs.boxed h3 h4).1, (hs.boxed h3 h4).2, h5.trans hs.below⟩
    case hJx =>
      rintro c S S' s W W' hS ⟨h0, h1, h2, h5⟩ hs
      exact ⟨h0, (hs.boxed h1 h2).1, (hs.boxed h1 h2).2, h5.trans hs.below⟩
    case h0 => exact ⟨by have := HN1.out; simp; omega, ⟨_, hb2⟩, by omega, by simpa using hb3, by omega, hbl⟩
    case assign =>
      intro l x W K hK
      dsimp only [encI]
      gi_wp2
      simpa using hK
    case body =>
      rintro l S pre x W hS hw hl _ ⟨h0, ⟨o, h1⟩, h2, h3, h4, h5⟩ hpre
      obtain ⟨hp, rfl, hlt⟩ := bList_next hpre
      have HP := Lib.hid hp
      have HPRE := Lib.hid hpre
      have HS := Lib.hid hS
      clear hS hpre hw hp
      have h1' := h1.set (.int .i64 (bSeq f k pre.length))
      have h3' : Boxed (W.setCell ⟨w.heap.size + 1, 0, none⟩ (.int .i64 (bSeq f k pre.length))) (w.heap.size + 1 + 1) 3 (.int .i64 ((N : Int) - pre.length)) := h3.other (by omega) _
      have hc := h1.cell
      have hf := h1.frozen
      have hc4 := h3'.cell
      have hf4 := h3'.frozen
      have h6 : Boxed ((W.setCell ⟨w.heap.size + 1, 0, none⟩ (.int .i64 (bSeq f k pre.length))).setCell ⟨w.heap.size + 1 + 1, 0, none⟩ (.int .i64 ((N : Int) - pre.length - 1))) (w.heap.size + 1) 3 (.int .i64 (bSeq f k pre.length)) := h1'.other (by omega) _
      have h7 : Boxed ((W.setCell ⟨w.heap.size + 1, 0, none⟩ (.int .i64 (bSeq f k pre.length))).setCell ⟨w.heap.size + 1 + 1, 0, none⟩ (.int .i64 ((N : Int) - pre.length - 1))) (w.heap.size + 1 + 1) 3 (.int .i64 ((N : Int) - pre.length - 1)) := h3'.set _
      have hc7 := h7.cell
      have hK : Keep w.heap.size S W ((W.setCell ⟨w.heap.size + 1, 0, none⟩ (.int .i64 (bSeq f k pre.length))).setCell ⟨w.heap.size + 1 + 1, 0, none⟩ (.int .i64 ((N : Int) - pre.length - 1))) := by
        refine ⟨((Below.refl _ W).setCell (by simp) _).setCell (by show _ ≤ _ + 1 + 1; omega) _, fun j hj => ?_⟩
        rw [Below.heap_setCell _ _ _ _ (fun e => h4 (by rw [show j = w.heap.size + 1 + 1 from e] at hj; exact hj)), Below.heap_setCell _ _ _ _ (fun e => h2 (by rw [show j = w.heap.size + 1 from e] at hj; exact hj))]
      have HK := Lib.hid hK
      clear hK
      obtain ⟨hn1, hn2⟩ := HN1.out
      gi_wp2
      · rename_i hz
        have hz' : (N : Int) - pre.length - 1 = 0 := by simpa using hz
        refine ⟨⟨rfl, ?_, h2, h5.trans HK.out.below⟩, HK.out⟩
        have : pre.length = N - 1 := by omega
        rw [← this]
        exact h6
      · rename_i hz
        have hz' : (N : Int) - pre.length - 1 ≠ 0 := by simpa using hz
        refine ⟨⟨by simp only [List.length_append, List.length_cons, List.length_nil]; omega, ⟨_, h6⟩, h2, ?_, h4, h5.trans HK.out.below⟩, HK.out⟩
        have : (N : Int) - ((pre ++ [bSeq f k pre.length]).length : Nat) = (N : Int) - pre.length - 1 := by simp; omega
        rw [this]
        exact h7
    case done =>
      rintro D S W hD hS hSD ⟨h, _⟩
      simp [bList_len] at h
    case stop =>
      rintro D c S pre W hD hS hSD hpre ⟨rfl, h1, h2, h5⟩ hK
      have hc := h1.cell
      have HS := Lib.hid hS
      clear hS
      gi_wp2
      rw [Exit.noGoto_ret]
      refine ⟨by simp, .inl ⟨_, _, rfl, run_takeDeferred hK, ?_⟩⟩
      exact ⟨_, results_tmp rfl _ _ _, by rw [HNN.out]; rfl, h5.trans (below_putObj _ _ (by omega))⟩
end Go.Proofs.Ytigeedaihbpjiaa
