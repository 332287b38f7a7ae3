/-
  backoff.Waits: contract.
-/
import Derived.Test.YtlpcagkknfajeaaBe
import Derived.Test.YtlpcagkknfajeaaPv
import Derived.Test.YtlpcagkknfajeaaSl
import Derived.Deep.DeepMust
namespace Go.Proofs.Ytlpcagkknfajeaa
open Go.RowKit
attribute [local go_sem] Oper.semAt_some wide_fn wide_depth wide_fn' wide_depth'

theorem Try.infoInt : (Try.prog.info? 3).map (fun i => (i.zero, i.size, i.bytes)) = some (some (.int .i64 0), 1, 8) := by kernel_rfl
theorem Keep.of_below {n0 : Nat} {S : Nat → Prop} {W W' : World} (hn : n0 ≤ W.heap.size) (hS : ∀ k, S k → n0 ≤ k ∧ k < W.heap.size) (h : Below W.heap.size W W') : Keep n0 S W W' :=
  ⟨h.mono hn, fun k hk => h.block k (hS k hk).2⟩


set_option maxRecDepth 100000 in
set_option maxHeartbeats 1000000 in
theorem Waits_any (m f k : Int) (w : World) :
    Calls Try.prog 43 #[retryV m f k] w fun e w' => ∃ v, e = .returned v ∧ w'.ownsRow w.heap.size 3 1 v (wN m) (ints .i64 (bList f k (wN m))) ∧ Below w.heap.size w w' := by
  refine (callsIn_wide (n := 0)).1 ?_
  refine callsIn_of_wp_marks Try.func43 rfl trivial ?_ rfl
  simp only [Try.ntmps43, List.size_toArray, List.length_cons, List.length_nil, Nat.reduceAdd, Nat.reduceSub, Array.replicate_succ, Array.replicate_zero, List.push_toArray, List.append_toArray, List.nil_append, List.cons_append]
  obtain ⟨i0, hi, hz0, hz1, hz2⟩ := info_parts Try.infoInt
  unfold retryV
  gi_wp2_with (gi_at_call 48; refine (callsIn_wide.2 (waits_any m f k _)).mono ?_; rintro e w1 ⟨rfl, rfl⟩)
  have hbr : Boxed3 (((w.alloc (Obj.cells #[Value.int IntKind.i64 m, Value.int IntKind.i64 f, Value.int IntKind.i64 k] 24)).alloc (Obj.cells #[Value.slice none 0 0] 46)).alloc (Obj.cells #[Value.int IntKind.i64 m, Value.int IntKind.i64 f, Value.int IntKind.i64 k] 24)) w.heap.size m f k := by
    have h0 := World.alloc_heap_new w (Obj.cells #[Value.int IntKind.i64 m, Value.int IntKind.i64 f, Value.int IntKind.i64 k] 24)
    exact (Below.heap_alloc _ _ _ (by simp; omega)).trans ((Below.heap_alloc _ _ _ (by simp)).trans h0)
  have hb4 : Boxed3 (((w.alloc (Obj.cells #[Value.int IntKind.i64 m, Value.int IntKind.i64 f, Value.int IntKind.i64 k] 24)).alloc (Obj.cells #[Value.slice none 0 0] 46)).alloc (Obj.cells #[Value.int IntKind.i64 m, Value.int IntKind.i64 f, Value.int IntKind.i64 k] 24)) (w.heap.size + 1 + 1) m f k := by
    have := World.alloc_heap_new ((w.alloc (Obj.cells #[Value.int IntKind.i64 m, Value.int IntKind.i64 f, Value.int IntKind.i64 k] 24)).alloc (Obj.cells #[Value.slice none 0 0] 46)) (Obj.cells #[Value.int IntKind.i64 m, Value.int IntKind.i64 f, Value.int IntKind.i64 k] 24)
    simpa [Boxed3] using this
  have hb2 : Boxed (((w.alloc (Obj.cells #[Value.int IntKind.i64 m, Value.int IntKind.i64 f, Value.int IntKind.i64 k] 24)).alloc (Obj.cells #[Value.slice none 0 0] 46)).alloc (Obj.cells #[Value.int IntKind.i64 m, Value.int IntKind.i64 f, Value.int IntKind.i64 k] 24)) (w.heap.size + 1) 46 (.slice none 0 0) := by
    have := Boxed.new (w.alloc (Obj.cells #[Value.int IntKind.i64 m, Value.int IntKind.i64 f, Value.int IntKind.i64 k] 24)) 46 (.slice none 0 0)
    rw [World.size_alloc] at this
    exact this.alloc _
  have hbl : Below w.heap.size w (((w.alloc (Obj.cells #[Value.int IntKind.i64 m, Value.int IntKind.i64 f, Value.int IntKind.i64 k] 24)).alloc (Obj.cells #[Value.slice none 0 0] 46)).alloc (Obj.cells #[Value.int IntKind.i64 m, Value.int IntKind.i64 f, Value.int IntKind.i64 k] 24)) :=
    ((((Below.refl _ w).alloc (Nat.le_refl _) _).alloc (by simp) _).alloc (by simp; omega) _)
  have hsz : (((w.alloc (Obj.cells #[Value.int IntKind.i64 m, Value.int IntKind.i64 f, Value.int IntKind.i64 k] 24)).alloc (Obj.cells #[Value.slice none 0 0] 46)).alloc (Obj.cells #[Value.int IntKind.i64 m, Value.int IntKind.i64 f, Value.int IntKind.i64 k] 24)).heap.size = w.heap.size + 3 := by simp
  generalize (((w.alloc (Obj.cells #[Value.int IntKind.i64 m, Value.int IntKind.i64 f, Value.int IntKind.i64 k] 24)).alloc (Obj.cells #[Value.slice none 0 0] 46)).alloc (Obj.cells #[Value.int IntKind.i64 m, Value.int IntKind.i64 f, Value.int IntKind.i64 k] 24)) = w4 at *
  have HB := Lib.hid hbl
  have HBR := Lib.hid hbr
  have HSZ := Lib.hid hsz
  clear hbr
  refine wpIn_rf1 rfl (enters_of Try.func49 (by kernel_rfl) rfl) (waits_iter m f k (w.heap.size + 1) (w.heap.size + 1 + 1) (wN m + 1) w4 (by omega) hb4) (by omega) (by rintro j rfl; omega) (fun _ => rfl)
    (fun S pre W => pre.length ≤ wN m ∧ ∃ v, Boxed W (w.heap.size + 1) 46 v ∧ ¬ S (w.heap.size + 1) ∧ W.ownsRow (w.heap.size + 1) 3 1 v pre.length (ints .i64 pre) ∧ (∀ g, v.ownBlock = some g → ¬ S g) ∧ Below (w.heap.size + 1) w4 W)
    (fun c S pre W => c = .exit 0 ∧ ∃ v, Boxed W (w.heap.size + 1) 46 v ∧ ¬ S (w.heap.size + 1) ∧ W.ownsRow (w.heap.size + 1) 3 1 v (wN m) (ints .i64 (bList f k (wN m))) ∧ (∀ g, v.ownBlock = some g → ¬ S g) ∧ Below (w.heap.size + 1) w4 W) ?hfin ?hJ ?hJx ?h0 ?a1 ?assign ?body ?done ?stop
  case a1 =>
    exact fun x => { tmps := #[.agg #[.int .i64 m, .int .i64 f, .int .i64 k], .pointer (some ⟨w.heap.size, 0, none⟩), .slice none 0 0, .pointer (some ⟨w.heap.size + 1, 0, none⟩), .int .i64 x, .agg #[.int .i64 m, .int .i64 f, .int .i64 k], .func (.func 49) #[] #[.pointer (some ⟨w.heap.size + 1 + 1, 0, none⟩)], .int .i64 x, undef, undef, undef, undef, undef, undef, undef, undef, undef, undef, undef], defers := [] }
  case hfin => rintro _ S W ⟨h, _⟩; simp [bList_len] at h; omega
  case hJ =>
    rintro S S' s W W' hS ⟨h0, v, h1, h2, h3, h4, h5⟩ hs
    exact ⟨h0, v, (hs.boxed h1 h2).1, (hs.boxed h1 h2).2, (hs.owns h3 h4).1, (hs.owns h3 h4).2, h5.trans hs.below⟩
  case hJx =>
    rintro c S S' s W W' hS ⟨h0, v, h1, h2, h3, h4, h5⟩ hs
    exact ⟨h0, v, (hs.boxed h1 h2).1, (hs.boxed h1 h2).2, (hs.owns h3 h4).1, (hs.owns h3 h4).2, h5.trans hs.below⟩
  case h0 => exact ⟨by simp, .slice none 0 0, hb2, by omega, World.ownsRow_nil _ _ _ _, by simp [Value.ownBlock], Below.refl _ _⟩
  case assign =>
    intro l x W K hK
    dsimp only [encI]
    gi_wp2
    exact hK
  case body =>
    rintro l S pre x W hS hw hl _ ⟨h0, v, h1, h2, h3, h4, h5⟩ hpre
    obtain ⟨hp, rfl, hlt⟩ := bList_next hpre
    have hr : Boxed3 W w.heap.size m f k := (h5.block _ (by omega)).trans HBR.out
    obtain ⟨q0, q1, q2, _⟩ := cells3h hr
    have hW0 : w.heap.size + 1 ≤ W.heap.size := by have := h5.size; omega
    obtain ⟨va, vc, rfl⟩ := (RdS.of_owns h3).form
    have hc := h1.cell
    have hpl : pre.length + 1 ≤ 11 := by have := bMost_range m; unfold wN at h0; omega
    have HP := Lib.hid hp
    have HS := Lib.hid hS
    have HSZW := Lib.hid hw
    clear hS hpre hw hp hr hsz hbl
    by_cases hm : (pre.length : Int) + 1 < bMost m
    · have hmm : moreB m ((pre.length : Int) + 1) = true := by unfold moreB; simp; omega
      gi_wp2_with (first
        | (gi_at_call 44; refine ((callsIn_wide.2 (More_any m f k _ _)).inRound l).mono ?_; rintro e w1 ⟨he, hb1⟩; rw [hmm] at he; subst he; clear q0 q1 q2 hc; have hst := Step.of_below (S := S) hW0 hb1; have h1' := (hst.boxed h1 h2).1; have h3' := (hst.owns h3 h4).1; have hc' := h1'.cell; have hsz1 : W.heap.size ≤ w1.heap.size := hb1.size; clear hst)
        | (gi_at_builtin; go_must (refine wpListIn_push rfl _ _ 46 rfl (w.heap.size + 1) 3 i0 (.int .i64 0) 1 8 Try.underlying46 hi hz0 hz1 hz2 rfl (by decide) _ _ _ rfl (h3'.alloc _) ⟨w1.heap.size, 0, none⟩ 1 1 [_] rfl rfl (cell_one_new _ _ _) (by simp [Value.oneCell']) (by unfold maxLen; omega) (by omega) (by simp; omega) ?_; intro v' w2 hown' hgrow hfr; obtain ⟨g', cap', rfl⟩ := ownsRow_succ hown'; obtain ⟨hv1, hv2, hr2, hk2, hn2⟩ := boxed_pushed (S := S) h1' (by decide) h3' (Nat.le_trans hW0 hsz1) (Nat.le_refl _) (Nat.le_refl _) (fun j hj => by have := HS.out j hj; omega) h2 h4 hown' hgrow hfr; have hc1 := hv1.cell; have hf1 := hv1.frozen)))
      have hk := (Keep.of_below hW0 HS.out hb1).trans hk2
      exact ⟨⟨by simp only [List.length_append, List.length_cons, List.length_nil]; unfold wN; omega, _, hv2, h2, by simpa [ints] using hr2, hn2, h5.trans hk.below⟩, hk⟩
    · have hmm : moreB m ((pre.length : Int) + 1) = false := by unfold moreB; simp; omega
      have HL := Lib.hid (show pre.length = wN m by unfold wN at h0 ⊢; omega)
      gi_wp2_with (gi_at_call 44; refine ((callsIn_wide.2 (More_any m f k _ _)).inRound l).mono ?_; rintro e w1 ⟨he, hb1⟩; rw [hmm] at he; subst he; clear q0 q1 q2 hc; have hst := Step.of_below (S := S) hW0 hb1; have h1' := (hst.boxed h1 h2).1; have h3' := (hst.owns h3 h4).1)
      have hk := Keep.of_below hW0 HS.out hb1
      have e1 := HP.out
      have hlen := HL.out
      rw [hlen] at e1
      rw [e1, bList_len] at h1' h3' h4
      exact ⟨⟨rfl, _, h1', h2, h3', h4, h5.trans hk.below⟩, hk⟩
  case done =>
    rintro D S W hD hS hSD ⟨h, _⟩
    simp [bList_len] at h
    omega
  case stop =>
    rintro D c S pre W hD hS hSD hpre ⟨rfl, v, h1, h2, h3, h4, h5⟩ hK
    have hc := h1.cell
    have HS := Lib.hid hS
    clear hS
    gi_wp2
    refine ⟨by simp, .inl ⟨_, _, rfl, run_takeDeferred hK, ?_⟩⟩
    exact ⟨_, results_tmp rfl _ _ _, v, rfl, ownsRow_mono (ownsRow_putObj h3 _ hK rfl) (by omega), (HB.out.trans (h5.mono (by omega))).trans (below_putObj _ _ (by have := HSZ.out; omega))⟩
end Go.Proofs.Ytlpcagkknfajeaa
