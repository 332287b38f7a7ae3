/-
  tag.fixed, Fix32, Fix64: contracts.
-/
import Derived.Test.YtigeedaihbpjiaaTe
import Derived.Test.YtigeedaihbpjiaaSl
import Derived.Laws.MakeOwn
import Derived.Deep.DeepMust
namespace Go.Proofs.Ytigeedaihbpjiaa
open Go.RowKit
attribute [local go_sem] Oper.semAt_some wide_fn wide_depth wide_fn' wide_depth'

set_option maxRecDepth 100000 in
set_option maxHeartbeats 1000000 in
theorem fixed_any (n k : Nat) (w : World) (hn : n < 18446744073709551616) (hk : k = 4 ∨ k = 8) :
    Calls Try.prog 75 #[.int .u64 n, .int .i64 k] w fun e w' => ∃ v, e = .returned v ∧ w'.ownsRow w.heap.size 5 1 v k (u8s (fixL k n)) ∧ Below w.heap.size w w' := by
  refine (callsIn_wide (n := 0)).1 ?_
  refine callsIn_of_wp_marks Try.func75 rfl trivial ?_ rfl
  simp only [Try.ntmps75, List.size_toArray, List.length_cons, List.length_nil, Nat.reduceAdd, Nat.reduceSub, Array.replicate_succ, Array.replicate_zero, List.push_toArray, List.append_toArray, List.nil_append, List.cons_append]
  obtain ⟨i0, hi, hz0, hz1, hz2⟩ := info_parts Try.info5
  have hk8 : k ≤ 8 := by omega
  have hk63 : k ≤ maxLen := by unfold maxLen; omega
  obtain ⟨w1, hrun, hown1, hgr1⟩ := run_make_own (P := Try.prog) w w.heap.size 24 5 i0 (.int .u8 0) 1 Try.underlying24 hi hz0 hz1 .i64 .i64 k (by rw [hz2]; omega) hk63 (Nat.le_refl _)
  have hbl1 : Below w.heap.size w w1 := (Below.refl _ w).grown hgr1 (Nat.le_refl _) (fun j ej => by cases ej)
  have hsz1 := hbl1.size
  have HO1 := Lib.hid hown1
  clear hown1 hgr1
  gi_wp2_with (gi_at_call 99; refine (callsIn_wide.2 (bytesOf_any n k _)).mono ?_; rintro e w' ⟨rfl, rfl⟩)
  clear hrun
  have hout := ((Boxed.new w1 24 (.slice (some ⟨w.heap.size, 0, none⟩) 0 k)).alloc (.cells #[.int .u64 n] 28)).alloc (.cells #[.int .i64 k] 3)
  have hbn : Boxed (((w1.alloc (.cells #[.slice (some ⟨w.heap.size, 0, none⟩) 0 k] 24)).alloc (.cells #[.int .u64 n] 28)).alloc (.cells #[.int .i64 k] 3)) (w1.heap.size + 1) 28 (.int .u64 n) := by
    have := Boxed.new (w1.alloc (.cells #[.slice (some ⟨w.heap.size, 0, none⟩) 0 k] 24)) 28 (.int .u64 n)
    rw [World.size_alloc] at this
    exact this.alloc _
  have hbk : Boxed (((w1.alloc (.cells #[.slice (some ⟨w.heap.size, 0, none⟩) 0 k] 24)).alloc (.cells #[.int .u64 n] 28)).alloc (.cells #[.int .i64 k] 3)) (w1.heap.size + 1 + 1) 3 (.int .i64 k) := by
    have := Boxed.new ((w1.alloc (.cells #[.slice (some ⟨w.heap.size, 0, none⟩) 0 k] 24)).alloc (.cells #[.int .u64 n] 28)) 3 (.int .i64 k)
    rw [World.size_alloc, World.size_alloc] at this
    exact this
  have hown4 := ((HO1.out.alloc (.cells #[.slice (some ⟨w.heap.size, 0, none⟩) 0 k] 24)).alloc (.cells #[.int .u64 n] 28)).alloc (.cells #[.int .i64 k] 3)
  have hb4 : Below w.heap.size w (((w1.alloc (.cells #[.slice (some ⟨w.heap.size, 0, none⟩) 0 k] 24)).alloc (.cells #[.int .u64 n] 28)).alloc (.cells #[.int .i64 k] 3)) := ((hbl1.alloc hsz1 _).alloc (by simp; omega) _).alloc (by simp; omega) _
  have hsz4 : (((w1.alloc (.cells #[.slice (some ⟨w.heap.size, 0, none⟩) 0 k] 24)).alloc (.cells #[.int .u64 n] 28)).alloc (.cells #[.int .i64 k] 3)).heap.size = w1.heap.size + 3 := by simp
  have hg1 := (HO1.out.lt w.heap.size rfl).2
  generalize (((w1.alloc (.cells #[.slice (some ⟨w.heap.size, 0, none⟩) 0 k] 24)).alloc (.cells #[.int .u64 n] 28)).alloc (.cells #[.int .i64 k] 3)) = w4 at *
  generalize hn1 : w1.heap.size = n1 at *
  clear hn1 hbl1
  refine wpIn_rf1 rfl (enters_of Try.func113 (by kernel_rfl) rfl) (bytesOf_iter n k w.heap.size (n1 + 1) (n1 + 1 + 1) w4 hn hk8 (by omega) (by omega) hbn hbk) (by omega) (by rintro j (rfl | rfl) <;> omega) (fun _ => rfl)
    (fun S pre W => ∃ v, Boxed W n1 24 v ∧ ¬ S n1 ∧ W.ownsRow w.heap.size 5 1 v pre.length (u8s pre) ∧ (∀ g, v.ownBlock = some g → ¬ S g) ∧ Below w.heap.size w W)
    (fun _ _ _ _ => False) (fun h => (h trivial).elim) ?hJ ?hJx ?h0 ?a1 ?assign ?body ?done ?stop
  case a1 =>
    exact fun x => { tmps := #[.int .u64 n, .int .i64 k, undef, undef, .slice none 0 0, .pointer (some ⟨n1, 0, none⟩), .int .u8 x, .int .i64 k, .slice (some ⟨w.heap.size, 0, none⟩) 0 k, .int .u64 n, .int .i64 k, .func (.func 113) #[] #[.pointer (some ⟨n1 + 1 + 1, 0, none⟩), .pointer (some ⟨n1 + 1, 0, none⟩)], .int .u8 x, undef, undef, undef, undef, undef], defers := [] }
  case hJ =>
    rintro S S' s W W' hS ⟨v, h1, h2, h3, h4, h5⟩ hs
    exact ⟨v, (hs.boxed h1 h2).1, (hs.boxed h1 h2).2, (hs.owns h3 h4).1, (hs.owns h3 h4).2, h5.trans hs.below⟩
  case hJx => intro c S S' s W W' _ h; exact h.elim
  case h0 => exact ⟨_, hout, by omega, hown4, by rintro g hg (rfl | rfl) <;> (simp [Value.ownBlock] at hg; omega), hb4⟩
  case assign =>
    intro l x W K hK
    dsimp only [encN]
    gi_wp2
    exact hK
  case body =>
    rintro l S pre x W hS hw hl _ ⟨v, h1, h2, h3, h4, h5⟩ hpre
    have hc := h1.cell
    have hpl : pre.length + 1 ≤ 10 := by
      have e1 := hpre.length_le; rw [fixL_len] at e1; simp at e1; omega
    have hW0 : w.heap.size ≤ W.heap.size := h5.size
    have HS := Lib.hid hS
    clear hS hpre hw hout hown4 hb4 hbn hbk
    gi_wp2_with (gi_at_builtin; go_must (refine wpListIn_push rfl _ _ 24 rfl w.heap.size 5 i0 (.int .u8 0) 1 1 Try.underlying24 hi hz0 hz1 hz2 rfl (by decide) _ _ _ rfl (h3.alloc _) ⟨W.heap.size, 0, none⟩ 1 1 [_] rfl rfl (cell_one_new _ _ _) (by simp [Value.oneCell']) (by unfold maxLen; omega) (by omega) (by simp; omega) ?_; intro v' w2 hown' hgrow hfr; obtain ⟨g', cap', rfl⟩ := ownsRow_succ hown'; obtain ⟨hv1, hv2, hr2, hk2, hn2⟩ := boxed_pushed h1 (by decide) h3 hW0 (Nat.le_refl _) hsz1 HS.out h2 h4 hown' hgrow hfr; have hc1 := hv1.cell; have hf1 := hv1.frozen))
    exact ⟨⟨_, hv2, h2, by simpa [u8s] using hr2, hn2, h5.trans hk2.below⟩, hk2⟩
  case done =>
    rintro D S W hD hS hSD ⟨v, h1, h2, h3, h4, h5⟩ hK
    have hc := h1.cell
    have HS := Lib.hid hS
    clear hS hout hown4 hb4 hbn hbk
    gi_wp2
    refine ⟨by simp, .inl ⟨_, _, rfl, run_takeDeferred hK, ?_⟩⟩
    rw [fixL_len] at h3
    exact ⟨_, results_tmp rfl _ _ _, v, rfl, ownsRow_putObj h3 _ hK rfl, h5.trans (below_putObj _ _ (by omega))⟩
  case stop =>
    rintro D c S pre W _ _ _ _ h _
    exact h.elim

set_option maxRecDepth 100000 in
theorem Fix32_any (n : Nat) (w : World) (hn : n < 4294967296) :
    Calls Try.prog 21 #[.int .u32 n] w fun e w' => ∃ v, e = .returned v ∧ w'.ownsRow w.heap.size 5 1 v 4 (u8s (fixL 4 n)) ∧ Below w.heap.size w w' := by
  go_enter Try.func21, Try.ntmps21
  go_wp2_with fail
  refine (fixed_any n 4 _ (by omega) (.inl rfl)).mono ?_
  rintro e w1 ⟨v, rfl, ho, hb⟩
  have HO := Lib.hid ho
  clear ho
  go_wp2
  go_ret
  exact ⟨_, rfl, HO.out, hb⟩

set_option maxRecDepth 100000 in
theorem Fix64_any (n : Nat) (w : World) (hn : n < 18446744073709551616) :
    Calls Try.prog 22 #[.int .u64 n] w fun e w' => ∃ v, e = .returned v ∧ w'.ownsRow w.heap.size 5 1 v 8 (u8s (fixL 8 n)) ∧ Below w.heap.size w w' := by
  go_enter Try.func22, Try.ntmps22
  go_wp2_with fail
  refine (fixed_any n 8 _ hn (.inr rfl)).mono ?_
  rintro e w1 ⟨v, rfl, ho, hb⟩
  have HO := Lib.hid ho
  clear ho
  go_wp2
  go_ret
  exact ⟨_, rfl, HO.out, hb⟩
end Go.Proofs.Ytigeedaihbpjiaa
