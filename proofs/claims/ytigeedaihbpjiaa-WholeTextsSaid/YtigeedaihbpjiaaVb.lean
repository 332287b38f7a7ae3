/-
  varint: Put.
-/
import Derived.Test.YtigeedaihbpjiaaVa
import Derived.Test.YtigeedaihbpjiaaSl
import Derived.Deep.DeepMust
namespace Go.Proofs.Ytigeedaihbpjiaa
open Go.RowKit
attribute [local go_sem] Oper.semAt_some wide_fn wide_depth wide_fn' wide_depth'

theorem Try.info5 : (Try.prog.info? 5).map (fun i => (i.zero, i.size, i.bytes)) = some (some (.int .u8 0), 1, 1) := by kernel_rfl

set_option maxRecDepth 100000 in
set_option maxHeartbeats 400000 in
theorem Put_any (n : Nat) (w : World) (hn : n < 18446744073709551616) :
    Calls Try.prog 44 #[.int .u64 n] w fun e w' => ∃ v, e = .returned v ∧ w'.ownsRow w.heap.size 5 1 v (putL 9 n).length (u8s (putL 9 n)) ∧ Below w.heap.size w w' := by
  have HP := Lib.hid (sevL_put 9 n (by omega))
  have HQ := Lib.hid (sevL_len' 9 n)
  refine (callsIn_wide (n := 0)).1 ?_
  refine callsIn_of_wp_marks Try.func44 rfl trivial ?_ rfl
  simp only [Try.ntmps44, List.size_toArray, List.length_cons, List.length_nil, Nat.reduceAdd, Nat.reduceSub, Array.replicate_succ, Array.replicate_zero, List.push_toArray, List.append_toArray, List.nil_append, List.cons_append]
  obtain ⟨i0, hi, hz0, hz1, hz2⟩ := info_parts Try.info5
  gi_wp2_with (gi_at_call 82; refine (callsIn_wide.2 (sevens_any _ _)).mono ?_; rintro e w' ⟨rfl, rfl⟩)
  refine wpIn_rf1 rfl (enters_of Try.func103 (by kernel_rfl) rfl) (sevens_iter n w.heap.size (w.heap.size + 1) _ hn (by omega) (by have := Boxed.new (w.alloc (.cells #[Value.slice none 0 0] 24)) 28 (.int .u64 n); simpa using this)) (by simp; omega) (by rintro k rfl; simp) (fun _ => rfl)
    (fun S pre W => ∃ v, Boxed W w.heap.size 24 v ∧ ¬ S w.heap.size ∧ W.ownsRow w.heap.size 5 1 v pre.length (pre.map putB) ∧ (∀ g, v.ownBlock = some g → ¬ S g) ∧ Below w.heap.size w W)
    (fun _ _ _ _ => False) (fun h => (h trivial).elim) ?hJ ?hJx ?h0 ?a1 ?assign ?body ?done ?stop
  case a1 =>
    exact fun x => { tmps := #[.int .u64 n, undef, .slice none 0 0, .pointer (some ⟨w.heap.size, 0, none⟩), .int .u8 x.1, .bool x.2, .int .u64 n, .func (.func 103) #[] #[.pointer (some ⟨w.heap.size + 1, 0, none⟩)], .int .u8 x.1, .bool x.2, undef, undef, undef, undef, undef, undef, undef, undef], defers := [] }
  case hJ =>
    rintro S S' s W W' hS ⟨v, h1, h2, h3, h4, h5⟩ hs
    exact ⟨v, (hs.boxed h1 h2).1, (hs.boxed h1 h2).2, (hs.owns h3 h4).1, (hs.owns h3 h4).2, h5.trans hs.below⟩
  case hJx => intro c S S' s W W' _ h; exact h.elim
  case h0 =>
    refine ⟨.slice none 0 0, (Boxed.new w _ _).alloc _, by omega, World.ownsRow_nil _ _ _ _, by simp [Value.ownBlock], ((Below.refl _ w).alloc (Nat.le_refl _) _).alloc (by simp) _⟩
  case assign =>
    intro l x W K hK
    dsimp only [encBB]
    gi_wp2
    exact hK
  case body =>
    rintro l S pre x W hS hw hl _ ⟨v, h1, h2, h3, h4, h5⟩ hpre
    have hc := h1.cell
    have hpl : pre.length + 1 ≤ 10 := by
      have e1 := hpre.length_le; have e2 := sevL_len 9 n; simp at e1; omega
    have hW0 : w.heap.size ≤ W.heap.size := h5.size
    obtain ⟨b, go⟩ := x
    have HS := Lib.hid hS
    clear hS hpre hw
    cases go
    all_goals
      gi_wp2_with (gi_at_builtin; go_must (refine wpListIn_push rfl _ _ 24 rfl w.heap.size 5 i0 (.int .u8 0) 1 1 Try.underlying24 hi hz0 hz1 hz2 rfl (by decide) _ _ _ rfl (h3.alloc _) ⟨W.heap.size, 0, none⟩ 1 1 [_] rfl rfl (cell_one_new _ _ _) (by simp [Value.oneCell']) (by unfold maxLen; omega) (by omega) (by simp; omega) ?_; intro v' w1 hown' hgrow hfr; obtain ⟨g', cap', rfl⟩ := ownsRow_succ hown'; obtain ⟨hv1, hv2, hr2, hk2, hn2⟩ := boxed_pushed h1 (by decide) h3 hW0 (Nat.le_refl _) (Nat.le_refl _) HS.out h2 h4 hown' hgrow hfr; have hc1 := hv1.cell; have hf1 := hv1.frozen))
      exact ⟨⟨_, hv2, h2, by simpa [putB] using hr2, hn2, h5.trans hk2.below⟩, hk2⟩
  case done =>
    rintro D S W hD hS hSD ⟨v, h1, h2, h3, h4, h5⟩ hK
    have hc := h1.cell
    have HS := Lib.hid hS
    clear hS
    gi_wp2
    refine ⟨by simp, .inl ⟨_, _, rfl, run_takeDeferred hK, ?_⟩⟩
    rw [HP.out, HQ.out] at h3
    exact ⟨_, results_tmp rfl _ _ _, v, rfl, ownsRow_putObj h3 _ hK rfl, h5.trans (below_putObj _ _ (by simp at hD; omega))⟩
  case stop =>
    rintro D c S pre W _ _ _ _ h _
    exact h.elim
end Go.Proofs.Ytigeedaihbpjiaa
