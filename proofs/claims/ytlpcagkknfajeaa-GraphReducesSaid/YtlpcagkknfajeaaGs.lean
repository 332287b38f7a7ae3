/-
  graph.once, the reference's among: contracts.
-/
import Derived.Test.YtlpcagkknfajeaaMr
import Derived.Test.YtlpcagkknfajeaaPj
namespace Go.Proofs.Ytlpcagkknfajeaa
open Go.RowKit
attribute [local go_sem] Oper.semAt_some wide_fn wide_depth wide_fn' wide_depth'

theorem onceF_yes {pre : List Int} {x : Int} (h : x ∈ onceF pre) : onceF (pre ++ [x]) = onceF pre := by
  rw [onceF_snoc]; unfold onceStep; rw [if_pos (by simpa using h)]
theorem onceF_no {pre : List Int} {x : Int} (h : ¬ x ∈ onceF pre) : onceF (pre ++ [x]) = onceF pre ++ [x] := by
  rw [onceF_snoc]; unfold onceStep; rw [if_neg (by simpa using h)]

set_option maxRecDepth 100000 in
set_option maxHeartbeats 1000000 in
theorem once_any (rows : List (List Int)) (k : Nat) (v : Value) (w : World) (hr : Rows2 w v rows) (hlt : k < rows.length) (hsz : (rows[k]).length ≤ 1073741824) :
    Calls Try.prog 38 #[v, .int .i64 k] w fun e w' => ∃ v', e = .returned v' ∧ w'.ownsRow w.heap.size 3 1 v' (ownL rows k).length (ints .i64 (ownL rows k)) ∧ Below w.heap.size w w' := by
  obtain ⟨i0, hi, hz0, hz1, hz2⟩ := info_parts Try.info_i64g
  have HR := Lib.hid hr
  have hlen : rows.length ≤ 9223372036854775807 := by obtain ⟨_, h1, _⟩ := hr; exact rds_len h1
  obtain ⟨a, cap, rfl⟩ := hr.form
  clear hr
  refine (callsIn_wide (n := 0)).1 ?_
  refine callsIn_of_wp_marks Try.func38 rfl trivial ?_ rfl
  simp only [Try.ntmps38, List.size_toArray, List.length_cons, List.length_nil, Nat.reduceAdd, Nat.reduceSub, Array.replicate_succ, Array.replicate_zero, List.push_toArray, List.append_toArray, List.nil_append, List.cons_append]
  gi_wp2_with (gi_at_call 36; refine (callsIn_wide.2 (has_any _ ⟨_, _, _, rfl⟩ k _)).mono ?_; rintro e w1 ⟨rfl, rfl⟩)
  have e0 : Boxed (((w.alloc (Obj.cells #[Value.slice none 0 0] 46)).alloc (Obj.cells #[Value.slice a rows.length cap] 41)).alloc (Obj.cells #[Value.int IntKind.i64 k] 3)) w.heap.size 46 (.slice none 0 0) := ((Boxed.new w _ _).alloc _).alloc _
  have e1 : Boxed (((w.alloc (Obj.cells #[Value.slice none 0 0] 46)).alloc (Obj.cells #[Value.slice a rows.length cap] 41)).alloc (Obj.cells #[Value.int IntKind.i64 k] 3)) (w.heap.size + 1) 41 (.slice a rows.length cap) := by
    have := Boxed.new (w.alloc (Obj.cells #[Value.slice none 0 0] 46)) 41 (.slice a rows.length cap)
    rw [World.size_alloc] at this
    exact this.alloc _
  have e2 : Boxed (((w.alloc (Obj.cells #[Value.slice none 0 0] 46)).alloc (Obj.cells #[Value.slice a rows.length cap] 41)).alloc (Obj.cells #[Value.int IntKind.i64 k] 3)) (w.heap.size + 1 + 1) 3 (.int .i64 k) := by
    have := Boxed.new ((w.alloc (Obj.cells #[Value.slice none 0 0] 46)).alloc (Obj.cells #[Value.slice a rows.length cap] 41)) 3 (.int .i64 k)
    rw [World.size_alloc, World.size_alloc] at this
    exact this
  have hsz4 : (((w.alloc (Obj.cells #[Value.slice none 0 0] 46)).alloc (Obj.cells #[Value.slice a rows.length cap] 41)).alloc (Obj.cells #[Value.int IntKind.i64 k] 3)).heap.size = w.heap.size + 3 := by simp
  have gbl : Below w.heap.size w (((w.alloc (Obj.cells #[Value.slice none 0 0] 46)).alloc (Obj.cells #[Value.slice a rows.length cap] 41)).alloc (Obj.cells #[Value.int IntKind.i64 k] 3)) := ((((Below.refl _ w).alloc (Nat.le_refl _) _).alloc (by simp) _).alloc (by simp; omega) _)
  generalize (((w.alloc (Obj.cells #[Value.slice none 0 0] 46)).alloc (Obj.cells #[Value.slice a rows.length cap] 41)).alloc (Obj.cells #[Value.int IntKind.i64 k] 3)) = w4 at *
  have hdl : (depL rows.length rows[k]).length ≤ (rows[k]).length := by unfold depL; exact List.length_filter_le _ _
  have HOW : Hid (ownL rows k = onceF (depL rows.length rows[k])) := Lib.hid (by unfold ownL; simp [hlt])
  refine' wpIn_rf1 rfl (enters_of Try.func46 (by kernel_rfl) rfl) (has_iter rows k w.heap.size (w.heap.size + 1) (w.heap.size + 1 + 1) a cap w w4 hlt (by omega) (by omega) (by omega) e1 e2 HR.out gbl (Nat.le_refl _)) (by omega) (by rintro j (rfl | rfl) <;> omega) (fun _ => rfl)
    (fun S pre W => ∃ vo, Boxed W w.heap.size 46 vo ∧ ¬ S w.heap.size ∧ W.ownsRow (w.heap.size + 1) 3 1 vo (onceF pre).length (ints .i64 (onceF pre)) ∧ (∀ g, vo.ownBlock = some g → ¬ S g) ∧ Below w.heap.size w W)
    (fun c S pre W => False) ?hfin ?hJ ?hJx ?h0 _ ?assign ?body ?done ?stop
  case assign =>
    intro l x W K hK
    dsimp only [encZ]
    gi_wp2
    exact hK
  case hfin => exact fun h => absurd trivial h
  case hJ =>
    rintro S S' s W W' hS ⟨vo, h1, h2, h3, h4, h5⟩ hs
    exact ⟨vo, (hs.boxed h1 h2).1, (hs.boxed h1 h2).2, (hs.owns h3 h4).1, (hs.owns h3 h4).2, h5.trans hs.below⟩
  case hJx => exact fun _ _ _ _ _ _ _ h _ => h
  case h0 => exact ⟨_, e0, by omega, by simpa [onceF, ints] using World.ownsRow_nil w4 (w.heap.size + 1) 3 1, by simp [Value.ownBlock], gbl⟩
  case stop => exact fun _ _ _ _ _ _ _ _ _ h _ => h.elim
  case done =>
    rintro D S W hD hS hSD ⟨vo, h1, h2, h3, h4, h5⟩ hKD
    have q1 := h1.cell
    clear hS
    gi_wp2
    refine ⟨by simp, .inl ⟨_, _, rfl, run_takeDeferred hKD, ?_⟩⟩
    rw [HOW.out]
    exact ⟨_, results_tmp rfl _ _ _, _, rfl, ownsRow_mono (ownsRow_putObj h3 _ hKD rfl) (by omega), h5.trans (below_putObj _ _ (by omega))⟩
  case body =>
    rintro l S pre x W hS hw hl _ ⟨vo, h1, h2, h3, h4, h5⟩ hpre
    have hpl : (pre ++ [x]).length ≤ (depL rows.length rows[k]).length := hpre.length_le
    rw [List.length_append, List.length_singleton] at hpl
    have hol := onceF_len pre
    have HS := Lib.hid hS
    have q1 := h1.cell
    have hpW := h1.lt
    have HC := Lib.hid (Contains_any (onceF pre) x vo W (RdS.of_owns h3))
    have HY := Lib.hid (onceF_yes (pre := pre) (x := x))
    have HN := Lib.hid (onceF_no (pre := pre) (x := x))
    obtain ⟨va, vc, rfl⟩ := (RdS.of_owns h3).form
    clear hS hpre
    by_cases hx : x ∈ onceF pre
    · have hd : decide (x ∈ onceF pre) = true := by simpa using hx
      rw [hd] at HC
      have HE := Lib.hid (HY.out hx)
      clear HY HN hd hx
      gi_wp2_with (gi_at_call 39; refine ((callsIn_wide.2 HC.out).inRound l).mono ?_; rintro e w7 ⟨rfl, rfl⟩)
      exact ⟨⟨_, h1, h2, by rw [HE.out]; exact h3, h4, h5⟩, Keep.refl _ _ _⟩
    · have hd : decide (x ∈ onceF pre) = false := by simpa using hx
      rw [hd] at HC
      have HE := Lib.hid (HN.out hx)
      clear HY HN hd hx
      gi_wp2_with (first
        | (gi_at_call 39; refine ((callsIn_wide.2 HC.out).inRound l).mono ?_; rintro e w7 ⟨rfl, rfl⟩)
        | (gi_at_builtin; go_must (refine wpListIn_push rfl _ _ 46 rfl (w.heap.size + 1) 3 i0 (.int .i64 0) 1 8 Try.underlying46 hi hz0 hz1 hz2 rfl (by decide) _ _ _ rfl (h3.alloc _) ⟨W.heap.size, 0, none⟩ 1 1 [_] rfl rfl (cell_one_new _ _ _) (by simp [Value.oneCell']) (by unfold maxLen; omega) (by omega) (by simp; omega) ?_; intro v' w2 hown' hgrow hfr; obtain ⟨g', cap', rfl⟩ := ownsRow_succ hown'; obtain ⟨hv1, hv2, hr2, hk2, hn2⟩ := boxed_pushed (S := S) h1 (by decide) h3 (by omega) (Nat.le_succ _) (Nat.le_refl _) HS.out h2 h4 hown' hgrow hfr; have hc1 := hv1.cell; have hf1 := hv1.frozen)))
      exact ⟨⟨_, hv2, h2, by rw [HE.out]; simpa [ints] using hr2, hn2, h5.trans hk2.below⟩, hk2⟩

set_option maxRecDepth 100000 in
theorem among_any (l : List Int) (z : Int) (v : Value) (w : World) (hr : RdS w v 1 l.length (ints .i64 l)) :
    Calls Try.prog 40 #[v, .int .i64 z] w fun e w' => e = .returned (.bool (hasB l z)) ∧ w = w' := by
  have HR := Lib.hid hr
  have hlen := rds_len hr
  obtain ⟨a, cap, rfl⟩ := hr.form
  clear hr
  go_enter Try.func40, Try.ntmps40
  go_wp2
  go_loop [5] (fun i => ∃ k : Nat, k ≤ l.length ∧ i = .int .i64 k ∧ Hid (hasB (l.take k) z = false)) (fun i => l.length - (intOf i).toNat)
  case atStart => exact ⟨0, by omega, rfl, Lib.hid (by simp [hasB])⟩
  case round =>
    obtain ⟨k, hk, rfl, HA⟩ := hrel
    by_cases hlt : k < l.length
    · obtain ⟨g, off, rfl, h1, h2, hcell⟩ := ints_at HR.out hlt
      have HT := Lib.hid (take_snocG l k hlt)
      have HM := Lib.hid (List.getElem_mem hlt)
      generalize l[k] = x at *
      have hlt' : (k : Int) < l.length := by omega
      by_cases hx : x = z
      · have hd : (x == z) = true := by simpa using hx
        have HY : Hid (hasB l z = true) := Lib.hid (by unfold hasB; rw [← hx]; simpa using HM.out)
        clear hx
        go_wp2
        go_ret
        exact ⟨by rw [HY.out]; rfl, rfl⟩
      · have hd : (x == z) = false := by simpa using hx
        have HY : Hid (hasB (l.take (k + 1)) z = false) := Lib.hid (by
          have := HA.out
          unfold hasB at this ⊢
          rw [HT.out, Bool.eq_false_iff]
          intro hc
          simp at hc this
          rcases hc with h | h
          · exact this h
          · exact hx h.symm)
        clear hx
        go_wp2
        go_round
        case rel => exact ⟨k + 1, by omega, by go_num, HY⟩
        case measure => simp [intOf]; omega
    · have HE : Hid (hasB l z = false) := Lib.hid (by have := HA.out; rwa [List.take_of_length_le (by omega)] at this)
      go_wp2
      go_ret
      exact ⟨by rw [HE.out]; rfl, rfl⟩
end Go.Proofs.Ytlpcagkknfajeaa
