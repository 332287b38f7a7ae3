/-
  graph.Behind: contract.
-/
import Derived.Test.YtlpcagkknfajeaaPh
import Derived.Test.YtlpcagkknfajeaaMk
import Derived.Test.YtlpcagkknfajeaaSc
namespace Go.Proofs.Ytlpcagkknfajeaa
open Go.RowKit
attribute [local go_sem] Oper.semAt_some wide_fn wide_depth wide_fn' wide_depth'

/-- Those that come right behind one. -/
def behB (rows : List (List Int)) (i : Int) (a : Nat) : Bool := (depL rows.length (rows[a]?.getD [])).contains i
def behL (rows : List (List Int)) (i : Int) (k : Nat) : List Int := ((List.range k).filter (behB rows i)).map Int.ofNat
theorem behL_len (rows : List (List Int)) (i : Int) (k : Nat) : (behL rows i k).length ≤ k := by
  unfold behL
  rw [List.length_map]
  exact Nat.le_trans (List.length_filter_le _ _) (by simp)
theorem behL_yes {rows : List (List Int)} {i : Int} {k : Nat} (h : behB rows i k = true) : behL rows i (k + 1) = behL rows i k ++ [(k : Int)] := by
  unfold behL; rw [List.range_succ, List.filter_append]; simp [h]
theorem behL_no {rows : List (List Int)} {i : Int} {k : Nat} (h : behB rows i k = false) : behL rows i (k + 1) = behL rows i k := by
  unfold behL; rw [List.range_succ, List.filter_append]; simp [h]

set_option maxRecDepth 100000 in
set_option maxHeartbeats 1000000 in
theorem Behind_any (rows : List (List Int)) (i : Int) (v : Value) (w : World) (hr : Rows2 w v rows) (hlen : rows.length ≤ 1073741824) :
    Calls Try.prog 33 #[v, .int .i64 i] w fun e w' => ∃ v', e = .returned v' ∧ w'.ownsRow w.heap.size 3 1 v' (behL rows i rows.length).length (ints .i64 (behL rows i rows.length)) ∧ Below w.heap.size w w' := by
  obtain ⟨i0, hi, hz0, hz1, hz2⟩ := info_parts Try.info_i64g
  have HR := Lib.hid hr
  obtain ⟨a, cap, rfl⟩ := hr.form
  clear hr
  refine (callsIn_wide (n := 0)).1 ?_
  refine callsIn_of_wp_marks Try.func33 rfl trivial ?_ rfl
  simp only [Try.ntmps33, List.size_toArray, List.length_cons, List.length_nil, Nat.reduceAdd, Nat.reduceSub, Array.replicate_succ, Array.replicate_zero, List.push_toArray, List.append_toArray, List.nil_append, List.cons_append]
  gi_wp2
  have hb0 : Boxed ((w.alloc (Obj.cells #[Value.int IntKind.i64 i] 3)).alloc (Obj.cells #[Value.slice none 0 0] 46)) w.heap.size 3 (.int .i64 i) := (Boxed.new w _ _).alloc _
  have hb1 : Boxed ((w.alloc (Obj.cells #[Value.int IntKind.i64 i] 3)).alloc (Obj.cells #[Value.slice none 0 0] 46)) (w.heap.size + 1) 46 (.slice none 0 0) := by
    have := Boxed.new (w.alloc (Obj.cells #[Value.int IntKind.i64 i] 3)) 46 (.slice none 0 0)
    rw [World.size_alloc] at this
    exact this
  have hbl : Below w.heap.size w ((w.alloc (Obj.cells #[Value.int IntKind.i64 i] 3)).alloc (Obj.cells #[Value.slice none 0 0] 46)) := (((Below.refl _ w).alloc (Nat.le_refl _) _).alloc (by simp) _)
  generalize ((w.alloc (Obj.cells #[Value.int IntKind.i64 i] 3)).alloc (Obj.cells #[Value.slice none 0 0] 46)) = w2 at *
  refine wpIn_loop_marks [] [6, 7, 10, 11, 12, 13, 14, 15, 16, 17, 18, 19, 20, 21, 22, 23, 24] (fun gk u Ds wr => ∃ k : Nat, k + gk = rows.length + 1 ∧ k ≤ rows.length ∧ u 10 = .int .i64 k ∧ Boxed wr w.heap.size 3 (.int .i64 i) ∧ (∃ vo, Boxed wr (w.heap.size + 1) 46 vo ∧ wr.ownsRow (w.heap.size + 1) 3 1 vo (behL rows i k).length (ints .i64 (behL rows i k))) ∧ Marks Ds wr ∧ (∀ D ∈ Ds, w.heap.size ≤ D) ∧ Below w.heap.size w wr) (rows.length + 1) ?h0 ?round
  case h0 => exact ⟨0, by omega, by omega, rfl, hb0, ⟨_, hb1, by simpa [behL, ints] using World.ownsRow_nil w2 (w.heap.size + 1) 3 1⟩, .nil _, (by simp), hbl⟩
  case round =>
    rintro gk u Ds wr ⟨k, hkg, hk, hu, hb0, ⟨vo, hb1, hown⟩, hmk, hDs, hbl⟩ K hK
    obtain rfl : gk = rows.length + 1 - k := by omega
    have HK := Lib.hid hK
    clear hK
    simp only [over, List.foldl_cons, List.foldl_nil, List.set_cons_zero, List.set_cons_succ]
    rw [hu]
    by_cases hlt : k < rows.length
    · have hlt' : (k : Int) < rows.length := by omega
      gi_wp2_with (gi_at_call 36; refine (callsIn_wide.2 (has_any _ ⟨_, _, _, rfl⟩ k _)).mono ?_; rintro e w1 ⟨rfl, rfl⟩)
      have e0 : Boxed ((((wr.alloc (Obj.cells #[Value.int IntKind.i64 k] 3)).alloc (Obj.cells #[Value.slice a rows.length cap] 41)).alloc (Obj.cells #[Value.int IntKind.i64 k] 3))) wr.heap.size 3 (.int .i64 k) := ((Boxed.new wr _ _).alloc _).alloc _
      have e1 : Boxed ((((wr.alloc (Obj.cells #[Value.int IntKind.i64 k] 3)).alloc (Obj.cells #[Value.slice a rows.length cap] 41)).alloc (Obj.cells #[Value.int IntKind.i64 k] 3))) (wr.heap.size + 1) 41 (.slice a rows.length cap) := by
        have := Boxed.new (wr.alloc (Obj.cells #[Value.int IntKind.i64 k] 3)) 41 (.slice a rows.length cap)
        rw [World.size_alloc] at this
        exact this.alloc _
      have e2 : Boxed ((((wr.alloc (Obj.cells #[Value.int IntKind.i64 k] 3)).alloc (Obj.cells #[Value.slice a rows.length cap] 41)).alloc (Obj.cells #[Value.int IntKind.i64 k] 3))) (wr.heap.size + 1 + 1) 3 (.int .i64 k) := by
        have := Boxed.new ((wr.alloc (Obj.cells #[Value.int IntKind.i64 k] 3)).alloc (Obj.cells #[Value.slice a rows.length cap] 41)) 3 (.int .i64 k)
        rw [World.size_alloc, World.size_alloc] at this
        exact this
      have hsz4 : ((((wr.alloc (Obj.cells #[Value.int IntKind.i64 k] 3)).alloc (Obj.cells #[Value.slice a rows.length cap] 41)).alloc (Obj.cells #[Value.int IntKind.i64 k] 3))).heap.size = wr.heap.size + 3 := by simp
      have hb4 : Below wr.heap.size wr ((((wr.alloc (Obj.cells #[Value.int IntKind.i64 k] 3)).alloc (Obj.cells #[Value.slice a rows.length cap] 41)).alloc (Obj.cells #[Value.int IntKind.i64 k] 3))) := ((((Below.refl _ wr).alloc (Nat.le_refl _) _).alloc (by simp) _).alloc (by simp; omega) _)
      generalize ((((wr.alloc (Obj.cells #[Value.int IntKind.i64 k] 3)).alloc (Obj.cells #[Value.slice a rows.length cap] 41)).alloc (Obj.cells #[Value.int IntKind.i64 k] 3))) = w4 at *
      have hwr := hb0.lt
      have hwr1 := hb1.lt
      have g0 : Boxed w4 w.heap.size 3 (.int .i64 i) := (hb4.block _ hwr).trans hb0
      have g1 : Boxed w4 (w.heap.size + 1) 46 vo := (hb4.block _ hwr1).trans hb1
      have gown := ownsB hown hb4
      have gmk := hmk.below hb4
      have gbl : Below w.heap.size w w4 := hbl.trans (hb4.mono (by omega))
      have hDlt := hmk.lt
      have hvolt : ∀ g, vo.ownBlock = some g → g < wr.heap.size := fun g hg => (hown.lt g hg).2
      clear hb0 hb1 hown hb4
      generalize wr.heap.size = p at *
      clear hmk hbl
      refine' wpIn_rf1 rfl (enters_of Try.func46 (by kernel_rfl) rfl) (has_iter rows k w.heap.size (p + 1) (p + 1 + 1) a cap w w4 hlt (by omega) (by omega) (by omega) e1 e2 HR.out gbl (Nat.le_refl _)) (by omega) (by rintro j (rfl | rfl) <;> omega) (fun _ => rfl)
        (fun S pre W => pre.contains i = false ∧ Boxed W w.heap.size 3 (.int .i64 i) ∧ ¬ S w.heap.size ∧ Boxed W (w.heap.size + 1) 46 vo ∧ ¬ S (w.heap.size + 1) ∧ W.ownsRow (w.heap.size + 1) 3 1 vo (behL rows i k).length (ints .i64 (behL rows i k)) ∧ (∀ g, vo.ownBlock = some g → ¬ S g) ∧ Boxed W p 3 (.int .i64 k) ∧ ¬ S p ∧ Marks Ds W ∧ (∀ D ∈ Ds, ¬ S D) ∧ Below w.heap.size w W)
        (fun c S pre W => c = .exit 2 ∧ behB rows i k = true ∧ Boxed W w.heap.size 3 (.int .i64 i) ∧ ¬ S w.heap.size ∧ ∃ v', Boxed W (w.heap.size + 1) 46 v' ∧ ¬ S (w.heap.size + 1) ∧ W.ownsRow (w.heap.size + 1) 3 1 v' (behL rows i (k + 1)).length (ints .i64 (behL rows i (k + 1))) ∧ (∀ g, v'.ownBlock = some g → ¬ S g) ∧ Marks Ds W ∧ (∀ D ∈ Ds, ¬ S D) ∧ Below w.heap.size w W) ?hfin ?hJ ?hJx ?h0 _ ?assign ?body ?done ?stop
      case assign =>
        intro l x W K hK
        dsimp only [encZ]
        gi_wp2
        exact hK
      case hfin => exact fun h => absurd trivial h
      case hJ =>
        rintro S S' s W W' hS ⟨h0, h1, h2, h3, h4, h5, h6, h7, h8, h9, h10, h11⟩ hs
        exact ⟨h0, (hs.boxed h1 h2).1, (hs.boxed h1 h2).2, (hs.boxed h3 h4).1, (hs.boxed h3 h4).2, (hs.owns h5 h6).1, (hs.owns h5 h6).2, (hs.boxed h7 h8).1, (hs.boxed h7 h8).2, (hs.marks h9 h10).1, (hs.marks h9 h10).2, h11.trans hs.below⟩
      case hJx =>
        rintro c S S' s W W' hS ⟨h0, h00, h1, h2, v', h3, h4, h5, h6, h9, h10, h11⟩ hs
        exact ⟨h0, h00, (hs.boxed h1 h2).1, (hs.boxed h1 h2).2, v', (hs.boxed h3 h4).1, (hs.boxed h3 h4).2, (hs.owns h5 h6).1, (hs.owns h5 h6).2, (hs.marks h9 h10).1, (hs.marks h9 h10).2, h11.trans hs.below⟩
      case h0 => exact ⟨rfl, g0, by omega, g1, by omega, gown, (fun g hg => by have := hvolt g hg; omega), e0, by omega, gmk, (fun D hD => by have := hDlt D hD; omega), gbl⟩
      case body =>
        rintro l S pre x W hS hw hl _ ⟨h0, h1, h2, h3, h4, h5, h6, h7, h8, h9, h10, h11⟩ hpre
        have hmem : x ∈ depL rows.length rows[k] := hpre.subset (by simp)
        have HS := Lib.hid hS
        have q0 := h1.cell
        have q1 := h3.cell
        have q2 := h7.cell
        have hpW := h7.lt
        obtain ⟨va, vc, rfl⟩ := (RdS.of_owns h5).form
        by_cases hxi : x = i
        · have hd : (x == i) = true := by simpa using hxi
          have hy : behB rows i k = true := by
            unfold behB; rw [List.getElem?_eq_getElem hlt, Option.getD_some, ← hxi]; simpa using hmem
          have HL := Lib.hid (behL_yes hy)
          have hlk := behL_len rows i k
          clear hS hpre hmem hxi
          gi_wp2_with (gi_at_builtin; go_must (refine wpListIn_push rfl _ _ 46 rfl (w.heap.size + 1) 3 i0 (.int .i64 0) 1 8 Try.underlying46 hi hz0 hz1 hz2 rfl (by decide) _ _ _ rfl (h5.alloc _) ⟨W.heap.size, 0, none⟩ 1 1 [_] rfl rfl (cell_one_new _ _ _) (by simp [Value.oneCell']) (by unfold maxLen; omega) (by omega) (by simp; omega) ?_; intro v' w2 hown' hgrow hfr; obtain ⟨g', cap', rfl⟩ := ownsRow_succ hown'; obtain ⟨hv1, hv2, hr2, hk2, hn2⟩ := boxed_pushed (S := S) h3 (by decide) h5 (by omega) (Nat.le_succ _) (Nat.le_succ _) HS.out h4 h6 hown' hgrow hfr; have hc1 := hv1.cell; have hf1 := hv1.frozen))
          exact ⟨⟨rfl, hy, pushed_other hgrow h1 (by omega) (own_ne h5 (by omega)), h2, _, hv2, h4, by rw [HL.out]; simpa [ints] using hr2, hn2, (h9.grown h5 _ hgrow).setCell hv1 _, h10, h11.trans hk2.below⟩, hk2⟩
        · have hd : (x == i) = false := by simpa using hxi
          have hne : (pre ++ [x]).contains i = false := by
            rw [Bool.eq_false_iff]; intro hc
            simp at hc h0
            rcases hc with hc | hc
            · exact h0 hc
            · exact hxi hc.symm
          clear hS hpre hmem hxi
          gi_wp2
          exact ⟨⟨hne, h1, h2, h3, h4, h5, h6, h7, h8, h9, h10, h11⟩, Keep.refl _ _ _⟩
      case done =>
        rintro D S W hD hS hSD ⟨h0, h1, h2, h3, h4, h5, h6, h7, h8, h9, h10, h11⟩ hKD
        have HN := Lib.hid (behL_no (rows := rows) (i := i) (k := k) (by unfold behB; rw [List.getElem?_eq_getElem hlt, Option.getD_some]; exact h0))
        clear hS
        gi_wp2
        refine HK.out (rows.length + 1 - (k + 1)) _ (D :: Ds) _ (by omega) (by simp only [over, List.foldl_cons, List.foldl_nil, List.set_cons_zero, List.set_cons_succ, List.getElem?_cons_zero, List.getElem?_cons_succ, Option.getD_some]) ⟨k + 1, by omega, by omega, by go_num, h1, ⟨vo, h3, by rw [HN.out]; exact h5⟩, h9.cons hKD (fun d hd => by have := hDlt d hd; exact Nat.lt_of_lt_of_le this (show p ≤ w4.heap.size by omega)) hD, (fun d hd => by
          rcases List.mem_cons.1 hd with rfl | hd
          · omega
          · exact hDs d hd), h11⟩
      case stop =>
        rintro D c S pre W hD hS hSD hpre ⟨rfl, h00, h1, h2, v', h3, h4, h5, h6, h9, h10, h11⟩ hKD
        have q1 := h3.cell
        clear hS
        gi_wp2
        refine HK.out (rows.length + 1 - (k + 1)) _ (D :: Ds) _ (by omega) (by simp only [over, List.foldl_cons, List.foldl_nil, List.set_cons_zero, List.set_cons_succ, List.getElem?_cons_zero, List.getElem?_cons_succ, Option.getD_some]) ⟨k + 1, by omega, by omega, by go_num, h1, ⟨v', h3, h5⟩, h9.cons hKD (fun d hd => by have := hDlt d hd; exact Nat.lt_of_lt_of_le this (show p ≤ w4.heap.size by omega)) hD, (fun d hd => by
          rcases List.mem_cons.1 hd with rfl | hd
          · omega
          · exact hDs d hd), h11⟩
    · have hkl : k = rows.length := by omega
      subst hkl
      have hc1 := hb1.cell
      gi_wp2
      refine leaves_marks (n0 := w.heap.size) Ds wr hmk hDs fun W' hT => ?_
      exact ⟨_, results_tmp rfl _ _ _, _, rfl, ownsRow_mono (hT.owns hown) (by omega), hbl.trans hT.below⟩
end Go.Proofs.Ytlpcagkknfajeaa
