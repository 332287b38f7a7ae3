/-
  graph.Longest: contract.
-/
import Derived.Laws.Small
import Derived.Test.YtkgcpbhlbfjcoaaBq5
import Derived.Test.YtkgcpbhlbfjcoaaBq16
namespace Go.Proofs.Ytkgcpbhlbfjcoaa
open Go.RowKit
attribute [local go_sem] Oper.semAt_some wide_fn wide_depth wide_fn' wide_depth'

theorem madeZero (n : Nat) : madeCells #[Value.int .i64 0] n = (natI (List.replicate n 0)).toArray := by
  apply Array.ext
  · simp [madeCells, natI]
  · intro i h1 h2
    simp [madeCells, natI, Nat.mod_one]
theorem make_ints (n : Nat) (w : World) (h : n ≤ 1073741824) : (Instr.makeSlice 49 (.int .i64 n) (.int .i64 n)).run Try.prog w = .ok (.slice (some ⟨w.heap.size, 0, none⟩) n n) (w.alloc (.cells (natI (List.replicate n 0)).toArray 3)) := by
  obtain ⟨i0, hi, hz0, hz1, hz2⟩ := info_parts Try.info_i64g
  have := run_make (P := Try.prog) w 49 3 i0 (.int .i64 0) Try.underlying49 hi hz0 .i64 .i64 n n (by omega) (by omega) (by rw [hz2]; omega) (by omega)
  rw [this, hz1]
  simp only [Int.toNat_natCast, Nat.mul_one]
  rw [show (Value.int .i64 0).cells = #[.int .i64 0] from rfl, madeZero]
theorem gmax2 {P : Program} (ts : Array TypeId) (t : TypeId) (x y : Nat) (w : World) : (Builtin.max_ ts t #[.int .i64 (x : Int), .int .i64 (y : Int)]).run P w = .ok (.int .i64 ((max x y : Nat) : Int)) w := by
  have := run_max_int2 (P := P) (w := w) ts t .i64 .i64 x y
  rw [this]; congr 2; omega

theorem ordO_len (rows : List (List Int)) : (ordO rows).length ≤ rows.length := by
  obtain ⟨th, h, _⟩ := ordO_facts rows
  rw [h.cnt, ← h.len]; exact List.count_le_length
theorem set_same {l : List Nat} {i : Nat} (h : l[i]?.getD 0 = 0) : l.set i 0 = l := by
  apply List.ext_getElem?
  intro j
  rw [List.getElem?_set]
  by_cases hij : i = j
  · subst hij
    by_cases hl : i < l.length
    · simp [hl] at h ⊢; exact h.symm
    · simp [hl]
  · simp [hij]
theorem dmax_next {deep : List Nat} {x y : Nat} {pre : List Int} (hz : deep[x]?.getD 0 = 0) (hx : x < deep.length) : max (dmax deep pre) ((deep.set x (dmax deep pre))[y]?.getD 0) = dmax deep (pre ++ [(y : Int)]) := by
  rw [dmax_snoc, Int.toNat_natCast]
  by_cases hxy : x = y
  · subst hxy
    rw [hz, List.getElem?_set_self hx]; simp
  · rw [List.getElem?_set_ne hxy]

theorem nat_cell {W : World} {g : Nat} {l : List Nat} {fr : Nat × Nat} (h : W.heap[g]? = some (.cells (natI l).toArray 3 fr)) {i : Nat} (hi : i < l.length) : W.cell? ⟨g, i, none⟩ = some (.int .i64 (l[i] : Int)) := by
  simp only [World.cell?, h]
  simp [natI, hi]
theorem nat_set (l : List Nat) (i v : Nat) : (natI l).toArray.setIfInBounds i (.int .i64 (v : Int)) = (natI (l.set i v)).toArray := by simp [natI, List.map_set]

set_option maxRecDepth 100000 in
set_option maxHeartbeats 1000000 in
theorem Longest_any (rows : List (List Int)) (v : Value) (w : World) (hr : Rows2 w v rows) (hlen : rows.length ≤ 1073741824) :
    Calls Try.prog 20 #[v] w fun e w' => e = .returned (.int .i64 (lonO rows : Int)) ∧ Below w.heap.size w w' := by
  have HO := Lib.hid (Order_any rows v w hr hlen)
  have HR := Lib.hid hr
  obtain ⟨a, cap, rfl⟩ := hr.form
  clear hr
  have hmk : ∀ w : World, (Instr.makeSlice 49 (.int .i64 rows.length) (.int .i64 rows.length)).run Try.prog w = .ok (.slice (some ⟨w.heap.size, 0, none⟩) rows.length rows.length) (w.alloc (.cells (natI (List.replicate rows.length 0)).toArray 3)) := fun w => make_ints rows.length w hlen
  have hmx := @gmax2 Try.prog
  refine (callsIn_wide (n := 0)).1 ?_
  refine callsIn_of_wp_marks Try.func20 rfl trivial ?_ rfl
  simp only [Try.ntmps20, List.size_toArray, List.length_cons, List.length_nil, Nat.reduceAdd, Nat.reduceSub, Array.replicate_succ, Array.replicate_zero, List.push_toArray, List.append_toArray, List.nil_append, List.cons_append]
  have HND := Lib.hid (ordO_nodup rows)
  have hol := ordO_len rows
  have HLT : Hid (∀ x ∈ ordO rows, x < rows.length) := Lib.hid (fun x hx => ordO_lt hx)
  unfold lonO
  generalize ordO rows = o at *
  gi_wp2_with (first | (gi_at_call 17; refine (callsIn_wide.2 HO.out).mono ?_; rintro e w1 ⟨vo, rfl, hown0, hb0⟩; have HV : Hid (RdS w1 vo 1 o.length (natI o)) := Lib.hid (RdS.of_owns hown0); clear hown0; obtain ⟨oa, oc, rfl⟩ := HV.out.form; have hcap : o.length ≤ oc ∧ oc ≤ 9223372036854775807 := (by obtain ⟨_, a', c', he, h1, h2, _⟩ := HV.out; injection he with _ _ e3; subst e3; unfold maxLen at h2; exact ⟨h1, h2⟩)))
  clear hmk
  obtain ⟨hcap1, hcap2⟩ := hcap
  have c0 : Hid (((w1.alloc (Obj.cells (natI (List.replicate rows.length 0)).toArray 3)).alloc (Obj.cells #[Value.slice (some ⟨w1.heap.size, 0, none⟩) rows.length rows.length] 49)).heap[w1.heap.size]? = some (.cells (natI (List.replicate rows.length 0)).toArray 3 (0, 0))) := Lib.hid (by
    rw [Below.heap_alloc _ _ _ (by simp)]
    exact World.alloc_heap_new w1 _)
  have c1 : Boxed ((w1.alloc (Obj.cells (natI (List.replicate rows.length 0)).toArray 3)).alloc (Obj.cells #[Value.slice (some ⟨w1.heap.size, 0, none⟩) rows.length rows.length] 49)) (w1.heap.size + 1) 49 (.slice (some ⟨w1.heap.size, 0, none⟩) rows.length rows.length) := by
    have := Boxed.new (w1.alloc (Obj.cells (natI (List.replicate rows.length 0)).toArray 3)) 49 (.slice (some ⟨w1.heap.size, 0, none⟩) rows.length rows.length)
    rw [World.size_alloc] at this
    exact this
  have hbl : Below w1.heap.size w1 ((w1.alloc (Obj.cells (natI (List.replicate rows.length 0)).toArray 3)).alloc (Obj.cells #[Value.slice (some ⟨w1.heap.size, 0, none⟩) rows.length rows.length] 49)) := (((Below.refl _ w1).alloc (Nat.le_refl _) _).alloc (by simp) _)
  generalize ((w1.alloc (Obj.cells (natI (List.replicate rows.length 0)).toArray 3)).alloc (Obj.cells #[Value.slice (some ⟨w1.heap.size, 0, none⟩) rows.length rows.length] 49)) = w2 at *
  have HB0 := Lib.hid hb0
  have hw01 : w.heap.size ≤ w1.heap.size := hb0.size
  clear hb0
  refine wpIn_loop_marks [] [6, 8, 9, 20, 21, 22, 23, 24, 25, 26, 27, 28, 29, 30, 31, 32, 33, 34, 35, 36, 37, 38, 39, 40, 41, 42, 43, 44, 45, 46, 47, 48, 49, 50, 51, 52]
    (fun gk u Ds wr => ∃ k : Nat, k + gk = o.length + 1 ∧ k ≤ o.length ∧ u 20 = .int .i64 k ∧ u 6 = .int .i64 ((lonF rows (o.take k)).2 : Int) ∧ Hid (wr.heap[w1.heap.size]? = some (.cells (natI (lonF rows (o.take k)).1).toArray 3 (0, 0))) ∧ Boxed wr (w1.heap.size + 1) 49 (.slice (some ⟨w1.heap.size, 0, none⟩) rows.length rows.length) ∧ Marks Ds wr ∧ (∀ D ∈ Ds, w1.heap.size ≤ D) ∧ Below w1.heap.size w1 wr) (o.length + 1) ?h0 ?round
  case h0 => exact ⟨0, by omega, by omega, rfl, rfl, c0, c1, .nil _, (by simp), hbl⟩
  case round =>
    clear c0 c1 hbl
    rintro gk u Ds wr ⟨k, hkg, hk, hu20, hu6, b0, b1, hmk, hDs, hbl⟩ K hK
    obtain rfl : gk = o.length + 1 - k := by omega
    have HK := Lib.hid hK
    have HDs := Lib.hid hDs
    clear hK hDs
    simp only [over, List.foldl_cons, List.foldl_nil, List.set_cons_zero, List.set_cons_succ]
    rw [hu20, hu6]
    by_cases hlt : k < o.length
    · have hlt' : (k : Int) < o.length := by omega
      obtain ⟨og, ooff, rfl, r1, r2, ocell0⟩ : ∃ g off, oa = some ⟨g, off, none⟩ ∧ o.length ≤ oc ∧ oc ≤ 9223372036854775807 ∧ w1.cell? ⟨g, off + k, none⟩ = some (.int .i64 (o[k] : Int)) := by
        rcases HV.out.cases (by decide) with ⟨h0, _⟩ | ⟨hn, _, g, off, cap', hq, q1, q2, q3⟩
        · omega
        · injection hq with e1 e2 e3
          subst e1 e3
          exact ⟨g, off, rfl, q1, q2, q3 k _ (by simp [natI, hlt])⟩
      have ocell := cellB hbl ocell0
      have hxn : o[k] < rows.length := HLT.out _ (List.getElem_mem hlt)
      have HNOT : Hid (o[k] ∉ o.take k) := Lib.hid (fun hm => by
        obtain ⟨q, hq, he⟩ := List.getElem_of_mem hm
        rw [List.length_take] at hq
        rw [List.getElem_take] at he
        exact List.pairwise_iff_getElem.1 HND.out q k (by omega) hlt (by omega) he)
      have HTK := Lib.hid (List.take_succ_eq_append_getElem hlt)
      generalize o[k] = x at *
      have HZ := Lib.hid (lonF_zero (rows := rows) HNOT.out)
      have hdl := lonF_len rows (o.take k)
      have hbd := lonF_bound rows (o.take k)
      have HLS := Lib.hid (lonF_snoc rows (o.take k) x)
      rw [← HTK.out] at HLS
      obtain ⟨st, hst⟩ : ∃ st, lonF rows (o.take k) = st := ⟨_, rfl⟩
      rw [hst] at HZ hdl hbd HLS b0 ⊢
      obtain ⟨deep, most⟩ := st
      simp only at HZ hdl hbd b0 ⊢
      clear hst ocell0
      have HBD := Lib.hid hbd.1
      have hm1 : most ≤ o.length := by have := hbd.2; simp at this; omega
      clear hbd
      gi_wp2_with (gi_at_call 58; refine (callsIn_wide.2 (has_any _ ⟨_, _, _, rfl⟩ x _)).mono ?_; rintro e w1 ⟨rfl, rfl⟩)
      have e0 : Boxed ((((wr.alloc (Obj.cells #[Value.int IntKind.i64 x] 3)).alloc (Obj.cells #[Value.slice a rows.length cap] 47)).alloc (Obj.cells #[Value.int IntKind.i64 x] 3))) wr.heap.size 3 (.int .i64 x) := ((Boxed.new wr _ _).alloc _).alloc _
      have e1 : Boxed ((((wr.alloc (Obj.cells #[Value.int IntKind.i64 x] 3)).alloc (Obj.cells #[Value.slice a rows.length cap] 47)).alloc (Obj.cells #[Value.int IntKind.i64 x] 3))) (wr.heap.size + 1) 47 (.slice a rows.length cap) := by
        have := Boxed.new (wr.alloc (Obj.cells #[Value.int IntKind.i64 x] 3)) 47 (.slice a rows.length cap)
        rw [World.size_alloc] at this
        exact this.alloc _
      have e2 : Boxed ((((wr.alloc (Obj.cells #[Value.int IntKind.i64 x] 3)).alloc (Obj.cells #[Value.slice a rows.length cap] 47)).alloc (Obj.cells #[Value.int IntKind.i64 x] 3))) (wr.heap.size + 1 + 1) 3 (.int .i64 x) := by
        have := Boxed.new ((wr.alloc (Obj.cells #[Value.int IntKind.i64 x] 3)).alloc (Obj.cells #[Value.slice a rows.length cap] 47)) 3 (.int .i64 x)
        rw [World.size_alloc, World.size_alloc] at this
        exact this
      have hsz6 : ((((wr.alloc (Obj.cells #[Value.int IntKind.i64 x] 3)).alloc (Obj.cells #[Value.slice a rows.length cap] 47)).alloc (Obj.cells #[Value.int IntKind.i64 x] 3))).heap.size = wr.heap.size + 3 := by simp
      have hb6 : Below wr.heap.size wr ((((wr.alloc (Obj.cells #[Value.int IntKind.i64 x] 3)).alloc (Obj.cells #[Value.slice a rows.length cap] 47)).alloc (Obj.cells #[Value.int IntKind.i64 x] 3))) := ((((Below.refl _ wr).alloc (Nat.le_refl _) _).alloc (by simp) _).alloc (by simp; omega) _)
      have g0 : Hid (((((wr.alloc (Obj.cells #[Value.int IntKind.i64 x] 3)).alloc (Obj.cells #[Value.slice a rows.length cap] 47)).alloc (Obj.cells #[Value.int IntKind.i64 x] 3))).heap[w1.heap.size]? = some (.cells (natI deep).toArray 3 (0, 0))) := Lib.hid (by have h := b0.out; rw [hb6.block _ (Array.getElem?_eq_some_iff.1 h).1]; exact h)
      generalize ((((wr.alloc (Obj.cells #[Value.int IntKind.i64 x] 3)).alloc (Obj.cells #[Value.slice a rows.length cap] 47)).alloc (Obj.cells #[Value.int IntKind.i64 x] 3))) = w6 at *
      have hwr1 := b1.lt
      have g1 : Boxed w6 (w1.heap.size + 1) 49 (.slice (some ⟨w1.heap.size, 0, none⟩) rows.length rows.length) := (hb6.block _ hwr1).trans b1
      have gmk := hmk.below hb6
      have gbl : Below w1.heap.size w1 w6 := hbl.trans (hb6.mono (by omega))
      have hDlt := Lib.hid hmk.lt
      clear b0 b1 hmk hbl hb6 ocell
      generalize wr.heap.size = p at *
      refine' wpIn_rf1 rfl (enters_of Try.func92 (by kernel_rfl) rfl) (has_iter rows x w1.heap.size (p + 1) (p + 1 + 1) a cap w w6 hxn (by omega) (by omega) (by omega) e1 e2 HR.out ((HB0.out.trans (gbl.mono hw01))) hw01) (by omega) (by rintro j (rfl | rfl) <;> omega) (fun _ => rfl)
        (fun S pre W => Hid (W.heap[w1.heap.size]? = some (.cells (natI (deep.set x (dmax deep pre))).toArray 3 (0, 0))) ∧ ¬ S w1.heap.size ∧ Boxed W (w1.heap.size + 1) 49 (.slice (some ⟨w1.heap.size, 0, none⟩) rows.length rows.length) ∧ ¬ S (w1.heap.size + 1) ∧ Boxed W p 3 (.int .i64 x) ∧ ¬ S p ∧ Marks Ds W ∧ (∀ D ∈ Ds, ¬ S D) ∧ Below w1.heap.size w1 W)
        (fun c S pre W => False) ?hfin ?hJ ?hJx ?h0 _ ?assign ?body ?done ?stop
      case assign =>
        intro l x W K hK
        dsimp only [encZ]
        gi_wp2
        exact hK
      case hfin => exact fun h => absurd trivial h
      case hJ =>
        rintro S S' s W W' hS ⟨h0, h1, h2, h3, h4, h5, h9, h10, h11⟩ hs
        have hlt0 := (Array.getElem?_eq_some_iff.1 h0.out).1
        exact ⟨Lib.hid ((hs.same _ hlt0 h1).trans h0.out), (fun hs' => by rcases hs.new _ hs' with h | ⟨h, _⟩; exact h1 h; omega), (hs.boxed h2 h3).1, (hs.boxed h2 h3).2, (hs.boxed h4 h5).1, (hs.boxed h4 h5).2, (hs.marks h9 h10).1, (hs.marks h9 h10).2, h11.trans hs.below⟩
      case hJx => exact fun _ _ _ _ _ _ _ h _ => h
      case h0 => exact ⟨by rw [show dmax deep [] = 0 from rfl, set_same HZ.out]; exact g0, by omega, g1, by omega, e0, by omega, gmk, (fun D hD => by have := hDlt.out D hD; omega), gbl⟩
      case stop => exact fun _ _ _ _ _ _ _ _ _ h _ => h.elim
      case done =>
        rintro D S W hD hS hSD ⟨h0, h1, h2, h3, h4, h5, h9, h10, h11⟩ hKD
        have hYl : x < (deep.set x (dmax deep (depL rows.length rows[x]))).length := by simp; omega
        have cx := nat_cell h0.out hYl
        rw [List.getElem_set_self] at cx
        have fx : W.frozen? ⟨w1.heap.size, x, none⟩ = false := by simp [World.frozen?, h0.out]
        have q1 := h2.cell
        have q2 := h4.cell
        have hX' : (x : Int) < rows.length := by omega
        have hdm : dmax deep (depL rows.length rows[x]) ≤ 1073741824 := Nat.le_trans (dmax_le HBD.out) (by simp; omega)
        have HST : Hid (lonF rows (o.take (k + 1)) = (deep.set x (dmax deep (depL rows.length rows[x]) + 1), max most (dmax deep (depL rows.length rows[x]) + 1))) := Lib.hid (by rw [HLS.out]; simp [lonStep, hxn])
        have hset := setCell_heap x (.int .i64 ((dmax deep (depL rows.length rows[x]) + 1 : Nat) : Int)) h0.out
        rw [nat_set, List.set_set] at hset
        have HSET := Lib.hid hset
        generalize dmax deep (depL rows.length rows[x]) = d at *
        clear hS hYl hset
        have hk2 : Below w1.heap.size W (W.setCell ⟨w1.heap.size, x, none⟩ (.int .i64 ((d + 1 : Nat) : Int))) := (Below.refl _ W).setCell (p := ⟨w1.heap.size, x, none⟩) (Nat.le_refl _) _
        have hmk2 : Marks (D :: Ds) (W.setCell ⟨w1.heap.size, x, none⟩ (.int .i64 ((d + 1 : Nat) : Int))) := (h9.cons hKD (fun d hd => Nat.lt_of_lt_of_le (hDlt.out d hd) (show p ≤ w6.heap.size by omega)) hD).setCell h0.out _
        have hbx : Boxed (W.setCell ⟨w1.heap.size, x, none⟩ (.int .i64 ((d + 1 : Nat) : Int))) (w1.heap.size + 1) 49 (.slice (some ⟨w1.heap.size, 0, none⟩) rows.length rows.length) := (Below.heap_setCell _ _ _ _ (by simp)).trans h2
        have HR2 := Lib.hid (And.intro hk2 (And.intro hmk2 hbx))
        clear hk2 hmk2 hbx
        gi_wp2
        all_goals
          refine HK.out (o.length + 1 - (k + 1)) _ (D :: Ds) _ (by omega) (by simp only [over, List.foldl_cons, List.foldl_nil, List.set_cons_zero, List.set_cons_succ, List.getElem?_cons_zero, List.getElem?_cons_succ, Option.getD_some]) ⟨k + 1, by omega, by omega, by go_num, by rw [HST.out]; show Value.int .i64 _ = Value.int .i64 _; congr 1; simp only []; omega, Lib.hid (by rw [HST.out]; exact HSET.out), HR2.out.2.2, HR2.out.2.1, (fun d hd => by
            rcases List.mem_cons.1 hd with rfl | hd
            · omega
            · exact HDs.out d hd), h11.trans HR2.out.1⟩
      case body =>
        rintro l S pre y W hS hw hl _ ⟨h0, h1, h2, h3, h4, h5, h9, h10, h11⟩ hpre
        have hmem : y ∈ depL rows.length rows[x] := hpre.subset (by simp)
        obtain ⟨Y, rfl, hY, _⟩ := depL_nat hmem
        have HS := Lib.hid hS
        have hYl : Y < (deep.set x (dmax deep pre)).length := by simp; omega
        have hXl : x < (deep.set x (dmax deep pre)).length := by simp; omega
        have cy := nat_cell h0.out hYl
        have cx := nat_cell h0.out hXl
        rw [List.getElem_set_self] at cx
        have HN := Lib.hid (dmax_next (y := Y) (pre := pre) HZ.out (by omega : x < deep.length))
        rw [List.getElem?_eq_getElem hYl, Option.getD_some] at HN
        have fx : W.frozen? ⟨w1.heap.size, x, none⟩ = false := by simp [World.frozen?, h0.out]
        have q1 := h2.cell
        have q2 := h4.cell
        have hY' : (Y : Int) < rows.length := by omega
        have hX' : (x : Int) < rows.length := by omega
        generalize (deep.set x (dmax deep pre))[Y] = e at *
        generalize dmax deep pre = d at *
        clear hS hpre hmem hYl hXl
        gi_wp2
        refine wpIn_region_still_tail l 12 (by kernel_rfl) (by kernel_rfl) (by kernel_rfl) ?_
        simp only [List.take_succ_cons, List.take_zero, List.drop_succ_cons, List.drop_zero]
        repeat still_step
        refine wpStill_nil ?_
        go_wp2
        refine ⟨rfl, ?_⟩
        have hset := setCell_heap x (.int .i64 ((max d e : Nat) : Int)) h0.out
        rw [nat_set, List.set_set] at hset
        have hk : Keep w1.heap.size S W (W.setCell ⟨w1.heap.size, x, none⟩ (.int .i64 ((max d e : Nat) : Int))) := ⟨(Below.refl _ W).setCell (p := ⟨w1.heap.size, x, none⟩) (Nat.le_refl _) _, fun j hj => Below.heap_setCell _ _ _ _ (fun e => h1 (by rw [show j = w1.heap.size from e] at hj; exact hj))⟩
        gi_wp2
        exact ⟨⟨Lib.hid (by rw [← HN.out]; exact hset), h1, (Below.heap_setCell _ _ _ _ (by simp)).trans h2, h3, (Below.heap_setCell _ _ _ _ (by simp; omega)).trans h4, h5, h9.setCell h0.out _, h10, (h11.trans hk.below).drew⟩, ⟨hk.below.drew, hk.same⟩⟩
    · have hkl : k = o.length := by omega
      subst hkl
      rw [List.take_length] at *
      gi_wp2
      refine leaves_marks (n0 := w1.heap.size) Ds wr hmk HDs.out fun W' hT => ?_
      exact ⟨_, results_tmp rfl _ _ _, rfl, HB0.out.trans ((hbl.trans hT.below).mono hw01)⟩
end Go.Proofs.Ytkgcpbhlbfjcoaa

/-
  rescriptlaw26.live: contract.
-/
namespace Go.Proofs.Ytkgcpbhlbfjcoaa
open Go.RowKit

theorem rds_lit {W : World} {g : Nat} {l : List Int} {t : TypeId} {fr : Nat × Nat} (h : W.heap[g]? = some (.cells (ints .i64 l).toArray t fr)) (hl : l.length ≤ 1073741824) : RdS W (.slice (some ⟨g, 0, none⟩) l.length l.length) 1 l.length (ints .i64 l) := by
  refine ⟨by simp [ints], _, _, rfl, Nat.le_refl _, by unfold maxLen; omega, .inr ⟨g, 0, rfl, fun i c hi => ?_⟩⟩
  simp only [World.cell?, h, Nat.zero_add]
  simpa using hi
theorem rds_none (W : World) : RdS W (.slice none 0 0) 1 ([] : List Int).length (ints .i64 []) := ⟨rfl, none, 0, rfl, Nat.le_refl _, Nat.zero_le _, .inl rfl⟩
theorem rows_lit {W : World} {g : Nat} {ss : List Value} {t : TypeId} {fr : Nat × Nat} (rows : List (List Int)) (h : W.heap[g]? = some (.cells ss.toArray t fr)) (hl : ss.length = rows.length) (hm : rows.length ≤ 1073741824)
    (hr : ∀ (i : Nat) (r : List Int), rows[i]? = some r → ∃ c : Value, ss[i]? = some c ∧ RdS W c 1 r.length (ints .i64 r)) : Rows2 W (.slice (some ⟨g, 0, none⟩) rows.length rows.length) rows := by
  refine ⟨ss, ⟨by omega, _, _, rfl, Nat.le_refl _, by unfold maxLen; omega, .inr ⟨g, 0, rfl, fun i c hi => ?_⟩⟩, hl, hr⟩
  simp only [World.cell?, h, Nat.zero_add]
  simpa using hi

/-- Three rows of which two were built: where each lies. -/
theorem lit_two (w : World) (l1 l2 : List Int) (o : Obj) (t1 t2 : TypeId) (h1 : l1.length ≤ 1073741824) (h2 : l2.length ≤ 1073741824) :
    RdS (((w.alloc (.cells (ints .i64 l1).toArray t1)).alloc (.cells (ints .i64 l2).toArray t2)).alloc o) (.slice (some ⟨w.heap.size, 0, none⟩) l1.length l1.length) 1 l1.length (ints .i64 l1) ∧
    RdS (((w.alloc (.cells (ints .i64 l1).toArray t1)).alloc (.cells (ints .i64 l2).toArray t2)).alloc o) (.slice (some ⟨w.heap.size + 1, 0, none⟩) l2.length l2.length) 1 l2.length (ints .i64 l2) := by
  refine ⟨rds_lit (t := t1) (fr := (0, 0)) ?_ h1, rds_lit (t := t2) (fr := (0, 0)) ?_ h2⟩
  · rw [Below.heap_alloc _ _ _ (by simp; omega), Below.heap_alloc _ _ _ (by simp)]
    exact World.alloc_heap_new w _
  · have := World.alloc_heap_new (w.alloc (.cells (ints .i64 l1).toArray t1)) (.cells (ints .i64 l2).toArray t2)
    rw [World.size_alloc] at this
    rw [Below.heap_alloc _ _ _ (by simp)]
    exact this
theorem two_new (w : World) (o1 o2 o3 : Obj) : (((w.alloc o1).alloc o2).alloc o3).heap[w.heap.size + 1 + 1]? = some o3 := by
  have := World.alloc_heap_new ((w.alloc o1).alloc o2) o3
  rw [World.size_alloc, World.size_alloc] at this
  exact this
theorem two_below (w : World) (o1 o2 o3 : Obj) : Below w.heap.size w (((w.alloc o1).alloc o2).alloc o3) := ((((Below.refl _ w).alloc (Nat.le_refl _) _).alloc (by simp) _).alloc (by simp; omega) _)

abbrev cI (l : List Int) : Obj := .cells (ints .i64 l).toArray 3
theorem litA (w : World) : Rows2 (((w.alloc (.cells #[.int .i64 1] 3)).alloc (.cells #[.int .i64 0, .int .i64 9] 3)).alloc (.cells #[.slice (some ⟨w.heap.size, 0, none⟩) 1 1, .slice none 0 0, .slice (some ⟨w.heap.size + 1, 0, none⟩) 2 2] 49)) (.slice (some ⟨w.heap.size + 1 + 1, 0, none⟩) 3 3) [[1], [], [0, 9]] := by
  have hl := lit_two w [1] [0, 9] (.cells #[.slice (some ⟨w.heap.size, 0, none⟩) 1 1, .slice none 0 0, .slice (some ⟨w.heap.size + 1, 0, none⟩) 2 2] 49) 3 3 (by decide) (by decide)
  refine rows_lit [[1], [], [0, 9]] (two_new w _ _ _) rfl (by decide) fun i r hi => ?_
  rcases i with _ | _ | _ | i
  · cases hi; exact ⟨_, rfl, hl.1⟩
  · cases hi; exact ⟨_, rfl, rds_none _⟩
  · cases hi; exact ⟨_, rfl, hl.2⟩
  · cases hi
theorem litB (w : World) : Rows2 (((w.alloc (.cells #[.int .i64 1] 3)).alloc (.cells #[.int .i64 0] 3)).alloc (.cells #[.slice (some ⟨w.heap.size, 0, none⟩) 1 1, .slice (some ⟨w.heap.size + 1, 0, none⟩) 1 1, .slice none 0 0] 49)) (.slice (some ⟨w.heap.size + 1 + 1, 0, none⟩) 3 3) [[1], [0], []] := by
  have hl := lit_two w [1] [0] (.cells #[.slice (some ⟨w.heap.size, 0, none⟩) 1 1, .slice (some ⟨w.heap.size + 1, 0, none⟩) 1 1, .slice none 0 0] 49) 3 3 (by decide) (by decide)
  refine rows_lit [[1], [0], []] (two_new w _ _ _) rfl (by decide) fun i r hi => ?_
  rcases i with _ | _ | _ | i
  · cases hi; exact ⟨_, rfl, hl.1⟩
  · cases hi; exact ⟨_, rfl, hl.2⟩
  · cases hi; exact ⟨_, rfl, rds_none _⟩
  · cases hi
theorem litC (w : World) : Rows2 (((w.alloc (.cells #[.int .i64 1] 3)).alloc (.cells #[.int .i64 0] 3)).alloc (.cells #[.slice (some ⟨w.heap.size, 0, none⟩) 1 1, .slice (some ⟨w.heap.size + 1, 0, none⟩) 1 1] 49)) (.slice (some ⟨w.heap.size + 1 + 1, 0, none⟩) 2 2) [[1], [0]] := by
  have hl := lit_two w [1] [0] (.cells #[.slice (some ⟨w.heap.size, 0, none⟩) 1 1, .slice (some ⟨w.heap.size + 1, 0, none⟩) 1 1] 49) 3 3 (by decide) (by decide)
  refine rows_lit [[1], [0]] (two_new w _ _ _) rfl (by decide) fun i r hi => ?_
  rcases i with _ | _ | i
  · cases hi; exact ⟨_, rfl, hl.1⟩
  · cases hi; exact ⟨_, rfl, hl.2⟩
  · cases hi
theorem litD (w : World) (z : Int) : Rows2 (((w.alloc (.cells #[.int .i64 1] 3)).alloc (.cells #[.int .i64 z] 3)).alloc (.cells #[.slice (some ⟨w.heap.size, 0, none⟩) 1 1, .slice none 0 0, .slice (some ⟨w.heap.size + 1, 0, none⟩) 1 1] 49)) (.slice (some ⟨w.heap.size + 1 + 1, 0, none⟩) 3 3) [[1], [], [z]] := by
  have hl := lit_two w [1] [z] (.cells #[.slice (some ⟨w.heap.size, 0, none⟩) 1 1, .slice none 0 0, .slice (some ⟨w.heap.size + 1, 0, none⟩) 1 1] 49) 3 3 (by decide) (by simp)
  refine rows_lit [[1], [], [z]] (two_new w _ _ _) rfl (by simp) fun i r hi => ?_
  rcases i with _ | _ | _ | i
  · cases hi; exact ⟨_, rfl, hl.1⟩
  · cases hi; exact ⟨_, rfl, rds_none _⟩
  · cases hi; exact ⟨_, rfl, hl.2⟩
  · cases hi
theorem litF (w : World) (o : Obj) : Rows2 (((w.alloc (.cells #[.int .i64 0] 3)).alloc (.cells #[.slice none 0 0, .slice (some ⟨w.heap.size, 0, none⟩) 1 1] 49)).alloc o) (.slice (some ⟨w.heap.size + 1, 0, none⟩) 2 2) [[], [0]] := by
  have h1 : RdS (((w.alloc (.cells #[.int .i64 0] 3)).alloc (.cells #[.slice none 0 0, .slice (some ⟨w.heap.size, 0, none⟩) 1 1] 49)).alloc o) (.slice (some ⟨w.heap.size, 0, none⟩) 1 1) 1 ([0] : List Int).length (ints .i64 [0]) := by
    refine rds_lit (l := [0]) (t := 3) (fr := (0, 0)) ?_ (by decide)
    rw [Below.heap_alloc _ _ _ (by simp; omega), Below.heap_alloc _ _ _ (by simp)]
    exact World.alloc_heap_new w _
  have h2 : (((w.alloc (.cells #[.int .i64 0] 3)).alloc (.cells #[.slice none 0 0, .slice (some ⟨w.heap.size, 0, none⟩) 1 1] 49)).alloc o).heap[w.heap.size + 1]? = some (.cells #[.slice none 0 0, .slice (some ⟨w.heap.size, 0, none⟩) 1 1] 49) := by
    have := World.alloc_heap_new (w.alloc (.cells #[.int .i64 0] 3)) (.cells #[.slice none 0 0, .slice (some ⟨w.heap.size, 0, none⟩) 1 1] 49)
    rw [World.size_alloc] at this
    rw [Below.heap_alloc _ _ _ (by simp)]
    exact this
  refine rows_lit [[], [0]] h2 rfl (by decide) fun i r hi => ?_
  rcases i with _ | _ | i
  · cases hi; exact ⟨_, rfl, rds_none _⟩
  · cases hi; exact ⟨_, rfl, h1⟩
  · cases hi

theorem callA (w : World) : Calls Try.prog 17 #[.slice (some ⟨w.heap.size + 1 + 1, 0, none⟩) 3 3] (((w.alloc (.cells #[.int .i64 1] 3)).alloc (.cells #[.int .i64 0, .int .i64 9] 3)).alloc (.cells #[.slice (some ⟨w.heap.size, 0, none⟩) 1 1, .slice none 0 0, .slice (some ⟨w.heap.size + 1, 0, none⟩) 2 2] 49)) fun e w' => ∃ v', e = .returned (.tuple #[v', .bool true]) ∧ RdS w' v' 1 3 (ints .i64 [1, 0, 2]) ∧ Below w.heap.size w w' := by
  refine (Order_any [[1], [], [0, 9]] _ _ (litA w) (by decide)).mono ?_
  rintro e w' ⟨v', rfl, ho, hb⟩
  have e1 : ordO [[1], [], [0, 9]] = [1, 0, 2] := by decide
  rw [e1] at ho ⊢
  exact ⟨v', rfl, RdS.of_owns ho, (two_below w _ _ _).trans (hb.mono (by simp; omega))⟩
theorem callB (w : World) : Calls Try.prog 17 #[.slice (some ⟨w.heap.size + 1 + 1, 0, none⟩) 3 3] (((w.alloc (.cells #[.int .i64 1] 3)).alloc (.cells #[.int .i64 0] 3)).alloc (.cells #[.slice (some ⟨w.heap.size, 0, none⟩) 1 1, .slice (some ⟨w.heap.size + 1, 0, none⟩) 1 1, .slice none 0 0] 49)) fun e w' => ∃ v', e = .returned (.tuple #[v', .bool false]) ∧ RdS w' v' 1 1 (ints .i64 [2]) ∧ Below w.heap.size w w' := by
  refine (Order_any [[1], [0], []] _ _ (litB w) (by decide)).mono ?_
  rintro e w' ⟨v', rfl, ho, hb⟩
  have e1 : ordO [[1], [0], []] = [2] := by decide
  rw [e1] at ho ⊢
  exact ⟨v', rfl, RdS.of_owns ho, (two_below w _ _ _).trans (hb.mono (by simp; omega))⟩
theorem callC (w : World) : Calls Try.prog 19 #[.slice (some ⟨w.heap.size + 1 + 1, 0, none⟩) 2 2] (((w.alloc (.cells #[.int .i64 1] 3)).alloc (.cells #[.int .i64 0] 3)).alloc (.cells #[.slice (some ⟨w.heap.size, 0, none⟩) 1 1, .slice (some ⟨w.heap.size + 1, 0, none⟩) 1 1] 49)) fun e w' => ∃ v', e = .returned v' ∧ RdS w' v' 1 2 (ints .i64 [0, 1]) ∧ Below w.heap.size w w' := by
  refine (Round_any [[1], [0]] _ _ (litC w) (by decide)).mono ?_
  rintro e w' ⟨v', rfl, ho, hb⟩
  have e1 : rndL [[1], [0]] ([[1], [0]] : List (List Int)).length = [0, 1] := by decide
  rw [e1] at ho
  exact ⟨v', rfl, RdS.of_owns ho, (two_below w _ _ _).trans (hb.mono (by simp; omega))⟩
theorem callE (w : World) : Calls Try.prog 22 #[.slice (some ⟨w.heap.size + 1 + 1, 0, none⟩) 3 3, .int .i64 1] (((w.alloc (.cells #[.int .i64 1] 3)).alloc (.cells #[.int .i64 1] 3)).alloc (.cells #[.slice (some ⟨w.heap.size, 0, none⟩) 1 1, .slice none 0 0, .slice (some ⟨w.heap.size + 1, 0, none⟩) 1 1] 49)) fun e w' => ∃ v', e = .returned v' ∧ RdS w' v' 1 2 (ints .i64 [0, 2]) ∧ Below w.heap.size w w' := by
  refine (Behind_any [[1], [], [1]] 1 _ _ (litD w 1) (by decide)).mono ?_
  rintro e w' ⟨v', rfl, ho, hb⟩
  have e1 : behL [[1], [], [1]] 1 ([[1], [], [1]] : List (List Int)).length = [0, 2] := by decide
  rw [e1] at ho
  exact ⟨v', rfl, RdS.of_owns ho, (two_below w _ _ _).trans (hb.mono (by simp; omega))⟩
theorem callG (w : World) : Calls Try.prog 20 #[.slice (some ⟨w.heap.size + 1 + 1, 0, none⟩) 3 3] (((w.alloc (.cells #[.int .i64 1] 3)).alloc (.cells #[.int .i64 0] 3)).alloc (.cells #[.slice (some ⟨w.heap.size, 0, none⟩) 1 1, .slice none 0 0, .slice (some ⟨w.heap.size + 1, 0, none⟩) 1 1] 49)) fun e w' => e = .returned (.int .i64 3) ∧ Below w.heap.size w w' := by
  refine (Longest_any [[1], [], [0]] _ _ (litD w 0) (by decide)).mono ?_
  rintro e w' ⟨rfl, hb⟩
  have e1 : lonO [[1], [], [0]] = 3 := by decide
  rw [e1]
  exact ⟨rfl, (two_below w _ _ _).trans (hb.mono (by simp; omega))⟩
theorem callS (l : List Int) (w : World) (v : Value) (hv : RdS w v 1 l.length (ints .i64 l)) (hl : l.length ≤ 1073741824) : Calls Try.prog 18 #[v, .slice (some ⟨w.heap.size, 0, none⟩) l.length l.length] (w.alloc (.cells (ints .i64 l).toArray 3)) fun e w' => e = .returned (.bool true) ∧ Below w.heap.size w w' := by
  have hb0 : Below w.heap.size w (w.alloc (.cells (ints .i64 l).toArray 3)) := (Below.refl _ w).alloc (Nat.le_refl _) _
  refine (gSame_true _ _ l _ (hv.below hb0) (rds_lit (World.alloc_heap_new w _) hl)).mono ?_
  rintro e w' ⟨rfl, hb⟩
  exact ⟨rfl, hb0.trans (hb.mono (by simp))⟩

end Go.Proofs.Ytkgcpbhlbfjcoaa
