/-
  graph.Before: contract.
-/
import Derived.Test.YtlpcagkknfajeaaGi
import Derived.Laws.MakeOwn
namespace Go.Proofs.Ytlpcagkknfajeaa
open Go.RowKit
attribute [local go_sem] Oper.semAt_some wide_fn wide_depth wide_fn' wide_depth'

/-- All behind which one comes. -/
def befL (rows : List (List Int)) (i : Int) : List Int := if 0 ≤ i ∧ i < rows.length then selL (befIn rows i.toNat) rows.length else []
theorem befL_in {rows : List (List Int)} {i : Nat} (h : i < rows.length) : befL rows i = selL (befIn rows i) rows.length := by
  unfold befL; rw [if_pos (by omega)]; simp
theorem befL_out {rows : List (List Int)} {i : Int} (h : ¬ (0 ≤ i ∧ i < rows.length)) : befL rows i = [] := by unfold befL; rw [if_neg h]

theorem owns_drop {W : World} {base : Nat} {e : TypeId} {g n cap : Nat} {xs : List Value} (h : W.ownsRow base e 1 (.slice (some ⟨g, 0, none⟩) (n + 1) cap) (n + 1) xs) : W.ownsRow base e 1 (.slice (some ⟨g, 0, none⟩) n cap) n xs.dropLast := by
  refine ⟨by rw [List.length_dropLast, h.1]; omega, ?_⟩
  rcases h.2 with ⟨h1, _⟩ | ⟨g', cap', cur, he, hb, hg, hn, hm, hs, ht⟩
  · cases h1
  · injection he with e1 e2 e3
    injection e1 with e1
    injection e1 with e1
    subst e1 e3
    refine .inr ⟨g, cap, cur, rfl, hb, hg, by omega, hm, hs, ?_⟩
    have hl : xs.length = n + 1 := by simpa using h.1
    rw [List.dropLast_eq_take, hl, ← ht, List.take_take]
    congr 1
    omega

set_option maxRecDepth 100000 in
set_option maxHeartbeats 1000000 in
theorem Before_any (rows : List (List Int)) (i : Int) (v : Value) (w : World) (hr : Rows2 w v rows) (hlen : rows.length ≤ 1073741824) :
    Calls Try.prog 22 #[v, .int .i64 i] w fun e w' => ∃ v', e = .returned v' ∧ w'.ownsRow w.heap.size 3 1 v' (befL rows i).length (ints .i64 (befL rows i)) ∧ Below w.heap.size w w' := by
  obtain ⟨i0, hi, hz0, hz1, hz2⟩ := info_parts Try.info_i64g
  have HR := Lib.hid hr
  obtain ⟨a, cap, rfl⟩ := hr.form
  clear hr
  refine (callsIn_wide (n := 0)).1 ?_
  refine callsIn_of_wp_marks Try.func22 rfl trivial ?_ rfl
  simp only [Try.ntmps22, List.size_toArray, List.length_cons, List.length_nil, Nat.reduceAdd, Nat.reduceSub, Array.replicate_succ, Array.replicate_zero, List.push_toArray, List.append_toArray, List.nil_append, List.cons_append]
  by_cases hin : 0 ≤ i ∧ i < rows.length
  · obtain ⟨I, rfl⟩ : ∃ I : Nat, i = I := ⟨i.toNat, by omega⟩
    have hI : I < rows.length := by omega
    have d1 : decide ((I : Int) < 0) = false := by simp
    have d2 : decide ((rows.length : Int) ≤ (I : Int)) = false := by simp; omega
    rw [befL_in hI]
    have hmk : ∀ w : World, (Instr.makeSlice 60 (.int .i64 rows.length) (.int .i64 rows.length)).run Try.prog w = .ok (.slice (some ⟨w.heap.size, 0, none⟩) rows.length rows.length) (w.alloc (.cells (bls (List.replicate rows.length false)).toArray 4)) := fun w => make_bools rows.length w hlen
    gi_wp2
    clear hmk
    have c0 : ((((w.alloc (Obj.cells (bls (List.replicate rows.length false)).toArray 4)).alloc (Obj.cells #[Value.slice (some ⟨w.heap.size, 0, none⟩) rows.length rows.length] 60)).alloc (Obj.cells #[Value.int IntKind.i64 I] 3)).alloc (Obj.cells #[Value.slice (some ⟨w.heap.size + 1 + 1, 0, none⟩) 1 1] 46)).heap[w.heap.size]? = some (.cells (bls (List.replicate rows.length false)).toArray 4 (0, 0)) := by
      rw [Below.heap_alloc _ _ _ (by simp <;> omega), Below.heap_alloc _ _ _ (by simp <;> omega), Below.heap_alloc _ _ _ (by simp)]
      exact World.alloc_heap_new w _
    have c1 : Boxed ((((w.alloc (Obj.cells (bls (List.replicate rows.length false)).toArray 4)).alloc (Obj.cells #[Value.slice (some ⟨w.heap.size, 0, none⟩) rows.length rows.length] 60)).alloc (Obj.cells #[Value.int IntKind.i64 I] 3)).alloc (Obj.cells #[Value.slice (some ⟨w.heap.size + 1 + 1, 0, none⟩) 1 1] 46)) (w.heap.size + 1) 60 (.slice (some ⟨w.heap.size, 0, none⟩) rows.length rows.length) := by
      have := Boxed.new (w.alloc (Obj.cells (bls (List.replicate rows.length false)).toArray 4)) 60 (.slice (some ⟨w.heap.size, 0, none⟩) rows.length rows.length)
      rw [World.size_alloc] at this
      exact (this.alloc _).alloc _
    have c2 : ((((w.alloc (Obj.cells (bls (List.replicate rows.length false)).toArray 4)).alloc (Obj.cells #[Value.slice (some ⟨w.heap.size, 0, none⟩) rows.length rows.length] 60)).alloc (Obj.cells #[Value.int IntKind.i64 I] 3)).alloc (Obj.cells #[Value.slice (some ⟨w.heap.size + 1 + 1, 0, none⟩) 1 1] 46)).heap[w.heap.size + 1 + 1]? = some (.cells #[Value.int IntKind.i64 I] 3 (0, 0)) := by
      have := World.alloc_heap_new ((w.alloc (Obj.cells (bls (List.replicate rows.length false)).toArray 4)).alloc (Obj.cells #[Value.slice (some ⟨w.heap.size, 0, none⟩) rows.length rows.length] 60)) (Obj.cells #[Value.int IntKind.i64 I] 3)
      rw [World.size_alloc, World.size_alloc] at this
      rw [Below.heap_alloc _ _ _ (by simp)]
      exact this
    have c3 : Boxed ((((w.alloc (Obj.cells (bls (List.replicate rows.length false)).toArray 4)).alloc (Obj.cells #[Value.slice (some ⟨w.heap.size, 0, none⟩) rows.length rows.length] 60)).alloc (Obj.cells #[Value.int IntKind.i64 I] 3)).alloc (Obj.cells #[Value.slice (some ⟨w.heap.size + 1 + 1, 0, none⟩) 1 1] 46)) (w.heap.size + 1 + 1 + 1) 46 (.slice (some ⟨w.heap.size + 1 + 1, 0, none⟩) 1 1) := by
      have := Boxed.new (((w.alloc (Obj.cells (bls (List.replicate rows.length false)).toArray 4)).alloc (Obj.cells #[Value.slice (some ⟨w.heap.size, 0, none⟩) rows.length rows.length] 60)).alloc (Obj.cells #[Value.int IntKind.i64 I] 3)) 46 (.slice (some ⟨w.heap.size + 1 + 1, 0, none⟩) 1 1)
      rw [World.size_alloc, World.size_alloc, World.size_alloc] at this
      exact this
    have hbl : Below w.heap.size w ((((w.alloc (Obj.cells (bls (List.replicate rows.length false)).toArray 4)).alloc (Obj.cells #[Value.slice (some ⟨w.heap.size, 0, none⟩) rows.length rows.length] 60)).alloc (Obj.cells #[Value.int IntKind.i64 I] 3)).alloc (Obj.cells #[Value.slice (some ⟨w.heap.size + 1 + 1, 0, none⟩) 1 1] 46)) := (((((Below.refl _ w).alloc (Nat.le_refl _) _).alloc (by simp) _).alloc (by simp; omega) _).alloc (by simp; omega) _)
    generalize ((((w.alloc (Obj.cells (bls (List.replicate rows.length false)).toArray 4)).alloc (Obj.cells #[Value.slice (some ⟨w.heap.size, 0, none⟩) rows.length rows.length] 60)).alloc (Obj.cells #[Value.int IntKind.i64 I] 3)).alloc (Obj.cells #[Value.slice (some ⟨w.heap.size + 1 + 1, 0, none⟩) 1 1] 46)) = w4 at *
    have hown0 : w4.ownsRow (w.heap.size + 2) 3 1 (.slice (some ⟨w.heap.size + 1 + 1, 0, none⟩) 1 1) 1 (natI [I]) := ⟨rfl, .inr ⟨_, 1, _, rfl, Nat.le_refl _, c2, Nat.le_refl _, by decide, rfl, rfl⟩⟩
    have hdi : DInv rows.length (List.replicate rows.length false, [I]) := (BInv.start rows hI).d
    refine wpIn_loop_marks [] [6, 7, 8, 18, 19, 25, 26, 27, 28, 29, 30, 31, 32, 33, 34, 35, 36, 37, 38, 39, 40, 41, 42, 43, 44, 45, 46, 47, 48, 49, 50, 51, 52, 53]
      (fun gk u Ds wr => ∃ (f : Nat) (inn : List Bool) (todo : List Nat) (vt : Value), gk = f + 1 ∧ u 6 = .pointer (some ⟨w.heap.size + 1 + 1 + 1, 0, none⟩) ∧ DInv rows.length (inn, todo) ∧ inn.count false + todo.length ≤ f ∧ f ≤ rows.length + 1 ∧ Hid (dfsF rows f (inn, todo) = dfsF rows (rows.length + 1) (List.replicate rows.length false, [I])) ∧ wr.heap[w.heap.size]? = some (.cells (bls inn).toArray 4 (0, 0)) ∧
        Boxed wr (w.heap.size + 1) 60 (.slice (some ⟨w.heap.size, 0, none⟩) rows.length rows.length) ∧ Boxed wr (w.heap.size + 1 + 1 + 1) 46 vt ∧ wr.ownsRow (w.heap.size + 2) 3 1 vt todo.length (natI todo) ∧ Marks Ds wr ∧ (∀ D ∈ Ds, w.heap.size ≤ D) ∧ Below w.heap.size w wr) (rows.length + 2) ?h0 ?round
    case h0 => exact ⟨rows.length + 1, _, [I], _, rfl, rfl, hdi, by simp [List.count_replicate], by omega, Lib.hid rfl, c0, c1, c3, hown0, .nil _, (by simp), hbl⟩
    case round =>
      clear c0 c1 c2 c3 hbl hown0 hdi
      rintro gk u Ds wr ⟨f, inn, todo, vt, rfl, hu6, hd, hcnt, hf, HF, b0, b1, b3, hown, hmk, hDs, hbl⟩ K hK
      have HK := Lib.hid hK
      have HD := Lib.hid hd
      have HDs := Lib.hid hDs
      clear hK hd hDs
      simp only [over, List.foldl_cons, List.foldl_nil, List.set_cons_zero, List.set_cons_succ]
      rw [hu6]
      have q1 := b1.cell
      have q3 := b3.cell
      have f3 := b3.frozen
      have HB0 := Lib.hid b0
      clear b0
      have hsplit : todo = [] ∨ ∃ t0 x, todo = t0 ++ [x] := by
        rcases List.eq_nil_or_concat todo with h | ⟨t0, x, h⟩
        · exact .inl h
        · exact .inr ⟨t0, x, by rw [h, List.concat_eq_append]⟩
      rcases hsplit with rfl | ⟨t0, x, rfl⟩
      · have HE : Hid (befIn rows I = inn) := Lib.hid (by unfold befIn; rw [← HF.out, dfsF_end])
        obtain ⟨ta, tc, rfl⟩ := (RdS.of_owns hown).form
        have hil : inn.length = rows.length := HD.out.len
        gi_wp2
        rename World => wo
        gi_loopg [9, 56] (rows.length + 1) (fun gk out i wr => ∃ k : Nat, k + gk = rows.length + 1 ∧ k ≤ rows.length ∧ i = .int .i64 k ∧ wr.ownsRow wo.heap.size 3 1 out (selL inn k).length (ints .i64 (selL inn k)) ∧ Below wo.heap.size wo wr)
        case atStart => exact ⟨0, by omega, by omega, rfl, by simpa [selL, ints] using World.ownsRow_nil wo wo.heap.size 3 1, Below.refl _ _⟩
        case round =>
          obtain ⟨k, hkg, hk, rfl, hown, hbi⟩ := hrel
          obtain rfl : gk = rows.length + 1 - k := by omega
          clear hkg
          have hn0 : w.heap.size < wo.heap.size := (Array.getElem?_eq_some_iff.1 HB0.out).1
          have HBI : Hid (wr.heap[w.heap.size]? = some (.cells (bls inn).toArray 4 (0, 0))) := Lib.hid (by rw [hbi.block _ hn0]; exact HB0.out)
          obtain ⟨oa, oc, rfl⟩ := (RdS.of_owns hown).form
          by_cases hkn : k < rows.length
          · have hkn' : (k : Int) < rows.length := by omega
            have hkt : k < inn.length := by omega
            have tcell : wr.cell? ⟨w.heap.size, k, none⟩ = some (.bool inn[k]) := by
              simp only [World.cell?, HBI.out, Option.bind_some]
              simp [bls, hkt]
            have HG : Hid (gb inn k = inn[k]) := Lib.hid (by unfold gb; simp [hkt])
            have HYES := Lib.hid (selL_yes (th := inn) (k := k))
            have HNO := Lib.hid (selL_no (th := inn) (k := k))
            have hlk := selL_len inn k
            generalize inn[k] = bt at *
            cases bt with
            | false =>
              have HK2 := Lib.hid (HNO.out HG.out)
              gi_wp2
              gi_roundg (rows.length + 1 - (k + 1))
              case measure => omega
              case rel => exact ⟨k + 1, by omega, by omega, by go_num, by rw [HK2.out]; exact hown, hbi⟩
            | true =>
              have HK2 := Lib.hid (HYES.out HG.out)
              gi_wp2_with (gi_at_builtin; go_must (refine wpListIn_push rfl _ _ 46 rfl wo.heap.size 3 i0 (.int .i64 0) 1 8 Try.underlying46 hi hz0 hz1 hz2 rfl (by decide) _ _ _ rfl (hown.alloc _) ⟨wr.heap.size, 0, none⟩ 1 1 [_] rfl rfl (cell_one_new _ _ _) (by simp [Value.oneCell']) (by unfold maxLen; omega) (by omega) (by have := hbi.size; simp; omega) ?_; intro v' w5 hown' hgrow hfr))
              have hgrow : (wr.alloc _).grownBy w5 (Value.slice oa (selL inn k).length oc).ownBlock := hgrow
              gi_roundg (rows.length + 1 - (k + 1))
              case measure => omega
              case rel => exact ⟨k + 1, by omega, by omega, by go_num, by rw [HK2.out]; simpa [ints] using hown', below_push hbi (by have := hbi.size; omega) hown (Nat.le_refl _) hgrow⟩
          · have hkl : k = rows.length := by omega
            subst hkl
            gi_wp2
            refine leaves_marks (n0 := w.heap.size) Ds wr (hmk.below hbi) HDs.out fun W' hT => ?_
            rw [HE.out]
            exact ⟨_, results_tmp rfl _ _ _, _, rfl, ownsRow_mono (hT.owns hown) (by omega), (hbl.trans (hbi.mono (by omega))).trans hT.below⟩
      · have hxn : x < rows.length := HD.out.lt x (by simp)
        simp only [List.length_append, List.length_cons, List.length_nil, Nat.zero_add] at *
        obtain ⟨tg, tc, rfl⟩ := ownsRow_succ hown
        have htl : t0.length + 1 ≤ rows.length + 1 := by omega
        have hcell : wr.cell? ⟨tg, t0.length, none⟩ = some (.int .i64 x) := by
          have := hown.cells (g := tg) rfl t0.length (.int .i64 x) (by simp [natI])
          simpa [Addr.add_lit] using this
        obtain ⟨hc1, hc2⟩ : t0.length + 1 ≤ tc ∧ tc ≤ 9223372036854775807 := by
          obtain ⟨_, a', c', he, h1, h2, _⟩ := RdS.of_owns hown
          injection he with _ _ e3; subst e3; unfold maxLen at h2; exact ⟨h1, h2⟩
        gi_wp2
        refine wpIn_scope ?_
        gi_wp2
        have b0' : Hid ((wr.setCell ⟨w.heap.size + 1 + 1 + 1, 0, none⟩ (Value.slice (some ⟨tg, 0, none⟩) t0.length tc)).heap[w.heap.size]? = some (.cells (bls inn).toArray 4 (0, 0))) := Lib.hid (by rw [Below.heap_setCell _ _ _ _ (by simp; omega)]; exact HB0.out)
        have b1' : Boxed (wr.setCell ⟨w.heap.size + 1 + 1 + 1, 0, none⟩ (Value.slice (some ⟨tg, 0, none⟩) t0.length tc)) (w.heap.size + 1) 60 (.slice (some ⟨w.heap.size, 0, none⟩) rows.length rows.length) := (Below.heap_setCell _ _ _ _ (by simp)).trans b1
        have b3' := b3.set (Value.slice (some ⟨tg, 0, none⟩) t0.length tc)
        have hown' : (wr.setCell ⟨w.heap.size + 1 + 1 + 1, 0, none⟩ (Value.slice (some ⟨tg, 0, none⟩) t0.length tc)).ownsRow (w.heap.size + 2) 3 1 (Value.slice (some ⟨tg, 0, none⟩) t0.length tc) t0.length (natI t0) := by
          have h0 := owns_drop hown
          have e : (natI (t0 ++ [x])).dropLast = natI t0 := by simp [natI]
          rw [e] at h0
          exact h0.kept (grownBy_setCell' wr _ _) (.inr (b3.not_row (by decide) h0).symm)
        have hmk' := hmk.setCell (i := 0) b3 (Value.slice (some ⟨tg, 0, none⟩) t0.length tc)
        have hbl' := hbl.setCell (p := ⟨w.heap.size + 1 + 1 + 1, 0, none⟩) (show w.heap.size ≤ w.heap.size + 1 + 1 + 1 by omega) (Value.slice (some ⟨tg, 0, none⟩) t0.length tc)
        clear hown b3 b1 hmk hbl HB0 q1 q3 f3 hcell
        generalize (wr.setCell ⟨w.heap.size + 1 + 1 + 1, 0, none⟩ (Value.slice (some ⟨tg, 0, none⟩) t0.length tc)) = wr at *
        refine wpIn_label ?_
        gi_wp2_with (gi_at_call 36; refine (callsIn_wide.2 (has_any _ ⟨_, _, _, rfl⟩ x _)).mono ?_; rintro e w1 ⟨rfl, rfl⟩)
        have e1 : Boxed ((wr.alloc (Obj.cells #[Value.slice a rows.length cap] 41)).alloc (Obj.cells #[Value.int IntKind.i64 x] 3)) wr.heap.size 41 (.slice a rows.length cap) := (Boxed.new wr _ _).alloc _
        have e2 : Boxed ((wr.alloc (Obj.cells #[Value.slice a rows.length cap] 41)).alloc (Obj.cells #[Value.int IntKind.i64 x] 3)) (wr.heap.size + 1) 3 (.int .i64 x) := by
          have := Boxed.new (wr.alloc (Obj.cells #[Value.slice a rows.length cap] 41)) 3 (.int .i64 x)
          rw [World.size_alloc] at this
          exact this
        have hsz6 : ((wr.alloc (Obj.cells #[Value.slice a rows.length cap] 41)).alloc (Obj.cells #[Value.int IntKind.i64 x] 3)).heap.size = wr.heap.size + 2 := by simp
        have hb6 : Below wr.heap.size wr ((wr.alloc (Obj.cells #[Value.slice a rows.length cap] 41)).alloc (Obj.cells #[Value.int IntKind.i64 x] 3)) := (((Below.refl _ wr).alloc (Nat.le_refl _) _).alloc (by simp) _)
        have g0 : Hid (((wr.alloc (Obj.cells #[Value.slice a rows.length cap] 41)).alloc (Obj.cells #[Value.int IntKind.i64 x] 3)).heap[w.heap.size]? = some (.cells (bls inn).toArray 4 (0, 0))) := Lib.hid (by have h := b0'.out; rw [hb6.block _ (Array.getElem?_eq_some_iff.1 h).1]; exact h)
        generalize ((wr.alloc (Obj.cells #[Value.slice a rows.length cap] 41)).alloc (Obj.cells #[Value.int IntKind.i64 x] 3)) = w6 at *
        have hwr1 := b1'.lt
        have hwr3 := b3'.lt
        have g1 : Boxed w6 (w.heap.size + 1) 60 (.slice (some ⟨w.heap.size, 0, none⟩) rows.length rows.length) := (hb6.block _ hwr1).trans b1'
        have g3 : Boxed w6 (w.heap.size + 1 + 1 + 1) 46 (Value.slice (some ⟨tg, 0, none⟩) t0.length tc) := (hb6.block _ hwr3).trans b3'
        have gown := ownsB hown' hb6
        have gmk := hmk'.below hb6
        have gbl : Below w.heap.size w w6 := hbl'.trans (hb6.mono (by omega))
        have hDlt := Lib.hid hmk'.lt
        have hvolt : tg < wr.heap.size := (hown'.lt tg rfl).2
        clear b0' b1' b3' hown' hmk' hbl' hb6
        generalize wr.heap.size = p at *
        have hdt : DInv rows.length (inn, t0) := ⟨HD.out.len, fun y hy => HD.out.lt y (by simp [hy])⟩
        have HDT := Lib.hid hdt
        clear hdt
        have HNEXT : Hid (dfsF rows f (inn, t0 ++ [x]) = dfsF rows (f - 1) (dfsRow (depL rows.length rows[x]) (inn, t0))) := Lib.hid (by
          obtain ⟨f', rfl⟩ : ∃ f', f = f' + 1 := ⟨f - 1, by omega⟩
          simp [dfsF, hxn])
        have HROW := Lib.hid (fun (pre : List Int) (hpre : pre <+: depL rows.length rows[x]) => DInv.row pre (inn, t0) HDT.out (fun j hj => by
          have := dep_nats rows x j (by rw [List.getElem?_eq_getElem hxn, Option.getD_some]; exact hpre.subset hj)
          exact this))
        refine' wpIn_rf1 rfl (enters_of Try.func46 (by kernel_rfl) rfl) (has_iter rows x w.heap.size p (p + 1) a cap w w6 hxn (by omega) (by omega) (by omega) e1 e2 HR.out gbl (Nat.le_refl _)) (by omega) (by rintro j (rfl | rfl) <;> omega) (fun _ => rfl)
          (fun S pre W => Hid (W.heap[w.heap.size]? = some (.cells (bls (dfsRow pre (inn, t0)).1).toArray 4 (0, 0))) ∧ ¬ S w.heap.size ∧ Boxed W (w.heap.size + 1) 60 (.slice (some ⟨w.heap.size, 0, none⟩) rows.length rows.length) ∧ ¬ S (w.heap.size + 1) ∧
            (∃ vt, Boxed W (w.heap.size + 1 + 1 + 1) 46 vt ∧ ¬ S (w.heap.size + 1 + 1 + 1) ∧ W.ownsRow (w.heap.size + 2) 3 1 vt (dfsRow pre (inn, t0)).2.length (natI (dfsRow pre (inn, t0)).2) ∧ (∀ g, vt.ownBlock = some g → ¬ S g)) ∧ Marks Ds W ∧ (∀ D ∈ Ds, ¬ S D) ∧ Below w.heap.size w W)
          (fun c S pre W => False) ?hfin ?hJ ?hJx ?h0 _ ?assign ?body ?done ?stop
        case assign =>
          intro l x W K hK
          dsimp only [encZ]
          gi_wp2
          exact hK
        case hfin => exact fun h => absurd trivial h
        case hJ =>
          rintro S S' s W W' hS ⟨h0, h1, h2, h3, ⟨vt, h4, h5, h6, h7⟩, h9, h10, h11⟩ hs
          have hlt0 := (Array.getElem?_eq_some_iff.1 h0.out).1
          exact ⟨Lib.hid ((hs.same _ hlt0 h1).trans h0.out), (fun hs' => by rcases hs.new _ hs' with h | ⟨h, _⟩; exact h1 h; omega), (hs.boxed h2 h3).1, (hs.boxed h2 h3).2, ⟨vt, (hs.boxed h4 h5).1, (hs.boxed h4 h5).2, (hs.owns h6 h7).1, (hs.owns h6 h7).2⟩, (hs.marks h9 h10).1, (hs.marks h9 h10).2, h11.trans hs.below⟩
        case hJx => exact fun _ _ _ _ _ _ _ h _ => h
        case h0 => exact ⟨g0, by omega, g1, by omega, ⟨_, g3, by omega, gown, (fun g hg => by have := gown.lt g hg; simp [Value.ownBlock] at hg; subst hg; omega)⟩, gmk, (fun D hD => by have := hDlt.out D hD; omega), gbl⟩
        case stop => exact fun _ _ _ _ _ _ _ _ _ h _ => h.elim
        case done =>
          rintro D S W hD hS hSD ⟨h0, h1, h2, h3, ⟨vt, h4, h5, h6, h7⟩, h9, h10, h11⟩ hKD
          obtain ⟨r1, r2, _, _⟩ := HROW.out _ (List.prefix_refl _)
          have R1 := Lib.hid r1
          have R2 := Lib.hid r2
          clear hS r1 r2
          gi_wp2
          refine HK.out f _ (D :: Ds) _ (by omega) (by simp only [over, List.foldl_cons, List.foldl_nil, List.set_cons_zero, List.set_cons_succ, List.getElem?_cons_zero, List.getElem?_cons_succ, Option.getD_some]) ⟨f - 1, (dfsRow (depL rows.length rows[x]) (inn, t0)).1, (dfsRow (depL rows.length rows[x]) (inn, t0)).2, vt, by omega, rfl, R1.out, by have := R2.out; omega, by omega, Lib.hid (by rw [← HF.out, HNEXT.out]), h0.out, h2, h4, h6, h9.cons hKD (fun d hd => Nat.lt_of_lt_of_le (hDlt.out d hd) (show p ≤ w6.heap.size by omega)) hD, (fun d hd => by
            rcases List.mem_cons.1 hd with rfl | hd
            · omega
            · exact HDs.out d hd), h11⟩
        case body =>
          rintro l S pre y W hS hw hl _ ⟨h0, h1, h2, h3, ⟨vt, h4, h5, h6, h7⟩, h9, h10, h11⟩ hpre
          have hmem : y ∈ depL rows.length rows[x] := hpre.subset (by simp)
          obtain ⟨Y, rfl, hY, _⟩ := depL_nat hmem
          obtain ⟨r1, r2, _, _⟩ := HROW.out pre (List.IsPrefix.trans (List.prefix_append _ _) hpre)
          have hlen1 : (dfsRow pre (inn, t0)).1.length = rows.length := r1.len
          have hlen2 : (dfsRow pre (inn, t0)).2.length ≤ rows.length + 1 := by simp only at r2; omega
          have HS := Lib.hid hS
          have HSN := Lib.hid (dfsRow_snoc pre (Y : Int) (inn, t0))
          clear hS hpre hmem r1 r2
          generalize hs : dfsRow pre (inn, t0) = s at *
          obtain ⟨s1, s2⟩ := s
          simp only at hlen1 hlen2 h0 h6
          have q1 := h2.cell
          have q3 := h4.cell
          have hYs : Y < s1.length := by omega
          have tcell : W.cell? ⟨w.heap.size, Y, none⟩ = some (.bool s1[Y]) := by
            simp only [World.cell?, h0.out, Option.bind_some]
            simp [bls, hYs]
          have tfr : W.frozen? ⟨w.heap.size, Y, none⟩ = false := by simp [World.frozen?, h0.out]
          have HG : Hid (gb s1 Y = s1[Y]) := Lib.hid (by unfold gb; simp [hYs])
          have hY' : (Y : Int) < rows.length := by omega
          obtain ⟨va, vc, rfl⟩ := (RdS.of_owns h6).form
          generalize s1[Y] = bt at *
          cases bt with
          | true =>
            have HE : Hid (dfsRow (pre ++ [(Y : Int)]) (inn, t0) = (s1, s2)) := Lib.hid (by rw [HSN.out]; unfold dfsStep; simp [HG.out])
            gi_wp2
            exact ⟨⟨by rw [HE.out]; exact h0, h1, h2, h3, ⟨_, h4, h5, by rw [HE.out]; exact h6, h7⟩, h9, h10, h11⟩, Keep.refl _ _ _⟩
          | false =>
            have HE : Hid (dfsRow (pre ++ [(Y : Int)]) (inn, t0) = (s1.set Y true, s2 ++ [Y])) := Lib.hid (by rw [HSN.out]; unfold dfsStep; simp [HG.out])
            have hset : (bls s1).toArray.setIfInBounds Y (.bool true) = (bls (s1.set Y true)).toArray := by simp [bls, List.map_set]
            have h0' := setCell_heap Y (.bool true) h0.out
            rw [hset] at h0'
            have H0 := Lib.hid h0'
            clear h0'
            have h2' : Boxed (W.setCell ⟨w.heap.size, Y, none⟩ (.bool true)) (w.heap.size + 1) 60 (.slice (some ⟨w.heap.size, 0, none⟩) rows.length rows.length) := (Below.heap_setCell _ _ _ _ (by simp)).trans h2
            have h4' : Boxed (W.setCell ⟨w.heap.size, Y, none⟩ (.bool true)) (w.heap.size + 1 + 1 + 1) 46 (.slice va s2.length vc) := (Below.heap_setCell _ _ _ _ (by simp; omega)).trans h4
            have h6' := own_set (i := Y) (.bool true) h6 (show w.heap.size < w.heap.size + 2 by omega)
            have h9' := h9.setCell (i := Y) h0.out (.bool true)
            have hk1 : Keep w.heap.size S W (W.setCell ⟨w.heap.size, Y, none⟩ (.bool true)) := ⟨(Below.refl _ W).setCell (p := ⟨w.heap.size, Y, none⟩) (Nat.le_refl _) _, fun j hj => Below.heap_setCell _ _ _ _ (fun e => h1 (by rw [show j = w.heap.size from e] at hj; exact hj))⟩
            have hW3 : w.heap.size + 1 + 1 + 1 < W.heap.size := h4.lt
            gi_wp2_with (gi_at_builtin; go_must (refine wpListIn_push rfl _ _ 46 rfl (w.heap.size + 2) 3 i0 (.int .i64 0) 1 8 Try.underlying46 hi hz0 hz1 hz2 rfl (by decide) _ _ _ rfl (h6'.alloc _) ⟨W.heap.size, 0, none⟩ 1 1 [_] rfl rfl (by first | exact cell_one_new _ _ _ | simpa using cell_one_new (W.setCell ⟨w.heap.size, Y, none⟩ (.bool true)) _ _) (by simp [Value.oneCell']) (by unfold maxLen; omega) (by omega) (by simp; omega) ?_; intro v' w5 hown' hgrow hfr; obtain ⟨g', cap', rfl⟩ := ownsRow_succ hown'; obtain ⟨hv1, hv2, hr2, hk2, hn2⟩ := boxed_pushed (n0 := w.heap.size) (S := S) h4' (by decide) h6' (by simp; omega) (by omega) (by omega) (fun j hj => by have := HS.out j hj; simpa using this) h5 h7 hown' hgrow hfr; have hc1 := hv1.cell; have hf1 := hv1.frozen))
            exact ⟨⟨Lib.hid (by rw [HE.out]; exact pushed_other hgrow H0.out (by omega) (own_ne h6' (by omega))), h1, pushed_other hgrow h2' (by omega) (own_ne h6' (by omega)), h3, ⟨_, hv2, h5, by rw [HE.out]; simpa [natI] using hr2, hn2⟩, (h9'.grown h6' _ hgrow).setCell hv1 _, h10, (h11.trans hk1.below).trans hk2.below⟩, hk1.trans hk2⟩
  · rw [befL_out hin]
    rcases (show i < 0 ∨ (0 ≤ i ∧ (rows.length : Int) ≤ i) by omega) with h1 | ⟨h1, h2⟩
    · have d1 : decide (i < 0) = true := by simpa using h1
      gi_wp2
      exact ⟨_, results_tmp rfl _ _ _, _, rfl, by simpa [ints] using World.ownsRow_nil w w.heap.size 3 1, Below.refl _ _⟩
    · have d1 : decide (i < 0) = false := by simpa using h1
      have d2 : decide ((rows.length : Int) ≤ i) = true := by simpa using h2
      gi_wp2
      exact ⟨_, results_tmp rfl _ _ _, _, rfl, by simpa [ints] using World.ownsRow_nil w w.heap.size 3 1, Below.refl _ _⟩
end Go.Proofs.Ytlpcagkknfajeaa
