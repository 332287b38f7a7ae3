/-
  graph.may: contract.
-/
import Derived.Test.YtlpcagkknfajeaaGc
import Derived.Test.YtlpcagkknfajeaaSc
import Derived.Shelf.Abstract
namespace Go.Proofs.Ytlpcagkknfajeaa
open Go.RowKit
attribute [local go_sem] Oper.semAt_some wide_fn wide_depth wide_fn' wide_depth'

def okT (there : List Bool) (j : Int) : Bool := decide (j.toNat < there.length) && there[j.toNat]?.getD false
theorem mayB_dep (rows : List (List Int)) (there : List Bool) (i : Nat) (hi : i < rows.length) : mayB rows there i = (depL rows.length rows[i]).all (okT there) := by
  unfold mayB depL
  rw [List.all_filter]
  simp only [List.getElem?_eq_getElem hi, Option.getD_some]
  rfl

set_option maxRecDepth 100000 in
set_option maxHeartbeats 1000000 in
theorem may_any (rows : List (List Int)) (there : List Bool) (i : Nat) (v vt : Value) (w : World) (hr : Rows2 w v rows) (ht : RdS w vt 1 there.length (bls there)) (hi : i < rows.length) :
    Calls Try.prog 37 #[v, vt, .int .i64 i] w fun e w' => e = .returned (.bool (mayB rows there i)) ∧ Below w.heap.size w w' := by
  rw [mayB_dep rows there i hi]
  have HT := Lib.hid ht
  have htl := rds_len ht
  have HR := Lib.hid hr
  have hlen : rows.length ≤ 9223372036854775807 := by obtain ⟨_, h1, _⟩ := hr; exact rds_len h1
  obtain ⟨a, cap, rfl⟩ := hr.form
  obtain ⟨ta, tc, rfl⟩ := ht.form
  clear hr ht
  refine (callsIn_wide (n := 0)).1 ?_
  refine callsIn_of_wp_marks Try.func37 rfl trivial ?_ rfl
  simp only [Try.ntmps37, List.size_toArray, List.length_cons, List.length_nil, Nat.reduceAdd, Nat.reduceSub, Array.replicate_succ, Array.replicate_zero, List.push_toArray, List.append_toArray, List.nil_append, List.cons_append]
  gi_wp2_with (gi_at_call 36; refine (callsIn_wide.2 (has_any _ ⟨_, _, _, rfl⟩ i _)).mono ?_; rintro e w1 ⟨rfl, rfl⟩)
  have hb0 : Boxed ((((w.alloc (Obj.cells #[Value.slice ta there.length tc] 60)).alloc (Obj.cells #[Value.bool false] 4)).alloc (Obj.cells #[Value.slice a rows.length cap] 41)).alloc (Obj.cells #[Value.int IntKind.i64 i] 3)) w.heap.size 60 (.slice ta there.length tc) :=
    (((Boxed.new w _ _).alloc _).alloc _).alloc _
  have hb1 : Boxed ((((w.alloc (Obj.cells #[Value.slice ta there.length tc] 60)).alloc (Obj.cells #[Value.bool false] 4)).alloc (Obj.cells #[Value.slice a rows.length cap] 41)).alloc (Obj.cells #[Value.int IntKind.i64 i] 3)) (w.heap.size + 1) 4 (.bool false) := by
    have := Boxed.new (w.alloc (Obj.cells #[Value.slice ta there.length tc] 60)) 4 (.bool false)
    rw [World.size_alloc] at this
    exact (this.alloc _).alloc _
  have hb2 : Boxed ((((w.alloc (Obj.cells #[Value.slice ta there.length tc] 60)).alloc (Obj.cells #[Value.bool false] 4)).alloc (Obj.cells #[Value.slice a rows.length cap] 41)).alloc (Obj.cells #[Value.int IntKind.i64 i] 3)) (w.heap.size + 1 + 1) 41 (.slice a rows.length cap) := by
    have := Boxed.new ((w.alloc (Obj.cells #[Value.slice ta there.length tc] 60)).alloc (Obj.cells #[Value.bool false] 4)) 41 (.slice a rows.length cap)
    rw [World.size_alloc, World.size_alloc] at this
    exact this.alloc _
  have hb3 : Boxed ((((w.alloc (Obj.cells #[Value.slice ta there.length tc] 60)).alloc (Obj.cells #[Value.bool false] 4)).alloc (Obj.cells #[Value.slice a rows.length cap] 41)).alloc (Obj.cells #[Value.int IntKind.i64 i] 3)) (w.heap.size + 1 + 1 + 1) 3 (.int .i64 i) := by
    have := Boxed.new (((w.alloc (Obj.cells #[Value.slice ta there.length tc] 60)).alloc (Obj.cells #[Value.bool false] 4)).alloc (Obj.cells #[Value.slice a rows.length cap] 41)) 3 (.int .i64 i)
    rw [World.size_alloc, World.size_alloc, World.size_alloc] at this
    exact this
  have hbl : Below w.heap.size w ((((w.alloc (Obj.cells #[Value.slice ta there.length tc] 60)).alloc (Obj.cells #[Value.bool false] 4)).alloc (Obj.cells #[Value.slice a rows.length cap] 41)).alloc (Obj.cells #[Value.int IntKind.i64 i] 3)) :=
    (((((Below.refl _ w).alloc (Nat.le_refl _) _).alloc (by simp) _).alloc (by simp; omega) _).alloc (by simp; omega) _)
  have hsz : ((((w.alloc (Obj.cells #[Value.slice ta there.length tc] 60)).alloc (Obj.cells #[Value.bool false] 4)).alloc (Obj.cells #[Value.slice a rows.length cap] 41)).alloc (Obj.cells #[Value.int IntKind.i64 i] 3)).heap.size = w.heap.size + 4 := by simp
  generalize ((((w.alloc (Obj.cells #[Value.slice ta there.length tc] 60)).alloc (Obj.cells #[Value.bool false] 4)).alloc (Obj.cells #[Value.slice a rows.length cap] 41)).alloc (Obj.cells #[Value.int IntKind.i64 i] 3)) = w4 at *
  have HB := Lib.hid hbl
  have HSZ := Lib.hid hsz
  refine wpIn_rf1 rfl (enters_of Try.func46 (by kernel_rfl) rfl) (has_iter rows i w.heap.size (w.heap.size + 1 + 1) (w.heap.size + 1 + 1 + 1) a cap w w4 hi (by omega) (by omega) (by omega) hb2 hb3 HR.out hbl (Nat.le_refl _)) (by omega) (by rintro j (rfl | rfl) <;> omega) (fun _ => rfl)
    (fun S pre W => pre.all (okT there) = true ∧ Boxed W w.heap.size 60 (.slice ta there.length tc) ∧ ¬ S w.heap.size ∧ Boxed W (w.heap.size + 1) 4 (.bool false) ∧ ¬ S (w.heap.size + 1) ∧ Below w.heap.size w W)
    (fun c S pre W => c = .ret ∧ (depL rows.length rows[i]).all (okT there) = false ∧ Boxed W (w.heap.size + 1) 4 (.bool false) ∧ ¬ S (w.heap.size + 1) ∧ Below w.heap.size w W) ?hfin ?hJ ?hJx ?h0 ?a1 ?assign ?body ?done ?stop
  case a1 =>
    exact fun x => { tmps := #[.slice a rows.length cap, .slice ta there.length tc, .int .i64 i, undef, .pointer (some ⟨w.heap.size, 0, none⟩), undef, .pointer (some ⟨w.heap.size + 1, 0, none⟩), .int .i64 x, .slice a rows.length cap, .int .i64 i, .func (.func 46) #[] #[.pointer (some ⟨w.heap.size + 1 + 1, 0, none⟩), .pointer (some ⟨w.heap.size + 1 + 1 + 1, 0, none⟩)], .int .i64 x, undef, undef, undef, undef, undef, undef, undef, undef, undef, undef, undef], defers := [] }
  case hfin => exact fun h => absurd trivial h
  case hJ =>
    rintro S S' s W W' hS ⟨h0, h1, h2, h3, h4, h5⟩ hs
    exact ⟨h0, (hs.boxed h1 h2).1, (hs.boxed h1 h2).2, (hs.boxed h3 h4).1, (hs.boxed h3 h4).2, h5.trans hs.below⟩
  case hJx =>
    rintro c S S' s W W' hS ⟨h0, h0', h1, h2, h5⟩ hs
    exact ⟨h0, h0', (hs.boxed h1 h2).1, (hs.boxed h1 h2).2, h5.trans hs.below⟩
  case h0 => exact ⟨rfl, hb0, by omega, hb1, by omega, hbl⟩
  case assign =>
    intro l x W K hK
    dsimp only [encZ]
    gi_wp2
    simpa using hK
  case body =>
    rintro l S pre x W hS hw hl _ ⟨h0, h1, h2, h3, h4, h5⟩ hpre
    have hmem : x ∈ depL rows.length rows[i] := hpre.subset (by simp)
    have hx0 : 0 ≤ x ∧ x < (rows.length : Int) := by
      have := (List.mem_filter.1 hmem).2; simpa [inB] using this
    obtain ⟨X, rfl⟩ : ∃ X : Nat, x = X := ⟨x.toNat, by omega⟩
    have HX := Lib.hid (show X < rows.length by omega)
    have HYES : Hid (okT there (X : Int) = true → (pre ++ [(X : Int)]).all (okT there) = true) := Lib.hid (fun h => by rw [List.all_append, h0]; simp [h])
    have HNO : Hid (okT there (X : Int) = false → (depL rows.length rows[i]).all (okT there) = false) := Lib.hid (fun h => by
      rw [Bool.eq_false_iff]; intro hc
      rw [List.all_eq_true] at hc
      rw [hc _ hmem] at h; cases h)
    have HPRE := Lib.hid hpre
    have HS := Lib.hid hS
    clear hS hpre hmem hw hx0
    have hc := h1.cell
    have hc3 := h3.cell
    have hf3 := h3.frozen
    by_cases hJt : X < there.length
    · obtain ⟨tg, toff, rfl, t1, t2, tcell0⟩ := bls_at HT.out hJt
      have tcell := cellB h5 tcell0
      have HO2 : Hid (okT there (X : Int) = there[X]) := Lib.hid (by unfold okT; simp [hJt])
      have d3 : decide ((there.length : Int) ≤ (X : Int)) = false := by simp; omega
      clear tcell0
      generalize there[X] = bt at *
      have hJt' : (X : Int) < there.length := by omega
      have h63 : (X : Int) ≤ 9223372036854775807 := by omega
      cases bt with
      | true =>
        have HK := Lib.hid (HYES.out HO2.out)
        gi_wp2
        exact ⟨⟨HK.out, h1, h2, h3, h4, h5⟩, Keep.refl _ _ _⟩
      | false =>
        have HK := Lib.hid (HNO.out HO2.out)
        gi_wp2
        refine ⟨⟨rfl, HK.out, h3.set _, h4, h5.setCell (by simp) _⟩, ⟨(Below.refl _ W).setCell (by simp) _, fun j hj => ?_⟩⟩
        rw [Below.heap_setCell _ _ _ _ (fun e => h4 (by rw [show j = w.heap.size + 1 from e] at hj; exact hj))]
    · have HO2 : Hid (okT there (X : Int) = false) := Lib.hid (by unfold okT; simp [hJt])
      have HK := Lib.hid (HNO.out HO2.out)
      have d3 : decide ((there.length : Int) ≤ (X : Int)) = true := by simp; omega
      gi_wp2
      refine ⟨⟨rfl, HK.out, h3.set _, h4, h5.setCell (by simp) _⟩, ⟨(Below.refl _ W).setCell (by simp) _, fun j hj => ?_⟩⟩
      rw [Below.heap_setCell _ _ _ _ (fun e => h4 (by rw [show j = w.heap.size + 1 from e] at hj; exact hj))]
  case done =>
    rintro D S W hD hS hSD ⟨h0, h1, h2, h3, h4, h5⟩ hK
    have hc3 := h3.cell
    have hf3 := h3.frozen
    have HS := Lib.hid hS
    clear hS
    gi_wp2
    have hS' := HS.out D hSD
    have hne : D ≠ w.heap.size + 1 := by omega
    have hk2 : (W.setCell ⟨w.heap.size + 1, 0, none⟩ (.bool true)).heap[D]? = some (.deferred (some [])) := by
      rw [Below.heap_setCell _ _ _ _ (fun e => hne e)]; exact hK
    have h6 : Boxed ((W.setCell ⟨w.heap.size + 1, 0, none⟩ (.bool true)).putObj D (.deferred none)) (w.heap.size + 1) 4 (.bool true) := (World.putObj_heap_other (by omega)).trans (h3.set (.bool true))
    have hc6 := h6.cell
    rw [h0]
    refine ⟨by simp, .inl ⟨_, _, rfl, run_takeDeferred hk2, ?_⟩⟩
    exact ⟨.bool true, by simp [results, Try.results37, go_sem, hc6], rfl, (h5.setCell (by simp) _).trans (below_putObj _ _ (by omega))⟩
  case stop =>
    rintro D c S pre W hD hS hSD hpre ⟨rfl, h0, h1, h2, h5⟩ hK
    have hc := h1.cell
    have HS := Lib.hid hS
    clear hS
    gi_wp2
    have h6 : Boxed (W.putObj D (.deferred none)) (w.heap.size + 1) 4 (.bool false) := (World.putObj_heap_other (by omega)).trans h1
    have hc6 := h6.cell
    rw [h0]
    refine ⟨by simp, .inl ⟨_, _, rfl, run_takeDeferred hK, ?_⟩⟩
    exact ⟨.bool false, by simp [results, Try.results37, go_sem, hc6], rfl, h5.trans (below_putObj _ _ (by omega))⟩
end Go.Proofs.Ytlpcagkknfajeaa
