/-
  backoff.Plan: contract.
-/
import Derived.Test.YtkaadkjbimaodaaBh
import Derived.Test.YtkaadkjbimaodaaPd
namespace Go.Proofs.Ytkaadkjbimaodaa
open Go.RowKit
attribute [local go_sem] Oper.semAt_some wide_fn wide_depth wide_fn' wide_depth'

theorem Try.infoWin : (Try.prog.info? 67).map (fun i => (i.zero, i.size, i.bytes)) = some (some (.agg #[.int .i64 0, .int .i64 0, .int .i64 0]), 3, 24) := by kernel_rfl

theorem cells_new3 (W : World) (a b c : Value) (t : TypeId) : ∀ j u, [a, b, c][j]? = some u → (W.alloc (.cells #[a, b, c] t)).cell? (Addr.add ⟨W.heap.size, 0, none⟩ j) = some u := by
  intro j u h
  rcases j with _ | _ | _ | j
  · simpa [Addr.add, World.cell?_alloc_new] using h
  · simpa [Addr.add, World.cell?_alloc_new] using h
  · simpa [Addr.add, World.cell?_alloc_new] using h
  · simp at h

set_option maxRecDepth 100000 in
set_option maxHeartbeats 1000000 in
theorem Plan_any (s0 s1 s2 : ByteArray) (af : Option Addr) (an ac : Nat) (m f k l : Int) (nk : Int) (nt : ByteArray) (ka : Option Addr) (kn kc : Nat) (da : Option Addr) (dn dc : Nat) (nl : Int) (now : Int) (w : World) :
    Calls Try.prog 39 #[stepV s0 s1 s2 af an ac m f k l nk nt ka kn kc da dn dc nl, .int .i64 now] w fun e w' =>
      ∃ v, e = .returned v ∧ w'.ownsRow w.heap.size 67 3 v (bMost m).toNat (wins (atI now) (limI l) f k (bMost m).toNat) ∧ Below w.heap.size w w' := by
  have hmn := @run_min2 Try.prog
  have hmx := @run_max2 Try.prog
  have hf5 := @field_step5
  have hf0 := @field_retry0
  have hlr := limI_range l
  have har := atI_range now
  have hMr := bMost_range m
  obtain ⟨L, hL⟩ : ∃ L, limI l = L := ⟨_, rfl⟩
  obtain ⟨A, hA⟩ : ∃ A, atI now = A := ⟨_, rfl⟩
  obtain ⟨M, hM⟩ : ∃ M, (bMost m).toNat = M := ⟨_, rfl⟩
  rw [hM, hL, hA]
  rw [hL] at hlr
  rw [hA] at har
  have HL := Lib.hid (show min (max (or0 l 100) 0) 10000 = L from hL)
  have HA := Lib.hid (show min (max now (-1099511627776)) 1099511627776 = A from hA)
  have HM := Lib.hid (show bMost m = (M : Int) by omega)
  clear hL hA hM
  refine (callsIn_wide (n := 0)).1 ?_
  refine callsIn_of_wp_marks Try.func39 rfl trivial ?_ rfl
  obtain ⟨i0, hi, hz0, hz1, hz2⟩ := info_parts Try.infoWin
  unfold stepV
  simp only [Try.ntmps39, List.size_toArray, List.length_cons, List.length_nil, Nat.reduceAdd, Nat.reduceSub, Array.replicate_succ, Array.replicate_zero, List.push_toArray, List.append_toArray, List.nil_append, List.cons_append]
  gi_wp2
  refine wpIn_scope ?_
  gi_wp2_with (first
    | (gi_at_call 50; refine (callsIn_wide.2 (Real_any _ _ _ _ _ _ m f k l _ _ _ _ _ _ _ _ _ _)).mono ?_; rintro e w1 ⟨rfl, hb1⟩; unfold stepV; have hsz01 : w.heap.size + 1 ≤ w1.heap.size := (by have := hb1.size; simpa using this); have hb : Below w.heap.size w w1 := ((Below.refl _ w).alloc (Nat.le_refl _) _).trans (hb1.mono (by simp)); have hbx := (hb1.block w.heap.size (by simp)).trans (World.alloc_heap_new w _); have hbx1 := (Below.heap_alloc w1 (Obj.cells #[.int .i64 (min (max (or0 l 100) 0) 10000)] 3) w.heap.size (Array.getElem?_eq_some_iff.1 hbx).1).trans hbx; clear hbx; obtain ⟨q4, q5, q6⟩ := cells13h hbx1)
    | (gi_at_call 49; refine (callsIn_wide.2 (meant_any m f k _)).mono ?_; rintro e w2 ⟨rfl, hb2⟩; unfold retryV; have hbl := Boxed.new w1 3 (.int .i64 (min (max (or0 l 100) 0) 10000)); rw [HL.out] at hb2 hbl hbx1 ⊢; clear q4 q5 q6 hb1))
  rw [HA.out, HM.out]
  have hsz12 : w1.heap.size + 1 ≤ w2.heap.size := by have := hb2.size; simpa using this
  have hlim : Boxed (((w2.alloc (Obj.cells #[Value.int .i64 M] 3)).alloc (Obj.cells #[Value.int .i64 A] 2)).alloc (Obj.cells #[Value.slice none 0 0] 61)) w1.heap.size 3 (.int .i64 L) := ((((show Boxed w2 w1.heap.size 3 (.int .i64 L) from (hb2.block _ (by simp)).trans hbl).alloc _).alloc _).alloc _)
  have hmost : Boxed (((w2.alloc (Obj.cells #[Value.int .i64 M] 3)).alloc (Obj.cells #[Value.int .i64 A] 2)).alloc (Obj.cells #[Value.slice none 0 0] 61)) w2.heap.size 3 (.int .i64 M) := ((Boxed.new w2 _ _).alloc _).alloc _
  have hat : Boxed (((w2.alloc (Obj.cells #[Value.int .i64 M] 3)).alloc (Obj.cells #[Value.int .i64 A] 2)).alloc (Obj.cells #[Value.slice none 0 0] 61)) (w2.heap.size + 1) 2 (.int .i64 A) := by
    have := Boxed.new (w2.alloc (Obj.cells #[Value.int .i64 M] 3)) 2 (.int .i64 A)
    rw [World.size_alloc] at this
    exact this.alloc _
  have hout : Boxed (((w2.alloc (Obj.cells #[Value.int .i64 M] 3)).alloc (Obj.cells #[Value.int .i64 A] 2)).alloc (Obj.cells #[Value.slice none 0 0] 61)) (w2.heap.size + 1 + 1) 61 (.slice none 0 0) := by
    have := Boxed.new ((w2.alloc (Obj.cells #[Value.int .i64 M] 3)).alloc (Obj.cells #[Value.int .i64 A] 2)) 61 (.slice none 0 0)
    rw [World.size_alloc, World.size_alloc] at this
    exact this
  have hst3 := (Below.heap_alloc _ (Obj.cells #[Value.slice none 0 0] 61) w.heap.size (by simp; omega)).trans ((Below.heap_alloc _ (Obj.cells #[Value.int .i64 A] 2) w.heap.size (by simp; omega)).trans ((Below.heap_alloc w2 (Obj.cells #[Value.int .i64 M] 3) w.heap.size (by omega)).trans ((hb2.block w.heap.size (by simp; omega)).trans hbx1)))
  have hb3 : Below w.heap.size w (((w2.alloc (Obj.cells #[Value.int .i64 M] 3)).alloc (Obj.cells #[Value.int .i64 A] 2)).alloc (Obj.cells #[Value.slice none 0 0] 61)) := ((((hb.alloc (by omega) _).trans (hb2.mono (by simp; omega))).alloc (by omega) _).alloc (by simp; omega) _).alloc (by simp; omega) _
  have hsz3 : (((w2.alloc (Obj.cells #[Value.int .i64 M] 3)).alloc (Obj.cells #[Value.int .i64 A] 2)).alloc (Obj.cells #[Value.slice none 0 0] 61)).heap.size = w2.heap.size + 3 := by simp
  generalize (((w2.alloc (Obj.cells #[Value.int .i64 M] 3)).alloc (Obj.cells #[Value.int .i64 A] 2)).alloc (Obj.cells #[Value.slice none 0 0] 61)) = w3 at *
  clear hbl hbx1 hb2 hb
  obtain ⟨q4, q5, q6⟩ := cells13h hst3
  clear hst3
  refine wpIn_label ?_
  gi_wp2_with (gi_at_call 47; refine (callsIn_wide.2 (waits_any m f k _)).mono ?_; rintro e w4 ⟨rfl, rfl⟩)
  have hlim := hlim.alloc (Obj.cells #[Value.int IntKind.i64 m, Value.int IntKind.i64 f, Value.int IntKind.i64 k] 23)
  have hmost := hmost.alloc (Obj.cells #[Value.int IntKind.i64 m, Value.int IntKind.i64 f, Value.int IntKind.i64 k] 23)
  have hat := hat.alloc (Obj.cells #[Value.int IntKind.i64 m, Value.int IntKind.i64 f, Value.int IntKind.i64 k] 23)
  have hout := hout.alloc (Obj.cells #[Value.int IntKind.i64 m, Value.int IntKind.i64 f, Value.int IntKind.i64 k] 23)
  have hcap : Boxed3 (w3.alloc (Obj.cells #[Value.int IntKind.i64 m, Value.int IntKind.i64 f, Value.int IntKind.i64 k] 23)) (w2.heap.size + 3) m f k := by
    have := World.alloc_heap_new w3 (Obj.cells #[Value.int IntKind.i64 m, Value.int IntKind.i64 f, Value.int IntKind.i64 k] 23)
    rw [hsz3] at this; exact this
  have hb4 := hb3.alloc (by omega) (Obj.cells #[Value.int IntKind.i64 m, Value.int IntKind.i64 f, Value.int IntKind.i64 k] 23)
  have hsz4 : (w3.alloc (Obj.cells #[Value.int IntKind.i64 m, Value.int IntKind.i64 f, Value.int IntKind.i64 k] 23)).heap.size = w2.heap.size + 4 := by simp [hsz3]
  generalize (w3.alloc (Obj.cells #[Value.int IntKind.i64 m, Value.int IntKind.i64 f, Value.int IntKind.i64 k] 23)) = w4 at *
  clear hb3 q4 q5 q6 hmn hmx hf5 hf0
  have HB4 := Lib.hid hb4
  clear hb4
  generalize hn : w2.heap.size = n at *
  generalize hd : w1.heap.size = d at *
  clear hn hd HL HA
  have hM10 : M ≤ 10 := by have := HM.out; omega
  clear hMr
  refine wpIn_rf1 rfl (enters_of Try.func60 (by kernel_rfl) rfl) (waits_iter m f k (n + 1) (n + 3) (M + 1) w4 (by omega) hcap) (by omega) (by rintro j rfl; omega) (fun _ => rfl)
    (fun S pre W => pre.length ≤ M ∧ Boxed W (n + 1) 2 (.int .i64 (planAt A L f k pre.length)) ∧ ¬ S (n + 1) ∧ ∃ v, Boxed W (n + 1 + 1) 61 v ∧ ¬ S (n + 1 + 1) ∧ W.ownsRow (n + 1) 67 3 v pre.length (wins A L f k pre.length) ∧ (∀ g, v.ownBlock = some g → ¬ S g) ∧ Below (n + 1) w4 W)
    (fun c S pre W => c = .exit 0 ∧ ∃ v, Boxed W (n + 1 + 1) 61 v ∧ ¬ S (n + 1 + 1) ∧ W.ownsRow (n + 1) 67 3 v M (wins A L f k M) ∧ (∀ g, v.ownBlock = some g → ¬ S g) ∧ Below (n + 1) w4 W) ?hfin ?hJ ?hJx ?h0 ?a1 ?assign ?body ?done ?stop
  case a1 =>
    exact fun x => { tmps := #[.agg #[.string s0, .string s1, .string s2, .slice af an ac, .int .i64 m, .int .i64 f, .int .i64 k, .int .i64 l, .int .u8 nk, .string nt, .slice ka kn kc, .slice da dn dc, .int .i64 nl],
      .int .i64 now, .pointer (some ⟨w.heap.size, 0, none⟩), undef, .slice none 0 0, .pointer (some ⟨d, 0, none⟩), .pointer (some ⟨n, 0, none⟩), .pointer (some ⟨n + 1, 0, none⟩), .pointer (some ⟨n + 1 + 1, 0, none⟩), .int .i64 x, undef,
      .agg #[.string s0, .string s1, .string s2, .slice af an ac, .int .i64 m, .int .i64 f, .int .i64 k, .int .i64 l, .int .u8 nk, .string nt, .slice ka kn kc, .slice da dn dc, .int .i64 nl],
      .agg #[.string s0, .string s1, .string s2, .slice af an ac, .int .i64 (or0 m 1), .int .i64 f, .int .i64 (or0 k 1), .int .i64 (or0 l 100), .int .u8 nk, .string nt, .slice ka kn kc, .slice da dn dc, .int .i64 nl],
      .int .i64 (or0 l 100), .int .i64 (max (or0 l 100) 0), .int .i64 L, .pointer (some ⟨w.heap.size, 4, none⟩), .agg #[.int .i64 m, .int .i64 f, .int .i64 k], .agg #[.int .i64 M, .int .i64 (bFirst f), .int .i64 (bFac k)], .int .i64 M, .int .i64 now, .int .i64 (max now (-1099511627776)),
      .int .i64 A, .pointer (some ⟨w.heap.size, 4, none⟩), .agg #[.int .i64 m, .int .i64 f, .int .i64 k], .func (.func 60) #[] #[.pointer (some ⟨n + 3, 0, none⟩)], .int .i64 x,
      undef, undef, undef, undef, undef, undef, undef, undef, undef, undef, undef, undef, undef, undef, undef, undef, undef, undef, undef, undef], defers := [] }
  case hfin => rintro _ S W ⟨h, _⟩; simp [bList_len] at h; omega
  case hJ =>
    rintro S S' s W W' hS ⟨h0, ha, hna, v, h1, h2, h3, h4, h5⟩ hs
    exact ⟨h0, (hs.boxed ha hna).1, (hs.boxed ha hna).2, v, (hs.boxed h1 h2).1, (hs.boxed h1 h2).2, (hs.owns h3 h4).1, (hs.owns h3 h4).2, h5.trans hs.below⟩
  case hJx =>
    rintro c S S' s W W' hS ⟨h0, v, h1, h2, h3, h4, h5⟩ hs
    exact ⟨h0, v, (hs.boxed h1 h2).1, (hs.boxed h1 h2).2, (hs.owns h3 h4).1, (hs.owns h3 h4).2, h5.trans hs.below⟩
  case h0 => exact ⟨by simp, by rw [List.length_nil, planAt_zero]; exact hat, by omega, .slice none 0 0, hout, by omega, World.ownsRow_nil _ _ _ _, by simp [Value.ownBlock], Below.refl _ _⟩
  case assign =>
    intro l x W K hK
    dsimp only [encI]
    gi_wp2
    exact hK
  case body =>
    rintro l S pre x W hS hw hl _ ⟨h0, ha, hna, v, h1, h2, h3, h4, h5⟩ hpre
    obtain ⟨hp, rfl, hlt⟩ := bList_next hpre
    have hlim' : Boxed W d 3 (.int .i64 L) := (h5.block _ (by omega)).trans hlim
    have hmost' : Boxed W n 3 (.int .i64 M) := (h5.block _ (by omega)).trans hmost
    have hW0 : n + 1 ≤ W.heap.size := by have := h5.size; omega
    obtain ⟨va, vc, rfl⟩ := (RdS.of_owns h3).form
    have q0 := h1.cell
    have q1 := hlim'.cell
    have q2 := hmost'.cell
    have q3 := ha.cell
    have hpr := planAt_range (f := f) (k := k) har hlr (show pre.length ≤ 10 by omega)
    have hsr := bSeq_range f k pre.length
    have HP := Lib.hid hp
    have HS := Lib.hid hS
    have HPN := Lib.hid (planAt_succ A L f k pre.length)
    clear hS hpre hw hp hat hout hlim hmost hcap hsz12 hsz01 hsz3 hsz4
    by_cases hm : pre.length = M
    · have hm1 : ((pre.length : Int) == M) = true := by simp; omega
      have HM' := Lib.hid hm
      clear hm
      gi_wp2
      rw [HM'.out] at h1 h3 h4
      exact ⟨⟨rfl, _, h1, h2, h3, h4, h5⟩, Keep.refl _ _ _⟩
    · have hm1 : ((pre.length : Int) == M) = false := by simp; omega
      gi_wp2_with (gi_at_builtin; go_must (refine wpListIn_push rfl _ _ 61 rfl (n + 1) 67 i0 (.agg #[.int .i64 0, .int .i64 0, .int .i64 0]) 3 24 Try.underlying61 hi hz0 hz1 hz2 rfl (by decide) _ _ _ rfl (h3.alloc _) ⟨W.heap.size, 0, none⟩ 1 1 [_, _, _] rfl rfl (cells_new3 _ _ _ _ _) (by simp [Value.oneCell']) (by unfold maxLen; omega) (by omega) (by simp; omega) ?_; intro v' w2 hown' hgrow hfr; obtain ⟨g', cap', rfl⟩ := ownsRow_succ hown'; obtain ⟨hv1, hv2, hr2, hk2, hn2⟩ := boxed_pushed (S := S) h1 (by decide) h3 hW0 (Nat.le_refl _) (by omega) HS.out h2 h4 hown' hgrow hfr; have hc1 := hv1.cell; have hf1 := hv1.frozen; have ha1 := ((ha.alloc _).kept hgrow (ha.not_row (by decide) h3)).other (B' := n + 1 + 1) (by omega) (Value.slice (some ⟨g', 0, none⟩) (pre.length + 1) cap'); have hc2 := ha1.cell; have hf2 := ha1.frozen))
      have hk3 := hk2.trans (⟨(Below.refl (n + 1) _).setCell (p := ⟨n + 1, 0, none⟩) (Nat.le_refl _) (Value.int .i64 (planAt A L f k pre.length + L + bSeq f k pre.length)), fun j hj => Below.heap_setCell _ _ _ _ (fun e => hna (by rw [show j = n + 1 from e] at hj; exact hj))⟩ : Keep (n + 1) S _ _)
      have hlen : (pre ++ [bSeq f k pre.length]).length = pre.length + 1 := by simp
      refine ⟨⟨by omega, ?_, hna, _, hv2.other (by omega) _, h2, ?_, hn2, h5.trans hk3.below⟩, hk3⟩
      · rw [hlen, ← HPN.out]
        exact ha1.set _
      · rw [hlen]
        exact hr2.kept (grownBy_setCell' _ _ _) (.inr (ha1.not_row (by decide) hr2).symm)
  case done =>
    rintro D S W hD hS hSD ⟨h, _⟩
    simp [bList_len] at h
    omega
  case stop =>
    rintro D c S pre W hD hS hSD hpre ⟨rfl, v, h1, h2, h3, h4, h5⟩ hK
    have hc := h1.cell
    have HS := Lib.hid hS
    clear hS hat hout hlim hmost hcap
    gi_wp2
    rw [Exit.noGoto_ret]
    refine ⟨by simp, .inl ⟨_, _, rfl, run_takeDeferred hK, ?_⟩⟩
    exact ⟨_, results_tmp rfl _ _ _, v, rfl, ownsRow_mono (ownsRow_putObj h3 _ hK rfl) (by omega), (HB4.out.trans (h5.mono (by omega))).trans (below_putObj _ _ (by omega))⟩
end Go.Proofs.Ytkaadkjbimaodaa
