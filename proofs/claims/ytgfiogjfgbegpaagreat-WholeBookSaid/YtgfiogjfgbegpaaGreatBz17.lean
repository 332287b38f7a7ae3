/-
  graph.may: contract.
-/
import Derived.Shelf.Abstract
import Derived.Laws.MakeOwn
import Derived.Sort.LoopGhostIn
import Derived.Test.YtgfiogjfgbegpaaGreatBz4
import Derived.Test.YtgfiogjfgbegpaaGreatBz7
import Derived.Test.YtgfiogjfgbegpaaGreatBz16
namespace Go.Proofs.YtgfiogjfgbegpaaGreat
open Go.RowKit
attribute [local go_sem] Oper.semAt_some wide_fn wide_depth wide_fn' wide_depth'

def okT (there : List Bool) (j : Int) : Bool := decide (j.toNat < there.length) && there[j.toNat]?.getD false
theorem mayB_dep (rows : List (List Int)) (there : List Bool) (i : Nat) (hi : i < rows.length) : mayB rows there i = (depL rows.length rows[i]).all (okT there) := by
  unfold mayB depL
  rw [List.all_filter]
  simp only [List.getElem?_eq_getElem hi, Option.getD_some]
  rfl

set_option maxRecDepth 100000 in
set_option maxHeartbeats 1000000 in
theorem may_any (rows : List (List Int)) (there : List Bool) (i : Nat) (v vt : Value) (w : World) (hr : Rows2 w v rows) (ht : RdS w vt 1 there.length (bls there)) (hi : i < rows.length) :
    Calls Tryz.prog 140 #[v, vt, .int .i64 i] w fun e w' => e = .returned (.bool (mayB rows there i)) ∧ Below w.heap.size w w' := by
  rw [mayB_dep rows there i hi]
  have HT := Lib.hid ht
  have htl := rds_len ht
  have HR := Lib.hid hr
  have hlen : rows.length ≤ 9223372036854775807 := by obtain ⟨_, h1, _⟩ := hr; exact rds_len h1
  obtain ⟨a, cap, rfl⟩ := hr.form
  obtain ⟨ta, tc, rfl⟩ := ht.form
  clear hr ht
  refine (callsIn_wide (n := 0)).1 ?_
  refine callsIn_of_wp_marks Tryz.func140 rfl trivial ?_ rfl
  simp only [Tryz.ntmps140, List.size_toArray, List.length_cons, List.length_nil, Nat.reduceAdd, Nat.reduceSub, Array.replicate_succ, Array.replicate_zero, List.push_toArray, List.append_toArray, List.nil_append, List.cons_append]
  gi_wp2_with (gi_at_call 168; refine (callsIn_wide.2 (has_any _ ⟨_, _, _, rfl⟩ i _)).mono ?_; rintro e w1 ⟨rfl, rfl⟩)
  have hb0 : Boxed ((((w.alloc (Obj.cells #[Value.slice ta there.length tc] 149)).alloc (Obj.cells #[Value.bool false] 4)).alloc (Obj.cells #[Value.slice a rows.length cap] 36)).alloc (Obj.cells #[Value.int IntKind.i64 i] 3)) w.heap.size 149 (.slice ta there.length tc) :=
    (((Boxed.new w _ _).alloc _).alloc _).alloc _
  have hb1 : Boxed ((((w.alloc (Obj.cells #[Value.slice ta there.length tc] 149)).alloc (Obj.cells #[Value.bool false] 4)).alloc (Obj.cells #[Value.slice a rows.length cap] 36)).alloc (Obj.cells #[Value.int IntKind.i64 i] 3)) (w.heap.size + 1) 4 (.bool false) := by
    have := Boxed.new (w.alloc (Obj.cells #[Value.slice ta there.length tc] 149)) 4 (.bool false)
    rw [World.size_alloc] at this
    exact (this.alloc _).alloc _
  have hb2 : Boxed ((((w.alloc (Obj.cells #[Value.slice ta there.length tc] 149)).alloc (Obj.cells #[Value.bool false] 4)).alloc (Obj.cells #[Value.slice a rows.length cap] 36)).alloc (Obj.cells #[Value.int IntKind.i64 i] 3)) (w.heap.size + 1 + 1) 36 (.slice a rows.length cap) := by
    have := Boxed.new ((w.alloc (Obj.cells #[Value.slice ta there.length tc] 149)).alloc (Obj.cells #[Value.bool false] 4)) 36 (.slice a rows.length cap)
    rw [World.size_alloc, World.size_alloc] at this
    exact this.alloc _
  have hb3 : Boxed ((((w.alloc (Obj.cells #[Value.slice ta there.length tc] 149)).alloc (Obj.cells #[Value.bool false] 4)).alloc (Obj.cells #[Value.slice a rows.length cap] 36)).alloc (Obj.cells #[Value.int IntKind.i64 i] 3)) (w.heap.size + 1 + 1 + 1) 3 (.int .i64 i) := by
    have := Boxed.new (((w.alloc (Obj.cells #[Value.slice ta there.length tc] 149)).alloc (Obj.cells #[Value.bool false] 4)).alloc (Obj.cells #[Value.slice a rows.length cap] 36)) 3 (.int .i64 i)
    rw [World.size_alloc, World.size_alloc, World.size_alloc] at this
    exact this
  have hbl : Below w.heap.size w ((((w.alloc (Obj.cells #[Value.slice ta there.length tc] 149)).alloc (Obj.cells #[Value.bool false] 4)).alloc (Obj.cells #[Value.slice a rows.length cap] 36)).alloc (Obj.cells #[Value.int IntKind.i64 i] 3)) :=
    (((((Below.refl _ w).alloc (Nat.le_refl _) _).alloc (by simp) _).alloc (by simp; omega) _).alloc (by simp; omega) _)
  have hsz : ((((w.alloc (Obj.cells #[Value.slice ta there.length tc] 149)).alloc (Obj.cells #[Value.bool false] 4)).alloc (Obj.cells #[Value.slice a rows.length cap] 36)).alloc (Obj.cells #[Value.int IntKind.i64 i] 3)).heap.size = w.heap.size + 4 := by simp
  generalize ((((w.alloc (Obj.cells #[Value.slice ta there.length tc] 149)).alloc (Obj.cells #[Value.bool false] 4)).alloc (Obj.cells #[Value.slice a rows.length cap] 36)).alloc (Obj.cells #[Value.int IntKind.i64 i] 3)) = w4 at *
  have HB := Lib.hid hbl
  have HSZ := Lib.hid hsz
  refine wpIn_rf1 rfl (enters_of Tryz.func182 (by kernel_rfl) rfl) (has_iter rows i w.heap.size (w.heap.size + 1 + 1) (w.heap.size + 1 + 1 + 1) a cap w w4 hi (by omega) (by omega) (by omega) hb2 hb3 HR.out hbl (Nat.le_refl _)) (by omega) (by rintro j (rfl | rfl) <;> omega) (fun _ => rfl)
    (fun S pre W => pre.all (okT there) = true ∧ Boxed W w.heap.size 149 (.slice ta there.length tc) ∧ ¬ S w.heap.size ∧ Boxed W (w.heap.size + 1) 4 (.bool false) ∧ ¬ S (w.heap.size + 1) ∧ Below w.heap.size w W)
    (fun c S pre W => c = .ret ∧ (depL rows.length rows[i]).all (okT there) = false ∧ Boxed W (w.heap.size + 1) 4 (.bool false) ∧ ¬ S (w.heap.size + 1) ∧ Below w.heap.size w W) ?hfin ?hJ ?hJx ?h0 ?a1 ?assign ?body ?done ?stop
  case a1 =>
    exact fun x => { tmps := #[.slice a rows.length cap, .slice ta there.length tc, .int .i64 i, undef, .pointer (some ⟨w.heap.size, 0, none⟩), undef, .pointer (some ⟨w.heap.size + 1, 0, none⟩), .int .i64 x, .slice a rows.length cap, .int .i64 i, .func (.func 182) #[] #[.pointer (some ⟨w.heap.size + 1 + 1, 0, none⟩), .pointer (some ⟨w.heap.size + 1 + 1 + 1, 0, none⟩)], .int .i64 x, undef, undef, undef, undef, undef, undef, undef, undef, undef, undef, undef], defers := [] }
  case hfin => exact fun h => absurd trivial h
  case hJ =>
    rintro S S' s W W' hS ⟨h0, h1, h2, h3, h4, h5⟩ hs
    exact ⟨h0, (hs.boxed h1 h2).1, (hs.boxed h1 h2).2, (hs.boxed h3 h4).1, (hs.boxed h3 h4).2, h5.trans hs.below⟩
  case hJx =>
    rintro c S S' s W W' hS ⟨h0, h0', h1, h2, h5⟩ hs
    exact ⟨h0, h0', (hs.boxed h1 h2).1, (hs.boxed h1 h2).2, h5.trans hs.below⟩
  case h0 => exact ⟨rfl, hb0, by omega, hb1, by omega, hbl⟩
  case assign =>
    intro l x W K hK
    dsimp only [encZ]
    gi_wp2
    simpa using hK
  case body =>
    rintro l S pre x W hS hw hl _ ⟨h0, h1, h2, h3, h4, h5⟩ hpre
    have hmem : x ∈ depL rows.length rows[i] := hpre.subset (by simp)
    have hx0 : 0 ≤ x ∧ x < (rows.length : Int) := by
      have := (List.mem_filter.1 hmem).2; simpa [inB] using this
    obtain ⟨X, rfl⟩ : ∃ X : Nat, x = X := ⟨x.toNat, by omega⟩
    have HX := Lib.hid (show X < rows.length by omega)
    have HYES : Hid (okT there (X : Int) = true → (pre ++ [(X : Int)]).all (okT there) = true) := Lib.hid (fun h => by rw [List.all_append, h0]; simp [h])
    have HNO : Hid (okT there (X : Int) = false → (depL rows.length rows[i]).all (okT there) = false) := Lib.hid (fun h => by
      rw [Bool.eq_false_iff]; intro hc
      rw [List.all_eq_true] at hc
      rw [hc _ hmem] at h; cases h)
    have HPRE := Lib.hid hpre
    have HS := Lib.hid hS
    clear hS hpre hmem hw hx0
    have hc := h1.cell
    have hc3 := h3.cell
    have hf3 := h3.frozen
    by_cases hJt : X < there.length
    · obtain ⟨tg, toff, rfl, t1, t2, tcell0⟩ := bls_at HT.out hJt
      have tcell := cellB h5 tcell0
      have HO2 : Hid (okT there (X : Int) = there[X]) := Lib.hid (by unfold okT; simp [hJt])
      have d3 : decide ((there.length : Int) ≤ (X : Int)) = false := by simp; omega
      clear tcell0
      generalize there[X] = bt at *
      have hJt' : (X : Int) < there.length := by omega
      have h63 : (X : Int) ≤ 9223372036854775807 := by omega
      cases bt with
      | true =>
        have HK := Lib.hid (HYES.out HO2.out)
        gi_wp2
        exact ⟨⟨HK.out, h1, h2, h3, h4, h5⟩, Keep.refl _ _ _⟩
      | false =>
        have HK := Lib.hid (HNO.out HO2.out)
        gi_wp2
        refine ⟨⟨rfl, HK.out, h3.set _, h4, h5.setCell (by simp) _⟩, ⟨(Below.refl _ W).setCell (by simp) _, fun j hj => ?_⟩⟩
        rw [Below.heap_setCell _ _ _ _ (fun e => h4 (by rw [show j = w.heap.size + 1 from e] at hj; exact hj))]
    · have HO2 : Hid (okT there (X : Int) = false) := Lib.hid (by unfold okT; simp [hJt])
      have HK := Lib.hid (HNO.out HO2.out)
      have d3 : decide ((there.length : Int) ≤ (X : Int)) = true := by simp; omega
      gi_wp2
      refine ⟨⟨rfl, HK.out, h3.set _, h4, h5.setCell (by simp) _⟩, ⟨(Below.refl _ W).setCell (by simp) _, fun j hj => ?_⟩⟩
      rw [Below.heap_setCell _ _ _ _ (fun e => h4 (by rw [show j = w.heap.size + 1 from e] at hj; exact hj))]
  case done =>
    rintro D S W hD hS hSD ⟨h0, h1, h2, h3, h4, h5⟩ hK
    have hc3 := h3.cell
    have hf3 := h3.frozen
    have HS := Lib.hid hS
    clear hS
    gi_wp2
    have hS' := HS.out D hSD
    have hne : D ≠ w.heap.size + 1 := by omega
    have hk2 : (W.setCell ⟨w.heap.size + 1, 0, none⟩ (.bool true)).heap[D]? = some (.deferred (some [])) := by
      rw [Below.heap_setCell _ _ _ _ (fun e => hne e)]; exact hK
    have h6 : Boxed ((W.setCell ⟨w.heap.size + 1, 0, none⟩ (.bool true)).putObj D (.deferred none)) (w.heap.size + 1) 4 (.bool true) := (World.putObj_heap_other (by omega)).trans (h3.set (.bool true))
    have hc6 := h6.cell
    rw [h0]
    refine ⟨by simp, .inl ⟨_, _, rfl, run_takeDeferred hk2, ?_⟩⟩
    exact ⟨.bool true, by simp [results, Tryz.results140, go_sem, hc6], rfl, (h5.setCell (by simp) _).trans (below_putObj _ _ (by omega))⟩
  case stop =>
    rintro D c S pre W hD hS hSD hpre ⟨rfl, h0, h1, h2, h5⟩ hK
    have hc := h1.cell
    have HS := Lib.hid hS
    clear hS
    gi_wp2
    have h6 : Boxed (W.putObj D (.deferred none)) (w.heap.size + 1) 4 (.bool false) := (World.putObj_heap_other (by omega)).trans h1
    have hc6 := h6.cell
    rw [h0]
    refine ⟨by simp, .inl ⟨_, _, rfl, run_takeDeferred hK, ?_⟩⟩
    exact ⟨.bool false, by simp [results, Tryz.results140, go_sem, hc6], rfl, h5.trans (below_putObj _ _ (by omega))⟩
end Go.Proofs.YtgfiogjfgbegpaaGreat

/-
  graph.Ready: contract.
-/
namespace Go.Proofs.YtgfiogjfgbegpaaGreat
open Go.RowKit

def thereB (there : List Bool) (i : Nat) : Bool := decide (i < there.length) && there[i]?.getD false
def rdyB (rows : List (List Int)) (there : List Bool) (i : Nat) : Bool := !thereB there i && mayB rows there i
theorem Tryz.info_i64g : (Tryz.prog.info? 3).map (fun i => (i.zero, i.size, i.bytes)) = some (some (.int .i64 0), 1, 8) := by kernel_rfl

end Go.Proofs.YtgfiogjfgbegpaaGreat

/-
  graph.Order: contract.
-/
namespace Go.Proofs.YtgfiogjfgbegpaaGreat
open Go.RowKit
attribute [local go_sem] Oper.semAt_some wide_fn wide_depth wide_fn' wide_depth'

def ordF (rows : List (List Int)) : Nat → List Bool × List Nat → List Bool × List Nat
  | 0, s => s
  | f + 1, (th, out) => match (List.range rows.length).find? (rdyB rows th) with
    | none => (th, out)
    | some i => ordF rows f (th.set i true, out ++ [i])
def ordO (rows : List (List Int)) : List Nat := (ordF rows rows.length (List.replicate rows.length false, [])).2
def natI (l : List Nat) : List Value := l.map fun (j : Nat) => Value.int .i64 (j : Int)

theorem ordF_none {rows : List (List Int)} {f : Nat} {th : List Bool} {out : List Nat} (h : (List.range rows.length).find? (rdyB rows th) = none) : ordF rows f (th, out) = (th, out) := by
  cases f with
  | zero => rfl
  | succ f => simp only [ordF, h]
theorem find_none {p : Nat → Bool} {n : Nat} (h : ∀ j, j < n → p j = false) : (List.range n).find? p = none := by
  rw [List.find?_eq_none]
  intro x hx
  rw [h x (List.mem_range.1 hx)]
  simp
theorem find_some {p : Nat → Bool} {n k : Nat} (hk : k < n) (h : ∀ j, j < k → p j = false) (hp : p k = true) : (List.range n).find? p = some k := by
  obtain ⟨m, rfl⟩ : ∃ m, n = k + (m + 1) := ⟨n - k - 1, by omega⟩
  rw [List.range_add, List.find?_append, find_none h, Option.none_or, List.range_succ_eq_map]
  simp [hp]

theorem madeFalse (n : Nat) : madeCells #[Value.bool false] n = (bls (List.replicate n false)).toArray := by
  apply Array.ext
  · simp [madeCells, bls]
  · intro i h1 h2
    simp [madeCells, bls, Nat.mod_one]

theorem Tryz.info_boolg : (Tryz.prog.info? 4).map (fun i => (i.zero, i.size, i.bytes)) = some (some (.bool false), 1, 1) := by kernel_rfl
theorem make_bools (n : Nat) (w : World) (h : n ≤ 1073741824) : (Instr.makeSlice 149 (.int .i64 n) (.int .i64 n)).run Tryz.prog w = .ok (.slice (some ⟨w.heap.size, 0, none⟩) n n) (w.alloc (.cells (bls (List.replicate n false)).toArray 4)) := by
  obtain ⟨i0, hi, hz0, hz1, hz2⟩ := info_parts Tryz.info_boolg
  have := run_make (P := Tryz.prog) w 149 4 i0 (.bool false) Tryz.underlying149 hi hz0 .i64 .i64 n n (by omega) (by omega) (by rw [hz2]; omega) (by omega)
  rw [this, hz1]
  simp only [Int.toNat_natCast, Nat.mul_one]
  rw [show (Value.bool false).cells = #[.bool false] from rfl, madeFalse]

theorem bools_rds {W : World} {g : Nat} {th : List Bool} {fr : Nat × Nat} (h : W.heap[g]? = some (.cells (bls th).toArray 4 fr)) (hl : th.length ≤ 1073741824) : RdS W (.slice (some ⟨g, 0, none⟩) th.length th.length) 1 th.length (bls th) := by
  refine ⟨by simp [bls], _, _, rfl, Nat.le_refl _, by unfold maxLen; omega, .inr ⟨g, 0, rfl, fun i c hi => ?_⟩⟩
  simp only [World.cell?, h, Nat.zero_add]
  simpa using hi

theorem own_set {W : World} {base : Nat} {e : TypeId} {size n : Nat} {v : Value} {xs : List Value} {B i : Nat} (x : Value) (h : W.ownsRow base e size v n xs) (hB : B < base) : (W.setCell ⟨B, i, none⟩ x).ownsRow base e size v n xs :=
  h.kept (row := some B) ⟨rfl, rfl, rfl, (KeepsWalks.setCell W _ x).size, fun k _ hk => Below.heap_setCell _ _ _ k (fun e => hk (by rw [e]))⟩ (.inr (fun e => by have := (h.lt B e).1; omega))

set_option maxRecDepth 100000 in
set_option maxHeartbeats 1000000 in
theorem Order_any (rows : List (List Int)) (v : Value) (w : World) (hr : Rows2 w v rows) (hlen : rows.length ≤ 1073741824) :
    Calls Tryz.prog 121 #[v] w fun e w' => ∃ v', e = .returned (.tuple #[v', .bool (decide ((ordO rows).length = rows.length))]) ∧ w'.ownsRow w.heap.size 3 1 v' (ordO rows).length (natI (ordO rows)) ∧ Below w.heap.size w w' := by
  obtain ⟨i0, hi, hz0, hz1, hz2⟩ := info_parts Tryz.info_i64g
  have HR := Lib.hid hr
  obtain ⟨a, cap, rfl⟩ := hr.form
  clear hr
  have hmk : ∀ w : World, (Instr.makeSlice 149 (.int .i64 rows.length) (.int .i64 rows.length)).run Tryz.prog w = .ok (.slice (some ⟨w.heap.size, 0, none⟩) rows.length rows.length) (w.alloc (.cells (bls (List.replicate rows.length false)).toArray 4)) := fun w => make_bools rows.length w hlen
  refine (callsIn_wide (n := 0)).1 ?_
  refine callsIn_of_wp Tryz.func121 rfl trivial ?_ rfl
  simp only [Tryz.ntmps121, List.size_toArray, List.length_cons, List.length_nil, Nat.reduceAdd, Nat.reduceSub, Array.replicate_succ, Array.replicate_zero, List.push_toArray, List.append_toArray, List.nil_append, List.cons_append]
  gi_wp2
  refine wpIn_scope ?_
  gi_wp2
  clear hmk
  refine wpIn_label ?_
  have hrow0 : (w.alloc (.cells (bls (List.replicate rows.length false)).toArray 4)).heap[w.heap.size]? = some (.cells (bls (List.replicate rows.length false)).toArray 4 (0, 0)) := World.alloc_heap_new w _
  have hbl0 : Below w.heap.size w (w.alloc (.cells (bls (List.replicate rows.length false)).toArray 4)) := (Below.refl _ w).alloc (Nat.le_refl _) _
  generalize w.alloc (.cells (bls (List.replicate rows.length false)).toArray 4) = w1 at *
  have HROW := Lib.hid hrow0
  clear hrow0
  gi_wp2
  gi_loopg [5] (rows.length + 1) (fun gk out wr => ∃ (th : List Bool) (ol : List Nat), ol.length + gk = rows.length + 1 ∧ ol.length ≤ rows.length ∧ th.length = rows.length ∧ Hid (wr.heap[w.heap.size]? = some (.cells (bls th).toArray 4 (0, 0))) ∧ wr.ownsRow (w.heap.size + 1) 3 1 out ol.length (natI ol) ∧ Hid (ordF rows (rows.length - ol.length) (th, ol) = ordF rows rows.length (List.replicate rows.length false, [])) ∧ Below w.heap.size w wr)
  case atStart => exact ⟨_, [], by simp, by simp, by simp, HROW, by simpa [natI] using World.ownsRow_nil w1 (w.heap.size + 1) 3 1, Lib.hid (by simp), hbl0⟩
  case round =>
    obtain ⟨th, ol, hg, hol, hth, HB, hown, HO, hb⟩ := hrel
    have hgk : gk = rows.length + 1 - ol.length := by omega
    subst hgk
    clear hg HROW
    rename World => wo
    obtain ⟨oa, oc, rfl⟩ := (RdS.of_owns hown).form
    by_cases hfull : ol.length = rows.length
    · have HE : Hid (ordO rows = ol) := Lib.hid (by have := HO.out; rw [hfull, Nat.sub_self] at this; unfold ordO; rw [← this]; rfl)
      gi_wp2
      rw [Exit.noGoto_ret]
      gi_wp2
      rw [HE.out]
      refine bodyPost_ret (results_tmp2 rfl _ _ _) rfl ⟨.slice oa ol.length oc, ?_, ownsRow_mono hown (by omega), hb⟩
      simp [hfull]
    · have hlt : ol.length < rows.length := by omega
      have hlt' : (ol.length : Int) < rows.length := by omega
      have HL := Lib.hid hfull
      clear hfull
      gi_wp2
      gi_loopg [5, 17] (rows.length + 1) (fun gk out i wi => ∃ k : Nat, k + gk = rows.length + 1 ∧ k ≤ rows.length ∧ out = .slice oa ol.length oc ∧ i = .int .i64 k ∧ Below wo.heap.size wo wi ∧ Hid (∀ j, j < k → rdyB rows th j = false)) 
      case atStart => exact ⟨0, by omega, by omega, rfl, rfl, Below.refl _ _, Lib.hid (fun j h => by omega)⟩
      case round =>
        obtain ⟨k, hkg, hk, rfl, rfl, hbi, HA⟩ := hrel
        have hgk : gk = rows.length + 1 - k := by omega
        subst hgk
        clear hkg
        have HBI : Hid (wr.heap[w.heap.size]? = some (.cells (bls th).toArray 4 (0, 0))) := Lib.hid (by have h := HB.out; rw [hbi.block _ (Array.getElem?_eq_some_iff.1 h).1]; exact h)
        have HSZ : Hid (w.heap.size < wo.heap.size) := Lib.hid (Array.getElem?_eq_some_iff.1 HB.out).1
        have hbw : Below w.heap.size w wr := bthen hb (Nat.le_refl _) hbi
        by_cases hkn : k < rows.length
        · have hkn' : (k : Int) < rows.length := by omega
          have hkt : k < th.length := by omega
          have HM : Hid (∀ W : World, W = wr → Calls Tryz.prog 140 #[.slice a rows.length cap, .slice (some ⟨w.heap.size, 0, none⟩) rows.length rows.length, .int .i64 k] W fun e w' => e = .returned (.bool (mayB rows th k)) ∧ Below W.heap.size W w') :=
            Lib.hid (fun W hW => by subst hW; exact may_any rows th k _ _ W (HR.out.below hbw) (by rw [← hth]; exact bools_rds HBI.out (by omega)) hkn)
          have tcell : wr.cell? ⟨w.heap.size, k, none⟩ = some (.bool th[k]) := by
            simp only [World.cell?, HBI.out]
            simp [bls, hkt]
          have HBD : Hid (rdyB rows th k = (!th[k] && mayB rows th k)) := Lib.hid (by unfold rdyB thereB; simp [hkt])
          have HNO : Hid (rdyB rows th k = false → ∀ j, j < k + 1 → rdyB rows th j = false) := Lib.hid (fun h j hj => by
            rcases Nat.lt_or_ge j k with h' | h'
            · exact HA.out j h'
            · have : j = k := by omega
              subst this; exact h)
          have HYES : Hid (rdyB rows th k = true → ordF rows (rows.length - ol.length) (th, ol) = ordF rows (rows.length - (ol.length + 1)) (th.set k true, ol ++ [k])) := Lib.hid (fun h => by
            obtain ⟨m, hm⟩ : ∃ m, rows.length - ol.length = m + 1 := ⟨rows.length - ol.length - 1, by omega⟩
            have hm2 : rows.length - (ol.length + 1) = m := by omega
            rw [hm, hm2]
            simp only [ordF, find_some hkn HA.out h])
          generalize mayB rows th k = m at *
          generalize th[k] = bt at *
          cases bt with
          | true =>
            have HK := Lib.hid (HNO.out (by rw [HBD.out]; rfl))
            gi_wp2
            gi_roundg (rows.length + 1 - (k + 1))
            case measure => omega
            case rel => exact ⟨k + 1, by omega, by omega, rfl, by go_num, hbi, HK⟩
          | false =>
            cases m with
            | false =>
              have HK := Lib.hid (HNO.out (by rw [HBD.out]; rfl))
              gi_wp2_with (gi_at_call 140; refine (callsIn_wide.2 (HM.out _ rfl)).mono ?_; rintro e w3 ⟨rfl, hb3⟩)
              gi_roundg (rows.length + 1 - (k + 1))
              case measure => omega
              case rel => exact ⟨k + 1, by omega, by omega, rfl, by go_num, bthen hbi (Nat.le_refl _) hb3, HK⟩
            | true =>
              have HK := Lib.hid (HYES.out (by rw [HBD.out]; rfl))
              gi_wp2_with (first | (gi_at_call 140; refine (callsIn_wide.2 (HM.out _ rfl)).mono ?_; rintro e w3 ⟨rfl, hb3⟩; have hB3 := (hb3.block _ (Array.getElem?_eq_some_iff.1 HBI.out).1).trans HBI.out; have HB4 := Lib.hid (setCell_heap k (.bool true) hB3); have hc3 : w3.cell? ⟨w.heap.size, k, none⟩ = some (.bool false) := cellB hb3 tcell; have hf3 : w3.frozen? ⟨w.heap.size, k, none⟩ = false := (by simp [World.frozen?, hB3]); clear hB3) | (gi_at_builtin; go_must (refine wpListIn_push rfl _ _ 38 rfl (w.heap.size + 1) 3 i0 (.int .i64 0) 1 8 Tryz.underlying38 hi hz0 hz1 hz2 rfl (by decide) _ _ _ rfl ((own_set (.bool true) (ownsB (ownsB hown hbi) hb3) (Nat.lt_succ_self _)).alloc _) ⟨w3.heap.size, 0, none⟩ 1 1 [_] rfl rfl (by first | exact cell_one_new _ _ _ | simpa using cell_one_new (w3.setCell ⟨w.heap.size, k, none⟩ (.bool true)) _ _) (by simp [Value.oneCell']) (by unfold maxLen; omega) (by omega) (by have := (HSZ.out); have := hb3.size; have := hbi.size; simp; omega) ?_; intro v' w5 hown' hgrow hfr)))
              have hgrow : ((w3.setCell ⟨w.heap.size, k, none⟩ (.bool true)).alloc _).grownBy w5 (Value.slice oa ol.length oc).ownBlock := hgrow
              have hset : (bls th).toArray.setIfInBounds k (.bool true) = (bls (th.set k true)).toArray := by simp [bls, List.map_set]
              have HB5 := Lib.hid (kept_push HB4.out hgrow (fun e => by have := (hown.lt _ e).1; omega))
              rw [hset] at HB5
              gi_roundg (rows.length + 1 - (ol.length + 1))
              case measure => omega
              case rel => exact ⟨th.set k true, ol ++ [k], by simp; omega, by simp; omega, by simpa using hth, HB5, by simpa [natI] using hown', Lib.hid (by rw [List.length_append, List.length_singleton, ← HK.out]; exact HO.out), below_push ((bthen hbw (Nat.le_refl _) hb3).setCell (p := ⟨w.heap.size, k, none⟩) (Nat.le_refl _) _) (by have := HSZ.out; have := hb3.size; have := hbi.size; simp; omega) (own_set (.bool true) (ownsB (ownsB hown hbi) hb3) (Nat.lt_succ_self _)) (Nat.le_succ _) hgrow⟩
        · have hd : ∀ j, j < rows.length → rdyB rows th j = false := fun j hj => HA.out j (by omega)
          have HE : Hid (ordO rows = ol) := Lib.hid (by have := HO.out; rw [ordF_none (find_none hd)] at this; unfold ordO; rw [← this])
          have hkk : k = rows.length := by omega
          clear hd
          gi_wp2
          rw [Exit.noGoto_ret]
          gi_wp2
          have hne : ((ol.length : Int) == (rows.length : Int)) = decide (ol.length = rows.length) := by rw [Bool.eq_iff_iff]; simp; try omega
          rw [HE.out]
          refine bodyPost_ret (results_tmp2 rfl _ _ _) rfl ⟨.slice oa ol.length oc, ?_, ownsRow_mono (ownsB hown hbi) (by omega), hbw⟩
          simp [hne]
end Go.Proofs.YtgfiogjfgbegpaaGreat

/-
  graph: the reference's Order: contract.
-/
namespace Go.Proofs.YtgfiogjfgbegpaaGreat
open Go.RowKit

end Go.Proofs.YtgfiogjfgbegpaaGreat

/-
  slices.Index and slices.Contains on numbers; graph.Round: contracts.
-/
namespace Go.Proofs.YtgfiogjfgbegpaaGreat
open Go.RowKit

set_option maxRecDepth 100000 in
theorem Index_any (l : List Int) (x : Int) (v : Value) (w : World) (h : RdS w v 1 l.length (ints .i64 l)) :
    Calls Tryz.prog 77 #[v, .int .i64 x] w fun e w' => (∃ r : Int, e = .returned (.int .i64 r) ∧ (0 ≤ r ↔ x ∈ l)) ∧ w = w' := by
  have H := Lib.hid h
  have hl := rds_len h
  obtain ⟨a, cap, rfl⟩ := h.form
  clear h
  go_enter Tryz.func77, Tryz.ntmps77
  go_wp2
  go_loop [8] (fun i => ∃ k : Nat, k ≤ l.length ∧ i = .int .i64 k ∧ Hid (¬ x ∈ l.take k)) (fun i => l.length - (intOf i).toNat)
  case atStart => exact ⟨0, by omega, rfl, Lib.hid (by simp)⟩
  case round =>
    obtain ⟨k, hk, rfl, HA⟩ := hrel
    by_cases hlt : k < l.length
    · obtain ⟨g, off, rfl, h1, h2, hcell⟩ := ints_at H.out hlt
      have HT := Lib.hid (take_snocG l k hlt)
      have HM := Lib.hid (List.getElem_mem hlt)
      generalize l[k] = y at *
      have hlt' : (k : Int) < l.length := by omega
      by_cases hxy : x = y
      · subst hxy
        go_wp2
        go_ret
        exact ⟨⟨_, rfl, ⟨fun _ => HM.out, fun _ => by omega⟩⟩, rfl⟩
      · have hd : (x == y) = false := by simpa using hxy
        have HN : Hid (¬ x ∈ l.take (k + 1)) := Lib.hid (by rw [HT.out]; simp [HA.out, hxy])
        go_wp2
        go_round
        case rel => exact ⟨k + 1, by omega, by go_num, HN⟩
        case measure => simp [intOf]; omega
    · have HN : Hid (¬ x ∈ l) := Lib.hid (by have := HA.out; rwa [List.take_of_length_le (by omega)] at this)
      go_wp2
      go_ret
      exact ⟨⟨_, rfl, ⟨fun h => absurd h (by omega), fun h => absurd h HN.out⟩⟩, rfl⟩

set_option maxRecDepth 100000 in
theorem Contains_any (l : List Int) (x : Int) (v : Value) (w : World) (h : RdS w v 1 l.length (ints .i64 l)) :
    Calls Tryz.prog 38 #[v, .int .i64 x] w fun e w' => e = .returned (.bool (decide (x ∈ l))) ∧ w = w' := by
  have HI := Lib.hid (Index_any l x v w h)
  go_enter Tryz.func38, Tryz.ntmps38
  go_wp2_with fail
  refine HI.out.mono ?_
  rintro e w' ⟨⟨r, rfl, hr⟩, rfl⟩
  have HD : Hid (decide (0 ≤ r) = decide (x ∈ l)) := Lib.hid (by rw [decide_eq_decide]; exact hr)
  clear hr
  go_wp2
  go_ret
  exact ⟨by rw [← HD.out]; rfl, rfl⟩

def rndB (rows : List (List Int)) (i : Nat) : Bool := !decide (i ∈ ordO rows)
def rndL (rows : List (List Int)) (k : Nat) : List Int := ((List.range k).filter (rndB rows)).map Int.ofNat
theorem rndL_len (rows : List (List Int)) (k : Nat) : (rndL rows k).length ≤ k := by
  unfold rndL
  rw [List.length_map]
  exact Nat.le_trans (List.length_filter_le _ _) (by simp)
theorem rndL_yes {rows : List (List Int)} {k : Nat} (h : rndB rows k = true) : rndL rows (k + 1) = rndL rows k ++ [(k : Int)] := by
  unfold rndL; rw [List.range_succ, List.filter_append]; simp [h]
theorem rndL_no {rows : List (List Int)} {k : Nat} (h : rndB rows k = false) : rndL rows (k + 1) = rndL rows k := by
  unfold rndL; rw [List.range_succ, List.filter_append]; simp [h]
theorem natI_ints (l : List Nat) : natI l = ints .i64 (l.map Int.ofNat) := by simp [natI, ints]
theorem mem_ofNat {l : List Nat} {k : Nat} : ((k : Int) ∈ l.map Int.ofNat) ↔ k ∈ l := by
  rw [List.mem_map]
  constructor
  · rintro ⟨a, h, e⟩
    have e' : (a : Int) = (k : Int) := e
    have : a = k := by omega
    subst this; exact h
  · intro h
    exact ⟨k, h, rfl⟩

set_option maxRecDepth 100000 in
set_option maxHeartbeats 1000000 in
theorem Round_any (rows : List (List Int)) (v : Value) (w : World) (hr : Rows2 w v rows) (hlen : rows.length ≤ 1073741824) :
    Calls Tryz.prog 100 #[v] w fun e w' => ∃ v', e = .returned v' ∧ w'.ownsRow w.heap.size 3 1 v' (rndL rows rows.length).length (ints .i64 (rndL rows rows.length)) ∧ Below w.heap.size w w' := by
  obtain ⟨i0, hi, hz0, hz1, hz2⟩ := info_parts Tryz.info_i64g
  have HO := Lib.hid (Order_any rows v w hr hlen)
  obtain ⟨a, cap, rfl⟩ := hr.form
  clear hr
  go_enter Tryz.func100, Tryz.ntmps100
  go_wp2_with fail
  refine HO.out.mono ?_
  rintro e w1 ⟨vo, rfl, hown0, hb0⟩
  have HV : Hid (RdS w1 vo 1 ((ordO rows).map Int.ofNat).length (ints .i64 ((ordO rows).map Int.ofNat))) := Lib.hid (by rw [← natI_ints, List.length_map]; exact RdS.of_owns hown0)
  clear hown0
  go_wp2
  go_loopw [5, 14] (fun out i wr => ∃ k : Nat, k ≤ rows.length ∧ i = .int .i64 k ∧ wr.ownsRow w1.heap.size 3 1 out (rndL rows k).length (ints .i64 (rndL rows k)) ∧ Below w1.heap.size w1 wr) (fun _ i _ => rows.length - (intOf i).toNat)
  case atStart => exact ⟨0, by omega, rfl, by simpa [rndL, ints] using World.ownsRow_nil w1 w1.heap.size 3 1, Below.refl _ _⟩
  case round =>
    obtain ⟨k, hk, rfl, hown, hb1⟩ := hrel
    by_cases hlt : k < rows.length
    · have hlt' : (k : Int) < rows.length := by omega
      have hlk := rndL_len rows k
      have HC := Lib.hid (Contains_any ((ordO rows).map Int.ofNat) k vo wr (HV.out.below hb1))
      have HYES := Lib.hid (rndL_yes (rows := rows) (k := k))
      have HNO := Lib.hid (rndL_no (rows := rows) (k := k))
      have HBD : Hid (rndB rows k = !decide ((k : Int) ∈ (ordO rows).map Int.ofNat)) := Lib.hid (by unfold rndB; simp only [mem_ofNat])
      generalize decide ((k : Int) ∈ (ordO rows).map Int.ofNat) = m at *
      cases m with
      | true =>
        have HK := Lib.hid (HNO.out (by rw [HBD.out]; rfl))
        go_wp2_with fail
        refine HC.out.mono ?_
        rintro e w2 ⟨rfl, rfl⟩
        go_wp2
        go_roundw
        case rel => exact ⟨k + 1, by omega, by go_num, by rw [HK.out]; exact hown, hb1⟩
        case measure => simp [intOf]; omega
      | false =>
        have HK := Lib.hid (HYES.out (by rw [HBD.out]; rfl))
        go_wp2_with fail
        refine HC.out.mono ?_
        rintro e w2 ⟨rfl, rfl⟩
        go_wp2_with (at_builtin; go_must (refine wpList_push rfl _ _ 38 rfl w1.heap.size 3 i0 (.int .i64 0) 1 8 Tryz.underlying38 hi hz0 hz1 hz2 rfl (by decide) _ _ _ rfl (hown.alloc _) ⟨wr.heap.size, 0, none⟩ 1 1 [_] rfl rfl (cell_one_new _ _ _) (by simp [Value.oneCell']) (by unfold maxLen; omega) (by omega) (by have := hb1.size; simp; omega) ?_; intro v' w2 hown' hgrow hfr))
        have hgrow : (wr.alloc _).grownBy w2 u5.ownBlock := hgrow
        go_roundw
        case rel => exact ⟨k + 1, by omega, by go_num, by rw [HK.out]; simpa [ints] using hown', below_push hb1 hb1.size hown (Nat.le_refl _) hgrow⟩
        case measure => simp [intOf]; omega
    · have hkl : k = rows.length := by omega
      subst hkl
      go_wp2
      go_ret
      exact ⟨_, rfl, ownsRow_mono hown hb0.size, bthen hb0 (Nat.le_refl _) hb1⟩
end Go.Proofs.YtgfiogjfgbegpaaGreat

/-
  graph: plain laws of the order, of what comes behind what, and of circles.
-/
namespace Go.Proofs.YtgfiogjfgbegpaaGreat
open Go.RowKit

def Edge (rows : List (List Int)) (x y : Nat) : Prop := x < rows.length ∧ y < rows.length ∧ (y : Int) ∈ rows[x]?.getD []
inductive Rch (rows : List (List Int)) : Nat → Nat → Prop
  | one {x y : Nat} : Edge rows x y → Rch rows x y
  | more {x y z : Nat} : Edge rows x y → Rch rows y z → Rch rows x z
theorem Rch.trans {rows : List (List Int)} {x y z : Nat} (h : Rch rows x y) (k : Rch rows y z) : Rch rows x z := by
  induction h with
  | one e => exact .more e k
  | more e _ ih => exact .more e (ih k)
theorem Rch.snoc {rows : List (List Int)} {x y z : Nat} (h : Rch rows x y) (k : Edge rows y z) : Rch rows x z := h.trans (.one k)
theorem Rch.lt1 {rows : List (List Int)} {x y : Nat} (h : Rch rows x y) : x < rows.length := by
  cases h with
  | one e => exact e.1
  | more e _ => exact e.1
def gb (th : List Bool) (a : Nat) : Bool := th[a]?.getD false
theorem thereB_gb (th : List Bool) (a : Nat) : thereB th a = gb th a := by
  unfold thereB gb
  by_cases h : a < th.length
  · simp [h]
  · simp [h]
theorem gb_set (th : List Bool) (k a : Nat) (hk : k < th.length) : gb (th.set k true) a = (decide (a = k) || gb th a) := by
  unfold gb
  by_cases h : a = k
  · subst h; simp [hk]
  · rw [List.getElem?_set_ne (fun e => h e.symm)]; simp [h]
theorem mem_depL {n : Nat} {l : List Int} {y : Nat} : (y : Int) ∈ depL n l ↔ y < n ∧ (y : Int) ∈ l := by
  unfold depL inB
  rw [List.mem_filter]
  constructor
  · rintro ⟨h1, h2⟩; simp at h2; exact ⟨h2, h1⟩
  · rintro ⟨h1, h2⟩; exact ⟨h2, by simpa using h1⟩
theorem depL_nat {n : Nat} {l : List Int} {j : Int} (h : j ∈ depL n l) : ∃ y : Nat, j = y ∧ y < n ∧ (y : Int) ∈ l := by
  unfold depL inB at h
  rw [List.mem_filter] at h
  obtain ⟨h1, h2⟩ := h
  simp at h2
  refine ⟨j.toNat, by omega, by omega, ?_⟩
  rw [Int.toNat_of_nonneg h2.1]; exact h1
theorem edge_dep {rows : List (List Int)} {x y : Nat} (hx : x < rows.length) : Edge rows x y ↔ (y : Int) ∈ depL rows.length (rows[x]?.getD []) := by
  rw [mem_depL]; unfold Edge; simp [hx]

theorem mayB_iff {rows : List (List Int)} {th : List Bool} {i : Nat} (hi : i < rows.length) : mayB rows th i = true ↔ ∀ y, Edge rows i y → gb th y = true := by
  rw [mayB_dep rows th i hi, List.all_eq_true]
  constructor
  · intro h y he
    have := h (y : Int) (by have h1 := (edge_dep hi).1 he; simpa [hi] using h1)
    unfold okT at this
    rw [← thereB_gb]; unfold thereB; simpa using this
  · intro h j hj
    obtain ⟨y, rfl, hy, hm⟩ := depL_nat hj
    have := h y ⟨hi, hy, by simpa [hi] using hm⟩
    rw [← thereB_gb] at this
    unfold okT; unfold thereB at this; simpa using this

structure OInv (rows : List (List Int)) (th : List Bool) (out : List Nat) : Prop where
  len : th.length = rows.length
  mem : ∀ j, gb th j = true ↔ j ∈ out
  nd : out.Nodup
  cnt : out.length = th.count true
  ord : ∀ (p : Nat) (hp : p < out.length) (y : Nat), Edge rows out[p] y → y ∈ out.take p

theorem count_set {th : List Bool} {k : Nat} (hk : k < th.length) (h : gb th k = false) : (th.set k true).count true = th.count true + 1 := by
  induction th generalizing k with
  | nil => simp at hk
  | cons b t ih =>
    cases k with
    | zero =>
      have : b = false := by simpa [gb] using h
      subst this
      simp
    | succ k =>
      have := ih (k := k) (by simpa using hk) (by simpa [gb] using h)
      simp only [List.set_cons_succ, List.count_cons, this]
      omega

theorem OInv.step {rows : List (List Int)} {th : List Bool} {out : List Nat} (h : OInv rows th out) {k : Nat} (hk : k < rows.length) (hr : rdyB rows th k = true) : OInv rows (th.set k true) (out ++ [k]) := by
  unfold rdyB at hr
  rw [thereB_gb] at hr
  simp only [Bool.and_eq_true, Bool.not_eq_true'] at hr
  obtain ⟨h1, h2⟩ := hr
  have hkl : k < th.length := by rw [h.len]; exact hk
  have hno : k ∉ out := fun hm => by rw [(h.mem k).2 hm] at h1; cases h1
  refine ⟨by simpa using h.len, fun j => ?_, ?_, ?_, fun p hp y he => ?_⟩
  · rw [gb_set _ _ _ hkl, List.mem_append, List.mem_singleton, Bool.or_eq_true, h.mem]
    simp [or_comm]
  · rw [List.nodup_append]
    exact ⟨h.nd, by simp, fun a ha b hb e => by simp at hb; subst hb; subst e; exact hno ha⟩
  · rw [count_set hkl h1, List.length_append, h.cnt]; rfl
  · rw [List.length_append, List.length_singleton] at hp
    rcases Nat.lt_or_ge p out.length with hl | hl
    · rw [List.getElem_append_left hl] at he
      rw [List.take_append_of_le_length (by omega)]
      exact h.ord p hl y he
    · have hpe : p = out.length := by omega
      subst hpe
      simp only [List.getElem_append_right (Nat.le_refl _), Nat.sub_self, List.getElem_singleton] at he
      rw [List.take_left']
      · exact (h.mem y).1 ((mayB_iff hk).1 h2 y he)
      · rfl

end Go.Proofs.YtgfiogjfgbegpaaGreat

/-
  graph: plain laws of all behind which one comes: the depth-first set, the document's set; how deep each stands.
-/
namespace Go.Proofs.YtgfiogjfgbegpaaGreat
open Go.RowKit

def dfsStep (s : List Bool × List Nat) (j : Int) : List Bool × List Nat := if gb s.1 j.toNat then s else (s.1.set j.toNat true, s.2 ++ [j.toNat])
def dfsRow (l : List Int) (s : List Bool × List Nat) : List Bool × List Nat := l.foldl dfsStep s
structure DInv (n : Nat) (s : List Bool × List Nat) : Prop where
  len : s.1.length = n
  lt : ∀ x ∈ s.2, x < n
theorem count_split (th : List Bool) : th.count true + th.count false = th.length := by
  induction th with
  | nil => rfl
  | cons b t ih => cases b <;> simp <;> omega
theorem DInv.step {n : Nat} {s : List Bool × List Nat} (h : DInv n s) {j : Nat} (hj : j < n) : DInv n (dfsStep s (j : Int)) ∧ (dfsStep s (j : Int)).1.count false + (dfsStep s (j : Int)).2.length = s.1.count false + s.2.length ∧
    (∀ a, gb (dfsStep s (j : Int)).1 a = true ↔ gb s.1 a = true ∨ a = j) ∧ (∀ x, x ∈ (dfsStep s (j : Int)).2 ↔ x ∈ s.2 ∨ (x = j ∧ gb s.1 j = false)) := by
  unfold dfsStep
  rw [Int.toNat_natCast]
  cases hg : gb s.1 j with
  | true =>
    simp only [if_true]
    refine ⟨h, trivial, fun a => ?_, fun x => by simp⟩
    constructor
    · exact .inl
    · rintro (h | rfl); exact h; exact hg
  | false =>
    have hjl : j < s.1.length := by rw [h.len]; exact hj
    have e1 := count_set hjl hg
    have e2 := count_split s.1
    have e3 := count_split (s.1.set j true)
    rw [List.length_set] at e3
    simp only [Bool.false_eq_true, if_false]
    refine ⟨⟨by simpa using h.len, fun x hx => ?_⟩, by simp; omega, fun a => ?_, fun x => by simp⟩
    · rcases List.mem_append.1 hx with hx | hx
      · exact h.lt x hx
      · simp at hx; omega
    · rw [gb_set _ _ _ hjl, Bool.or_eq_true]; simp [or_comm]
theorem DInv.row {n : Nat} : ∀ (l : List Int) (s : List Bool × List Nat), DInv n s → (∀ j ∈ l, ∃ y : Nat, j = y ∧ y < n) → DInv n (dfsRow l s) ∧ (dfsRow l s).1.count false + (dfsRow l s).2.length = s.1.count false + s.2.length ∧
    (∀ a, gb (dfsRow l s).1 a = true ↔ gb s.1 a = true ∨ (a : Int) ∈ l) ∧ (∀ x, x ∈ (dfsRow l s).2 ↔ x ∈ s.2 ∨ ((x : Int) ∈ l ∧ gb s.1 x = false)) := by
  intro l
  induction l with
  | nil => intro s h _; exact ⟨h, rfl, fun a => by simp [dfsRow], fun x => by simp [dfsRow]⟩
  | cons j l ih =>
    intro s h hl
    obtain ⟨y, rfl, hy⟩ := hl j (List.mem_cons_self)
    obtain ⟨s1, s2, s3, s4⟩ := h.step hy
    obtain ⟨r1, r2, r3, r4⟩ := ih (dfsStep s (y : Int)) s1 (fun z hz => hl z (List.mem_cons_of_mem _ hz))
    have e : dfsRow ((y : Int) :: l) s = dfsRow l (dfsStep s (y : Int)) := rfl
    rw [e]
    refine ⟨r1, by omega, fun a => ?_, fun x => ?_⟩
    · rw [r3, s3, List.mem_cons, or_assoc]
      simp only [Int.natCast_inj]
    · rw [r4, s4, List.mem_cons]
      simp only [Int.natCast_inj]
      constructor
      · rintro ((h | ⟨rfl, h⟩) | ⟨h, hg⟩)
        · exact .inl h
        · exact .inr ⟨.inl rfl, h⟩
        · refine .inr ⟨.inr h, ?_⟩
          cases hx : gb s.1 x with
          | false => rfl
          | true => rw [(s3 x).2 (.inl hx)] at hg; cases hg
      · rintro (h | ⟨rfl | h, hg⟩)
        · exact .inl (.inl h)
        · exact .inl (.inr ⟨rfl, hg⟩)
        · by_cases hxy : x = y
          · subst hxy; exact .inl (.inr ⟨rfl, hg⟩)
          · refine .inr ⟨h, ?_⟩
            cases hx : gb (dfsStep s (y : Int)).1 x with
            | false => rfl
            | true =>
              rcases (s3 x).1 hx with h' | h'
              · rw [h'] at hg; cases hg
              · exact absurd h' hxy

theorem dep_nats (rows : List (List Int)) (x : Nat) : ∀ j ∈ depL rows.length (rows[x]?.getD []), ∃ y : Nat, j = y ∧ y < rows.length := fun j hj => by
  obtain ⟨y, rfl, hy, _⟩ := depL_nat hj
  exact ⟨y, rfl, hy⟩

structure BInv (rows : List (List Int)) (i : Nat) (s : List Bool × List Nat) : Prop where
  d : DInv rows.length s
  snd : ∀ a, gb s.1 a = true → Rch rows i a
  todo : ∀ x ∈ s.2, x = i ∨ gb s.1 x = true
  cl : ∀ x, x = i ∨ gb s.1 x = true → x ∈ s.2 ∨ ∀ y, Edge rows x y → gb s.1 y = true
theorem getLast?_split {α : Type} {l : List α} {x : α} (h : l.getLast? = some x) : l = l.dropLast ++ [x] := by
  have hne : l ≠ [] := by rintro rfl; simp at h
  rw [List.getLast?_eq_some_getLast hne] at h
  injection h with h
  rw [← h]; exact (List.dropLast_concat_getLast hne).symm
theorem BInv.step {rows : List (List Int)} {i : Nat} {s : List Bool × List Nat} (h : BInv rows i s) {x : Nat} (hx : s.2.getLast? = some x) :
    BInv rows i (dfsRow (depL rows.length (rows[x]?.getD [])) (s.1, s.2.dropLast)) := by
  have hs := getLast?_split hx
  have hxm : x ∈ s.2 := by rw [hs]; simp
  have hxn := h.d.lt x hxm
  have hd : DInv rows.length (s.1, s.2.dropLast) := ⟨h.d.len, fun y hy => h.d.lt y (List.dropLast_subset _ hy)⟩
  obtain ⟨r1, r2, r3, r4⟩ := DInv.row _ _ hd (dep_nats rows x)
  have hix : x = i ∨ Rch rows i x := by
    rcases h.todo x hxm with e | e
    · exact .inl e
    · exact .inr (h.snd x e)
  refine ⟨r1, fun a ha => ?_, fun y hy => ?_, fun y hy => ?_⟩
  · rcases (r3 a).1 ha with ha | ha
    · exact h.snd a ha
    · have he := (edge_dep hxn).2 ha
      rcases hix with rfl | hix
      · exact .one he
      · exact hix.snoc he
  · rcases (r4 y).1 hy with hy | ⟨hy, _⟩
    · rcases h.todo y (List.dropLast_subset _ hy) with e | e
      · exact .inl e
      · exact .inr ((r3 y).2 (.inl e))
    · exact .inr ((r3 y).2 (.inr hy))
  · by_cases hyx : y = x
    · subst hyx
      exact .inr fun z hz => (r3 z).2 (.inr ((edge_dep hxn).1 hz))
    · by_cases hold : y = i ∨ gb s.1 y = true
      · rcases h.cl y hold with hm | hm
        · rw [hs] at hm
          rcases List.mem_append.1 hm with hm | hm
          · exact .inl ((r4 y).2 (.inl hm))
          · simp at hm; exact absurd hm hyx
        · exact .inr fun z hz => (r3 z).2 (.inl (hm z hz))
      · have hno : gb s.1 y = false := by
          cases hg : gb s.1 y with
          | false => rfl
          | true => exact absurd (.inr hg) hold
        rcases hy with hy | hy
        · exact absurd (.inl hy) hold
        · rcases (r3 y).1 hy with h' | h'
          · exact absurd (.inr h') hold
          · exact .inl ((r4 y).2 (.inr ⟨h', hno⟩))
end Go.Proofs.YtgfiogjfgbegpaaGreat

/-
  graph.Behind: contract.
-/
namespace Go.Proofs.YtgfiogjfgbegpaaGreat
open Go.RowKit
attribute [local go_sem] Oper.semAt_some wide_fn wide_depth wide_fn' wide_depth'

end Go.Proofs.YtgfiogjfgbegpaaGreat

/-
  graph.Before: contract.
-/
namespace Go.Proofs.YtgfiogjfgbegpaaGreat
open Go.RowKit
attribute [local go_sem] Oper.semAt_some wide_fn wide_depth wide_fn' wide_depth'

end Go.Proofs.YtgfiogjfgbegpaaGreat
