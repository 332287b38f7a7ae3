/-
  diag.Less, Of: contracts.
-/
import Derived.Lib.SliceRun
import Derived.Lib.LazyBuf
import Derived.Test.YtbnggfhofdpdcaaBq38
import Derived.Test.YtbnggfhofdpdcaaBq47
namespace Go.Proofs.Ytbnggfhofdpdcaa
open Go Go.RowKit Go.WideShapes

theorem below_growS (w : World) (os : Array Obj) : Below w.heap.size w (Go.Sort.grow w os) := ⟨rfl, rfl, rfl, by simp [Go.Sort.grow], fun k hk => by simp [Go.Sort.grow, Array.getElem?_append_left hk]⟩
set_option maxRecDepth 100000 in
theorem dLess_any (x y : DiagD) (W : World) :
    Calls Try.prog 43 #[.agg (encG x).toArray, .agg (encG y).toArray] W fun e w' => e = .returned (.bool (decide (cmpD x y < 0))) ∧ Below W.heap.size W w' := by
  obtain ⟨hb, g0, g1, hsz⟩ := alloc2 W 61 61 #[.int .i64 x.1, .int .i64 x.2.1, .string x.2.2] #[.int .i64 y.1, .int .i64 y.2.1, .string y.2.2]
  have HC := Lib.hid (compare_any x y)
  unfold encG at *
  obtain ⟨p0, p1, p2, -, -, -⟩ := cells3h g0
  obtain ⟨r0, r1, r2, -, -, -⟩ := cells3h g1
  have HB := Lib.hid hb
  clear hb g0 g1
  go_enter Try.func43, Try.ntmps43
  go_wp2_with fail
  refine (HC.out _).mono ?_
  rintro e w1 ⟨rfl, q, os, rfl⟩
  have HB2 := Lib.hid (bthen (belowN HB.out q) (by have := HB.out.size; exact Nat.le_refl _) (below_growS _ os))
  clear p0 p1 p2 r0 r1 r2
  generalize hc : cmpD x y = c at *
  go_wp2_with fail
  go_ret
  rw [hc]
  exact ⟨rfl, HB2.out⟩

/-- Those about a step. -/
def keepG (st : Int) (l : List DiagD) : List DiagD := l.filter fun x => x.1 == st
theorem keepG_snoc (st : Int) (l : List DiagD) (x : DiagD) : keepG st (l ++ [x]) = if x.1 = st then keepG st l ++ [x] else keepG st l := by
  unfold keepG
  rw [List.filter_append]
  by_cases h : x.1 = st
  · rw [if_pos h]; simp [h]
  · rw [if_neg h]; simp [h]
theorem keepG_len (st : Int) (l : List DiagD) : (keepG st l).length ≤ l.length := List.length_filter_le _ _
theorem keepG_all {st : Int} {l : List DiagD} (h : ∀ x ∈ l, x.1 = st) : keepG st l = l := List.filter_eq_self.2 fun x hx => by simpa using h x hx
/-- The first that is about another one. -/
def FirstG (st : Int) (l : List DiagD) (i : Int) : Prop := (i = -1 ∧ ∀ x ∈ l, x.1 = st) ∨ ∃ (k : Nat) (hk : k < l.length), i = (k : Int) ∧ (∀ x ∈ l.take k, x.1 = st) ∧ l[k].1 ≠ st
set_option maxRecDepth 100000 in
theorem dOf1_any (x : DiagD) (st : Int) (C : Nat) (w : World) (hC : w.heap[C]? = some (.cells #[.int .i64 st] 3 (0, 0))) :
    Calls Try.prog 108 #[.agg #[.int .i64 x.1, .int .i64 x.2.1, .string x.2.2], .pointer (some ⟨C, 0, none⟩)] w fun e w' => e = .returned (.bool (x.1 != st)) ∧ Below w.heap.size w w' := by
  have hlt := (Array.getElem?_eq_some_iff.1 hC).1
  have hb0 := (Below.refl w.heap.size w).alloc (Nat.le_refl _) (.cells #[.int .i64 x.1, .int .i64 x.2.1, .string x.2.2] 61)
  have hq := (hb0.block _ hlt).trans hC
  have g0 := World.alloc_heap_new w (.cells #[.int .i64 x.1, .int .i64 x.2.1, .string x.2.2] 61)
  have q0 : (w.alloc (.cells #[.int .i64 x.1, .int .i64 x.2.1, .string x.2.2] 61)).cell? ⟨C, 0, none⟩ = some (.int .i64 st) := by simp [World.cell?, hq]
  obtain ⟨p0, p1, p2, -, -, -⟩ := cells3h g0
  have HB := Lib.hid hb0
  clear hq hC g0 hb0
  go_enter Try.func108, Try.ntmps108
  go_wp2
  go_ret
  exact ⟨rfl, HB.out⟩
theorem diag_at {W : World} {va : Option Addr} {vc : Nat} {l : List DiagD} (h : RdS W (.slice va l.length vc) 3 l.length (flatG l)) {i : Nat} (hi : i < l.length) : ∃ g off, va = some ⟨g, off, none⟩ ∧ l.length ≤ vc ∧ vc ≤ 9223372036854775807 ∧ W.cell? ⟨g, off + i * 3, none⟩ = some (.int .i64 l[i].1) ∧ W.cell? ⟨g, off + i * 3 + 1, none⟩ = some (.int .i64 l[i].2.1) ∧ W.cell? ⟨g, off + i * 3 + 2, none⟩ = some (.string l[i].2.2) := by
  rcases h.cases (by decide) with ⟨h0, _⟩ | ⟨hn, _, g, off, cap', hq, q1, q2, q3⟩
  · omega
  · injection hq with e1 e2 e3
    subst e1 e3
    obtain ⟨f0, f1, f2⟩ := flatG_get hi
    exact ⟨g, off, rfl, q1, q2, q3 _ _ f0, q3 _ _ f1, q3 _ _ f2⟩

set_option maxRecDepth 100000 in
set_option maxHeartbeats 2000000 in
theorem CloneG_any (l : List DiagD) (v : Value) (w : World) (hr : RdS w v 3 l.length (flatG l)) (hbig : l.length ≤ 1073741824) :
    Calls Try.prog 107 #[v] w fun e w' => ∃ va vc, e = .returned (.slice va l.length vc) ∧ OwnG w' w.heap.size va vc l ∧ Below w.heap.size w w' := by
  obtain ⟨i0, hi, hz0, hz1, hz2⟩ := info_parts Try.info_diag
  have HR := Lib.hid hr
  obtain ⟨a, cap, rfl⟩ := hr.form
  have q22 : ∀ (w : World) (a : Option Addr) (n c n' c' : Nat), (binOp .eql 51 (.slice a n c) (.slice none n' c')).run Try.prog w = .ok (.bool a.isNone) w := fun w a n c n' c' => Lib.run_eql_slice_nil w _ _ a n c n' c' Try.underlying51
  have h1 : ∀ u ∈ flatG l, u.oneCell' = true := by
    intro u hu
    obtain ⟨x, _, hx⟩ := List.mem_flatMap.1 hu
    exact encG_one x u hx
  have H1 := Lib.hid h1
  clear h1
  cases a with
  | none =>
    have h0 : l = [] := by
      rcases hr.cases (by decide) with ⟨h0, _⟩ | ⟨hn, _, g, off, cap', hq, _⟩
      · exact List.eq_nil_of_length_eq_zero h0
      · cases hq
    subst h0
    clear hr
    go_enter Try.func107, Try.ntmps107
    go_wp2
    go_ret
    exact ⟨none, 0, rfl, OwnG.nil _ _, Below.refl _ _⟩
  | some x =>
    clear hr
    go_enter Try.func107, Try.ntmps107
    go_wp2_with (at_builtin; go_must (refine wpList_pushS rfl _ _ 51 rfl w.heap.size 61 i0 (.agg #[.int .i64 0, .int .i64 0, .string { data := #[] }]) 3 32 Try.underlying51 hi hz0 hz1 hz2 rfl (by decide) _ _ _ rfl (World.ownsRow_made w #[] 0 (Nat.le_refl _) (Nat.zero_le _) rfl) _ l.length (flatG l) rfl (HR.out.below ((Below.refl _ w).alloc (Nat.le_refl _) _)) H1.out (by unfold maxLen; omega) (by omega) (by simp) ?_; intro v' w2 hown' hgrow hfr))
    have hgrow : (w.alloc (.cells #[] 61)).grownBy w2 (some w.heap.size) := hgrow
    go_ret
    have hown : w2.ownsRow w.heap.size 61 3 v' l.length (flatG l) := by simpa using hown'
    obtain ⟨va, vc, rfl⟩ := (RdS.of_owns hown).form
    exact ⟨va, vc, rfl, hown, ((Below.refl w.heap.size w).alloc (Nat.le_refl _) _).grown hgrow (by simp) (fun j ej => by cases ej; exact Nat.le_refl _)⟩

set_option maxRecDepth 100000 in
set_option maxHeartbeats 2000000 in
theorem IndexFuncG_any (l : List DiagD) (v : Value) (st : Int) (C : Nat) (w : World) (hr : RdS w v 3 l.length (flatG l)) (hC : w.heap[C]? = some (.cells #[.int .i64 st] 3 (0, 0))) :
    Calls Try.prog 158 #[v, (.func (.func 108) #[] #[.pointer (some ⟨C, 0, none⟩)])] w fun e w' => (∃ i, e = .returned (.int .i64 i) ∧ FirstG st l i) ∧ Below w.heap.size w w' := by
  have HR := Lib.hid hr
  have HC := Lib.hid hC
  have hlt0 := (Array.getElem?_eq_some_iff.1 hC).1
  have hll := rds_len2 hr
  obtain ⟨va, vc, rfl⟩ := hr.form
  clear hr hC
  go_enter Try.func158, Try.ntmps158
  go_wp2
  go_loopg [8] (l.length + 1) (fun gk i wr => ∃ j : Nat, j + gk = l.length + 1 ∧ j ≤ l.length ∧ i = .int .i64 j ∧ Hid (∀ x ∈ l.take j, x.1 = st) ∧ Hid (Below w.heap.size w wr))
  case atStart => exact ⟨0, by omega, by omega, rfl, Lib.hid (by simp), Lib.hid (Below.refl _ _)⟩
  case round =>
    obtain ⟨j, hgj, hj, rfl, HA, HB⟩ := hrel
    have hg : gk = l.length + 1 - j := by omega
    subst hg
    by_cases hjl : j < l.length
    · have d1 : decide ((j : Int) < (l.length : Int)) = true := decide_eq_true (by omega)
      have hj1 : (j : Int) < (l.length : Int) := by omega
      obtain ⟨g, off, rfl, q1, q2, z0, z1, z2⟩ := diag_at (HR.out.below HB.out) hjl
      have HO := Lib.hid (dOf1_any l[j] st C wr ((HB.out.block _ hlt0).trans HC.out))
      have HT := Lib.hid (take_succ_get hjl)
      have HF : Hid (l[j].1 ≠ st → FirstG st l (j : Int)) := Lib.hid (fun h => .inr ⟨j, hjl, rfl, HA.out, h⟩)
      generalize l[j] = x at *
      go_wp2_with fail
      refine HO.out.mono ?_
      rintro e w4 ⟨rfl, hb4⟩
      have HB4 := Lib.hid (bthen HB.out (Nat.le_refl _) hb4)
      clear z0 z1 z2 hb4
      by_cases hs : x.1 = st
      · have e1 : (x.1 != st) = false := by simpa using hs
        have HA2 : Hid (∀ y ∈ l.take (j + 1), y.1 = st) := Lib.hid (by rw [HT.out]; intro y hy; rcases List.mem_append.1 hy with h | h; exact HA.out y h; simp at h; subst h; exact hs)
        rw [e1]
        clear hs e1
        go_wp2_with fail
        go_roundg (l.length + 1 - (j + 1))
        case measure => omega
        case rel => exact ⟨j + 1, by omega, by omega, by go_num, HA2, HB4⟩
      · have e1 : (x.1 != st) = true := by simpa using hs
        have HF2 := Lib.hid (HF.out hs)
        rw [e1]
        clear hs e1
        go_wp2_with fail
        go_ret
        exact ⟨⟨_, rfl, HF2.out⟩, HB4.out⟩
    · have d1 : decide ((j : Int) < (l.length : Int)) = false := decide_eq_false (by omega)
      have hj1 : ¬ (j : Int) < (l.length : Int) := by omega
      have HF2 : Hid (FirstG st l (-1)) := Lib.hid (.inl ⟨rfl, by have := HA.out; rwa [List.take_of_length_le (by omega)] at this⟩)
      go_wp2_with fail
      go_ret
      exact ⟨⟨_, rfl, HF2.out⟩, HB.out⟩
end Go.Proofs.Ytbnggfhofdpdcaa

/-
  slices.DeleteFunc at Diags, diag.Of: contracts.
-/
namespace Go.Proofs.Ytbnggfhofdpdcaa
open Go Go.RowKit Go.WideShapes

theorem flatG_set (x : DiagD) : ∀ (m : List DiagD) (i : Nat), i < m.length → (((flatG m).set (i * 3) (.int .i64 x.1)).set (i * 3 + 1) (.int .i64 x.2.1)).set (i * 3 + 2) (.string x.2.2) = flatG (m.set i x)
  | [], _, h => absurd h (Nat.not_lt_zero _)
  | a :: m, 0, _ => rfl
  | a :: m, i + 1, h => by
    have ih := flatG_set x m i (by simpa using h)
    have e : flatG (a :: m) = .int .i64 a.1 :: .int .i64 a.2.1 :: .string a.2.2 :: flatG m := rfl
    rw [e, show (i + 1) * 3 = i * 3 + 1 + 1 + 1 by omega, show i * 3 + 1 + 1 + 1 + 1 = (i * 3 + 1) + 1 + 1 + 1 by omega, show i * 3 + 1 + 1 + 1 + 2 = (i * 3 + 2) + 1 + 1 + 1 by omega]
    simp only [List.set_cons_succ]
    rw [ih]
    rfl
theorem OwnG.set3 {W : World} {B vc g : Nat} {m : List DiagD} (h : OwnG W B (some ⟨g, 0, none⟩) vc m) {i : Nat} (hi : i < m.length) (x : DiagD) :
    OwnG (((W.setCell ⟨g, i * 3, none⟩ (.int .i64 x.1)).setCell ⟨g, i * 3 + 1, none⟩ (.int .i64 x.2.1)).setCell ⟨g, i * 3 + 2, none⟩ (.string x.2.2)) B (some ⟨g, 0, none⟩) vc (m.set i x) := by
  unfold OwnG at *
  rw [List.length_set, ← flatG_set x m i hi]
  exact owns_set1 (owns_set1 (owns_set1 h (by omega) _) (by omega) _) (by omega) _
theorem OwnG.spots {W : World} {B vc g : Nat} {m : List DiagD} (h : OwnG W B (some ⟨g, 0, none⟩) vc m) : B ≤ g ∧ m.length ≤ vc ∧ vc ≤ 9223372036854775807 ∧ g < W.heap.size ∧ (∀ p, p < m.length * 3 → (W.cell? ⟨g, p, none⟩).isSome = true) ∧ ∀ p, W.frozen? ⟨g, p, none⟩ = false := by
  rcases h.2 with ⟨h1, _⟩ | ⟨g', cap, cur, hv, hb, hg, h2, h3, h4, h5⟩
  · cases h1
  · simp only [Value.slice.injEq, Option.some.injEq, Addr.mk.injEq, and_true, true_and] at hv
    obtain ⟨rfl, rfl⟩ := hv
    refine ⟨hb, h2, by unfold maxLen at h3; omega, (Array.getElem?_eq_some_iff.1 hg).1, fun p hp => ?_, fun p => by simp [World.frozen?, hg]⟩
    have : p < cur.size := by
      have := Nat.mul_le_mul_right 3 h2
      omega
    simp [World.cell?, hg, this]
theorem World.isSome_eq {W : World} {a : Addr} (h : (W.cell? a).isSome = true) : ∃ v, W.cell? a = some v := Option.isSome_iff_exists.1 h
/-- clear(s) on structs. -/
theorem run_clear_rows {P : Program} {n : Nat} (w : World) (t e ty : TypeId) (z : Value) (ht : P.underlying t = some (.slice e)) (hv : ∀ w, (zeroValue e).run P w = .ok z w) (h1 : ∀ v ∈ (Builtin.zeroCells z.cells n).toList, v.oneCell' = true) (b o c : Nat) (hn : 0 < n)
    (hc : ∀ j, j < (Builtin.zeroCells z.cells n).toList.length → (w.cell? ⟨b, o + j, none⟩).isSome = true) (hf : ∀ j, w.frozen? ⟨b, j, none⟩ = false) :
    (Builtin.clear_ #[t] ty #[.slice (some ⟨b, o, none⟩) n c]).run P w = .ok (.tuple #[]) (w.setCells b o (Builtin.zeroCells z.cells n).toList) := by
  have hst := run_storeCells_cells (P := P) b o (Builtin.zeroCells z.cells n).toList 0 w (by simpa using hc) (fun j _ => hf _) h1
  simp only [Nat.add_zero] at hst
  obtain ⟨m, rfl⟩ : ∃ m, n = m + 1 := ⟨n - 1, by omega⟩
  simp [Builtin.clear_, run_underlying ht, hv, hst]

theorem zeroCells_len (z : Array Value) (n : Nat) : (Builtin.zeroCells z n).toList.length = z.size * n := by simp [Builtin.zeroCells, Nat.mul_comm]
theorem zeroCells_one {z : Array Value} {n : Nat} (hz : ∀ v ∈ z, v.oneCell' = true) : ∀ v ∈ (Builtin.zeroCells z n).toList, v.oneCell' = true := by
  intro v hv
  simp [Builtin.zeroCells] at hv
  obtain ⟨a, ha, rfl⟩ := hv
  have hp : 0 < z.size := Nat.pos_of_ne_zero fun h => by rw [h] at ha; omega
  rw [getElem!_pos z _ (Nat.mod_lt _ hp)]
  exact hz _ (Array.getElem_mem _)
theorem flatG_take : ∀ (m : List DiagD) (i : Nat), flatG (m.take i) = (flatG m).take (i * 3)
  | [], i => by simp [flatG]
  | a :: m, 0 => by simp [flatG]
  | a :: m, i + 1 => by
    have e : ∀ t : List DiagD, flatG (a :: t) = .int .i64 a.1 :: .int .i64 a.2.1 :: .string a.2.2 :: flatG t := fun _ => rfl
    rw [List.take_succ_cons, e, e, flatG_take m i, show (i + 1) * 3 = i * 3 + 1 + 1 + 1 by omega]
    rfl
theorem owns_front {W : World} {B vc g i : Nat} {m : List DiagD} (h : OwnG W B (some ⟨g, 0, none⟩) vc m) (hi : i ≤ m.length) (vs : List Value) : RdS (W.setCells g (i * 3) vs) (.slice (some ⟨g, 0, none⟩) (m.take i).length vc) 3 (m.take i).length (flatG (m.take i)) := by
  obtain ⟨k1, k2, k3, k4, -, -⟩ := h.spots
  obtain ⟨h1, a, cap, h2, h3, h4, h5⟩ := RdS.of_owns h
  injection h2 with e1 e2 e3
  subst e1
  refine ⟨flatG_len _, _, _, rfl, by rw [List.length_take]; omega, by unfold maxLen; omega, ?_⟩
  rcases h5 with h5 | ⟨g', off, he, hc⟩
  · left
    rw [flatG_take, h5]; simp
  · right
    injection he with he
    injection he with he1 he2
    subst he1 he2
    refine ⟨g, 0, rfl, fun p c hp => ?_⟩
    rw [flatG_take] at hp
    have hpl : p < i * 3 := by
      rcases Nat.lt_or_ge p (i * 3) with h | h
      · exact h
      · rw [List.getElem?_take_eq_none (by omega)] at hp; cases hp
    rw [List.getElem?_take_of_lt hpl] at hp
    rw [World.cell?_setCells_out _ _ _ _ _ (fun _ _ => .inl (by show 0 + p < i * 3; omega))]
    exact hc p c hp
theorem Try.zeroDiag (w : World) : (zeroValue 61).run Try.prog w = .ok (.agg #[.int .i64 0, .int .i64 0, .string { data := #[] }]) w := by kernel_rfl
set_option maxRecDepth 100000 in
set_option maxHeartbeats 4000000 in
theorem DeleteG_any (l : List DiagD) (va : Option Addr) (vc : Nat) (st : Int) (C B : Nat) (w : World) (ho : OwnG w B va vc l) (hC : w.heap[C]? = some (.cells #[.int .i64 st] 3 (0, 0))) (hB : B ≤ w.heap.size) (hbig : l.length ≤ 1000000) :
    Calls Try.prog 106 #[.slice va l.length vc, (.func (.func 108) #[] #[.pointer (some ⟨C, 0, none⟩)])] w fun e w' => ∃ va' vc', e = .returned (.slice va' (keepG st l).length vc') ∧ RdS w' (.slice va' (keepG st l).length vc') 3 (keepG st l).length (flatG (keepG st l)) ∧ Below B w w' := by
  have HO := Lib.hid ho
  have HC := Lib.hid hC
  have hlt0 := (Array.getElem?_eq_some_iff.1 hC).1
  clear ho hC
  go_enter Try.func106, Try.ntmps106
  go_wp2_with fail
  refine (IndexFuncG_any l _ st C w (RdS.of_owns HO.out) HC.out).mono ?_
  rintro e w1 ⟨⟨ix, rfl, hf⟩, hb1⟩
  have HO1 := Lib.hid (HO.out.below hb1)
  have HC1 := Lib.hid ((hb1.block _ hlt0).trans HC.out)
  have HB1 := Lib.hid (hb1.mono hB)
  clear hb1
  rcases hf with ⟨rfl, hall⟩ | ⟨k, hk, rfl, hall, hne⟩
  · have HK := Lib.hid (keepG_all hall)
    go_wp2_with fail
    go_ret
    rw [HK.out]
    exact ⟨_, _, rfl, RdS.of_owns HO1.out, HB1.out⟩
  have e1 : ((k : Int) == -1) = false := by simp
  have HK0 : Hid (keepG st (l.take (k + 1)) = l.take k) := Lib.hid (by rw [take_succ_get hk, keepG_snoc, if_neg hne, keepG_all hall])
  clear hall hne
  go_wp2_with fail
  clear e1
  obtain ⟨g, o0, rfl, q1, q2, -⟩ := diag_at (RdS.of_owns HO1.out) hk
  obtain ⟨g1, hv1⟩ : ∃ g1, some (⟨g, o0, none⟩ : Addr) = some ⟨g1, 0, none⟩ := by
    rcases HO1.out.2 with ⟨h1, _⟩ | ⟨g', cap, cur, hv, _⟩
    · cases h1
    · injection hv with h1 h2 h3; exact ⟨g', h1⟩
  injection hv1 with hv1
  injection hv1 with h1 h2 h3
  subst h1 h2
  go_loopg [6, 5] (l.length + 1) (fun gk s6 s5 wr => ∃ (j i : Nat) (m : List DiagD), j + gk = l.length + k + 2 ∧ j ≤ l.length ∧ i < j ∧ m.length = l.length ∧ s6 = .int .i64 j ∧ s5 = .int .i64 i ∧ Hid (keepG st (l.take j) = m.take i) ∧ Hid (m.drop j = l.drop j) ∧ Hid (OwnG wr B (some ⟨g, 0, none⟩) vc m) ∧ Hid (wr.heap[C]? = some (.cells #[.int .i64 st] 3 (0, 0))) ∧ Hid (Below B w wr))
  case atStart => exact ⟨k + 1, k, l, by omega, by omega, by omega, rfl, by go_num, by go_num, HK0, Lib.hid rfl, HO1, HC1, HB1⟩
  case round =>
    obtain ⟨j, i, m, hgj, hj, hij, hml, rfl, rfl, HKE, HDR, HOW, HCC, HB⟩ := hrel
    have hg : gk = l.length + k + 2 - j := by omega
    subst hg
    by_cases hjl : j < l.length
    · have d1 : decide ((j : Int) < (l.length : Int)) = true := decide_eq_true (by omega)
      have hj1 : (j : Int) < (l.length : Int) := by omega
      have hjm : j < m.length := by omega
      have hmj : m[j] = l[j] := by
        have h1 := congrArg (fun (t : List DiagD) => t[0]?) HDR.out
        simp only [List.getElem?_drop, Nat.add_zero] at h1
        rw [List.getElem?_eq_getElem hjm, List.getElem?_eq_getElem hjl] at h1
        exact Option.some.inj h1
      obtain ⟨g2, off, he, -, -, z0, z1, z2⟩ := diag_at (RdS.of_owns HOW.out) hjm
      cases he
      rw [hmj, Nat.zero_add] at z0 z1 z2
      have HT := Lib.hid (take_succ_get hjl)
      have HKS := Lib.hid (keepG_snoc st (l.take j) l[j])
      have HDR2 : Hid (m.drop (j + 1) = l.drop (j + 1)) := Lib.hid (by have := congrArg (List.drop 1) HDR.out; simpa [List.drop_drop, Nat.add_comm] using this)
      clear hmj
      generalize l[j] = x at *
      go_upto_region 8 with fail
      have hx := World.alloc_heap_new wr (.cells #[.int .i64 x.1, .int .i64 x.2.1, .string x.2.2] 61)
      have hbx : Below wr.heap.size wr (wr.alloc (.cells #[.int .i64 x.1, .int .i64 x.2.1, .string x.2.2] 61)) := (Below.refl _ _).alloc (Nat.le_refl _) _
      have HOX := Lib.hid (HOW.out.below hbx)
      have HCX := Lib.hid ((hbx.block _ (Array.getElem?_eq_some_iff.1 HCC.out).1).trans HCC.out)
      have HBX := Lib.hid (HB.out.trans (hbx.mono (by have := HB.out.size; omega)))
      generalize (wr.alloc (.cells #[.int .i64 x.1, .int .i64 x.2.1, .string x.2.2] 61)) = w7 at *
      generalize wr.heap.size = T at *
      have HX := Lib.hid hx
      clear z0 z1 z2 hbx hx
      obtain ⟨p0, p1, p2, -, -, -⟩ := cells3h HX.out
      have HF1 := Lib.hid (dOf1_any x st C w7 HCX.out)
      go_wp2_with fail
      refine HF1.out.mono ?_
      rintro e wx ⟨rfl, hb8⟩
      have HO8 := Lib.hid (HOX.out.below hb8)
      have HC8 := Lib.hid ((hb8.block _ (Array.getElem?_eq_some_iff.1 HCX.out).1).trans HCX.out)
      have HX8 := Lib.hid ((hb8.block _ (Array.getElem?_eq_some_iff.1 HX.out).1).trans HX.out)
      have HB8 := Lib.hid (HBX.out.trans (hb8.mono (by have := HBX.out.size; omega)))
      clear p0 p1 p2 hb8
      by_cases hs : x.1 = st
      · have e1 : (x.1 != st) = false := by simpa using hs
        have HK2 : Hid (keepG st (l.take (j + 1)) = keepG st (l.take j) ++ [x]) := Lib.hid (by rw [HT.out, HKS.out, if_pos hs])
        rw [e1]
        clear hs e1
        obtain ⟨p0, p1, p2, -, -, -⟩ := cells3h HX8.out
        obtain ⟨k1, k2, k3, k4, k5, k6⟩ := HO8.out.spots
        obtain ⟨v0, c0⟩ := World.isSome_eq (k5 (i * 3) (by omega))
        obtain ⟨v1, c1⟩ := World.isSome_eq (k5 (i * 3 + 1) (by omega))
        obtain ⟨v2, c2⟩ := World.isSome_eq (k5 (i * 3 + 2) (by omega))
        have f0 := k6 (i * 3)
        have f1 := k6 (i * 3 + 1)
        have f2 := k6 (i * 3 + 2)
        have hi1 : (i : Int) < (l.length : Int) := by omega
        have HS3 := Lib.hid (HO8.out.set3 (by omega : i < m.length) x)
        have HSB : Hid (Below B w (((wx.setCell ⟨g, i * 3, none⟩ (.int .i64 x.1)).setCell ⟨g, i * 3 + 1, none⟩ (.int .i64 x.2.1)).setCell ⟨g, i * 3 + 2, none⟩ (.string x.2.2))) := Lib.hid (((HB8.out.setCell (p := ⟨g, i * 3, none⟩) k1 _).setCell (p := ⟨g, i * 3 + 1, none⟩) k1 _).setCell (p := ⟨g, i * 3 + 2, none⟩) k1 _)
        have HSC : Hid ((((wx.setCell ⟨g, i * 3, none⟩ (.int .i64 x.1)).setCell ⟨g, i * 3 + 1, none⟩ (.int .i64 x.2.1)).setCell ⟨g, i * 3 + 2, none⟩ (.string x.2.2)).heap[C]? = some (.cells #[.int .i64 st] 3 (0, 0))) := Lib.hid (by
          have hne : C ≠ g := by
            rintro rfl
            exact HO8.out.ne HC8.out (by decide) rfl
          rw [Below.heap_setCell _ _ _ _ hne, Below.heap_setCell _ _ _ _ hne, Below.heap_setCell _ _ _ _ hne]
          exact HC8.out)
        clear k5 k6
        go_wp2_with fail
        go_roundg (l.length + k + 2 - (j + 1))
        case measure => omega
        case rel =>
          refine ⟨j + 1, i + 1, m.set i x, by omega, by omega, by omega, by rw [List.length_set]; exact hml, by go_num, by go_num, Lib.hid ?_, Lib.hid ?_, HS3, HSC, HSB⟩
          · rw [HK2.out, HKE.out, take_succ_get (by rw [List.length_set]; omega), List.take_set_of_le (Nat.le_refl i)]
            simp
          · rw [List.drop_set_of_lt (by omega)]
            exact HDR2.out
      · have e1 : (x.1 != st) = true := by simpa using hs
        have HK2 : Hid (keepG st (l.take (j + 1)) = keepG st (l.take j)) := Lib.hid (by rw [HT.out, HKS.out, if_neg hs])
        rw [e1]
        clear hs e1
        go_wp2_with fail
        go_roundg (l.length + k + 2 - (j + 1))
        case measure => omega
        case rel => exact ⟨j + 1, i, m, by omega, by omega, by omega, hml, by go_num, by go_num, Lib.hid (by rw [HK2.out]; exact HKE.out), HDR2, HO8, HC8, HB8⟩
    · have d1 : decide ((j : Int) < (l.length : Int)) = false := decide_eq_false (by omega)
      have hj1 : ¬ (j : Int) < (l.length : Int) := by omega
      have hjl2 : j = l.length := by omega
      subst hjl2
      have hil : (i : Int) ≤ (l.length : Int) := by omega
      obtain ⟨k1, k2, k3, k4, k5, k6⟩ := HOW.out.spots
      have HK5 := Lib.hid k5
      have HK6 := Lib.hid k6
      clear k5 k6
      have hil2 : i < m.length := by omega
      have hcl := run_clear_rows (P := Try.prog) (n := l.length - i) wr 51 61 0 _ Try.underlying51 Try.zeroDiag (zeroCells_one (by decide)) g (i * 3) (vc - i) (by omega) (fun p hp => HK5.out _ (by rw [zeroCells_len] at hp; have : p < 3 * (l.length - i) := hp; omega)) HK6.out
      have HRD := Lib.hid (fun vs => owns_front HOW.out (Nat.le_of_lt hil2) vs)
      have HBS := Lib.hid (fun vs => below_setCells k1 vs (i * 3) wr HB.out)
      generalize (Builtin.zeroCells (Value.agg #[.int .i64 0, .int .i64 0, .string { data := #[] }]).cells (l.length - i)).toList = vs at *
      have hkl : keepG st l = m.take i := by have := HKE.out; rwa [List.take_length] at this
      have hkn : (keepG st l).length = i := by rw [hkl, List.length_take]; omega
      have hR := HRD.out vs
      rw [← hkl, hkn] at hR
      have HRR := Lib.hid hR
      have HKN := Lib.hid hkn
      have hB2 := Lib.hid (HBS.out vs)
      clear hkl hkn hR HRD HBS
      go_wp2_with fail
      go_ret
      rw [HKN.out]
      exact ⟨_, _, rfl, HRR.out, hB2.out⟩
set_option maxRecDepth 100000 in
set_option maxHeartbeats 2000000 in
theorem dOf_any (l : List DiagD) (v : Value) (st : Int) (w : World) (hr : DgR w v l) (hbig : l.length ≤ 1000000) :
    Calls Try.prog 42 #[v, .int .i64 st] w fun e w' => ∃ va vc, e = .returned (.slice va (keepG st l).length vc) ∧ DgR w' (.slice va (keepG st l).length vc) (keepG st l) ∧ Below w.heap.size w w' := by
  have hb0 := (Below.refl w.heap.size w).alloc (Nat.le_refl _) (.cells #[.int .i64 st] 3)
  have HR := Lib.hid (hr.below hb0)
  have HG := Lib.hid (World.alloc_heap_new w (.cells #[.int .i64 st] 3))
  clear hr
  go_enter Try.func42, Try.ntmps42
  go_upto_region 1 with fail
  have hsz : (w.alloc (.cells #[.int .i64 st] 3)).heap.size = w.heap.size + 1 := World.size_alloc _ _
  generalize (w.alloc (.cells #[.int .i64 st] 3)) = w0 at *
  have HB0 := Lib.hid hb0
  have HSZ := Lib.hid hsz
  clear hb0 hsz
  go_wp2_with fail
  refine (CloneG_any l v w0 HR.out.1 (by omega)).mono ?_
  rintro e w1 ⟨va, vc, rfl, ho, hb1⟩
  have HO := Lib.hid ho
  have HG1 := Lib.hid ((hb1.block _ (Array.getElem?_eq_some_iff.1 HG.out).1).trans HG.out)
  have HB1 := Lib.hid (bthen HB0.out (Nat.le_refl _) hb1)
  have HS1 := Lib.hid hb1.size
  clear ho hb1
  go_wp2_with fail
  refine (DeleteG_any l va vc st w.heap.size w0.heap.size w1 HO.out HG1.out HS1.out hbig).mono ?_
  rintro e w2 ⟨va2, vc2, rfl, hrd, hb2⟩
  have HRD : Hid (DgR w2 (.slice va2 (keepG st l).length vc2) (keepG st l)) := Lib.hid ⟨hrd, fun x hx => HR.out.2 x (List.mem_filter.1 hx).1⟩
  have HB2 := Lib.hid (HB1.out.trans (hb2.mono (by have := HSZ.out; omega)))
  clear hrd hb2
  generalize hkl : keepG st l = kl at *
  go_wp2_with fail
  go_ret
  rw [hkl]
  exact ⟨_, _, rfl, HRD.out, HB2.out⟩
end Go.Proofs.Ytbnggfhofdpdcaa
