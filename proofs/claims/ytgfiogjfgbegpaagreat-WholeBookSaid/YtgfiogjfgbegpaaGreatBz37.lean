/-
  slices.Clone on strings and on steps (the copy is the call's own), def.Copy: contracts.
-/
import Derived.Deep.DeepCutAuto
import Derived.Test.YtgfiogjfgbegpaaGreatBz33
namespace Go.Proofs.YtgfiogjfgbegpaaGreat
open Go Go.RowKit Go.WideShapes

set_option maxRecDepth 100000 in
set_option maxHeartbeats 1000000 in
theorem CloneS_own (l : List ByteArray) (v : Value) (w : World) (hr : RdS w v 1 l.length (strsV l)) (hbig : l.length ≤ 1099511627776) :
    Calls Tryz.prog 81 #[v] w fun e w' => ∃ va vc, e = .returned (.slice va l.length vc) ∧ w'.ownsRow w.heap.size 9 1 (.slice va l.length vc) l.length (strsV l) ∧ Below w.heap.size w w' := by
  obtain ⟨i0, hi, hz0, hz1, hz2⟩ := info_parts Tryz.info_str
  have HR := Lib.hid hr
  obtain ⟨a, cap, rfl⟩ := hr.form
  have q22 : ∀ (w : World) (a : Option Addr) (n c n' c' : Nat), (binOp .eql 40 (.slice a n c) (.slice none n' c')).run Tryz.prog w = .ok (.bool a.isNone) w := fun w a n c n' c' => Lib.run_eql_slice_nil w _ _ a n c n' c' Tryz.underlying40
  cases a with
  | none =>
    have h0 : l = [] := by
      rcases hr.cases (by decide) with ⟨h0, _⟩ | ⟨hn, _, g, off, cap', hq, _⟩
      · exact List.eq_nil_of_length_eq_zero h0
      · cases hq
    subst h0
    clear hr
    go_enter Tryz.func81, Tryz.ntmps81
    go_wp2
    go_ret
    exact ⟨none, 0, rfl, ⟨rfl, .inl ⟨rfl, rfl⟩⟩, Below.refl _ _⟩
  | some x =>
    clear hr
    go_enter Tryz.func81, Tryz.ntmps81
    go_wp2_with (at_builtin; go_must (refine wpList_pushS rfl _ _ 40 rfl w.heap.size 9 i0 (.string ByteArray.empty) 1 16 Tryz.underlying40 hi hz0 hz1 hz2 rfl (by decide) _ _ _ rfl (World.ownsRow_made w #[] 0 (Nat.le_refl _) (Nat.zero_le _) rfl) _ l.length (strsV l) rfl (HR.out.below ((Below.refl _ w).alloc (Nat.le_refl _) _)) (strsV_one l) (by unfold maxLen; omega) (by omega) (by simp) ?_; intro v' w2 hown' hgrow hfr))
    have hgrow : (w.alloc (.cells #[] 9)).grownBy w2 (some w.heap.size) := hgrow
    go_ret
    have hown : w2.ownsRow w.heap.size 9 1 v' l.length (strsV l) := by simpa using hown'
    obtain ⟨va, vc, rfl⟩ := (RdS.of_owns hown).form
    exact ⟨va, vc, rfl, hown, ((Below.refl w.heap.size w).alloc (Nat.le_refl _) _).grown hgrow (by simp) (fun j ej => by cases ej; exact Nat.le_refl _)⟩

theorem Tryz.info_step : (Tryz.prog.info? 47).map (fun i => (i.zero, i.size, i.bytes)) = some (some (.agg #[.string { data := #[] }, .string { data := #[] }, .string { data := #[] }, .slice none 0 0, .int .i64 0, .int .i64 0, .int .i64 0, .int .i64 0, .int .u8 0, .string { data := #[] }, .slice none 0 0, .slice none 0 0, .int .i64 0]), 13, 184) := by kernel_rfl
set_option maxRecDepth 100000 in
set_option maxHeartbeats 1000000 in
theorem CloneD_any (n : Nat) (cells : List Value) (v : Value) (w : World) (hr : RdS w v 13 n cells) (h1 : ∀ u ∈ cells, u.oneCell' = true) (hbig : n ≤ 1073741824) :
    Calls Tryz.prog 80 #[v] w fun e w' => ∃ va vc, e = .returned (.slice va n vc) ∧ w'.ownsRow w.heap.size 47 13 (.slice va n vc) n cells ∧ Below w.heap.size w w' := by
  obtain ⟨i0, hi, hz0, hz1, hz2⟩ := info_parts Tryz.info_step
  have HR := Lib.hid hr
  have H1 := Lib.hid h1
  obtain ⟨a, cap, rfl⟩ := hr.form
  have q22 : ∀ (w : World) (a : Option Addr) (n c n' c' : Nat), (binOp .eql 22 (.slice a n c) (.slice none n' c')).run Tryz.prog w = .ok (.bool a.isNone) w := fun w a n c n' c' => Lib.run_eql_slice_nil w _ _ a n c n' c' Tryz.underlying22
  cases a with
  | none =>
    have h0 : n = 0 := by
      rcases hr.cases (by decide) with ⟨h0, _⟩ | ⟨hn, _, g, off, cap', hq, _⟩
      · exact h0
      · cases hq
    subst h0
    have hc : cells = [] := List.eq_nil_of_length_eq_zero (by have := hr.1; omega)
    subst hc
    clear hr h1
    go_enter Tryz.func80, Tryz.ntmps80
    go_wp2
    go_ret
    exact ⟨none, 0, rfl, ⟨rfl, .inl ⟨rfl, rfl⟩⟩, Below.refl _ _⟩
  | some x =>
    clear hr h1
    go_enter Tryz.func80, Tryz.ntmps80
    go_wp2_with (at_builtin; go_must (refine wpList_pushS rfl _ _ 22 rfl w.heap.size 47 i0 (.agg #[.string { data := #[] }, .string { data := #[] }, .string { data := #[] }, .slice none 0 0, .int .i64 0, .int .i64 0, .int .i64 0, .int .i64 0, .int .u8 0, .string { data := #[] }, .slice none 0 0, .slice none 0 0, .int .i64 0]) 13 184 Tryz.underlying22 hi hz0 hz1 hz2 rfl (by decide) _ _ _ rfl (World.ownsRow_made w #[] 0 (Nat.le_refl _) (Nat.zero_le _) rfl) _ n cells rfl (HR.out.below ((Below.refl _ w).alloc (Nat.le_refl _) _)) H1.out (by unfold maxLen; omega) (by omega) (by simp) ?_; intro v' w2 hown' hgrow hfr))
    have hgrow : (w.alloc (.cells #[] 47)).grownBy w2 (some w.heap.size) := hgrow
    go_ret
    have hown : w2.ownsRow w.heap.size 47 13 v' n cells := by simpa using hown'
    obtain ⟨va, vc, rfl⟩ := (RdS.of_owns hown).form
    exact ⟨va, vc, rfl, hown, ((Below.refl w.heap.size w).alloc (Nat.le_refl _) _).grown hgrow (by simp) (fun j ej => by cases ej; exact Nat.le_refl _)⟩

theorem owns_set1 {w : World} {base size n g cap q : Nat} {e : TypeId} {xs : List Value} (h : w.ownsRow base e size (.slice (some ⟨g, 0, none⟩) n cap) n xs) (_hq : q < n * size) (c : Value) : (w.setCell ⟨g, q, none⟩ c).ownsRow base e size (.slice (some ⟨g, 0, none⟩) n cap) n (xs.set q c) := by
  refine ⟨by simp [h.1], .inr ?_⟩
  rcases h.2 with ⟨h1, _⟩ | ⟨g', cap', cur, hv, hb, hg, h2, h3, h4, h5⟩
  · cases h1
  · simp only [Value.slice.injEq, Option.some.injEq, Addr.mk.injEq, and_true, true_and] at hv
    obtain ⟨rfl, rfl⟩ := hv
    refine ⟨g, cap, cur.setIfInBounds q c, rfl, hb, ?_, h2, h3, by simpa using h4, ?_⟩
    · simp [World.setCell, hg, Array.getElem?_modify]
    · rw [Array.toList_setIfInBounds, List.take_set, h5]
theorem flatten_set13 {rows : List (List Value)} (hm : ∀ r ∈ rows, r.length = 13) {j : Nat} (hj : j < rows.length) (x0 x1 x2 x3 x4 x5 x6 x7 x8 x9 x10 x11 x12 : Value) :
    (((((((((((((rows.flatten.set (j * 13) x0).set (j * 13 + 1) x1).set (j * 13 + 2) x2).set (j * 13 + 3) x3).set (j * 13 + 4) x4).set (j * 13 + 5) x5).set (j * 13 + 6) x6).set (j * 13 + 7) x7).set (j * 13 + 8) x8).set (j * 13 + 9) x9).set (j * 13 + 10) x10).set (j * 13 + 11) x11).set (j * 13 + 12) x12) = (rows.set j [x0, x1, x2, x3, x4, x5, x6, x7, x8, x9, x10, x11, x12]).flatten := by
  have hm2 : ∀ r ∈ rows.set j [x0, x1, x2, x3, x4, x5, x6, x7, x8, x9, x10, x11, x12], r.length = 13 := by
    intro r hr
    rcases List.mem_or_eq_of_mem_set hr with h | h
    · exact hm r h
    · rw [h]; rfl
  have h1 := flatten_get hm
  have h2 := flatten_get hm2
  apply List.ext_getElem?
  intro q
  by_cases hq : q < rows.length * 13
  · obtain ⟨i, k, hk, rfl⟩ : ∃ i k, k < 13 ∧ q = i * 13 + k := ⟨q / 13, q % 13, Nat.mod_lt _ (by omega), by omega⟩
    have hi : i < rows.length := by omega
    by_cases e : i = j
    · subst e
      rw [h2.2 i _ (by rw [List.getElem?_set_self hj]) k hk]
      have hl := h1.1
      have : k = 0 ∨ k = 1 ∨ k = 2 ∨ k = 3 ∨ k = 4 ∨ k = 5 ∨ k = 6 ∨ k = 7 ∨ k = 8 ∨ k = 9 ∨ k = 10 ∨ k = 11 ∨ k = 12 := by omega
      rcases this with rfl | rfl | rfl | rfl | rfl | rfl | rfl | rfl | rfl | rfl | rfl | rfl | rfl <;> simp [List.getElem?_set, hl] <;> omega
    · rw [h2.2 i rows[i] (by rw [List.getElem?_set_ne (by omega), List.getElem?_eq_getElem hi]) k hk, ← h1.2 i rows[i] (List.getElem?_eq_getElem hi) k hk]
      rw [List.getElem?_set_ne (by omega), List.getElem?_set_ne (by omega), List.getElem?_set_ne (by omega), List.getElem?_set_ne (by omega), List.getElem?_set_ne (by omega), List.getElem?_set_ne (by omega), List.getElem?_set_ne (by omega), List.getElem?_set_ne (by omega), List.getElem?_set_ne (by omega), List.getElem?_set_ne (by omega), List.getElem?_set_ne (by omega), List.getElem?_set_ne (by omega), List.getElem?_set_ne (by omega)]
  · rw [List.getElem?_eq_none (by simp only [List.length_set]; rw [h1.1]; omega), List.getElem?_eq_none (by rw [h2.1, List.length_set]; omega)]
theorem owns_set13 {W : World} {base n g cap j : Nat} {rows : List (List Value)} (hm : ∀ r ∈ rows, r.length = 13) (hn : rows.length = n) (h : W.ownsRow base 47 13 (.slice (some ⟨g, 0, none⟩) n cap) n rows.flatten) (hj : j < n) (x0 x1 x2 x3 x4 x5 x6 x7 x8 x9 x10 x11 x12 : Value) :
    (((((((((((((W.setCell ⟨g, j * 13, none⟩ (x0)).setCell ⟨g, j * 13 + 1, none⟩ (x1)).setCell ⟨g, j * 13 + 2, none⟩ (x2)).setCell ⟨g, j * 13 + 3, none⟩ (x3)).setCell ⟨g, j * 13 + 4, none⟩ (x4)).setCell ⟨g, j * 13 + 5, none⟩ (x5)).setCell ⟨g, j * 13 + 6, none⟩ (x6)).setCell ⟨g, j * 13 + 7, none⟩ (x7)).setCell ⟨g, j * 13 + 8, none⟩ (x8)).setCell ⟨g, j * 13 + 9, none⟩ (x9)).setCell ⟨g, j * 13 + 10, none⟩ (x10)).setCell ⟨g, j * 13 + 11, none⟩ (x11)).setCell ⟨g, j * 13 + 12, none⟩ (x12)).ownsRow base 47 13 (.slice (some ⟨g, 0, none⟩) n cap) n (rows.set j [x0, x1, x2, x3, x4, x5, x6, x7, x8, x9, x10, x11, x12]).flatten := by
  rw [← flatten_set13 hm (by omega)]
  exact owns_set1 (owns_set1 (owns_set1 (owns_set1 (owns_set1 (owns_set1 (owns_set1 (owns_set1 (owns_set1 (owns_set1 (owns_set1 (owns_set1 (owns_set1 (h) (by omega) x0) (by omega) x1) (by omega) x2) (by omega) x3) (by omega) x4) (by omega) x5) (by omega) x6) (by omega) x7) (by omega) x8) (by omega) x9) (by omega) x10) (by omega) x11) (by omega) x12
theorem set13_other {W : World} {g p k : Nat} {x0 x1 x2 x3 x4 x5 x6 x7 x8 x9 x10 x11 x12 : Value} (h : k ≠ g) : (((((((((((((W.setCell ⟨g, p, none⟩ (x0)).setCell ⟨g, p + 1, none⟩ (x1)).setCell ⟨g, p + 2, none⟩ (x2)).setCell ⟨g, p + 3, none⟩ (x3)).setCell ⟨g, p + 4, none⟩ (x4)).setCell ⟨g, p + 5, none⟩ (x5)).setCell ⟨g, p + 6, none⟩ (x6)).setCell ⟨g, p + 7, none⟩ (x7)).setCell ⟨g, p + 8, none⟩ (x8)).setCell ⟨g, p + 9, none⟩ (x9)).setCell ⟨g, p + 10, none⟩ (x10)).setCell ⟨g, p + 11, none⟩ (x11)).setCell ⟨g, p + 12, none⟩ (x12)).heap[k]? = W.heap[k]? := by
  rw [Below.heap_setCell _ _ _ _ h, Below.heap_setCell _ _ _ _ h, Below.heap_setCell _ _ _ _ h, Below.heap_setCell _ _ _ _ h, Below.heap_setCell _ _ _ _ h, Below.heap_setCell _ _ _ _ h, Below.heap_setCell _ _ _ _ h, Below.heap_setCell _ _ _ _ h, Below.heap_setCell _ _ _ _ h, Below.heap_setCell _ _ _ _ h, Below.heap_setCell _ _ _ _ h, Below.heap_setCell _ _ _ _ h, Below.heap_setCell _ _ _ _ h]
theorem set13_size {W : World} {g p : Nat} {x0 x1 x2 x3 x4 x5 x6 x7 x8 x9 x10 x11 x12 : Value} : (((((((((((((W.setCell ⟨g, p, none⟩ (x0)).setCell ⟨g, p + 1, none⟩ (x1)).setCell ⟨g, p + 2, none⟩ (x2)).setCell ⟨g, p + 3, none⟩ (x3)).setCell ⟨g, p + 4, none⟩ (x4)).setCell ⟨g, p + 5, none⟩ (x5)).setCell ⟨g, p + 6, none⟩ (x6)).setCell ⟨g, p + 7, none⟩ (x7)).setCell ⟨g, p + 8, none⟩ (x8)).setCell ⟨g, p + 9, none⟩ (x9)).setCell ⟨g, p + 10, none⟩ (x10)).setCell ⟨g, p + 11, none⟩ (x11)).setCell ⟨g, p + 12, none⟩ (x12)).heap.size = W.heap.size := by simp
theorem set13_below {n : Nat} {w W : World} (hb : Below n w W) {g p : Nat} {x0 x1 x2 x3 x4 x5 x6 x7 x8 x9 x10 x11 x12 : Value} (h : n ≤ g) : Below n w (((((((((((((W.setCell ⟨g, p, none⟩ (x0)).setCell ⟨g, p + 1, none⟩ (x1)).setCell ⟨g, p + 2, none⟩ (x2)).setCell ⟨g, p + 3, none⟩ (x3)).setCell ⟨g, p + 4, none⟩ (x4)).setCell ⟨g, p + 5, none⟩ (x5)).setCell ⟨g, p + 6, none⟩ (x6)).setCell ⟨g, p + 7, none⟩ (x7)).setCell ⟨g, p + 8, none⟩ (x8)).setCell ⟨g, p + 9, none⟩ (x9)).setCell ⟨g, p + 10, none⟩ (x10)).setCell ⟨g, p + 11, none⟩ (x11)).setCell ⟨g, p + 12, none⟩ (x12)) :=
  (((((((((((((hb.setCell (p := ⟨g, p, none⟩) h _).setCell (p := ⟨g, p + 1, none⟩) h _).setCell (p := ⟨g, p + 2, none⟩) h _).setCell (p := ⟨g, p + 3, none⟩) h _).setCell (p := ⟨g, p + 4, none⟩) h _).setCell (p := ⟨g, p + 5, none⟩) h _).setCell (p := ⟨g, p + 6, none⟩) h _).setCell (p := ⟨g, p + 7, none⟩) h _).setCell (p := ⟨g, p + 8, none⟩) h _).setCell (p := ⟨g, p + 9, none⟩) h _).setCell (p := ⟨g, p + 10, none⟩) h _).setCell (p := ⟨g, p + 11, none⟩) h _).setCell (p := ⟨g, p + 12, none⟩) h _)

theorem set3_13 {W : World} {B : Nat} {t : TypeId} {c0 c1 c2 c3 c4 c5 c6 c7 c8 c9 c10 c11 c12 x : Value} (h : W.heap[B]? = some (.cells #[c0, c1, c2, c3, c4, c5, c6, c7, c8, c9, c10, c11, c12] t (0, 0))) : (W.setCell ⟨B, 3, none⟩ x).heap[B]? = some (.cells #[c0, c1, c2, x, c4, c5, c6, c7, c8, c9, c10, c11, c12] t (0, 0)) := by
  simp [World.setCell, h, Array.getElem?_modify]
theorem set8_13 {W : World} {B : Nat} {t : TypeId} {c0 c1 c2 c3 c4 c5 c6 c7 c8 c9 c10 c11 c12 x0 x1 x2 x3 x4 : Value} (h : W.heap[B]? = some (.cells #[c0, c1, c2, c3, c4, c5, c6, c7, c8, c9, c10, c11, c12] t (0, 0))) : (((((W.setCell ⟨B, 8, none⟩ (x0)).setCell ⟨B, 9, none⟩ (x1)).setCell ⟨B, 10, none⟩ (x2)).setCell ⟨B, 11, none⟩ (x3)).setCell ⟨B, 12, none⟩ (x4)).heap[B]? = some (.cells #[c0, c1, c2, c3, c4, c5, c6, c7, x0, x1, x2, x3, x4] t (0, 0)) := by
  simp [World.setCell, h, Array.getElem?_modify]
theorem cells13w {W : World} {B : Nat} {t : TypeId} {c0 c1 c2 c3 c4 c5 c6 c7 c8 c9 c10 c11 c12 : Value} (h : W.heap[B]? = some (.cells #[c0, c1, c2, c3, c4, c5, c6, c7, c8, c9, c10, c11, c12] t (0, 0))) : W.frozen? ⟨B, 0, none⟩ = false ∧ W.frozen? ⟨B, 1, none⟩ = false ∧ W.frozen? ⟨B, 2, none⟩ = false ∧ W.frozen? ⟨B, 3, none⟩ = false ∧ W.frozen? ⟨B, 4, none⟩ = false ∧ W.frozen? ⟨B, 5, none⟩ = false ∧ W.frozen? ⟨B, 6, none⟩ = false ∧ W.frozen? ⟨B, 7, none⟩ = false ∧ W.frozen? ⟨B, 8, none⟩ = false ∧ W.frozen? ⟨B, 9, none⟩ = false ∧ W.frozen? ⟨B, 10, none⟩ = false ∧ W.frozen? ⟨B, 11, none⟩ = false ∧ W.frozen? ⟨B, 12, none⟩ = false := by
  refine ⟨?_, ?_, ?_, ?_, ?_, ?_, ?_, ?_, ?_, ?_, ?_, ?_, ?_⟩ <;> simp [World.frozen?, h]
def StepF (w : World) (N : Nat) (r : List Value) (s : StepD) : Prop := ∃ (aa : Option Addr) (ac : Nat) (ka : Option Addr) (kc : Nat) (ba : Option Addr) (bc : Nat), r = [.string s.name, .string s.action, .string s.undo, .slice aa s.after.length ac, .int .i64 s.most, .int .i64 s.first, .int .i64 s.factor, .int .i64 s.limit, .int .u8 (s.note.kind : Int), .string s.note.text, .slice ka s.note.keys.length kc, .slice ba s.note.kids.length bc, .int .i64 s.note.line] ∧ StepOk s ∧ w.ownsRow N 9 1 (.slice aa s.after.length ac) s.after.length (strsV s.after) ∧ NodeO w (fun b => N ≤ b) [.int .u8 (s.note.kind : Int), .string s.note.text, .slice ka s.note.keys.length kc, .slice ba s.note.kids.length bc, .int .i64 s.note.line] s.note
theorem StepF.keep {w w' : World} {N : Nat} {r : List Value} {s : StepD} (h : StepF w N r s) (hk : ∀ b, N ≤ b → b < w.heap.size → w'.heap[b]? = w.heap[b]?) : StepF w' N r s := by
  obtain ⟨aa, ac, ka, kc, ba, bc, h1, h2, h3, h4⟩ := h
  exact ⟨aa, ac, ka, kc, ba, bc, h1, h2, ownsRow_keepB h3 (fun g hg => hk g (h3.lt g hg).1 (h3.lt g hg).2), h4.keep hk (fun _ h => h)⟩
theorem StepF.toX {w : World} {N : Nat} {r : List Value} {s : StepD} (h : StepF w N r s) : StepX w r s := by
  obtain ⟨aa, ac, ka, kc, ba, bc, h1, h2, h3, h4⟩ := h
  exact ⟨aa, ac, ka, kc, ba, bc, h1, h2, RdS.of_owns h3, h4.toR⟩
theorem steps_rows {w : World} {l : List StepD} {rows : List (List Value)} (h1 : rows.length = l.length) (h3 : ∀ (i : Nat) (r : List Value) (s : StepD), rows[i]? = some r → l[i]? = some s → StepX w r s) : (∀ r ∈ rows, r.length = 13) ∧ ∀ u ∈ rows.flatten, u.oneCell' = true := by
  have key : ∀ r ∈ rows, ∃ s, StepX w r s := by
    intro r hr
    obtain ⟨j, hj, rfl⟩ := List.getElem_of_mem hr
    exact ⟨_, h3 j _ _ (List.getElem?_eq_getElem hj) (List.getElem?_eq_getElem (by omega))⟩
  refine ⟨fun r hr => (key r hr).choose_spec.len, fun u hu => ?_⟩
  obtain ⟨r, hr, hur⟩ := List.mem_flatten.1 hu
  obtain ⟨s, aa, ac, ka, kc, ba, bc, hs⟩ := key r hr
  rw [hs.eq] at hur
  simp at hur
  rcases hur with rfl | rfl | rfl | rfl | rfl | rfl | rfl | rfl | rfl | rfl | rfl | rfl | rfl <;> rfl

end Go.Proofs.YtgfiogjfgbegpaaGreat

/-
  def.Copy: contract.
-/
namespace Go.Proofs.YtgfiogjfgbegpaaGreat
open Go Go.RowKit Go.WideShapes

theorem own_at {W : World} {base : Nat} {e : TypeId} {size n : Nat} {v : Value} {xs : List Value} {B i : Nat} (x : Value) (h : W.ownsRow base e size v n xs) (hB : B < base) : (W.setCell ⟨B, i, none⟩ x).ownsRow base e size v n xs :=
  ownsRow_keepB h (fun g hg => Below.heap_setCell W ⟨B, i, none⟩ x g (show g ≠ B by have := (h.lt g hg).1; omega))
theorem set3d {W : World} {B : Nat} {t : TypeId} {a b c x y z : Value} (h : W.heap[B]? = some (.cells #[a, b, c] t (0, 0))) : (((W.setCell ⟨B, 0, none⟩ x).setCell ⟨B, 1, none⟩ y).setCell ⟨B, 2, none⟩ z).heap[B]? = some (.cells #[x, y, z] t (0, 0)) := by
  simp [World.setCell, h, Array.getElem?_modify]
theorem set2d {W : World} {B : Nat} {t : TypeId} {a b c z : Value} (h : W.heap[B]? = some (.cells #[a, b, c] t (0, 0))) : (W.setCell ⟨B, 2, none⟩ z).heap[B]? = some (.cells #[a, b, z] t (0, 0)) := by
  simp [World.setCell, h, Array.getElem?_modify]
theorem set8_other {W : World} {B k : Nat} {x0 x1 x2 x3 x4 : Value} (h : k ≠ B) : (((((W.setCell ⟨B, 8, none⟩ (x0)).setCell ⟨B, 9, none⟩ (x1)).setCell ⟨B, 10, none⟩ (x2)).setCell ⟨B, 11, none⟩ (x3)).setCell ⟨B, 12, none⟩ (x4)).heap[k]? = W.heap[k]? := by
  rw [Below.heap_setCell _ _ _ _ h, Below.heap_setCell _ _ _ _ h, Below.heap_setCell _ _ _ _ h, Below.heap_setCell _ _ _ _ h, Below.heap_setCell _ _ _ _ h]
theorem set8_below {n : Nat} {w W : World} (hb : Below n w W) {B : Nat} {x0 x1 x2 x3 x4 : Value} (h : n ≤ B) : Below n w (((((W.setCell ⟨B, 8, none⟩ (x0)).setCell ⟨B, 9, none⟩ (x1)).setCell ⟨B, 10, none⟩ (x2)).setCell ⟨B, 11, none⟩ (x3)).setCell ⟨B, 12, none⟩ (x4)) :=
  ((((hb.setCell (p := ⟨B, 8, none⟩) h _).setCell (p := ⟨B, 9, none⟩) h _).setCell (p := ⟨B, 10, none⟩) h _).setCell (p := ⟨B, 11, none⟩) h _).setCell (p := ⟨B, 12, none⟩) h _
def rowsOk (w wr : World) (N1 j : Nat) (rows : List (List Value)) (l : List StepD) : Prop := rows.length = l.length ∧ ∀ (i : Nat) (r : List Value) (s : StepD), rows[i]? = some r → l[i]? = some s → (i < j → StepF wr N1 r s) ∧ (¬ i < j → StepX w r s)
theorem rowsOk.len {w wr : World} {N1 j : Nat} {rows : List (List Value)} {l : List StepD} (h : rowsOk w wr N1 j rows l) : ∀ r ∈ rows, r.length = 13 := by
  intro r hr
  obtain ⟨i, hi, rfl⟩ := List.getElem_of_mem hr
  have h1 := h.2 i _ _ (List.getElem?_eq_getElem hi) (List.getElem?_eq_getElem (by have := h.1; omega))
  by_cases e : i < j
  · exact (h1.1 e).toX.len
  · exact (h1.2 e).len
theorem rowsOk.keep {w wr wr' : World} {N1 j : Nat} {rows : List (List Value)} {l : List StepD} (h : rowsOk w wr N1 j rows l) (hk : ∀ b, N1 ≤ b → b < wr.heap.size → wr'.heap[b]? = wr.heap[b]?) : rowsOk w wr' N1 j rows l :=
  ⟨h.1, fun i r s h1 h2 => ⟨fun e => ((h.2 i r s h1 h2).1 e).keep hk, (h.2 i r s h1 h2).2⟩⟩
theorem rowsOk.set {w wr : World} {N1 j : Nat} {rows : List (List Value)} {l : List StepD} (h : rowsOk w wr N1 j rows l) (hj : j < l.length) {r : List Value} (hr : StepF wr N1 r l[j]) : rowsOk w wr N1 (j + 1) (rows.set j r) l := by
  refine ⟨by simp [h.1], fun i r' s h1 h2 => ?_⟩
  by_cases e : i = j
  · subst e
    rw [List.getElem?_set_self (by have := h.1; omega)] at h1
    cases h1
    rw [List.getElem?_eq_getElem hj] at h2
    cases h2
    exact ⟨fun _ => hr, fun e => absurd (Nat.lt_succ_self _) e⟩
  · rw [List.getElem?_set_ne (fun x => e x.symm)] at h1
    have := h.2 i r' s h1 h2
    exact ⟨fun e2 => this.1 (by omega), fun e2 => this.2 (by omega)⟩

set_option maxRecDepth 100000 in
set_option maxHeartbeats 4000000 in
theorem dCopy_any (d : DefD) (cs : List Value) (sa : Option Addr) (sc : Nat) (w : World) (h : DefR w cs d sa sc) (hs : SmallD d) :
    Calls Tryz.prog 42 #[.agg cs.toArray] w fun e w' => ∃ (va : Option Addr) (vc : Nat) (rows : List (List Value)), e = .returned (.agg #[.string d.name, .string d.text, .slice va d.steps.length vc]) ∧ rows.length = d.steps.length ∧ w'.ownsRow w.heap.size 47 13 (.slice va d.steps.length vc) d.steps.length rows.flatten ∧ (∀ (i : Nat) (r : List Value) (s : StepD), rows[i]? = some r → d.steps[i]? = some s → StepF w' w.heap.size r s) ∧ Below w.heap.size w w' := by
  obtain ⟨rfl, hnm, htx, hst⟩ := h
  obtain ⟨rows0, hr1, hr2, hr3⟩ := hst
  have hds := hs.steps
  have HSM := Lib.hid hs
  have hsr := steps_rows hr1 hr3
  have hb0 : Below w.heap.size w ((w.alloc (.cells #[.string d.name, .string d.text, .slice sa d.steps.length sc] 24)).alloc (.cells #[.string { data := #[] }, .string { data := #[] }, .slice none 0 0] 24)) := ((Below.refl _ w).alloc (Nat.le_refl _) _).alloc (by simp) _
  have g1 : ((w.alloc (.cells #[.string d.name, .string d.text, .slice sa d.steps.length sc] 24)).alloc (.cells #[.string { data := #[] }, .string { data := #[] }, .slice none 0 0] 24)).heap[w.heap.size]? = some (.cells #[.string d.name, .string d.text, .slice sa d.steps.length sc] 24 (0, 0)) := (Below.heap_alloc _ _ _ (by simp)).trans (World.alloc_heap_new w _)
  have g2 : ((w.alloc (.cells #[.string d.name, .string d.text, .slice sa d.steps.length sc] 24)).alloc (.cells #[.string { data := #[] }, .string { data := #[] }, .slice none 0 0] 24)).heap[w.heap.size + 1]? = some (.cells #[.string { data := #[] }, .string { data := #[] }, .slice none 0 0] 24 (0, 0)) := by
    have := World.alloc_heap_new (w.alloc (.cells #[.string d.name, .string d.text, .slice sa d.steps.length sc] 24)) (.cells #[.string { data := #[] }, .string { data := #[] }, .slice none 0 0] 24)
    rwa [World.size_alloc] at this
  have hsz : ((w.alloc (.cells #[.string d.name, .string d.text, .slice sa d.steps.length sc] 24)).alloc (.cells #[.string { data := #[] }, .string { data := #[] }, .slice none 0 0] 24)).heap.size = w.heap.size + 2 := by simp
  go_enter Tryz.func42, Tryz.ntmps42
  go_upto_region 1 with fail
  generalize hwz : ((w.alloc (.cells #[.string d.name, .string d.text, .slice sa d.steps.length sc] 24)).alloc (.cells #[.string { data := #[] }, .string { data := #[] }, .slice none 0 0] 24)) = wz at *
  have HR2 := Lib.hid (hr2.below hb0)
  have HR3 := Lib.hid hr3
  have HONE := Lib.hid hsr.2
  have HB0 := Lib.hid hb0
  have HSZ := Lib.hid hsz
  have G1 := Lib.hid g1
  have G2 := Lib.hid g2
  obtain ⟨q0, q1, q2, f0, f1, f2⟩ := cells3h g1
  clear hr2 hr3 hsr hb0 hsz g1 g2 hwz hs
  go_wp2_with fail
  refine (CloneD_any d.steps.length rows0.flatten _ wz HR2.out HONE.out (by omega)).mono ?_
  rintro e w1 ⟨va, vc, rfl, hown1, hb1⟩
  have hs1 := hb1.size
  have hz := HSZ.out
  have hg1 := (hb1.block _ (by omega)).trans G1.out
  have hg2 := (hb1.block _ (by omega)).trans G2.out
  clear q0 q1 q2 f0 f1 f2
  obtain ⟨q0, q1, q2, f0, f1, f2⟩ := cells3h hg1
  go_upto_region 2 with fail
  have hown2 := own_at (B := w.heap.size) (i := 2) (.slice va d.steps.length vc) hown1 (by omega)
  have hset := set2d (z := .slice va d.steps.length vc) hg1
  have hg2' := (Below.heap_setCell w1 ⟨w.heap.size, 2, none⟩ (.slice va d.steps.length vc) (w.heap.size + 1) (by simp)).trans hg2
  have hbw2 : Below w.heap.size w (w1.setCell ⟨w.heap.size, 2, none⟩ (.slice va d.steps.length vc)) := (bthen HB0.out (Nat.le_refl _) hb1).setCell (p := ⟨w.heap.size, 2, none⟩) (Nat.le_refl _) _
  have hsz2 : (w1.setCell ⟨w.heap.size, 2, none⟩ (.slice va d.steps.length vc)).heap.size = w1.heap.size := by simp
  clear q0 q1 q2 f0 f1 f2
  generalize w1.setCell ⟨w.heap.size, 2, none⟩ (.slice va d.steps.length vc) = w2 at *
  have HN1 : Hid (∀ g, (Value.slice va d.steps.length vc).ownBlock = some g → w.heap.size + 2 ≤ g ∧ g < w2.heap.size) := Lib.hid (fun g hg => by have := hown2.lt g hg; omega)
  have hN1 : w.heap.size + 2 ≤ w2.heap.size := by omega
  generalize hN1e : w2.heap.size = N1 at *
  have HS2 := Lib.hid hset
  have HG2 := Lib.hid hg2'
  have HB2 := Lib.hid hbw2
  have HOW := Lib.hid hown2
  have HNE := Lib.hid hN1e
  obtain ⟨q0, q1, q2, f0, f1, f2⟩ := cells3h hset
  have hvl : d.steps.length ≤ vc ∧ vc ≤ 9223372036854775807 := by
    obtain ⟨_, _, _, he, h3, h4, _⟩ := RdS.of_owns hown2
    injection he with _ _ e3; subst e3; unfold maxLen at h4; exact ⟨h3, h4⟩
  clear hown1 hb1 hs1 hg1 hg2 hown2 hset hg2' hbw2 hsz2 hN1e
  go_wp2_with fail
  go_loopw [12] (fun i wr => ∃ (j : Nat) (rows : List (List Value)), j ≤ d.steps.length ∧ i = .int .i64 j ∧ Hid (rowsOk w wr N1 j rows d.steps) ∧ Hid (wr.ownsRow wz.heap.size 47 13 (.slice va d.steps.length vc) d.steps.length rows.flatten) ∧ Hid (wr.heap[w.heap.size]? = some (.cells #[.string d.name, .string d.text, .slice va d.steps.length vc] 24 (0, 0))) ∧ Hid (wr.heap[w.heap.size + 1]? = some (.cells #[.string { data := #[] }, .string { data := #[] }, .slice none 0 0] 24 (0, 0))) ∧ Hid (Below w.heap.size w wr) ∧ N1 ≤ wr.heap.size) (fun i _ => d.steps.length - (intOf i).toNat)
  case atStart => exact ⟨0, rows0, by omega, rfl, Lib.hid ⟨hr1, fun i r s h1 h2 => ⟨fun e => absurd e (by omega), fun _ => HR3.out i r s h1 h2⟩⟩, HOW, HS2, HG2, HB2, by have := HNE.out; omega⟩
  case round =>
    rename World => wo
    obtain ⟨j, rows, hj, rfl, HRO, HOR, HS3, HG3, HB3, hN3⟩ := hrel
    clear q0 q1 q2 f0 f1 f2
    obtain ⟨q0, q1, q2, f0, f1, f2⟩ := cells3h HS3.out
    by_cases hlt : j < d.steps.length
    · have hrl : j < rows.length := by have := HRO.out.1; omega
      obtain ⟨aa, ac, ka, kc, ba, bc, hsr⟩ := (HRO.out.2 j _ _ (List.getElem?_eq_getElem hrl) (List.getElem?_eq_getElem hlt)).2 (by omega)
      obtain ⟨G, cap, hva, hG1, hG2⟩ := HOR.out.form (by omega)
      cases hva
      have hG := HN1.out G rfl
      have hfl := flatten_get HRO.out.len
      have hcell : ∀ k, k < 13 → wo.cell? ⟨G, j * 13 + k, none⟩ = rows[j][k]? := fun k hk => by rw [HOR.out.cellAt _ (by omega), hfl.2 j _ (List.getElem?_eq_getElem hrl) k hk]
      have hfz : ∀ k, wo.frozen? ⟨G, k, none⟩ = false := fun k => HOR.out.frozenAt k
      rw [hsr.eq] at hcell

      have z0 : wo.cell? ⟨G, j * 13, none⟩ = some (.string d.steps[j].name) := hcell 0 (by omega)
      have z1 : wo.cell? ⟨G, j * 13 + 1, none⟩ = some (.string d.steps[j].action) := hcell 1 (by omega)
      have z2 : wo.cell? ⟨G, j * 13 + 2, none⟩ = some (.string d.steps[j].undo) := hcell 2 (by omega)
      have z3 : wo.cell? ⟨G, j * 13 + 3, none⟩ = some (.slice aa d.steps[j].after.length ac) := hcell 3 (by omega)
      have z4 : wo.cell? ⟨G, j * 13 + 4, none⟩ = some (.int .i64 d.steps[j].most) := hcell 4 (by omega)
      have z5 : wo.cell? ⟨G, j * 13 + 5, none⟩ = some (.int .i64 d.steps[j].first) := hcell 5 (by omega)
      have z6 : wo.cell? ⟨G, j * 13 + 6, none⟩ = some (.int .i64 d.steps[j].factor) := hcell 6 (by omega)
      have z7 : wo.cell? ⟨G, j * 13 + 7, none⟩ = some (.int .i64 d.steps[j].limit) := hcell 7 (by omega)
      have z8 : wo.cell? ⟨G, j * 13 + 8, none⟩ = some (.int .u8 (d.steps[j].note.kind : Int)) := hcell 8 (by omega)
      have z9 : wo.cell? ⟨G, j * 13 + 9, none⟩ = some (.string d.steps[j].note.text) := hcell 9 (by omega)
      have z10 : wo.cell? ⟨G, j * 13 + 10, none⟩ = some (.slice ka d.steps[j].note.keys.length kc) := hcell 10 (by omega)
      have z11 : wo.cell? ⟨G, j * 13 + 11, none⟩ = some (.slice ba d.steps[j].note.kids.length bc) := hcell 11 (by omega)
      have z12 : wo.cell? ⟨G, j * 13 + 12, none⟩ = some (.int .i64 d.steps[j].note.line) := hcell 12 (by omega)
      have HZ := Lib.hid (At13.mk z0 z1 z2 z3 z4 z5 z6 z7 z8 z9 z10 z11 z12)
      clear hcell hfz hfl
      have HSS := Lib.hid (HSM.out.each _ (List.getElem_mem hlt))
      have HLJ : Hid (∀ (rows : List (List Value)) (wr : World) (r : List Value), rowsOk w wr N1 j rows d.steps → StepF wr N1 r d.steps[j] → rowsOk w wr N1 (j + 1) (rows.set j r) d.steps) := Lib.hid (fun rows wr r h1 h2 => h1.set hlt h2)
      have hj0 : (0 : Int) ≤ (j : Int) := by omega
      have hj1 : (j : Int) < (d.steps.length : Int) := by omega
      have HSR := Lib.hid hsr
      clear hsr
      generalize d.steps[j] = s at *
      go_upto_region 5 with fail
      have hbA : Below wo.heap.size wo (wo.alloc (.cells #[.string s.name, .string s.action, .string s.undo, .slice aa s.after.length ac, .int .i64 s.most, .int .i64 s.first, .int .i64 s.factor, .int .i64 s.limit, .int .u8 (s.note.kind : Int), .string s.note.text, .slice ka s.note.keys.length kc, .slice ba s.note.kids.length bc, .int .i64 s.note.line] 47)) := (Below.refl _ _).alloc (Nat.le_refl _) _
      have gA := World.alloc_heap_new wo (.cells #[.string s.name, .string s.action, .string s.undo, .slice aa s.after.length ac, .int .i64 s.most, .int .i64 s.first, .int .i64 s.factor, .int .i64 s.limit, .int .u8 (s.note.kind : Int), .string s.note.text, .slice ka s.note.keys.length kc, .slice ba s.note.kids.length bc, .int .i64 s.note.line] 47)
      have hsA : (wo.alloc (.cells #[.string s.name, .string s.action, .string s.undo, .slice aa s.after.length ac, .int .i64 s.most, .int .i64 s.first, .int .i64 s.factor, .int .i64 s.limit, .int .u8 (s.note.kind : Int), .string s.note.text, .slice ka s.note.keys.length kc, .slice ba s.note.kids.length bc, .int .i64 s.note.line] 47)).heap.size = wo.heap.size + 1 := by simp
      clear z0 z1 z2 z3 z4 z5 z6 z7 z8 z9 z10 z11 z12 q0 q1 q2 f0 f1 f2
      generalize wo.alloc (.cells #[.string s.name, .string s.action, .string s.undo, .slice aa s.after.length ac, .int .i64 s.most, .int .i64 s.first, .int .i64 s.factor, .int .i64 s.limit, .int .u8 (s.note.kind : Int), .string s.note.text, .slice ka s.note.keys.length kc, .slice ba s.note.kids.length bc, .int .i64 s.note.line] 47) = wA at *
      have HA := Lib.hid hbA
      have HGA := Lib.hid gA
      have HSA := Lib.hid hsA
      obtain ⟨p0, p1, p2, p3, p4, p5, p6, p7, p8, p9, p10, p11, p12⟩ := cells13q gA
      clear hbA gA hsA
      have hafter := HSS.out.after
      go_wp2_with fail
      refine (CloneS_own s.after _ wA (HSR.out.after.below (HB3.out.trans (HA.out.mono HB3.out.size))) (by omega)).mono ?_
      rintro e w5 ⟨va5, vc5, rfl, hown5, hb5⟩
      have hsA := HSA.out
      have hs5 := hb5.size
      have gB := (hb5.block _ (by omega)).trans HGA.out
      clear p0 p1 p2 p3 p4 p5 p6 p7 p8 p9 p10 p11 p12
      obtain ⟨p0, p1, p2, p3, p4, p5, p6, p7, p8, p9, p10, p11, p12⟩ := cells13q gB
      obtain ⟨f0, f1, f2, f3, f4, f5, f6, f7, f8, f9, f10, f11, f12⟩ := cells13w gB
      go_upto_region 6 with fail
      have hset5 := set3_13 (x := .slice va5 s.after.length vc5) gB
      have hown6 := own_at (B := wo.heap.size) (i := 3) (.slice va5 s.after.length vc5) hown5 (by omega)
      have hb6 : Below wo.heap.size wo (w5.setCell ⟨wo.heap.size, 3, none⟩ (.slice va5 s.after.length vc5)) := (bthen HA.out (Nat.le_refl _) hb5).setCell (p := ⟨wo.heap.size, 3, none⟩) (Nat.le_refl _) _
      have hs6 : (w5.setCell ⟨wo.heap.size, 3, none⟩ (.slice va5 s.after.length vc5)).heap.size = w5.heap.size := by simp
      clear p0 p1 p2 p3 p4 p5 p6 p7 p8 p9 p10 p11 p12 f0 f1 f2 f3 f4 f5 f6 f7 f8 f9 f10 f11 f12
      generalize w5.setCell ⟨wo.heap.size, 3, none⟩ (.slice va5 s.after.length vc5) = w6 at *
      have HS6 := Lib.hid hset5
      have HOW6 := Lib.hid hown6
      have HB6 := Lib.hid hb6
      have hs6' : wo.heap.size < w6.heap.size := by omega
      obtain ⟨p0, p1, p2, p3, p4, p5, p6, p7, p8, p9, p10, p11, p12⟩ := cells13q hset5
      clear hset5 hown6 hb6 hs6 hown5 hb5 hs5 gB
      go_wp2_with fail
      refine (Copy_any s.note _ w6 (HSR.out.note.belowW (HB3.out.trans (HB6.out.mono HB3.out.size))) HSS.out.note).mono ?_
      rintro e w7 ⟨cs7, rfl, hn7, hb7⟩
      obtain ⟨ka6, kc6, ba6, bc6, rfl⟩ := hn7.cells
      have hs7 := hb7.size
      have gB := (hb7.block _ hs6').trans HS6.out
      clear p0 p1 p2 p3 p4 p5 p6 p7 p8 p9 p10 p11 p12
      obtain ⟨p0, p1, p2, p3, p4, p5, p6, p7, p8, p9, p10, p11, p12⟩ := cells13q gB
      obtain ⟨f0, f1, f2, f3, f4, f5, f6, f7, f8, f9, f10, f11, f12⟩ := cells13w gB
      go_upto_region 7 with fail
      have hset8 := set8_13 (x0 := .int .u8 (s.note.kind : Int)) (x1 := .string s.note.text) (x2 := .slice ka6 s.note.keys.length kc6) (x3 := .slice ba6 s.note.kids.length bc6) (x4 := .int .i64 s.note.line) gB
      have hown8 : (((((w7.setCell ⟨wo.heap.size, 8, none⟩ (.int .u8 (s.note.kind : Int))).setCell ⟨wo.heap.size, 9, none⟩ (.string s.note.text)).setCell ⟨wo.heap.size, 10, none⟩ (.slice ka6 s.note.keys.length kc6)).setCell ⟨wo.heap.size, 11, none⟩ (.slice ba6 s.note.kids.length bc6)).setCell ⟨wo.heap.size, 12, none⟩ (.int .i64 s.note.line)).ownsRow N1 9 1 (.slice va5 s.after.length vc5) s.after.length (strsV s.after) := ownsRow_mono (own_at _ (own_at _ (own_at _ (own_at _ (own_at _ (ownsB HOW6.out hb7) (by omega)) (by omega)) (by omega)) (by omega)) (by omega)) (by omega)
      have hn8 : NodeO (((((w7.setCell ⟨wo.heap.size, 8, none⟩ (.int .u8 (s.note.kind : Int))).setCell ⟨wo.heap.size, 9, none⟩ (.string s.note.text)).setCell ⟨wo.heap.size, 10, none⟩ (.slice ka6 s.note.keys.length kc6)).setCell ⟨wo.heap.size, 11, none⟩ (.slice ba6 s.note.kids.length bc6)).setCell ⟨wo.heap.size, 12, none⟩ (.int .i64 s.note.line)) (fun b => N1 ≤ b) [.int .u8 (s.note.kind : Int), .string s.note.text, .slice ka6 s.note.keys.length kc6, .slice ba6 s.note.kids.length bc6, .int .i64 s.note.line] s.note := hn7.keep (fun g hP _ => set8_other (by have := hP.1; omega)) (fun g hP => by have := hP.1; omega)
      have hb8 : Below wo.heap.size wo (((((w7.setCell ⟨wo.heap.size, 8, none⟩ (.int .u8 (s.note.kind : Int))).setCell ⟨wo.heap.size, 9, none⟩ (.string s.note.text)).setCell ⟨wo.heap.size, 10, none⟩ (.slice ka6 s.note.keys.length kc6)).setCell ⟨wo.heap.size, 11, none⟩ (.slice ba6 s.note.kids.length bc6)).setCell ⟨wo.heap.size, 12, none⟩ (.int .i64 s.note.line)) := set8_below (bthen HB6.out (Nat.le_refl _) hb7) (Nat.le_refl _)
      clear p0 p1 p2 p3 p4 p5 p6 p7 p8 p9 p10 p11 p12 f0 f1 f2 f3 f4 f5 f6 f7 f8 f9 f10 f11 f12
      generalize (((((w7.setCell ⟨wo.heap.size, 8, none⟩ (.int .u8 (s.note.kind : Int))).setCell ⟨wo.heap.size, 9, none⟩ (.string s.note.text)).setCell ⟨wo.heap.size, 10, none⟩ (.slice ka6 s.note.keys.length kc6)).setCell ⟨wo.heap.size, 11, none⟩ (.slice ba6 s.note.kids.length bc6)).setCell ⟨wo.heap.size, 12, none⟩ (.int .i64 s.note.line)) = w8 at *
      have HSF : Hid (StepF w8 N1 [.string s.name, .string s.action, .string s.undo, .slice va5 s.after.length vc5, .int .i64 s.most, .int .i64 s.first, .int .i64 s.factor, .int .i64 s.limit, .int .u8 (s.note.kind : Int), .string s.note.text, .slice ka6 s.note.keys.length kc6, .slice ba6 s.note.kids.length bc6, .int .i64 s.note.line] s) := Lib.hid ⟨_, _, _, _, _, _, rfl, HSR.out.ok, hown8, hn8⟩
      have HRO8 := Lib.hid (HRO.out.keep (fun b _ h2 => hb8.block b h2))
      have hor8 := ownsB HOR.out hb8
      have HS8 := Lib.hid ((hb8.block _ (by omega)).trans HS3.out)
      have HG8 := Lib.hid ((hb8.block _ (by omega)).trans HG3.out)
      have HB8 := Lib.hid (bthen HB3.out (Nat.le_refl _) hb8)
      have hs8 := hb8.size
      obtain ⟨p0, p1, p2, p3, p4, p5, p6, p7, p8, p9, p10, p11, p12⟩ := cells13q hset8
      obtain ⟨z0, z1, z2, z3, z4, z5, z6, z7, z8, z9, z10, z11, z12⟩ := HZ.out.below hb8

      have f0 := hor8.frozenAt (j * 13)
      have f1 := hor8.frozenAt (j * 13 + 1)
      have f2 := hor8.frozenAt (j * 13 + 2)
      have f3 := hor8.frozenAt (j * 13 + 3)
      have f4 := hor8.frozenAt (j * 13 + 4)
      have f5 := hor8.frozenAt (j * 13 + 5)
      have f6 := hor8.frozenAt (j * 13 + 6)
      have f7 := hor8.frozenAt (j * 13 + 7)
      have f8 := hor8.frozenAt (j * 13 + 8)
      have f9 := hor8.frozenAt (j * 13 + 9)
      have f10 := hor8.frozenAt (j * 13 + 10)
      have f11 := hor8.frozenAt (j * 13 + 11)
      have f12 := hor8.frozenAt (j * 13 + 12)
      obtain ⟨q0, q1, q2, -, -, -⟩ := cells3h HS8.out
      have HOR8 := Lib.hid hor8
      clear hor8 hown8 hn8 hb8 hset8 gB hn7 hb7 hs7
      go_wp2_with fail
      have hlen := HRO8.out.len
      have hor9 := owns_set13 hlen HRO8.out.1 HOR8.out hlt (.string s.name) (.string s.action) (.string s.undo) (.slice va5 s.after.length vc5) (.int .i64 s.most) (.int .i64 s.first) (.int .i64 s.factor) (.int .i64 s.limit) (.int .u8 (s.note.kind : Int)) (.string s.note.text) (.slice ka6 s.note.keys.length kc6) (.slice ba6 s.note.kids.length bc6) (.int .i64 s.note.line)
      have hot := fun k (hk : k ≠ G) => set13_other (W := w8) (g := G) (p := j * 13) (x0 := .string s.name) (x1 := .string s.action) (x2 := .string s.undo) (x3 := .slice va5 s.after.length vc5) (x4 := .int .i64 s.most) (x5 := .int .i64 s.first) (x6 := .int .i64 s.factor) (x7 := .int .i64 s.limit) (x8 := .int .u8 (s.note.kind : Int)) (x9 := .string s.note.text) (x10 := .slice ka6 s.note.keys.length kc6) (x11 := .slice ba6 s.note.kids.length bc6) (x12 := .int .i64 s.note.line) hk
      have hsz9 := set13_size (W := w8) (g := G) (p := j * 13) (x0 := .string s.name) (x1 := .string s.action) (x2 := .string s.undo) (x3 := .slice va5 s.after.length vc5) (x4 := .int .i64 s.most) (x5 := .int .i64 s.first) (x6 := .int .i64 s.factor) (x7 := .int .i64 s.limit) (x8 := .int .u8 (s.note.kind : Int)) (x9 := .string s.note.text) (x10 := .slice ka6 s.note.keys.length kc6) (x11 := .slice ba6 s.note.kids.length bc6) (x12 := .int .i64 s.note.line)
      have hbl9 := set13_below HB8.out (g := G) (p := j * 13) (x0 := .string s.name) (x1 := .string s.action) (x2 := .string s.undo) (x3 := .slice va5 s.after.length vc5) (x4 := .int .i64 s.most) (x5 := .int .i64 s.first) (x6 := .int .i64 s.factor) (x7 := .int .i64 s.limit) (x8 := .int .u8 (s.note.kind : Int)) (x9 := .string s.note.text) (x10 := .slice ka6 s.note.keys.length kc6) (x11 := .slice ba6 s.note.kids.length bc6) (x12 := .int .i64 s.note.line) (by omega)
      clear p0 p1 p2 p3 p4 p5 p6 p7 p8 p9 p10 p11 p12
      clear z0 z1 z2 z3 z4 z5 z6 z7 z8 z9 z10 z11 z12
      clear f0 f1 f2 f3 f4 f5 f6 f7 f8 f9 f10 f11 f12
      clear q0 q1 q2
      generalize (((((((((((((w8.setCell ⟨G, j * 13, none⟩ (.string s.name)).setCell ⟨G, j * 13 + 1, none⟩ (.string s.action)).setCell ⟨G, j * 13 + 2, none⟩ (.string s.undo)).setCell ⟨G, j * 13 + 3, none⟩ (.slice va5 s.after.length vc5)).setCell ⟨G, j * 13 + 4, none⟩ (.int .i64 s.most)).setCell ⟨G, j * 13 + 5, none⟩ (.int .i64 s.first)).setCell ⟨G, j * 13 + 6, none⟩ (.int .i64 s.factor)).setCell ⟨G, j * 13 + 7, none⟩ (.int .i64 s.limit)).setCell ⟨G, j * 13 + 8, none⟩ (.int .u8 (s.note.kind : Int))).setCell ⟨G, j * 13 + 9, none⟩ (.string s.note.text)).setCell ⟨G, j * 13 + 10, none⟩ (.slice ka6 s.note.keys.length kc6)).setCell ⟨G, j * 13 + 11, none⟩ (.slice ba6 s.note.kids.length bc6)).setCell ⟨G, j * 13 + 12, none⟩ (.int .i64 s.note.line)) = w9 at *
      go_roundw
      case rel => exact ⟨j + 1, rows.set j [.string s.name, .string s.action, .string s.undo, .slice va5 s.after.length vc5, .int .i64 s.most, .int .i64 s.first, .int .i64 s.factor, .int .i64 s.limit, .int .u8 (s.note.kind : Int), .string s.note.text, .slice ka6 s.note.keys.length kc6, .slice ba6 s.note.kids.length bc6, .int .i64 s.note.line], by omega, by go_num, Lib.hid (HLJ.out rows w9 _ (HRO8.out.keep (fun b h1 _ => hot b (by omega))) (HSF.out.keep (fun b h1 _ => hot b (by omega)))), Lib.hid hor9, Lib.hid ((hot _ (by omega)).trans HS8.out), Lib.hid ((hot _ (by omega)).trans HG8.out), Lib.hid hbl9, by omega⟩
      case measure => simp [intOf]; omega
    · obtain rfl : j = d.steps.length := by omega
      obtain ⟨s0, s1, s2, t0, t1, t2⟩ := cells3h HG3.out
      go_wp2
      have hset := set3d (x := .string d.name) (y := .string d.text) (z := .slice va d.steps.length vc) HG3.out
      have hot : ∀ k, k ≠ w.heap.size + 1 → (((wo.setCell ⟨w.heap.size + 1, 0, none⟩ (.string d.name)).setCell ⟨w.heap.size + 1, 1, none⟩ (.string d.text)).setCell ⟨w.heap.size + 1, 2, none⟩ (.slice va d.steps.length vc)).heap[k]? = wo.heap[k]? := fun k hk => by rw [Below.heap_setCell _ _ _ _ hk, Below.heap_setCell _ _ _ _ hk, Below.heap_setCell _ _ _ _ hk]
      have hbl : Below w.heap.size w (((wo.setCell ⟨w.heap.size + 1, 0, none⟩ (.string d.name)).setCell ⟨w.heap.size + 1, 1, none⟩ (.string d.text)).setCell ⟨w.heap.size + 1, 2, none⟩ (.slice va d.steps.length vc)) := ((HB3.out.setCell (p := ⟨w.heap.size + 1, 0, none⟩) (by simp) _).setCell (p := ⟨w.heap.size + 1, 1, none⟩) (by simp) _).setCell (p := ⟨w.heap.size + 1, 2, none⟩) (by simp) _
      have hown9 := own_at (B := w.heap.size + 1) (i := 2) (.slice va d.steps.length vc) (own_at (B := w.heap.size + 1) (i := 1) (.string d.text) (own_at (B := w.heap.size + 1) (i := 0) (.string d.name) HOR.out (by have := HSZ.out; omega)) (by have := HSZ.out; omega)) (by have := HSZ.out; omega)
      clear q0 q1 q2 f0 f1 f2 s0 s1 s2 t0 t1 t2
      generalize (((wo.setCell ⟨w.heap.size + 1, 0, none⟩ (.string d.name)).setCell ⟨w.heap.size + 1, 1, none⟩ (.string d.text)).setCell ⟨w.heap.size + 1, 2, none⟩ (.slice va d.steps.length vc)) = w9 at *
      obtain ⟨y0, y1, y2, -, -, -⟩ := cells3h hset
      refine bodyPost_ret (v := .agg #[.string d.name, .string d.text, .slice va d.steps.length vc]) (by simp [results, Tryz.results42, go_sem, y0, y1, y2]) rfl ?_
      refine ⟨va, vc, rows, rfl, HRO.out.1, ownsRow_mono hown9 (by have := HSZ.out; omega), fun i r s h1 h2 => ?_, hbl⟩
      have h3 := ((HRO.out.2 i r s h1 h2).1 (List.getElem?_eq_some_iff.1 h2).1).keep (fun b hb _ => hot b (by omega))
      obtain ⟨aa, ac, ka, kc, ba, bc, e1, e2, e3, e4⟩ := h3
      exact ⟨aa, ac, ka, kc, ba, bc, e1, e2, ownsRow_mono e3 (by omega), e4.keep (fun _ _ _ => rfl) (fun g hg => by omega)⟩

end Go.Proofs.YtgfiogjfgbegpaaGreat
