/-
  slices.Clone on strings and on steps (the copy is the call's own), def.Copy: contracts.
-/
import Derived.Deep.DeepCutAuto
import Derived.Test.YtlakmfhpinljjaaBc23
import Derived.Test.YtlakmfhpinljjaaBc24
namespace Go.Proofs.Ytlakmfhpinljjaa
open Go Go.RowKit Go.WideShapes

set_option maxRecDepth 100000 in
set_option maxHeartbeats 1000000 in
theorem CloneS_own (l : List ByteArray) (v : Value) (w : World) (hr : RdS w v 1 l.length (strsV l)) (hbig : l.length ≤ 1099511627776) :
    Calls Try.prog 59 #[v] w fun e w' => ∃ va vc, e = .returned (.slice va l.length vc) ∧ w'.ownsRow w.heap.size 9 1 (.slice va l.length vc) l.length (strsV l) ∧ Below w.heap.size w w' := by
  obtain ⟨i0, hi, hz0, hz1, hz2⟩ := info_parts Try.info_str
  have HR := Lib.hid hr
  obtain ⟨a, cap, rfl⟩ := hr.form
  have q22 : ∀ (w : World) (a : Option Addr) (n c n' c' : Nat), (binOp .eql 31 (.slice a n c) (.slice none n' c')).run Try.prog w = .ok (.bool a.isNone) w := fun w a n c n' c' => Lib.run_eql_slice_nil w _ _ a n c n' c' Try.underlying31
  cases a with
  | none =>
    have h0 : l = [] := by
      rcases hr.cases (by decide) with ⟨h0, _⟩ | ⟨hn, _, g, off, cap', hq, _⟩
      · exact List.eq_nil_of_length_eq_zero h0
      · cases hq
    subst h0
    clear hr
    go_enter Try.func59, Try.ntmps59
    go_wp2
    go_ret
    exact ⟨none, 0, rfl, ⟨rfl, .inl ⟨rfl, rfl⟩⟩, Below.refl _ _⟩
  | some x =>
    clear hr
    go_enter Try.func59, Try.ntmps59
    go_wp2_with (at_builtin; go_must (refine wpList_pushS rfl _ _ 31 rfl w.heap.size 9 i0 (.string ByteArray.empty) 1 16 Try.underlying31 hi hz0 hz1 hz2 rfl (by decide) _ _ _ rfl (World.ownsRow_made w #[] 0 (Nat.le_refl _) (Nat.zero_le _) rfl) _ l.length (strsV l) rfl (HR.out.below ((Below.refl _ w).alloc (Nat.le_refl _) _)) (strsV_one l) (by unfold maxLen; omega) (by omega) (by simp) ?_; intro v' w2 hown' hgrow hfr))
    have hgrow : (w.alloc (.cells #[] 9)).grownBy w2 (some w.heap.size) := hgrow
    go_ret
    have hown : w2.ownsRow w.heap.size 9 1 v' l.length (strsV l) := by simpa using hown'
    obtain ⟨va, vc, rfl⟩ := (RdS.of_owns hown).form
    exact ⟨va, vc, rfl, hown, ((Below.refl w.heap.size w).alloc (Nat.le_refl _) _).grown hgrow (by simp) (fun j ej => by cases ej; exact Nat.le_refl _)⟩

theorem Try.info_step : (Try.prog.info? 45).map (fun i => (i.zero, i.size, i.bytes)) = some (some (.agg #[.string { data := #[] }, .string { data := #[] }, .string { data := #[] }, .slice none 0 0, .int .i64 0, .int .i64 0, .int .i64 0, .int .i64 0, .int .u8 0, .string { data := #[] }, .slice none 0 0, .slice none 0 0, .int .i64 0]), 13, 184) := by kernel_rfl
set_option maxRecDepth 100000 in
set_option maxHeartbeats 1000000 in
theorem CloneD_any (n : Nat) (cells : List Value) (v : Value) (w : World) (hr : RdS w v 13 n cells) (h1 : ∀ u ∈ cells, u.oneCell' = true) (hbig : n ≤ 1073741824) :
    Calls Try.prog 58 #[v] w fun e w' => ∃ va vc, e = .returned (.slice va n vc) ∧ w'.ownsRow w.heap.size 45 13 (.slice va n vc) n cells ∧ Below w.heap.size w w' := by
  obtain ⟨i0, hi, hz0, hz1, hz2⟩ := info_parts Try.info_step
  have HR := Lib.hid hr
  have H1 := Lib.hid h1
  obtain ⟨a, cap, rfl⟩ := hr.form
  have q22 : ∀ (w : World) (a : Option Addr) (n c n' c' : Nat), (binOp .eql 22 (.slice a n c) (.slice none n' c')).run Try.prog w = .ok (.bool a.isNone) w := fun w a n c n' c' => Lib.run_eql_slice_nil w _ _ a n c n' c' Try.underlying22
  cases a with
  | none =>
    have h0 : n = 0 := by
      rcases hr.cases (by decide) with ⟨h0, _⟩ | ⟨hn, _, g, off, cap', hq, _⟩
      · exact h0
      · cases hq
    subst h0
    have hc : cells = [] := List.eq_nil_of_length_eq_zero (by have := hr.1; omega)
    subst hc
    clear hr h1
    go_enter Try.func58, Try.ntmps58
    go_wp2
    go_ret
    exact ⟨none, 0, rfl, ⟨rfl, .inl ⟨rfl, rfl⟩⟩, Below.refl _ _⟩
  | some x =>
    clear hr h1
    go_enter Try.func58, Try.ntmps58
    go_wp2_with (at_builtin; go_must (refine wpList_pushS rfl _ _ 22 rfl w.heap.size 45 i0 (.agg #[.string { data := #[] }, .string { data := #[] }, .string { data := #[] }, .slice none 0 0, .int .i64 0, .int .i64 0, .int .i64 0, .int .i64 0, .int .u8 0, .string { data := #[] }, .slice none 0 0, .slice none 0 0, .int .i64 0]) 13 184 Try.underlying22 hi hz0 hz1 hz2 rfl (by decide) _ _ _ rfl (World.ownsRow_made w #[] 0 (Nat.le_refl _) (Nat.zero_le _) rfl) _ n cells rfl (HR.out.below ((Below.refl _ w).alloc (Nat.le_refl _) _)) H1.out (by unfold maxLen; omega) (by omega) (by simp) ?_; intro v' w2 hown' hgrow hfr))
    have hgrow : (w.alloc (.cells #[] 45)).grownBy w2 (some w.heap.size) := hgrow
    go_ret
    have hown : w2.ownsRow w.heap.size 45 13 v' n cells := by simpa using hown'
    obtain ⟨va, vc, rfl⟩ := (RdS.of_owns hown).form
    exact ⟨va, vc, rfl, hown, ((Below.refl w.heap.size w).alloc (Nat.le_refl _) _).grown hgrow (by simp) (fun j ej => by cases ej; exact Nat.le_refl _)⟩

theorem owns_set1 {w : World} {base size n g cap q : Nat} {e : TypeId} {xs : List Value} (h : w.ownsRow base e size (.slice (some ⟨g, 0, none⟩) n cap) n xs) (hq : q < n * size) (c : Value) : (w.setCell ⟨g, q, none⟩ c).ownsRow base e size (.slice (some ⟨g, 0, none⟩) n cap) n (xs.set q c) := by
  refine ⟨by simp [h.1], .inr ?_⟩
  rcases h.2 with ⟨h1, _⟩ | ⟨g', cap', cur, hv, hb, hg, h2, h3, h4, h5⟩
  · cases h1
  · simp only [Value.slice.injEq, Option.some.injEq, Addr.mk.injEq, and_true, true_and] at hv
    obtain ⟨rfl, rfl⟩ := hv
    refine ⟨g, cap, cur.setIfInBounds q c, rfl, hb, ?_, h2, h3, by simpa using h4, ?_⟩
    · simp [World.setCell, hg, Array.getElem?_modify]
    · rw [Array.toList_setIfInBounds, List.take_set, h5]
theorem flatten_set13 {rows : List (List Value)} (hm : ∀ r ∈ rows, r.length = 13) {j : Nat} (hj : j < rows.length) (x0 x1 x2 x3 x4 x5 x6 x7 x8 x9 x10 x11 x12 : Value) :
    (((((((((((((rows.flatten.set (j * 13) x0).set (j * 13 + 1) x1).set (j * 13 + 2) x2).set (j * 13 + 3) x3).set (j * 13 + 4) x4).set (j * 13 + 5) x5).set (j * 13 + 6) x6).set (j * 13 + 7) x7).set (j * 13 + 8) x8).set (j * 13 + 9) x9).set (j * 13 + 10) x10).set (j * 13 + 11) x11).set (j * 13 + 12) x12) = (rows.set j [x0, x1, x2, x3, x4, x5, x6, x7, x8, x9, x10, x11, x12]).flatten := by
  have hm2 : ∀ r ∈ rows.set j [x0, x1, x2, x3, x4, x5, x6, x7, x8, x9, x10, x11, x12], r.length = 13 := by
    intro r hr
    rcases List.mem_or_eq_of_mem_set hr with h | h
    · exact hm r h
    · rw [h]; rfl
  have h1 := flatten_get hm
  have h2 := flatten_get hm2
  apply List.ext_getElem?
  intro q
  by_cases hq : q < rows.length * 13
  · obtain ⟨i, k, hk, rfl⟩ : ∃ i k, k < 13 ∧ q = i * 13 + k := ⟨q / 13, q % 13, Nat.mod_lt _ (by omega), by omega⟩
    have hi : i < rows.length := by omega
    by_cases e : i = j
    · subst e
      rw [h2.2 i _ (by rw [List.getElem?_set_self hj]) k hk]
      have hl := h1.1
      have : k = 0 ∨ k = 1 ∨ k = 2 ∨ k = 3 ∨ k = 4 ∨ k = 5 ∨ k = 6 ∨ k = 7 ∨ k = 8 ∨ k = 9 ∨ k = 10 ∨ k = 11 ∨ k = 12 := by omega
      rcases this with rfl | rfl | rfl | rfl | rfl | rfl | rfl | rfl | rfl | rfl | rfl | rfl | rfl <;> simp [List.getElem?_set, hl] <;> omega
    · rw [h2.2 i rows[i] (by rw [List.getElem?_set_ne (by omega), List.getElem?_eq_getElem hi]) k hk, ← h1.2 i rows[i] (List.getElem?_eq_getElem hi) k hk]
      rw [List.getElem?_set_ne (by omega), List.getElem?_set_ne (by omega), List.getElem?_set_ne (by omega), List.getElem?_set_ne (by omega), List.getElem?_set_ne (by omega), List.getElem?_set_ne (by omega), List.getElem?_set_ne (by omega), List.getElem?_set_ne (by omega), List.getElem?_set_ne (by omega), List.getElem?_set_ne (by omega), List.getElem?_set_ne (by omega), List.getElem?_set_ne (by omega), List.getElem?_set_ne (by omega)]
  · rw [List.getElem?_eq_none (by simp only [List.length_set]; rw [h1.1]; omega), List.getElem?_eq_none (by rw [h2.1, List.length_set]; omega)]
theorem owns_set13 {W : World} {base n g cap j : Nat} {rows : List (List Value)} (hm : ∀ r ∈ rows, r.length = 13) (hn : rows.length = n) (h : W.ownsRow base 45 13 (.slice (some ⟨g, 0, none⟩) n cap) n rows.flatten) (hj : j < n) (x0 x1 x2 x3 x4 x5 x6 x7 x8 x9 x10 x11 x12 : Value) :
    (((((((((((((W.setCell ⟨g, j * 13, none⟩ (x0)).setCell ⟨g, j * 13 + 1, none⟩ (x1)).setCell ⟨g, j * 13 + 2, none⟩ (x2)).setCell ⟨g, j * 13 + 3, none⟩ (x3)).setCell ⟨g, j * 13 + 4, none⟩ (x4)).setCell ⟨g, j * 13 + 5, none⟩ (x5)).setCell ⟨g, j * 13 + 6, none⟩ (x6)).setCell ⟨g, j * 13 + 7, none⟩ (x7)).setCell ⟨g, j * 13 + 8, none⟩ (x8)).setCell ⟨g, j * 13 + 9, none⟩ (x9)).setCell ⟨g, j * 13 + 10, none⟩ (x10)).setCell ⟨g, j * 13 + 11, none⟩ (x11)).setCell ⟨g, j * 13 + 12, none⟩ (x12)).ownsRow base 45 13 (.slice (some ⟨g, 0, none⟩) n cap) n (rows.set j [x0, x1, x2, x3, x4, x5, x6, x7, x8, x9, x10, x11, x12]).flatten := by
  rw [← flatten_set13 hm (by omega)]
  exact owns_set1 (owns_set1 (owns_set1 (owns_set1 (owns_set1 (owns_set1 (owns_set1 (owns_set1 (owns_set1 (owns_set1 (owns_set1 (owns_set1 (owns_set1 (h) (by omega) x0) (by omega) x1) (by omega) x2) (by omega) x3) (by omega) x4) (by omega) x5) (by omega) x6) (by omega) x7) (by omega) x8) (by omega) x9) (by omega) x10) (by omega) x11) (by omega) x12
theorem set13_other {W : World} {g p k : Nat} {x0 x1 x2 x3 x4 x5 x6 x7 x8 x9 x10 x11 x12 : Value} (h : k ≠ g) : (((((((((((((W.setCell ⟨g, p, none⟩ (x0)).setCell ⟨g, p + 1, none⟩ (x1)).setCell ⟨g, p + 2, none⟩ (x2)).setCell ⟨g, p + 3, none⟩ (x3)).setCell ⟨g, p + 4, none⟩ (x4)).setCell ⟨g, p + 5, none⟩ (x5)).setCell ⟨g, p + 6, none⟩ (x6)).setCell ⟨g, p + 7, none⟩ (x7)).setCell ⟨g, p + 8, none⟩ (x8)).setCell ⟨g, p + 9, none⟩ (x9)).setCell ⟨g, p + 10, none⟩ (x10)).setCell ⟨g, p + 11, none⟩ (x11)).setCell ⟨g, p + 12, none⟩ (x12)).heap[k]? = W.heap[k]? := by
  rw [Below.heap_setCell _ _ _ _ h, Below.heap_setCell _ _ _ _ h, Below.heap_setCell _ _ _ _ h, Below.heap_setCell _ _ _ _ h, Below.heap_setCell _ _ _ _ h, Below.heap_setCell _ _ _ _ h, Below.heap_setCell _ _ _ _ h, Below.heap_setCell _ _ _ _ h, Below.heap_setCell _ _ _ _ h, Below.heap_setCell _ _ _ _ h, Below.heap_setCell _ _ _ _ h, Below.heap_setCell _ _ _ _ h, Below.heap_setCell _ _ _ _ h]
theorem set13_size {W : World} {g p : Nat} {x0 x1 x2 x3 x4 x5 x6 x7 x8 x9 x10 x11 x12 : Value} : (((((((((((((W.setCell ⟨g, p, none⟩ (x0)).setCell ⟨g, p + 1, none⟩ (x1)).setCell ⟨g, p + 2, none⟩ (x2)).setCell ⟨g, p + 3, none⟩ (x3)).setCell ⟨g, p + 4, none⟩ (x4)).setCell ⟨g, p + 5, none⟩ (x5)).setCell ⟨g, p + 6, none⟩ (x6)).setCell ⟨g, p + 7, none⟩ (x7)).setCell ⟨g, p + 8, none⟩ (x8)).setCell ⟨g, p + 9, none⟩ (x9)).setCell ⟨g, p + 10, none⟩ (x10)).setCell ⟨g, p + 11, none⟩ (x11)).setCell ⟨g, p + 12, none⟩ (x12)).heap.size = W.heap.size := by simp
theorem set13_below {n : Nat} {w W : World} (hb : Below n w W) {g p : Nat} {x0 x1 x2 x3 x4 x5 x6 x7 x8 x9 x10 x11 x12 : Value} (h : n ≤ g) : Below n w (((((((((((((W.setCell ⟨g, p, none⟩ (x0)).setCell ⟨g, p + 1, none⟩ (x1)).setCell ⟨g, p + 2, none⟩ (x2)).setCell ⟨g, p + 3, none⟩ (x3)).setCell ⟨g, p + 4, none⟩ (x4)).setCell ⟨g, p + 5, none⟩ (x5)).setCell ⟨g, p + 6, none⟩ (x6)).setCell ⟨g, p + 7, none⟩ (x7)).setCell ⟨g, p + 8, none⟩ (x8)).setCell ⟨g, p + 9, none⟩ (x9)).setCell ⟨g, p + 10, none⟩ (x10)).setCell ⟨g, p + 11, none⟩ (x11)).setCell ⟨g, p + 12, none⟩ (x12)) :=
  (((((((((((((hb.setCell (p := ⟨g, p, none⟩) h _).setCell (p := ⟨g, p + 1, none⟩) h _).setCell (p := ⟨g, p + 2, none⟩) h _).setCell (p := ⟨g, p + 3, none⟩) h _).setCell (p := ⟨g, p + 4, none⟩) h _).setCell (p := ⟨g, p + 5, none⟩) h _).setCell (p := ⟨g, p + 6, none⟩) h _).setCell (p := ⟨g, p + 7, none⟩) h _).setCell (p := ⟨g, p + 8, none⟩) h _).setCell (p := ⟨g, p + 9, none⟩) h _).setCell (p := ⟨g, p + 10, none⟩) h _).setCell (p := ⟨g, p + 11, none⟩) h _).setCell (p := ⟨g, p + 12, none⟩) h _)

theorem set3_13 {W : World} {B : Nat} {t : TypeId} {c0 c1 c2 c3 c4 c5 c6 c7 c8 c9 c10 c11 c12 x : Value} (h : W.heap[B]? = some (.cells #[c0, c1, c2, c3, c4, c5, c6, c7, c8, c9, c10, c11, c12] t (0, 0))) : (W.setCell ⟨B, 3, none⟩ x).heap[B]? = some (.cells #[c0, c1, c2, x, c4, c5, c6, c7, c8, c9, c10, c11, c12] t (0, 0)) := by
  simp [World.setCell, h, Array.getElem?_modify]
theorem set8_13 {W : World} {B : Nat} {t : TypeId} {c0 c1 c2 c3 c4 c5 c6 c7 c8 c9 c10 c11 c12 x0 x1 x2 x3 x4 : Value} (h : W.heap[B]? = some (.cells #[c0, c1, c2, c3, c4, c5, c6, c7, c8, c9, c10, c11, c12] t (0, 0))) : (((((W.setCell ⟨B, 8, none⟩ (x0)).setCell ⟨B, 9, none⟩ (x1)).setCell ⟨B, 10, none⟩ (x2)).setCell ⟨B, 11, none⟩ (x3)).setCell ⟨B, 12, none⟩ (x4)).heap[B]? = some (.cells #[c0, c1, c2, c3, c4, c5, c6, c7, x0, x1, x2, x3, x4] t (0, 0)) := by
  simp [World.setCell, h, Array.getElem?_modify]
theorem cells13w {W : World} {B : Nat} {t : TypeId} {c0 c1 c2 c3 c4 c5 c6 c7 c8 c9 c10 c11 c12 : Value} (h : W.heap[B]? = some (.cells #[c0, c1, c2, c3, c4, c5, c6, c7, c8, c9, c10, c11, c12] t (0, 0))) : W.frozen? ⟨B, 0, none⟩ = false ∧ W.frozen? ⟨B, 1, none⟩ = false ∧ W.frozen? ⟨B, 2, none⟩ = false ∧ W.frozen? ⟨B, 3, none⟩ = false ∧ W.frozen? ⟨B, 4, none⟩ = false ∧ W.frozen? ⟨B, 5, none⟩ = false ∧ W.frozen? ⟨B, 6, none⟩ = false ∧ W.frozen? ⟨B, 7, none⟩ = false ∧ W.frozen? ⟨B, 8, none⟩ = false ∧ W.frozen? ⟨B, 9, none⟩ = false ∧ W.frozen? ⟨B, 10, none⟩ = false ∧ W.frozen? ⟨B, 11, none⟩ = false ∧ W.frozen? ⟨B, 12, none⟩ = false := by
  refine ⟨?_, ?_, ?_, ?_, ?_, ?_, ?_, ?_, ?_, ?_, ?_, ?_, ?_⟩ <;> simp [World.frozen?, h]
/-- A step that the call made: what it points at lies from N on. -/
def StepF (w : World) (N : Nat) (r : List Value) (s : StepD) : Prop := ∃ (aa : Option Addr) (ac : Nat) (ka : Option Addr) (kc : Nat) (ba : Option Addr) (bc : Nat), r = [.string s.name, .string s.action, .string s.undo, .slice aa s.after.length ac, .int .i64 s.most, .int .i64 s.first, .int .i64 s.factor, .int .i64 s.limit, .int .u8 (s.note.kind : Int), .string s.note.text, .slice ka s.note.keys.length kc, .slice ba s.note.kids.length bc, .int .i64 s.note.line] ∧ StepOk s ∧ w.ownsRow N 9 1 (.slice aa s.after.length ac) s.after.length (strsV s.after) ∧ NodeO w (fun b => N ≤ b) [.int .u8 (s.note.kind : Int), .string s.note.text, .slice ka s.note.keys.length kc, .slice ba s.note.kids.length bc, .int .i64 s.note.line] s.note
theorem StepF.keep {w w' : World} {N : Nat} {r : List Value} {s : StepD} (h : StepF w N r s) (hk : ∀ b, N ≤ b → b < w.heap.size → w'.heap[b]? = w.heap[b]?) : StepF w' N r s := by
  obtain ⟨aa, ac, ka, kc, ba, bc, h1, h2, h3, h4⟩ := h
  exact ⟨aa, ac, ka, kc, ba, bc, h1, h2, ownsRow_keepB h3 (fun g hg => hk g (h3.lt g hg).1 (h3.lt g hg).2), h4.keep hk (fun _ h => h)⟩
theorem StepF.toX {w : World} {N : Nat} {r : List Value} {s : StepD} (h : StepF w N r s) : StepX w r s := by
  obtain ⟨aa, ac, ka, kc, ba, bc, h1, h2, h3, h4⟩ := h
  exact ⟨aa, ac, ka, kc, ba, bc, h1, h2, RdS.of_owns h3, h4.toR⟩
theorem steps_rows {w : World} {l : List StepD} {rows : List (List Value)} (h1 : rows.length = l.length) (h3 : ∀ (i : Nat) (r : List Value) (s : StepD), rows[i]? = some r → l[i]? = some s → StepX w r s) : (∀ r ∈ rows, r.length = 13) ∧ ∀ u ∈ rows.flatten, u.oneCell' = true := by
  have key : ∀ r ∈ rows, ∃ s, StepX w r s := by
    intro r hr
    obtain ⟨j, hj, rfl⟩ := List.getElem_of_mem hr
    exact ⟨_, h3 j _ _ (List.getElem?_eq_getElem hj) (List.getElem?_eq_getElem (by omega))⟩
  refine ⟨fun r hr => (key r hr).choose_spec.len, fun u hu => ?_⟩
  obtain ⟨r, hr, hur⟩ := List.mem_flatten.1 hu
  obtain ⟨s, aa, ac, ka, kc, ba, bc, hs⟩ := key r hr
  rw [hs.eq] at hur
  simp at hur
  rcases hur with rfl | rfl | rfl | rfl | rfl | rfl | rfl | rfl | rfl | rfl | rfl | rfl | rfl <;> rfl

end Go.Proofs.Ytlakmfhpinljjaa
