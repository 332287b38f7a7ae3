/-
  step: the law's own: sure, live: contracts.
-/
import Derived.Test.YtigeedaihbpjiaaZg
import Derived.Deep.DeepCutAuto
namespace Go.Proofs.Ytigeedaihbpjiaa
open Go.RowKit
attribute [local go_sem ↓] Go.wp_at_zero Go.wp_at_succ

def sureV : Value := stepV ⟨#[]⟩ ⟨#[]⟩ ⟨#[]⟩ none 0 0 2 3 0 10 0 ⟨#[]⟩ none 0 0 none 0 0 0
set_option maxRecDepth 100000 in
theorem sure_any (w : World) : Calls Try.prog 87 #[] w fun e w' => e = .returned sureV ∧ Below w.heap.size w w' := by
  unfold sureV stepV
  go_enter Try.func87, Try.ntmps87
  go_wp2
  refine bodyPost_ret (v := .agg #[.string ⟨#[]⟩, .string ⟨#[]⟩, .string ⟨#[]⟩, .slice none 0 0, .int .i64 2, .int .i64 3, .int .i64 0, .int .i64 10, .int .u8 0, .string ⟨#[]⟩, .slice none 0 0, .slice none 0 0, .int .i64 0]) (by simp [results, Try.results87, go_sem]) rfl ⟨rfl, (Below.refl _ w).alloc (Nat.le_refl _) _⟩

theorem live31_f : inc 0 = 1 ∧ nowI 5 + limI 10 = 15 ∧ answerT 2 3 0 10 1 1 15 false 5 1 1 = ((2, 1, 8, false), true) ∧ tickT 2 3 0 10 2 1 8 false 8 = ((1, 2, 18, false), true) ∧ answerT 2 3 0 10 1 2 18 false 9 1 0 = ((1, 2, 18, false), false) := by decide +kernel
theorem live31_g : tickT 2 3 0 10 1 2 18 false 18 = ((4, 2, 0, false), true) ∧ answerT 2 3 0 10 1 2 18 false 9 2 0 = ((3, 2, 0, false), true) ∧ settledB 3 = true ∧ settledB 4 = true ∧ settledB 2 = false ∧ stopT 2 1 8 false = (4, 1, 0, true) := by decide +kernel
theorem live31_h : stopT 1 2 18 false = (1, 2, 18, true) ∧ nowI (-1) = 0 := by decide +kernel
theorem field_run0 (c0 c1 c2 c3 : Value) (w : World) : (Instr.field 84 (.agg #[c0, c1, c2, c3]) 0).run Try.prog w = .ok c0 w := by kernel_rfl
theorem field_run3 (c0 c1 c2 c3 : Value) (w : World) : (Instr.field 84 (.agg #[c0, c1, c2, c3]) 3).run Try.prog w = .ok c3 w := by kernel_rfl
def Run4 (W : World) (B : Nat) (p t u : Int) (b : Bool) : Prop := W.heap[B]? = some (.cells #[.int .u8 p, .int .i64 t, .int .i64 u, .bool b] 84 (0, 0))
theorem Run4.keep {W W' : World} {B : Nat} {p t u : Int} {b : Bool} (h : Run4 W B p t u b) (hb : Below W.heap.size W W') : Run4 W' B p t u b := keepH h hb
theorem Run4.lt {W : World} {B : Nat} {p t u : Int} {b : Bool} (h : Run4 W B p t u b) : B < W.heap.size := (Array.getElem?_eq_some_iff.1 h).1

/-! A run's variable that is made before, between or behind two calls -/
section
variable {w1 W W' : World} {B : Nat} {c0 c1 c2 c3 : Value}
theorem heldR (h : Below w1.heap.size w1 W ∧ W.cell? ⟨B, 0, none⟩ = some c0 ∧ W.cell? ⟨B, 1, none⟩ = some c1 ∧ W.cell? ⟨B, 2, none⟩ = some c2 ∧ W.cell? ⟨B, 3, none⟩ = some c3) (hb : Below W.heap.size W W') : Below w1.heap.size w1 W' ∧ W'.cell? ⟨B, 0, none⟩ = some c0 ∧ W'.cell? ⟨B, 1, none⟩ = some c1 ∧ W'.cell? ⟨B, 2, none⟩ = some c2 ∧ W'.cell? ⟨B, 3, none⟩ = some c3 :=
  ⟨bthen h.1 (Nat.le_refl _) hb, cellB hb h.2.1, cellB hb h.2.2.1, cellB hb h.2.2.2.1, cellB hb h.2.2.2.2⟩
theorem heldR_alloc {o : Obj} (h : Below w1.heap.size w1 W ∧ W.cell? ⟨B, 0, none⟩ = some c0 ∧ W.cell? ⟨B, 1, none⟩ = some c1 ∧ W.cell? ⟨B, 2, none⟩ = some c2 ∧ W.cell? ⟨B, 3, none⟩ = some c3) : Below w1.heap.size w1 (W.alloc o) ∧ (W.alloc o).cell? ⟨B, 0, none⟩ = some c0 ∧ (W.alloc o).cell? ⟨B, 1, none⟩ = some c1 ∧ (W.alloc o).cell? ⟨B, 2, none⟩ = some c2 ∧ (W.alloc o).cell? ⟨B, 3, none⟩ = some c3 := heldR h ((Below.refl _ _).alloc (Nat.le_refl _) _)
theorem heldR_set {g : Nat} {x y z v : Value} (h : Below w1.heap.size w1 W ∧ W.cell? ⟨B, 0, none⟩ = some c0 ∧ W.cell? ⟨B, 1, none⟩ = some c1 ∧ W.cell? ⟨B, 2, none⟩ = some c2 ∧ W.cell? ⟨B, 3, none⟩ = some c3) (hB : B < w1.heap.size) (hg : w1.heap.size ≤ g) : Below w1.heap.size w1 ((((W.setCell ⟨g, 0, none⟩ x).setCell ⟨g, 1, none⟩ y).setCell ⟨g, 2, none⟩ z).setCell ⟨g, 3, none⟩ v) ∧ ((((W.setCell ⟨g, 0, none⟩ x).setCell ⟨g, 1, none⟩ y).setCell ⟨g, 2, none⟩ z).setCell ⟨g, 3, none⟩ v).cell? ⟨B, 0, none⟩ = some c0 ∧ ((((W.setCell ⟨g, 0, none⟩ x).setCell ⟨g, 1, none⟩ y).setCell ⟨g, 2, none⟩ z).setCell ⟨g, 3, none⟩ v).cell? ⟨B, 1, none⟩ = some c1 ∧ ((((W.setCell ⟨g, 0, none⟩ x).setCell ⟨g, 1, none⟩ y).setCell ⟨g, 2, none⟩ z).setCell ⟨g, 3, none⟩ v).cell? ⟨B, 2, none⟩ = some c2 ∧ ((((W.setCell ⟨g, 0, none⟩ x).setCell ⟨g, 1, none⟩ y).setCell ⟨g, 2, none⟩ z).setCell ⟨g, 3, none⟩ v).cell? ⟨B, 3, none⟩ = some c3 := by
  have hc : ∀ i, ((((W.setCell ⟨g, 0, none⟩ x).setCell ⟨g, 1, none⟩ y).setCell ⟨g, 2, none⟩ z).setCell ⟨g, 3, none⟩ v).cell? ⟨B, i, none⟩ = W.cell? ⟨B, i, none⟩ := fun i => by
    unfold World.cell?
    dsimp only
    rw [set4_other x y z v (show B ≠ g by omega)]
  exact ⟨bset (bset (bset (bset h.1 hg) hg) hg) hg, (hc 0).trans h.2.1, (hc 1).trans h.2.2.1, (hc 2).trans h.2.2.2.1, (hc 3).trans h.2.2.2.2⟩
end
section
variable {W w5 w6 : World} {p t u : Int} {b : Bool}
theorem fin3 (h5 : Below W.drew.heap.size W.drew w5) (h6 : Below w5.heap.size w5 w6) : Run4 (w6.alloc (.cells #[.int .u8 p, .int .i64 t, .int .i64 u, .bool b] 84)) w6.heap.size p t u b ∧ Below W.heap.size W (w6.alloc (.cells #[.int .u8 p, .int .i64 t, .int .i64 u, .bool b] 84)) :=
  ⟨World.alloc_heap_new _ _, (bthen (bthen (Below.refl W.heap.size W).drew (Nat.le_refl _) h5) (Nat.le_refl _) h6).alloc (bthen (bthen (Below.refl W.heap.size W).drew (Nat.le_refl _) h5) (Nat.le_refl _) h6).size _⟩
theorem fin2 (h5 : Below W.drew.heap.size W.drew w5) (h6 : Below (w5.alloc (.cells #[.int .u8 0, .int .i64 0, .int .i64 0, .bool false] 84)).heap.size (w5.alloc (.cells #[.int .u8 0, .int .i64 0, .int .i64 0, .bool false] 84)) w6) : Run4 ((((w6.setCell ⟨w5.heap.size, 0, none⟩ (.int .u8 p)).setCell ⟨w5.heap.size, 1, none⟩ (.int .i64 t)).setCell ⟨w5.heap.size, 2, none⟩ (.int .i64 u)).setCell ⟨w5.heap.size, 3, none⟩ (.bool b)) w5.heap.size p t u b ∧ Below W.heap.size W ((((w6.setCell ⟨w5.heap.size, 0, none⟩ (.int .u8 p)).setCell ⟨w5.heap.size, 1, none⟩ (.int .i64 t)).setCell ⟨w5.heap.size, 2, none⟩ (.int .i64 u)).setCell ⟨w5.heap.size, 3, none⟩ (.bool b)) := by
  have hs : W.heap.size ≤ w5.heap.size := h5.size
  have hb := bthen (bthen (Below.refl W.heap.size W).drew (Nat.le_refl _) h5) (Nat.le_refl _) (((Below.refl w5.heap.size w5).alloc (Nat.le_refl _) (.cells #[.int .u8 0, .int .i64 0, .int .i64 0, .bool false] 84)).trans (h6.mono (by simp)))
  exact ⟨set4 _ _ _ _ (keepH (World.alloc_heap_new w5 (.cells #[.int .u8 0, .int .i64 0, .int .i64 0, .bool false] 84)) h6), bset (bset (bset (bset hb hs) hs) hs) hs⟩
theorem fin1 (h5 : Below ((W.alloc (.cells #[.int .u8 0, .int .i64 0, .int .i64 0, .bool false] 84)).drew).heap.size ((W.alloc (.cells #[.int .u8 0, .int .i64 0, .int .i64 0, .bool false] 84)).drew) w5) (h6 : Below w5.heap.size w5 w6) : Run4 ((((w6.setCell ⟨W.heap.size, 0, none⟩ (.int .u8 p)).setCell ⟨W.heap.size, 1, none⟩ (.int .i64 t)).setCell ⟨W.heap.size, 2, none⟩ (.int .i64 u)).setCell ⟨W.heap.size, 3, none⟩ (.bool b)) W.heap.size p t u b ∧ Below W.heap.size W ((((w6.setCell ⟨W.heap.size, 0, none⟩ (.int .u8 p)).setCell ⟨W.heap.size, 1, none⟩ (.int .i64 t)).setCell ⟨W.heap.size, 2, none⟩ (.int .i64 u)).setCell ⟨W.heap.size, 3, none⟩ (.bool b)) := by
  have hb := bthen (((Below.refl W.heap.size W).alloc (Nat.le_refl _) (.cells #[.int .u8 0, .int .i64 0, .int .i64 0, .bool false] 84)).drew.trans (h5.mono (by simp))) (Nat.le_refl _) h6
  exact ⟨set4 _ _ _ _ (keepH (keepH (show ((W.alloc (.cells #[.int .u8 0, .int .i64 0, .int .i64 0, .bool false] 84)).drew).heap[W.heap.size]? = _ from World.alloc_heap_new W (.cells #[.int .u8 0, .int .i64 0, .int .i64 0, .bool false] 84)) h5) h6), bset (bset (bset (bset hb (Nat.le_refl _)) (Nat.le_refl _)) (Nat.le_refl _)) (Nat.le_refl _)⟩
end

section
variable {P : Program} {fn : FuncId} {args : Array Value} {W w5 : World} {r : Value}
theorem callA (h : Calls P fn args ((W.alloc (.cells #[.int .u8 0, .int .i64 0, .int .i64 0, .bool false] 84)).drew) fun e w' => e = .returned r ∧ Below ((W.alloc (.cells #[.int .u8 0, .int .i64 0, .int .i64 0, .bool false] 84)).drew).heap.size ((W.alloc (.cells #[.int .u8 0, .int .i64 0, .int .i64 0, .bool false] 84)).drew) w') :
    Calls P fn args ((W.alloc (.cells #[.int .u8 0, .int .i64 0, .int .i64 0, .bool false] 84)).drew) fun e w' => e = .returned r ∧ Below ((W.alloc (.cells #[.int .u8 0, .int .i64 0, .int .i64 0, .bool false] 84)).drew).heap.size ((W.alloc (.cells #[.int .u8 0, .int .i64 0, .int .i64 0, .bool false] 84)).drew) w' ∧ w'.heap[W.heap.size]? = some (.cells #[.int .u8 0, .int .i64 0, .int .i64 0, .bool false] 84 (0, 0)) ∧ w'.cell? ⟨W.heap.size, 0, none⟩ = some (.int .u8 0) ∧ w'.cell? ⟨W.heap.size, 1, none⟩ = some (.int .i64 0) ∧ w'.cell? ⟨W.heap.size, 2, none⟩ = some (.int .i64 0) ∧ w'.cell? ⟨W.heap.size, 3, none⟩ = some (.bool false) ∧ w'.frozen? ⟨W.heap.size, 0, none⟩ = false ∧ w'.frozen? ⟨W.heap.size, 1, none⟩ = false ∧ w'.frozen? ⟨W.heap.size, 2, none⟩ = false ∧ w'.frozen? ⟨W.heap.size, 3, none⟩ = false :=
  h.mono fun _ _ ⟨h1, h2⟩ => ⟨h1, h2, keepH (show ((W.alloc (.cells #[.int .u8 0, .int .i64 0, .int .i64 0, .bool false] 84)).drew).heap[W.heap.size]? = _ from World.alloc_heap_new W (.cells #[.int .u8 0, .int .i64 0, .int .i64 0, .bool false] 84)) h2, cells4h (keepH (show ((W.alloc (.cells #[.int .u8 0, .int .i64 0, .int .i64 0, .bool false] 84)).drew).heap[W.heap.size]? = _ from World.alloc_heap_new W (.cells #[.int .u8 0, .int .i64 0, .int .i64 0, .bool false] 84)) h2)⟩
theorem callB (h : Calls P fn args (w5.alloc (.cells #[.int .u8 0, .int .i64 0, .int .i64 0, .bool false] 84)) fun e w' => e = .returned r ∧ Below (w5.alloc (.cells #[.int .u8 0, .int .i64 0, .int .i64 0, .bool false] 84)).heap.size (w5.alloc (.cells #[.int .u8 0, .int .i64 0, .int .i64 0, .bool false] 84)) w') :
    Calls P fn args (w5.alloc (.cells #[.int .u8 0, .int .i64 0, .int .i64 0, .bool false] 84)) fun e w' => e = .returned r ∧ Below (w5.alloc (.cells #[.int .u8 0, .int .i64 0, .int .i64 0, .bool false] 84)).heap.size (w5.alloc (.cells #[.int .u8 0, .int .i64 0, .int .i64 0, .bool false] 84)) w' ∧ w'.heap[w5.heap.size]? = some (.cells #[.int .u8 0, .int .i64 0, .int .i64 0, .bool false] 84 (0, 0)) ∧ w'.cell? ⟨w5.heap.size, 0, none⟩ = some (.int .u8 0) ∧ w'.cell? ⟨w5.heap.size, 1, none⟩ = some (.int .i64 0) ∧ w'.cell? ⟨w5.heap.size, 2, none⟩ = some (.int .i64 0) ∧ w'.cell? ⟨w5.heap.size, 3, none⟩ = some (.bool false) ∧ w'.frozen? ⟨w5.heap.size, 0, none⟩ = false ∧ w'.frozen? ⟨w5.heap.size, 1, none⟩ = false ∧ w'.frozen? ⟨w5.heap.size, 2, none⟩ = false ∧ w'.frozen? ⟨w5.heap.size, 3, none⟩ = false :=
  h.mono fun _ _ ⟨h1, h2⟩ => ⟨h1, h2, keepH (World.alloc_heap_new w5 (.cells #[.int .u8 0, .int .i64 0, .int .i64 0, .bool false] 84)) h2, cells4h (keepH (World.alloc_heap_new w5 (.cells #[.int .u8 0, .int .i64 0, .int .i64 0, .bool false] 84)) h2)⟩
theorem callC {g : Nat} (y : w5.heap[g]? = some (.cells #[.int .u8 0, .int .i64 0, .int .i64 0, .bool false] 84 (0, 0))) (h : Calls P fn args w5 fun e w' => e = .returned r ∧ Below w5.heap.size w5 w') :
    Calls P fn args w5 fun e w' => e = .returned r ∧ Below w5.heap.size w5 w' ∧ w'.heap[g]? = some (.cells #[.int .u8 0, .int .i64 0, .int .i64 0, .bool false] 84 (0, 0)) ∧ w'.cell? ⟨g, 0, none⟩ = some (.int .u8 0) ∧ w'.cell? ⟨g, 1, none⟩ = some (.int .i64 0) ∧ w'.cell? ⟨g, 2, none⟩ = some (.int .i64 0) ∧ w'.cell? ⟨g, 3, none⟩ = some (.bool false) ∧ w'.frozen? ⟨g, 0, none⟩ = false ∧ w'.frozen? ⟨g, 1, none⟩ = false ∧ w'.frozen? ⟨g, 2, none⟩ = false ∧ w'.frozen? ⟨g, 3, none⟩ = false :=
  h.mono fun _ _ ⟨h1, h2⟩ => ⟨h1, h2, keepH y h2, cells4h (keepH y h2)⟩
end

set_option maxRecDepth 100000 in
set_option maxHeartbeats 20000000 in
theorem live31_any (w : World) : Calls Try.prog 48 #[] w fun e w' => e = .returned (.bool true) ∧ Below w.heap.size w w' := by
  obtain ⟨l1, l2, l3, l4, l5⟩ := live31_f
  obtain ⟨l6, l7, l8, l9, l10, l11⟩ := live31_g
  obtain ⟨l12, l13⟩ := live31_h
  have HB := Lib.hid (fun w => Begin_any (s0 := ⟨#[]⟩) (s1 := ⟨#[]⟩) (s2 := ⟨#[]⟩) (af := none) (an := 0) (ac := 0) (m := 2) (f := 3) (k := 0) (l := 10) (nk := 0) (nt := ⟨#[]⟩) (ka := none) (kn := 0) (kc := 0) (da := none) (dn := 0) (dc := 0) (nl := 0) 5 w)
  rw [l1, l2] at HB
  have HA := Lib.hid (fun w => Answer_any (s0 := ⟨#[]⟩) (s1 := ⟨#[]⟩) (s2 := ⟨#[]⟩) (af := none) (an := 0) (ac := 0) (m := 2) (f := 3) (k := 0) (l := 10) (nk := 0) (nt := ⟨#[]⟩) (ka := none) (kn := 0) (kc := 0) (da := none) (dn := 0) (dc := 0) (nl := 0) 1 1 15 false 5 1 1 w)
  rw [l3] at HA
  unfold tupR runT runV stepV at HA
  dsimp only at HA
  have HT := Lib.hid (fun w => Tick_any (s0 := ⟨#[]⟩) (s1 := ⟨#[]⟩) (s2 := ⟨#[]⟩) (af := none) (an := 0) (ac := 0) (m := 2) (f := 3) (k := 0) (l := 10) (nk := 0) (nt := ⟨#[]⟩) (ka := none) (kn := 0) (kc := 0) (da := none) (dn := 0) (dc := 0) (nl := 0) 2 1 8 false 8 w)
  rw [l4] at HT
  unfold tupR runT runV stepV at HT
  dsimp only at HT
  have HC := Lib.hid (fun w => Answer_any (s0 := ⟨#[]⟩) (s1 := ⟨#[]⟩) (s2 := ⟨#[]⟩) (af := none) (an := 0) (ac := 0) (m := 2) (f := 3) (k := 0) (l := 10) (nk := 0) (nt := ⟨#[]⟩) (ka := none) (kn := 0) (kc := 0) (da := none) (dn := 0) (dc := 0) (nl := 0) 1 2 18 false 9 1 0 w)
  rw [l5] at HC
  unfold tupR runT runV stepV at HC
  dsimp only at HC
  have HD := Lib.hid (fun w => Tick_any (s0 := ⟨#[]⟩) (s1 := ⟨#[]⟩) (s2 := ⟨#[]⟩) (af := none) (an := 0) (ac := 0) (m := 2) (f := 3) (k := 0) (l := 10) (nk := 0) (nt := ⟨#[]⟩) (ka := none) (kn := 0) (kc := 0) (da := none) (dn := 0) (dc := 0) (nl := 0) 1 2 18 false 18 w)
  rw [l6] at HD
  unfold tupR runT runV stepV at HD
  dsimp only at HD
  have HE := Lib.hid (fun w => Answer_any (s0 := ⟨#[]⟩) (s1 := ⟨#[]⟩) (s2 := ⟨#[]⟩) (af := none) (an := 0) (ac := 0) (m := 2) (f := 3) (k := 0) (l := 10) (nk := 0) (nt := ⟨#[]⟩) (ka := none) (kn := 0) (kc := 0) (da := none) (dn := 0) (dc := 0) (nl := 0) 1 2 18 false 9 2 0 w)
  rw [l7] at HE
  unfold tupR runT runV stepV at HE
  dsimp only at HE
  have HS := Lib.hid (fun w => sure_any w)
  unfold sureV stepV at HS
  unfold runV stepV at HB
  have L8 := Lib.hid l8; have L9 := Lib.hid l9; have L10 := Lib.hid l10; have L11 := Lib.hid l11; have L12 := Lib.hid l12; have L13 := Lib.hid l13
  clear l1 l2 l3 l4 l5 l6 l7 l8 l9 l10 l11 l12 l13
  go_enter Try.func48, Try.ntmps48
  go_wp2_with fail
  refine (HS.out _).mono ?_
  rintro e w1 ⟨rfl, hb1⟩
  go_wp2_with fail
  refine (HB.out _).mono ?_
  rintro e w2 ⟨rfl, hb2⟩
  go_upto_region 2 with fail
  have x1 : Run4 (w2.alloc (Obj.cells #[.int .u8 1, .int .i64 1, .int .i64 15, .bool false] 84)) w2.heap.size 1 1 15 false := World.alloc_heap_new _ _
  have hbw := (bthen hb1 (Nat.le_refl _) hb2).alloc (bthen hb1 (Nat.le_refl _) hb2).size (Obj.cells #[.int .u8 1, .int .i64 1, .int .i64 15, .bool false] 84)
  generalize w2.alloc (Obj.cells #[.int .u8 1, .int .i64 1, .int .i64 15, .bool false] 84) = W at *
  generalize w2.heap.size = B1 at *
  clear hb1 hb2
  have X1 := Lib.hid x1
  clear x1
  have hS0 : Below W.heap.size W W.drew ∧ W.drew.cell? ⟨B1, 0, none⟩ = some (.int .u8 1) ∧ W.drew.cell? ⟨B1, 1, none⟩ = some (.int .i64 1) ∧ W.drew.cell? ⟨B1, 2, none⟩ = some (.int .i64 15) ∧ W.drew.cell? ⟨B1, 3, none⟩ = some (.bool false) := by
    obtain ⟨a0, a1, a2, a3, _⟩ := cells4h X1.out
    exact ⟨(Below.refl _ _).drew, a0, a1, a2, a3⟩
  have hlt := X1.out.lt
  go_cut [2, 3] (fun s2 s3 wx => ∃ g : Nat, s2 = .pointer (some ⟨g, 0, none⟩) ∧ s3 = .bool true ∧ Run4 wx g 2 1 8 false ∧ Below W.heap.size W wx)
  case first =>
    first | go_region_held3 (fun W' => Below W.heap.size W W' ∧ W'.cell? ⟨B1, 0, none⟩ = some (.int .u8 1) ∧ W'.cell? ⟨B1, 1, none⟩ = some (.int .i64 1) ∧ W'.cell? ⟨B1, 2, none⟩ = some (.int .i64 15) ∧ W'.cell? ⟨B1, 3, none⟩ = some (.bool false))
      (first | assumption | exact hS0 | exact heldR (by assumption) (by assumption) | exact heldR_alloc (by assumption) | exact heldR_alloc (heldR (heldR hS0 hb5) hb6) | exact heldR_set (by assumption) hlt (Nat.le_refl _) | exact heldR_set (by assumption) hlt hb5.size) (first
      | (go_at_call 87; (with_reducible refine (callA (HS.out _)).mono ?_); rintro e w5 ⟨rfl, hb5, y5, b0, b1, b2, b3, g0, g1, g2, g3⟩)
      | (go_at_call 87; refine (HS.out _).mono ?_; rintro e w5 ⟨rfl, hb5⟩)
      | (go_at_call 58; (with_reducible refine (callB (HA.out _)).mono ?_); rintro e w6 ⟨rfl, hb6, y6, b0, b1, b2, b3, g0, g1, g2, g3⟩)
      | (go_at_call 58; (with_reducible refine (callC y5 (HA.out _)).mono ?_); rintro e w6 ⟨rfl, hb6, y6, b0, b1, b2, b3, g0, g1, g2, g3⟩)
      | (go_at_call 58; refine (HA.out _).mono ?_; rintro e w6 ⟨rfl, hb6⟩)) | fail
    all_goals
      go_wp2_with fail
      go_meet
      first
        | (refine ⟨_, rfl, rfl, ?_, ?_⟩
           · with_reducible exact (fin3 hb5 hb6).1
           · with_reducible exact (fin3 hb5 hb6).2)
        | (refine ⟨_, rfl, rfl, ?_, ?_⟩
           · with_reducible exact (fin2 hb5 hb6).1
           · with_reducible exact (fin2 hb5 hb6).2)
        | (refine ⟨_, rfl, rfl, ?_, ?_⟩
           · with_reducible exact (fin1 hb5 hb6).1
           · with_reducible exact (fin1 hb5 hb6).2)
  case rest =>
  obtain ⟨B2, rfl, rfl, x, hbx⟩ := hcut
  generalize wc = W2 at *
  have X1 := Lib.hid (X1.out.keep hbx)
  have X2 := Lib.hid x
  have hbw := bthen hbw (Nat.le_refl _) hbx
  clear x hbx hlt
  go_upto_region 3 with fail
  have hS0 : Below W2.heap.size W2 W2.drew ∧ W2.drew.cell? ⟨B2, 0, none⟩ = some (.int .u8 2) ∧ W2.drew.cell? ⟨B2, 1, none⟩ = some (.int .i64 1) ∧ W2.drew.cell? ⟨B2, 2, none⟩ = some (.int .i64 8) ∧ W2.drew.cell? ⟨B2, 3, none⟩ = some (.bool false) := by
    obtain ⟨a0, a1, a2, a3, _⟩ := cells4h X2.out
    exact ⟨(Below.refl _ _).drew, a0, a1, a2, a3⟩
  have hlt := X2.out.lt
  go_cut [4, 5] (fun s2 s3 wx => ∃ g : Nat, s2 = .pointer (some ⟨g, 0, none⟩) ∧ s3 = .bool true ∧ Run4 wx g 1 2 18 false ∧ Below W2.heap.size W2 wx)
  case first =>
    first | go_region_held3 (fun W' => Below W2.heap.size W2 W' ∧ W'.cell? ⟨B2, 0, none⟩ = some (.int .u8 2) ∧ W'.cell? ⟨B2, 1, none⟩ = some (.int .i64 1) ∧ W'.cell? ⟨B2, 2, none⟩ = some (.int .i64 8) ∧ W'.cell? ⟨B2, 3, none⟩ = some (.bool false))
      (first | assumption | exact hS0 | exact heldR (by assumption) (by assumption) | exact heldR_alloc (by assumption) | exact heldR_alloc (heldR (heldR hS0 hb5) hb6) | exact heldR_set (by assumption) hlt (Nat.le_refl _) | exact heldR_set (by assumption) hlt hb5.size) (first
      | (go_at_call 87; (with_reducible refine (callA (HS.out _)).mono ?_); rintro e w5 ⟨rfl, hb5, y5, b0, b1, b2, b3, g0, g1, g2, g3⟩)
      | (go_at_call 87; refine (HS.out _).mono ?_; rintro e w5 ⟨rfl, hb5⟩)
      | (go_at_call 88; (with_reducible refine (callB (HT.out _)).mono ?_); rintro e w6 ⟨rfl, hb6, y6, b0, b1, b2, b3, g0, g1, g2, g3⟩)
      | (go_at_call 88; (with_reducible refine (callC y5 (HT.out _)).mono ?_); rintro e w6 ⟨rfl, hb6, y6, b0, b1, b2, b3, g0, g1, g2, g3⟩)
      | (go_at_call 88; refine (HT.out _).mono ?_; rintro e w6 ⟨rfl, hb6⟩)) | fail
    all_goals
      go_wp2_with fail
      go_meet
      first
        | (refine ⟨_, rfl, rfl, ?_, ?_⟩
           · with_reducible exact (fin3 hb5 hb6).1
           · with_reducible exact (fin3 hb5 hb6).2)
        | (refine ⟨_, rfl, rfl, ?_, ?_⟩
           · with_reducible exact (fin2 hb5 hb6).1
           · with_reducible exact (fin2 hb5 hb6).2)
        | (refine ⟨_, rfl, rfl, ?_, ?_⟩
           · with_reducible exact (fin1 hb5 hb6).1
           · with_reducible exact (fin1 hb5 hb6).2)
  case rest =>
  obtain ⟨B4, rfl, rfl, x, hbx⟩ := hcut
  generalize wc = W4 at *
  have X1 := Lib.hid (X1.out.keep hbx)
  have X2 := Lib.hid (X2.out.keep hbx)
  have X4 := Lib.hid x
  have hbw := bthen hbw (Nat.le_refl _) hbx
  clear x hbx hlt
  go_upto_region 4 with fail
  have hS0 : Below W4.heap.size W4 W4.drew ∧ W4.drew.cell? ⟨B4, 0, none⟩ = some (.int .u8 1) ∧ W4.drew.cell? ⟨B4, 1, none⟩ = some (.int .i64 2) ∧ W4.drew.cell? ⟨B4, 2, none⟩ = some (.int .i64 18) ∧ W4.drew.cell? ⟨B4, 3, none⟩ = some (.bool false) := by
    obtain ⟨a0, a1, a2, a3, _⟩ := cells4h X4.out
    exact ⟨(Below.refl _ _).drew, a0, a1, a2, a3⟩
  have hlt := X4.out.lt
  go_cut [6, 7] (fun s2 s3 wx => ∃ g : Nat, s2 = .pointer (some ⟨g, 0, none⟩) ∧ s3 = .bool false ∧ Run4 wx g 1 2 18 false ∧ Below W4.heap.size W4 wx)
  case first =>
    first | go_region_held3 (fun W' => Below W4.heap.size W4 W' ∧ W'.cell? ⟨B4, 0, none⟩ = some (.int .u8 1) ∧ W'.cell? ⟨B4, 1, none⟩ = some (.int .i64 2) ∧ W'.cell? ⟨B4, 2, none⟩ = some (.int .i64 18) ∧ W'.cell? ⟨B4, 3, none⟩ = some (.bool false))
      (first | assumption | exact hS0 | exact heldR (by assumption) (by assumption) | exact heldR_alloc (by assumption) | exact heldR_alloc (heldR (heldR hS0 hb5) hb6) | exact heldR_set (by assumption) hlt (Nat.le_refl _) | exact heldR_set (by assumption) hlt hb5.size) (first
      | (go_at_call 87; (with_reducible refine (callA (HS.out _)).mono ?_); rintro e w5 ⟨rfl, hb5, y5, b0, b1, b2, b3, g0, g1, g2, g3⟩)
      | (go_at_call 87; refine (HS.out _).mono ?_; rintro e w5 ⟨rfl, hb5⟩)
      | (go_at_call 58; (with_reducible refine (callB (HC.out _)).mono ?_); rintro e w6 ⟨rfl, hb6, y6, b0, b1, b2, b3, g0, g1, g2, g3⟩)
      | (go_at_call 58; (with_reducible refine (callC y5 (HC.out _)).mono ?_); rintro e w6 ⟨rfl, hb6, y6, b0, b1, b2, b3, g0, g1, g2, g3⟩)
      | (go_at_call 58; refine (HC.out _).mono ?_; rintro e w6 ⟨rfl, hb6⟩)) | fail
    all_goals
      go_wp2_with fail
      go_meet
      first
        | (refine ⟨_, rfl, rfl, ?_, ?_⟩
           · with_reducible exact (fin3 hb5 hb6).1
           · with_reducible exact (fin3 hb5 hb6).2)
        | (refine ⟨_, rfl, rfl, ?_, ?_⟩
           · with_reducible exact (fin2 hb5 hb6).1
           · with_reducible exact (fin2 hb5 hb6).2)
        | (refine ⟨_, rfl, rfl, ?_, ?_⟩
           · with_reducible exact (fin1 hb5 hb6).1
           · with_reducible exact (fin1 hb5 hb6).2)
  case rest =>
  obtain ⟨B6, rfl, rfl, x, hbx⟩ := hcut
  generalize wc = W6 at *
  have X1 := Lib.hid (X1.out.keep hbx)
  have X2 := Lib.hid (X2.out.keep hbx)
  have X4 := Lib.hid (X4.out.keep hbx)
  have X6 := Lib.hid x
  have hbw := bthen hbw (Nat.le_refl _) hbx
  clear x hbx hlt
  go_upto_region 5 with fail
  have hS0 : Below W6.heap.size W6 W6.drew ∧ W6.drew.cell? ⟨B4, 0, none⟩ = some (.int .u8 1) ∧ W6.drew.cell? ⟨B4, 1, none⟩ = some (.int .i64 2) ∧ W6.drew.cell? ⟨B4, 2, none⟩ = some (.int .i64 18) ∧ W6.drew.cell? ⟨B4, 3, none⟩ = some (.bool false) := by
    obtain ⟨a0, a1, a2, a3, _⟩ := cells4h X4.out
    exact ⟨(Below.refl _ _).drew, a0, a1, a2, a3⟩
  have hlt := X4.out.lt
  go_cut [8, 9] (fun s2 s3 wx => ∃ g : Nat, s2 = .pointer (some ⟨g, 0, none⟩) ∧ s3 = .bool true ∧ Run4 wx g 4 2 0 false ∧ Below W6.heap.size W6 wx)
  case first =>
    first | go_region_held3 (fun W' => Below W6.heap.size W6 W' ∧ W'.cell? ⟨B4, 0, none⟩ = some (.int .u8 1) ∧ W'.cell? ⟨B4, 1, none⟩ = some (.int .i64 2) ∧ W'.cell? ⟨B4, 2, none⟩ = some (.int .i64 18) ∧ W'.cell? ⟨B4, 3, none⟩ = some (.bool false))
      (first | assumption | exact hS0 | exact heldR (by assumption) (by assumption) | exact heldR_alloc (by assumption) | exact heldR_alloc (heldR (heldR hS0 hb5) hb6) | exact heldR_set (by assumption) hlt (Nat.le_refl _) | exact heldR_set (by assumption) hlt hb5.size) (first
      | (go_at_call 87; (with_reducible refine (callA (HS.out _)).mono ?_); rintro e w5 ⟨rfl, hb5, y5, b0, b1, b2, b3, g0, g1, g2, g3⟩)
      | (go_at_call 87; refine (HS.out _).mono ?_; rintro e w5 ⟨rfl, hb5⟩)
      | (go_at_call 88; (with_reducible refine (callB (HD.out _)).mono ?_); rintro e w6 ⟨rfl, hb6, y6, b0, b1, b2, b3, g0, g1, g2, g3⟩)
      | (go_at_call 88; (with_reducible refine (callC y5 (HD.out _)).mono ?_); rintro e w6 ⟨rfl, hb6, y6, b0, b1, b2, b3, g0, g1, g2, g3⟩)
      | (go_at_call 88; refine (HD.out _).mono ?_; rintro e w6 ⟨rfl, hb6⟩)) | fail
    all_goals
      go_wp2_with fail
      go_meet
      first
        | (refine ⟨_, rfl, rfl, ?_, ?_⟩
           · with_reducible exact (fin3 hb5 hb6).1
           · with_reducible exact (fin3 hb5 hb6).2)
        | (refine ⟨_, rfl, rfl, ?_, ?_⟩
           · with_reducible exact (fin2 hb5 hb6).1
           · with_reducible exact (fin2 hb5 hb6).2)
        | (refine ⟨_, rfl, rfl, ?_, ?_⟩
           · with_reducible exact (fin1 hb5 hb6).1
           · with_reducible exact (fin1 hb5 hb6).2)
  case rest =>
  obtain ⟨B8, rfl, rfl, x, hbx⟩ := hcut
  generalize wc = W8 at *
  have X1 := Lib.hid (X1.out.keep hbx)
  have X2 := Lib.hid (X2.out.keep hbx)
  have X4 := Lib.hid (X4.out.keep hbx)
  have X6 := Lib.hid (X6.out.keep hbx)
  have X8 := Lib.hid x
  have hbw := bthen hbw (Nat.le_refl _) hbx
  clear x hbx hlt
  go_upto_region 6 with fail
  have hS0 : Below W8.heap.size W8 W8.drew ∧ W8.drew.cell? ⟨B4, 0, none⟩ = some (.int .u8 1) ∧ W8.drew.cell? ⟨B4, 1, none⟩ = some (.int .i64 2) ∧ W8.drew.cell? ⟨B4, 2, none⟩ = some (.int .i64 18) ∧ W8.drew.cell? ⟨B4, 3, none⟩ = some (.bool false) := by
    obtain ⟨a0, a1, a2, a3, _⟩ := cells4h X4.out
    exact ⟨(Below.refl _ _).drew, a0, a1, a2, a3⟩
  have hlt := X4.out.lt
  go_cut [10, 11] (fun s2 s3 wx => ∃ g : Nat, s2 = .pointer (some ⟨g, 0, none⟩) ∧ s3 = .bool true ∧ Run4 wx g 3 2 0 false ∧ Below W8.heap.size W8 wx)
  case first =>
    first | go_region_held3 (fun W' => Below W8.heap.size W8 W' ∧ W'.cell? ⟨B4, 0, none⟩ = some (.int .u8 1) ∧ W'.cell? ⟨B4, 1, none⟩ = some (.int .i64 2) ∧ W'.cell? ⟨B4, 2, none⟩ = some (.int .i64 18) ∧ W'.cell? ⟨B4, 3, none⟩ = some (.bool false))
      (first | assumption | exact hS0 | exact heldR (by assumption) (by assumption) | exact heldR_alloc (by assumption) | exact heldR_alloc (heldR (heldR hS0 hb5) hb6) | exact heldR_set (by assumption) hlt (Nat.le_refl _) | exact heldR_set (by assumption) hlt hb5.size) (first
      | (go_at_call 87; (with_reducible refine (callA (HS.out _)).mono ?_); rintro e w5 ⟨rfl, hb5, y5, b0, b1, b2, b3, g0, g1, g2, g3⟩)
      | (go_at_call 87; refine (HS.out _).mono ?_; rintro e w5 ⟨rfl, hb5⟩)
      | (go_at_call 58; (with_reducible refine (callB (HE.out _)).mono ?_); rintro e w6 ⟨rfl, hb6, y6, b0, b1, b2, b3, g0, g1, g2, g3⟩)
      | (go_at_call 58; (with_reducible refine (callC y5 (HE.out _)).mono ?_); rintro e w6 ⟨rfl, hb6, y6, b0, b1, b2, b3, g0, g1, g2, g3⟩)
      | (go_at_call 58; refine (HE.out _).mono ?_; rintro e w6 ⟨rfl, hb6⟩)) | fail
    all_goals
      go_wp2_with fail
      go_meet
      first
        | (refine ⟨_, rfl, rfl, ?_, ?_⟩
           · with_reducible exact (fin3 hb5 hb6).1
           · with_reducible exact (fin3 hb5 hb6).2)
        | (refine ⟨_, rfl, rfl, ?_, ?_⟩
           · with_reducible exact (fin2 hb5 hb6).1
           · with_reducible exact (fin2 hb5 hb6).2)
        | (refine ⟨_, rfl, rfl, ?_, ?_⟩
           · with_reducible exact (fin1 hb5 hb6).1
           · with_reducible exact (fin1 hb5 hb6).2)
  case rest =>
  obtain ⟨B10, rfl, rfl, x, hbx⟩ := hcut
  generalize wc = W10 at *
  have X1 := Lib.hid (X1.out.keep hbx)
  have X2 := Lib.hid (X2.out.keep hbx)
  have X4 := Lib.hid (X4.out.keep hbx)
  have X6 := Lib.hid (X6.out.keep hbx)
  have X8 := Lib.hid (X8.out.keep hbx)
  have X10 := Lib.hid x
  have hbw := bthen hbw (Nat.le_refl _) hbx
  clear x hbx hlt
  have H3 := Lib.hid (fun w => Settled_any 3 2 0 false w)
  have H4 := Lib.hid (fun w => Settled_any 4 2 0 false w)
  have H2 := Lib.hid (fun w => Settled_any 2 1 8 false w)
  have HSa := Lib.hid (fun w => Stop_any 2 1 8 false w)
  have HSb := Lib.hid (fun w => Stop_any 1 2 18 false w)
  have HNow := Lib.hid (fun w => Now_any (-1) w)
  rw [L8.out] at H3; rw [L9.out] at H4; rw [L10.out] at H2; rw [L11.out] at HSa; rw [L12.out] at HSb; rw [L13.out] at HNow
  unfold runV at H3 H4 H2 HSa HSb
  unfold runT runV at HSa HSb
  dsimp only at HSa HSb
  have hf0 := @field_run0
  have hf3 := @field_run3
  clear HA HT HC HD HB HE HS L8 L9 L10 L11 L12 L13
  obtain ⟨a10, a11, a12, a13, _⟩ := cells4h X1.out
  obtain ⟨a20, a21, a22, a23, _⟩ := cells4h X2.out
  obtain ⟨a40, a41, a42, a43, _⟩ := cells4h X4.out
  obtain ⟨a60, a61, a62, a63, _⟩ := cells4h X6.out
  obtain ⟨a80, a81, a82, a83, _⟩ := cells4h X8.out
  obtain ⟨a100, a101, a102, a103, _⟩ := cells4h X10.out
  go_wp2_with fail
  refine (H3.out _).mono ?_
  rintro e V0 ⟨rfl, hb⟩
  clear a10 a11 a12 a13 a20 a21 a22 a23 a40 a41 a42 a43 a60 a61 a62 a63 a80 a81 a82 a83 a100 a101 a102 a103
  have X1 := Lib.hid (X1.out.keep hb)
  have X2 := Lib.hid (X2.out.keep hb)
  have X4 := Lib.hid (X4.out.keep hb)
  have X6 := Lib.hid (X6.out.keep hb)
  have X8 := Lib.hid (X8.out.keep hb)
  have X10 := Lib.hid (X10.out.keep hb)
  have hbw := bthen hbw (Nat.le_refl _) hb
  clear hb
  obtain ⟨a10, a11, a12, a13, _⟩ := cells4h X1.out
  obtain ⟨a20, a21, a22, a23, _⟩ := cells4h X2.out
  obtain ⟨a40, a41, a42, a43, _⟩ := cells4h X4.out
  obtain ⟨a60, a61, a62, a63, _⟩ := cells4h X6.out
  obtain ⟨a80, a81, a82, a83, _⟩ := cells4h X8.out
  obtain ⟨a100, a101, a102, a103, _⟩ := cells4h X10.out
  go_wp2_with fail
  refine (H4.out _).mono ?_
  rintro e V1 ⟨rfl, hb⟩
  clear a10 a11 a12 a13 a20 a21 a22 a23 a40 a41 a42 a43 a60 a61 a62 a63 a80 a81 a82 a83 a100 a101 a102 a103
  have X1 := Lib.hid (X1.out.keep hb)
  have X2 := Lib.hid (X2.out.keep hb)
  have X4 := Lib.hid (X4.out.keep hb)
  have X6 := Lib.hid (X6.out.keep hb)
  have X8 := Lib.hid (X8.out.keep hb)
  have X10 := Lib.hid (X10.out.keep hb)
  have hbw := bthen hbw (Nat.le_refl _) hb
  clear hb
  obtain ⟨a10, a11, a12, a13, _⟩ := cells4h X1.out
  obtain ⟨a20, a21, a22, a23, _⟩ := cells4h X2.out
  obtain ⟨a40, a41, a42, a43, _⟩ := cells4h X4.out
  obtain ⟨a60, a61, a62, a63, _⟩ := cells4h X6.out
  obtain ⟨a80, a81, a82, a83, _⟩ := cells4h X8.out
  obtain ⟨a100, a101, a102, a103, _⟩ := cells4h X10.out
  go_wp2_with fail
  refine (H2.out _).mono ?_
  rintro e V2 ⟨rfl, hb⟩
  clear a10 a11 a12 a13 a20 a21 a22 a23 a40 a41 a42 a43 a60 a61 a62 a63 a80 a81 a82 a83 a100 a101 a102 a103
  have X1 := Lib.hid (X1.out.keep hb)
  have X2 := Lib.hid (X2.out.keep hb)
  have X4 := Lib.hid (X4.out.keep hb)
  have X6 := Lib.hid (X6.out.keep hb)
  have X8 := Lib.hid (X8.out.keep hb)
  have X10 := Lib.hid (X10.out.keep hb)
  have hbw := bthen hbw (Nat.le_refl _) hb
  clear hb
  obtain ⟨a10, a11, a12, a13, _⟩ := cells4h X1.out
  obtain ⟨a20, a21, a22, a23, _⟩ := cells4h X2.out
  obtain ⟨a40, a41, a42, a43, _⟩ := cells4h X4.out
  obtain ⟨a60, a61, a62, a63, _⟩ := cells4h X6.out
  obtain ⟨a80, a81, a82, a83, _⟩ := cells4h X8.out
  obtain ⟨a100, a101, a102, a103, _⟩ := cells4h X10.out
  go_wp2_with fail
  refine (HSa.out _).mono ?_
  rintro e V3 ⟨rfl, hb⟩
  clear a10 a11 a12 a13 a20 a21 a22 a23 a40 a41 a42 a43 a60 a61 a62 a63 a80 a81 a82 a83 a100 a101 a102 a103
  have X1 := Lib.hid (X1.out.keep hb)
  have X2 := Lib.hid (X2.out.keep hb)
  have X4 := Lib.hid (X4.out.keep hb)
  have X6 := Lib.hid (X6.out.keep hb)
  have X8 := Lib.hid (X8.out.keep hb)
  have X10 := Lib.hid (X10.out.keep hb)
  have hbw := bthen hbw (Nat.le_refl _) hb
  clear hb
  obtain ⟨a10, a11, a12, a13, _⟩ := cells4h X1.out
  obtain ⟨a20, a21, a22, a23, _⟩ := cells4h X2.out
  obtain ⟨a40, a41, a42, a43, _⟩ := cells4h X4.out
  obtain ⟨a60, a61, a62, a63, _⟩ := cells4h X6.out
  obtain ⟨a80, a81, a82, a83, _⟩ := cells4h X8.out
  obtain ⟨a100, a101, a102, a103, _⟩ := cells4h X10.out
  go_wp2_with fail
  refine (HSb.out _).mono ?_
  rintro e V4 ⟨rfl, hb⟩
  clear a10 a11 a12 a13 a20 a21 a22 a23 a40 a41 a42 a43 a60 a61 a62 a63 a80 a81 a82 a83 a100 a101 a102 a103
  have X1 := Lib.hid (X1.out.keep hb)
  have X2 := Lib.hid (X2.out.keep hb)
  have X4 := Lib.hid (X4.out.keep hb)
  have X6 := Lib.hid (X6.out.keep hb)
  have X8 := Lib.hid (X8.out.keep hb)
  have X10 := Lib.hid (X10.out.keep hb)
  have hbw := bthen hbw (Nat.le_refl _) hb
  clear hb
  obtain ⟨a10, a11, a12, a13, _⟩ := cells4h X1.out
  obtain ⟨a20, a21, a22, a23, _⟩ := cells4h X2.out
  obtain ⟨a40, a41, a42, a43, _⟩ := cells4h X4.out
  obtain ⟨a60, a61, a62, a63, _⟩ := cells4h X6.out
  obtain ⟨a80, a81, a82, a83, _⟩ := cells4h X8.out
  obtain ⟨a100, a101, a102, a103, _⟩ := cells4h X10.out
  go_wp2_with fail
  refine (HNow.out _).mono ?_
  rintro e w' ⟨rfl, rfl⟩
  go_wp2
  go_ret
  exact ⟨rfl, hbw⟩
end Go.Proofs.Ytigeedaihbpjiaa
