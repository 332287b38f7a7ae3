/-
  block.clone, block.Copy: contracts.
-/
import Derived.Test.YtgfiogjfgbegpaaGreatBz10
import Derived.Test.YtgfiogjfgbegpaaGreatBz20
import Derived.Test.YtgfiogjfgbegpaaGreatBz24
namespace Go.Proofs.YtgfiogjfgbegpaaGreat
open Go Go.RowKit Go.WideShapes
attribute [local go_sem ↓] Go.wp_at_zero Go.wp_at_succ

theorem Tryz.info_node : (Tryz.prog.info? 45).map (fun i => (i.zero, i.size, i.bytes)) = some (some (.agg #[.int .u8 0, .string { data := #[] }, .slice none 0 0, .slice none 0 0, .int .i64 0]), 5, 80) := by kernel_rfl

theorem cells5w {W : World} {B : Nat} {a b c d e : Value} {t : TypeId} (h : W.heap[B]? = some (.cells #[a, b, c, d, e] t (0, 0))) :
    W.frozen? ⟨B, 0, none⟩ = false ∧ W.frozen? ⟨B, 1, none⟩ = false ∧ W.frozen? ⟨B, 2, none⟩ = false ∧ W.frozen? ⟨B, 3, none⟩ = false ∧ W.frozen? ⟨B, 4, none⟩ = false := by
  simp [World.frozen?, h]

structure ClR (w : World) (k : Nat) (t : ByteArray) (ks : List ByteArray) (kids : List Tree) (ln : Int) (vk : Value) (wr : World) (j : Nat) (v : Value) (rows : List (List Value)) : Prop where
  out : wr.heap[w.heap.size + 1 + 1]? = some (.cells #[.int .u8 (k : Int), .string t, vk, v, .int .i64 ln] 45 (0, 0))
  res : wr.heap[w.heap.size + 1]? = some (.cells #[.int .u8 0, .string { data := #[] }, .slice none 0 0, .slice none 0 0, .int .i64 0] 45 (0, 0))
  own : wr.ownsRow (w.heap.size + 3) 45 5 v j rows.flatten
  len : rows.length = j
  node : ∀ (i : Nat) (r : List Value) (x : Tree), rows[i]? = some r → kids[i]? = some x → NodeO wr (inSpanBut (w.heap.size + 3) wr.heap.size v) r x
  keys : RdS wr vk 1 ks.length (strsV ks)
  kown : ∀ g, vk.ownBlock = some g → inSpanBut (w.heap.size + 3) wr.heap.size v g
  below : Below w.heap.size w wr
  size : w.heap.size + 3 ≤ wr.heap.size

theorem ClR.step {w : World} {k : Nat} {t : ByteArray} {ks : List ByteArray} {kids : List Tree} {ln : Int} {vk : Value} {wr : World} {j : Nat} {v : Value} {rows : List (List Value)} (h : ClR w k t ks kids ln vk wr j v rows) {wA w5 w6 w7 : World} {cs5 : List Value} {v' : Value}
    (hA : Below wr.heap.size wr wA) (h5 : Below wA.heap.size wA w5) (h6 : Below w5.heap.size w5 w6) (hj : j < kids.length) (hn : NodeO w5 (inSpan wA.heap.size w5.heap.size) cs5 kids[j]) (hg : w6.grownBy w7 v.ownBlock)
    (hown : w7.ownsRow (w.heap.size + 3) 45 5 v' (j + 1) (rows.flatten ++ cs5)) (hv' : v'.ownBlock = v.ownBlock ∨ v'.ownBlock = some w6.heap.size) :
    ClR w k t ks kids ln vk (w7.setCell ⟨w.heap.size + 1 + 1, 3, none⟩ v') (j + 1) v' (rows ++ [cs5]) := by
  have s1 := h.size
  have s2 := hA.size
  have s3 := h5.size
  have s4 := h6.size
  have s5 := hg.size
  have hvlo : ∀ g, v.ownBlock = some g → w.heap.size + 3 ≤ g ∧ g < wr.heap.size := fun g hgv => by have := h.own.lt g hgv; omega
  have old : ∀ g, g < wr.heap.size → v.ownBlock ≠ some g → w7.heap[g]? = wr.heap[g]? := fun g hl hne => by
    rw [hg.block g (by omega) (fun e => hne e.symm), h6.block g (by omega), h5.block g (by omega), hA.block g hl]
  have mid : ∀ g, wA.heap.size ≤ g → g < w5.heap.size → w7.heap[g]? = w5.heap[g]? := fun g hl hh => by
    rw [hg.block g (by omega) (fun e => by have := hvlo g e.symm; omega), h6.block g hh]
  have oth : ∀ g, g ≠ w.heap.size + 1 + 1 → (w7.setCell ⟨w.heap.size + 1 + 1, 3, none⟩ v').heap[g]? = w7.heap[g]? := fun g hne => Below.heap_setCell _ _ _ _ hne
  have hO : w7.heap[w.heap.size + 1 + 1]? = wr.heap[w.heap.size + 1 + 1]? := old _ (by omega) (fun e => by have := hvlo _ e; omega)
  have sz : (w7.setCell ⟨w.heap.size + 1 + 1, 3, none⟩ v').heap.size = w7.heap.size := by simp
  have keepP : ∀ g, inSpanBut (w.heap.size + 3) wr.heap.size v g → inSpanBut (w.heap.size + 3) (w7.setCell ⟨w.heap.size + 1 + 1, 3, none⟩ v').heap.size v' g := fun g ⟨a, b, c⟩ => ⟨a, by omega, fun e => by
    rcases hv' with hv' | hv'
    · exact c (hv' ▸ e)
    · rw [hv'] at e; injection e with e; omega⟩
  have keepK : ∀ g, inSpanBut (w.heap.size + 3) wr.heap.size v g → (w7.setCell ⟨w.heap.size + 1 + 1, 3, none⟩ v').heap[g]? = wr.heap[g]? := fun g ⟨a, b, c⟩ => by rw [oth g (by omega), old g b c]
  refine ⟨?_, ?_, ?_, ?_, ?_, ?_, ?_, ?_, ?_⟩
  · simp [World.setCell, Array.getElem?_modify, hO, h.out]
  · rw [oth _ (by omega), old _ (by omega) (fun e => by have := hvlo _ e; omega)]; exact h.res
  · rw [flatten_snoc]
    exact ownsRow_keepB hown (fun g hg' => oth g (by have := hown.lt g hg'; omega))
  · simp [h.len]
  · intro i r x hr hx
    rcases Nat.lt_trichotomy i rows.length with hlt | heq | hgt
    · rw [List.getElem?_append_left hlt] at hr
      exact (h.node i r x hr hx).keep (fun g hP _ => keepK g hP) keepP
    · subst heq
      simp at hr
      subst hr
      rw [h.len, List.getElem?_eq_getElem hj] at hx
      cases hx
      refine hn.keep (fun g hP hl => ?_) (fun g hP => ⟨by have := hP.1; omega, by have := hP.2; omega, fun e => ?_⟩)
      · rw [oth g (by have := hP.1; omega), mid g hP.1 hP.2]
      · have h1 := hP.1; have h2 := hP.2
        rcases hv' with hv' | hv'
        · rw [hv'] at e; have := hvlo g e; omega
        · rw [hv'] at e; injection e with e; omega
    · rw [List.getElem?_eq_none (by simp; omega)] at hr; cases hr
  · exact h.keys.keepB (fun g hg' hl => keepK g (h.kown g hg'))
  · exact fun g hg' => keepP g (h.kown g hg')
  · refine (((h.below.trans (hA.mono (by omega))).trans (h5.mono (by omega))).trans (h6.mono (by omega))).grown hg (by omega) (fun i ei => ?_) |>.setCell (by show w.heap.size ≤ w.heap.size + 1 + 1; omega) v'
    have := hvlo i ei; omega
  · omega

theorem set5w {W : World} {B : Nat} {a b c d e x0 x1 x2 x3 x4 : Value} {t : TypeId} (h : W.heap[B]? = some (.cells #[a, b, c, d, e] t (0, 0))) :
    (((((W.setCell ⟨B, 0, none⟩ x0).setCell ⟨B, 1, none⟩ x1).setCell ⟨B, 2, none⟩ x2).setCell ⟨B, 3, none⟩ x3).setCell ⟨B, 4, none⟩ x4).heap[B]? = some (.cells #[x0, x1, x2, x3, x4] t (0, 0)) := by
  simp [World.setCell, h, Array.getElem?_modify]
theorem set5w_other {W : World} {B k : Nat} {x0 x1 x2 x3 x4 : Value} (h : k ≠ B) :
    (((((W.setCell ⟨B, 0, none⟩ x0).setCell ⟨B, 1, none⟩ x1).setCell ⟨B, 2, none⟩ x2).setCell ⟨B, 3, none⟩ x3).setCell ⟨B, 4, none⟩ x4).heap[k]? = W.heap[k]? := by
  rw [Below.heap_setCell _ _ _ _ h, Below.heap_setCell _ _ _ _ h, Below.heap_setCell _ _ _ _ h, Below.heap_setCell _ _ _ _ h, Below.heap_setCell _ _ _ _ h]
theorem set5w_below {n : Nat} {w W : World} (hb : Below n w W) {B : Nat} {x0 x1 x2 x3 x4 : Value} (h : n ≤ B) :
    Below n w (((((W.setCell ⟨B, 0, none⟩ x0).setCell ⟨B, 1, none⟩ x1).setCell ⟨B, 2, none⟩ x2).setCell ⟨B, 3, none⟩ x3).setCell ⟨B, 4, none⟩ x4) :=
  ((((hb.setCell (p := ⟨B, 0, none⟩) h _).setCell (p := ⟨B, 1, none⟩) h _).setCell (p := ⟨B, 2, none⟩) h _).setCell (p := ⟨B, 3, none⟩) h _).setCell (p := ⟨B, 4, none⟩) h _
theorem ClR.done {w : World} {k : Nat} {t : ByteArray} {ks : List ByteArray} {kids : List Tree} {ln : Int} {vk : Value} {wr : World} {v : Value} {rows : List (List Value)} (h : ClR w k t ks kids ln vk wr kids.length v rows) (h1 : k < 256) (h2 : t.size ≤ maxLen) (h3 : ∀ s ∈ ks, s.size ≤ maxLen) (h4 : -9223372036854775808 ≤ ln ∧ ln ≤ 9223372036854775807)
    {wf : World} (hof : ∀ g, g ≠ w.heap.size + 1 → wf.heap[g]? = wr.heap[g]?) (hsz : wf.heap.size = wr.heap.size) : NodeO wf (inSpan w.heap.size wf.heap.size) [.int .u8 (k : Int), .string t, vk, v, .int .i64 ln] (.mk k t ks kids ln) := by
  have s := h.size
  refine .mk rows h1 h2 h3 h4 (h.keys.keepB fun g hg _ => hof g (by have := h.kown g hg; have := this.1; omega)) h.len ((RdS.of_owns h.own).keepB fun g hg _ => hof g (by have := h.own.lt g hg; omega)) (fun _ g hg => ⟨by have := (h.kown g hg).1; omega, by have := (h.kown g hg).2.1; omega⟩) (fun _ g hg => ⟨by have := h.own.lt g hg; omega, by have := h.own.lt g hg; omega⟩) ?_
  intro i r x hr hx
  exact (h.node i r x hr hx).keep (fun g hP _ => hof g (by have := hP.1; omega)) (fun g hP => ⟨by have := hP.1; omega, by have := hP.2.1; omega⟩)
theorem held6 {W W' : World} {p q r s u o : Addr} {a b c d e f : Value} (h : W.cell? p = some a ∧ W.cell? q = some b ∧ W.cell? r = some c ∧ W.cell? s = some d ∧ W.cell? u = some e ∧ W.cell? o = some f) (hb : Below W.heap.size W W') :
    W'.cell? p = some a ∧ W'.cell? q = some b ∧ W'.cell? r = some c ∧ W'.cell? s = some d ∧ W'.cell? u = some e ∧ W'.cell? o = some f := ⟨cellB hb h.1, cellB hb h.2.1, cellB hb h.2.2.1, cellB hb h.2.2.2.1, cellB hb h.2.2.2.2.1, cellB hb h.2.2.2.2.2⟩
theorem five_set {W : World} {B : Nat} {a b c d e x y : Value} {t : TypeId} (h : W.heap[B]? = some (.cells #[a, b, c, d, e] t (0, 0))) :
    ((W.setCell ⟨B, 2, none⟩ x).setCell ⟨B, 3, none⟩ y).heap[B]? = some (.cells #[a, b, x, y, e] t (0, 0)) := by
  simp [World.setCell, h, Array.getElem?_modify]

set_option maxRecDepth 100000 in
set_option maxHeartbeats 4000000 in
theorem clone_any : ∀ (x : Tree) (n lv : Nat) (cs : List Value) (w : World), NodeR w cs x → SmallP n x → n ≤ lv → lv ≤ 1000 →
    Calls Tryz.prog 108 #[.agg cs.toArray, .int .i64 (lv : Int)] w fun e w' => ∃ cs', e = .returned (.agg cs'.toArray) ∧ NodeO w' (inSpan w.heap.size w'.heap.size) cs' x ∧ Below w.heap.size w w' := by
  obtain ⟨i0, hi, hz0, hz1, hz2⟩ := info_parts Tryz.info_node
  refine Tree.ind fun k t ks kids ln ih n lv cs w ha hsm hnl hlv => ?_
  obtain ⟨m, rfl, ht, hkl, hks, hkids, hkl2⟩ := hsm.parts
  obtain ⟨vk, vc, rfl, hk8, ht63, hks63, hln, hk1, hc1⟩ := ha.parts
  obtain ⟨ba, bc, rfl, hv1, hv2⟩ := hc1.form
  obtain ⟨ka, kc, rfl⟩ := hk1.form
  have hb2 : Below w.heap.size w ((w.alloc (.cells #[.int .u8 (k : Int), .string t, .slice ka ks.length kc, .slice ba kids.length bc, .int .i64 ln] 45)).alloc (.cells #[.int .u8 0, .string { data := #[] }, .slice none 0 0, .slice none 0 0, .int .i64 0] 45)) := ((Below.refl _ w).alloc (Nat.le_refl _) _).alloc (by simp) _
  have g2 : ((w.alloc (.cells #[.int .u8 (k : Int), .string t, .slice ka ks.length kc, .slice ba kids.length bc, .int .i64 ln] 45)).alloc (.cells #[.int .u8 0, .string { data := #[] }, .slice none 0 0, .slice none 0 0, .int .i64 0] 45)).heap[w.heap.size]? = some (.cells #[.int .u8 (k : Int), .string t, .slice ka ks.length kc, .slice ba kids.length bc, .int .i64 ln] 45 (0, 0)) := (Below.heap_alloc _ _ _ (by simp)).trans (World.alloc_heap_new w _)
  have z2 : ((w.alloc (.cells #[.int .u8 (k : Int), .string t, .slice ka ks.length kc, .slice ba kids.length bc, .int .i64 ln] 45)).alloc (.cells #[.int .u8 0, .string { data := #[] }, .slice none 0 0, .slice none 0 0, .int .i64 0] 45)).heap[w.heap.size + 1]? = some (.cells #[.int .u8 0, .string { data := #[] }, .slice none 0 0, .slice none 0 0, .int .i64 0] 45 (0, 0)) := by
    have := World.alloc_heap_new (w.alloc (.cells #[.int .u8 (k : Int), .string t, .slice ka ks.length kc, .slice ba kids.length bc, .int .i64 ln] 45)) (.cells #[.int .u8 0, .string { data := #[] }, .slice none 0 0, .slice none 0 0, .int .i64 0] 45)
    rwa [World.size_alloc] at this
  have hsz2 : ((w.alloc (.cells #[.int .u8 (k : Int), .string t, .slice ka ks.length kc, .slice ba kids.length bc, .int .i64 ln] 45)).alloc (.cells #[.int .u8 0, .string { data := #[] }, .slice none 0 0, .slice none 0 0, .int .i64 0] 45)).heap.size = w.heap.size + 1 + 1 := by simp
  have HK1 := Lib.hid (hk1.below hb2)
  have HC1 := Lib.hid hc1
  have IH := Lib.hid ih
  have HKD := Lib.hid hkids
  have HKS := Lib.hid hks63
  clear ha hsm hk1 hc1 ih hkids hks hks63
  generalize hw2 : (w.alloc (.cells #[.int .u8 (k : Int), .string t, .slice ka ks.length kc, .slice ba kids.length bc, .int .i64 ln] 45)).alloc (.cells #[.int .u8 0, .string { data := #[] }, .slice none 0 0, .slice none 0 0, .int .i64 0] 45) = w2 at *
  have hb3 : Below w2.heap.size w2 (w2.alloc (.cells #[.int .u8 (k : Int), .string t, .slice ka ks.length kc, .slice ba kids.length bc, .int .i64 ln] 45)) := (Below.refl _ _).alloc (Nat.le_refl _) _
  have g3 := (hb3.block _ (by omega)).trans g2
  have z3 := (hb3.block _ (by omega)).trans z2
  have o3 := World.alloc_heap_new w2 (.cells #[.int .u8 (k : Int), .string t, .slice ka ks.length kc, .slice ba kids.length bc, .int .i64 ln] 45)
  rw [hsz2] at o3
  have hsz3 : (w2.alloc (.cells #[.int .u8 (k : Int), .string t, .slice ka ks.length kc, .slice ba kids.length bc, .int .i64 ln] 45)).heap.size = w.heap.size + 3 := by simp [hsz2]
  generalize hw3 : w2.alloc (.cells #[.int .u8 (k : Int), .string t, .slice ka ks.length kc, .slice ba kids.length bc, .int .i64 ln] 45) = w3 at *
  obtain ⟨p0, p1, p2, p3, p4⟩ := cells5 g2
  obtain ⟨r0, r1, r2, r3, r4⟩ := cells5 g3
  have G3 := Lib.hid g3
  have Z3 := Lib.hid z3
  have O3 := Lib.hid o3
  have HCL := Lib.hid (CloneS_any ks _ w3 (HK1.out.below hb3) (by omega))
  clear g2 z2 g3 z3 o3 r0 r1 r3 r4
  go_enter Tryz.func108, Tryz.ntmps108
  go_wp2_with fail
  refine HCL.out.mono ?_
  rintro e w4 ⟨vk', rfl, hk4, hk4o, hb4⟩
  obtain ⟨ka', kc', rfl⟩ := hk4.form
  have HK4 := Lib.hid hk4
  have HK4O := Lib.hid hk4o
  have o4 := (hb4.block _ (by omega)).trans O3.out
  have O4 := Lib.hid o4
  obtain ⟨x0, x1, x2, x3, x4⟩ := cells5 o4
  obtain ⟨f0, f1, f2, f3, f4⟩ := cells5w o4
  have g4 := (hb4.block w.heap.size (by omega)).trans G3.out
  obtain ⟨y0, y1, y2, y3, y4⟩ := cells5 g4
  have hq3 : (w4.setCell ⟨w.heap.size + 1 + 1, 2, none⟩ (.slice ka' ks.length kc')).cell? ⟨w.heap.size + 1 + 1, 3, none⟩ = some (.slice ba kids.length bc) := by simp [World.setCell, World.cell?, o4, Array.getElem?_modify]
  have hq4 : (w4.setCell ⟨w.heap.size + 1 + 1, 2, none⟩ (.slice ka' ks.length kc')).frozen? ⟨w.heap.size + 1 + 1, 3, none⟩ = false := by simp [World.setCell, World.frozen?, o4, Array.getElem?_modify]
  have hcl : ClR w k t ks kids ln (.slice ka' ks.length kc') ((w4.setCell ⟨w.heap.size + 1 + 1, 2, none⟩ (.slice ka' ks.length kc')).setCell ⟨w.heap.size + 1 + 1, 3, none⟩ (.slice none 0 0)) 0 (.slice none 0 0) [] := by
    have oth : ∀ g, g ≠ w.heap.size + 1 + 1 → ((w4.setCell ⟨w.heap.size + 1 + 1, 2, none⟩ (.slice ka' ks.length kc')).setCell ⟨w.heap.size + 1 + 1, 3, none⟩ (.slice none 0 0)).heap[g]? = w4.heap[g]? := fun g hne => by rw [Below.heap_setCell _ _ _ _ hne, Below.heap_setCell _ _ _ _ hne]
    have s4 := hb4.size
    refine ⟨five_set o4, (oth _ (by omega)).trans ((hb4.block _ (by omega)).trans Z3.out), World.ownsRow_nil _ _ _ _, rfl, fun i r x hr => by simp at hr, hk4.keepB fun g hg _ => oth g (by have := (hk4o g hg).1; omega), fun g hg => ⟨by have := (hk4o g hg).1; omega, by have := (hk4o g hg).2; simp; omega, by simp [Value.ownBlock]⟩, ?_, by simp; omega⟩
    exact (((hb2.trans (hb3.mono (by omega))).trans (hb4.mono (by omega))).setCell (by show w.heap.size ≤ w.heap.size + 1 + 1; omega) _).setCell (by show w.heap.size ≤ w.heap.size + 1 + 1; omega) _
  have hsl : ((w4.setCell ⟨w.heap.size + 1 + 1, 2, none⟩ (.slice ka' ks.length kc')).setCell ⟨w.heap.size + 1 + 1, 3, none⟩ (.slice none 0 0)).heap[w.heap.size]? = w4.heap[w.heap.size]? := by rw [Below.heap_setCell _ _ _ _ (by show _ ≠ w.heap.size + 1 + 1; omega), Below.heap_setCell _ _ _ _ (by show _ ≠ w.heap.size + 1 + 1; omega)]
  have g5 := hsl.trans g4
  clear hk4 hk4o o4 g4 hsl
  generalize hwl : (w4.setCell ⟨w.heap.size + 1 + 1, 2, none⟩ (.slice ka' ks.length kc')).setCell ⟨w.heap.size + 1 + 1, 3, none⟩ (.slice none 0 0) = wl at *
  have HCLR := Lib.hid hcl
  obtain ⟨-, -, -, u3, -⟩ := cells5 g5
  clear hcl
  by_cases hl1 : lv ≤ 1
  · have hk0 : kids = [] := by
      match kids, HKD.out with
      | [], _ => rfl
      | a :: l, h =>
        have := h a (List.mem_cons_self ..)
        obtain rfl : m = 0 := by omega
        cases this
    have hd : decide ((1 : Int) < (lv : Int)) = false := by simp; omega
    subst hk0
    have hO := HCLR.out.out
    obtain ⟨x0, x1, x2, x3, x4⟩ := cells5 hO
    obtain ⟨y0, y1, y2, y3, y4⟩ := cells5 HCLR.out.res
    obtain ⟨f0, f1, f2, f3, f4⟩ := cells5w HCLR.out.res
    clear hO
    go_wp2
    have hfin := Lib.hid (HCLR.out.done hk8 ht63 HKS.out hln (wf := (((((wl.setCell ⟨w.heap.size + 1, 0, none⟩ (.int .u8 (k : Int))).setCell ⟨w.heap.size + 1, 1, none⟩ (.string t)).setCell ⟨w.heap.size + 1, 2, none⟩ (.slice ka' ks.length kc')).setCell ⟨w.heap.size + 1, 3, none⟩ (.slice none 0 0)).setCell ⟨w.heap.size + 1, 4, none⟩ (.int .i64 ln))) (fun g hg => set5w_other hg) (by simp))
    have hset := set5w (x0 := .int .u8 (k : Int)) (x1 := .string t) (x2 := .slice ka' ks.length kc') (x3 := .slice none 0 0) (x4 := .int .i64 ln) HCLR.out.res
    have hbf := Lib.hid (set5w_below (x0 := .int .u8 (k : Int)) (x1 := .string t) (x2 := .slice ka' ks.length kc') (x3 := .slice none 0 0) (x4 := .int .i64 ln) HCLR.out.below (B := w.heap.size + 1) (by omega))
    clear y0 y1 y2 y3 y4 f0 f1 f2 f3 f4
    generalize ((((wl.setCell ⟨w.heap.size + 1, 0, none⟩ (.int .u8 (k : Int))).setCell ⟨w.heap.size + 1, 1, none⟩ (.string t)).setCell ⟨w.heap.size + 1, 2, none⟩ (.slice ka' ks.length kc')).setCell ⟨w.heap.size + 1, 3, none⟩ (.slice none 0 0)).setCell ⟨w.heap.size + 1, 4, none⟩ (.int .i64 ln) = wf at *
    obtain ⟨y0, y1, y2, y3, y4⟩ := cells5 hset
    refine bodyPost_ret (v := .agg #[.int .u8 (k : Int), .string t, .slice ka' ks.length kc', .slice none 0 0, .int .i64 ln]) (by simp [results, Tryz.results108, go_sem, y0, y1, y2, y3, y4]) rfl ⟨_, rfl, hfin.out, hbf.out⟩
  have hd : decide ((1 : Int) < (lv : Int)) = true := by simp; omega
  go_wp2
  go_loopw [19] (fun i wr => ∃ (j : Nat) (v : Value) (rows : List (List Value)), j ≤ kids.length ∧ i = .int .i64 j ∧ Hid (ClR w k t ks kids ln (.slice ka' ks.length kc') wr j v rows)) (fun i _ => kids.length - (intOf i).toNat)
  case atStart => exact ⟨0, _, _, by omega, rfl, HCLR⟩
  case round =>
    obtain ⟨j, v, rows, hj, rfl, HR⟩ := hrel
    by_cases hlt : j < kids.length
    · obtain ⟨g, off, cap, ka1, kc1, ba1, bc1, he, q1, q2, hn, c0, c1, c2, c3, c4⟩ := (HC1.out.below HR.out.below).at hlt
      cases he
      have hsm := HKD.out _ (List.getElem_mem hlt)
      have hA : Below wr.heap.size wr (wr.alloc (.cells #[.int .u8 (kids[j].kind : Int), .string kids[j].text, .slice ka1 kids[j].keys.length kc1, .slice ba1 kids[j].kids.length bc1, .int .i64 kids[j].line] 45)) := (Below.refl _ _).alloc (Nat.le_refl _) _
      have hszA : (wr.alloc (.cells #[.int .u8 (kids[j].kind : Int), .string kids[j].text, .slice ka1 kids[j].keys.length kc1, .slice ba1 kids[j].kids.length bc1, .int .i64 kids[j].line] 45)).heap.size = wr.heap.size + 1 := by simp
      have hKB := World.alloc_heap_new wr (.cells #[.int .u8 (kids[j].kind : Int), .string kids[j].text, .slice ka1 kids[j].keys.length kc1, .slice ba1 kids[j].kids.length bc1, .int .i64 kids[j].line] 45)
      have HIH : Hid (∀ W, Below (wr.alloc (.cells #[.int .u8 (kids[j].kind : Int), .string kids[j].text, .slice ka1 kids[j].keys.length kc1, .slice ba1 kids[j].kids.length bc1, .int .i64 kids[j].line] 45)).heap.size (wr.alloc (.cells #[.int .u8 (kids[j].kind : Int), .string kids[j].text, .slice ka1 kids[j].keys.length kc1, .slice ba1 kids[j].kids.length bc1, .int .i64 kids[j].line] 45)) W → _) := Lib.hid (fun W hW => IH.out _ (List.getElem_mem hlt) m (lv - 1) _ W ((hn.belowW hA).belowW hW) hsm (by omega) (by omega))
      rw [show ((lv - 1 : Nat) : Int) = IntKind.i64.wrap ((lv : Int) - 1) by rw [IntWalk.i64_in _ (by omega)]; omega] at HIH
      have hO := HR.out.out
      have hOA := (hA.block _ (Array.getElem?_eq_some_iff.1 hO).1).trans hO
      have hOL := (Array.getElem?_eq_some_iff.1 hO).1
      have HOWN := Lib.hid HR.out.own
      have HOWNA := Lib.hid (ownsB HR.out.own hA)
      generalize hwA : wr.alloc (.cells #[.int .u8 (kids[j].kind : Int), .string kids[j].text, .slice ka1 kids[j].keys.length kc1, .slice ba1 kids[j].kids.length bc1, .int .i64 kids[j].line] 45) = wA at *
      obtain ⟨a0, a1, a2, a3, a4⟩ := cells5 hKB
      obtain ⟨-, -, -, x3, -⟩ := cells5 hOA
      obtain ⟨-, -, -, f3, -⟩ := cells5w hOA
      have HOA := Lib.hid hOA
      have hrs := HR.out.size
      have hj0 : (0 : Int) ≤ (j : Int) := by omega
      have hj1 : (j : Int) < (kids.length : Int) := by omega
      clear hn hKB hO hOA hsm
      go_wp2
      have hA' := Lib.hid hA
      clear hA
      refine E_region (S := (fun W => W.cell? ⟨w.heap.size + 1 + 1, 3, none⟩ = some v ∧ W.cell? ⟨wr.heap.size, 0, none⟩ = some (.int .u8 (kids[j].kind : Int)) ∧ W.cell? ⟨wr.heap.size, 1, none⟩ = some (.string kids[j].text) ∧ W.cell? ⟨wr.heap.size, 2, none⟩ = some (.slice ka1 kids[j].keys.length kc1) ∧ W.cell? ⟨wr.heap.size, 3, none⟩ = some (.slice ba1 kids[j].kids.length bc1) ∧ W.cell? ⟨wr.heap.size, 4, none⟩ = some (.int .i64 kids[j].line))) 7 (by kernel_rfl) ⟨x3, a0, a1, a2, a3, a4⟩ (fun _ _ _ _ _ h => h) (fun Q' hQ hK' hHeld => ?_)
      refine E_take0 hQ (fun _ => hHeld) 0 (v := ?ev1) rfl rfl (by kernel_rfl) (by kernel_rfl) (by kernel_rfl) (by decide) (by rfl) ?ey1 ?er1
      case ey1 => (intro w; go_simp; (try with_reducible rfl))
      (try simp only [layE])
      refine E_take hQ hHeld 1 (v := ?ev2) rfl rfl (by kernel_rfl) (by kernel_rfl) (by kernel_rfl) (by kernel_rfl) (by kernel_rfl) (by rfl) ?ey2 ?er2
      case ey2 => (intro w hSw; (try dsimp only at hSw); go_simp; (try with_reducible rfl))
      (try simp only [layE])
      refine E_take hQ hHeld 2 (v := ?ev3) rfl rfl (by kernel_rfl) (by kernel_rfl) (by kernel_rfl) (by kernel_rfl) (by kernel_rfl) (by rfl) ?ey3 ?er3
      case ey3 => (intro w hSw; (try dsimp only at hSw); go_simp; (try with_reducible rfl))
      (try simp only [layE])
      refine E_take0 hQ (fun _ => hHeld) 3 (v := ?ev4) rfl rfl (by kernel_rfl) (by kernel_rfl) (by kernel_rfl) (by decide) (by rfl) ?ey4 ?er4
      case ey4 => (intro w; go_simp; (try with_reducible rfl))
      (try simp only [layE])
      refine E_take0 hQ (fun _ => hHeld) 4 (v := ?ev5) rfl rfl (by kernel_rfl) (by kernel_rfl) (by kernel_rfl) (by decide) (by rfl) ?ey5 ?er5
      case ey5 => (intro w; go_simp; (try with_reducible rfl))
      (try simp only [layE])
      refine E_one 5 (by kernel_rfl) rfl (by rfl) (fun K hK => ?_)
      go_simp
      refine (HIH.out _ (Below.refl _ _).drew).mono ?_
      rintro e w5 ⟨cs5, rfl, hn5, hb5⟩
      obtain ⟨ka5, kc5, ba5, bc5, rfl⟩ := hn5.cells
      have HBD := Lib.hid hb5
      have hb5 : Below wA.heap.size wA w5 := ((Below.refl _ wA).drew).trans hb5
      have hN5 := Lib.hid hn5
      have hO5 := (hb5.block _ (Array.getElem?_eq_some_iff.1 HOA.out).1).trans HOA.out
      have h6 : Below w5.heap.size w5 (w5.alloc (.cells #[.int .u8 (kids[j].kind : Int), .string kids[j].text, .slice ka5 kids[j].keys.length kc5, .slice ba5 kids[j].kids.length bc5, .int .i64 kids[j].line] 45)) := (Below.refl _ _).alloc (Nat.le_refl _) _
      have hO6 := (h6.block _ (Array.getElem?_eq_some_iff.1 hO5).1).trans hO5
      have HOW6 := Lib.hid (ownsB (ownsB HOWNA.out hb5) h6)
      have HO6 := Lib.hid hO6
      have H6 := Lib.hid h6
      have HB5 := Lib.hid hb5
      have hsz5 := hb5.size
      clear hn5 hO5 hO6 h6 hb5
      (skip)
      refine hK.out _ _ (fun _ _ => held6 hHeld HBD.out) (fun hHeld' => ?_)
      replace hHeld := hHeld' (by rfl) (by decide)
      clear hK hHeld'
      (try simp only [layE])
      refine E_one 6 (by kernel_rfl) rfl (by rfl) (fun K hK => ?_)
      go_simp
      (try simp only [layE])
      refine hK.out _ _ (fun _ _ => held6 hHeld H6.out) (fun hHeld' => ?_)
      replace hHeld := hHeld' (by rfl) (by decide)
      clear hK hHeld'
      (try simp only [layE])
      refine E_one 7 (by kernel_rfl) rfl (by rfl) (fun K hK => ?_)
      refine wp_append_lies _ (.tmp 24) (.tmp 29) 43 (by rfl) (w.heap.size + 3) 45 i0 (.agg #[.int .u8 0, .string { data := #[] }, .slice none 0 0, .slice none 0 0, .int .i64 0]) 5 80 Tryz.underlying43 hi hz0 hz1 hz2 rfl (by decide) v j rows.flatten (by rfl) HOW6.out ⟨w5.heap.size, 0, none⟩ 1 1 _ (by rfl) rfl (World.news_of_block (World.alloc_heap_new w5 _)) (by simp [Value.oneCell']) (by omega) (by unfold maxLen; omega) (by omega) (by simp; omega) _ rfl ?_
      intro g7 cap7 w7 hown7 hgrow hat hlt7
      have hO7 := (hgrow.block (w.heap.size + 1 + 1) (Array.getElem?_eq_some_iff.1 HO6.out).1 (fun e => by have := HOWN.out.lt _ e.symm; omega)).trans HO6.out
      obtain ⟨-, -, -, x7, -⟩ := cells5 hO7
      obtain ⟨-, -, -, f7, -⟩ := cells5w hO7
      (try simp only [layE])
      refine hK.out _ _ (fun _ h => absurd rfl h) (fun _ => ?_)
      clear hK hHeld
      (try simp only [layE])
      refine E_take0 hQ (fun h => absurd h (by decide)) 8 (v := ?ev6) rfl rfl (by kernel_rfl) (by kernel_rfl) (by kernel_rfl) (by decide) (by rfl) ?ey6 ?er6
      case ey6 => (intro w; go_simp; (try with_reducible rfl))
      (try simp only [layE])
      refine E_one 9 (by kernel_rfl) rfl (by rfl) (fun K hK => ?_)
      go_simp
      (try simp only [layE])
      refine hK.out _ _ (fun h => absurd h (by decide)) (fun _ => ?_)
      clear hK
      (try simp only [layE])
      refine E_done (by kernel_rfl) ?_ _
      refine hK'.out _ _ ?_
      have HST := Lib.hid (HR.out.step hA'.out HB5.out H6.out hlt hN5.out hgrow hown7 (v' := .slice (some ⟨g7, 0, none⟩) (j + 1) cap7) (by rcases hat with h | h; exact .inl (by rw [h]; rfl); exact .inr (by rw [h]; rfl)))
      clear hgrow hown7 hat x7 f7 hO7 a0 a1 a2 a3 a4 x3 f3
      go_wp2
      go_roundw
      case rel => exact ⟨j + 1, _, _, by omega, by go_num, HST⟩
      case measure => simp [intOf]; omega
    · obtain rfl : j = kids.length := by omega
      have hO := HR.out.out
      obtain ⟨x0, x1, x2, x3, x4⟩ := cells5 hO
      obtain ⟨y0, y1, y2, y3, y4⟩ := cells5 HR.out.res
      obtain ⟨f0, f1, f2, f3, f4⟩ := cells5w HR.out.res
      clear hO
      obtain ⟨va, vcap, rfl⟩ := (RdS.of_owns HR.out.own).form
      go_wp2
      have hfin := Lib.hid (HR.out.done hk8 ht63 HKS.out hln (wf := (((((wr.setCell ⟨w.heap.size + 1, 0, none⟩ (.int .u8 (k : Int))).setCell ⟨w.heap.size + 1, 1, none⟩ (.string t)).setCell ⟨w.heap.size + 1, 2, none⟩ (.slice ka' ks.length kc')).setCell ⟨w.heap.size + 1, 3, none⟩ (.slice va kids.length vcap)).setCell ⟨w.heap.size + 1, 4, none⟩ (.int .i64 ln))) (fun g hg => set5w_other hg) (by simp))
      have hset := set5w (x0 := .int .u8 (k : Int)) (x1 := .string t) (x2 := .slice ka' ks.length kc') (x3 := .slice va kids.length vcap) (x4 := .int .i64 ln) HR.out.res
      have hbf := Lib.hid (set5w_below (x0 := .int .u8 (k : Int)) (x1 := .string t) (x2 := .slice ka' ks.length kc') (x3 := .slice va kids.length vcap) (x4 := .int .i64 ln) HR.out.below (B := w.heap.size + 1) (by omega))
      clear y0 y1 y2 y3 y4 f0 f1 f2 f3 f4
      generalize ((((wr.setCell ⟨w.heap.size + 1, 0, none⟩ (.int .u8 (k : Int))).setCell ⟨w.heap.size + 1, 1, none⟩ (.string t)).setCell ⟨w.heap.size + 1, 2, none⟩ (.slice ka' ks.length kc')).setCell ⟨w.heap.size + 1, 3, none⟩ (.slice va kids.length vcap)).setCell ⟨w.heap.size + 1, 4, none⟩ (.int .i64 ln) = wf at *
      obtain ⟨y0, y1, y2, y3, y4⟩ := cells5 hset
      refine bodyPost_ret (v := .agg #[.int .u8 (k : Int), .string t, .slice ka' ks.length kc', .slice va kids.length vcap, .int .i64 ln]) (by simp [results, Tryz.results108, go_sem, y0, y1, y2, y3, y4]) rfl ⟨_, rfl, hfin.out, hbf.out⟩
end Go.Proofs.YtgfiogjfgbegpaaGreat
