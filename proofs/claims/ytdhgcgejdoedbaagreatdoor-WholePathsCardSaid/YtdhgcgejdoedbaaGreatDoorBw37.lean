/-
  block.read: contract where the tokens are a tree's.
-/
import Derived.ChangeKeysEq
import Derived.Test.YtdhgcgejdoedbaaGreatDoorBw16
import Derived.Test.YtdhgcgejdoedbaaGreatDoorBw23
import Derived.Test.YtdhgcgejdoedbaaGreatDoorBw36
namespace Go.Proofs.YtdhgcgejdoedbaaGreatDoor
open Go.RowKit Go.WideShapes

theorem set2w {W : World} {B : Nat} {a b x y : Value} {t : TypeId} (h : W.heap[B]? = some (.cells #[a, b] t (0, 0))) : ((W.setCell ⟨B, 0, none⟩ x).setCell ⟨B, 1, none⟩ y).heap[B]? = some (.cells #[x, y] t (0, 0)) := by
  simp [World.setCell, h, Array.getElem?_modify]
set_option maxRecDepth 100000 in
set_option maxHeartbeats 2000000 in
theorem read_any (x : Tree) (l : List TokD) (g off cap n c : Nat) (W : World) (hs : TokS W g off cap l) (hl : l.map erE = bkT n c x) (hgd : GoodT x) (hd : DepT 16 x) :
    Calls Tryz.prog 26 #[.slice (some ⟨g, off, none⟩) l.length cap] W fun e W' => ∃ cs x', e = .returned (.tuple #[.agg cs.toArray, .agg #[.int .i64 0, .int .i64 0]]) ∧ NodeO W' (fun g => W.heap.size ≤ g) cs x' ∧ SameK x' x ∧ Below W.heap.size W W' := by
  have hmf : ∀ (fn : Fn) (first cap : Array Value) (w : World), (Instr.makeFunc fn first cap).run Tryz.prog w = .ok (.func fn first cap) w := fun _ _ _ _ => rfl
  have hb2 : Below W.heap.size W ((W.alloc (.cells #[.int .u8 0, .string { data := #[] }, .slice none 0 0, .slice none 0 0, .int .i64 0] 25)).alloc (.cells #[.int .i64 0, .int .i64 0] 33)) := ((Below.refl _ _).alloc (Nat.le_refl _) _).alloc (by simp) _
  have hb3 : Below W.heap.size W (((W.alloc (.cells #[.int .u8 0, .string { data := #[] }, .slice none 0 0, .slice none 0 0, .int .i64 0] 25)).alloc (.cells #[.int .i64 0, .int .i64 0] 33)).alloc (.cells #[.slice (some ⟨g, off, none⟩) l.length cap, .slice (some ⟨g, off, none⟩) l.length cap] 102)) := hb2.alloc (by simp; omega) _
  have hA : (((W.alloc (.cells #[.int .u8 0, .string { data := #[] }, .slice none 0 0, .slice none 0 0, .int .i64 0] 25)).alloc (.cells #[.int .i64 0, .int .i64 0] 33)).alloc (.cells #[.slice (some ⟨g, off, none⟩) l.length cap, .slice (some ⟨g, off, none⟩) l.length cap] 102)).heap[W.heap.size]? = some (.cells #[.int .u8 0, .string { data := #[] }, .slice none 0 0, .slice none 0 0, .int .i64 0] 25 (0, 0)) := (Below.heap_alloc _ _ _ (by simp; omega)).trans ((Below.heap_alloc _ _ _ (by simp)).trans (World.alloc_heap_new W _))
  have hF : (((W.alloc (.cells #[.int .u8 0, .string { data := #[] }, .slice none 0 0, .slice none 0 0, .int .i64 0] 25)).alloc (.cells #[.int .i64 0, .int .i64 0] 33)).alloc (.cells #[.slice (some ⟨g, off, none⟩) l.length cap, .slice (some ⟨g, off, none⟩) l.length cap] 102)).heap[W.heap.size + 1]? = some (.cells #[.int .i64 0, .int .i64 0] 33 (0, 0)) := (Below.heap_alloc _ _ _ (by simp)).trans (by
    have := World.alloc_heap_new (W.alloc (.cells #[.int .u8 0, .string { data := #[] }, .slice none 0 0, .slice none 0 0, .int .i64 0] 25)) (.cells #[.int .i64 0, .int .i64 0] 33)
    rwa [World.size_alloc] at this)
  have hR : (((W.alloc (.cells #[.int .u8 0, .string { data := #[] }, .slice none 0 0, .slice none 0 0, .int .i64 0] 25)).alloc (.cells #[.int .i64 0, .int .i64 0] 33)).alloc (.cells #[.slice (some ⟨g, off, none⟩) l.length cap, .slice (some ⟨g, off, none⟩) l.length cap] 102)).heap[W.heap.size + 1 + 1]? = some (.cells #[.slice (some ⟨g, off, none⟩) l.length cap, .slice (some ⟨g, off, none⟩) l.length cap] 102 (0, 0)) := by
    have := World.alloc_heap_new ((W.alloc (.cells #[.int .u8 0, .string { data := #[] }, .slice none 0 0, .slice none 0 0, .int .i64 0] 25)).alloc (.cells #[.int .i64 0, .int .i64 0] 33)) (.cells #[.slice (some ⟨g, off, none⟩) l.length cap, .slice (some ⟨g, off, none⟩) l.length cap] 102)
    rwa [World.size_alloc, World.size_alloc] at this
  have HR3 := Lib.hid (show RdR W (W.heap.size + 1 + 1) g off cap l 0 _ from ⟨by
    have e1 : lvA g off cap 0 = some ⟨g, off, none⟩ := by unfold lvA; rw [Nat.zero_min, Nat.zero_mul, Nat.add_zero]
    rw [e1, Nat.sub_zero, Nat.sub_zero]; exact hR, by omega, hb3, Nat.zero_le _, hs⟩)
  have HV := Lib.hid (value_any (w0 := W) (R := W.heap.size + 1 + 1) (g := g) (off := off) (cap := cap) (l := l) x n c 0 1 _ [] HR3.out (by rw [List.drop_zero, List.append_nil]; exact hl) (.inr (fun t r e => by cases e)) hgd ⟨16, hd, by decide⟩)
  have hll : (bkT n c x).length = l.length := by rw [← hl, List.length_map]
  rw [hll, Nat.zero_add] at HV
  have HA := Lib.hid hA
  have HF := Lib.hid hF
  have HB := Lib.hid hb3
  have hsz3 : (((W.alloc (.cells #[.int .u8 0, .string { data := #[] }, .slice none 0 0, .slice none 0 0, .int .i64 0] 25)).alloc (.cells #[.int .i64 0, .int .i64 0] 33)).alloc (.cells #[.slice (some ⟨g, off, none⟩) l.length cap, .slice (some ⟨g, off, none⟩) l.length cap] 102)).heap.size = W.heap.size + 3 := by simp
  have HSZ := Lib.hid hsz3
  clear hb2 hb3 hA hF hR hll hs hl hgd hd hsz3
  go_enter_defers Tryz.func26, Tryz.ntmps26
  go_wp2_with fail
  generalize (((W.alloc (.cells #[.int .u8 0, .string { data := #[] }, .slice none 0 0, .slice none 0 0, .int .i64 0] 25)).alloc (.cells #[.int .i64 0, .int .i64 0] 33)).alloc (.cells #[.slice (some ⟨g, off, none⟩) l.length cap, .slice (some ⟨g, off, none⟩) l.length cap] 102)) = W3 at *
  refine HV.out.mono ?_
  rintro e W4 ⟨cs, x', rfl, hn4, hs4, hr4, ho4⟩
  obtain ⟨ka, kc, ba, bc, rfl⟩ := hn4.cells
  have hA4 := (ho4.same _ (Array.getElem?_eq_some_iff.1 HA.out).1 (by omega)).trans HA.out
  have hF4 := (ho4.same _ (Array.getElem?_eq_some_iff.1 HF.out).1 (by omega)).trans HF.out
  obtain ⟨-, r1, -⟩ := hr4.cells
  rw [Nat.sub_self] at r1
  obtain ⟨q0, q1, q2, q3, q4⟩ := cells5 hA4
  obtain ⟨f0, f1, f2, f3, f4⟩ := cells5w hA4
  obtain ⟨u0, u1, v0, v1⟩ := cells2 hF4
  have HA5 := Lib.hid (set5w (x0 := .int .u8 (x'.kind : Int)) (x1 := .string x'.text) (x2 := .slice ka x'.keys.length kc) (x3 := .slice ba x'.kids.length bc) (x4 := .int .i64 x'.line) hA4)
  have HS5 := Lib.hid (fun k (hk : k ≠ W.heap.size) => set5w_other (x0 := .int .u8 (x'.kind : Int)) (x1 := .string x'.text) (x2 := .slice ka x'.keys.length kc) (x3 := .slice ba x'.kids.length bc) (x4 := .int .i64 x'.line) (W := W4) (B := W.heap.size) (k := k) hk)
  have HB5 := Lib.hid (set5w_below (x0 := .int .u8 (x'.kind : Int)) (x1 := .string x'.text) (x2 := .slice ka x'.keys.length kc) (x3 := .slice ba x'.kids.length bc) (x4 := .int .i64 x'.line) (HB.out.trans (ho4.b.mono (show W.heap.size ≤ W.heap.size + 1 + 1 by omega))) (B := W.heap.size) (Nat.le_refl _))
  have HN4 := Lib.hid hn4
  have HSM := Lib.hid hs4
  have HF4 := Lib.hid hF4
  have HZ4 := Lib.hid (show W.heap.size + 3 ≤ W3.heap.size ∧ W3.heap.size ≤ W4.heap.size from ⟨by have := HSZ.out; omega, ho4.size⟩)
  unfold lvA at r1
  clear hn4 hs4 hr4 ho4 hA4 hF4
  go_upto_region 6 with fail
  clear q0 q1 q2 q3 q4 f0 f1 f2 f3 f4 u0 u1 v0 v1 r1
  have HF5 := Lib.hid ((HS5.out (W.heap.size + 1) (by omega)).trans HF4.out)
  have HO5 := Lib.hid (fun i (hi : i ≠ W.heap.size) => HS5.out i hi)
  generalize ((((W4.setCell ⟨W.heap.size, 0, none⟩ (.int .u8 (x'.kind : Int))).setCell ⟨W.heap.size, 1, none⟩ (.string x'.text)).setCell ⟨W.heap.size, 2, none⟩ (.slice ka x'.keys.length kc)).setCell ⟨W.heap.size, 3, none⟩ (.slice ba x'.kids.length bc)).setCell ⟨W.heap.size, 4, none⟩ (.int .i64 x'.line) = W5 at *
  obtain ⟨a0, a1, a2, a3, a4⟩ := cells5 HA5.out
  obtain ⟨f0, f1, f2, f3, f4⟩ := cells5w HA5.out
  obtain ⟨b0, b1, g0, g1⟩ := cells2 HF5.out
  have HA6 := HA5
  have HF6 := HF5
  have hA6 := set5w (x0 := .int .u8 (x'.kind : Int)) (x1 := .string x'.text) (x2 := .slice ka x'.keys.length kc) (x3 := .slice ba x'.kids.length bc) (x4 := .int .i64 x'.line) HA5.out
  have hF6 := (set5w_other (x0 := .int .u8 (x'.kind : Int)) (x1 := .string x'.text) (x2 := .slice ka x'.keys.length kc) (x3 := .slice ba x'.kids.length bc) (x4 := .int .i64 x'.line) (W := W5) (B := W.heap.size) (k := W.heap.size + 1) (by omega)).trans HF5.out
  have HO6 := Lib.hid (fun k (hk : k ≠ W.heap.size) => set5w_other (x0 := .int .u8 (x'.kind : Int)) (x1 := .string x'.text) (x2 := .slice ka x'.keys.length kc) (x3 := .slice ba x'.kids.length bc) (x4 := .int .i64 x'.line) (W := W5) (B := W.heap.size) (k := k) hk)
  have HB6 := Lib.hid (set5w_below (x0 := .int .u8 (x'.kind : Int)) (x1 := .string x'.text) (x2 := .slice ka x'.keys.length kc) (x3 := .slice ba x'.kids.length bc) (x4 := .int .i64 x'.line) HB5.out (B := W.heap.size) (Nat.le_refl _))
  have HA7 := Lib.hid (((Below.heap_setCell _ ⟨W.heap.size + 1, 1, none⟩ (.int .i64 0) W.heap.size (by show W.heap.size ≠ W.heap.size + 1; omega)).trans (Below.heap_setCell (((((W5.setCell ⟨W.heap.size, 0, none⟩ (.int .u8 (x'.kind : Int))).setCell ⟨W.heap.size, 1, none⟩ (.string x'.text)).setCell ⟨W.heap.size, 2, none⟩ (.slice ka x'.keys.length kc)).setCell ⟨W.heap.size, 3, none⟩ (.slice ba x'.kids.length bc)).setCell ⟨W.heap.size, 4, none⟩ (.int .i64 x'.line)) ⟨W.heap.size + 1, 0, none⟩ (.int .i64 0) W.heap.size (by show W.heap.size ≠ W.heap.size + 1; omega))).trans hA6)
  have HF7 := Lib.hid (set2w (x := .int .i64 0) (y := .int .i64 0) hF6)
  have HO7 := Lib.hid (fun k (hk : k ≠ W.heap.size) (hk2 : k ≠ W.heap.size + 1) => ((Below.heap_setCell _ ⟨W.heap.size + 1, 1, none⟩ (.int .i64 0) k hk2).trans (Below.heap_setCell (((((W5.setCell ⟨W.heap.size, 0, none⟩ (.int .u8 (x'.kind : Int))).setCell ⟨W.heap.size, 1, none⟩ (.string x'.text)).setCell ⟨W.heap.size, 2, none⟩ (.slice ka x'.keys.length kc)).setCell ⟨W.heap.size, 3, none⟩ (.slice ba x'.kids.length bc)).setCell ⟨W.heap.size, 4, none⟩ (.int .i64 x'.line)) ⟨W.heap.size + 1, 0, none⟩ (.int .i64 0) k hk2)).trans (HO6.out k hk))
  have HB7 := Lib.hid (((HB6.out.setCell (p := ⟨W.heap.size + 1, 0, none⟩) (by show W.heap.size ≤ W.heap.size + 1; omega) (.int .i64 0)).setCell (p := ⟨W.heap.size + 1, 1, none⟩) (by show W.heap.size ≤ W.heap.size + 1; omega) (.int .i64 0)).drew)
  clear hA6 hF6 HO6 HB6
  go_region
  clear a0 a1 a2 a3 a4 b0 b1 f0 f1 f2 f3 f4 g0 g1
  generalize ((((((W5.setCell ⟨W.heap.size, 0, none⟩ (.int .u8 (x'.kind : Int))).setCell ⟨W.heap.size, 1, none⟩ (.string x'.text)).setCell ⟨W.heap.size, 2, none⟩ (.slice ka x'.keys.length kc)).setCell ⟨W.heap.size, 3, none⟩ (.slice ba x'.kids.length bc)).setCell ⟨W.heap.size, 4, none⟩ (.int .i64 x'.line)).setCell ⟨W.heap.size + 1, 0, none⟩ (.int .i64 0)).setCell ⟨W.heap.size + 1, 1, none⟩ (.int .i64 0) = W7 at *
  have HA8 := Lib.hid (show W7.drew.heap[W.heap.size]? = some (.cells #[.int .u8 (x'.kind : Int), .string x'.text, .slice ka x'.keys.length kc, .slice ba x'.kids.length bc, .int .i64 x'.line] 25 (0, 0)) from HA7.out)
  have HF8 := Lib.hid (show W7.drew.heap[W.heap.size + 1]? = some (.cells #[.int .i64 0, .int .i64 0] 33 (0, 0)) from HF7.out)
  have HO8 := Lib.hid (show ∀ k, k ≠ W.heap.size → k ≠ W.heap.size + 1 → W7.drew.heap[k]? = W5.heap[k]? from HO7.out)
  clear HA7 HF7 HO7
  generalize W7.drew = W8 at *
  go_wp2_with fail
  refine leaves_cons (f := 47) (args := #[.pointer (some ⟨W.heap.size, 0, none⟩), .pointer (some ⟨W.heap.size + 1, 0, none⟩)]) (by simp) (by simp [go_sem]) ?_
  refine (read_idle ⟨W.heap.size, 0, none⟩ ⟨W.heap.size + 1, 0, none⟩ W8).mono ?_
  rintro e u' W9 ⟨rfl, rfl, hb9⟩
  have hA9 := (hb9.block _ (Array.getElem?_eq_some_iff.1 HA8.out).1).trans HA8.out
  have hF9 := (hb9.block _ (Array.getElem?_eq_some_iff.1 HF8.out).1).trans HF8.out
  obtain ⟨y0, y1, y2, y3, y4⟩ := cells5 hA9
  obtain ⟨y5, y6, -, -⟩ := cells2 hF9
  have HNF : NodeO W9 (fun g => W.heap.size ≤ g) [.int .u8 (x'.kind : Int), .string x'.text, .slice ka x'.keys.length kc, .slice ba x'.kids.length bc, .int .i64 x'.line] x' := by
    have h1 := HZ4.out
    have h2 := hb9.size
    exact HN4.out.keep (w' := W9) (Q := fun g => W.heap.size ≤ g) (fun g hP hl => by
      have h3 := hP.1
      have hl5 : g < W8.heap.size := by
        have e5 := HO5.out g (by omega)
        have e8 := HO8.out g (by omega) (by omega)
        have hw5 : g < W5.heap.size := (Array.getElem?_eq_some_iff.1 (e5.trans (Array.getElem?_eq_getElem hl))).1
        exact (Array.getElem?_eq_some_iff.1 (e8.trans (Array.getElem?_eq_getElem hw5))).1
      exact (hb9.block g hl5).trans ((HO8.out g (by omega) (by omega)).trans (HO5.out g (by omega)))) (fun g hP => by have := hP.1; omega)
  have HBF := HB7.out.trans (hb9.mono HB7.out.size)
  simp only [settle]
  exact ⟨.tuple #[.agg #[.int .u8 (x'.kind : Int), .string x'.text, .slice ka x'.keys.length kc, .slice ba x'.kids.length bc, .int .i64 x'.line], .agg #[.int .i64 0, .int .i64 0]], by simp [results, Tryz.results26, go_sem, y0, y1, y2, y3, y4, y5, y6], _, x', rfl, HNF, HSM.out, HBF⟩
end Go.Proofs.YtdhgcgejdoedbaaGreatDoor

/-
  block.Parse: contract where the tokens are a tree's.
-/
namespace Go.Proofs.YtdhgcgejdoedbaaGreatDoor
open Go.RowKit Go.WideShapes

theorem bkT_ne (n c : Nat) (x : Tree) : bkT n c x ≠ [] := by
  obtain ⟨k, t, ks, kids, l⟩ := x
  cases kids with
  | nil => rw [bkT]; simp
  | cons y m => rw [bkT, if_neg (by simp)]; split <;> simp [bkS, bkM]
theorem toks_of {w : World} {v : Value} {l : List TokD} (h : RdS w v 4 l.length (l.flatMap tokC)) (hne : l ≠ []) (hlen : l.length ≤ 1000000) (hln : ∀ t ∈ l.map erE, t.2.2.1 ≤ 1000000000) : ∃ g off cap, v = .slice (some ⟨g, off, none⟩) l.length cap ∧ TokS w g off cap l := by
  rcases h.cases (by decide) with ⟨h0, _⟩ | ⟨_, _, g, off, cap, rfl, h1, h2, h3⟩
  · exact absurd (List.length_eq_zero_iff.1 h0) hne
  · exact ⟨g, off, cap, rfl, h1, h2, hlen, hln, fun j u hj => h3 j u hj⟩
set_option maxRecDepth 100000 in
set_option maxHeartbeats 2000000 in
theorem parse_any (s : ByteArray) (ls : List (Nat × BodyD)) (x : Tree) (n c : Nat) (W : World) (hs : FineT s) (hl : allN 1 (linesN (bsN s)) = linD 1 ls) (hok : OkAll ls) (hb : (tokF ls).map erE = bkT n c x) (hlen : (tokF ls).length ≤ 1000000) (hln : ∀ t ∈ (tokF ls).map erE, t.2.2.1 ≤ 1000000000) (hgd : GoodT x) (hd : DepT 16 x) :
    Calls Tryz.prog 12 #[.string s] W fun e W' => ∃ cs x', e = .returned (.tuple #[.agg cs.toArray, .agg #[.int .i64 0, .int .i64 0]]) ∧ NodeR W' cs x' ∧ SameK x' x ∧ Below W.heap.size W W' := by
  have hb2 : Below W.heap.size W ((W.alloc (.cells #[.int .u8 0, .string { data := #[] }, .slice none 0 0, .slice none 0 0, .int .i64 0] 25)).alloc (.cells #[.int .i64 0, .int .i64 0] 33)) := ((Below.refl _ _).alloc (Nat.le_refl _) _).alloc (by simp) _
  have hA : ((W.alloc (.cells #[.int .u8 0, .string { data := #[] }, .slice none 0 0, .slice none 0 0, .int .i64 0] 25)).alloc (.cells #[.int .i64 0, .int .i64 0] 33)).heap[W.heap.size]? = some (.cells #[.int .u8 0, .string { data := #[] }, .slice none 0 0, .slice none 0 0, .int .i64 0] 25 (0, 0)) := (Below.heap_alloc _ _ _ (by simp)).trans (World.alloc_heap_new W _)
  have hF : ((W.alloc (.cells #[.int .u8 0, .string { data := #[] }, .slice none 0 0, .slice none 0 0, .int .i64 0] 25)).alloc (.cells #[.int .i64 0, .int .i64 0] 33)).heap[W.heap.size + 1]? = some (.cells #[.int .i64 0, .int .i64 0] 33 (0, 0)) := by
    have := World.alloc_heap_new (W.alloc (.cells #[.int .u8 0, .string { data := #[] }, .slice none 0 0, .slice none 0 0, .int .i64 0] 25)) (.cells #[.int .i64 0, .int .i64 0] 33)
    rwa [World.size_alloc] at this
  have HTA := Lib.hid (fun w => tkAll_any s ls w hs hl hok)
  have hne : tokF ls ≠ [] := fun e => bkT_ne n c x (by rw [← hb, e]; rfl)
  generalize tokF ls = l at *
  have HA := Lib.hid hA
  have HF := Lib.hid hF
  have HB := Lib.hid hb2
  have HX := Lib.hid (And.intro hb (And.intro hgd hd))
  have HNE := Lib.hid hne
  have HLN := Lib.hid hln
  have hl0 : l.length ≠ 0 := fun e => hne (List.length_eq_zero_iff.1 e)
  have d0 : ((l.length : Int) == 0) = false := beq_eq_false_iff_ne.2 (by omega)
  clear hs hl hok hb hln hgd hd hb2 hA hF hne
  go_enter Tryz.func12, Tryz.ntmps12
  go_wp2_with fail
  generalize ((W.alloc (.cells #[.int .u8 0, .string { data := #[] }, .slice none 0 0, .slice none 0 0, .int .i64 0] 25)).alloc (.cells #[.int .i64 0, .int .i64 0] 33)) = W2 at *
  refine (HTA.out W2).mono ?_
  rintro e W3 ⟨v, rfl, hown, hb3⟩
  obtain ⟨g, off, cap, rfl, hts⟩ := toks_of (RdS.of_owns hown) HNE.out hlen HLN.out
  have hA3 := (hb3.block _ (Array.getElem?_eq_some_iff.1 HA.out).1).trans HA.out
  have hF3 := (hb3.block _ (Array.getElem?_eq_some_iff.1 HF.out).1).trans HF.out
  have hb4 := (Below.refl W3.heap.size W3).alloc (Nat.le_refl _) (.cells #[.int .i64 0, .int .i64 0] 33)
  have HA4 := Lib.hid ((hb4.block _ (Array.getElem?_eq_some_iff.1 hA3).1).trans hA3)
  have HF4 := Lib.hid ((hb4.block _ (Array.getElem?_eq_some_iff.1 hF3).1).trans hF3)
  have HB4 := Lib.hid ((HB.out.trans (hb3.mono HB.out.size)).trans (hb4.mono (Nat.le_trans HB.out.size hb3.size)))
  obtain ⟨x0, x1, -, -⟩ := cells2 (World.alloc_heap_new W3 (.cells #[.int .i64 0, .int .i64 0] 33))
  have HTS := Lib.hid (show TokS (W3.alloc (.cells #[.int .i64 0, .int .i64 0] 33)) g off cap l from ⟨hts.n, hts.c, hts.len, hts.ln, fun j u hj => cellB hb4 (hts.at_ j u hj)⟩)
  clear hown hb3 hts hA3 hF3 hb4
  go_upto_region 4 with fail
  generalize W3.alloc (.cells #[.int .i64 0, .int .i64 0] 33) = W4 at *
  clear x0 x1
  have HRD := Lib.hid (read_any x l g off cap n c W4 HTS.out HX.out.1 HX.out.2.1 HX.out.2.2)
  go_wp2_with fail
  refine HRD.out.mono ?_
  rintro e W5 ⟨cs, x', rfl, hn5, hs5, hb5⟩
  obtain ⟨ka, kc, ba, bc, rfl⟩ := hn5.cells
  have hA5 := (hb5.block _ (Array.getElem?_eq_some_iff.1 HA4.out).1).trans HA4.out
  have hF5 := (hb5.block _ (Array.getElem?_eq_some_iff.1 HF4.out).1).trans HF4.out
  have hSZ : W.heap.size + 1 < W4.heap.size := (Array.getElem?_eq_some_iff.1 HF4.out).1
  obtain ⟨a0, a1, a2, a3, a4⟩ := cells5 hA5
  obtain ⟨f0, f1, f2, f3, f4⟩ := cells5w hA5
  obtain ⟨b0, b1, g0, g1⟩ := cells2 hF5
  have hA6 := set5w (x0 := .int .u8 (x'.kind : Int)) (x1 := .string x'.text) (x2 := .slice ka x'.keys.length kc) (x3 := .slice ba x'.kids.length bc) (x4 := .int .i64 x'.line) hA5
  have hF6 := (set5w_other (x0 := .int .u8 (x'.kind : Int)) (x1 := .string x'.text) (x2 := .slice ka x'.keys.length kc) (x3 := .slice ba x'.kids.length bc) (x4 := .int .i64 x'.line) (W := W5) (B := W.heap.size) (k := W.heap.size + 1) (by omega)).trans hF5
  have HO6 := Lib.hid (fun k (hk : k ≠ W.heap.size) => set5w_other (x0 := .int .u8 (x'.kind : Int)) (x1 := .string x'.text) (x2 := .slice ka x'.keys.length kc) (x3 := .slice ba x'.kids.length bc) (x4 := .int .i64 x'.line) (W := W5) (B := W.heap.size) (k := k) hk)
  have HB6 := Lib.hid (set5w_below (x0 := .int .u8 (x'.kind : Int)) (x1 := .string x'.text) (x2 := .slice ka x'.keys.length kc) (x3 := .slice ba x'.kids.length bc) (x4 := .int .i64 x'.line) (HB4.out.trans (hb5.mono (by omega))) (B := W.heap.size) (Nat.le_refl _))
  have HA7 := Lib.hid (((Below.heap_setCell _ ⟨W.heap.size + 1, 1, none⟩ (.int .i64 0) W.heap.size (by show W.heap.size ≠ W.heap.size + 1; omega)).trans (Below.heap_setCell (((((W5.setCell ⟨W.heap.size, 0, none⟩ (.int .u8 (x'.kind : Int))).setCell ⟨W.heap.size, 1, none⟩ (.string x'.text)).setCell ⟨W.heap.size, 2, none⟩ (.slice ka x'.keys.length kc)).setCell ⟨W.heap.size, 3, none⟩ (.slice ba x'.kids.length bc)).setCell ⟨W.heap.size, 4, none⟩ (.int .i64 x'.line)) ⟨W.heap.size + 1, 0, none⟩ (.int .i64 0) W.heap.size (by show W.heap.size ≠ W.heap.size + 1; omega))).trans hA6)
  have HF7 := Lib.hid (set2w (x := .int .i64 0) (y := .int .i64 0) hF6)
  have HO7 := Lib.hid (fun k (hk : k ≠ W.heap.size) (hk2 : k ≠ W.heap.size + 1) => ((Below.heap_setCell _ ⟨W.heap.size + 1, 1, none⟩ (.int .i64 0) k hk2).trans (Below.heap_setCell (((((W5.setCell ⟨W.heap.size, 0, none⟩ (.int .u8 (x'.kind : Int))).setCell ⟨W.heap.size, 1, none⟩ (.string x'.text)).setCell ⟨W.heap.size, 2, none⟩ (.slice ka x'.keys.length kc)).setCell ⟨W.heap.size, 3, none⟩ (.slice ba x'.kids.length bc)).setCell ⟨W.heap.size, 4, none⟩ (.int .i64 x'.line)) ⟨W.heap.size + 1, 0, none⟩ (.int .i64 0) k hk2)).trans (HO6.out k hk))
  have HB7 := Lib.hid ((HB6.out.setCell (p := ⟨W.heap.size + 1, 0, none⟩) (by show W.heap.size ≤ W.heap.size + 1; omega) (.int .i64 0)).setCell (p := ⟨W.heap.size + 1, 1, none⟩) (by show W.heap.size ≤ W.heap.size + 1; omega) (.int .i64 0))
  have HN5 := Lib.hid hn5
  have HSM := Lib.hid hs5
  clear hA6 hF6 HO6 HB6 hA5 hF5 hn5 hs5 hb5
  go_wp2_with fail
  clear a0 a1 a2 a3 a4 b0 b1 f0 f1 f2 f3 f4 g0 g1
  generalize ((((((W5.setCell ⟨W.heap.size, 0, none⟩ (.int .u8 (x'.kind : Int))).setCell ⟨W.heap.size, 1, none⟩ (.string x'.text)).setCell ⟨W.heap.size, 2, none⟩ (.slice ka x'.keys.length kc)).setCell ⟨W.heap.size, 3, none⟩ (.slice ba x'.kids.length bc)).setCell ⟨W.heap.size, 4, none⟩ (.int .i64 x'.line)).setCell ⟨W.heap.size + 1, 0, none⟩ (.int .i64 0)).setCell ⟨W.heap.size + 1, 1, none⟩ (.int .i64 0) = W7 at *
  obtain ⟨y0, y1, y2, y3, y4⟩ := cells5 HA7.out
  obtain ⟨y5, y6, -, -⟩ := cells2 HF7.out
  refine bodyPost_ret (v := .tuple #[.agg #[.int .u8 (x'.kind : Int), .string x'.text, .slice ka x'.keys.length kc, .slice ba x'.kids.length bc, .int .i64 x'.line], .agg #[.int .i64 0, .int .i64 0]]) (by simp [results, Tryz.results12, go_sem, y0, y1, y2, y3, y4, y5, y6]) rfl ⟨_, x', rfl, ?_, HSM.out, HB7.out⟩
  exact (HN5.out.keep (w' := W7) (Q := fun _ => True) (fun g hP hl => HO7.out g (by have : W4.heap.size ≤ g := hP; omega) (by have : W4.heap.size ≤ g := hP; omega)) (fun _ _ => trivial)).toR
end Go.Proofs.YtdhgcgejdoedbaaGreatDoor

/-
  rescripttop.awakeTree.
-/
namespace Go.Proofs.YtdhgcgejdoedbaaGreatDoor
open Go.RowKit Go.WideShapes

def awt : ByteArray := { data := #[97, 58, 32, 91, 93, 10, 98, 58, 32, 99] }
def awX : Tree := .mk 3 { data := #[] } [{ data := #[97] }, { data := #[98] }] [.mk 2 { data := #[] } [] [] 0, .mk 1 { data := #[99] } [] [] 0] 0
theorem awt_fine : FineT awt := ⟨by decide, Utf.ascii (by decide +kernel), by decide +kernel⟩
theorem awt_all : allN 1 (linesN (bsN awt)) = linD 1 (blkT awX) := by decide +kernel
theorem ok_asc {s : ByteArray} (h : s.size ≤ 64 ∧ ∀ c ∈ bsN s, c < 128) : OkT s ∧ s.size ≤ 64 := ⟨⟨by have := h.1; omega, Utf.ascii h.2⟩, h.1⟩
theorem awX_good : GoodT awX := by
  have h0 : ∀ c ∈ bsN { data := #[] }, c < 128 := by decide
  refine .mk (by decide) (ok_asc ⟨by decide, h0⟩).1 ?_ (by decide) (by decide) (fun _ => rfl) (by decide) (fun _ => rfl) ?_
  · intro s hs
    simp only [List.mem_cons, List.not_mem_nil, or_false] at hs
    rcases hs with rfl | rfl
    · exact ok_asc ⟨by decide, by decide +kernel⟩
    · exact ok_asc ⟨by decide, by decide +kernel⟩
  · intro x hx
    simp only [List.mem_cons, List.not_mem_nil, or_false] at hx
    rcases hx with rfl | rfl
    · exact .mk (by decide) (ok_asc ⟨by decide, h0⟩).1 (fun s hs => by cases hs) List.nodup_nil (by decide) (fun _ => rfl) (fun _ => rfl) (by decide) (fun x hx => by cases hx)
    · exact .mk (by decide) (ok_asc ⟨by decide, by decide +kernel⟩).1 (fun s hs => by cases hs) List.nodup_nil (fun _ => ⟨rfl, rfl⟩) (fun h => absurd rfl h) (fun _ => rfl) (by decide) (fun x hx => by cases hx)
theorem awX_dep : DepT 16 awX := .mk fun x hx => by
  simp only [List.mem_cons, List.not_mem_nil, or_false] at hx
  rcases hx with rfl | rfl
  · exact .mk fun x hx => by cases hx
  · exact .mk fun x hx => by cases hx
theorem awX_ok : OkAll (blkT awX) := okAll_blk awX awX_dep (by decide +kernel) (by decide +kernel) (blkT_ok awX_good)
theorem awX_tok : (tokF (blkT awX)).map erE = bkT 1 0 awX := tokF_blk awX awX_dep (by decide +kernel)
theorem awX_len : (tokF (blkT awX)).length = 4 := by
  rw [← List.length_map (f := erE), awX_tok]; decide +kernel
theorem sameK_kids {a b : Tree} (h : SameK a b) : a.kids.length = b.kids.length := by
  obtain ⟨k, t, ks, kids, l⟩ := a
  obtain ⟨k', t', ks', kids', l'⟩ := b
  unfold SameK at h
  simp only [sameT, Bool.and_eq_true] at h
  exact sameTs_len h.2
theorem eq_fault (w : World) : (binOp .eql 33 (.agg #[.int .i64 0, .int .i64 0]) (.agg #[.int .i64 0, .int .i64 0])).run Tryz.prog w = .ok (.bool true) w := by kernel_rfl
set_option maxRecDepth 100000 in
set_option maxHeartbeats 1000000 in
theorem awakeTree_any (w : World) :
    Calls Tryz.prog 5 #[] w fun e w' => e = .returned (.bool true) ∧ Below w.heap.size w w' := by
  have HA := Lib.hid (fun w => tkAll_any awt (blkT awX) w awt_fine awt_all awX_ok)
  have HP := Lib.hid (fun w => parse_any awt (blkT awX) awX 1 0 w awt_fine awt_all awX_ok awX_tok (by rw [awX_len]; decide) (by rw [awX_tok]; decide +kernel) awX_good awX_dep)
  have HB0 := Lib.hid (Below.refl w.heap.size w)
  have HK2 : Hid (awX.kids.length = 2) := Lib.hid rfl
  go_enter Tryz.func5, Tryz.ntmps5
  go_wp2_with fail
  refine (HA.out _).mono ?_
  rintro e w1 ⟨v, rfl, ho, hb1⟩
  obtain ⟨va, vc, rfl⟩ := (RdS.of_owns ho).form
  rw [awX_len]
  have hb2 := (Below.refl w1.heap.size w1).alloc (Nat.le_refl _) (.cells #[.int .i64 0, .int .i64 0] 33)
  have HF2 := Lib.hid (World.alloc_heap_new w1 (.cells #[.int .i64 0, .int .i64 0] 33))
  have HB2 := Lib.hid (hb1.trans (hb2.mono hb1.size))
  clear ho hb1 hb2
  go_upto_region 2 with fail
  generalize w1.alloc (.cells #[.int .i64 0, .int .i64 0] 33) = w2 at *
  go_wp2_with fail
  refine (HP.out w2).mono ?_
  rintro e w3 ⟨cs, x', rfl, hn3, hs3, hb3⟩
  obtain ⟨ka, kc, ba, bc, rfl⟩ := hn3.cells
  have hkl : x'.kids.length = 2 := (sameK_kids hs3).trans HK2.out
  rw [hkl]
  have hlt2 : w1.heap.size < w2.heap.size := (Array.getElem?_eq_some_iff.1 HF2.out).1
  have hF3 := (hb3.block _ hlt2).trans HF2.out
  have hlt3 : w1.heap.size < w3.heap.size := (Array.getElem?_eq_some_iff.1 hF3).1
  have hb4 := ((Below.refl w3.heap.size w3).alloc (Nat.le_refl _) (.cells #[.int .u8 (x'.kind : Int), .string x'.text, .slice ka x'.keys.length kc, .slice ba 2 bc, .int .i64 x'.line] 25)).alloc (o := (.cells #[.int .i64 0, .int .i64 0] 33)) (by simp)
  have hF4 := (hb4.block _ hlt3).trans hF3
  have hN4 : ((w3.alloc (.cells #[.int .u8 (x'.kind : Int), .string x'.text, .slice ka x'.keys.length kc, .slice ba 2 bc, .int .i64 x'.line] 25)).alloc (.cells #[.int .i64 0, .int .i64 0] 33)).heap[w3.heap.size]? = _ := (Below.heap_alloc _ _ _ (by simp)).trans (World.alloc_heap_new w3 (.cells #[.int .u8 (x'.kind : Int), .string x'.text, .slice ka x'.keys.length kc, .slice ba 2 bc, .int .i64 x'.line] 25))
  have hG4 : ((w3.alloc (.cells #[.int .u8 (x'.kind : Int), .string x'.text, .slice ka x'.keys.length kc, .slice ba 2 bc, .int .i64 x'.line] 25)).alloc (.cells #[.int .i64 0, .int .i64 0] 33)).heap[w3.heap.size + 1]? = some (.cells #[.int .i64 0, .int .i64 0] 33 (0, 0)) := by
    have := World.alloc_heap_new (w3.alloc (.cells #[.int .u8 (x'.kind : Int), .string x'.text, .slice ka x'.keys.length kc, .slice ba 2 bc, .int .i64 x'.line] 25)) (.cells #[.int .i64 0, .int .i64 0] 33)
    rwa [World.size_alloc] at this
  have HB4 := Lib.hid ((HB2.out.trans (hb3.mono HB2.out.size)).trans (hb4.mono (Nat.le_trans HB2.out.size hb3.size)))
  obtain ⟨p0, p1, -, -⟩ := cells2 hF4
  obtain ⟨q0, q1, q2, q3, q4⟩ := cells5 hN4
  obtain ⟨r0, r1, -, -⟩ := cells2 hG4
  have he := eq_fault
  clear hn3 hs3 hb3 hkl hF3 hb4 hF4 hN4 hG4 hlt2 hlt3
  go_wp2_with fail
  go_ret
  exact ⟨rfl, HB4.out⟩
end Go.Proofs.YtdhgcgejdoedbaaGreatDoor

/-
  A printed tree's text: what its tokens are (plain; no program).
-/
namespace Go.Proofs.YtdhgcgejdoedbaaGreatDoor
open Go.RowKit Go.WideShapes

theorem bk_line : ∀ (x : Tree) (n c : Nat), ∀ t ∈ bkT n c x, t.2.2.1 ≤ n + (tlT c x).length := by
  refine Tree.ind fun k t ks kids l ih n c u hu => ?_
  rw [bkT] at hu
  split at hu
  · rw [List.mem_singleton] at hu
    rw [hu]
    show n ≤ _
    omega
  · have hS : ∀ (m : List Tree), (∀ y ∈ m, y ∈ kids) → ∀ n, ∀ u ∈ bkS n c m, u.2.2.1 ≤ n + (tlS c m).length := by
      intro m hm
      induction m with
      | nil => intro n u hu; simp [bkS] at hu
      | cons y m ihm =>
        intro n u hu
        rw [bkS] at hu
        rw [tlS, List.length_append, List.length_append]
        rcases List.mem_cons.1 hu with rfl | hu
        · show n ≤ _; omega
        · rcases List.mem_cons.1 hu with rfl | hu
          · show 0 ≤ _; omega
          · rcases List.mem_append.1 hu with hu | hu
            · have := ih y (hm y (by simp)) n (c + 2) u hu; omega
            · rcases List.mem_cons.1 hu with rfl | hu
              · show 0 ≤ _; omega
              · have h1 := ihm (fun y hy => hm y (by simp [hy])) _ u hu
                cases m with
                | nil => simp [bkS] at hu
                | cons z m => simp only [nxS, List.length_singleton]; omega
    have hM : ∀ (m : List Tree), (∀ y ∈ m, y ∈ kids) → ∀ n qs, ∀ u ∈ bkM n c qs m, u.2.2.1 ≤ n + (tlM c qs m).length := by
      intro m hm
      induction m with
      | nil => intro n qs u hu; simp [bkM] at hu
      | cons y m ihm =>
        intro n qs u hu
        rw [bkM] at hu
        rw [tlM, List.length_append, List.length_append]
        rcases List.mem_cons.1 hu with rfl | hu
        · show n ≤ _; omega
        · rcases List.mem_append.1 hu with hu | hu
          · split at hu
            · rw [List.mem_singleton] at hu
              rw [hu]
              show n ≤ _; omega
            · rename_i he
              rw [if_neg he]
              rcases List.mem_cons.1 hu with rfl | hu
              · show 0 ≤ _; omega
              · rcases List.mem_append.1 hu with hu | hu
                · have := ih y (hm y (by simp)) (n + 1) (c + 2) u hu
                  simp only [List.length_cons]; omega
                · rw [List.mem_singleton] at hu
                  rw [hu]
                  show 0 ≤ _; omega
          · have h1 := ihm (fun y hy => hm y (by simp [hy])) _ _ u hu
            cases m with
            | nil => simp [bkM] at hu
            | cons z m =>
              simp only [nxM, List.length_singleton]
              split at h1
              · rename_i he; rw [if_pos he]; simp only [List.length_nil]; omega
              · rename_i he; rw [if_neg he]; simp only [List.length_cons]; omega
    rw [tlT]
    split at hu
    · rename_i hk; rw [if_pos hk]; exact hS kids (fun _ h => h) n u hu
    · rename_i hk; rw [if_neg hk]; exact hM kids (fun _ h => h) n ks u hu
structure PrintK (x : Tree) (s : ByteArray) : Prop where
  fine : FineT s
  all : allN 1 (linesN (bsN s)) = linD 1 (blkT x)
  ok : OkAll (blkT x)
  tok : (tokF (blkT x)).map erE = bkT 1 0 x
  len : (tokF (blkT x)).length ≤ 600
  ln : ∀ t ∈ (tokF (blkT x)).map erE, t.2.2.1 ≤ 1000000000
  bk : (bkT 1 0 x).length ≤ 900000
  good : GoodT x
  dep : DepT 16 x
theorem print_k {x : Tree} {s : ByteArray} (hsm : SmallP 18 x) (hct : countT 18 x ≤ 150) (hc : checkT x = 0) (hs : bsN s = textB (blkT x)) (hz : s.size ≤ 1048576) : PrintK x s := by
  obtain ⟨hg, hd⟩ := good_of hc
  have hl := bkT_len x 18 1 0 hsm
  have hb : (bkT 1 0 x).length ≤ 900000 := by omega
  have htl : (textB (blkT x)).length ≤ 1048576 := by rw [← hs, bsN_len]; exact hz
  have ht := tokF_blk x hd hb
  have hlen : (tokF (blkT x)).length ≤ 600 := by rw [← List.length_map (f := erE), ht]; omega
  refine ⟨textB_fine s (blkT x) hs hz (blkT_ok hg), textB_all s (blkT x) hs, okAll_blk x hd hb htl (blkT_ok hg), ht, hlen, fun t hm => ?_, hb, hg, hd⟩
  rw [ht] at hm
  have h1 := bk_line x 1 0 t hm
  have h2 := textB_len (blkT x)
  have h3 : (blkT x).length = (tlT 0 x).length + 1 := rfl
  omega
end Go.Proofs.YtdhgcgejdoedbaaGreatDoor

/-
  The law WholeTokens.
-/
namespace Go.Proofs.YtdhgcgejdoedbaaGreatDoor
open Go.RowKit Go.WideShapes

end Go.Proofs.YtdhgcgejdoedbaaGreatDoor

/-
  Paths that go down by places (plain; no program).
-/
namespace Go.Proofs.YtdhgcgejdoedbaaGreatDoor
open Go.RowKit Go.WideShapes

theorem at_snoc : ∀ (p : List ByteArray) (x y : Tree) (s : ByteArray) (k : Nat) (hk : k < y.kids.length), atT x p = some y → kidAt y s = (k : Int) → atT x (p ++ [s]) = some y.kids[k]
  | [], x, y, s, k, hk, h, hs => by
    rw [atT] at h
    cases h
    rw [List.nil_append, atT_go hk hs, atT]
  | q :: p, x, y, s, k, hk, h, hs => by
    rw [List.cons_append]
    rw [atT] at h ⊢
    split at h
    · rename_i hc
      rw [dif_pos hc]
      exact at_snoc p _ y s k hk h hs
    · cases h
theorem kidAt_same {a b : Tree} (h : sameT a b = true) (s : ByteArray) : kidAt a s = kidAt b s := by
  obtain ⟨k, t, ks, kids, l⟩ := a
  obtain ⟨k', t', ks', kids', l'⟩ := b
  simp only [sameT, Bool.and_eq_true, decide_eq_true_eq] at h
  obtain ⟨⟨⟨rfl, rfl⟩, rfl⟩, h4⟩ := h
  rfl
theorem at_same : ∀ (p : List ByteArray) (a b y : Tree), sameT a b = true → atT b p = some y → ∃ z, atT a p = some z ∧ sameT z y = true
  | [], a, b, y, h, hb => by
    rw [atT] at hb
    cases hb
    exact ⟨a, by rw [atT], h⟩
  | s :: p, a, b, y, h, hb => by
    have hks := kidAt_same h s
    have hl := sameK_kids (a := a) (b := b) h
    have h4 : sameTs a.kids b.kids = true := by
      obtain ⟨k, t, ks, kids, l⟩ := a
      obtain ⟨k', t', ks', kids', l'⟩ := b
      simp only [sameT, Bool.and_eq_true] at h
      exact h.2
    by_cases hc : 0 ≤ kidAt b s ∧ kidAt b s < (b.kids.length : Int)
    · obtain ⟨q, hq⟩ : ∃ q : Nat, kidAt b s = (q : Int) := ⟨(kidAt b s).toNat, by omega⟩
      have hqb : q < b.kids.length := by omega
      have hqa : q < a.kids.length := by omega
      rw [atT_go hqb hq] at hb
      rw [atT_go hqa (hks.trans hq)]
      exact at_same p _ _ y ((sameTs_iff.1 h4).2 q _ _ (List.getElem?_eq_getElem hqa) (List.getElem?_eq_getElem hqb)) hb
    · rw [atT_no hc] at hb
      cases hb
theorem digS_num : ∀ k : Fin 200, numN (bsN (digS (k.val : Int))) = (k.val, 0) := by decide +kernel
def nameAt (y : Tree) (k : Nat) : ByteArray := if y.kind = 3 then y.keys.getD k { data := #[] } else digS k
theorem name_kid {y : Tree} (h : GoodT y) {k : Nat} (hk : k < y.kids.length) (hs : y.kids.length ≤ 150) : kidAt y (nameAt y k) = (k : Int) := by
  have hne : y.kids ≠ [] := fun e => by rw [e] at hk; simp at hk
  unfold kidAt nameAt
  by_cases h3 : y.kind = 3
  · have hl := (h.map (by omega) hne).2
    have hkk : k < y.keys.length := by omega
    rw [if_pos h3, if_pos h3]
    have e : y.keys.getD k { data := #[] } = y.keys[k] := by simp [List.getD, hkk]
    rw [e]
    cases h with
    | mk _ _ _ hnd => exact idxS_at hkk (hasS_no hnd hkk) rfl
  · have h2 : y.kind = 2 := by
      rcases Nat.lt_or_ge y.kind 2 with h1 | h1
      · have := h.kind
        cases h with
        | mk _ _ _ _ g1 =>
          simp only [Tree.kind, Tree.kids] at *
          exact absurd (g1 (by omega)).2 hne
      · have := h.kind; omega
    rw [if_neg h3, if_neg h3, if_pos h2]
    have := digS_num ⟨k, by omega⟩
    simp only at this
    rw [this]; rfl
theorem name_size {y : Tree} (h : GoodT y) (k : Nat) (hk : k < y.kids.length) (hs : y.kids.length ≤ 150) : (nameAt y k).size ≤ 64 := by
  unfold nameAt
  split
  · by_cases hkk : k < y.keys.length
    · have e : y.keys.getD k { data := #[] } = y.keys[k] := by simp [List.getD, hkk]
      rw [e]; exact (h.keys _ (List.getElem_mem hkk)).2
    · have e : y.keys.getD k { data := #[] } = { data := #[] } := by simp [List.getD, hkk]
      rw [e]; decide
  · have h1 : ∀ k : Fin 200, (digS (k.val : Int)).size ≤ 64 := by decide +kernel
    exact h1 ⟨k, by omega⟩
structure PathK (x y : Tree) (p : List ByteArray) : Prop where
  at_ : atT x p = some y
  good : GoodT y
  small : ∃ n, SmallP n y
  size : ∀ s ∈ p, s.size ≤ 64
theorem PathK.zero {x : Tree} (h : GoodT x) {n : Nat} (hs : SmallP n x) : PathK x x [] := ⟨by rw [atT], h, ⟨n, hs⟩, fun s hs => by cases hs⟩
theorem SmallP.kids {n : Nat} {y : Tree} (h : SmallP n y) : y.kids.length ≤ 150 ∧ ∀ z ∈ y.kids, ∃ m, SmallP m z := by
  cases h with
  | mk _ _ _ hk hl => exact ⟨hl, fun z hz => ⟨_, hk z hz⟩⟩
theorem PathK.step {x y : Tree} {p : List ByteArray} (h : PathK x y p) {k : Nat} (hk : k < y.kids.length) : PathK x y.kids[k] (p ++ [nameAt y k]) := by
  obtain ⟨n, hn⟩ := h.small
  obtain ⟨h1, h2⟩ := hn.kids
  refine ⟨at_snoc p x y _ k hk h.at_ (name_kid h.good hk h1), h.good.kids _ (List.getElem_mem hk), h2 _ (List.getElem_mem hk), fun s hs => ?_⟩
  rcases List.mem_append.1 hs with hs | hs
  · exact h.size s hs
  · rw [List.mem_singleton.1 hs]; exact name_size h.good k hk h1
end Go.Proofs.YtdhgcgejdoedbaaGreatDoor
