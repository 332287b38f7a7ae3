/-
  block.read: contract where the tokens are a tree's.
-/
import Derived.ChangeKeysEq
import Derived.Test.YtdhgcgejdoedbaaGreatDoorBt16
import Derived.Test.YtdhgcgejdoedbaaGreatDoorBt35
namespace Go.Proofs.YtdhgcgejdoedbaaGreatDoor
open Go.RowKit Go.WideShapes

theorem set2w {W : World} {B : Nat} {a b x y : Value} {t : TypeId} (h : W.heap[B]? = some (.cells #[a, b] t (0, 0))) : ((W.setCell ⟨B, 0, none⟩ x).setCell ⟨B, 1, none⟩ y).heap[B]? = some (.cells #[x, y] t (0, 0)) := by
  simp [World.setCell, h, Array.getElem?_modify]
set_option maxRecDepth 100000 in
set_option maxHeartbeats 2000000 in
theorem read_any (x : Tree) (l : List TokD) (g off cap n c : Nat) (W : World) (hs : TokS W g off cap l) (hl : l.map erE = bkT n c x) (hgd : GoodT x) (hd : DepT 16 x) :
    Calls Tryz.prog 26 #[.slice (some ⟨g, off, none⟩) l.length cap] W fun e W' => ∃ cs x', e = .returned (.tuple #[.agg cs.toArray, .agg #[.int .i64 0, .int .i64 0]]) ∧ NodeO W' (fun g => W.heap.size ≤ g) cs x' ∧ SameK x' x ∧ Below W.heap.size W W' := by
  have hmf : ∀ (fn : Fn) (first cap : Array Value) (w : World), (Instr.makeFunc fn first cap).run Tryz.prog w = .ok (.func fn first cap) w := fun _ _ _ _ => rfl
  have hb2 : Below W.heap.size W ((W.alloc (.cells #[.int .u8 0, .string { data := #[] }, .slice none 0 0, .slice none 0 0, .int .i64 0] 25)).alloc (.cells #[.int .i64 0, .int .i64 0] 33)) := ((Below.refl _ _).alloc (Nat.le_refl _) _).alloc (by simp) _
  have hb3 : Below W.heap.size W (((W.alloc (.cells #[.int .u8 0, .string { data := #[] }, .slice none 0 0, .slice none 0 0, .int .i64 0] 25)).alloc (.cells #[.int .i64 0, .int .i64 0] 33)).alloc (.cells #[.slice (some ⟨g, off, none⟩) l.length cap, .slice (some ⟨g, off, none⟩) l.length cap] 102)) := hb2.alloc (by simp; omega) _
  have hA : (((W.alloc (.cells #[.int .u8 0, .string { data := #[] }, .slice none 0 0, .slice none 0 0, .int .i64 0] 25)).alloc (.cells #[.int .i64 0, .int .i64 0] 33)).alloc (.cells #[.slice (some ⟨g, off, none⟩) l.length cap, .slice (some ⟨g, off, none⟩) l.length cap] 102)).heap[W.heap.size]? = some (.cells #[.int .u8 0, .string { data := #[] }, .slice none 0 0, .slice none 0 0, .int .i64 0] 25 (0, 0)) := (Below.heap_alloc _ _ _ (by simp; omega)).trans ((Below.heap_alloc _ _ _ (by simp)).trans (World.alloc_heap_new W _))
  have hF : (((W.alloc (.cells #[.int .u8 0, .string { data := #[] }, .slice none 0 0, .slice none 0 0, .int .i64 0] 25)).alloc (.cells #[.int .i64 0, .int .i64 0] 33)).alloc (.cells #[.slice (some ⟨g, off, none⟩) l.length cap, .slice (some ⟨g, off, none⟩) l.length cap] 102)).heap[W.heap.size + 1]? = some (.cells #[.int .i64 0, .int .i64 0] 33 (0, 0)) := (Below.heap_alloc _ _ _ (by simp)).trans (by
    have := World.alloc_heap_new (W.alloc (.cells #[.int .u8 0, .string { data := #[] }, .slice none 0 0, .slice none 0 0, .int .i64 0] 25)) (.cells #[.int .i64 0, .int .i64 0] 33)
    rwa [World.size_alloc] at this)
  have hR : (((W.alloc (.cells #[.int .u8 0, .string { data := #[] }, .slice none 0 0, .slice none 0 0, .int .i64 0] 25)).alloc (.cells #[.int .i64 0, .int .i64 0] 33)).alloc (.cells #[.slice (some ⟨g, off, none⟩) l.length cap, .slice (some ⟨g, off, none⟩) l.length cap] 102)).heap[W.heap.size + 1 + 1]? = some (.cells #[.slice (some ⟨g, off, none⟩) l.length cap, .slice (some ⟨g, off, none⟩) l.length cap] 102 (0, 0)) := by
    have := World.alloc_heap_new ((W.alloc (.cells #[.int .u8 0, .string { data := #[] }, .slice none 0 0, .slice none 0 0, .int .i64 0] 25)).alloc (.cells #[.int .i64 0, .int .i64 0] 33)) (.cells #[.slice (some ⟨g, off, none⟩) l.length cap, .slice (some ⟨g, off, none⟩) l.length cap] 102)
    rwa [World.size_alloc, World.size_alloc] at this
  have HR3 := Lib.hid (show RdR W (W.heap.size + 1 + 1) g off cap l 0 _ from ⟨by
    have e1 : lvA g off cap 0 = some ⟨g, off, none⟩ := by unfold lvA; rw [Nat.zero_min, Nat.zero_mul, Nat.add_zero]
    rw [e1, Nat.sub_zero, Nat.sub_zero]; exact hR, by omega, hb3, Nat.zero_le _, hs⟩)
  have HV := Lib.hid (value_any (w0 := W) (R := W.heap.size + 1 + 1) (g := g) (off := off) (cap := cap) (l := l) x n c 0 1 _ [] HR3.out (by rw [List.drop_zero, List.append_nil]; exact hl) (.inr (fun t r e => by cases e)) hgd ⟨16, hd, by decide⟩)
  have hll : (bkT n c x).length = l.length := by rw [← hl, List.length_map]
  rw [hll, Nat.zero_add] at HV
  have HA := Lib.hid hA
  have HF := Lib.hid hF
  have HB := Lib.hid hb3
  have hsz3 : (((W.alloc (.cells #[.int .u8 0, .string { data := #[] }, .slice none 0 0, .slice none 0 0, .int .i64 0] 25)).alloc (.cells #[.int .i64 0, .int .i64 0] 33)).alloc (.cells #[.slice (some ⟨g, off, none⟩) l.length cap, .slice (some ⟨g, off, none⟩) l.length cap] 102)).heap.size = W.heap.size + 3 := by simp
  have HSZ := Lib.hid hsz3
  clear hb2 hb3 hA hF hR hll hs hl hgd hd hsz3
  go_enter_defers Tryz.func26, Tryz.ntmps26
  go_wp2_with fail
  generalize (((W.alloc (.cells #[.int .u8 0, .string { data := #[] }, .slice none 0 0, .slice none 0 0, .int .i64 0] 25)).alloc (.cells #[.int .i64 0, .int .i64 0] 33)).alloc (.cells #[.slice (some ⟨g, off, none⟩) l.length cap, .slice (some ⟨g, off, none⟩) l.length cap] 102)) = W3 at *
  refine HV.out.mono ?_
  rintro e W4 ⟨cs, x', rfl, hn4, hs4, hr4, ho4⟩
  obtain ⟨ka, kc, ba, bc, rfl⟩ := hn4.cells
  have hA4 := (ho4.same _ (Array.getElem?_eq_some_iff.1 HA.out).1 (by omega)).trans HA.out
  have hF4 := (ho4.same _ (Array.getElem?_eq_some_iff.1 HF.out).1 (by omega)).trans HF.out
  obtain ⟨-, r1, -⟩ := hr4.cells
  rw [Nat.sub_self] at r1
  obtain ⟨q0, q1, q2, q3, q4⟩ := cells5 hA4
  obtain ⟨f0, f1, f2, f3, f4⟩ := cells5w hA4
  obtain ⟨u0, u1, v0, v1⟩ := cells2 hF4
  have HA5 := Lib.hid (set5w (x0 := .int .u8 (x'.kind : Int)) (x1 := .string x'.text) (x2 := .slice ka x'.keys.length kc) (x3 := .slice ba x'.kids.length bc) (x4 := .int .i64 x'.line) hA4)
  have HS5 := Lib.hid (fun k (hk : k ≠ W.heap.size) => set5w_other (x0 := .int .u8 (x'.kind : Int)) (x1 := .string x'.text) (x2 := .slice ka x'.keys.length kc) (x3 := .slice ba x'.kids.length bc) (x4 := .int .i64 x'.line) (W := W4) (B := W.heap.size) (k := k) hk)
  have HB5 := Lib.hid (set5w_below (x0 := .int .u8 (x'.kind : Int)) (x1 := .string x'.text) (x2 := .slice ka x'.keys.length kc) (x3 := .slice ba x'.kids.length bc) (x4 := .int .i64 x'.line) (HB.out.trans (ho4.b.mono (show W.heap.size ≤ W.heap.size + 1 + 1 by omega))) (B := W.heap.size) (Nat.le_refl _))
  have HN4 := Lib.hid hn4
  have HSM := Lib.hid hs4
  have HF4 := Lib.hid hF4
  have HZ4 := Lib.hid (show W.heap.size + 3 ≤ W3.heap.size ∧ W3.heap.size ≤ W4.heap.size from ⟨by have := HSZ.out; omega, ho4.size⟩)
  unfold lvA at r1
  clear hn4 hs4 hr4 ho4 hA4 hF4
  go_upto_region 6 with fail
  clear q0 q1 q2 q3 q4 f0 f1 f2 f3 f4 u0 u1 v0 v1 r1
  have HF5 := Lib.hid ((HS5.out (W.heap.size + 1) (by omega)).trans HF4.out)
  have HO5 := Lib.hid (fun i (hi : i ≠ W.heap.size) => HS5.out i hi)
  generalize ((((W4.setCell ⟨W.heap.size, 0, none⟩ (.int .u8 (x'.kind : Int))).setCell ⟨W.heap.size, 1, none⟩ (.string x'.text)).setCell ⟨W.heap.size, 2, none⟩ (.slice ka x'.keys.length kc)).setCell ⟨W.heap.size, 3, none⟩ (.slice ba x'.kids.length bc)).setCell ⟨W.heap.size, 4, none⟩ (.int .i64 x'.line) = W5 at *
  obtain ⟨a0, a1, a2, a3, a4⟩ := cells5 HA5.out
  obtain ⟨f0, f1, f2, f3, f4⟩ := cells5w HA5.out
  obtain ⟨b0, b1, g0, g1⟩ := cells2 HF5.out
  have HA6 := HA5
  have HF6 := HF5
  have hA6 := set5w (x0 := .int .u8 (x'.kind : Int)) (x1 := .string x'.text) (x2 := .slice ka x'.keys.length kc) (x3 := .slice ba x'.kids.length bc) (x4 := .int .i64 x'.line) HA5.out
  have hF6 := (set5w_other (x0 := .int .u8 (x'.kind : Int)) (x1 := .string x'.text) (x2 := .slice ka x'.keys.length kc) (x3 := .slice ba x'.kids.length bc) (x4 := .int .i64 x'.line) (W := W5) (B := W.heap.size) (k := W.heap.size + 1) (by omega)).trans HF5.out
  have HO6 := Lib.hid (fun k (hk : k ≠ W.heap.size) => set5w_other (x0 := .int .u8 (x'.kind : Int)) (x1 := .string x'.text) (x2 := .slice ka x'.keys.length kc) (x3 := .slice ba x'.kids.length bc) (x4 := .int .i64 x'.line) (W := W5) (B := W.heap.size) (k := k) hk)
  have HB6 := Lib.hid (set5w_below (x0 := .int .u8 (x'.kind : Int)) (x1 := .string x'.text) (x2 := .slice ka x'.keys.length kc) (x3 := .slice ba x'.kids.length bc) (x4 := .int .i64 x'.line) HB5.out (B := W.heap.size) (Nat.le_refl _))
  have HA7 := Lib.hid (((Below.heap_setCell _ ⟨W.heap.size + 1, 1, none⟩ (.int .i64 0) W.heap.size (by show W.heap.size ≠ W.heap.size + 1; omega)).trans (Below.heap_setCell (((((W5.setCell ⟨W.heap.size, 0, none⟩ (.int .u8 (x'.kind : Int))).setCell ⟨W.heap.size, 1, none⟩ (.string x'.text)).setCell ⟨W.heap.size, 2, none⟩ (.slice ka x'.keys.length kc)).setCell ⟨W.heap.size, 3, none⟩ (.slice ba x'.kids.length bc)).setCell ⟨W.heap.size, 4, none⟩ (.int .i64 x'.line)) ⟨W.heap.size + 1, 0, none⟩ (.int .i64 0) W.heap.size (by show W.heap.size ≠ W.heap.size + 1; omega))).trans hA6)
  have HF7 := Lib.hid (set2w (x := .int .i64 0) (y := .int .i64 0) hF6)
  have HO7 := Lib.hid (fun k (hk : k ≠ W.heap.size) (hk2 : k ≠ W.heap.size + 1) => ((Below.heap_setCell _ ⟨W.heap.size + 1, 1, none⟩ (.int .i64 0) k hk2).trans (Below.heap_setCell (((((W5.setCell ⟨W.heap.size, 0, none⟩ (.int .u8 (x'.kind : Int))).setCell ⟨W.heap.size, 1, none⟩ (.string x'.text)).setCell ⟨W.heap.size, 2, none⟩ (.slice ka x'.keys.length kc)).setCell ⟨W.heap.size, 3, none⟩ (.slice ba x'.kids.length bc)).setCell ⟨W.heap.size, 4, none⟩ (.int .i64 x'.line)) ⟨W.heap.size + 1, 0, none⟩ (.int .i64 0) k hk2)).trans (HO6.out k hk))
  have HB7 := Lib.hid (((HB6.out.setCell (p := ⟨W.heap.size + 1, 0, none⟩) (by show W.heap.size ≤ W.heap.size + 1; omega) (.int .i64 0)).setCell (p := ⟨W.heap.size + 1, 1, none⟩) (by show W.heap.size ≤ W.heap.size + 1; omega) (.int .i64 0)).drew)
  clear hA6 hF6 HO6 HB6
  go_region
  clear a0 a1 a2 a3 a4 b0 b1 f0 f1 f2 f3 f4 g0 g1
  generalize ((((((W5.setCell ⟨W.heap.size, 0, none⟩ (.int .u8 (x'.kind : Int))).setCell ⟨W.heap.size, 1, none⟩ (.string x'.text)).setCell ⟨W.heap.size, 2, none⟩ (.slice ka x'.keys.length kc)).setCell ⟨W.heap.size, 3, none⟩ (.slice ba x'.kids.length bc)).setCell ⟨W.heap.size, 4, none⟩ (.int .i64 x'.line)).setCell ⟨W.heap.size + 1, 0, none⟩ (.int .i64 0)).setCell ⟨W.heap.size + 1, 1, none⟩ (.int .i64 0) = W7 at *
  have HA8 := Lib.hid (show W7.drew.heap[W.heap.size]? = some (.cells #[.int .u8 (x'.kind : Int), .string x'.text, .slice ka x'.keys.length kc, .slice ba x'.kids.length bc, .int .i64 x'.line] 25 (0, 0)) from HA7.out)
  have HF8 := Lib.hid (show W7.drew.heap[W.heap.size + 1]? = some (.cells #[.int .i64 0, .int .i64 0] 33 (0, 0)) from HF7.out)
  have HO8 := Lib.hid (show ∀ k, k ≠ W.heap.size → k ≠ W.heap.size + 1 → W7.drew.heap[k]? = W5.heap[k]? from HO7.out)
  clear HA7 HF7 HO7
  generalize W7.drew = W8 at *
  go_wp2_with fail
  refine leaves_cons (f := 47) (args := #[.pointer (some ⟨W.heap.size, 0, none⟩), .pointer (some ⟨W.heap.size + 1, 0, none⟩)]) (by simp) (by simp [go_sem]) ?_
  refine (read_idle ⟨W.heap.size, 0, none⟩ ⟨W.heap.size + 1, 0, none⟩ W8).mono ?_
  rintro e u' W9 ⟨rfl, rfl, hb9⟩
  have hA9 := (hb9.block _ (Array.getElem?_eq_some_iff.1 HA8.out).1).trans HA8.out
  have hF9 := (hb9.block _ (Array.getElem?_eq_some_iff.1 HF8.out).1).trans HF8.out
  obtain ⟨y0, y1, y2, y3, y4⟩ := cells5 hA9
  obtain ⟨y5, y6, -, -⟩ := cells2 hF9
  have HNF : NodeO W9 (fun g => W.heap.size ≤ g) [.int .u8 (x'.kind : Int), .string x'.text, .slice ka x'.keys.length kc, .slice ba x'.kids.length bc, .int .i64 x'.line] x' := by
    have h1 := HZ4.out
    have h2 := hb9.size
    exact HN4.out.keep (w' := W9) (Q := fun g => W.heap.size ≤ g) (fun g hP hl => by
      have h3 := hP.1
      have hl5 : g < W8.heap.size := by
        have e5 := HO5.out g (by omega)
        have e8 := HO8.out g (by omega) (by omega)
        have hw5 : g < W5.heap.size := (Array.getElem?_eq_some_iff.1 (e5.trans (Array.getElem?_eq_getElem hl))).1
        exact (Array.getElem?_eq_some_iff.1 (e8.trans (Array.getElem?_eq_getElem hw5))).1
      exact (hb9.block g hl5).trans ((HO8.out g (by omega) (by omega)).trans (HO5.out g (by omega)))) (fun g hP => by have := hP.1; omega)
  have HBF := HB7.out.trans (hb9.mono HB7.out.size)
  simp only [settle]
  exact ⟨.tuple #[.agg #[.int .u8 (x'.kind : Int), .string x'.text, .slice ka x'.keys.length kc, .slice ba x'.kids.length bc, .int .i64 x'.line], .agg #[.int .i64 0, .int .i64 0]], by simp [results, Tryz.results26, go_sem, y0, y1, y2, y3, y4, y5, y6], _, x', rfl, HNF, HSM.out, HBF⟩
end Go.Proofs.YtdhgcgejdoedbaaGreatDoor

/-
  block.Parse: contract where the tokens are a tree's.
-/
namespace Go.Proofs.YtdhgcgejdoedbaaGreatDoor
open Go.RowKit Go.WideShapes

theorem bkT_ne (n c : Nat) (x : Tree) : bkT n c x ≠ [] := by
  obtain ⟨k, t, ks, kids, l⟩ := x
  cases kids with
  | nil => rw [bkT]; simp
  | cons y m => rw [bkT, if_neg (by simp)]; split <;> simp [bkS, bkM]
theorem toks_of {w : World} {v : Value} {l : List TokD} (h : RdS w v 4 l.length (l.flatMap tokC)) (hne : l ≠ []) (hlen : l.length ≤ 1000000) (hln : ∀ t ∈ l.map erE, t.2.2.1 ≤ 1000000000) : ∃ g off cap, v = .slice (some ⟨g, off, none⟩) l.length cap ∧ TokS w g off cap l := by
  rcases h.cases (by decide) with ⟨h0, _⟩ | ⟨_, _, g, off, cap, rfl, h1, h2, h3⟩
  · exact absurd (List.length_eq_zero_iff.1 h0) hne
  · exact ⟨g, off, cap, rfl, h1, h2, hlen, hln, fun j u hj => h3 j u hj⟩
set_option maxRecDepth 100000 in
set_option maxHeartbeats 2000000 in
theorem parse_any (s : ByteArray) (ls : List (Nat × BodyD)) (x : Tree) (n c : Nat) (W : World) (hs : FineT s) (hl : allN 1 (linesN (bsN s)) = linD 1 ls) (hok : OkAll ls) (hb : (tokF ls).map erE = bkT n c x) (hlen : (tokF ls).length ≤ 1000000) (hln : ∀ t ∈ (tokF ls).map erE, t.2.2.1 ≤ 1000000000) (hgd : GoodT x) (hd : DepT 16 x) :
    Calls Tryz.prog 12 #[.string s] W fun e W' => ∃ cs x', e = .returned (.tuple #[.agg cs.toArray, .agg #[.int .i64 0, .int .i64 0]]) ∧ NodeR W' cs x' ∧ SameK x' x ∧ Below W.heap.size W W' := by
  have hb2 : Below W.heap.size W ((W.alloc (.cells #[.int .u8 0, .string { data := #[] }, .slice none 0 0, .slice none 0 0, .int .i64 0] 25)).alloc (.cells #[.int .i64 0, .int .i64 0] 33)) := ((Below.refl _ _).alloc (Nat.le_refl _) _).alloc (by simp) _
  have hA : ((W.alloc (.cells #[.int .u8 0, .string { data := #[] }, .slice none 0 0, .slice none 0 0, .int .i64 0] 25)).alloc (.cells #[.int .i64 0, .int .i64 0] 33)).heap[W.heap.size]? = some (.cells #[.int .u8 0, .string { data := #[] }, .slice none 0 0, .slice none 0 0, .int .i64 0] 25 (0, 0)) := (Below.heap_alloc _ _ _ (by simp)).trans (World.alloc_heap_new W _)
  have hF : ((W.alloc (.cells #[.int .u8 0, .string { data := #[] }, .slice none 0 0, .slice none 0 0, .int .i64 0] 25)).alloc (.cells #[.int .i64 0, .int .i64 0] 33)).heap[W.heap.size + 1]? = some (.cells #[.int .i64 0, .int .i64 0] 33 (0, 0)) := by
    have := World.alloc_heap_new (W.alloc (.cells #[.int .u8 0, .string { data := #[] }, .slice none 0 0, .slice none 0 0, .int .i64 0] 25)) (.cells #[.int .i64 0, .int .i64 0] 33)
    rwa [World.size_alloc] at this
  have HTA := Lib.hid (fun w => tkAll_any s ls w hs hl hok)
  have hne : tokF ls ≠ [] := fun e => bkT_ne n c x (by rw [← hb, e]; rfl)
  generalize tokF ls = l at *
  have HA := Lib.hid hA
  have HF := Lib.hid hF
  have HB := Lib.hid hb2
  have HX := Lib.hid (And.intro hb (And.intro hgd hd))
  have HNE := Lib.hid hne
  have HLN := Lib.hid hln
  have hl0 : l.length ≠ 0 := fun e => hne (List.length_eq_zero_iff.1 e)
  have d0 : ((l.length : Int) == 0) = false := beq_eq_false_iff_ne.2 (by omega)
  clear hs hl hok hb hln hgd hd hb2 hA hF hne
  go_enter Tryz.func12, Tryz.ntmps12
  go_wp2_with fail
  generalize ((W.alloc (.cells #[.int .u8 0, .string { data := #[] }, .slice none 0 0, .slice none 0 0, .int .i64 0] 25)).alloc (.cells #[.int .i64 0, .int .i64 0] 33)) = W2 at *
  refine (HTA.out W2).mono ?_
  rintro e W3 ⟨v, rfl, hown, hb3⟩
  obtain ⟨g, off, cap, rfl, hts⟩ := toks_of (RdS.of_owns hown) HNE.out hlen HLN.out
  have hA3 := (hb3.block _ (Array.getElem?_eq_some_iff.1 HA.out).1).trans HA.out
  have hF3 := (hb3.block _ (Array.getElem?_eq_some_iff.1 HF.out).1).trans HF.out
  have hb4 := (Below.refl W3.heap.size W3).alloc (Nat.le_refl _) (.cells #[.int .i64 0, .int .i64 0] 33)
  have HA4 := Lib.hid ((hb4.block _ (Array.getElem?_eq_some_iff.1 hA3).1).trans hA3)
  have HF4 := Lib.hid ((hb4.block _ (Array.getElem?_eq_some_iff.1 hF3).1).trans hF3)
  have HB4 := Lib.hid ((HB.out.trans (hb3.mono HB.out.size)).trans (hb4.mono (Nat.le_trans HB.out.size hb3.size)))
  obtain ⟨x0, x1, -, -⟩ := cells2 (World.alloc_heap_new W3 (.cells #[.int .i64 0, .int .i64 0] 33))
  have HTS := Lib.hid (show TokS (W3.alloc (.cells #[.int .i64 0, .int .i64 0] 33)) g off cap l from ⟨hts.n, hts.c, hts.len, hts.ln, fun j u hj => cellB hb4 (hts.at_ j u hj)⟩)
  clear hown hb3 hts hA3 hF3 hb4
  go_upto_region 4 with fail
  generalize W3.alloc (.cells #[.int .i64 0, .int .i64 0] 33) = W4 at *
  clear x0 x1
  have HRD := Lib.hid (read_any x l g off cap n c W4 HTS.out HX.out.1 HX.out.2.1 HX.out.2.2)
  go_wp2_with fail
  refine HRD.out.mono ?_
  rintro e W5 ⟨cs, x', rfl, hn5, hs5, hb5⟩
  obtain ⟨ka, kc, ba, bc, rfl⟩ := hn5.cells
  have hA5 := (hb5.block _ (Array.getElem?_eq_some_iff.1 HA4.out).1).trans HA4.out
  have hF5 := (hb5.block _ (Array.getElem?_eq_some_iff.1 HF4.out).1).trans HF4.out
  have hSZ : W.heap.size + 1 < W4.heap.size := (Array.getElem?_eq_some_iff.1 HF4.out).1
  obtain ⟨a0, a1, a2, a3, a4⟩ := cells5 hA5
  obtain ⟨f0, f1, f2, f3, f4⟩ := cells5w hA5
  obtain ⟨b0, b1, g0, g1⟩ := cells2 hF5
  have hA6 := set5w (x0 := .int .u8 (x'.kind : Int)) (x1 := .string x'.text) (x2 := .slice ka x'.keys.length kc) (x3 := .slice ba x'.kids.length bc) (x4 := .int .i64 x'.line) hA5
  have hF6 := (set5w_other (x0 := .int .u8 (x'.kind : Int)) (x1 := .string x'.text) (x2 := .slice ka x'.keys.length kc) (x3 := .slice ba x'.kids.length bc) (x4 := .int .i64 x'.line) (W := W5) (B := W.heap.size) (k := W.heap.size + 1) (by omega)).trans hF5
  have HO6 := Lib.hid (fun k (hk : k ≠ W.heap.size) => set5w_other (x0 := .int .u8 (x'.kind : Int)) (x1 := .string x'.text) (x2 := .slice ka x'.keys.length kc) (x3 := .slice ba x'.kids.length bc) (x4 := .int .i64 x'.line) (W := W5) (B := W.heap.size) (k := k) hk)
  have HB6 := Lib.hid (set5w_below (x0 := .int .u8 (x'.kind : Int)) (x1 := .string x'.text) (x2 := .slice ka x'.keys.length kc) (x3 := .slice ba x'.kids.length bc) (x4 := .int .i64 x'.line) (HB4.out.trans (hb5.mono (by omega))) (B := W.heap.size) (Nat.le_refl _))
  have HA7 := Lib.hid (((Below.heap_setCell _ ⟨W.heap.size + 1, 1, none⟩ (.int .i64 0) W.heap.size (by show W.heap.size ≠ W.heap.size + 1; omega)).trans (Below.heap_setCell (((((W5.setCell ⟨W.heap.size, 0, none⟩ (.int .u8 (x'.kind : Int))).setCell ⟨W.heap.size, 1, none⟩ (.string x'.text)).setCell ⟨W.heap.size, 2, none⟩ (.slice ka x'.keys.length kc)).setCell ⟨W.heap.size, 3, none⟩ (.slice ba x'.kids.length bc)).setCell ⟨W.heap.size, 4, none⟩ (.int .i64 x'.line)) ⟨W.heap.size + 1, 0, none⟩ (.int .i64 0) W.heap.size (by show W.heap.size ≠ W.heap.size + 1; omega))).trans hA6)
  have HF7 := Lib.hid (set2w (x := .int .i64 0) (y := .int .i64 0) hF6)
  have HO7 := Lib.hid (fun k (hk : k ≠ W.heap.size) (hk2 : k ≠ W.heap.size + 1) => ((Below.heap_setCell _ ⟨W.heap.size + 1, 1, none⟩ (.int .i64 0) k hk2).trans (Below.heap_setCell (((((W5.setCell ⟨W.heap.size, 0, none⟩ (.int .u8 (x'.kind : Int))).setCell ⟨W.heap.size, 1, none⟩ (.string x'.text)).setCell ⟨W.heap.size, 2, none⟩ (.slice ka x'.keys.length kc)).setCell ⟨W.heap.size, 3, none⟩ (.slice ba x'.kids.length bc)).setCell ⟨W.heap.size, 4, none⟩ (.int .i64 x'.line)) ⟨W.heap.size + 1, 0, none⟩ (.int .i64 0) k hk2)).trans (HO6.out k hk))
  have HB7 := Lib.hid ((HB6.out.setCell (p := ⟨W.heap.size + 1, 0, none⟩) (by show W.heap.size ≤ W.heap.size + 1; omega) (.int .i64 0)).setCell (p := ⟨W.heap.size + 1, 1, none⟩) (by show W.heap.size ≤ W.heap.size + 1; omega) (.int .i64 0))
  have HN5 := Lib.hid hn5
  have HSM := Lib.hid hs5
  clear hA6 hF6 HO6 HB6 hA5 hF5 hn5 hs5 hb5
  go_wp2_with fail
  clear a0 a1 a2 a3 a4 b0 b1 f0 f1 f2 f3 f4 g0 g1
  generalize ((((((W5.setCell ⟨W.heap.size, 0, none⟩ (.int .u8 (x'.kind : Int))).setCell ⟨W.heap.size, 1, none⟩ (.string x'.text)).setCell ⟨W.heap.size, 2, none⟩ (.slice ka x'.keys.length kc)).setCell ⟨W.heap.size, 3, none⟩ (.slice ba x'.kids.length bc)).setCell ⟨W.heap.size, 4, none⟩ (.int .i64 x'.line)).setCell ⟨W.heap.size + 1, 0, none⟩ (.int .i64 0)).setCell ⟨W.heap.size + 1, 1, none⟩ (.int .i64 0) = W7 at *
  obtain ⟨y0, y1, y2, y3, y4⟩ := cells5 HA7.out
  obtain ⟨y5, y6, -, -⟩ := cells2 HF7.out
  refine bodyPost_ret (v := .tuple #[.agg #[.int .u8 (x'.kind : Int), .string x'.text, .slice ka x'.keys.length kc, .slice ba x'.kids.length bc, .int .i64 x'.line], .agg #[.int .i64 0, .int .i64 0]]) (by simp [results, Tryz.results12, go_sem, y0, y1, y2, y3, y4, y5, y6]) rfl ⟨_, x', rfl, ?_, HSM.out, HB7.out⟩
  exact (HN5.out.keep (w' := W7) (Q := fun _ => True) (fun g hP hl => HO7.out g (by have : W4.heap.size ≤ g := hP; omega) (by have : W4.heap.size ≤ g := hP; omega)) (fun _ _ => trivial)).toR
end Go.Proofs.YtdhgcgejdoedbaaGreatDoor

/-
  rescripttop.awakeTree.
-/
namespace Go.Proofs.YtdhgcgejdoedbaaGreatDoor
open Go.RowKit Go.WideShapes

def awt : ByteArray := { data := #[97, 58, 32, 91, 93, 10, 98, 58, 32, 99] }
def awX : Tree := .mk 3 { data := #[] } [{ data := #[97] }, { data := #[98] }] [.mk 2 { data := #[] } [] [] 0, .mk 1 { data := #[99] } [] [] 0] 0
theorem awt_fine : FineT awt := ⟨by decide, Utf.ascii (by decide +kernel), by decide +kernel⟩
theorem awt_all : allN 1 (linesN (bsN awt)) = linD 1 (blkT awX) := by decide +kernel
theorem ok_asc {s : ByteArray} (h : s.size ≤ 64 ∧ ∀ c ∈ bsN s, c < 128) : OkT s ∧ s.size ≤ 64 := ⟨⟨by have := h.1; omega, Utf.ascii h.2⟩, h.1⟩
theorem awX_good : GoodT awX := by
  have h0 : ∀ c ∈ bsN { data := #[] }, c < 128 := by decide
  refine .mk (by decide) (ok_asc ⟨by decide, h0⟩).1 ?_ (by decide) (by decide) (fun _ => rfl) (by decide) (fun _ => rfl) ?_
  · intro s hs
    simp only [List.mem_cons, List.not_mem_nil, or_false] at hs
    rcases hs with rfl | rfl
    · exact ok_asc ⟨by decide, by decide +kernel⟩
    · exact ok_asc ⟨by decide, by decide +kernel⟩
  · intro x hx
    simp only [List.mem_cons, List.not_mem_nil, or_false] at hx
    rcases hx with rfl | rfl
    · exact .mk (by decide) (ok_asc ⟨by decide, h0⟩).1 (fun s hs => by cases hs) List.nodup_nil (by decide) (fun _ => rfl) (fun _ => rfl) (by decide) (fun x hx => by cases hx)
    · exact .mk (by decide) (ok_asc ⟨by decide, by decide +kernel⟩).1 (fun s hs => by cases hs) List.nodup_nil (fun _ => ⟨rfl, rfl⟩) (fun h => absurd rfl h) (fun _ => rfl) (by decide) (fun x hx => by cases hx)
theorem awX_dep : DepT 16 awX := .mk fun x hx => by
  simp only [List.mem_cons, List.not_mem_nil, or_false] at hx
  rcases hx with rfl | rfl
  · exact .mk fun x hx => by cases hx
  · exact .mk fun x hx => by cases hx
theorem awX_ok : OkAll (blkT awX) := okAll_blk awX awX_dep (by decide +kernel) (by decide +kernel) (blkT_ok awX_good)
theorem awX_tok : (tokF (blkT awX)).map erE = bkT 1 0 awX := tokF_blk awX awX_dep (by decide +kernel)
theorem awX_len : (tokF (blkT awX)).length = 4 := by
  rw [← List.length_map (f := erE), awX_tok]; decide +kernel
theorem sameK_kids {a b : Tree} (h : SameK a b) : a.kids.length = b.kids.length := by
  obtain ⟨k, t, ks, kids, l⟩ := a
  obtain ⟨k', t', ks', kids', l'⟩ := b
  unfold SameK at h
  simp only [sameT, Bool.and_eq_true] at h
  exact sameTs_len h.2
theorem eq_fault (w : World) : (binOp .eql 33 (.agg #[.int .i64 0, .int .i64 0]) (.agg #[.int .i64 0, .int .i64 0])).run Tryz.prog w = .ok (.bool true) w := by kernel_rfl
set_option maxRecDepth 100000 in
set_option maxHeartbeats 1000000 in
theorem awakeTree_any (w : World) :
    Calls Tryz.prog 5 #[] w fun e w' => e = .returned (.bool true) ∧ Below w.heap.size w w' := by
  have HA := Lib.hid (fun w => tkAll_any awt (blkT awX) w awt_fine awt_all awX_ok)
  have HP := Lib.hid (fun w => parse_any awt (blkT awX) awX 1 0 w awt_fine awt_all awX_ok awX_tok (by rw [awX_len]; decide) (by rw [awX_tok]; decide +kernel) awX_good awX_dep)
  have HB0 := Lib.hid (Below.refl w.heap.size w)
  have HK2 : Hid (awX.kids.length = 2) := Lib.hid rfl
  go_enter Tryz.func5, Tryz.ntmps5
  go_wp2_with fail
  refine (HA.out _).mono ?_
  rintro e w1 ⟨v, rfl, ho, hb1⟩
  obtain ⟨va, vc, rfl⟩ := (RdS.of_owns ho).form
  rw [awX_len]
  have hb2 := (Below.refl w1.heap.size w1).alloc (Nat.le_refl _) (.cells #[.int .i64 0, .int .i64 0] 33)
  have HF2 := Lib.hid (World.alloc_heap_new w1 (.cells #[.int .i64 0, .int .i64 0] 33))
  have HB2 := Lib.hid (hb1.trans (hb2.mono hb1.size))
  clear ho hb1 hb2
  go_upto_region 2 with fail
  generalize w1.alloc (.cells #[.int .i64 0, .int .i64 0] 33) = w2 at *
  go_wp2_with fail
  refine (HP.out w2).mono ?_
  rintro e w3 ⟨cs, x', rfl, hn3, hs3, hb3⟩
  obtain ⟨ka, kc, ba, bc, rfl⟩ := hn3.cells
  have hkl : x'.kids.length = 2 := (sameK_kids hs3).trans HK2.out
  rw [hkl]
  have hlt2 : w1.heap.size < w2.heap.size := (Array.getElem?_eq_some_iff.1 HF2.out).1
  have hF3 := (hb3.block _ hlt2).trans HF2.out
  have hlt3 : w1.heap.size < w3.heap.size := (Array.getElem?_eq_some_iff.1 hF3).1
  have hb4 := ((Below.refl w3.heap.size w3).alloc (Nat.le_refl _) (.cells #[.int .u8 (x'.kind : Int), .string x'.text, .slice ka x'.keys.length kc, .slice ba 2 bc, .int .i64 x'.line] 25)).alloc (o := (.cells #[.int .i64 0, .int .i64 0] 33)) (by simp)
  have hF4 := (hb4.block _ hlt3).trans hF3
  have hN4 : ((w3.alloc (.cells #[.int .u8 (x'.kind : Int), .string x'.text, .slice ka x'.keys.length kc, .slice ba 2 bc, .int .i64 x'.line] 25)).alloc (.cells #[.int .i64 0, .int .i64 0] 33)).heap[w3.heap.size]? = _ := (Below.heap_alloc _ _ _ (by simp)).trans (World.alloc_heap_new w3 (.cells #[.int .u8 (x'.kind : Int), .string x'.text, .slice ka x'.keys.length kc, .slice ba 2 bc, .int .i64 x'.line] 25))
  have hG4 : ((w3.alloc (.cells #[.int .u8 (x'.kind : Int), .string x'.text, .slice ka x'.keys.length kc, .slice ba 2 bc, .int .i64 x'.line] 25)).alloc (.cells #[.int .i64 0, .int .i64 0] 33)).heap[w3.heap.size + 1]? = some (.cells #[.int .i64 0, .int .i64 0] 33 (0, 0)) := by
    have := World.alloc_heap_new (w3.alloc (.cells #[.int .u8 (x'.kind : Int), .string x'.text, .slice ka x'.keys.length kc, .slice ba 2 bc, .int .i64 x'.line] 25)) (.cells #[.int .i64 0, .int .i64 0] 33)
    rwa [World.size_alloc] at this
  have HB4 := Lib.hid ((HB2.out.trans (hb3.mono HB2.out.size)).trans (hb4.mono (Nat.le_trans HB2.out.size hb3.size)))
  obtain ⟨p0, p1, -, -⟩ := cells2 hF4
  obtain ⟨q0, q1, q2, q3, q4⟩ := cells5 hN4
  obtain ⟨r0, r1, -, -⟩ := cells2 hG4
  have he := eq_fault
  clear hn3 hs3 hb3 hkl hF3 hb4 hF4 hN4 hG4 hlt2 hlt3
  go_wp2_with fail
  go_ret
  exact ⟨rfl, HB4.out⟩
end Go.Proofs.YtdhgcgejdoedbaaGreatDoor

/-
  A printed tree's text: what its tokens are (plain; no program).
-/
namespace Go.Proofs.YtdhgcgejdoedbaaGreatDoor
open Go.RowKit Go.WideShapes

theorem bk_line : ∀ (x : Tree) (n c : Nat), ∀ t ∈ bkT n c x, t.2.2.1 ≤ n + (tlT c x).length := by
  refine Tree.ind fun k t ks kids l ih n c u hu => ?_
  rw [bkT] at hu
  split at hu
  · rw [List.mem_singleton] at hu
    rw [hu]
    show n ≤ _
    omega
  · have hS : ∀ (m : List Tree), (∀ y ∈ m, y ∈ kids) → ∀ n, ∀ u ∈ bkS n c m, u.2.2.1 ≤ n + (tlS c m).length := by
      intro m hm
      induction m with
      | nil => intro n u hu; simp [bkS] at hu
      | cons y m ihm =>
        intro n u hu
        rw [bkS] at hu
        rw [tlS, List.length_append, List.length_append]
        rcases List.mem_cons.1 hu with rfl | hu
        · show n ≤ _; omega
        · rcases List.mem_cons.1 hu with rfl | hu
          · show 0 ≤ _; omega
          · rcases List.mem_append.1 hu with hu | hu
            · have := ih y (hm y (by simp)) n (c + 2) u hu; omega
            · rcases List.mem_cons.1 hu with rfl | hu
              · show 0 ≤ _; omega
              · have h1 := ihm (fun y hy => hm y (by simp [hy])) _ u hu
                cases m with
                | nil => simp [bkS] at hu
                | cons z m => simp only [nxS, List.length_singleton]; omega
    have hM : ∀ (m : List Tree), (∀ y ∈ m, y ∈ kids) → ∀ n qs, ∀ u ∈ bkM n c qs m, u.2.2.1 ≤ n + (tlM c qs m).length := by
      intro m hm
      induction m with
      | nil => intro n qs u hu; simp [bkM] at hu
      | cons y m ihm =>
        intro n qs u hu
        rw [bkM] at hu
        rw [tlM, List.length_append, List.length_append]
        rcases List.mem_cons.1 hu with rfl | hu
        · show n ≤ _; omega
        · rcases List.mem_append.1 hu with hu | hu
          · split at hu
            · rw [List.mem_singleton] at hu
              rw [hu]
              show n ≤ _; omega
            · rename_i he
              rw [if_neg he]
              rcases List.mem_cons.1 hu with rfl | hu
              · show 0 ≤ _; omega
              · rcases List.mem_append.1 hu with hu | hu
                · have := ih y (hm y (by simp)) (n + 1) (c + 2) u hu
                  simp only [List.length_cons]; omega
                · rw [List.mem_singleton] at hu
                  rw [hu]
                  show 0 ≤ _; omega
          · have h1 := ihm (fun y hy => hm y (by simp [hy])) _ _ u hu
            cases m with
            | nil => simp [bkM] at hu
            | cons z m =>
              simp only [nxM, List.length_singleton]
              split at h1
              · rename_i he; rw [if_pos he]; simp only [List.length_nil]; omega
              · rename_i he; rw [if_neg he]; simp only [List.length_cons]; omega
    rw [tlT]
    split at hu
    · rename_i hk; rw [if_pos hk]; exact hS kids (fun _ h => h) n u hu
    · rename_i hk; rw [if_neg hk]; exact hM kids (fun _ h => h) n ks u hu
structure PrintK (x : Tree) (s : ByteArray) : Prop where
  fine : FineT s
  all : allN 1 (linesN (bsN s)) = linD 1 (blkT x)
  ok : OkAll (blkT x)
  tok : (tokF (blkT x)).map erE = bkT 1 0 x
  len : (tokF (blkT x)).length ≤ 600
  ln : ∀ t ∈ (tokF (blkT x)).map erE, t.2.2.1 ≤ 1000000000
  bk : (bkT 1 0 x).length ≤ 900000
  good : GoodT x
  dep : DepT 16 x
theorem print_k {x : Tree} {s : ByteArray} (hsm : SmallP 18 x) (hct : countT 18 x ≤ 150) (hc : checkT x = 0) (hs : bsN s = textB (blkT x)) (hz : s.size ≤ 1048576) : PrintK x s := by
  obtain ⟨hg, hd⟩ := good_of hc
  have hl := bkT_len x 18 1 0 hsm
  have hb : (bkT 1 0 x).length ≤ 900000 := by omega
  have htl : (textB (blkT x)).length ≤ 1048576 := by rw [← hs, bsN_len]; exact hz
  have ht := tokF_blk x hd hb
  have hlen : (tokF (blkT x)).length ≤ 600 := by rw [← List.length_map (f := erE), ht]; omega
  refine ⟨textB_fine s (blkT x) hs hz (blkT_ok hg), textB_all s (blkT x) hs, okAll_blk x hd hb htl (blkT_ok hg), ht, hlen, fun t hm => ?_, hb, hg, hd⟩
  rw [ht] at hm
  have h1 := bk_line x 1 0 t hm
  have h2 := textB_len (blkT x)
  have h3 : (blkT x).length = (tlT 0 x).length + 1 := rfl
  omega
theorem ofKind_take {l : List TokD} {j : Nat} (hj : j < l.length) (k : Nat) : ofKind k (l.take (j + 1)) = ofKind k (l.take j) + if l[j].1 = k then 1 else 0 := by
  rw [List.take_succ_eq_append_getElem hj, ofKind_app, ofKind_cons]
  simp [ofKind]
theorem ofKind_le (k : Nat) (l : List TokD) : ofKind k l ≤ l.length := List.countP_le_length
theorem cnt_le {x : Tree} (h : GoodT x) (hsm : (bkT 1 0 x).length ≤ 900000) {i : Nat} (hi : i < 5) : cntT i x ≤ 900000 := by
  rw [← bk_cnt hi x 1 0 h]
  exact Nat.le_trans (ofKind_le _ _) hsm
end Go.Proofs.YtdhgcgejdoedbaaGreatDoor

/-
  The law WholeTokens.
-/
namespace Go.Proofs.YtdhgcgejdoedbaaGreatDoor
open Go.RowKit Go.WideShapes

theorem eq_five (a b c d e : Int) (w : World) : (binOp .eql 36 (.agg #[.int .i64 a, .int .i64 b, .int .i64 c, .int .i64 d, .int .i64 e]) (.agg #[.int .i64 a, .int .i64 b, .int .i64 c, .int .i64 d, .int .i64 e])).run Tryz.prog w = .ok (.bool true) w := by
  obtain ⟨i0, hi, hz0, hz1, hz2⟩ := info_parts Tryz.info_intN
  have hc : Tryz.prog.cellsOf 3 = 1 := by kernel_rfl
  have hp : Tryz.prog.plainKey 3 = true := by kernel_rfl
  have h9 : ∀ z : Int, (Op.equalIn 9999 3 (.int .i64 z) (.int .i64 z)).run Tryz.prog w = .ok true w := fun z => by
    have := run_equalIn_int w 9998 3 .i64 .i64 z z Tryz.underlying3
    simpa using this
  have ha : (Op.equalIn 10000 36 (.agg #[.int .i64 a, .int .i64 b, .int .i64 c, .int .i64 d, .int .i64 e]) (.agg #[.int .i64 a, .int .i64 b, .int .i64 c, .int .i64 d, .int .i64 e])).run Tryz.prog w = .ok true w := by
    rw [show (10000 : Nat) = 9999 + 1 from rfl, run_equalIn_array w 9999 _ _ Tryz.underlying36 hi, hc, show List.range 5 = [0, 1, 2, 3, 4] from rfl]
    have q : ∀ (i : Nat) (v : Value), #[Value.int .i64 a, .int .i64 b, .int .i64 c, .int .i64 d, .int .i64 e][i]? = some v → (part 3 #[Value.int .i64 a, .int .i64 b, .int .i64 c, .int .i64 d, .int .i64 e] i).run Tryz.prog w = .ok v w := fun i v hv => run_part_plain w hp hv
    have q0 := q 0 _ rfl
    have q1 := q 1 _ rfl
    have q2 := q 2 _ rfl
    have q3 := q 3 _ rfl
    have q4 := q 4 _ rfl
    simp [Op.eqItems, q0, q1, q2, q3, q4, h9]
  go_simp
set_option maxRecDepth 100000 in
set_option maxHeartbeats 4000000 in
theorem WholeTokens_any (x : Tree) (cs : List Value) (w : World) (h : NodeR w cs x) :
    Calls Tryz.prog 3 #[.agg cs.toArray] w fun e w' => e = .returned (.bool true) ∧ Below w.heap.size w w' := by
  obtain ⟨ka, kc, ba, bc, rfl⟩ := h.cells
  have hb1 := (Below.refl w.heap.size w).alloc (Nat.le_refl _) (.cells #[.int .u8 (x.kind : Int), .string x.text, .slice ka x.keys.length kc, .slice ba x.kids.length bc, .int .i64 x.line] 25)
  have HN1 := Lib.hid (h.belowW hb1)
  have HX1 := Lib.hid (World.alloc_heap_new w (.cells #[.int .u8 (x.kind : Int), .string x.text, .slice ka x.keys.length kc, .slice ba x.kids.length bc, .int .i64 x.line] 25))
  have HB1 := Lib.hid hb1
  have hz1 : w.heap.size < (w.alloc (.cells #[.int .u8 (x.kind : Int), .string x.text, .slice ka x.keys.length kc, .slice ba x.kids.length bc, .int .i64 x.line] 25)).heap.size := by simp
  have HZ1 := Lib.hid hz1
  clear h hb1 hz1
  go_enter Tryz.func3, Tryz.ntmps3
  go_wp2_with fail
  generalize w.alloc (.cells #[.int .u8 (x.kind : Int), .string x.text, .slice ka x.keys.length kc, .slice ba x.kids.length bc, .int .i64 x.line] 25) = w1 at *
  refine (awakeTree_any w1).mono ?_
  rintro e w2 ⟨rfl, hb2⟩
  have HN2 := Lib.hid (HN1.out.belowW hb2)
  have HX2 := Lib.hid ((hb2.block _ HZ1.out).trans HX1.out)
  have HB2 := Lib.hid (HB1.out.trans (hb2.mono HB1.out.size))
  have HZ2 := Lib.hid (Nat.lt_of_lt_of_le HZ1.out hb2.size)
  clear hb2
  obtain ⟨p0, p1, p2, p3, p4⟩ := cells5 HX2.out
  go_wp2_with fail
  refine (SmallT_any x _ w2 HN2.out).mono ?_
  rintro e w3 ⟨rfl, hb3⟩
  have HN3 := Lib.hid (HN2.out.belowW hb3)
  have HX3 := Lib.hid ((hb3.block _ HZ2.out).trans HX2.out)
  have HB3 := Lib.hid (HB2.out.trans (hb3.mono HB2.out.size))
  have HZ3 := Lib.hid (Nat.lt_of_lt_of_le HZ2.out hb3.size)
  clear hb3 p0 p1 p2 p3 p4
  cases hsm : smallTB x with
  | false =>
    go_wp2_with fail
    go_ret
    exact ⟨rfl, HB3.out⟩
  | true =>
    obtain ⟨hs1, hs2⟩ := small_of hsm
    have HPR := Lib.hid (print_any x _ w3 HN3.out hs1 hs2)
    have HSM := Lib.hid (And.intro hs1 hs2)
    obtain ⟨p0, p1, p2, p3, p4⟩ := cells5 HX3.out
    clear hs1 hs2 hsm
    go_wp2_with fail
    refine HPR.out.mono ?_
    rintro e w4 ⟨s, c, rfl, hp, hb4⟩
    have HN4 := Lib.hid (HN3.out.belowW hb4)
    have HX4 := Lib.hid ((hb4.block _ HZ3.out).trans HX3.out)
    have HB4 := Lib.hid (HB3.out.trans (hb4.mono HB3.out.size))
    have HZ4 := Lib.hid (Nat.lt_of_lt_of_le HZ3.out hb4.size)
    clear hb4 p0 p1 p2 p3 p4 HPR
    rcases hp with ⟨hc, rfl⟩ | ⟨rfl, hc, hs, hz⟩
    · have d1 : (c == 0) = false := beq_eq_false_iff_ne.2 hc
      have e1 : (({ data := #[] } : ByteArray) == { data := #[] }) = true := by decide
      clear hc
      go_wp2_with fail
      go_ret
      exact ⟨rfl, HB4.out⟩
    · have HPK := Lib.hid (print_k HSM.out.1 HSM.out.2 hc hs hz)
      have HTA := Lib.hid (fun w => tkAll_any s (blkT x) w HPK.out.fine HPK.out.all HPK.out.ok)
      have HLEN := Lib.hid HPK.out.len
      have HCN := Lib.hid (fun i (hi : i < 5) => tok_cnt HPK.out.good HPK.out.dep HPK.out.bk hi)
      have HDP := Lib.hid (tok_deep HPK.out.dep HPK.out.bk)
      have HCL := Lib.hid (fun i (hi : i < 5) => cnt_le HPK.out.good HPK.out.bk hi)
      clear hc hs hz
      generalize tokF (blkT x) = l at *
      go_wp2_with fail
      refine (HTA.out w4).mono ?_
      rintro e w5 ⟨v, rfl, ho5, hb5⟩
      obtain ⟨va, vc, rfl⟩ := (RdS.of_owns ho5).form
      have HR5 := Lib.hid (RdS.of_owns ho5)
      have hb6 := (Below.refl w5.heap.size w5).alloc (Nat.le_refl _) (.cells #[.int .i64 0, .int .i64 0] 33)
      have HR6 := Lib.hid (HR5.out.below hb6)
      have hb56 := hb5.trans (hb6.mono hb5.size)
      have HN6 := Lib.hid (HN4.out.belowW hb56)
      have HX6 := Lib.hid ((hb56.block _ HZ4.out).trans HX4.out)
      have HB6 := Lib.hid (HB4.out.trans (hb56.mono HB4.out.size))
      have HZ6 := Lib.hid (Nat.lt_of_lt_of_le HZ4.out hb56.size)
      obtain ⟨q0, q1, -, -⟩ := cells2 (World.alloc_heap_new w5 (.cells #[.int .i64 0, .int .i64 0] 33))
      clear ho5 hb5 hb6 hb56
      go_upto_region 11 with fail
      generalize w5.alloc (.cells #[.int .i64 0, .int .i64 0] 33) = w6 at *
      obtain ⟨p0, p1, p2, p3, p4⟩ := cells5 HX6.out
      have HCA := Lib.hid (show Calls Tryz.prog 9 #[.agg #[.int .u8 (x.kind : Int), .string x.text, .slice ka x.keys.length kc, .slice ba x.kids.length bc, .int .i64 x.line], .agg #[.int .i64 0, .int .i64 0, .int .i64 0, .int .i64 0, .int .i64 0]] w6 _ from count_any x _ 0 0 0 0 0 w6 HN6.out ⟨by have := HCL.out 0 (by decide); omega, by have := HCL.out 1 (by decide); omega, by have := HCL.out 2 (by decide); omega, by have := HCL.out 3 (by decide); omega, by have := HCL.out 4 (by decide); omega⟩)
      clear q0 q1
      go_wp2_with fail
      refine HCA.out.mono ?_
      rintro e w7 ⟨rfl, hb7⟩
      simp only [Nat.zero_add]
      have hb8 : Below w7.heap.size w7 ((w7.alloc (.cells #[.int .i64 (cntT 0 x : Nat), .int .i64 (cntT 1 x : Nat), .int .i64 (cntT 2 x : Nat), .int .i64 (cntT 3 x : Nat), .int .i64 (cntT 4 x : Nat)] 36)).alloc (.cells #[.int .i64 0, .int .i64 0, .int .i64 0, .int .i64 0, .int .i64 0] 36)) := ((Below.refl w7.heap.size w7).alloc (Nat.le_refl _) _).alloc (by simp) _
      have hb78 := hb7.trans (hb8.mono hb7.size)
      have HR8 := Lib.hid (HR6.out.below hb78)
      have HB68 := Lib.hid hb78
      have hs67 : w6.heap.size ≤ w7.heap.size := hb7.size
      have HN8 := Lib.hid (HN6.out.belowW hb78)
      have HX8 := Lib.hid ((hb78.block _ HZ6.out).trans HX6.out)
      have HB8 := Lib.hid (HB6.out.trans (hb78.mono HB6.out.size))
      have HW8 := Lib.hid (show ((w7.alloc (.cells #[.int .i64 (cntT 0 x : Nat), .int .i64 (cntT 1 x : Nat), .int .i64 (cntT 2 x : Nat), .int .i64 (cntT 3 x : Nat), .int .i64 (cntT 4 x : Nat)] 36)).alloc (.cells #[.int .i64 0, .int .i64 0, .int .i64 0, .int .i64 0, .int .i64 0] 36)).heap[w7.heap.size]? = some (.cells #[.int .i64 (cntT 0 x : Nat), .int .i64 (cntT 1 x : Nat), .int .i64 (cntT 2 x : Nat), .int .i64 (cntT 3 x : Nat), .int .i64 (cntT 4 x : Nat)] 36 (0, 0)) from (Below.heap_alloc _ _ _ (by simp)).trans (World.alloc_heap_new w7 _))
      have HG8 := Lib.hid (show ((w7.alloc (.cells #[.int .i64 (cntT 0 x : Nat), .int .i64 (cntT 1 x : Nat), .int .i64 (cntT 2 x : Nat), .int .i64 (cntT 3 x : Nat), .int .i64 (cntT 4 x : Nat)] 36)).alloc (.cells #[.int .i64 0, .int .i64 0, .int .i64 0, .int .i64 0, .int .i64 0] 36)).heap[w7.heap.size + 1]? = some (.cells #[.int .i64 (ofKind (kindN 0) (l.take 0) : Nat), .int .i64 (ofKind (kindN 1) (l.take 0) : Nat), .int .i64 (ofKind (kindN 2) (l.take 0) : Nat), .int .i64 (ofKind (kindN 3) (l.take 0) : Nat), .int .i64 (ofKind (kindN 4) (l.take 0) : Nat)] 36 (0, 0)) from by
        have := World.alloc_heap_new (w7.alloc (.cells #[.int .i64 (cntT 0 x : Nat), .int .i64 (cntT 1 x : Nat), .int .i64 (cntT 2 x : Nat), .int .i64 (cntT 3 x : Nat), .int .i64 (cntT 4 x : Nat)] 36)) (.cells #[.int .i64 0, .int .i64 0, .int .i64 0, .int .i64 0, .int .i64 0] 36)
        rwa [World.size_alloc] at this)
      have hwT : w.heap.size < w7.heap.size := Nat.lt_of_lt_of_le HZ6.out hb7.size
      clear hb7 hb8 hb78 p0 p1 p2 p3 p4 HCA
      go_upto_region 13 with fail
      generalize ((w7.alloc (.cells #[.int .i64 (cntT 0 x : Nat), .int .i64 (cntT 1 x : Nat), .int .i64 (cntT 2 x : Nat), .int .i64 (cntT 3 x : Nat), .int .i64 (cntT 4 x : Nat)] 36)).alloc (.cells #[.int .i64 0, .int .i64 0, .int .i64 0, .int .i64 0, .int .i64 0] 36)) = w8 at *
      go_wp2_with fail
      have HV8 := Lib.hid (Below.refl (w7.heap.size + 1) w8)
      have HS8 := Lib.hid (show w7.heap.size + 1 < w8.heap.size from (Array.getElem?_eq_some_iff.1 HG8.out).1)
      go_loopg [9] (l.length + 1) (fun gk iv wr => ∃ j : Nat, j + gk = l.length + 1 ∧ j ≤ l.length ∧ iv = .int .i64 j ∧ Hid (wr.heap[w7.heap.size + 1]? = some (.cells #[.int .i64 (ofKind (kindN 0) (l.take j) : Nat), .int .i64 (ofKind (kindN 1) (l.take j) : Nat), .int .i64 (ofKind (kindN 2) (l.take j) : Nat), .int .i64 (ofKind (kindN 3) (l.take j) : Nat), .int .i64 (ofKind (kindN 4) (l.take j) : Nat)] 36 (0, 0))) ∧ Hid (OffR (w7.heap.size + 1) w8 wr))
      case atStart => exact ⟨0, by omega, by omega, rfl, HG8, Lib.hid (OffR.refl _ _)⟩
      case round =>
        obtain ⟨j, hgk, hj, rfl, HG, HO⟩ := hrel
        have hg : gk = l.length + 1 - j := by omega
        subst hg
        have hbr := HB68.out.trans (HO.out.b.mono (by omega : w6.heap.size ≤ w7.heap.size + 1))
        by_cases hjl : j < l.length
        · have hj1 : (j : Int) < (l.length : Int) := by omega
          have d1 : decide ((j : Int) < (l.length : Int)) = true := decide_eq_true (by omega)
          obtain ⟨g, off, cap, he, x0, x1, x2, x3⟩ := toks_at (HR6.out.below hbr) hjl
          obtain ⟨rfl, rfl⟩ : va = some ⟨g, off, none⟩ ∧ vc = cap := by injection he with e1 e2 e3; exact ⟨e1, e3⟩
          have hle0 := Nat.le_trans (ofKind_le (kindN 0) (l.take j)) (List.length_take_le' j l)
          have hle1 := Nat.le_trans (ofKind_le (kindN 1) (l.take j)) (List.length_take_le' j l)
          have hle2 := Nat.le_trans (ofKind_le (kindN 2) (l.take j)) (List.length_take_le' j l)
          have hle3 := Nat.le_trans (ofKind_le (kindN 3) (l.take j)) (List.length_take_le' j l)
          have hle4 := Nat.le_trans (ofKind_le (kindN 4) (l.take j)) (List.length_take_le' j l)
          have hst0 := ofKind_take hjl (kindN 0)
          have hst1 := ofKind_take hjl (kindN 1)
          have hst2 := ofKind_take hjl (kindN 2)
          have hst3 := ofKind_take hjl (kindN 3)
          have hst4 := ofKind_take hjl (kindN 4)
          obtain ⟨kk, hkk⟩ : ∃ kk, kk = l[j].1 := ⟨_, rfl⟩
          rw [← hkk] at x0 hst0 hst1 hst2 hst3 hst4
          obtain ⟨n0, hn0⟩ : ∃ n, n = ofKind (kindN 0) (l.take j) := ⟨_, rfl⟩
          rw [← hn0] at hle0 hst0 HG
          obtain ⟨n1, hn1⟩ : ∃ n, n = ofKind (kindN 1) (l.take j) := ⟨_, rfl⟩
          rw [← hn1] at hle1 hst1 HG
          obtain ⟨n2, hn2⟩ : ∃ n, n = ofKind (kindN 2) (l.take j) := ⟨_, rfl⟩
          rw [← hn2] at hle2 hst2 HG
          obtain ⟨n3, hn3⟩ : ∃ n, n = ofKind (kindN 3) (l.take j) := ⟨_, rfl⟩
          rw [← hn3] at hle3 hst3 HG
          obtain ⟨n4, hn4⟩ : ∃ n, n = ofKind (kindN 4) (l.take j) := ⟨_, rfl⟩
          rw [← hn4] at hle4 hst4 HG
          obtain ⟨o0, o1, o2, o3, o4⟩ := cells5 HG.out
          obtain ⟨f0, f1, f2, f3, f4⟩ := cells5w HG.out
          have hlz := HLEN.out
          clear hbr he x1 x2 x3 hkk hn0 hn1 hn2 hn3 hn4
          by_cases e5 : kk = 5
          · have d5 : ((kk : Int) == 5) = true := beq_iff_eq.2 (by omega)
            have E0 : ofKind (kindN 0) (l.take (j + 1)) = n0 + 1 := by rw [hst0, e5]; rfl
            have E1 : ofKind (kindN 1) (l.take (j + 1)) = n1 := by rw [hst1, e5]; rfl
            have E2 : ofKind (kindN 2) (l.take (j + 1)) = n2 := by rw [hst2, e5]; rfl
            have E3 : ofKind (kindN 3) (l.take (j + 1)) = n3 := by rw [hst3, e5]; rfl
            have E4 : ofKind (kindN 4) (l.take (j + 1)) = n4 := by rw [hst4, e5]; rfl
            have HE := Lib.hid (And.intro E0 (And.intro E1 (And.intro E2 (And.intro E3 E4))))
            have HG2 := Lib.hid (fset0 (v := .int .i64 ((n0 : Int) + 1)) HG.out)
            have HO2 := Lib.hid (HO.out.trans (OffR.set (w7.heap.size + 1) 0 wr (.int .i64 ((n0 : Int) + 1))))
            clear E0 E1 E2 E3 E4 hst0 hst1 hst2 hst3 hst4 e5
            go_wp2_with fail
            go_roundg (l.length + 1 - (j + 1))
            case measure => omega
            case rel => exact ⟨j + 1, by omega, by omega, rfl, Lib.hid (by rw [HE.out.1, HE.out.2.1, HE.out.2.2.1, HE.out.2.2.2.1, HE.out.2.2.2.2]; exact HG2.out), HO2⟩
          · have d5 : ((kk : Int) == 5) = false := beq_eq_false_iff_ne.2 (by omega)
            by_cases e6 : kk = 6
            · have d6 : ((kk : Int) == 6) = true := beq_iff_eq.2 (by omega)
              have E0 : ofKind (kindN 0) (l.take (j + 1)) = n0 := by rw [hst0, e6]; rfl
              have E1 : ofKind (kindN 1) (l.take (j + 1)) = n1 + 1 := by rw [hst1, e6]; rfl
              have E2 : ofKind (kindN 2) (l.take (j + 1)) = n2 := by rw [hst2, e6]; rfl
              have E3 : ofKind (kindN 3) (l.take (j + 1)) = n3 := by rw [hst3, e6]; rfl
              have E4 : ofKind (kindN 4) (l.take (j + 1)) = n4 := by rw [hst4, e6]; rfl
              have HE := Lib.hid (And.intro E0 (And.intro E1 (And.intro E2 (And.intro E3 E4))))
              have HG2 := Lib.hid (fset1 (v := .int .i64 ((n1 : Int) + 1)) HG.out)
              have HO2 := Lib.hid (HO.out.trans (OffR.set (w7.heap.size + 1) 1 wr (.int .i64 ((n1 : Int) + 1))))
              clear E0 E1 E2 E3 E4 hst0 hst1 hst2 hst3 hst4 e5 e6
              go_wp2_with fail
              go_roundg (l.length + 1 - (j + 1))
              case measure => omega
              case rel => exact ⟨j + 1, by omega, by omega, rfl, Lib.hid (by rw [HE.out.1, HE.out.2.1, HE.out.2.2.1, HE.out.2.2.2.1, HE.out.2.2.2.2]; exact HG2.out), HO2⟩
            · have d6 : ((kk : Int) == 6) = false := beq_eq_false_iff_ne.2 (by omega)
              by_cases e7 : kk = 7
              · have d7 : ((kk : Int) == 7) = true := beq_iff_eq.2 (by omega)
                have E0 : ofKind (kindN 0) (l.take (j + 1)) = n0 := by rw [hst0, e7]; rfl
                have E1 : ofKind (kindN 1) (l.take (j + 1)) = n1 := by rw [hst1, e7]; rfl
                have E2 : ofKind (kindN 2) (l.take (j + 1)) = n2 + 1 := by rw [hst2, e7]; rfl
                have E3 : ofKind (kindN 3) (l.take (j + 1)) = n3 := by rw [hst3, e7]; rfl
                have E4 : ofKind (kindN 4) (l.take (j + 1)) = n4 := by rw [hst4, e7]; rfl
                have HE := Lib.hid (And.intro E0 (And.intro E1 (And.intro E2 (And.intro E3 E4))))
                have HG2 := Lib.hid (fset2 (v := .int .i64 ((n2 : Int) + 1)) HG.out)
                have HO2 := Lib.hid (HO.out.trans (OffR.set (w7.heap.size + 1) 2 wr (.int .i64 ((n2 : Int) + 1))))
                clear E0 E1 E2 E3 E4 hst0 hst1 hst2 hst3 hst4 e5 e6 e7
                go_wp2_with fail
                go_roundg (l.length + 1 - (j + 1))
                case measure => omega
                case rel => exact ⟨j + 1, by omega, by omega, rfl, Lib.hid (by rw [HE.out.1, HE.out.2.1, HE.out.2.2.1, HE.out.2.2.2.1, HE.out.2.2.2.2]; exact HG2.out), HO2⟩
              · have d7 : ((kk : Int) == 7) = false := beq_eq_false_iff_ne.2 (by omega)
                by_cases e4 : kk = 4
                · have d4 : ((kk : Int) == 4) = true := beq_iff_eq.2 (by omega)
                  have E0 : ofKind (kindN 0) (l.take (j + 1)) = n0 := by rw [hst0, e4]; rfl
                  have E1 : ofKind (kindN 1) (l.take (j + 1)) = n1 := by rw [hst1, e4]; rfl
                  have E2 : ofKind (kindN 2) (l.take (j + 1)) = n2 := by rw [hst2, e4]; rfl
                  have E3 : ofKind (kindN 3) (l.take (j + 1)) = n3 + 1 := by rw [hst3, e4]; rfl
                  have E4 : ofKind (kindN 4) (l.take (j + 1)) = n4 := by rw [hst4, e4]; rfl
                  have HE := Lib.hid (And.intro E0 (And.intro E1 (And.intro E2 (And.intro E3 E4))))
                  have HG2 := Lib.hid (fset3 (v := .int .i64 ((n3 : Int) + 1)) HG.out)
                  have HO2 := Lib.hid (HO.out.trans (OffR.set (w7.heap.size + 1) 3 wr (.int .i64 ((n3 : Int) + 1))))
                  clear E0 E1 E2 E3 E4 hst0 hst1 hst2 hst3 hst4 e5 e6 e7 e4
                  go_wp2_with fail
                  go_roundg (l.length + 1 - (j + 1))
                  case measure => omega
                  case rel => exact ⟨j + 1, by omega, by omega, rfl, Lib.hid (by rw [HE.out.1, HE.out.2.1, HE.out.2.2.1, HE.out.2.2.2.1, HE.out.2.2.2.2]; exact HG2.out), HO2⟩
                · have d4 : ((kk : Int) == 4) = false := beq_eq_false_iff_ne.2 (by omega)
                  by_cases e3 : kk = 3
                  · have d3 : ((kk : Int) == 3) = true := beq_iff_eq.2 (by omega)
                    have E0 : ofKind (kindN 0) (l.take (j + 1)) = n0 := by rw [hst0, e3]; rfl
                    have E1 : ofKind (kindN 1) (l.take (j + 1)) = n1 := by rw [hst1, e3]; rfl
                    have E2 : ofKind (kindN 2) (l.take (j + 1)) = n2 := by rw [hst2, e3]; rfl
                    have E3 : ofKind (kindN 3) (l.take (j + 1)) = n3 := by rw [hst3, e3]; rfl
                    have E4 : ofKind (kindN 4) (l.take (j + 1)) = n4 + 1 := by rw [hst4, e3]; rfl
                    have HE := Lib.hid (And.intro E0 (And.intro E1 (And.intro E2 (And.intro E3 E4))))
                    have HG2 := Lib.hid (fset4 (v := .int .i64 ((n4 : Int) + 1)) HG.out)
                    have HO2 := Lib.hid (HO.out.trans (OffR.set (w7.heap.size + 1) 4 wr (.int .i64 ((n4 : Int) + 1))))
                    clear E0 E1 E2 E3 E4 hst0 hst1 hst2 hst3 hst4 e5 e6 e7 e4 e3
                    go_wp2_with fail
                    go_roundg (l.length + 1 - (j + 1))
                    case measure => omega
                    case rel => exact ⟨j + 1, by omega, by omega, rfl, Lib.hid (by rw [HE.out.1, HE.out.2.1, HE.out.2.2.1, HE.out.2.2.2.1, HE.out.2.2.2.2]; exact HG2.out), HO2⟩
                  · have d3 : ((kk : Int) == 3) = false := beq_eq_false_iff_ne.2 (by omega)
                    have E0 : ofKind (kindN 0) (l.take (j + 1)) = n0 := by rw [hst0, if_neg (show ¬ kk = kindN 0 from e5)]; rfl
                    have E1 : ofKind (kindN 1) (l.take (j + 1)) = n1 := by rw [hst1, if_neg (show ¬ kk = kindN 1 from e6)]; rfl
                    have E2 : ofKind (kindN 2) (l.take (j + 1)) = n2 := by rw [hst2, if_neg (show ¬ kk = kindN 2 from e7)]; rfl
                    have E3 : ofKind (kindN 3) (l.take (j + 1)) = n3 := by rw [hst3, if_neg (show ¬ kk = kindN 3 from e4)]; rfl
                    have E4 : ofKind (kindN 4) (l.take (j + 1)) = n4 := by rw [hst4, if_neg (show ¬ kk = kindN 4 from e3)]; rfl
                    have HE := Lib.hid (And.intro E0 (And.intro E1 (And.intro E2 (And.intro E3 E4))))
                    clear E0 E1 E2 E3 E4 hst0 hst1 hst2 hst3 hst4 e5 e6 e7 e4 e3
                    go_wp2_with fail
                    go_roundg (l.length + 1 - (j + 1))
                    case measure => omega
                    case rel => exact ⟨j + 1, by omega, by omega, rfl, Lib.hid (by rw [HE.out.1, HE.out.2.1, HE.out.2.2.1, HE.out.2.2.2.1, HE.out.2.2.2.2]; exact HG.out), HO⟩
        · have d1 : decide ((j : Int) < (l.length : Int)) = false := decide_eq_false (by omega)
          have hjE : j = l.length := by omega
          subst hjE
          rw [List.take_length, HCN.out 0 (by decide), HCN.out 1 (by decide), HCN.out 2 (by decide), HCN.out 3 (by decide), HCN.out 4 (by decide)] at HG
          have HW := Lib.hid ((HO.out.same _ (by have := HS8.out; omega : w7.heap.size < w8.heap.size) (by omega)).trans HW8.out)
          have HX := Lib.hid ((HO.out.same _ (by have := HS8.out; omega : w.heap.size < w8.heap.size) (by omega)).trans HX8.out)
          have HRD := Lib.hid (HR6.out.below hbr.drew)
          have HND := Lib.hid (HN6.out.belowW hbr.drew)
          have HBD := Lib.hid ((HB6.out.trans (hbr.mono HB6.out.size)).drew)
          obtain ⟨a0, a1, a2, a3, a4⟩ := cells5 HG.out
          obtain ⟨b0, b1, b2, b3, b4⟩ := cells5 HW.out
          obtain ⟨c0, c1, c2, c3, c4⟩ := cells5 HX.out
          have heq := eq_five
          have hlz := HLEN.out
          clear hbr
          have d9 : decide ((l.foldl deepS (0, 0)).2 < (depthT 18 x : Int)) = true := decide_eq_true HDP.out
          go_upto_region 27 with fail
          refine E_region (S := (fun V => V.cell? ⟨w7.heap.size + 1, 0, none⟩ = some (.int .i64 (cntT 0 x : Nat)) ∧ V.cell? ⟨w7.heap.size + 1, 1, none⟩ = some (.int .i64 (cntT 1 x : Nat)) ∧ V.cell? ⟨w7.heap.size + 1, 2, none⟩ = some (.int .i64 (cntT 2 x : Nat)) ∧ V.cell? ⟨w7.heap.size + 1, 3, none⟩ = some (.int .i64 (cntT 3 x : Nat)) ∧ V.cell? ⟨w7.heap.size + 1, 4, none⟩ = some (.int .i64 (cntT 4 x : Nat)) ∧ V.cell? ⟨w7.heap.size, 0, none⟩ = some (.int .i64 (cntT 0 x : Nat)) ∧ V.cell? ⟨w7.heap.size, 1, none⟩ = some (.int .i64 (cntT 1 x : Nat)) ∧ V.cell? ⟨w7.heap.size, 2, none⟩ = some (.int .i64 (cntT 2 x : Nat)) ∧ V.cell? ⟨w7.heap.size, 3, none⟩ = some (.int .i64 (cntT 3 x : Nat)) ∧ V.cell? ⟨w7.heap.size, 4, none⟩ = some (.int .i64 (cntT 4 x : Nat)) ∧ V.cell? ⟨w.heap.size, 0, none⟩ = some (.int .u8 (x.kind : Int)) ∧ V.cell? ⟨w.heap.size, 1, none⟩ = some (.string x.text) ∧ V.cell? ⟨w.heap.size, 2, none⟩ = some (.slice ka x.keys.length kc) ∧ V.cell? ⟨w.heap.size, 3, none⟩ = some (.slice ba x.kids.length bc) ∧ V.cell? ⟨w.heap.size, 4, none⟩ = some (.int .i64 x.line) ∧ Hid (RdS V (.slice va l.length vc) 4 l.length (l.flatMap tokC)) ∧ Hid (NodeR V [.int .u8 (x.kind : Int), .string x.text, .slice ka x.keys.length kc, .slice ba x.kids.length bc, .int .i64 x.line] x) ∧ Hid (Below w.heap.size w V))) 10 (by kernel_rfl) ⟨a0, a1, a2, a3, a4, b0, b1, b2, b3, b4, c0, c1, c2, c3, c4, HRD, HND, HBD⟩ (fun _ _ _ _ _ h => h) (fun Q' hQ hK' hHeld => ?_)
          refine E_take hQ hHeld 0 (v := ?rwv1) rfl rfl (by kernel_rfl) (by kernel_rfl) (by kernel_rfl) (by kernel_rfl) (by kernel_rfl) (by rfl) ?rwy1 ?rwr1
          case rwy1 => (intro w hSw; (try dsimp only at hSw); go_simp; (try with_reducible rfl))
          (try simp only [layE])
          refine E_take hQ hHeld 1 (v := ?rwv2) rfl rfl (by kernel_rfl) (by kernel_rfl) (by kernel_rfl) (by kernel_rfl) (by kernel_rfl) (by rfl) ?rwy2 ?rwr2
          case rwy2 => (intro w hSw; (try dsimp only at hSw); go_simp; (try with_reducible rfl))
          (try simp only [layE])
          refine E_take0 hQ (fun _ => hHeld) 2 (v := .bool true) rfl rfl (by kernel_rfl) (by kernel_rfl) (by kernel_rfl) (by decide) (by rfl) ?rwy3 ?rwr3
          case rwy3 => (intro w; go_simp; (try first | exact heq _ _ _ _ _ w | rfl))
          (try simp only [layE])
          refine E_take0 hQ (fun _ => hHeld) 3 (v := ?rwv4) rfl rfl (by kernel_rfl) (by kernel_rfl) (by kernel_rfl) (by decide) (by rfl) ?rwy4 ?rwr4
          case rwy4 => (intro w; go_simp; (try with_reducible rfl))
          (try simp only [layE])
          refine E_take0 hQ (fun _ => hHeld) 4 (v := ?rwv5) rfl rfl (by kernel_rfl) (by kernel_rfl) (by kernel_rfl) (by decide) (by rfl) ?rwy5 ?rwr5
          case rwy5 => (intro w; go_simp; (try with_reducible rfl))
          (try simp only [layE])
          refine E_take hQ hHeld 6 (v := ?rwv6) rfl rfl (by kernel_rfl) (by kernel_rfl) (by kernel_rfl) (by kernel_rfl) (by kernel_rfl) (by rfl) ?rwy6 ?rwr6
          case rwy6 => (intro w hSw; (try dsimp only at hSw); go_simp; (try with_reducible rfl))
          (try simp only [layE])
          refine E_one 5 (by kernel_rfl) rfl (by rfl) (fun K hK => ?_)
          obtain ⟨ha0, ha1, ha2, ha3, ha4, hb0, hb1, hb2, hb3, hb4, hc0, hc1, hc2, hc3, hc4, hRR, hNN, hBB⟩ := hHeld
          go_simp
          refine (Deep_any l _ _ hRR.out (by omega)).mono ?_
          rintro e wq1 ⟨rfl, hbq1⟩
          have ka0 := cellB hbq1 ha0
          have ka1 := cellB hbq1 ha1
          have ka2 := cellB hbq1 ha2
          have ka3 := cellB hbq1 ha3
          have ka4 := cellB hbq1 ha4
          have kb0 := cellB hbq1 hb0
          have kb1 := cellB hbq1 hb1
          have kb2 := cellB hbq1 hb2
          have kb3 := cellB hbq1 hb3
          have kb4 := cellB hbq1 hb4
          have kc0 := cellB hbq1 hc0
          have kc1 := cellB hbq1 hc1
          have kc2 := cellB hbq1 hc2
          have kc3 := cellB hbq1 hc3
          have kc4 := cellB hbq1 hc4
          have HRq1 := Lib.hid (hRR.out.below hbq1)
          have HNq1 := Lib.hid (hNN.out.belowW hbq1)
          have HBq1 := Lib.hid (hBB.out.trans (hbq1.mono hBB.out.size))
          clear hbq1
          (skip)
          refine hK.out _ _ (fun _ _ => ⟨ka0, ka1, ka2, ka3, ka4, kb0, kb1, kb2, kb3, kb4, kc0, kc1, kc2, kc3, kc4, HRq1, HNq1, HBq1⟩) (fun hHeld' => ?_)
          replace hHeld := hHeld' (by rfl) (by decide)
          clear hK hHeld'
          (try simp only [layE])
          refine E_one 7 (by kernel_rfl) rfl (by rfl) (fun K hK => ?_)
          obtain ⟨ha0, ha1, ha2, ha3, ha4, hb0, hb1, hb2, hb3, hb4, hc0, hc1, hc2, hc3, hc4, hRR, hNN, hBB⟩ := hHeld
          go_simp
          refine (Depth_any x _ _ hNN.out).mono ?_
          rintro e wq2 ⟨rfl, hbq2⟩
          have ka0 := cellB hbq2 ha0
          have ka1 := cellB hbq2 ha1
          have ka2 := cellB hbq2 ha2
          have ka3 := cellB hbq2 ha3
          have ka4 := cellB hbq2 ha4
          have kb0 := cellB hbq2 hb0
          have kb1 := cellB hbq2 hb1
          have kb2 := cellB hbq2 hb2
          have kb3 := cellB hbq2 hb3
          have kb4 := cellB hbq2 hb4
          have kc0 := cellB hbq2 hc0
          have kc1 := cellB hbq2 hc1
          have kc2 := cellB hbq2 hc2
          have kc3 := cellB hbq2 hc3
          have kc4 := cellB hbq2 hc4
          have HRq2 := Lib.hid (hRR.out.below hbq2)
          have HNq2 := Lib.hid (hNN.out.belowW hbq2)
          have HBq2 := Lib.hid (hBB.out.trans (hbq2.mono hBB.out.size))
          clear hbq2
          (skip)
          refine hK.out _ _ (fun _ _ => ⟨ka0, ka1, ka2, ka3, ka4, kb0, kb1, kb2, kb3, kb4, kc0, kc1, kc2, kc3, kc4, HRq2, HNq2, HBq2⟩) (fun hHeld' => ?_)
          replace hHeld := hHeld' (by rfl) (by decide)
          clear hK hHeld'
          (try simp only [layE])
          refine E_take0 hQ (fun _ => hHeld) 8 (v := .bool true) rfl rfl (by kernel_rfl) (by kernel_rfl) (by kernel_rfl) (by decide) (by rfl) ?rwy7 ?rwr7
          case rwy7 => (intro w; go_simp; (try first | exact congrArg _ d9 | rfl))
          (try simp only [layE])
          refine E_take0 hQ (fun _ => hHeld) 9 (v := .bool true) rfl rfl (by kernel_rfl) (by kernel_rfl) (by kernel_rfl) (by decide) (by rfl) ?rwy8 ?rwr8
          case rwy8 => (intro w; go_simp; (try rfl))
          (try simp only [layE])
          refine E_one 10 (by kernel_rfl) rfl (by rfl) (fun K hK => ?_)
          have hBB := hHeld.2.2.2.2.2.2.2.2.2.2.2.2.2.2.2.2.2.out
          have HBE := Lib.hid hBB
          go_simp
          (try simp only [layE])
          refine hK.out _ _ (fun _ h => absurd rfl h) (fun _ => ?_)
          clear hK hHeld
          (try simp only [layE])
          refine E_done (by kernel_rfl) ?_ _
          refine hK'.out _ _ ?_
          go_wp2_with fail
          go_ret
          exact ⟨rfl, HBE.out⟩
end Go.Proofs.YtdhgcgejdoedbaaGreatDoor
