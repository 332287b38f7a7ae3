/-
  def: text, number, builder: contracts.
-/
import Derived.Laws.EntriesVeiled
import Derived.Test.YtgafjjgnbcjmpaaBq12
import Derived.Test.YtgafjjgnbcjmpaaBq13
import Derived.Test.YtgafjjgnbcjmpaaBq14
import Derived.Test.YtgafjjgnbcjmpaaBq17
namespace Go.Proofs.Ytgafjjgnbcjmpaa
open Go Go.RowKit Go.WideShapes

set_option maxRecDepth 100000 in
theorem dtext_any (s : ByteArray) (w : World) :
    Calls Try.prog 20 #[.string s] w fun e w' => e = .returned (.agg #[.int .u8 1, .string s, .slice none 0 0, .slice none 0 0, .int .i64 0]) ∧ Below w.heap.size w w' := by
  go_enter Try.func20, Try.ntmps20
  go_wp2
  refine bodyPost_ret (v := .agg #[.int .u8 1, .string s, .slice none 0 0, .slice none 0 0, .int .i64 0]) (by simp [results, Try.results20, go_sem]) rfl ⟨rfl, ?_⟩
  exact (Below.refl _ _).alloc (Nat.le_refl _) _
def zeroN : Array Value := #[.int .u8 0, .string { data := #[] }, .slice none 0 0, .slice none 0 0, .int .i64 0]
set_option maxRecDepth 100000 in
theorem dnumber_any (n : Int) (w : World) :
    Calls Try.prog 43 #[.int .i64 n] w fun e w' => e = .returned (.agg #[.int .u8 1, .string (digS n), .slice none 0 0, .slice none 0 0, .int .i64 0]) ∧ Below w.heap.size w w' := by
  have HD := Lib.hid (fun W => Digits_any n W)
  generalize digS n = s at *
  have hb0 : Below w.heap.size w (w.alloc (.cells #[.int .u8 0, .string { data := #[] }, .slice none 0 0, .slice none 0 0, .int .i64 0] 34)) := (Below.refl _ w).alloc (Nat.le_refl _) _
  have g0 := World.alloc_heap_new w (.cells #[.int .u8 0, .string { data := #[] }, .slice none 0 0, .slice none 0 0, .int .i64 0] 34)
  generalize hwz : w.alloc (.cells #[.int .u8 0, .string { data := #[] }, .slice none 0 0, .slice none 0 0, .int .i64 0] 34) = wz at *
  have G0 := Lib.hid g0
  have hlt := (Array.getElem?_eq_some_iff.1 g0).1
  clear g0
  go_enter Try.func43, Try.ntmps43
  go_wp2_with fail
  refine (HD.out _).mono ?_
  rintro e w1 ⟨rfl, hb1⟩
  go_wp2_with fail
  refine (dtext_any s _).mono ?_
  rintro e w2 ⟨rfl, hb2⟩
  have hb12 := bthen hb1 (Nat.le_refl _) hb2
  have hbw := bthen hb0 (Nat.le_refl _) hb12
  have g2 := (hb12.block _ hlt).trans G0.out
  obtain ⟨q0, q1, q2, q3, q4⟩ := cells5 g2
  obtain ⟨f0, f1, f2, f3, f4⟩ := cells5w g2
  have G2 := Lib.hid g2
  clear g2
  go_wp2
  have hset := set5w (x0 := .int .u8 1) (x1 := .string s) (x2 := .slice none 0 0) (x3 := .slice none 0 0) (x4 := .int .i64 0) G2.out
  have hbf := set5w_below (x0 := .int .u8 1) (x1 := .string s) (x2 := .slice none 0 0) (x3 := .slice none 0 0) (x4 := .int .i64 0) hbw (B := w.heap.size) (Nat.le_refl _)
  clear q0 q1 q2 q3 q4 f0 f1 f2 f3 f4
  generalize ((((w2.setCell ⟨w.heap.size, 0, none⟩ (.int .u8 1)).setCell ⟨w.heap.size, 1, none⟩ (.string s)).setCell ⟨w.heap.size, 2, none⟩ (.slice none 0 0)).setCell ⟨w.heap.size, 3, none⟩ (.slice none 0 0)).setCell ⟨w.heap.size, 4, none⟩ (.int .i64 0) = wf at *
  obtain ⟨y0, y1, y2, y3, y4⟩ := cells5 hset
  refine bodyPost_ret (v := .agg #[.int .u8 1, .string s, .slice none 0 0, .slice none 0 0, .int .i64 0]) (by simp [results, Try.results43, go_sem, y0, y1, y2, y3, y4]) rfl ⟨rfl, hbf⟩

set_option maxRecDepth 100000 in
theorem builder_any (w : World) :
    Calls Try.prog 19 #[] w fun e w' => e = .returned (.tuple #[.pointer (some ⟨w.heap.size, 0, none⟩), .func (.func 44) #[] #[.pointer (some ⟨w.heap.size + 1, 0, none⟩)]]) ∧
      (w.alloc (.cells #[.int .u8 3, .string { data := #[] }, .slice none 0 0, .slice none 0 0, .int .i64 0] 34)).alloc (.cells #[.pointer (some ⟨w.heap.size, 0, none⟩)] 53) = w' := by
  go_enter Try.func19, Try.ntmps19
  go_wp2
  go_ret2
  exact ⟨rfl, rfl⟩
end Go.Proofs.Ytgafjjgnbcjmpaa

/-
  def.builder's function that puts a key: contract.
-/
namespace Go.Proofs.Ytgafjjgnbcjmpaa
open Go Go.RowKit Go.WideShapes

theorem newS (W : World) (t : TypeId) (s : ByteArray) : ∀ j u, [Value.string s][j]? = some u → (W.alloc (.cells #[.string s] t)).cell? ((⟨W.heap.size, 0, none⟩ : Addr).add j) = some u := World.news_of_block (World.alloc_heap_new W (.cells #[.string s] t))
theorem heldVN {W W' : World} {p q : Addr} {a b : Value} (h : W.cell? p = some a ∧ W.cell? q = some b) (hb : Below W.heap.size W W') : W'.cell? p = some a ∧ W'.cell? q = some b := ⟨cellB hb h.1, cellB hb h.2⟩
theorem heldVNK {W W' : World} {p q r0 r1 r2 r3 r4 : Addr} {a b c0 c1 c2 c3 c4 : Value} (h : W.cell? p = some a ∧ W.cell? q = some b ∧ W.cell? r0 = some c0 ∧ W.cell? r1 = some c1 ∧ W.cell? r2 = some c2 ∧ W.cell? r3 = some c3 ∧ W.cell? r4 = some c4) (hb : Below W.heap.size W W') :
    W'.cell? p = some a ∧ W'.cell? q = some b ∧ W'.cell? r0 = some c0 ∧ W'.cell? r1 = some c1 ∧ W'.cell? r2 = some c2 ∧ W'.cell? r3 = some c3 ∧ W'.cell? r4 = some c4 := ⟨cellB hb h.1, cellB hb h.2.1, cellB hb h.2.2.1, cellB hb h.2.2.2.1, cellB hb h.2.2.2.2.1, cellB hb h.2.2.2.2.2.1, cellB hb h.2.2.2.2.2.2⟩

/-- The builder's two blocks. -/
structure Bld (w : World) (N V : Nat) (k : Int) (t : ByteArray) (vk vc : Value) (ln : Int) : Prop where
  node : w.heap[N]? = some (.cells #[.int .u8 k, .string t, vk, vc, .int .i64 ln] 34 (0, 0))
  ptr : Boxed w V 53 (.pointer (some ⟨N, 0, none⟩))
theorem Bld.below {w w' : World} {N V : Nat} {k : Int} {t : ByteArray} {vk vc : Value} {ln : Int} (h : Bld w N V k t vk vc ln) (hb : Below w.heap.size w w') : Bld w' N V k t vk vc ln :=
  ⟨(hb.block _ (Array.getElem?_eq_some_iff.1 h.node).1).trans h.node, (hb.block _ h.ptr.lt).trans h.ptr⟩
theorem Bld.grown {w w' : World} {N V : Nat} {k : Int} {t : ByteArray} {vk vc : Value} {ln : Int} (h : Bld w N V k t vk vc ln) {row : Option Nat} (hg : w.grownBy w' row) (hN : row ≠ some N) (hV : row ≠ some V) : Bld w' N V k t vk vc ln :=
  ⟨(hg.block _ (Array.getElem?_eq_some_iff.1 h.node).1 (fun e => hN e.symm)).trans h.node, (hg.block _ h.ptr.lt (fun e => hV e.symm)).trans h.ptr⟩
theorem Bld.setK {w : World} {N V : Nat} {k : Int} {t : ByteArray} {vk vc x : Value} {ln : Int} (h : Bld w N V k t vk vc ln) (hne : V ≠ N) : Bld (w.setCell ⟨N, 2, none⟩ x) N V k t x vc ln :=
  ⟨by simp [World.setCell, h.node, Array.getElem?_modify], (Below.heap_setCell _ _ _ _ hne).trans h.ptr⟩
theorem Bld.setC {w : World} {N V : Nat} {k : Int} {t : ByteArray} {vk vc x : Value} {ln : Int} (h : Bld w N V k t vk vc ln) (hne : V ≠ N) : Bld (w.setCell ⟨N, 3, none⟩ x) N V k t vk x ln :=
  ⟨by simp [World.setCell, h.node, Array.getElem?_modify], (Below.heap_setCell _ _ _ _ hne).trans h.ptr⟩
theorem Bld.cells {w : World} {N V : Nat} {k : Int} {t : ByteArray} {vk vc : Value} {ln : Int} (h : Bld w N V k t vk vc ln) : w.cell? ⟨V, 0, none⟩ = some (.pointer (some ⟨N, 0, none⟩)) ∧ w.cell? ⟨N, 2, none⟩ = some vk ∧ w.cell? ⟨N, 3, none⟩ = some vc ∧ w.frozen? ⟨N, 2, none⟩ = false ∧ w.frozen? ⟨N, 3, none⟩ = false :=
  ⟨h.ptr.cell, (cells5 h.node).2.2.1, (cells5 h.node).2.2.2.1, (cells5w h.node).2.2.1, (cells5w h.node).2.2.2.1⟩

theorem Bld.other5 {w : World} {N V g i : Nat} {k : Int} {t : ByteArray} {vk vc c0 c1 c2 c3 c4 : Value} {ln : Int} (h : Bld w N V k t vk vc ln) (h1 : N ≠ g) (h2 : V ≠ g) :
    Bld (((((w.setCell ⟨g, i, none⟩ c0).setCell ⟨g, i + 1, none⟩ c1).setCell ⟨g, i + 2, none⟩ c2).setCell ⟨g, i + 3, none⟩ c3).setCell ⟨g, i + 4, none⟩ c4) N V k t vk vc ln :=
  ⟨by rw [Below.heap_setCell _ _ _ _ h1, Below.heap_setCell _ _ _ _ h1, Below.heap_setCell _ _ _ _ h1, Below.heap_setCell _ _ _ _ h1, Below.heap_setCell _ _ _ _ h1]; exact h.node, by
    show (World.heap _)[V]? = _
    rw [Below.heap_setCell _ _ _ _ h2, Below.heap_setCell _ _ _ _ h2, Below.heap_setCell _ _ _ _ h2, Below.heap_setCell _ _ _ _ h2, Below.heap_setCell _ _ _ _ h2]; exact h.ptr⟩

/-- Half of a put: the key is there. -/
theorem MapB.frmZ {w : World} {B0 : Nat} {Z : Nat → Prop} {vk vc : Value} {keys : List ByteArray} {kids : List Tree} (h : MapB w B0 Z vk vc keys kids) {N i : Nat} {x : Value} (hz : Z N) : MapB (w.setCell ⟨N, i, none⟩ x) B0 Z vk vc keys kids :=
  h.frm (fun g _ hg => Below.heap_setCell _ _ _ _ (fun e => hg (by rw [show g = N from e]; exact hz))) (by simp)

/-- The kid behind the others, its cells written one by one. -/
theorem MapB.pushC5 {w w1 w2 w3 : World} {B0 N g cap : Nat} {Z : Nat → Prop} {vk vc c0 c1 c2 c3 c4 z0 z1 z2 z3 z4 : Value} {keys : List ByteArray} {kids : List Tree} {kid : Tree} (h : MapB w B0 Z vk vc keys kids) (hb : Below w.heap.size w w1) (hkid : NodeO w1 (okB Z w1 vk vc) [c0, c1, c2, c3, c4] kid) (hg : w1.grownBy w2 vc.ownBlock)
    {xs : List Value} (hxs : w1.ownsRow B0 34 5 vc kids.length xs) (hown : w2.ownsRow B0 34 5 (.slice (some ⟨g, 0, none⟩) (kids.length + 1) cap) (kids.length + 1) (xs ++ [z0, z1, z2, z3, z4])) (hv' : vc.ownBlock = some g ∨ g = w1.heap.size) (hZ : ∀ g, Z g → g < w1.heap.size) (hZN : Z N)
    (hf : ∀ g, g ≠ N → w3.heap[g]? = w2.heap[g]?) (hs : w3.heap.size = w2.heap.size) :
    MapB (((((w3.setCell ⟨g, kids.length * 5, none⟩ c0).setCell ⟨g, kids.length * 5 + 1, none⟩ c1).setCell ⟨g, kids.length * 5 + 2, none⟩ c2).setCell ⟨g, kids.length * 5 + 3, none⟩ c3).setCell ⟨g, kids.length * 5 + 4, none⟩ c4) B0 Z vk (.slice (some ⟨g, 0, none⟩) (kids.length + 1) cap) keys (kids ++ [kid]) := by
  have h5 := own_last5 (c0 := c0) (c1 := c1) (c2 := c2) (c3 := c3) (c4 := c4) hown hxs.1
  have gs : ∀ (W : World) (j : Nat) (x : Value), w1.grownBy W vc.ownBlock → w1.grownBy (W.setCell ⟨g, j, none⟩ x) vc.ownBlock := fun W j x hW => ⟨hW.os, hW.tape, hW.output, by simp; exact hW.size, fun i hi hne => by
    have hig : i ≠ g := by
      rintro rfl
      rcases hv' with h | h
      · exact hne h.symm
      · omega
    rw [Below.heap_setCell _ _ _ _ hig]
    exact hW.block i hi hne⟩
  have hg' := gs _ (kids.length * 5 + 4) c4 (gs _ (kids.length * 5 + 3) c3 (gs _ (kids.length * 5 + 2) c2 (gs _ (kids.length * 5 + 1) c1 (gs _ (kids.length * 5) c0 hg))))
  refine (h.pushC hb hkid hg' hxs h5 (by rcases hv' with h | h; exact .inl (by rw [h]; rfl); exact .inr (by rw [h]; rfl)) hZ).frm (fun i _ hz => ?_) (by simp; omega)
  have hiN : i ≠ N := fun e => hz (e ▸ hZN)
  have e0 := hf i hiN
  simp only [World.setCell, Array.getElem?_modify, e0]

set_option maxRecDepth 100000 in
set_option maxHeartbeats 4000000 in
theorem put_yes (N V B0 lo : Nat) (Z : Nat → Prop) (key : ByteArray) (kid : Tree) (keys : List ByteArray) (kids : List Tree) (vk vc : Value) (cs : List Value) (k : Int) (t : ByteArray) (ln : Int) (w : World)
    (hm : MapB w B0 Z vk vc keys kids) (hB : Bld w N V k t vk vc ln) (hkid : NodeO w (okB Z w vk vc) cs kid) (hZN : Z N) (hZV : Z V) (hZlt : ∀ g, Z g → g < w.heap.size) (hNV : V ≠ N) (hlo : lo ≤ N) (hlo2 : lo ≤ B0) (hB0 : B0 ≤ w.heap.size) (hk1 : keys.length ≤ 1000) (hk2 : kids.length ≤ 1000000) (hkey : key.size ≤ maxLen) :
    Calls Try.prog 44 #[.bool true, .string key, .agg cs.toArray, .pointer (some ⟨V, 0, none⟩)] w fun e w' => e = .returned (.tuple #[]) ∧ ∃ vk' vc', MapB w' B0 Z vk' vc' (keys ++ [key]) (kids ++ [kid]) ∧ Bld w' N V k t vk' vc' ln ∧ Below lo w w' := by
  obtain ⟨i0, hi, hz0, hz1, hz2⟩ := info_parts Try.info_node
  obtain ⟨j0, hj, hy0, hy1, hy2⟩ := info_parts Try.info_str
  obtain ⟨ka1, kc1, ba1, bc1, rfl⟩ := hkid.cells
  obtain ⟨ka, kc, ba, bc, rfl, rfl⟩ := hm.form
  have hb0 : Below w.heap.size w (w.alloc (.cells #[.int .u8 (kid.kind : Int), .string kid.text, .slice ka1 kid.keys.length kc1, .slice ba1 kid.kids.length bc1, .int .i64 kid.line] 34)) := (Below.refl _ w).alloc (Nat.le_refl _) _
  have g0 := World.alloc_heap_new w (.cells #[.int .u8 (kid.kind : Int), .string kid.text, .slice ka1 kid.keys.length kc1, .slice ba1 kid.kids.length bc1, .int .i64 kid.line] 34)
  have hszz : (w.alloc (.cells #[.int .u8 (kid.kind : Int), .string kid.text, .slice ka1 kid.keys.length kc1, .slice ba1 kid.kids.length bc1, .int .i64 kid.line] 34)).heap.size = w.heap.size + 1 := by simp
  generalize hwz : w.alloc (.cells #[.int .u8 (kid.kind : Int), .string kid.text, .slice ka1 kid.keys.length kc1, .slice ba1 kid.kids.length bc1, .int .i64 kid.line] 34) = wz at *
  have hBz := hB.below hb0
  have hmz := hm.below hb0
  obtain ⟨v0, n2, n3, f2, f3⟩ := hBz.cells
  have HSZ := Lib.hid hszz
  have HBZ := Lib.hid hBz
  have HMZ := Lib.hid hmz
  have HM := Lib.hid hm
  have HG0 := Lib.hid g0
  have HKID := Lib.hid hkid
  have HKO := Lib.hid hmz.kown
  have HZL := Lib.hid hZlt
  have hszl : w.heap.size ≤ wz.heap.size := by omega
  clear hm hB hkid hBz hmz g0 hszz hZlt
  go_enter Try.func44, Try.ntmps44
  go_wp2
  refine E_region (S := (fun W => W.cell? ⟨V, 0, none⟩ = some (.pointer (some ⟨N, 0, none⟩)) ∧ W.cell? ⟨N, 2, none⟩ = some (.slice ka keys.length kc))) 10 (by kernel_rfl) ⟨v0, n2⟩ (fun _ _ _ _ _ h => h) (fun Q' hQ hK' hHeld => ?_)
  refine E_take hQ hHeld 0 (v := ?ev1) rfl rfl (by kernel_rfl) (by kernel_rfl) (by kernel_rfl) (by kernel_rfl) (by kernel_rfl) (by rfl) ?ey1 ?er1
  case ey1 => (intro w hSw; (try dsimp only at hSw); go_simp; (try with_reducible rfl))
  (try simp only [Act.put, List.setIfInBounds_toArray, List.set_cons_zero, List.set_cons_succ])
  refine E_take hQ hHeld 1 (v := ?ev2) rfl rfl (by kernel_rfl) (by kernel_rfl) (by kernel_rfl) (by kernel_rfl) (by kernel_rfl) (by rfl) ?ey2 ?er2
  case ey2 => (intro w hSw; (try dsimp only at hSw); go_simp; (try with_reducible rfl))
  (try simp only [Act.put, List.setIfInBounds_toArray, List.set_cons_zero, List.set_cons_succ])
  refine E_take0 hQ (fun _ => hHeld) 2 (v := ?ev3) rfl rfl (by kernel_rfl) (by kernel_rfl) (by kernel_rfl) (by decide) (by rfl) ?ey3 ?er3
  case ey3 => (intro w; go_simp; (try with_reducible rfl))
  (try simp only [Act.put, List.setIfInBounds_toArray, List.set_cons_zero, List.set_cons_succ])
  refine E_take0 hQ (fun _ => hHeld) 3 (v := ?ev4) rfl rfl (by kernel_rfl) (by kernel_rfl) (by kernel_rfl) (by decide) (by rfl) ?ey4 ?er4
  case ey4 => (intro w; go_simp; (try with_reducible rfl))
  (try simp only [Act.put, List.setIfInBounds_toArray, List.set_cons_zero, List.set_cons_succ])
  refine E_take hQ hHeld 4 (v := ?ev5) rfl rfl (by kernel_rfl) (by kernel_rfl) (by kernel_rfl) (by kernel_rfl) (by kernel_rfl) (by rfl) ?ey5 ?er5
  case ey5 => (intro w hSw; (try dsimp only at hSw); go_simp; (try with_reducible rfl))
  (try simp only [Act.put, List.setIfInBounds_toArray, List.set_cons_zero, List.set_cons_succ])
  refine E_take0 hQ (fun _ => hHeld) 5 (v := ?ev6) rfl rfl (by kernel_rfl) (by kernel_rfl) (by kernel_rfl) (by decide) (by rfl) ?ey6 ?er6
  case ey6 => (intro w; go_simp; (try with_reducible rfl))
  (try simp only [Act.put, List.setIfInBounds_toArray, List.set_cons_zero, List.set_cons_succ])
  refine E_one 6 (by kernel_rfl) rfl (by rfl) (fun K hK => ?_)
  go_simp
  have h6 : Below wz.heap.size wz (wz.alloc (.cells #[.string key] 9)).drew := ((Below.refl _ _).alloc (Nat.le_refl _) _).drew
  (try simp only [Act.put, List.setIfInBounds_toArray, List.set_cons_zero, List.set_cons_succ])
  refine hK.out _ _ (fun _ _ => heldVN hHeld ((Below.refl _ _).alloc (Nat.le_refl _) _)) (fun hHeld' => ?_)
  replace hHeld := hHeld' (by rfl) (by decide)
  clear hK hHeld'
  (try simp only [Act.put, List.setIfInBounds_toArray, List.set_cons_zero, List.set_cons_succ])
  refine E_one 7 (by kernel_rfl) rfl (by rfl) (fun K hK => ?_)
  refine wp_append_lies _ (.tmp 12) (.tmp 14) 31 (by rfl) B0 9 j0 (.string { data := #[] }) 1 16 Try.underlying31 hj hy0 hy1 hy2 rfl (by decide) _ keys.length (strsV keys) (by rfl) (ownsB HKO.out h6) ⟨wz.heap.size, 0, none⟩ 1 1 _ (by rfl) rfl (newS _ _ _) (by simp [Value.oneCell']) (by omega) (by unfold maxLen; omega) (by omega) (by simp [World.drew]; omega) _ rfl ?_
  intro g7 cap7 w7 hown7 hgrow hat hlt7
  have hB7 := (HBZ.out.below h6).grown hgrow (fun e => HM.out.kZ _ e hZN) (fun e => HM.out.kZ _ e hZV)
  obtain ⟨v7, m7, -, e7, -⟩ := hB7.cells
  have HG7 := Lib.hid hgrow
  have HO7 := Lib.hid hown7
  have HB7 := Lib.hid hB7
  have HAT7 := Lib.hid hat
  have H6 := Lib.hid h6
  clear hgrow hown7 hB7 hat h6
  (try simp only [Act.put, List.setIfInBounds_toArray, List.set_cons_zero, List.set_cons_succ])
  refine hK.out _ _ (fun _ _ => ⟨v7, m7⟩) (fun hHeld' => ?_)
  replace hHeld := hHeld' (by rfl) (by decide)
  clear hK hHeld'
  (try simp only [Act.put, List.setIfInBounds_toArray, List.set_cons_zero, List.set_cons_succ])
  refine E_take0 hQ (fun _ => hHeld) 8 (v := ?ev7) rfl rfl (by kernel_rfl) (by kernel_rfl) (by kernel_rfl) (by decide) (by rfl) ?ey7 ?er7
  case ey7 => (intro w; go_simp; (try with_reducible rfl))
  (try simp only [Act.put, List.setIfInBounds_toArray, List.set_cons_zero, List.set_cons_succ])
  refine E_take0 hQ (fun _ => hHeld) 9 (v := ?ev8) rfl rfl (by kernel_rfl) (by kernel_rfl) (by kernel_rfl) (by decide) (by rfl) ?ey8 ?er8
  case ey8 => (intro w; go_simp; (try with_reducible rfl))
  (try simp only [Act.put, List.setIfInBounds_toArray, List.set_cons_zero, List.set_cons_succ])
  refine E_one 10 (by kernel_rfl) rfl (by rfl) (fun K hK => ?_)
  go_simp
  (try simp only [Act.put, List.setIfInBounds_toArray, List.set_cons_zero, List.set_cons_succ])
  refine hK.out _ _ (fun _ h => absurd rfl h) (fun _ => ?_)
  clear hK hHeld
  (try simp only [Act.put, List.setIfInBounds_toArray, List.set_cons_zero, List.set_cons_succ])
  refine E_done (by kernel_rfl) ?_ _
  refine hK'.out _ _ ?_
  have hm7 : MapB w7 B0 Z (.slice (some ⟨g7, 0, none⟩) (keys.length + 1) cap7) (.slice ba kids.length bc) (keys ++ [key]) kids := HMZ.out.pushK H6.out HG7.out HO7.out (by rcases HAT7.out with h | h; exact .inl (by rw [h]; rfl); exact .inr (by rw [h]; rfl)) (fun g hg => by have := HZL.out g hg; simp [World.drew]; omega) hkey
  have hm8 := hm7.frmZ (N := N) (i := 2) (x := .slice (some ⟨g7, 0, none⟩) (keys.length + 1) cap7) hZN
  have hB8 := HB7.out.setK (x := .slice (some ⟨g7, 0, none⟩) (keys.length + 1) cap7) hNV
  have hlok : ∀ j, (Value.slice ka keys.length kc).ownBlock = some j → lo ≤ j := fun j ej => by have := (HM.out.kown.lt j ej).1; omega
  have hbl8 : Below lo w (w7.setCell ⟨N, 2, none⟩ (.slice (some ⟨g7, 0, none⟩) (keys.length + 1) cap7)) := (((hb0.mono (by omega)).trans (H6.out.mono (by omega))).grown HG7.out (by simp [World.drew]; omega) hlok).setCell (p := ⟨N, 2, none⟩) hlo _
  have gk8 : (w7.setCell ⟨N, 2, none⟩ (.slice (some ⟨g7, 0, none⟩) (keys.length + 1) cap7)).heap[w.heap.size]? = some (.cells #[.int .u8 (kid.kind : Int), .string kid.text, .slice ka1 kid.keys.length kc1, .slice ba1 kid.kids.length bc1, .int .i64 kid.line] 34 (0, 0)) := by
    have hNl := (Array.getElem?_eq_some_iff.1 HBZ.out.node).1
    rw [Below.heap_setCell _ _ _ _ (by show w.heap.size ≠ N; have := HZL.out N hZN; omega), HG7.out.block _ (by have := HSZ.out; simp [World.drew]; omega) (fun e => by have := (HM.out.kown.lt _ e.symm).2; omega), H6.out.block _ (by have := HSZ.out; omega)]
    exact HG0.out
  have hsz8 : w.heap.size + 1 ≤ (w7.setCell ⟨N, 2, none⟩ (.slice (some ⟨g7, 0, none⟩) (keys.length + 1) cap7)).heap.size := by have h1 := (Array.getElem?_eq_some_iff.1 gk8).1; omega
  have hold8 : ∀ g, g < w.heap.size → ¬ Z g → (Value.slice ka keys.length kc).ownBlock ≠ some g → (w7.setCell ⟨N, 2, none⟩ (.slice (some ⟨g7, 0, none⟩) (keys.length + 1) cap7)).heap[g]? = w.heap[g]? := fun g hl hz hne => by
    rw [Below.heap_setCell _ _ _ _ (by show g ≠ N; rintro rfl; exact hz hZN), HG7.out.block g (by have := HSZ.out; simp [World.drew]; omega) (fun e => hne e.symm), H6.out.block g (by omega), hb0.block g hl]
  have hnew8 : ∀ g, (Value.slice (some ⟨g7, 0, none⟩) (keys.length + 1) cap7).ownBlock = some g → (Value.slice ka keys.length kc).ownBlock = some g ∨ w.heap.size < g := fun g hg => by
    rcases HAT7.out with h | h
    · left; rw [h]; simpa [Value.ownBlock] using hg
    · right; have : g7 = g := by simpa [Value.ownBlock] using hg
      have h2 := HSZ.out; rw [← this, h]; simp [World.drew]; omega
  clear v0 n2 n3 f2 f3 v7 m7 e7
  generalize hw8 : w7.setCell ⟨N, 2, none⟩ (.slice (some ⟨g7, 0, none⟩) (keys.length + 1) cap7) = w8 at *
  clear hw8
  obtain ⟨v0, n2, n3, f2, f3⟩ := hB8.cells
  obtain ⟨y0, y1, y2, y3, y4⟩ := cells5 gk8
  have HM8 := Lib.hid hm8
  have HB8 := Lib.hid hB8
  have HBL8 := Lib.hid hbl8
  have HGK8 := Lib.hid gk8
  have HOLD8 := Lib.hid hold8
  have HNEW8 := Lib.hid hnew8
  have HBZL := Lib.hid hb0
  clear hm7 hm8 hB8 hbl8 gk8 hold8 hnew8 hlok hwz hb0
  go_wp2
  go_region
  · have hb9 : Below w8.heap.size w8 (w8.alloc (.cells #[.bool false] 4)).drew := ((Below.refl _ _).alloc (Nat.le_refl _) _).drew
    have hsz9 : (w8.alloc (.cells #[.bool false] 4)).drew.heap.size = w8.heap.size + 1 := by simp [World.drew]
    clear v0 n2 n3 f2 f3 y0 y1 y2 y3 y4
    generalize hw9 : (w8.alloc (.cells #[.bool false] 4)).drew = w9 at *
    have hB9 := HB8.out.below hb9
    have hm9 := HM8.out.below hb9
    have gk9 := (hb9.block _ (Array.getElem?_eq_some_iff.1 HGK8.out).1).trans HGK8.out
    have hKO9 : NodeO w9 (okB Z w9 (.slice (some ⟨g7, 0, none⟩) (keys.length + 1) cap7) (.slice ba kids.length bc)) [.int .u8 (kid.kind : Int), .string kid.text, .slice ka1 kid.keys.length kc1, .slice ba1 kid.kids.length bc1, .int .i64 kid.line] kid := HKID.out.keep (fun g hP _ => by rw [hb9.block g (by have := hP.1; omega), HOLD8.out g hP.1 hP.2.1 hP.2.2.1]) (fun g hP => ⟨by have := hP.1; omega, hP.2.1, fun e => by
      rcases HNEW8.out g e with h | h
      · exact hP.2.2.1 h
      · have := hP.1; omega, hP.2.2.2⟩)
    obtain ⟨v0, n2, n3, f2, f3⟩ := hB9.cells
    obtain ⟨y0, y1, y2, y3, y4⟩ := cells5 gk9
    have HM9 := Lib.hid hm9
    have HGK9 := Lib.hid gk9
    have HBK : Hid (∀ g, (Value.slice ba kids.length bc).ownBlock = some g → g ≠ w.heap.size) := Lib.hid (fun g hg e => by have := (HM.out.cown).choose_spec.2.1.lt g hg; omega)
    have HB9 := Lib.hid hB9
    have HB9L := Lib.hid hb9
    have HKO9 := Lib.hid hKO9
    have HSZ9 := Lib.hid hsz9
    have hszl9 : w8.heap.size ≤ w9.heap.size := by omega
    obtain ⟨rows, hr1, hr2, hr3⟩ := hm9.cown
    have HRO := Lib.hid hr2
    have HR1 := Lib.hid hr1
    have hcZ := Lib.hid hm9.cZ
    have hZ9 : Hid (∀ g, Z g → g < w9.heap.size) := Lib.hid (fun g hg => by have := HZL.out g hg; omega)
    have hlo9 := Lib.hid (fun j (ej : (Value.slice ba kids.length bc).ownBlock = some j) => show lo ≤ j by have := (hr2.lt j ej).1; omega)
    clear hb9 hsz9 hB9 hm9 gk9 hKO9 hr1 hr2 hr3 hw9
    go_wp2
    refine E_region (S := (fun W => W.cell? ⟨V, 0, none⟩ = some (.pointer (some ⟨N, 0, none⟩)) ∧ W.cell? ⟨N, 3, none⟩ = some (.slice ba kids.length bc) ∧ W.cell? ⟨w.heap.size, 0, none⟩ = some (.int .u8 (kid.kind : Int)) ∧ W.cell? ⟨w.heap.size, 1, none⟩ = some (.string kid.text) ∧ W.cell? ⟨w.heap.size, 2, none⟩ = some (.slice ka1 kid.keys.length kc1) ∧ W.cell? ⟨w.heap.size, 3, none⟩ = some (.slice ba1 kid.kids.length bc1) ∧ W.cell? ⟨w.heap.size, 4, none⟩ = some (.int .i64 kid.line))) 10 (by kernel_rfl) ⟨v0, n3, y0, y1, y2, y3, y4⟩ (fun _ _ _ _ _ h => h) (fun Q' hQ hK' hHeld => ?_)
    refine E_take hQ hHeld 0 (v := ?fv1) rfl rfl (by kernel_rfl) (by kernel_rfl) (by kernel_rfl) (by kernel_rfl) (by kernel_rfl) (by rfl) ?fy1 ?fr1
    case fy1 => (intro w hSw; (try dsimp only at hSw); go_simp; (try with_reducible rfl))
    (try simp only [Act.put, List.setIfInBounds_toArray, List.set_cons_zero, List.set_cons_succ])
    refine E_take hQ hHeld 1 (v := ?fv2) rfl rfl (by kernel_rfl) (by kernel_rfl) (by kernel_rfl) (by kernel_rfl) (by kernel_rfl) (by rfl) ?fy2 ?fr2
    case fy2 => (intro w hSw; (try dsimp only at hSw); go_simp; (try with_reducible rfl))
    (try simp only [Act.put, List.setIfInBounds_toArray, List.set_cons_zero, List.set_cons_succ])
    refine E_take0 hQ (fun _ => hHeld) 2 (v := ?fv3) rfl rfl (by kernel_rfl) (by kernel_rfl) (by kernel_rfl) (by decide) (by rfl) ?fy3 ?fr3
    case fy3 => (intro w; go_simp; (try with_reducible rfl))
    (try simp only [Act.put, List.setIfInBounds_toArray, List.set_cons_zero, List.set_cons_succ])
    refine E_take0 hQ (fun _ => hHeld) 3 (v := ?fv4) rfl rfl (by kernel_rfl) (by kernel_rfl) (by kernel_rfl) (by decide) (by rfl) ?fy4 ?fr4
    case fy4 => (intro w; go_simp; (try with_reducible rfl))
    (try simp only [Act.put, List.setIfInBounds_toArray, List.set_cons_zero, List.set_cons_succ])
    refine E_take hQ hHeld 4 (v := ?fv5) rfl rfl (by kernel_rfl) (by kernel_rfl) (by kernel_rfl) (by kernel_rfl) (by kernel_rfl) (by rfl) ?fy5 ?fr5
    case fy5 => (intro w hSw; (try dsimp only at hSw); go_simp; (try with_reducible rfl))
    (try simp only [Act.put, List.setIfInBounds_toArray, List.set_cons_zero, List.set_cons_succ])
    refine E_take hQ hHeld 5 (v := ?fv6) rfl rfl (by kernel_rfl) (by kernel_rfl) (by kernel_rfl) (by kernel_rfl) (by kernel_rfl) (by rfl) ?fy6 ?fr6
    case fy6 => (intro w hSw; (try dsimp only at hSw); go_simp; (try with_reducible rfl))
    (try simp only [Act.put, List.setIfInBounds_toArray, List.set_cons_zero, List.set_cons_succ])
    refine E_one 6 (by kernel_rfl) rfl (by rfl) (fun K hK => ?_)
    go_simp
    have h10 : Below w9.heap.size w9 (w9.alloc (.cells #[.int .u8 (kid.kind : Int), .string kid.text, .slice ka1 kid.keys.length kc1, .slice ba1 kid.kids.length bc1, .int .i64 kid.line] 34)).drew := ((Below.refl _ _).alloc (Nat.le_refl _) _).drew
    (try simp only [Act.put, List.setIfInBounds_toArray, List.set_cons_zero, List.set_cons_succ])
    refine hK.out _ _ (fun _ _ => heldVNK hHeld ((Below.refl _ _).alloc (Nat.le_refl _) _)) (fun hHeld' => ?_)
    replace hHeld := hHeld' (by rfl) (by decide)
    clear hK hHeld'
    (try simp only [Act.put, List.setIfInBounds_toArray, List.set_cons_zero, List.set_cons_succ])
    refine E_one 7 (by kernel_rfl) rfl (by rfl) (fun K hK => ?_)
    refine wp_append_lies _ (.tmp 35) (.tmp 37) 32 (by rfl) B0 34 i0 (.agg #[.int .u8 0, .string { data := #[] }, .slice none 0 0, .slice none 0 0, .int .i64 0]) 5 80 Try.underlying32 hi hz0 hz1 hz2 rfl (by decide) _ kids.length rows.flatten (by rfl) (ownsB HRO.out h10) ⟨w9.heap.size, 0, none⟩ 1 1 _ (by rfl) rfl (World.news_of_block (World.alloc_heap_new w9 _)) (by simp [Value.oneCell']) (by omega) (by unfold maxLen; omega) (by omega) (by simp [World.drew]; omega) _ rfl ?_
    intro g11 cap11 w11 hown11 hgrow11 hat11 hlt11
    have hB11 := (HB9.out.below h10).grown hgrow11 (fun e => hcZ.out _ e hZN) (fun e => hcZ.out _ e hZV)
    obtain ⟨v11, -, m11, -, e11⟩ := hB11.cells
    have HG11 := Lib.hid hgrow11
    have HO11 := Lib.hid hown11
    have HB11 := Lib.hid hB11
    have HAT11 := Lib.hid hat11
    have H10 := Lib.hid h10
    have hk11 := (HG11.out.block w.heap.size (by have h1 := (Array.getElem?_eq_some_iff.1 HGK8.out).1; have h2 := h10.size; omega) (fun e => by have := (HRO.out.lt _ e.symm); have := HBK.out _ e.symm; omega)).trans ((h10.block _ (by have h1 := (Array.getElem?_eq_some_iff.1 HGK8.out).1; omega)).trans HGK9.out)
    obtain ⟨z0, z1, z2, z3, z4⟩ := cells5 hk11
    clear hgrow11 hown11 hB11 hat11 h10 hk11
    (try simp only [Act.put, List.setIfInBounds_toArray, List.set_cons_zero, List.set_cons_succ])
    refine hK.out _ _ (fun _ _ => ⟨v11, m11, z0, z1, z2, z3, z4⟩) (fun hHeld' => ?_)
    replace hHeld := hHeld' (by rfl) (by decide)
    clear hK hHeld'
    (try simp only [Act.put, List.setIfInBounds_toArray, List.set_cons_zero, List.set_cons_succ])
    refine E_take0 hQ (fun _ => hHeld) 8 (v := ?fv7) rfl rfl (by kernel_rfl) (by kernel_rfl) (by kernel_rfl) (by decide) (by rfl) ?fy7 ?fr7
    case fy7 => (intro w; go_simp; (try with_reducible rfl))
    (try simp only [Act.put, List.setIfInBounds_toArray, List.set_cons_zero, List.set_cons_succ])
    refine E_take0 hQ (fun _ => hHeld) 9 (v := ?fv8) rfl rfl (by kernel_rfl) (by kernel_rfl) (by kernel_rfl) (by decide) (by rfl) ?fy8 ?fr8
    case fy8 => (intro w; go_simp; (try with_reducible rfl))
    (try simp only [Act.put, List.setIfInBounds_toArray, List.set_cons_zero, List.set_cons_succ])
    refine E_one 10 (by kernel_rfl) rfl (by rfl) (fun K hK => ?_)
    go_simp
    (try simp only [Act.put, List.setIfInBounds_toArray, List.set_cons_zero, List.set_cons_succ])
    refine hK.out _ _ (fun _ h => absurd rfl h) (fun _ => ?_)
    clear hK hHeld
    (try simp only [Act.put, List.setIfInBounds_toArray, List.set_cons_zero, List.set_cons_succ])
    refine E_done (by kernel_rfl) ?_ _
    refine hK'.out _ _ ?_
    have hm11 : MapB w11 B0 Z (.slice (some ⟨g7, 0, none⟩) (keys.length + 1) cap7) (.slice (some ⟨g11, 0, none⟩) (kids.length + 1) cap11) (keys ++ [key]) (kids ++ [kid]) := HM9.out.pushC H10.out (HKO9.out.keep (fun g hP hl => H10.out.block g hl) (fun g hP => ⟨by have := hP.1; have := H10.out.size; omega, hP.2⟩)) HG11.out (ownsB HRO.out H10.out) HO11.out (by rcases HAT11.out with h | h; exact .inl (by rw [h]; rfl); exact .inr (by rw [h]; rfl)) (fun g hg => by have := hZ9.out g hg; have := H10.out.size; omega)
    have HFM := Lib.hid (hm11.frmZ (N := N) (i := 3) (x := .slice (some ⟨g11, 0, none⟩) (kids.length + 1) cap11) hZN)
    have HFB := Lib.hid (HB11.out.setC (x := .slice (some ⟨g11, 0, none⟩) (kids.length + 1) cap11) hNV)
    have HBN := Lib.hid ((((HBL8.out.trans (HB9L.out.mono (by have h1 := (Array.getElem?_eq_some_iff.1 HGK8.out).1; omega))).trans (H10.out.mono (by have h1 := (Array.getElem?_eq_some_iff.1 HGK8.out).1; omega))).grown HG11.out (by have h1 := (Array.getElem?_eq_some_iff.1 HGK8.out).1; have := H10.out.size; omega) hlo9.out).setCell (p := ⟨N, 3, none⟩) hlo (.slice (some ⟨g11, 0, none⟩) (kids.length + 1) cap11))
    clear v0 n2 n3 f2 f3 y0 y1 y2 y3 y4 v11 m11 e11 z0 z1 z2 z3 z4 hm11
    go_wp2
    go_end0
    exact ⟨rfl, _, _, HFM.out, HFB.out, HBN.out⟩
  · have hb9 : Below w8.heap.size w8 (w8.alloc (.cells #[.bool true] 4)).drew := ((Below.refl _ _).alloc (Nat.le_refl _) _).drew
    have hsz9 : (w8.alloc (.cells #[.bool true] 4)).drew.heap.size = w8.heap.size + 1 := by simp [World.drew]
    clear v0 n2 n3 f2 f3 y0 y1 y2 y3 y4
    generalize hw9 : (w8.alloc (.cells #[.bool true] 4)).drew = w9 at *
    have hB9 := HB8.out.below hb9
    have hm9 := HM8.out.below hb9
    have gk9 := (hb9.block _ (Array.getElem?_eq_some_iff.1 HGK8.out).1).trans HGK8.out
    have hKO9 : NodeO w9 (okB Z w9 (.slice (some ⟨g7, 0, none⟩) (keys.length + 1) cap7) (.slice ba kids.length bc)) [.int .u8 (kid.kind : Int), .string kid.text, .slice ka1 kid.keys.length kc1, .slice ba1 kid.kids.length bc1, .int .i64 kid.line] kid := HKID.out.keep (fun g hP _ => by rw [hb9.block g (by have := hP.1; omega), HOLD8.out g hP.1 hP.2.1 hP.2.2.1]) (fun g hP => ⟨by have := hP.1; omega, hP.2.1, fun e => by
      rcases HNEW8.out g e with h | h
      · exact hP.2.2.1 h
      · have := hP.1; omega, hP.2.2.2⟩)
    obtain ⟨v0, n2, n3, f2, f3⟩ := hB9.cells
    obtain ⟨y0, y1, y2, y3, y4⟩ := cells5 gk9
    have HM9 := Lib.hid hm9
    have HGK9 := Lib.hid gk9
    have HBK : Hid (∀ g, (Value.slice ba kids.length bc).ownBlock = some g → g ≠ w.heap.size) := Lib.hid (fun g hg e => by have := (HM.out.cown).choose_spec.2.1.lt g hg; omega)
    have HB9 := Lib.hid hB9
    have HB9L := Lib.hid hb9
    have HKO9 := Lib.hid hKO9
    have HSZ9 := Lib.hid hsz9
    have hszl9 : w8.heap.size ≤ w9.heap.size := by omega
    obtain ⟨rows, hr1, hr2, hr3⟩ := hm9.cown
    have HRO := Lib.hid hr2
    have HR1 := Lib.hid hr1
    have hcZ := Lib.hid hm9.cZ
    have hZ9 : Hid (∀ g, Z g → g < w9.heap.size) := Lib.hid (fun g hg => by have := HZL.out g hg; omega)
    have hlo9 := Lib.hid (fun j (ej : (Value.slice ba kids.length bc).ownBlock = some j) => show lo ≤ j by have := (hr2.lt j ej).1; omega)
    clear hb9 hsz9 hB9 hm9 gk9 hKO9 hr1 hr2 hr3 hw9
    go_wp2
    refine E_region (S := (fun W => W.cell? ⟨V, 0, none⟩ = some (.pointer (some ⟨N, 0, none⟩)) ∧ W.cell? ⟨N, 3, none⟩ = some (.slice ba kids.length bc) ∧ W.cell? ⟨w.heap.size, 0, none⟩ = some (.int .u8 (kid.kind : Int)) ∧ W.cell? ⟨w.heap.size, 1, none⟩ = some (.string kid.text) ∧ W.cell? ⟨w.heap.size, 2, none⟩ = some (.slice ka1 kid.keys.length kc1) ∧ W.cell? ⟨w.heap.size, 3, none⟩ = some (.slice ba1 kid.kids.length bc1) ∧ W.cell? ⟨w.heap.size, 4, none⟩ = some (.int .i64 kid.line))) 10 (by kernel_rfl) ⟨v0, n3, y0, y1, y2, y3, y4⟩ (fun _ _ _ _ _ h => h) (fun Q' hQ hK' hHeld => ?_)
    refine E_take hQ hHeld 0 (v := ?gv1) rfl rfl (by kernel_rfl) (by kernel_rfl) (by kernel_rfl) (by kernel_rfl) (by kernel_rfl) (by rfl) ?gy1 ?gr1
    case gy1 => (intro w hSw; (try dsimp only at hSw); go_simp; (try with_reducible rfl))
    (try simp only [Act.put, List.setIfInBounds_toArray, List.set_cons_zero, List.set_cons_succ])
    refine E_take0 hQ (fun _ => hHeld) 1 (v := ?gv2) rfl rfl (by kernel_rfl) (by kernel_rfl) (by kernel_rfl) (by decide) (by rfl) ?gy2 ?gr2
    case gy2 => (intro w; go_simp; (try with_reducible rfl))
    (try simp only [Act.put, List.setIfInBounds_toArray, List.set_cons_zero, List.set_cons_succ])
    refine E_take0 hQ (fun _ => hHeld) 2 (v := ?gv3) rfl rfl (by kernel_rfl) (by kernel_rfl) (by kernel_rfl) (by decide) (by rfl) ?gy3 ?gr3
    case gy3 => (intro w; go_simp; (try with_reducible rfl))
    (try simp only [Act.put, List.setIfInBounds_toArray, List.set_cons_zero, List.set_cons_succ])
    refine E_take hQ hHeld 3 (v := ?gv4) rfl rfl (by kernel_rfl) (by kernel_rfl) (by kernel_rfl) (by kernel_rfl) (by kernel_rfl) (by rfl) ?gy4 ?gr4
    case gy4 => (intro w hSw; (try dsimp only at hSw); go_simp; (try with_reducible rfl))
    (try simp only [Act.put, List.setIfInBounds_toArray, List.set_cons_zero, List.set_cons_succ])
    refine E_take hQ hHeld 4 (v := ?gv5) rfl rfl (by kernel_rfl) (by kernel_rfl) (by kernel_rfl) (by kernel_rfl) (by kernel_rfl) (by rfl) ?gy5 ?gr5
    case gy5 => (intro w hSw; (try dsimp only at hSw); go_simp; (try with_reducible rfl))
    (try simp only [Act.put, List.setIfInBounds_toArray, List.set_cons_zero, List.set_cons_succ])
    refine E_take0 hQ (fun _ => hHeld) 5 (v := ?gv6) rfl rfl (by kernel_rfl) (by kernel_rfl) (by kernel_rfl) (by decide) (by rfl) ?gy6 ?gr6
    case gy6 => (intro w; go_simp; (try with_reducible rfl))
    (try simp only [Act.put, List.setIfInBounds_toArray, List.set_cons_zero, List.set_cons_succ])
    refine E_one 6 (by kernel_rfl) rfl (by rfl) (fun K hK => ?_)
    go_simp
    have h10 : Below w9.heap.size w9 (w9.alloc (.cells #[.int .u8 0, .string { data := #[] }, .slice none 0 0, .slice none 0 0, .int .i64 0] 34)).drew := ((Below.refl _ _).alloc (Nat.le_refl _) _).drew
    (try simp only [Act.put, List.setIfInBounds_toArray, List.set_cons_zero, List.set_cons_succ])
    refine hK.out _ _ (fun _ _ => heldVNK hHeld ((Below.refl _ _).alloc (Nat.le_refl _) _)) (fun hHeld' => ?_)
    replace hHeld := hHeld' (by rfl) (by decide)
    clear hK hHeld'
    (try simp only [Act.put, List.setIfInBounds_toArray, List.set_cons_zero, List.set_cons_succ])
    refine E_one 7 (by kernel_rfl) rfl (by rfl) (fun K hK => ?_)
    refine wp_append_lies _ (.tmp 23) (.tmp 26) 32 (by rfl) B0 34 i0 (.agg #[.int .u8 0, .string { data := #[] }, .slice none 0 0, .slice none 0 0, .int .i64 0]) 5 80 Try.underlying32 hi hz0 hz1 hz2 rfl (by decide) _ kids.length rows.flatten (by rfl) (ownsB HRO.out h10) ⟨w9.heap.size, 0, none⟩ 1 1 _ (by rfl) rfl (World.news_of_block (World.alloc_heap_new w9 _)) (by simp [Value.oneCell']) (by omega) (by unfold maxLen; omega) (by omega) (by simp [World.drew]; omega) _ rfl ?_
    intro g11 cap11 w11 hown11 hgrow11 hat11 hlt11
    have hB11 := (HB9.out.below h10).grown hgrow11 (fun e => hcZ.out _ e hZN) (fun e => hcZ.out _ e hZV)
    obtain ⟨v11, -, m11, -, e11⟩ := hB11.cells
    have HG11 := Lib.hid hgrow11
    have HO11 := Lib.hid hown11
    have HB11 := Lib.hid hB11
    have HAT11 := Lib.hid hat11
    have H10 := Lib.hid h10
    have hk11 := (HG11.out.block w.heap.size (by have h1 := (Array.getElem?_eq_some_iff.1 HGK8.out).1; have h2 := h10.size; omega) (fun e => by have := (HRO.out.lt _ e.symm); have := HBK.out _ e.symm; omega)).trans ((h10.block _ (by have h1 := (Array.getElem?_eq_some_iff.1 HGK8.out).1; omega)).trans HGK9.out)
    obtain ⟨z0, z1, z2, z3, z4⟩ := cells5 hk11
    clear hgrow11 hown11 hB11 hat11 h10 hk11
    (try simp only [Act.put, List.setIfInBounds_toArray, List.set_cons_zero, List.set_cons_succ])
    refine hK.out _ _ (fun _ _ => ⟨v11, m11, z0, z1, z2, z3, z4⟩) (fun hHeld' => ?_)
    replace hHeld := hHeld' (by rfl) (by decide)
    clear hK hHeld'
    (try simp only [Act.put, List.setIfInBounds_toArray, List.set_cons_zero, List.set_cons_succ])
    refine E_take0 hQ (fun _ => hHeld) 8 (v := ?gv7) rfl rfl (by kernel_rfl) (by kernel_rfl) (by kernel_rfl) (by decide) (by rfl) ?gy7 ?gr7
    case gy7 => (intro w; go_simp; (try with_reducible rfl))
    (try simp only [Act.put, List.setIfInBounds_toArray, List.set_cons_zero, List.set_cons_succ])
    refine E_take0 hQ (fun _ => hHeld) 9 (v := ?gv8) rfl rfl (by kernel_rfl) (by kernel_rfl) (by kernel_rfl) (by decide) (by rfl) ?gy8 ?gr8
    case gy8 => (intro w; go_simp; (try with_reducible rfl))
    (try simp only [Act.put, List.setIfInBounds_toArray, List.set_cons_zero, List.set_cons_succ])
    refine E_one 10 (by kernel_rfl) rfl (by rfl) (fun K hK => ?_)
    go_simp
    (try simp only [Act.put, List.setIfInBounds_toArray, List.set_cons_zero, List.set_cons_succ])
    refine hK.out _ _ (fun _ h => absurd rfl h) (fun _ => ?_)
    clear hK hHeld
    (try simp only [Act.put, List.setIfInBounds_toArray, List.set_cons_zero, List.set_cons_succ])
    refine E_done (by kernel_rfl) ?_ _
    refine hK'.out _ _ ?_
    have hxl : rows.flatten.length = kids.length * 5 := HRO.out.1
    have hNg : N ≠ g11 := fun e => by
      have h1 := (HO11.out.lt g11 rfl).1
      rcases HAT11.out with h | h
      · exact hcZ.out g11 h (e ▸ hZN)
      · have h2 := hZ9.out N hZN; have h3 := H10.out.size; omega
    have hNg2 : ∀ i, (⟨N, 3, none⟩ : Addr) ≠ ⟨g11, i, none⟩ := fun i e => by injection e with e _; exact hNg e
    have hO12 := ownsRow_keepB (w' := w11.setCell ⟨N, 3, none⟩ (.slice (some ⟨g11, 0, none⟩) (kids.length + 1) cap11)) HO11.out (fun g hg => Below.heap_setCell _ _ _ _ (by
      have : g11 = g := (by simpa [Value.ownBlock] using hg)
      rw [← this]; exact fun e => hNg e.symm))
    have hlast : Hid _ := Lib.hid (fun c0 c1 c2 c3 c4 : Value => own_last5 (c0 := c0) (c1 := c1) (c2 := c2) (c3 := c3) (c4 := c4) hO12 hxl)
    have hc : ∀ i, i < 5 → ∃ x, (w11.setCell ⟨N, 3, none⟩ (.slice (some ⟨g11, 0, none⟩) (kids.length + 1) cap11)).cell? ⟨g11, kids.length * 5 + i, none⟩ = some x := fun i hi => by
      rw [hO12.cellAt _ (by omega), List.getElem?_append_right (by omega)]
      exact ⟨_, List.getElem?_eq_getElem (by rw [hxl]; simp; omega)⟩
    obtain ⟨a0, ha0⟩ := hc 0 (by decide)
    obtain ⟨a1, ha1⟩ := hc 1 (by decide)
    obtain ⟨a2, ha2⟩ := hc 2 (by decide)
    obtain ⟨a3, ha3⟩ := hc 3 (by decide)
    obtain ⟨a4, ha4⟩ := hc 4 (by decide)
    replace ha0 : (w11.setCell ⟨N, 3, none⟩ (.slice (some ⟨g11, 0, none⟩) (kids.length + 1) cap11)).cell? ⟨g11, kids.length * 5, none⟩ = some a0 := ha0
    have b0 := hO12.frozenAt (kids.length * 5)
    have b1 := hO12.frozenAt (kids.length * 5 + 1)
    have b2 := hO12.frozenAt (kids.length * 5 + 2)
    have b3 := hO12.frozenAt (kids.length * 5 + 3)
    have b4 := hO12.frozenAt (kids.length * 5 + 4)
    clear hc hO12 v0 n2 n3 f2 f3 y0 y1 y2 y3 y4 v11 m11 e11 z0 z1 z2 z3 z4
    have hBL12 : Below lo w (w11.setCell ⟨N, 3, none⟩ (.slice (some ⟨g11, 0, none⟩) (kids.length + 1) cap11)) := ((((HBL8.out.trans (HB9L.out.mono (by have h1 := (Array.getElem?_eq_some_iff.1 HGK8.out).1; omega))).trans (H10.out.mono (by have h1 := (Array.getElem?_eq_some_iff.1 HGK8.out).1; omega))).grown HG11.out (by have h1 := (Array.getElem?_eq_some_iff.1 HGK8.out).1; have := H10.out.size; omega) hlo9.out).setCell (p := ⟨N, 3, none⟩) hlo (.slice (some ⟨g11, 0, none⟩) (kids.length + 1) cap11))
    have hFB12 := HB11.out.setC (x := .slice (some ⟨g11, 0, none⟩) (kids.length + 1) cap11) hNV
    have hoth : ∀ g, g ≠ N → (w11.setCell ⟨N, 3, none⟩ (.slice (some ⟨g11, 0, none⟩) (kids.length + 1) cap11)).heap[g]? = w11.heap[g]? := fun g hg => Below.heap_setCell _ _ _ _ hg
    have hsz12 : (w11.setCell ⟨N, 3, none⟩ (.slice (some ⟨g11, 0, none⟩) (kids.length + 1) cap11)).heap.size = w11.heap.size := by simp
    generalize hw12 : w11.setCell ⟨N, 3, none⟩ (.slice (some ⟨g11, 0, none⟩) (kids.length + 1) cap11) = w12 at *
    have HBL12 := Lib.hid hBL12
    have HFB12 := Lib.hid hFB12
    have HOTH := Lib.hid hoth
    have HSZ12 := Lib.hid hsz12
    have hi0' : (0 : Int) ≤ (kids.length : Int) := by omega
    have hi1' : (kids.length : Int) < ((kids.length + 1 : Nat) : Int) := by omega
    have hi2' : (kids.length : Int) < (kids.length : Int) + 1 := by omega
    have HNG := Lib.hid hNg
    have HXL := Lib.hid hxl
    clear hBL12 hFB12 hoth hsz12 hw12 hNg hNg2 hxl
    go_wp2
    have hm15 := Lib.hid (HM9.out.pushC5 (c0 := .int .u8 (kid.kind : Int)) (c1 := .string kid.text) (c2 := .slice ka1 kid.keys.length kc1) (c3 := .slice ba1 kid.kids.length bc1) (c4 := .int .i64 kid.line) H10.out (HKO9.out.keep (fun g hP hl => H10.out.block g hl) (fun g hP => ⟨by have := hP.1; have := H10.out.size; omega, hP.2⟩)) HG11.out (ownsB HRO.out H10.out) HO11.out HAT11.out (fun g hg => by have := hZ9.out g hg; have := H10.out.size; omega) hZN HOTH.out HSZ12.out)
    have hgl := (HO11.out.lt g11 rfl).1
    have hgV : V ≠ g11 := fun e => by
      rcases HAT11.out with h | h
      · exact hcZ.out g11 h (e ▸ hZV)
      · have h2 := hZ9.out V hZV; have h3 := H10.out.size; omega
    have hBL15 := Lib.hid (((((HBL12.out.setCell (p := ⟨g11, kids.length * 5, none⟩) (by show lo ≤ g11; omega) (.int .u8 (kid.kind : Int))).setCell (p := ⟨g11, kids.length * 5 + 1, none⟩) (by show lo ≤ g11; omega) (.string kid.text)).setCell (p := ⟨g11, kids.length * 5 + 2, none⟩) (by show lo ≤ g11; omega) (.slice ka1 kid.keys.length kc1)).setCell (p := ⟨g11, kids.length * 5 + 3, none⟩) (by show lo ≤ g11; omega) (.slice ba1 kid.kids.length bc1)).setCell (p := ⟨g11, kids.length * 5 + 4, none⟩) (by show lo ≤ g11; omega) (.int .i64 kid.line))
    have hFB15 := Lib.hid (HFB12.out.other5 (i := kids.length * 5) (c0 := .int .u8 (kid.kind : Int)) (c1 := .string kid.text) (c2 := .slice ka1 kid.keys.length kc1) (c3 := .slice ba1 kid.kids.length bc1) (c4 := .int .i64 kid.line) (HNG.out) hgV)
    clear ha0 ha1 ha2 ha3 ha4 b0 b1 b2 b3 b4 hlast
    go_end0
    exact ⟨rfl, _, _, hm15.out, hFB15.out, hBL15.out⟩
end Go.Proofs.Ytgafjjgnbcjmpaa

/-
  def.builder's function, def.row, def.retry: contracts.
-/
namespace Go.Proofs.Ytgafjjgnbcjmpaa
open Go Go.RowKit Go.WideShapes

set_option maxRecDepth 100000 in
theorem put_no (_N V : Nat) (key : ByteArray) (kid : Tree) (cs : List Value) (P : Nat → Prop) (w : World) (hkid : NodeO w P cs kid) :
    Calls Try.prog 44 #[.bool false, .string key, .agg cs.toArray, .pointer (some ⟨V, 0, none⟩)] w fun e w' => e = .returned (.tuple #[]) ∧ Below w.heap.size w w' := by
  obtain ⟨ka1, kc1, ba1, bc1, rfl⟩ := hkid.cells
  have hb0 : Below w.heap.size w (w.alloc (.cells #[.int .u8 (kid.kind : Int), .string kid.text, .slice ka1 kid.keys.length kc1, .slice ba1 kid.kids.length bc1, .int .i64 kid.line] 34)) := (Below.refl _ w).alloc (Nat.le_refl _) _
  generalize hwz : w.alloc (.cells #[.int .u8 (kid.kind : Int), .string kid.text, .slice ka1 kid.keys.length kc1, .slice ba1 kid.kids.length bc1, .int .i64 kid.line] 34) = wz at *
  clear hkid
  go_enter Try.func44, Try.ntmps44
  go_wp2
  go_end0
  exact ⟨rfl, hb0⟩

/-- A row, with a thing behind it if it is to be there. -/
def consIf {α : Type} (b : Bool) (l : List α) (x : α) : List α := if b then l ++ [x] else l
theorem consIf_len {α : Type} (b : Bool) (l : List α) (x : α) : (consIf b l x).length ≤ l.length + 1 := by cases b <;> simp [consIf]
/-- A put, whether the key is to be there or not; the builder's blocks lie below B0, its rows from B0 on. -/
structure Built (w : World) (N B0 : Nat) (keys : List ByteArray) (kids : List Tree) : Prop where
  ex : ∃ vk vc, MapB w B0 (fun g => g < B0) vk vc keys kids ∧ Bld w N (N + 1) 3 { data := #[] } vk vc 0
  lt : N + 1 < B0
  le : B0 ≤ w.heap.size
  k1 : keys.length ≤ 20
  k2 : kids.length ≤ 20
theorem Built.below {w w' : World} {N B0 : Nat} {keys : List ByteArray} {kids : List Tree} (h : Built w N B0 keys kids) (hb : Below w.heap.size w w') : Built w' N B0 keys kids := by
  obtain ⟨vk, vc, h1, h2⟩ := h.ex
  exact ⟨⟨vk, vc, h1.below hb, h2.below hb⟩, h.lt, by have := h.le; have := hb.size; omega, h.k1, h.k2⟩
theorem NodeO.okIn {w : World} {_N B0 : Nat} {keys : List ByteArray} {kids : List Tree} {vk vc : Value} {s : Nat} {cs : List Value} {kid : Tree} (_hm : MapB w B0 (fun g => g < B0) vk vc keys kids) (hs : ∀ g, (vk.ownBlock = some g ∨ vc.ownBlock = some g) → g < s) (hB : B0 ≤ s) (h : NodeO w (inSpan s w.heap.size) cs kid) : NodeO w (okB (fun g => g < B0) w vk vc) cs kid :=
  h.keep (fun _ _ _ => rfl) (fun g hg => ⟨hg.2, by show ¬ g < B0; have := hg.1; omega, fun e => by have := hs g (.inl e); have := hg.1; omega, fun e => by have := hs g (.inr e); have := hg.1; omega⟩)
/-- A kid was made behind the builder; then it is put. -/
theorem put_any (b : Bool) (N B0 s : Nat) (key : ByteArray) (kid : Tree) (keys : List ByteArray) (kids : List Tree) (cs : List Value) (w w1 : World)
    (hm : Built w N B0 keys kids) (hb : Below w.heap.size w w1) (hs : w.heap.size ≤ s) (hkid : NodeO w1 (inSpan s w1.heap.size) cs kid) (hkey : key.size ≤ maxLen) (hk1 : keys.length ≤ 19) (hk2 : kids.length ≤ 19) :
    Calls Try.prog 44 #[.bool b, .string key, .agg cs.toArray, .pointer (some ⟨N + 1, 0, none⟩)] w1 fun e w' => e = .returned (.tuple #[]) ∧ Built w' N B0 (consIf b keys key) (consIf b kids kid) ∧ Below N w1 w' := by
  obtain ⟨vk, vc, hm1, hm2⟩ := hm.ex
  have hlt := hm.lt
  have hle := hm.le
  have hsz := hb.size
  cases b with
  | false =>
    refine (put_no N (N + 1) key kid cs _ w1 hkid).mono ?_
    rintro e w2 ⟨rfl, hb2⟩
    refine ⟨rfl, ?_, hb2.mono (by omega)⟩
    simp only [consIf, Bool.false_eq_true, if_false]
    exact (hm.below hb).below hb2
  | true =>
    have hm3 := hm1.below hb
    have ho : ∀ g, (vk.ownBlock = some g ∨ vc.ownBlock = some g) → g < w.heap.size := by
      intro g hg
      rcases hg with hg | hg
      · exact (hm1.kown.lt g hg).2
      · obtain ⟨rows, _, h2, _⟩ := hm1.cown; exact (h2.lt g hg).2
    refine (put_yes N (N + 1) B0 N (fun g => g < B0) key kid keys kids vk vc cs 3 { data := #[] } 0 w1 hm3 (hm2.below hb) (NodeO.okIn (_N := N) hm3 (fun g hg => by have := ho g hg; omega) (by omega) hkid) (by show N < B0; omega) (by show N + 1 < B0; omega) (fun g hg => by have : g < B0 := hg; omega) (by omega) (Nat.le_refl _) (by omega) (by omega) (by omega) (by omega) hkey).mono ?_
    rintro e w2 ⟨rfl, vk', vc', h1, h2, h3⟩
    refine ⟨rfl, ⟨⟨vk', vc', ?_, h2⟩, hlt, by have := h3.size; omega, ?_, ?_⟩, h3⟩
    · simpa only [consIf, if_true] using h1
    · have := consIf_len true keys key; omega
    · have := consIf_len true kids kid; omega
end Go.Proofs.Ytgafjjgnbcjmpaa

/-
  def.retry, def.row: contracts.
-/
namespace Go.Proofs.Ytgafjjgnbcjmpaa
open Go Go.RowKit Go.WideShapes

theorem built_new (W : World) : Built ((W.alloc (.cells #[.int .u8 3, .string { data := #[] }, .slice none 0 0, .slice none 0 0, .int .i64 0] 34)).alloc (.cells #[.pointer (some ⟨W.heap.size, 0, none⟩)] 53)) W.heap.size (W.heap.size + 2) [] [] := by
  refine ⟨⟨.slice none 0 0, .slice none 0 0, MapB.nil _ _ _, ⟨?_, ?_⟩⟩, by omega, by simp, by simp, by simp⟩
  · have h1 := World.alloc_heap_new W (.cells #[.int .u8 3, .string { data := #[] }, .slice none 0 0, .slice none 0 0, .int .i64 0] 34)
    have h2 := (Below.refl (W.alloc (.cells #[.int .u8 3, .string { data := #[] }, .slice none 0 0, .slice none 0 0, .int .i64 0] 34)).heap.size _).alloc (Nat.le_refl _) (.cells #[.pointer (some ⟨W.heap.size, 0, none⟩)] 53)
    exact (h2.block _ (by simp)).trans h1
  · have h1 := World.alloc_heap_new (W.alloc (.cells #[.int .u8 3, .string { data := #[] }, .slice none 0 0, .slice none 0 0, .int .i64 0] 34)) (.cells #[.pointer (some ⟨W.heap.size, 0, none⟩)] 53)
    rw [show (W.alloc (.cells #[.int .u8 3, .string { data := #[] }, .slice none 0 0, .slice none 0 0, .int .i64 0] 34)).heap.size = W.heap.size + 1 by simp] at h1
    exact h1
/-- What was built, read off. -/
theorem Built.cells {w : World} {N B0 : Nat} {keys : List ByteArray} {kids : List Tree} (h : Built w N B0 keys kids) : ∃ ka kc ba bc, NodeO w (inSpan B0 w.heap.size) [.int .u8 3, .string { data := #[] }, .slice ka keys.length kc, .slice ba kids.length bc, .int .i64 0] (.mk 3 { data := #[] } keys kids 0) ∧
    w.cell? ⟨N, 0, none⟩ = some (.int .u8 3) ∧ w.cell? ⟨N, 1, none⟩ = some (.string { data := #[] }) ∧ w.cell? ⟨N, 2, none⟩ = some (.slice ka keys.length kc) ∧ w.cell? ⟨N, 3, none⟩ = some (.slice ba kids.length bc) ∧ w.cell? ⟨N, 4, none⟩ = some (.int .i64 0) := by
  obtain ⟨vk, vc, h1, h2⟩ := h.ex
  obtain ⟨ka, kc, ba, bc, rfl, rfl⟩ := h1.form
  have h3 := cells5 h2.node
  exact ⟨ka, kc, ba, bc, h1.node (P := inSpan B0 w.heap.size) (fun g hg hz => ⟨by have : ¬ g < B0 := hz; omega, hg⟩) (k := 3) (by decide) (by simp [ByteArray.size]) (by decide), h3⟩

def mapT (keys : List ByteArray) (kids : List Tree) : Tree := .mk 3 { data := #[] } keys kids 0
def seqT (kids : List Tree) : Tree := .mk 2 { data := #[] } [] kids 0
def sMost : ByteArray := { data := #[109, 111, 115, 116] }
def sFirst : ByteArray := { data := #[102, 105, 114, 115, 116] }
def sFactor : ByteArray := { data := #[102, 97, 99, 116, 111, 114] }
def numT (n : Int) : Tree := scalarT (digS n)
def retryT (a b c : Int) : Tree := mapT [sMost, sFirst, sFactor] [numT a, numT b, numT c]
theorem digS_size (n : Int) : (digS n).size ≤ 9 := by
  unfold digS
  split
  · rw [mkS_size]; exact (digN_len n.toNat 8 (by omega)).2
  · simp [ByteArray.size]
theorem num_node (w : World) (P : Nat → Prop) (n : Int) : NodeO w P [.int .u8 1, .string (digS n), .slice none 0 0, .slice none 0 0, .int .i64 0] (numT n) := scalar_node w P (by have := digS_size n; unfold maxLen; omega)

theorem builder_new (N : Nat) (W : World) (hN : W.heap.size = N) :
    Calls Try.prog 19 #[] W fun e w' => e = .returned (.tuple #[.pointer (some ⟨N, 0, none⟩), .func (.func 44) #[] #[.pointer (some ⟨N + 1, 0, none⟩)]]) ∧ Built w' N (N + 2) [] [] ∧ Below N W w' := by
  subst hN
  refine (builder_any W).mono ?_
  rintro e w' ⟨rfl, rfl⟩
  exact ⟨rfl, built_new W, ((Below.refl _ _).alloc (Nat.le_refl _) _).alloc (by simp) _⟩
theorem cells3 {W : World} {B : Nat} {t : TypeId} {fr : Nat × Nat} {a b c : Value} (h : W.heap[B]? = some (.cells #[a, b, c] t fr)) : W.cell? ⟨B, 0, none⟩ = some a ∧ W.cell? ⟨B, 1, none⟩ = some b ∧ W.cell? ⟨B, 2, none⟩ = some c := by simp [World.cell?, h]

set_option maxRecDepth 100000 in
theorem dretry_any (a b c : Int) (w : World) :
    Calls Try.prog 42 #[.agg #[.int .i64 a, .int .i64 b, .int .i64 c]] w fun e w' => ∃ cs : List Value, e = .returned (.agg cs.toArray) ∧ NodeO w' (inSpan w.heap.size w'.heap.size) cs (retryT a b c) ∧ Below w.heap.size w w' := by
  have hb0 : Below w.heap.size w ((w.alloc (.cells #[.int .i64 a, .int .i64 b, .int .i64 c] 43)).alloc (.cells #[.int .u8 0, .string { data := #[] }, .slice none 0 0, .slice none 0 0, .int .i64 0] 34)) := ((Below.refl _ w).alloc (Nat.le_refl _) _).alloc (by simp) _
  have g0 : ((w.alloc (.cells #[.int .i64 a, .int .i64 b, .int .i64 c] 43)).alloc (.cells #[.int .u8 0, .string { data := #[] }, .slice none 0 0, .slice none 0 0, .int .i64 0] 34)).heap[w.heap.size]? = some (.cells #[.int .i64 a, .int .i64 b, .int .i64 c] 43 (0, 0)) := (((Below.refl _ _).alloc (Nat.le_refl _) _).block _ (by simp)).trans (World.alloc_heap_new w _)
  have g1 : ((w.alloc (.cells #[.int .i64 a, .int .i64 b, .int .i64 c] 43)).alloc (.cells #[.int .u8 0, .string { data := #[] }, .slice none 0 0, .slice none 0 0, .int .i64 0] 34)).heap[w.heap.size + 1]? = some (.cells #[.int .u8 0, .string { data := #[] }, .slice none 0 0, .slice none 0 0, .int .i64 0] 34 (0, 0)) := by
    have h := World.alloc_heap_new (w.alloc (.cells #[.int .i64 a, .int .i64 b, .int .i64 c] 43)) (.cells #[.int .u8 0, .string { data := #[] }, .slice none 0 0, .slice none 0 0, .int .i64 0] 34)
    simpa using h
  have hsz : ((w.alloc (.cells #[.int .i64 a, .int .i64 b, .int .i64 c] 43)).alloc (.cells #[.int .u8 0, .string { data := #[] }, .slice none 0 0, .slice none 0 0, .int .i64 0] 34)).heap.size = w.heap.size + 2 := by simp
  generalize hwz : (w.alloc (.cells #[.int .i64 a, .int .i64 b, .int .i64 c] 43)).alloc (.cells #[.int .u8 0, .string { data := #[] }, .slice none 0 0, .slice none 0 0, .int .i64 0] 34) = wz at *
  have HSZ := Lib.hid hsz
  have HB0 := Lib.hid hb0
  have G0 := Lib.hid g0
  have G1 := Lib.hid g1
  clear hsz hb0 g0 g1
  go_enter Try.func42, Try.ntmps42
  go_wp2_with fail
  refine (builder_new (w.heap.size + 2) _ HSZ.out).mono ?_
  rintro e w1 ⟨rfl, hB1, hb1⟩
  have hN1 : Below (w.heap.size + 2) wz w1 := hb1
  obtain ⟨x0, x1, x2⟩ := cells3 ((hN1.block _ (by omega)).trans G0.out)
  have HB1 := Lib.hid hB1
  have HN1 := Lib.hid hN1
  clear hB1 hb1 hN1
  go_wp2_with fail
  refine (dnumber_any a _).mono ?_
  rintro e w2 ⟨rfl, hb2⟩
  clear x0 x1 x2
  go_wp2_with fail
  refine (put_any true (w.heap.size + 2) (w.heap.size + 2 + 2) w1.heap.size sMost (numT a) [] [] _ w1 w2 HB1.out hb2 (Nat.le_refl _) (num_node _ _ a) (by decide) (by decide) (by simp)).mono ?_
  rintro e w3 ⟨rfl, hB3, hb3⟩
  have hle3 := HB1.out.le
  have hN3 : Below (w.heap.size + 2) wz w3 := (HN1.out.trans (hb2.mono (by omega))).trans hb3
  obtain ⟨x0, x1, x2⟩ := cells3 ((hN3.block _ (by omega)).trans G0.out)
  have HB3 := Lib.hid hB3
  have HN3 := Lib.hid hN3
  clear hB3 hb3 hN3 hb2
  go_wp2_with fail
  refine (dnumber_any b _).mono ?_
  rintro e w4 ⟨rfl, hb4⟩
  clear x0 x1 x2
  go_wp2_with fail
  refine (put_any true (w.heap.size + 2) (w.heap.size + 2 + 2) w3.heap.size sFirst (numT b) [sMost] [numT a] _ w3 w4 HB3.out hb4 (Nat.le_refl _) (num_node _ _ b) (by decide) (by decide) (by simp)).mono ?_
  rintro e w5 ⟨rfl, hB5, hb5⟩
  have hle5 := HB3.out.le
  have hN5 : Below (w.heap.size + 2) wz w5 := (HN3.out.trans (hb4.mono (by omega))).trans hb5
  obtain ⟨x0, x1, x2⟩ := cells3 ((hN5.block _ (by omega)).trans G0.out)
  have HB5 := Lib.hid hB5
  have HN5 := Lib.hid hN5
  clear hB5 hb5 hN5 hb4
  go_wp2_with fail
  refine (dnumber_any c _).mono ?_
  rintro e w6 ⟨rfl, hb6⟩
  clear x0 x1 x2
  go_wp2_with fail
  refine (put_any true (w.heap.size + 2) (w.heap.size + 2 + 2) w5.heap.size sFactor (numT c) [sMost, sFirst] [numT a, numT b] _ w5 w6 HB5.out hb6 (Nat.le_refl _) (num_node _ _ c) (by decide) (by decide) (by simp)).mono ?_
  rintro e w7 ⟨rfl, hB7, hb7⟩
  have hle7 := HB5.out.le
  have hN7 : Below (w.heap.size + 2) wz w7 := (HN5.out.trans (hb6.mono (by omega))).trans hb7
  obtain ⟨x0, x1, x2⟩ := cells3 ((hN7.block _ (by omega)).trans G0.out)
  have HB7 := Lib.hid hB7
  have HN7 := Lib.hid hN7
  clear hB7 hb7 hN7 hb6
  clear x0 x1 x2
  obtain ⟨ka, kc, ba, bc, hno, n0, n1, n2, n3, n4⟩ := HB7.out.cells
  have HNO := Lib.hid hno
  have g1 := (HN7.out.block _ (by omega)).trans G1.out
  have HG := Lib.hid g1
  obtain ⟨q0, q1, q2, q3, q4⟩ := cells5 g1
  obtain ⟨f0, f1, f2, f3, f4⟩ := cells5w g1
  clear g1 hno
  go_wp2
  have hset := set5w (x0 := .int .u8 3) (x1 := .string { data := #[] }) (x2 := .slice ka (consIf true [sMost, sFirst] sFactor).length kc) (x3 := .slice ba (consIf true [numT a, numT b] (numT c)).length bc) (x4 := .int .i64 0) HG.out
  have hbf := set5w_below (x0 := .int .u8 3) (x1 := .string { data := #[] }) (x2 := .slice ka (consIf true [sMost, sFirst] sFactor).length kc) (x3 := .slice ba (consIf true [numT a, numT b] (numT c)).length bc) (x4 := .int .i64 0) (HB0.out.trans (HN7.out.mono (by omega))) (B := w.heap.size + 1) (by omega)
  have hof : ∀ g, g ≠ w.heap.size + 1 → (((((w7.setCell ⟨w.heap.size + 1, 0, none⟩ (.int .u8 3)).setCell ⟨w.heap.size + 1, 1, none⟩ (.string { data := #[] })).setCell ⟨w.heap.size + 1, 2, none⟩ (.slice ka (consIf true [sMost, sFirst] sFactor).length kc)).setCell ⟨w.heap.size + 1, 3, none⟩ (.slice ba (consIf true [numT a, numT b] (numT c)).length bc)).setCell ⟨w.heap.size + 1, 4, none⟩ (.int .i64 0)).heap[g]? = w7.heap[g]? := fun g hg => set5w_other hg
  have hsf : (((((w7.setCell ⟨w.heap.size + 1, 0, none⟩ (.int .u8 3)).setCell ⟨w.heap.size + 1, 1, none⟩ (.string { data := #[] })).setCell ⟨w.heap.size + 1, 2, none⟩ (.slice ka (consIf true [sMost, sFirst] sFactor).length kc)).setCell ⟨w.heap.size + 1, 3, none⟩ (.slice ba (consIf true [numT a, numT b] (numT c)).length bc)).setCell ⟨w.heap.size + 1, 4, none⟩ (.int .i64 0)).heap.size = w7.heap.size := by simp
  clear q0 q1 q2 q3 q4 f0 f1 f2 f3 f4 n0 n1 n2 n3 n4
  generalize (((((w7.setCell ⟨w.heap.size + 1, 0, none⟩ (.int .u8 3)).setCell ⟨w.heap.size + 1, 1, none⟩ (.string { data := #[] })).setCell ⟨w.heap.size + 1, 2, none⟩ (.slice ka (consIf true [sMost, sFirst] sFactor).length kc)).setCell ⟨w.heap.size + 1, 3, none⟩ (.slice ba (consIf true [numT a, numT b] (numT c)).length bc)).setCell ⟨w.heap.size + 1, 4, none⟩ (.int .i64 0)) = wf at *
  obtain ⟨y0, y1, y2, y3, y4⟩ := cells5 hset
  have HOF := Lib.hid hof
  have HSF := Lib.hid hsf
  have HBF := Lib.hid hbf
  clear hof hsf hbf hset
  refine bodyPost_ret (v := .agg #[.int .u8 3, .string { data := #[] }, .slice ka (consIf true [sMost, sFirst] sFactor).length kc, .slice ba (consIf true [numT a, numT b] (numT c)).length bc, .int .i64 0]) (by simp [results, Try.results42, go_sem, y0, y1, y2, y3, y4]) rfl ?_
  refine ⟨_, rfl, HNO.out.keep (fun g hP _ => HOF.out g (by have := hP.1; omega)) (fun g hP => ⟨by have := hP.1; omega, by have := hP.2; have := HSF.out; omega⟩), HBF.out⟩
end Go.Proofs.Ytgafjjgnbcjmpaa

/-
  def.row: contract; a Seq under construction.
-/
namespace Go.Proofs.Ytgafjjgnbcjmpaa
open Go Go.RowKit Go.WideShapes

/-- A Seq in a variable at block N, its kids' row of the call's own. -/
structure SeqB (w : World) (N B0 : Nat) (vc : Value) (kids : List Tree) : Prop where
  map : MapB w B0 (fun g => g < B0) (.slice none 0 0) vc [] kids
  at' : w.heap[N]? = some (.cells #[.int .u8 2, .string { data := #[] }, .slice none 0 0, vc, .int .i64 0] 34 (0, 0))
  lt : N < B0
  le : B0 ≤ w.heap.size
theorem SeqB.below {w w' : World} {N B0 : Nat} {vc : Value} {kids : List Tree} (h : SeqB w N B0 vc kids) (hb : Below w.heap.size w w') : SeqB w' N B0 vc kids :=
  ⟨h.map.below hb, (hb.block _ (Array.getElem?_eq_some_iff.1 h.at').1).trans h.at', h.lt, by have := h.le; have := hb.size; omega⟩
theorem SeqB.owns {w : World} {N B0 : Nat} {vc : Value} {kids : List Tree} (h : SeqB w N B0 vc kids) : ∃ xs : List Value, w.ownsRow B0 34 5 vc kids.length xs := by
  obtain ⟨rows, _, h2, _⟩ := h.map.cown; exact ⟨_, h2⟩
theorem SeqB.form {w : World} {N B0 : Nat} {vc : Value} {kids : List Tree} (h : SeqB w N B0 vc kids) : ∃ ba bc, vc = .slice ba kids.length bc := by
  obtain ⟨_, _, ba, bc, _, h2⟩ := h.map.form; exact ⟨ba, bc, h2⟩
theorem SeqB.step {w w6 w7 : World} {N B0 s : Nat} {vc v' : Value} {kids : List Tree} {kid : Tree} {cs xs : List Value} (h : SeqB w N B0 vc kids) (hb : Below w.heap.size w w6) (hs : w.heap.size ≤ s) (hkid : NodeO w6 (inSpan s w6.heap.size) cs kid) (hg : w6.grownBy w7 vc.ownBlock)
    (hxs : w6.ownsRow B0 34 5 vc kids.length xs) (hown : w7.ownsRow B0 34 5 v' (kids.length + 1) (xs ++ cs)) (hv' : v'.ownBlock = vc.ownBlock ∨ v'.ownBlock = some w6.heap.size) :
    SeqB (w7.setCell ⟨N, 3, none⟩ v') N B0 v' (kids ++ [kid]) ∧ Below N w (w7.setCell ⟨N, 3, none⟩ v') := by
  obtain ⟨xs', ho⟩ := h.owns
  have hN := (Array.getElem?_eq_some_iff.1 h.at').1
  have hlt := h.lt
  have hle := h.le
  have hs1 := hb.size
  have hs2 := hg.size
  have hlo : ∀ g, vc.ownBlock = some g → B0 ≤ g ∧ g < w.heap.size := fun g hg => ho.lt g hg
  have h1 := (h.map.pushC hb (NodeO.okIn (_N := N) (h.map.below hb) (fun g hg => by
    rcases hg with hg | hg
    · simp [Value.ownBlock] at hg
    · have := (hlo g hg).2; omega) (by omega) hkid) hg hxs hown hv' (fun g hg => by have : g < B0 := hg; omega)).frmZ (N := N) (i := 3) (x := v') (by show N < B0; omega)
  have e7 : w7.heap[N]? = some (.cells #[.int .u8 2, .string { data := #[] }, .slice none 0 0, vc, .int .i64 0] 34 (0, 0)) := (hg.block N (by omega) (fun e => by have := (hlo N e.symm).1; omega)).trans ((hb.block N hN).trans h.at')
  refine ⟨⟨h1, by simp [World.setCell, e7, Array.getElem?_modify], hlt, by simp; omega⟩, ?_⟩
  have hx : Below N w w7 := (hb.mono (by omega)).grown hg (by omega) (fun j hj => by have := (hlo j hj).1; omega)
  exact hx.setCell (p := ⟨N, 3, none⟩) (Nat.le_refl _) _
theorem SeqB.new {w : World} {N B0 : Nat} (hat : w.heap[N]? = some (.cells #[.int .u8 2, .string { data := #[] }, .slice none 0 0, .slice none 0 0, .int .i64 0] 34 (0, 0))) (h1 : N < B0) (h2 : B0 ≤ w.heap.size) : SeqB w N B0 (.slice none 0 0) [] := ⟨MapB.nil _ _ _, hat, h1, h2⟩
theorem SeqB.node {w : World} {N B0 : Nat} {vc : Value} {kids : List Tree} (h : SeqB w N B0 vc kids) : NodeO w (inSpan B0 w.heap.size) [.int .u8 2, .string { data := #[] }, .slice none 0 0, vc, .int .i64 0] (seqT kids) :=
  h.map.node (P := inSpan B0 w.heap.size) (fun g hg hz => ⟨by have : ¬ g < B0 := hz; omega, hg⟩) (k := 2) (by decide) (by simp [ByteArray.size]) (by decide)

theorem held1 {W W' : World} {p : Addr} {a : Value} (h : W.cell? p = some a) (hb : Below W.heap.size W W') : W'.cell? p = some a := cellB hb h
theorem alloc2 (w : World) (t1 t2 : TypeId) (c1 c2 : Array Value) : Below w.heap.size w ((w.alloc (.cells c1 t1)).alloc (.cells c2 t2)) ∧ ((w.alloc (.cells c1 t1)).alloc (.cells c2 t2)).heap[w.heap.size]? = some (.cells c1 t1 (0, 0)) ∧ ((w.alloc (.cells c1 t1)).alloc (.cells c2 t2)).heap[w.heap.size + 1]? = some (.cells c2 t2 (0, 0)) ∧ ((w.alloc (.cells c1 t1)).alloc (.cells c2 t2)).heap.size = w.heap.size + 2 := by
  refine ⟨((Below.refl _ w).alloc (Nat.le_refl _) _).alloc (by simp) _, (((Below.refl _ _).alloc (Nat.le_refl _) _).block _ (by simp)).trans (World.alloc_heap_new w _), ?_, by simp⟩
  have h := World.alloc_heap_new (w.alloc (.cells c1 t1)) (.cells c2 t2)
  simpa using h

set_option maxRecDepth 100000 in
set_option maxHeartbeats 1000000 in
theorem drow_any (l : List ByteArray) (v : Value) (w : World) (hv : RdS w v 1 l.length (strsV l)) (hs : ∀ s ∈ l, s.size ≤ maxLen) (hl : l.length ≤ 1000) :
    Calls Try.prog 17 #[v] w fun e w' => ∃ cs : List Value, e = .returned (.agg cs.toArray) ∧ NodeO w' (inSpan w.heap.size w'.heap.size) cs (seqT (l.map scalarT)) ∧ (l = [] → cs = [.int .u8 2, .string { data := #[] }, .slice none 0 0, .slice none 0 0, .int .i64 0]) ∧ Below w.heap.size w w' := by
  obtain ⟨i0, hi, hz0, hz1, hz2⟩ := info_parts Try.info_node
  have hl63 := rds_len2 hv
  obtain ⟨va, vcap, rfl⟩ := hv.form
  have HV := Lib.hid hv
  have HSM := Lib.hid hs
  clear hv hs
  go_enter Try.func17, Try.ntmps17
  go_wp2
  obtain ⟨hb0, g0, g1, hsz⟩ := alloc2 w 34 34 #[.int .u8 0, .string { data := #[] }, .slice none 0 0, .slice none 0 0, .int .i64 0] #[.int .u8 2, .string { data := #[] }, .slice none 0 0, .slice none 0 0, .int .i64 0]
  generalize hwz : (w.alloc (.cells #[.int .u8 0, .string { data := #[] }, .slice none 0 0, .slice none 0 0, .int .i64 0] 34)).alloc (.cells #[.int .u8 2, .string { data := #[] }, .slice none 0 0, .slice none 0 0, .int .i64 0] 34) = wz at *
  have HB0 := Lib.hid hb0
  have HSZ := Lib.hid hsz
  have G0 := Lib.hid g0
  have HSQ := Lib.hid (SeqB.new (B0 := w.heap.size + 2) g1 (by omega) (by omega))
  clear hb0 hsz g0 g1 hwz
  go_loopw [9] (fun i wr => ∃ (j : Nat) (vc : Value), j ≤ l.length ∧ i = .int .i64 j ∧ Hid (SeqB wr (w.heap.size + 1) (w.heap.size + 2) vc ((l.take j).map scalarT)) ∧ Hid (Below (w.heap.size + 1) wz wr) ∧ Hid (j = 0 → vc = .slice none 0 0)) (fun i _ => l.length - (intOf i).toNat)
  case atStart => exact ⟨0, _, by omega, rfl, HSQ, Lib.hid (Below.refl _ _), Lib.hid (fun _ => rfl)⟩
  case round =>
    obtain ⟨j, vc, hj, rfl, HR, HB, HZ⟩ := hrel
    by_cases hlt : j < l.length
    · have hszB := HB.out.size
      obtain ⟨g, off, rfl, q1, q2, c1⟩ := strs_at (HV.out.below (HB0.out.trans (HB.out.mono (by omega)))) hlt
      have hO := HR.out.at'
      obtain ⟨-, -, -, x3, -⟩ := cells5 hO
      obtain ⟨xs, hxs⟩ := HR.out.owns
      have HXS := Lib.hid hxs
      have hrs := HR.out.le
      have hOL := (Array.getElem?_eq_some_iff.1 hO).1
      have HO := Lib.hid hO
      have hj0 : (0 : Int) ≤ (j : Int) := by omega
      have hj1 : (j : Int) < (l.length : Int) := by omega
      have hlk : (l.take j).length = j := by simp; omega
      clear hO hxs
      go_wp2
      refine E_region (S := (fun W => W.cell? ⟨w.heap.size + 1, 3, none⟩ = some vc)) 5 (by kernel_rfl) x3 (fun _ _ _ _ _ h => h) (fun Q' hQ hK' hHeld => ?_)
      refine E_take0 hQ (fun _ => hHeld) 0 (v := ?ev1) rfl rfl (by kernel_rfl) (by kernel_rfl) (by kernel_rfl) (by decide) (by rfl) ?ey1 ?er1
      case ey1 => (intro w; go_simp; (try with_reducible rfl))
      (try simp only [Act.put, List.setIfInBounds_toArray, List.set_cons_zero, List.set_cons_succ])
      refine E_take hQ hHeld 1 (v := ?ev2) rfl rfl (by kernel_rfl) (by kernel_rfl) (by kernel_rfl) (by kernel_rfl) (by kernel_rfl) (by rfl) ?ey2 ?er2
      case ey2 => (intro w hSw; (try dsimp only at hSw); go_simp; (try with_reducible rfl))
      (try simp only [Act.put, List.setIfInBounds_toArray, List.set_cons_zero, List.set_cons_succ])
      refine E_take0 hQ (fun _ => hHeld) 2 (v := ?ev3) rfl rfl (by kernel_rfl) (by kernel_rfl) (by kernel_rfl) (by decide) (by rfl) ?ey3 ?er3
      case ey3 => (intro w; go_simp; (try with_reducible rfl))
      (try simp only [Act.put, List.setIfInBounds_toArray, List.set_cons_zero, List.set_cons_succ])
      refine E_one 3 (by kernel_rfl) rfl (by rfl) (fun K hK => ?_)
      go_simp
      refine (dtext_any l[j] _).mono ?_
      rintro e w5 ⟨rfl, hb5⟩
      have HBD := Lib.hid hb5
      have hb5 : Below wr.heap.size wr w5 := ((Below.refl _ wr).drew).trans hb5
      have h6 : Below w5.heap.size w5 (w5.alloc (.cells #[.int .u8 1, .string l[j], .slice none 0 0, .slice none 0 0, .int .i64 0] 34)) := (Below.refl _ _).alloc (Nat.le_refl _) _
      have HB6 := Lib.hid (hb5.trans (h6.mono hb5.size))
      have HOW6 := Lib.hid (ownsB HXS.out HB6.out)
      have H6 := Lib.hid h6
      have hsz5 := hb5.size
      clear h6 hb5
      (skip)
      refine hK.out _ _ (fun _ _ => held1 hHeld HBD.out) (fun hHeld' => ?_)
      replace hHeld := hHeld' (by rfl) (by decide)
      clear hK hHeld'
      (try simp only [Act.put, List.setIfInBounds_toArray, List.set_cons_zero, List.set_cons_succ])
      refine E_one 4 (by kernel_rfl) rfl (by rfl) (fun K hK => ?_)
      go_simp
      (try simp only [Act.put, List.setIfInBounds_toArray, List.set_cons_zero, List.set_cons_succ])
      refine hK.out _ _ (fun _ _ => held1 hHeld H6.out) (fun hHeld' => ?_)
      replace hHeld := hHeld' (by rfl) (by decide)
      clear hK hHeld'
      (try simp only [Act.put, List.setIfInBounds_toArray, List.set_cons_zero, List.set_cons_succ])
      refine E_one 5 (by kernel_rfl) rfl (by rfl) (fun K hK => ?_)
      refine wp_append_lies _ (.tmp 14) (.tmp 17) 32 (by rfl) (w.heap.size + 2) 34 i0 (.agg #[.int .u8 0, .string { data := #[] }, .slice none 0 0, .slice none 0 0, .int .i64 0]) 5 80 Try.underlying32 hi hz0 hz1 hz2 rfl (by decide) vc ((l.take j).map scalarT).length xs (by rfl) HOW6.out ⟨w5.heap.size, 0, none⟩ 1 1 _ (by rfl) rfl (World.news_of_block (World.alloc_heap_new w5 _)) (by simp [Value.oneCell']) (by omega) (by unfold maxLen; simp; omega) (by simp; omega) (by simp; omega) _ rfl ?_
      intro g7 cap7 w7 hown7 hgrow hat hlt7
      have hx8 := hgrow.block (w.heap.size + 1) (by have := H6.out.size; omega) (fun e => by have := (HXS.out.lt _ e.symm).1; omega)
      have hO7 := hx8.trans ((HB6.out.block _ hOL).trans HO.out)
      obtain ⟨-, -, -, x7, -⟩ := cells5 hO7
      obtain ⟨-, -, -, f7, -⟩ := cells5w hO7
      have HG7 := Lib.hid hgrow
      have HO7 := Lib.hid hown7
      have HAT := Lib.hid hat
      clear hgrow hown7 hat hx8 hO7
      (try simp only [Act.put, List.setIfInBounds_toArray, List.set_cons_zero, List.set_cons_succ])
      refine hK.out _ _ (fun _ h => absurd rfl h) (fun _ => ?_)
      clear hK hHeld
      (try simp only [Act.put, List.setIfInBounds_toArray, List.set_cons_zero, List.set_cons_succ])
      refine E_take0 hQ (fun h => absurd h (by decide)) 6 (v := ?ev4) rfl rfl (by kernel_rfl) (by kernel_rfl) (by kernel_rfl) (by decide) (by rfl) ?ey4 ?er4
      case ey4 => (intro w; go_simp; (try with_reducible rfl))
      (try simp only [Act.put, List.setIfInBounds_toArray, List.set_cons_zero, List.set_cons_succ])
      refine E_one 7 (by kernel_rfl) rfl (by rfl) (fun K hK => ?_)
      go_simp
      (try simp only [Act.put, List.setIfInBounds_toArray, List.set_cons_zero, List.set_cons_succ])
      refine hK.out _ _ (fun h => absurd h (by decide)) (fun _ => ?_)
      clear hK
      (try simp only [Act.put, List.setIfInBounds_toArray, List.set_cons_zero, List.set_cons_succ])
      refine E_done (by kernel_rfl) ?_ _
      refine hK'.out _ _ ?_
      have HST := HR.out.step HB6.out (Nat.le_refl _) (scalar_node _ _ (HSM.out _ (List.getElem_mem hlt))) HG7.out HOW6.out HO7.out (by rcases HAT.out with h | h; exact .inl (by rw [h]; rfl); exact .inr (by rw [h]; rfl))
      have hll : ((l.take j).map scalarT).length = j := by rw [List.length_map]; exact hlk
      rw [hll] at HST
      have HS1 := Lib.hid HST.1
      have HS2 := Lib.hid HST.2
      clear HST x7 f7 x3
      go_wp2
      go_roundw
      case rel =>
        have e1 : (l.take j).map scalarT ++ [scalarT l[j]] = (l.take (j + 1)).map scalarT := by rw [List.take_succ_eq_append_getElem hlt, List.map_append]; rfl
        rw [e1] at HS1
        exact ⟨j + 1, _, by omega, by go_num, HS1, Lib.hid (HB.out.trans HS2.out), Lib.hid (fun h => by omega)⟩
      case measure => simp [intOf]; omega
    · obtain rfl : j = l.length := by omega
      rw [List.take_length] at HR
      have hO := HR.out.at'
      obtain ⟨x0, x1, x2, x3, x4⟩ := cells5 hO
      have g1 := (HB.out.block w.heap.size (by omega)).trans G0.out
      have HG := Lib.hid g1
      obtain ⟨q0, q1, q2, q3, q4⟩ := cells5 g1
      obtain ⟨f0, f1, f2, f3, f4⟩ := cells5w g1
      obtain ⟨ba, bc, rfl⟩ := HR.out.form
      rw [List.length_map] at *
      clear hO g1
      go_wp2
      have hset := set5w (x0 := .int .u8 2) (x1 := .string { data := #[] }) (x2 := .slice none 0 0) (x3 := .slice ba l.length bc) (x4 := .int .i64 0) HG.out
      have hbf := set5w_below (x0 := .int .u8 2) (x1 := .string { data := #[] }) (x2 := .slice none 0 0) (x3 := .slice ba l.length bc) (x4 := .int .i64 0) (HB0.out.trans (HB.out.mono (by omega))) (B := w.heap.size) (Nat.le_refl _)
      have hof : ∀ g, g ≠ w.heap.size → (((((wr.setCell ⟨w.heap.size, 0, none⟩ (.int .u8 2)).setCell ⟨w.heap.size, 1, none⟩ (.string { data := #[] })).setCell ⟨w.heap.size, 2, none⟩ (.slice none 0 0)).setCell ⟨w.heap.size, 3, none⟩ (.slice ba l.length bc)).setCell ⟨w.heap.size, 4, none⟩ (.int .i64 0)).heap[g]? = wr.heap[g]? := fun g hg => set5w_other hg
      have hsf : (((((wr.setCell ⟨w.heap.size, 0, none⟩ (.int .u8 2)).setCell ⟨w.heap.size, 1, none⟩ (.string { data := #[] })).setCell ⟨w.heap.size, 2, none⟩ (.slice none 0 0)).setCell ⟨w.heap.size, 3, none⟩ (.slice ba l.length bc)).setCell ⟨w.heap.size, 4, none⟩ (.int .i64 0)).heap.size = wr.heap.size := by simp
      clear q0 q1 q2 q3 q4 f0 f1 f2 f3 f4 x0 x1 x2 x3 x4
      generalize (((((wr.setCell ⟨w.heap.size, 0, none⟩ (.int .u8 2)).setCell ⟨w.heap.size, 1, none⟩ (.string { data := #[] })).setCell ⟨w.heap.size, 2, none⟩ (.slice none 0 0)).setCell ⟨w.heap.size, 3, none⟩ (.slice ba l.length bc)).setCell ⟨w.heap.size, 4, none⟩ (.int .i64 0)) = wf at *
      obtain ⟨y0, y1, y2, y3, y4⟩ := cells5 hset
      have HOF := Lib.hid hof
      have HSF := Lib.hid hsf
      have HBF := Lib.hid hbf
      clear hof hsf hbf hset
      refine bodyPost_ret (v := .agg #[.int .u8 2, .string { data := #[] }, .slice none 0 0, .slice ba l.length bc, .int .i64 0]) (by simp [results, Try.results17, go_sem, y0, y1, y2, y3, y4]) rfl ?_
      refine ⟨_, rfl, HR.out.node.keep (fun g hP _ => HOF.out g (by have := hP.1; omega)) (fun g hP => ⟨by have := hP.1; omega, by have := hP.2; have := HSF.out; omega⟩), fun h => ?_, HBF.out⟩
      subst h
      have := HZ.out rfl
      rw [this]
end Go.Proofs.Ytgafjjgnbcjmpaa
