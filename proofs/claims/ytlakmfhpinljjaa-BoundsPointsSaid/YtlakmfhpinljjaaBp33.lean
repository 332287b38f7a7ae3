/-
  rescriptref21.put: contract.
-/
import Derived.Deep.Cut
import Derived.Test.YtlakmfhpinljjaaBp31
namespace Go.Proofs.Ytlakmfhpinljjaa
open Go Go.RowKit Go.WideShapes

theorem alloc3 (w : World) (t1 t2 t3 : TypeId) (c1 c2 c3 : Array Value) : Below w.heap.size w (((w.alloc (.cells c1 t1)).alloc (.cells c2 t2)).alloc (.cells c3 t3)) ∧ (((w.alloc (.cells c1 t1)).alloc (.cells c2 t2)).alloc (.cells c3 t3)).heap[w.heap.size]? = some (.cells c1 t1 (0, 0)) ∧ (((w.alloc (.cells c1 t1)).alloc (.cells c2 t2)).alloc (.cells c3 t3)).heap[w.heap.size + 1]? = some (.cells c2 t2 (0, 0)) ∧ (((w.alloc (.cells c1 t1)).alloc (.cells c2 t2)).alloc (.cells c3 t3)).heap[w.heap.size + 2]? = some (.cells c3 t3 (0, 0)) ∧ (((w.alloc (.cells c1 t1)).alloc (.cells c2 t2)).alloc (.cells c3 t3)).heap.size = w.heap.size + 3 := by
  obtain ⟨a1, a2, a3, a4⟩ := alloc2 w t1 t2 c1 c2
  have hb := (Below.refl ((w.alloc (.cells c1 t1)).alloc (.cells c2 t2)).heap.size _).alloc (Nat.le_refl _) (.cells c3 t3)
  refine ⟨a1.alloc (by rw [a4]; omega) _, (hb.block _ (by omega)).trans a2, (hb.block _ (by omega)).trans a3, ?_, by simp⟩
  have h := World.alloc_heap_new ((w.alloc (.cells c1 t1)).alloc (.cells c2 t2)) (.cells c3 t3)
  rw [a4] at h
  exact h
/-- The blocks that a put may write, but for the rows of its Map: none that was. -/
structure KeptP (w w' : World) (v1 v2 : Value) : Prop where
  keep : ∀ g, g < w.heap.size → v1.ownBlock ≠ some g → v2.ownBlock ≠ some g → w'.heap[g]? = w.heap[g]?

set_option maxRecDepth 100000 in
set_option maxHeartbeats 2000000 in
theorem rput_any (Bin B0 s : Nat) (Z : Nat → Prop) (key : ByteArray) (kid : Tree) (keys : List ByteArray) (kids : List Tree) (vk vc : Value) (cs : List Value) (w0 w : World)
    (hm : MapB w0 B0 Z vk vc keys kids) (hb0 : Below w0.heap.size w0 w) (hs : w0.heap.size ≤ s) (hkid : NodeO w (fun g => g < Bin ∨ inSpan s w.heap.size g) cs kid) (hBin : Bin ≤ B0) (hZB : ∀ g, Z g → Bin ≤ g) (hZlt : ∀ g, Z g → g < w0.heap.size) (hB0 : B0 ≤ w0.heap.size) (hk1 : keys.length ≤ 1000) (hk2 : kids.length ≤ 1000) (hkey : key.size ≤ maxLen) :
    Calls Try.prog 77 #[.agg #[.int .u8 3, .string { data := #[] }, vk, vc, .int .i64 0], .string key, .agg cs.toArray] w fun e w' => ∃ vk' vc', e = .returned (.agg #[.int .u8 3, .string { data := #[] }, vk', vc', .int .i64 0]) ∧ MapB w' B0 Z vk' vc' (keys ++ [key]) (kids ++ [kid]) ∧ Below B0 w w' ∧ KeptP w w' vk vc := by
  obtain ⟨i0, hi, hz0, hz1, hz2⟩ := info_parts Try.info_node
  obtain ⟨j0, hj, hy0, hy1, hy2⟩ := info_parts Try.info_str
  obtain ⟨ka1, kc1, ba1, bc1, rfl⟩ := hkid.cells
  obtain ⟨ka, kc, ba, bc, rfl, rfl⟩ := hm.form
  have hs0 := hb0.size
  have how : ∀ g, ((Value.slice ka keys.length kc).ownBlock = some g ∨ (Value.slice ba kids.length bc).ownBlock = some g) → B0 ≤ g ∧ g < w0.heap.size := by
    intro g hg
    rcases hg with hg | hg
    · exact hm.kown.lt g hg
    · obtain ⟨rows, _, h2, _⟩ := hm.cown; exact h2.lt g hg
  have HM := Lib.hid ((hm.below hb0).reZ (Z' := fun g => Z g ∨ w.heap.size ≤ g ∧ g < w.heap.size + 3) (fun g hg hz => by
    rcases hz with hz | hz
    · exact hz
    · omega))
  have HK := Lib.hid hkid
  have HOW := Lib.hid how
  have HZL := Lib.hid hZlt
  clear hm hkid how hZlt hb0
  go_enter Try.func77, Try.ntmps77
  go_upto_region 1 with fail
  obtain ⟨hbz, g0, g1, g2, hsz⟩ := alloc3 w 34 34 34 #[.int .u8 3, .string { data := #[] }, .slice ka keys.length kc, .slice ba kids.length bc, .int .i64 0] #[.int .u8 (kid.kind : Int), .string kid.text, .slice ka1 kid.keys.length kc1, .slice ba1 kid.kids.length bc1, .int .i64 kid.line] #[.int .u8 0, .string { data := #[] }, .slice none 0 0, .slice none 0 0, .int .i64 0]
  generalize ((w.alloc (.cells #[.int .u8 3, .string { data := #[] }, .slice ka keys.length kc, .slice ba kids.length bc, .int .i64 0] 34)).alloc (.cells #[.int .u8 (kid.kind : Int), .string kid.text, .slice ka1 kid.keys.length kc1, .slice ba1 kid.kids.length bc1, .int .i64 kid.line] 34)).alloc (.cells #[.int .u8 0, .string { data := #[] }, .slice none 0 0, .slice none 0 0, .int .i64 0] 34) = wz at *
  have HMZ := Lib.hid (HM.out.below hbz)
  have HBZ := Lib.hid hbz
  have h6 : Below wz.heap.size wz (wz.alloc (.cells #[.string key] 9)) := (Below.refl _ _).alloc (Nat.le_refl _) _
  have H6 := Lib.hid h6
  have HOWK := Lib.hid (ownsB HMZ.out.kown h6)
  have hg6 := (h6.block w.heap.size (by omega)).trans g0
  obtain ⟨-, -, p2, -, -⟩ := cells5 hg6
  obtain ⟨-, -, p2z, -, -⟩ := cells5 g0
  have HG6 := Lib.hid hg6
  have G1 := Lib.hid g1
  have G2 := Lib.hid g2
  have HSZ := Lib.hid hsz
  have hszl : w.heap.size + 3 ≤ wz.heap.size := by omega
  clear hbz g0 g1 g2 hsz h6 hg6
  go_upto_region 2 with (at_builtin; go_must (refine wpList_push rfl (.tmp 8) (.tmp 10) 31 rfl B0 9 j0 (.string { data := #[] }) 1 16 Try.underlying31 hj hy0 hy1 hy2 rfl (by decide) (.slice ka keys.length kc) keys.length (strsV keys) rfl HOWK.out _ 1 1 [_] rfl rfl (cell_one_new _ _ _) (by simp [Value.oneCell']) (by unfold maxLen; omega) (by omega) (by simp; omega) ?_; intro v4 w4 hown4 hgrow4 hfr4; obtain ⟨a4, c4, rfl⟩ := (RdS.of_owns hown4).form; have hx4 := (hgrow4.block w.heap.size (by simp; omega) (fun e => by have := (HOW.out _ (.inl e.symm)).2; omega)).trans HG6.out; obtain ⟨-, -, q2, -, -⟩ := cells5 hx4; obtain ⟨-, -, f2, -, -⟩ := cells5w hx4; have HX4 := Lib.hid hx4; have HGR4 := Lib.hid hgrow4; have HO4 := Lib.hid hown4; have HF4 := Lib.hid hfr4; clear hx4 hgrow4 hown4 hfr4))
  have hb4 : Below B0 w w4 := (((HBZ.out.mono (by omega)).trans (H6.out.mono (by omega))).grown HGR4.out (by simp; omega) (fun g hg => (HOW.out g (.inl hg)).1))
  have hZ6 : ∀ g, (Z g ∨ w.heap.size ≤ g ∧ g < w.heap.size + 3) → g < wz.heap.size := fun g hg => by
    rcases hg with hg | hg
    · have := HZL.out g hg; omega
    · omega
  have HZ6 := Lib.hid hZ6
  have hm4 : MapB w4 B0 (fun g => Z g ∨ w.heap.size ≤ g ∧ g < w.heap.size + 3) (.slice a4 (keys.length + 1) c4) (.slice ba kids.length bc) (keys ++ [key]) kids := HMZ.out.pushKF H6.out HGR4.out HO4.out HF4.out (fun g hg => by have := H6.out.size; have := hZ6 g hg; omega) hkey
  have hm5 := hm4.frmZ (N := w.heap.size) (i := 2) (x := .slice a4 (keys.length + 1) c4) (.inr ⟨Nat.le_refl _, by omega⟩)
  have hb5 : Below B0 w (w4.setCell ⟨w.heap.size, 2, none⟩ (.slice a4 (keys.length + 1) c4)) := hb4.setCell (p := ⟨w.heap.size, 2, none⟩) (by show B0 ≤ w.heap.size; omega) _
  have hkeep5 : ∀ g, g < wz.heap.size → g ≠ w.heap.size → (Value.slice ka keys.length kc).ownBlock ≠ some g → (w4.setCell ⟨w.heap.size, 2, none⟩ (.slice a4 (keys.length + 1) c4)).heap[g]? = wz.heap[g]? := fun g hg hA hne => by
    rw [Below.heap_setCell _ _ _ _ hA, HGR4.out.block g (by simp; omega) (fun e => hne e.symm), H6.out.block g hg]
  have hA5 : (w4.setCell ⟨w.heap.size, 2, none⟩ (.slice a4 (keys.length + 1) c4)).heap[w.heap.size]? = some (.cells #[.int .u8 3, .string { data := #[] }, .slice a4 (keys.length + 1) c4, .slice ba kids.length bc, .int .i64 0] 34 (0, 0)) := by simp [World.setCell, HX4.out, Array.getElem?_modify]
  have hs5 : wz.heap.size ≤ (w4.setCell ⟨w.heap.size, 2, none⟩ (.slice a4 (keys.length + 1) c4)).heap.size := by have := HGR4.out.size; simp at this ⊢; omega
  clear p2 p2z q2 f2
  generalize w4.setCell ⟨w.heap.size, 2, none⟩ (.slice a4 (keys.length + 1) c4) = w5 at *
  have hnk : ∀ g, w.heap.size ≤ g → (Value.slice ka keys.length kc).ownBlock ≠ some g := fun g hg e => by have := (HOW.out g (.inl e)).2; omega
  have hnc : ∀ g, w.heap.size ≤ g → (Value.slice ba kids.length bc).ownBlock ≠ some g := fun g hg e => by have := (HOW.out g (.inr e)).2; omega
  have hg1 := (hkeep5 (w.heap.size + 1) (by omega) (by omega) (hnk _ (by omega))).trans G1.out
  have hg2 := (hkeep5 (w.heap.size + 2) (by omega) (by omega) (hnk _ (by omega))).trans G2.out
  have h7 : Below w5.heap.size w5 (w5.alloc (.cells #[.int .u8 (kid.kind : Int), .string kid.text, .slice ka1 kid.keys.length kc1, .slice ba1 kid.kids.length bc1, .int .i64 kid.line] 34)) := (Below.refl _ _).alloc (Nat.le_refl _) _
  have hA7 := (h7.block _ (Array.getElem?_eq_some_iff.1 hA5).1).trans hA5
  obtain ⟨rows, hr1, hr2, hr3⟩ := hm5.cown
  have HOWC := Lib.hid (ownsB hr2 h7)
  have HRO := Lib.hid hr2
  obtain ⟨p0, p1, p2, p3, p4⟩ := cells5 hA5
  obtain ⟨y0, y1, y2, y3, y4⟩ := cells5 hg1
  have HA7 := Lib.hid hA7
  have H7 := Lib.hid h7
  have HM5 := Lib.hid hm5
  have HB5 := Lib.hid hb5
  have HKP := Lib.hid hkeep5
  have HG2 := Lib.hid hg2
  have HNK := Lib.hid hnk
  have HNC := Lib.hid hnc
  clear hZ6 hm4 hb4 hm5 hb5 hkeep5 hA5 hg1 hg2 h7 hA7 hr1 hr2 hr3 hnk hnc
  go_upto_region 3 with (at_builtin; go_must (refine wpList_push rfl (.tmp 14) (.tmp 16) 32 rfl B0 34 i0 (.agg #[.int .u8 0, .string { data := #[] }, .slice none 0 0, .slice none 0 0, .int .i64 0]) 5 80 Try.underlying32 hi hz0 hz1 hz2 rfl (by decide) (.slice ba kids.length bc) kids.length rows.flatten rfl HOWC.out ⟨w5.heap.size, 0, none⟩ 1 1 _ rfl rfl (World.news_of_block (World.alloc_heap_new w5 _)) (by simp [Value.oneCell']) (by unfold maxLen; omega) (by omega) (by simp; omega) ?_; intro v8 w8 hown8 hgrow8 hfr8; obtain ⟨a8, c8, rfl⟩ := (RdS.of_owns hown8).form; have hx8 := (hgrow8.block w.heap.size (by simp; omega) (fun e => HNC.out _ (Nat.le_refl _) e.symm)).trans HA7.out; obtain ⟨-, -, -, q3, -⟩ := cells5 hx8; obtain ⟨-, -, -, f3, -⟩ := cells5w hx8; have HX8 := Lib.hid hx8; have HGR8 := Lib.hid hgrow8; have HO8 := Lib.hid hown8; have HF8 := Lib.hid hfr8; clear hx8 hgrow8 hown8 hfr8))
  have hk7 : NodeO (w5.alloc (.cells #[.int .u8 (kid.kind : Int), .string kid.text, .slice ka1 kid.keys.length kc1, .slice ba1 kid.kids.length bc1, .int .i64 kid.line] 34)) (okB (fun g => Z g ∨ w.heap.size ≤ g ∧ g < w.heap.size + 3) (w5.alloc (.cells #[.int .u8 (kid.kind : Int), .string kid.text, .slice ka1 kid.keys.length kc1, .slice ba1 kid.kids.length bc1, .int .i64 kid.line] 34)) (.slice a4 (keys.length + 1) c4) (.slice ba kids.length bc)) [.int .u8 (kid.kind : Int), .string kid.text, .slice ka1 kid.keys.length kc1, .slice ba1 kid.kids.length bc1, .int .i64 kid.line] kid := HK.out.keep (fun g hP hl => by
      have h1 : g < wz.heap.size ∧ g ≠ w.heap.size ∧ (Value.slice ka keys.length kc).ownBlock ≠ some g := by
        rcases hP with hP | hP
        · exact ⟨by omega, by omega, fun e => by have := (HOW.out g (.inl e)).1; omega⟩
        · have h2 := hP.1; have h3 := hP.2; exact ⟨by omega, by omega, fun e => by have := (HOW.out g (.inl e)).2; omega⟩
      rw [H7.out.block g (by omega), HKP.out g h1.1 h1.2.1 h1.2.2, HBZ.out.block g hl]) (fun g hP => by
      have h1 : g < w.heap.size ∧ (g < B0 ∨ w0.heap.size ≤ g) := by
        rcases hP with hP | hP
        · exact ⟨by omega, .inl (by omega)⟩
        · exact ⟨hP.2, .inr (by have := hP.1; omega)⟩
      have h0 := h1.1
      have h2 := h1.2
      have h3 := H7.out.size
      refine ⟨by omega, fun hz => ?_, fun e => ?_, fun e => by have := HOW.out g (.inr e); omega⟩
      · rcases hz with hz | hz
        · have h4 := HZL.out g hz; have h5 := hZB g hz
          rcases hP with hP | hP
          · omega
          · have := hP.1; omega
        · omega
      · rcases HF4.out g e with e | e
        · have := HOW.out g (.inl e); omega
        · have := H6.out.size; omega)
  have hm8 : MapB w8 B0 (fun g => Z g ∨ w.heap.size ≤ g ∧ g < w.heap.size + 3) (.slice a4 (keys.length + 1) c4) (.slice a8 (kids.length + 1) c8) (keys ++ [key]) (kids ++ [kid]) := HM5.out.pushCF H7.out hk7 HGR8.out HOWC.out HO8.out HF8.out (fun g hg => by have := H7.out.size; have := HZ6.out g hg; omega)
  have hm9 := hm8.frmZ (N := w.heap.size) (i := 3) (x := .slice a8 (kids.length + 1) c8) (.inr ⟨Nat.le_refl _, by omega⟩)
  have hb9 : Below B0 w (w8.setCell ⟨w.heap.size, 3, none⟩ (.slice a8 (kids.length + 1) c8)) := ((HB5.out.trans (H7.out.mono (by omega))).grown HGR8.out (by simp; omega) (fun g hg => (HOW.out g (.inr hg)).1)).setCell (p := ⟨w.heap.size, 3, none⟩) (by show B0 ≤ w.heap.size; omega) _
  have hkeep9 : ∀ g, g < wz.heap.size → g ≠ w.heap.size → (Value.slice ka keys.length kc).ownBlock ≠ some g → (Value.slice ba kids.length bc).ownBlock ≠ some g → (w8.setCell ⟨w.heap.size, 3, none⟩ (.slice a8 (kids.length + 1) c8)).heap[g]? = wz.heap[g]? := fun g hg hA hk hc => by
    rw [Below.heap_setCell _ _ _ _ hA, HGR8.out.block g (by simp; omega) (fun e => hc e.symm), H7.out.block g (by omega), HKP.out g hg hA hk]
  have hA9 : (w8.setCell ⟨w.heap.size, 3, none⟩ (.slice a8 (kids.length + 1) c8)).heap[w.heap.size]? = some (.cells #[.int .u8 3, .string { data := #[] }, .slice a4 (keys.length + 1) c4, .slice a8 (kids.length + 1) c8, .int .i64 0] 34 (0, 0)) := by simp [World.setCell, HX8.out, Array.getElem?_modify]
  have hs9 : w5.heap.size ≤ (w8.setCell ⟨w.heap.size, 3, none⟩ (.slice a8 (kids.length + 1) c8)).heap.size := by have := HGR8.out.size; simp at this ⊢; omega
  clear p0 p1 p2 p3 p4 y0 y1 y2 y3 y4 q3 f3 hk7 hm8
  generalize w8.setCell ⟨w.heap.size, 3, none⟩ (.slice a8 (kids.length + 1) c8) = w9 at *
  have hg2 := (hkeep9 (w.heap.size + 2) (by omega) (by omega) (HNK.out _ (by omega)) (HNC.out _ (by omega))).trans G2.out
  have HG := Lib.hid hg2
  obtain ⟨q0, q1, q2, q3, q4⟩ := cells5 hg2
  obtain ⟨f0, f1, f2, f3, f4⟩ := cells5w hg2
  obtain ⟨x0, x1, x2, x3, x4⟩ := cells5 hA9
  have HM9 := Lib.hid hm9
  have HB9 := Lib.hid hb9
  have HK9 := Lib.hid hkeep9
  clear hg2 hA9 hm9 hb9 hkeep9
  go_wp2
  have hset := set5w (x0 := .int .u8 3) (x1 := .string { data := #[] }) (x2 := .slice a4 (keys.length + 1) c4) (x3 := .slice a8 (kids.length + 1) c8) (x4 := .int .i64 0) HG.out
  have hbf := set5w_below (x0 := .int .u8 3) (x1 := .string { data := #[] }) (x2 := .slice a4 (keys.length + 1) c4) (x3 := .slice a8 (kids.length + 1) c8) (x4 := .int .i64 0) (HB9.out) (B := w.heap.size + 1 + 1) (by omega)
  have hof : ∀ g, g ≠ w.heap.size + 1 + 1 → (((((w9.setCell ⟨w.heap.size + 1 + 1, 0, none⟩ (.int .u8 3)).setCell ⟨w.heap.size + 1 + 1, 1, none⟩ (.string { data := #[] })).setCell ⟨w.heap.size + 1 + 1, 2, none⟩ (.slice a4 (keys.length + 1) c4)).setCell ⟨w.heap.size + 1 + 1, 3, none⟩ (.slice a8 (kids.length + 1) c8)).setCell ⟨w.heap.size + 1 + 1, 4, none⟩ (.int .i64 0)).heap[g]? = w9.heap[g]? := fun g hg => set5w_other hg
  have hsf : (((((w9.setCell ⟨w.heap.size + 1 + 1, 0, none⟩ (.int .u8 3)).setCell ⟨w.heap.size + 1 + 1, 1, none⟩ (.string { data := #[] })).setCell ⟨w.heap.size + 1 + 1, 2, none⟩ (.slice a4 (keys.length + 1) c4)).setCell ⟨w.heap.size + 1 + 1, 3, none⟩ (.slice a8 (kids.length + 1) c8)).setCell ⟨w.heap.size + 1 + 1, 4, none⟩ (.int .i64 0)).heap.size = w9.heap.size := by simp
  clear q0 q1 q2 q3 q4 f0 f1 f2 f3 f4 x0 x1 x2 x3 x4
  generalize (((((w9.setCell ⟨w.heap.size + 1 + 1, 0, none⟩ (.int .u8 3)).setCell ⟨w.heap.size + 1 + 1, 1, none⟩ (.string { data := #[] })).setCell ⟨w.heap.size + 1 + 1, 2, none⟩ (.slice a4 (keys.length + 1) c4)).setCell ⟨w.heap.size + 1 + 1, 3, none⟩ (.slice a8 (kids.length + 1) c8)).setCell ⟨w.heap.size + 1 + 1, 4, none⟩ (.int .i64 0)) = wf at *
  obtain ⟨y0, y1, y2, y3, y4⟩ := cells5 hset
  have HOF := Lib.hid hof
  have HSF := Lib.hid hsf
  have HBF := Lib.hid hbf
  clear hof hsf hbf hset
  refine bodyPost_ret (v := .agg #[.int .u8 3, .string { data := #[] }, .slice a4 (keys.length + 1) c4, .slice a8 (kids.length + 1) c8, .int .i64 0]) (by simp [results, Try.results77, go_sem, y0, y1, y2, y3, y4]) rfl ?_
  refine ⟨_, _, rfl, (HM9.out.frm (fun g _ hz => HOF.out g (fun e => hz (.inr ⟨by omega, by omega⟩))) (by have := HSF.out; omega)).reZ (fun g _ hz => .inl hz), HBF.out, ⟨fun g hg hk hc => ?_⟩⟩
  rw [HOF.out g (by omega), HK9.out g (by omega) (by omega) hk hc, HBZ.out.block g hg]
end Go.Proofs.Ytlakmfhpinljjaa

/-
  Maps and Seqs in variables (rescriptref21.Tree); a drawn region in which two operations may come up.
-/
namespace Go.Proofs.Ytlakmfhpinljjaa
open Go Go.RowKit Go.WideShapes

/-- Either of two comes up. -/
theorem E_two {P : Program} {ops : List Oper} {Q : Exit → Act → World → Prop} {S : World → Prop} {k fuel : Nat} {listed : Array Bool} {a : Act} {w : World} (i j : Nat) {oi oj : Oper} (hr : Region.ready .any ops.toArray listed = [i, j]) (hi : ops[i]? = some oi) (hj : ops[j]? = some oj)
    (hw : Region.wanted oi (yielded ops.toArray a.tmps) = true) (hw2 : Region.wanted oj (yielded ops.toArray a.tmps) = true)
    (h : ∀ K : Act → World → Prop, Shut (∀ a' w', (listed.getD k false = false → i ≠ k → S w') → ((listed.getD k false = false → i ≠ k → S w') → wpAnyE P .any ops.toArray Q S k fuel (listed.setIfInBounds i true) a' w') → K a' w') → oi.wp P a w K Q)
    (h2 : ∀ K : Act → World → Prop, Shut (∀ a' w', (listed.getD k false = false → j ≠ k → S w') → ((listed.getD k false = false → j ≠ k → S w') → wpAnyE P .any ops.toArray Q S k fuel (listed.setIfInBounds j true) a' w') → K a' w') → oj.wp P a w K Q) : wpAnyE P .any ops.toArray Q S k (fuel + 1) listed a w := by
  refine ⟨fun h0 => (by rw [hr] at h0; cases h0), fun m hm => ?_⟩
  rw [hr] at hm
  have hm' : m = i ∨ m = j := by simpa using hm
  rcases hm' with rfl | rfl
  · have hi' : ops.toArray[m]? = some oi := by simpa using hi
    unfold wpOp
    simp only [hi', hw, if_true]
    exact .inl (h _ (fun a' w' h1 h2 => ⟨h1, h2 h1⟩))
  · have hj' : ops.toArray[m]? = some oj := by simpa using hj
    unfold wpOp
    simp only [hj', hw2, if_true]
    exact .inl (h2 _ (fun a' w' h1 h2 => ⟨h1, h2 h1⟩))

/-- Blocks that may be written while a Map is built: those from Bin to lo, and the variable's. -/
def ZV (Bin lo T g : Nat) : Prop := (Bin ≤ g ∧ g < lo) ∨ g = T
/-- Footprints: what came in, and what was made from s on. -/
def PV (Bin s hi g : Nat) : Prop := g < Bin ∨ inSpan s hi g
/-- A Map in the variable at block T. -/
structure MapV (w : World) (Bin lo T : Nat) (keys : List ByteArray) (kids : List Tree) (ka : Option Addr) (kc : Nat) (ba : Option Addr) (bc : Nat) : Prop where
  map : MapB w lo (ZV Bin lo T) (.slice ka keys.length kc) (.slice ba kids.length bc) keys kids
  at' : w.heap[T]? = some (.cells #[.int .u8 3, .string { data := #[] }, .slice ka keys.length kc, .slice ba kids.length bc, .int .i64 0] 34 (0, 0))
  bin : Bin ≤ lo
  lo : lo ≤ T
theorem MapV.below {w w' : World} {Bin lo T : Nat} {keys : List ByteArray} {kids : List Tree} {ka ba : Option Addr} {kc bc : Nat} (h : MapV w Bin lo T keys kids ka kc ba bc) (hb : Below w.heap.size w w') : MapV w' Bin lo T keys kids ka kc ba bc :=
  ⟨h.map.below hb, (hb.block _ (Array.getElem?_eq_some_iff.1 h.at').1).trans h.at', h.bin, h.lo⟩
theorem MapV.lt {w : World} {Bin lo T : Nat} {keys : List ByteArray} {kids : List Tree} {ka ba : Option Addr} {kc bc : Nat} (h : MapV w Bin lo T keys kids ka kc ba bc) : T < w.heap.size := (Array.getElem?_eq_some_iff.1 h.at').1
/-- A Map that is held as a value alone. -/
def MapW (w : World) (Bin lo : Nat) (keys : List ByteArray) (kids : List Tree) (vk vc : Value) : Prop := MapB w lo (fun g => Bin ≤ g ∧ g < lo) vk vc keys kids
theorem MapW.new (w : World) (Bin lo : Nat) : MapW w Bin lo [] [] (.slice none 0 0) (.slice none 0 0) := MapB.nil _ _ _
/-- It gets a variable. -/
theorem MapW.alloc {w : World} {Bin lo : Nat} {keys : List ByteArray} {kids : List Tree} {ka ba : Option Addr} {kc bc : Nat} (h : MapW w Bin lo keys kids (.slice ka keys.length kc) (.slice ba kids.length bc)) (h1 : Bin ≤ lo) (h2 : lo ≤ w.heap.size) :
    MapV (w.alloc (.cells #[.int .u8 3, .string { data := #[] }, .slice ka keys.length kc, .slice ba kids.length bc, .int .i64 0] 34)) Bin lo w.heap.size keys kids ka kc ba bc := by
  refine ⟨?_, World.alloc_heap_new w _, h1, h2⟩
  have h3 : MapB w lo (ZV Bin lo w.heap.size) (.slice ka keys.length kc) (.slice ba kids.length bc) keys kids := MapB.reZ h (fun g hg hz => by
    rcases hz with hz | hz
    · exact hz
    · omega)
  exact h3.below ((Below.refl _ _).alloc (Nat.le_refl _) _)
/-- A Map's variable that holds zero yet. -/
theorem MapW.zv {w : World} {Bin lo T : Nat} {keys : List ByteArray} {kids : List Tree} {vk vc : Value} (h : MapW w Bin lo keys kids vk vc) (hT : w.heap.size ≤ T) : MapB w lo (ZV Bin lo T) vk vc keys kids := MapB.reZ h (fun g hg hz => by
  rcases hz with hz | hz
  · exact hz
  · omega)
/-- A put, its result a value. -/
theorem vput_any (Bin lo s : Nat) (Z : Nat → Prop) (key : ByteArray) (kid : Tree) (keys : List ByteArray) (kids : List Tree) (ka : Option Addr) (kc : Nat) (ba : Option Addr) (bc : Nat) (cs : List Value) (w0 w : World)
    (hm : MapB w0 lo Z (.slice ka keys.length kc) (.slice ba kids.length bc) keys kids) (hb : Below w0.heap.size w0 w) (hs : w0.heap.size ≤ s) (hkid : NodeO w (PV Bin s w.heap.size) cs kid) (hBin : Bin ≤ lo) (hZB : ∀ g, Z g → Bin ≤ g) (hZlt : ∀ g, Z g → g < w0.heap.size) (hlo : lo ≤ w0.heap.size) (hk1 : keys.length ≤ 19) (hk2 : kids.length ≤ 19) (hkey : key.size ≤ maxLen) :
    Calls Try.prog 77 #[.agg #[.int .u8 3, .string { data := #[] }, .slice ka keys.length kc, .slice ba kids.length bc, .int .i64 0], .string key, .agg cs.toArray] w fun e w' => ∃ ka' kc' ba' bc', e = .returned (.agg #[.int .u8 3, .string { data := #[] }, .slice ka' (keys ++ [key]).length kc', .slice ba' (kids ++ [kid]).length bc', .int .i64 0]) ∧
      MapB w' lo Z (.slice ka' (keys ++ [key]).length kc') (.slice ba' (kids ++ [kid]).length bc') (keys ++ [key]) (kids ++ [kid]) ∧ Below lo w w' ∧ ∀ g, Z g → w'.heap[g]? = w.heap[g]? := by
  have hsz := hb.size
  refine (rput_any Bin lo s Z key kid keys kids _ _ cs w0 w hm hb hs hkid hBin hZB hZlt hlo (by omega) (by omega) hkey).mono ?_
  rintro e w' ⟨vk', vc', rfl, h1, h2, h3⟩
  obtain ⟨ka', kc', ba', bc', rfl, rfl⟩ := h1.form
  exact ⟨ka', kc', ba', bc', rfl, h1, h2, fun g hz => h3.keep g (by have := hZlt g hz; omega) (fun e => hm.kZ g e hz) (fun e => hm.cZ g e hz)⟩
/-- Stored into the variable. -/
theorem MapV.stored {w : World} {Bin lo T : Nat} {keys : List ByteArray} {kids : List Tree} {ka ba : Option Addr} {kc bc : Nat} {c0 c1 c2 c3 c4 : Value} (h : MapB w lo (ZV Bin lo T) (.slice ka keys.length kc) (.slice ba kids.length bc) keys kids) (ht : w.heap[T]? = some (.cells #[c0, c1, c2, c3, c4] 34 (0, 0))) (h1 : Bin ≤ lo) (h2 : lo ≤ T) :
    MapV (((((w.setCell ⟨T, 0, none⟩ (.int .u8 3)).setCell ⟨T, 1, none⟩ (.string { data := #[] })).setCell ⟨T, 2, none⟩ (.slice ka keys.length kc)).setCell ⟨T, 3, none⟩ (.slice ba kids.length bc)).setCell ⟨T, 4, none⟩ (.int .i64 0)) Bin lo T keys kids ka kc ba bc :=
  ⟨h.frm (fun g _ hz => set5w_other (fun e => hz (.inr e))) (by simp), set5w ht, h1, h2⟩
theorem MapB.nodeP {w : World} {Bin lo : Nat} {Z : Nat → Prop} {vk vc : Value} {keys : List ByteArray} {kids : List Tree} (h : MapB w lo Z vk vc keys kids) (hZ : ∀ g, Bin ≤ g → g < lo → Z g) : NodeO w (PV Bin lo w.heap.size) [.int .u8 3, .string { data := #[] }, vk, vc, .int .i64 0] (mapT keys kids) :=
  h.node (fun g hg hz => by
    rcases Nat.lt_or_ge g Bin with h1 | h1
    · exact .inl h1
    · refine .inr ⟨?_, hg⟩
      rcases Nat.lt_or_ge g lo with h2 | h2
      · exact absurd (hZ g h1 h2) hz
      · exact h2) (k := 3) (by decide) (by simp [ByteArray.size]) (by decide)

/-- A Seq in a variable at block N. -/
structure SeqV (w : World) (Bin N : Nat) (vc : Value) (kids : List Tree) : Prop where
  map : MapB w (N + 1) (fun g => Bin ≤ g ∧ g < N + 1) (.slice none 0 0) vc [] kids
  at' : w.heap[N]? = some (.cells #[.int .u8 2, .string { data := #[] }, .slice none 0 0, vc, .int .i64 0] 34 (0, 0))
  bin : Bin ≤ N
theorem SeqV.lt {w : World} {Bin N : Nat} {vc : Value} {kids : List Tree} (h : SeqV w Bin N vc kids) : N < w.heap.size := (Array.getElem?_eq_some_iff.1 h.at').1
theorem SeqV.below {w w' : World} {Bin N : Nat} {vc : Value} {kids : List Tree} (h : SeqV w Bin N vc kids) (hb : Below w.heap.size w w') : SeqV w' Bin N vc kids := ⟨h.map.below hb, (hb.block _ h.lt).trans h.at', h.bin⟩
theorem SeqV.owns {w : World} {Bin N : Nat} {vc : Value} {kids : List Tree} (h : SeqV w Bin N vc kids) : ∃ xs : List Value, w.ownsRow (N + 1) 34 5 vc kids.length xs := by
  obtain ⟨rows, _, h2, _⟩ := h.map.cown; exact ⟨_, h2⟩
theorem SeqV.form {w : World} {Bin N : Nat} {vc : Value} {kids : List Tree} (h : SeqV w Bin N vc kids) : ∃ ba bc, vc = .slice ba kids.length bc := by
  obtain ⟨_, _, ba, bc, _, h2⟩ := h.map.form; exact ⟨ba, bc, h2⟩
theorem SeqV.new {w : World} {Bin : Nat} (h1 : Bin ≤ w.heap.size) : SeqV (w.alloc (.cells #[.int .u8 2, .string { data := #[] }, .slice none 0 0, .slice none 0 0, .int .i64 0] 34)) Bin w.heap.size (.slice none 0 0) [] := ⟨MapB.nil _ _ _, World.alloc_heap_new w _, h1⟩
theorem SeqV.step {w w6 w7 : World} {Bin N s : Nat} {vc v' : Value} {kids : List Tree} {kid : Tree} {cs xs : List Value} (h : SeqV w Bin N vc kids) (hb : Below w.heap.size w w6) (hs : w.heap.size ≤ s) (hkid : NodeO w6 (PV Bin s w6.heap.size) cs kid) (hg : w6.grownBy w7 vc.ownBlock)
    (hxs : w6.ownsRow (N + 1) 34 5 vc kids.length xs) (hown : w7.ownsRow (N + 1) 34 5 v' (kids.length + 1) (xs ++ cs)) (hv' : Fresh w6 vc v') :
    SeqV (w7.setCell ⟨N, 3, none⟩ v') Bin N v' (kids ++ [kid]) ∧ Below N w (w7.setCell ⟨N, 3, none⟩ v') := by
  obtain ⟨xs', ho⟩ := h.owns
  have hN := h.lt
  have hbn := h.bin
  have hs1 := hb.size
  have hs2 := hg.size
  have hlo : ∀ g, vc.ownBlock = some g → N + 1 ≤ g ∧ g < w.heap.size := fun g hg => ho.lt g hg
  have hk : NodeO w6 (okB (fun g => Bin ≤ g ∧ g < N + 1) w6 (.slice none 0 0) vc) cs kid := hkid.keep (fun _ _ _ => rfl) (fun g hP => by
    rcases hP with hP | hP
    · exact ⟨by omega, fun hz => by omega, by simp [Value.ownBlock], fun e => by have := hlo g e; omega⟩
    · have h1 := hP.1; have h2 := hP.2
      exact ⟨by omega, fun hz => by omega, by simp [Value.ownBlock], fun e => by have := hlo g e; omega⟩)
  have h1 := (h.map.pushCF hb hk hg hxs hown hv' (fun g hg => by omega)).frmZ (N := N) (i := 3) (x := v') ⟨by omega, by omega⟩
  have e7 : w7.heap[N]? = some (.cells #[.int .u8 2, .string { data := #[] }, .slice none 0 0, vc, .int .i64 0] 34 (0, 0)) := (hg.block N (by omega) (fun e => by have := (hlo N e.symm).1; omega)).trans ((hb.block N hN).trans h.at')
  refine ⟨⟨h1, by simp [World.setCell, e7, Array.getElem?_modify], hbn⟩, ?_⟩
  have hx : Below N w w7 := (hb.mono (by omega)).grown hg (by omega) (fun j hj => by have := (hlo j hj).1; omega)
  exact hx.setCell (p := ⟨N, 3, none⟩) (Nat.le_refl _) _
theorem SeqV.node {w : World} {Bin N : Nat} {vc : Value} {kids : List Tree} (h : SeqV w Bin N vc kids) : NodeO w (PV Bin (N + 1) w.heap.size) [.int .u8 2, .string { data := #[] }, .slice none 0 0, vc, .int .i64 0] (seqT kids) :=
  h.map.node (fun g hg hz => by
    rcases Nat.lt_or_ge g Bin with h1 | h1
    · exact .inl h1
    · refine .inr ⟨?_, hg⟩
      rcases Nat.lt_or_ge g (N + 1) with h2 | h2
      · exact absurd ⟨h1, h2⟩ hz
      · exact h2) (k := 2) (by decide) (by simp [ByteArray.size]) (by decide)
end Go.Proofs.Ytlakmfhpinljjaa
