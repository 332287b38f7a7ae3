/-
  The law WholePaths.
-/
import Derived.Test.YtdhgcgejdoedbaaGreatDoorBw37
namespace Go.Proofs.YtdhgcgejdoedbaaGreatDoor
open Go.RowKit Go.WideShapes

theorem OffR.set5 (P : Nat) (W : World) (x0 x1 x2 x3 x4 : Value) : OffR P W (((((W.setCell ⟨P, 0, none⟩ x0).setCell ⟨P, 1, none⟩ x1).setCell ⟨P, 2, none⟩ x2).setCell ⟨P, 3, none⟩ x3).setCell ⟨P, 4, none⟩ x4) :=
  ⟨set5w_below (Below.refl P W) (Nat.le_refl _), fun _k _ hn => set5w_other hn⟩
theorem owns_set5 {P : Nat} {W : World} {x0 x1 x2 x3 x4 : Value} {base size n : Nat} {e : TypeId} {v : Value} {xs : List Value} (h : W.ownsRow base e size v n xs) (hn : ∀ g, v.ownBlock = some g → g ≠ P) : (((((W.setCell ⟨P, 0, none⟩ x0).setCell ⟨P, 1, none⟩ x1).setCell ⟨P, 2, none⟩ x2).setCell ⟨P, 3, none⟩ x3).setCell ⟨P, 4, none⟩ x4).ownsRow base e size v n xs := ownsRow_keepB h fun g hg => set5w_other (hn g hg)
theorem u8s_at {w : World} {v : Value} {l : List Nat} (h : RdS w v 1 l.length (u8s l)) {j : Nat} (hj : j < l.length) : ∃ g off cap, v = .slice (some ⟨g, off, none⟩) l.length cap ∧ w.cell? ⟨g, off + j, none⟩ = some (.int .u8 (l[j] : Nat)) := by
  rcases h.cases (by decide) with ⟨h0, _⟩ | ⟨_, _, g, off, cap, rfl, _, _, h3⟩
  · omega
  · exact ⟨g, off, cap, rfl, h3 j _ (by simp [u8s, hj])⟩
set_option maxRecDepth 100000 in
set_option maxHeartbeats 4000000 in
theorem WholePaths_any (x : Tree) (cs : List Value) (way : List Nat) (wv : Value) (w : World) (h : NodeR w cs x) (hw : AllLt 256 way) (hwv : RdS w wv 1 way.length (u8s way)) :
    Calls Tryz.prog 4 #[.agg cs.toArray, wv] w fun e w' => e = .returned (.bool true) ∧ Below w.heap.size w w' := by
  obtain ⟨i0, hi, hi0, hi1, hi2⟩ := info_parts Tryz.info_strD
  obtain ⟨ka, kc, ba, bc, rfl⟩ := h.cells
  obtain ⟨wa, wc0, rfl⟩ := hwv.form
  have hwl := hwv.2
  have hwl63 : way.length ≤ 9223372036854775807 := by
    obtain ⟨_, _, e, h1, h2, _⟩ := hwl
    injection e with e1 e2 e3
    subst e3
    unfold maxLen at h2
    omega
  have hb1 := (Below.refl w.heap.size w).alloc (Nat.le_refl _) (.cells #[.int .u8 (x.kind : Int), .string x.text, .slice ka x.keys.length kc, .slice ba x.kids.length bc, .int .i64 x.line] 25)
  have HN0 := Lib.hid h
  have HW0 := Lib.hid hwv
  have HAW := Lib.hid hw
  have HX1 := Lib.hid (World.alloc_heap_new w (.cells #[.int .u8 (x.kind : Int), .string x.text, .slice ka x.keys.length kc, .slice ba x.kids.length bc, .int .i64 x.line] 25))
  have HB1 := Lib.hid hb1
  have hz1 : w.heap.size < (w.alloc (.cells #[.int .u8 (x.kind : Int), .string x.text, .slice ka x.keys.length kc, .slice ba x.kids.length bc, .int .i64 x.line] 25)).heap.size := by simp
  have HZ1 := Lib.hid hz1
  clear h hb1 hz1 hw hwv hwl
  go_enter Tryz.func4, Tryz.ntmps4
  go_wp2_with fail
  generalize w.alloc (.cells #[.int .u8 (x.kind : Int), .string x.text, .slice ka x.keys.length kc, .slice ba x.kids.length bc, .int .i64 x.line] 25) = w1 at *
  refine (awakeTree_any w1).mono ?_
  rintro e w2 ⟨rfl, hb2⟩
  have HX2 := Lib.hid ((hb2.block _ HZ1.out).trans HX1.out)
  have HB2 := Lib.hid (HB1.out.trans (hb2.mono HB1.out.size))
  have HZ2 := Lib.hid (Nat.lt_of_lt_of_le HZ1.out hb2.size)
  clear hb2
  obtain ⟨p0, p1, p2, p3, p4⟩ := cells5 HX2.out
  go_wp2_with fail
  refine (SmallT_any x _ w2 (HN0.out.belowW HB2.out)).mono ?_
  rintro e w3 ⟨rfl, hb3⟩
  have HX3 := Lib.hid ((hb3.block _ HZ2.out).trans HX2.out)
  have HB3 := Lib.hid (HB2.out.trans (hb3.mono HB2.out.size))
  have HZ3 := Lib.hid (Nat.lt_of_lt_of_le HZ2.out hb3.size)
  clear hb3 p0 p1 p2 p3 p4
  cases hsm : smallTB x with
  | false =>
    go_wp2_with fail
    go_ret
    exact ⟨rfl, HB3.out⟩
  | true =>
    obtain ⟨hs1, hs2⟩ := small_of hsm
    have HPR := Lib.hid (print_any x _ w3 (HN0.out.belowW HB3.out) hs1 hs2)
    have HSM := Lib.hid (And.intro hs1 hs2)
    clear hs1 hs2 hsm
    by_cases hw20 : 20 < way.length
    · have d20 : decide ((20 : Int) < (way.length : Int)) = true := decide_eq_true (by omega)
      go_wp2_with fail
      go_ret
      exact ⟨rfl, HB3.out⟩
    have d20 : decide ((20 : Int) < (way.length : Int)) = false := decide_eq_false (by omega)
    obtain ⟨p0, p1, p2, p3, p4⟩ := cells5 HX3.out
    go_wp2_with fail
    refine HPR.out.mono ?_
    rintro e w4 ⟨s, c, rfl, hp, hb4⟩
    have HX4 := Lib.hid ((hb4.block _ HZ3.out).trans HX3.out)
    have HB4 := Lib.hid (HB3.out.trans (hb4.mono HB3.out.size))
    have HZ4 := Lib.hid (Nat.lt_of_lt_of_le HZ3.out hb4.size)
    clear hb4 p0 p1 p2 p3 p4 HPR
    rcases hp with ⟨hc, rfl⟩ | ⟨rfl, hc, hs, hz⟩
    · have d1 : (c == 0) = false := beq_eq_false_iff_ne.2 hc
      have e1 : (({ data := #[] } : ByteArray) == { data := #[] }) = true := by decide
      clear hc
      go_wp2_with fail
      go_ret
      exact ⟨rfl, HB4.out⟩
    · have HPK := Lib.hid (print_k HSM.out.1 HSM.out.2 hc hs hz)
      have HPA := Lib.hid (fun w => parse_any s (blkT x) x 1 0 w HPK.out.fine HPK.out.all HPK.out.ok HPK.out.tok (Nat.le_trans HPK.out.len (by decide)) HPK.out.ln HPK.out.good HPK.out.dep)
      have HP0 := Lib.hid (PathK.zero HPK.out.good HSM.out.1)
      clear hc hs hz
      go_wp2_with fail
      refine (HPA.out w4).mono ?_
      rintro e w5 ⟨cs2, m, rfl, hn5, hsm5, hb5⟩
      obtain ⟨ka2, kc2, ba2, bc2, rfl⟩ := hn5.cells
      have hx5 := (hb5.block _ HZ4.out).trans HX4.out
      have hb6 : Below w5.heap.size w5 (((w5.alloc (.cells #[.int .u8 (m.kind : Int), .string m.text, .slice ka2 m.keys.length kc2, .slice ba2 m.kids.length bc2, .int .i64 m.line] 25)).alloc (.cells #[.int .i64 0, .int .i64 0] 33)).alloc (.cells #[.int .u8 (x.kind : Int), .string x.text, .slice ka x.keys.length kc, .slice ba x.kids.length bc, .int .i64 x.line] 25)) := (((Below.refl w5.heap.size w5).alloc (Nat.le_refl _) _).alloc (by simp) _).alloc (by simp; omega) _
      have hlt5 : w.heap.size < w5.heap.size := (Array.getElem?_eq_some_iff.1 hx5).1
      have HX6 := Lib.hid ((hb6.block _ hlt5).trans hx5)
      have HM5 := Lib.hid hn5
      have HSK := Lib.hid hsm5
      have HB5 := Lib.hid (HB4.out.trans (hb5.mono HB4.out.size))
      have HB56 := Lib.hid hb6
      have HB6 := Lib.hid ((HB4.out.trans (hb5.mono HB4.out.size)).trans (hb6.mono (Nat.le_of_lt hlt5)))
      have HM6 := Lib.hid (show (((w5.alloc (.cells #[.int .u8 (m.kind : Int), .string m.text, .slice ka2 m.keys.length kc2, .slice ba2 m.kids.length bc2, .int .i64 m.line] 25)).alloc (.cells #[.int .i64 0, .int .i64 0] 33)).alloc (.cells #[.int .u8 (x.kind : Int), .string x.text, .slice ka x.keys.length kc, .slice ba x.kids.length bc, .int .i64 x.line] 25)).heap[w5.heap.size]? = some (.cells #[.int .u8 (m.kind : Int), .string m.text, .slice ka2 m.keys.length kc2, .slice ba2 m.kids.length bc2, .int .i64 m.line] 25 (0, 0)) from (Below.heap_alloc _ _ _ (by simp; omega)).trans ((Below.heap_alloc _ _ _ (by simp)).trans (World.alloc_heap_new w5 _)))
      have HF6 := Lib.hid (show (((w5.alloc (.cells #[.int .u8 (m.kind : Int), .string m.text, .slice ka2 m.keys.length kc2, .slice ba2 m.kids.length bc2, .int .i64 m.line] 25)).alloc (.cells #[.int .i64 0, .int .i64 0] 33)).alloc (.cells #[.int .u8 (x.kind : Int), .string x.text, .slice ka x.keys.length kc, .slice ba x.kids.length bc, .int .i64 x.line] 25)).heap[w5.heap.size + 1]? = some (.cells #[.int .i64 0, .int .i64 0] 33 (0, 0)) from (Below.heap_alloc _ _ _ (by simp)).trans (by
        have := World.alloc_heap_new (w5.alloc (.cells #[.int .u8 (m.kind : Int), .string m.text, .slice ka2 m.keys.length kc2, .slice ba2 m.kids.length bc2, .int .i64 m.line] 25)) (.cells #[.int .i64 0, .int .i64 0] 33)
        rwa [World.size_alloc] at this))
      have HT6 := Lib.hid (show (((w5.alloc (.cells #[.int .u8 (m.kind : Int), .string m.text, .slice ka2 m.keys.length kc2, .slice ba2 m.kids.length bc2, .int .i64 m.line] 25)).alloc (.cells #[.int .i64 0, .int .i64 0] 33)).alloc (.cells #[.int .u8 (x.kind : Int), .string x.text, .slice ka x.keys.length kc, .slice ba x.kids.length bc, .int .i64 x.line] 25)).heap[w5.heap.size + 1 + 1]? = some (.cells #[.int .u8 (x.kind : Int), .string x.text, .slice ka x.keys.length kc, .slice ba x.kids.length bc, .int .i64 x.line] 25 (0, 0)) from by
        have := World.alloc_heap_new ((w5.alloc (.cells #[.int .u8 (m.kind : Int), .string m.text, .slice ka2 m.keys.length kc2, .slice ba2 m.kids.length bc2, .int .i64 m.line] 25)).alloc (.cells #[.int .i64 0, .int .i64 0] 33)) (.cells #[.int .u8 (x.kind : Int), .string x.text, .slice ka x.keys.length kc, .slice ba x.kids.length bc, .int .i64 x.line] 25)
        rwa [World.size_alloc, World.size_alloc] at this)
      have hsz6 : (((w5.alloc (.cells #[.int .u8 (m.kind : Int), .string m.text, .slice ka2 m.keys.length kc2, .slice ba2 m.kids.length bc2, .int .i64 m.line] 25)).alloc (.cells #[.int .i64 0, .int .i64 0] 33)).alloc (.cells #[.int .u8 (x.kind : Int), .string x.text, .slice ka x.keys.length kc, .slice ba x.kids.length bc, .int .i64 x.line] 25)).heap.size = w5.heap.size + 3 := by simp
      have HSZ6 := Lib.hid hsz6
      have hxa : ∀ k c, (w5.cell? ⟨w.heap.size, k, none⟩ = some c) → ((w5.alloc (.cells #[.int .u8 (m.kind : Int), .string m.text, .slice ka2 m.keys.length kc2, .slice ba2 m.kids.length bc2, .int .i64 m.line] 25)).alloc (.cells #[.int .i64 0, .int .i64 0] 33)).cell? ⟨w.heap.size, k, none⟩ = some c := fun k c hk => cellB (((Below.refl w5.heap.size w5).alloc (Nat.le_refl _) _).alloc (by simp) _) hk
      obtain ⟨p0, p1, p2, p3, p4⟩ := cells5 hx5
      have s0 := hxa _ _ p0
      have s1 := hxa _ _ p1
      have s2 := hxa _ _ p2
      have s3 := hxa _ _ p3
      have s4 := hxa _ _ p4
      clear hx5 hb5 hb6 hn5 hsm5 hsz6 hxa p0 p1 p2 p3 p4
      go_upto_region 11 with fail
      generalize (((w5.alloc (.cells #[.int .u8 (m.kind : Int), .string m.text, .slice ka2 m.keys.length kc2, .slice ba2 m.kids.length bc2, .int .i64 m.line] 25)).alloc (.cells #[.int .i64 0, .int .i64 0] 33)).alloc (.cells #[.int .u8 (x.kind : Int), .string x.text, .slice ka x.keys.length kc, .slice ba x.kids.length bc, .int .i64 x.line] 25)) = w6 at *
      clear s0 s1 s2 s3 s4
      have HLX := Lib.hid hlt5
      have HZE := Lib.hid (show w6.ownsRow w6.heap.size 9 1 (.slice none 0 0) 0 (strsV []) from ⟨rfl, .inl ⟨rfl, rfl⟩⟩)
      clear hlt5
      go_wp2_with fail
      go_loopg [11, 9] (way.length + 1) (fun gk iv pv wr => ∃ j : Nat, j + gk = way.length + 1 ∧ j ≤ way.length ∧ iv = .int .i64 j ∧ ∃ (p : List ByteArray) (y : Tree) (ya yb : Option Addr) (yc yd : Nat), Hid (p.length = j) ∧ Hid (PathK x y p) ∧ Hid (NodeR w [.int .u8 (y.kind : Int), .string y.text, .slice ya y.keys.length yc, .slice yb y.kids.length yd, .int .i64 y.line] y) ∧ Hid (wr.heap[w5.heap.size + 1 + 1]? = some (.cells #[.int .u8 (y.kind : Int), .string y.text, .slice ya y.keys.length yc, .slice yb y.kids.length yd, .int .i64 y.line] 25 (0, 0))) ∧ Hid (wr.ownsRow w6.heap.size 9 1 pv p.length (strsV p)) ∧ Hid (OffR (w5.heap.size + 1 + 1) w6 wr))
      case atStart => exact ⟨0, by omega, by omega, rfl, [], x, ka, ba, kc, bc, Lib.hid rfl, HP0, HN0, HT6, HZE, Lib.hid (OffR.refl _ _)⟩
      case round =>
        obtain ⟨j, hgk, hj, rfl, p, y, ya, yb, yc, yd, HPL, HPK1, HNY, HY, HPV, HO⟩ := hrel
        have hplz : p.length ≤ 1000 := by have := HPL.out; omega
        have hg : gk = way.length + 1 - j := by omega
        subst hg
        have hlt6 : w.heap.size ≤ w5.heap.size + 1 + 1 := by have := HLX.out; omega
        have HLE := Lib.hid hlt6
        have HBW := HB6
        have HBR := Lib.hid (HB6.out.trans (HO.out.b.mono hlt6))
        obtain ⟨q0, q1, q2, q3, q4⟩ := cells5 HY.out
        obtain ⟨va, vc, rfl⟩ := (RdS.of_owns HPV.out).form
        clear hlt6
        by_cases hjl : j < way.length
        · have hj1 : (j : Int) < (way.length : Int) := by omega
          have d1 : decide ((j : Int) < (way.length : Int)) = true := decide_eq_true (by omega)
          by_cases hk0 : y.kids.length = 0
          · have d2 : decide (0 < y.kids.length) = false := decide_eq_false (by omega)
            have d2' : decide ((0 : Int) < (y.kids.length : Int)) = false := decide_eq_false (by omega)
            have HK0 := Lib.hid hk0
            clear hk0
            have hlt2 : w5.heap.size + 1 + 1 < w6.heap.size := by have := HSZ6.out; omega
            have hwx : w.heap.size < w5.heap.size := HLX.out
            have hX := (HO.out.same w.heap.size (by omega) (by omega)).trans HX6.out
            have hM := (HO.out.same w5.heap.size (by omega) (by omega)).trans HM6.out
            have hF := (HO.out.same (w5.heap.size + 1) (by omega) (by omega)).trans HF6.out
            have hmm : Below w5.heap.size w5 wr := HB56.out.trans (HO.out.b.mono (by omega))
            obtain ⟨z, hz1, hz2⟩ := at_same p m x y HSK.out HPK1.out.at_
            have HZ2 := Lib.hid hz2
            have hsz : ∀ s ∈ p, s.size ≤ 9223372036854775807 := fun s hs => Nat.le_trans (HPK1.out.size s hs) (by decide)
            have HAT := Lib.hid (At_any x p _ _ wr (HN0.out.belowW HBR.out) (RdS.of_owns HPV.out) hsz)
            have HAT2 := Lib.hid (fun W (hb : Below wr.heap.size wr W) => At_any m p _ _ W ((HM5.out.belowW hmm).belowW hb) ((RdS.of_owns HPV.out).below hb) hsz)
            rw [HPK1.out.at_] at HAT
            rw [hz1] at HAT2
            have HYR := Lib.hid (HNY.out.belowW HBR.out)
            obtain ⟨p0, p1, p2, p3, p4⟩ := cells5 hX
            clear hz1 hz2 hsz hmm hX
            go_wp2_with fail
            refine HAT.out.mono ?_
            rintro e w7 ⟨cs7, b7, rfl, hn7, hb7⟩
            clear q0 q1 q2 q3 q4
            obtain ⟨rfl, hn7⟩ := hn7
            obtain ⟨ka7, kc7, ba7, bc7, rfl⟩ := hn7.cells
            have hb8 := (Below.refl w7.heap.size w7).alloc (Nat.le_refl _) (.cells #[.int .u8 (y.kind : Int), .string y.text, .slice ka7 y.keys.length kc7, .slice ba7 y.kids.length bc7, .int .i64 y.line] 25)
            have hb78 := hb7.trans (hb8.mono hb7.size)
            have h13 := World.alloc_heap_new w7 (.cells #[.int .u8 (y.kind : Int), .string y.text, .slice ka7 y.keys.length kc7, .slice ba7 y.kids.length bc7, .int .i64 y.line] 25)
            have HN8 := Lib.hid (hn7.belowW hb8)
            have HA8 := Lib.hid (HAT2.out _ hb78)
            have HY8 := Lib.hid (HYR.out.belowW hb78)
            have hM8 := (hb78.block _ (Array.getElem?_eq_some_iff.1 hM).1).trans hM
            have hF8 := (hb78.block _ (Array.getElem?_eq_some_iff.1 hF).1).trans hF
            have hY8 := (hb78.block _ (Array.getElem?_eq_some_iff.1 HY.out).1).trans HY.out
            have HB8 := Lib.hid (HBR.out.trans (hb78.mono HBR.out.size))
            clear hb7 hb8 hb78 hn7 hM hF p0 p1 p2 p3 p4
            go_upto_region 20 with fail
            generalize w7.alloc (.cells #[.int .u8 (y.kind : Int), .string y.text, .slice ka7 y.keys.length kc7, .slice ba7 y.kids.length bc7, .int .i64 y.line] 25) = w8 at *
            have H13 := Lib.hid h13
            have HF8 := Lib.hid hF8
            have HYC8 := Lib.hid hY8
            obtain ⟨p0, p1, p2, p3, p4⟩ := cells5 hM8
            clear h13 hF8 hY8 hM8
            go_wp2_with fail
            refine HA8.out.mono ?_
            rintro e w9 ⟨cs9, b9, rfl, hn9, hb9⟩
            obtain ⟨rfl, hn9⟩ := hn9
            obtain ⟨ka9, kc9, ba9, bc9, rfl⟩ := hn9.cells
            have hb10 := (Below.refl w9.heap.size w9).alloc (Nat.le_refl _) (.cells #[.int .u8 (z.kind : Int), .string z.text, .slice ka9 z.keys.length kc9, .slice ba9 z.kids.length bc9, .int .i64 z.line] 25)
            have hb910 := hb9.trans (hb10.mono hb9.size)
            have h15 := World.alloc_heap_new w9 (.cells #[.int .u8 (z.kind : Int), .string z.text, .slice ka9 z.keys.length kc9, .slice ba9 z.kids.length bc9, .int .i64 z.line] 25)
            have HN10 := Lib.hid (hn9.belowW hb10)
            have h13 := (hb910.block _ (Array.getElem?_eq_some_iff.1 H13.out).1).trans H13.out
            have hF10 := (hb910.block _ (Array.getElem?_eq_some_iff.1 HF8.out).1).trans HF8.out
            have hY10 := (hb910.block _ (Array.getElem?_eq_some_iff.1 HYC8.out).1).trans HYC8.out
            have HS1 := Lib.hid (bSame_any y y _ _ _ (HN8.out.belowW hb910) (HY8.out.belowW hb910))
            rw [sameT_refl y] at HS1
            have HY10 := Lib.hid (HY8.out.belowW hb910)
            have HB10 := Lib.hid (HB8.out.trans (hb910.mono HB8.out.size))
            clear hb9 hb10 hb910 hn9 p0 p1 p2 p3 p4
            go_upto_region 21 with fail
            generalize w9.alloc (.cells #[.int .u8 (z.kind : Int), .string z.text, .slice ka9 z.keys.length kc9, .slice ba9 z.kids.length bc9, .int .i64 z.line] 25) = w10 at *
            have H15 := Lib.hid h15
            have HYC10 := Lib.hid hY10
            obtain ⟨p0, p1, p2, p3, p4⟩ := cells5 h13
            obtain ⟨q0, q1, q2, q3, q4⟩ := cells5 hY10
            obtain ⟨r0, r1, -, -⟩ := cells2 hF10
            clear h15 h13 hY10 hF10
            go_wp2_with fail
            refine HS1.out.mono ?_
            rintro e w11 ⟨rfl, hb11⟩
            have h15 := (hb11.block _ (Array.getElem?_eq_some_iff.1 H15.out).1).trans H15.out
            have hY11 := (hb11.block _ (Array.getElem?_eq_some_iff.1 HYC10.out).1).trans HYC10.out
            have HS2 := Lib.hid (bSame_any z y _ _ _ (HN10.out.belowW hb11) (HY10.out.belowW hb11))
            rw [HZ2.out] at HS2
            have HB11 := Lib.hid (HB10.out.trans (hb11.mono HB10.out.size))
            clear hb11 p0 p1 p2 p3 p4 q0 q1 q2 q3 q4 r0 r1
            obtain ⟨p0, p1, p2, p3, p4⟩ := cells5 h15
            obtain ⟨q0, q1, q2, q3, q4⟩ := cells5 hY11
            clear h15 hY11
            go_wp2_with fail
            refine HS2.out.mono ?_
            rintro e w12 ⟨rfl, hb12⟩
            have HB12 := Lib.hid (HB11.out.trans (hb12.mono HB11.out.size))
            clear hb12
            go_wp2_with fail
            go_ret
            exact ⟨rfl, HB12.out⟩
          · have d2 : decide (0 < y.kids.length) = true := decide_eq_true (by omega)
            have d2' : decide ((0 : Int) < (y.kids.length : Int)) = true := decide_eq_true (by omega)
            obtain ⟨gw, ow, capw, hew, hwz⟩ := u8s_at HW0.out hjl
            obtain ⟨rfl, rfl⟩ : wa = some ⟨gw, ow, none⟩ ∧ wc0 = capw := by injection hew with e1 e2 e3; exact ⟨e1, e3⟩
            have z0 := cellB HBR.out hwz
            have hbb : way[j] < 256 := HAW.out _ (List.getElem_mem hjl)
            generalize way[j] = bb at *
            obtain ⟨k, hk⟩ : ∃ k, k = bb % y.kids.length := ⟨_, rfl⟩
            have hky : k < y.kids.length := by rw [hk]; exact Nat.mod_lt _ (by omega)
            obtain ⟨hks, hns, -⟩ := NodeR.kidsR HNY.out
            have HKS := Lib.hid hks
            obtain ⟨g, off, cap, kz, kzc, bz, bzc, he, y1, y2, hnz, k0, k1, k2, k3, k4⟩ := hns.at hky
            obtain ⟨rfl, rfl⟩ : yb = some ⟨g, off, none⟩ ∧ yd = cap := by injection he with e1 e2 e3; exact ⟨e1, e3⟩
            have HNZ := Lib.hid hnz
            have HPK2 := Lib.hid (HPK1.out.step hky)
            have hkI : (k : Int) < (y.kids.length : Int) := by omega
            have hmod : (IntKind.i64.wrap (bb : Int)).tmod (y.kids.length : Int) = (k : Int) := by rw [IntWalk.i64_in _ (by omega), hk]; rfl
            have HK := Lib.hid hk
            clear hk
            have hnn : ¬ (y.kids.length : Int) = 0 := by omega
            clear hks hns y1 y2 hnz he hew hwz
            go_upto_region 14 with fail
            refine E_region (S := (fun V => V.cell? ⟨gw, ow + j, none⟩ = some (.int .u8 (bb : Nat)) ∧ V.cell? ⟨w5.heap.size + 1 + 1, 3, none⟩ = some (.slice (some ⟨g, off, none⟩) y.kids.length yd))) 9 (by kernel_rfl) ⟨z0, q3⟩ (fun _ _ _ _ _ h => h) (fun Q' hQ hK' hHeld => ?_)
            refine E_take0 hQ (fun _ => hHeld) 0 (v := ?rpv1) rfl rfl (by kernel_rfl) (by kernel_rfl) (by kernel_rfl) (by decide) (by rfl) ?rpy1 ?rpr1
            case rpy1 => (intro w; go_simp; (try with_reducible rfl))
            (try simp only [layE])
            refine E_take0 hQ (fun _ => hHeld) 1 (v := ?rpv2) rfl rfl (by kernel_rfl) (by kernel_rfl) (by kernel_rfl) (by decide) (by rfl) ?rpy2 ?rpr2
            case rpy2 => (intro w; go_simp; (try with_reducible rfl))
            (try simp only [layE])
            refine E_take0 hQ (fun _ => hHeld) 2 (v := ?rpv3) rfl rfl (by kernel_rfl) (by kernel_rfl) (by kernel_rfl) (by decide) (by rfl) ?rpy3 ?rpr3
            case rpy3 => (intro w; go_simp; (try with_reducible rfl))
            (try simp only [layE])
            refine E_take hQ hHeld 3 (v := ?rpv4) rfl rfl (by kernel_rfl) (by kernel_rfl) (by kernel_rfl) (by kernel_rfl) (by kernel_rfl) (by rfl) ?rpy4 ?rpr4
            case rpy4 => (intro w hSw; (try dsimp only at hSw); go_simp; (try with_reducible rfl))
            (try simp only [layE])
            refine E_take0 hQ (fun _ => hHeld) 4 (v := ?rpv5) rfl rfl (by kernel_rfl) (by kernel_rfl) (by kernel_rfl) (by decide) (by rfl) ?rpy5 ?rpr5
            case rpy5 => (intro w; go_simp; (try with_reducible rfl))
            (try simp only [layE])
            refine E_take0 hQ (fun _ => hHeld) 5 (v := ?rpv6) rfl rfl (by kernel_rfl) (by kernel_rfl) (by kernel_rfl) (by decide) (by rfl) ?rpy6 ?rpr6
            case rpy6 => (intro w; go_simp; (try with_reducible rfl))
            (try simp only [layE])
            refine E_take hQ hHeld 6 (v := ?rpv7) rfl rfl (by kernel_rfl) (by kernel_rfl) (by kernel_rfl) (by kernel_rfl) (by kernel_rfl) (by rfl) ?rpy7 ?rpr7
            case rpy7 => (intro w hSw; (try dsimp only at hSw); go_simp; (try with_reducible rfl))
            (try simp only [layE])
            refine E_take0 hQ (fun _ => hHeld) 7 (v := ?rpv8) rfl rfl (by kernel_rfl) (by kernel_rfl) (by kernel_rfl) (by decide) (by rfl) ?rpy8 ?rpr8
            case rpy8 => (intro w; go_simp; (try with_reducible rfl))
            (try simp only [layE])
            refine E_take0 hQ (fun _ => hHeld) 8 (v := .int .i64 (k : Nat)) rfl rfl (by kernel_rfl) (by kernel_rfl) (by kernel_rfl) (by decide) (by rfl) ?rpy9 ?rpr9
            case rpy9 => (intro w; go_simp; (try exact hmod))
            (try simp only [layE])
            refine E_one 9 (by kernel_rfl) rfl (by rfl) (fun K hK => ?_)
            go_simp
            (try simp only [layE])
            refine hK.out _ _ (fun _ h => absurd rfl h) (fun _ => ?_)
            clear hK hHeld
            (try simp only [layE])
            refine E_done (by kernel_rfl) ?_ _
            refine hK'.out _ _ ?_
            clear hmod hnn z0
            have HO1 := Lib.hid (HO.out.trans (OffR.of_below (Below.refl _ _).drew (Nat.le_trans (by have := HSZ6.out; omega : w5.heap.size + 1 + 1 ≤ w6.heap.size) HO.out.size)))
            have HPV1 := Lib.hid (show wr.drew.ownsRow w6.heap.size 9 1 (.slice va p.length vc) p.length (strsV p) from HPV.out)
            have HY1 := Lib.hid (show wr.drew.heap[w5.heap.size + 1 + 1]? = some (.cells #[.int .u8 (y.kind : Int), .string y.text, .slice ya y.keys.length yc, .slice (some ⟨g, off, none⟩) y.kids.length yd, .int .i64 y.line] 25 (0, 0)) from HY.out)
            by_cases h3 : y.kind = 3
            · skip
              have hkl := (HPK1.out.good.map (by omega) (fun e => hk0 (by rw [e]; rfl))).2
              have hkk : k < y.keys.length := by omega
              have hki : (k : Int) < (y.keys.length : Int) := by omega
              obtain ⟨gk, ok, rfl, hka⟩ : ∃ gk ok, ya = some ⟨gk, ok, none⟩ ∧ ∀ (i : Nat) c, (strsV y.keys)[i]? = some c → wr.cell? ⟨gk, ok + i, none⟩ = some c := by
                rcases (HKS.out.below HBR.out).cases (by decide) with ⟨h0, _⟩ | ⟨_, _, gk, ok, c', hq, _, _, h3⟩
                · omega
                · injection hq with e1 e2 e3
                  exact ⟨gk, ok, e1, h3⟩
              have hkj := hka k _ (strsV_get hkk)
              have HNM := Lib.hid (show nameAt y k = y.keys[k] from by unfold nameAt; rw [if_pos h3]; simp [List.getD, hkk])
              have d3 : ((y.kind : Int) == 3) = true := beq_iff_eq.2 (by omega)
              have HOQ := HO1
              have HPQ := HPV1
              have HYQ := HY1
              have HKK := Lib.hid hkk
              clear hka hkl h3

              have hb4 := (Below.refl (wr.drew).heap.size (wr.drew)).alloc (Nat.le_refl _) (.cells #[.string y.keys[k]] 9)
              have HO4 := Lib.hid (HOQ.out.trans (OffR.of_below hb4 (Nat.le_trans (by have := HSZ6.out; omega : w5.heap.size + 1 + 1 ≤ w6.heap.size) HOQ.out.size)))
              have HOW4 := Lib.hid (ownsB HPQ.out hb4)
              have HBS4 := Lib.hid (show w6.heap.size ≤ ((wr.drew).alloc (.cells #[.string y.keys[k]] 9)).heap.size from HO4.out.size)
              have HY4 := Lib.hid ((hb4.block _ (Array.getElem?_eq_some_iff.1 HYQ.out).1).trans HYQ.out)
              clear hb4

              go_upto_region 18 with (at_builtin; go_must (refine wpList_push rfl _ _ 22 rfl w6.heap.size 9 i0 (.string ByteArray.empty) 1 16 Tryz.underlying22 hi hi0 hi1 hi2 rfl (by decide) _ _ _ rfl HOW4.out ⟨(wr.drew).heap.size, 0, none⟩ 1 1 [_] rfl rfl (cell_one_new _ _ _) (by simp [Value.oneCell']) (by unfold maxLen; omega) (by omega) HBS4.out ?_; intro u5 W5 hown5 hgrow5 hfr5; have HO5 := Lib.hid (HO4.out.grown HOW4.out hgrow5 (by have := HSZ6.out; omega)); have HPV5 := Lib.hid (show W5.ownsRow w6.heap.size 9 1 u5 (p ++ [nameAt y k]).length (strsV (p ++ [nameAt y k])) from by rw [HNM.out, List.length_append, show ∀ q : ByteArray, strsV (p ++ [q]) = strsV p ++ [.string q] from fun q => by simp [strsV]]; exact hown5); have HY5 := Lib.hid ((hgrow5.block _ (Array.getElem?_eq_some_iff.1 HY4.out).1 (fun e => by have := (HOW4.out.lt _ e.symm).1; have := HSZ6.out; omega)).trans HY4.out); clear hown5 hgrow5 hfr5))

              obtain ⟨q0, q1, q2, q3, q4⟩ := cells5 HY5.out
              obtain ⟨f0, f1, f2, f3, f4⟩ := cells5w HY5.out
              have hbw5 := HBW.out.trans (HO5.out.b.mono HLE.out)
              have z0 := cellB hbw5 k0
              have z1 := cellB hbw5 k1
              have z2 := cellB hbw5 k2
              have z3 := cellB hbw5 k3
              have z4 := cellB hbw5 k4
              have HY6 := Lib.hid (set5w (x0 := .int .u8 (y.kids[k].kind : Int)) (x1 := .string y.kids[k].text) (x2 := .slice kz y.kids[k].keys.length kzc) (x3 := .slice bz y.kids[k].kids.length bzc) (x4 := .int .i64 y.kids[k].line) HY5.out)
              have HO6 := Lib.hid (HO5.out.trans (OffR.set5 (w5.heap.size + 1 + 1) W5 (x0 := .int .u8 (y.kids[k].kind : Int)) (x1 := .string y.kids[k].text) (x2 := .slice kz y.kids[k].keys.length kzc) (x3 := .slice bz y.kids[k].kids.length bzc) (x4 := .int .i64 y.kids[k].line)))
              have hnb : ∀ gg, u5.ownBlock = some gg → gg ≠ w5.heap.size + 1 + 1 := fun gg hgg e => by
                have h1 := (HPV5.out.lt gg hgg).1
                have h2 := HSZ6.out
                omega
              have HPV6 := Lib.hid (owns_set5 (x0 := .int .u8 (y.kids[k].kind : Int)) (x1 := .string y.kids[k].text) (x2 := .slice kz y.kids[k].keys.length kzc) (x3 := .slice bz y.kids[k].kids.length bzc) (x4 := .int .i64 y.kids[k].line) HPV5.out hnb)
              clear hnb
              clear hbw5
              go_wp2_with fail
              clear q0 q1 q2 q3 q4 f0 f1 f2 f3 f4 z0 z1 z2 z3 z4
              generalize ((((W5.setCell ⟨w5.heap.size + 1 + 1, 0, none⟩ (.int .u8 (y.kids[k].kind : Int))).setCell ⟨w5.heap.size + 1 + 1, 1, none⟩ (.string y.kids[k].text)).setCell ⟨w5.heap.size + 1 + 1, 2, none⟩ (.slice kz y.kids[k].keys.length kzc)).setCell ⟨w5.heap.size + 1 + 1, 3, none⟩ (.slice bz y.kids[k].kids.length bzc)).setCell ⟨w5.heap.size + 1 + 1, 4, none⟩ (.int .i64 y.kids[k].line) = W6 at *
              go_wp2_with fail
              go_roundg (way.length + 1 - (j + 1))
              case measure => omega
              case rel => exact ⟨j + 1, by omega, by omega, rfl, p ++ [nameAt y k], y.kids[k], kz, bz, kzc, bzc, Lib.hid (by rw [List.length_append, HPL.out]; rfl), HPK2, HNZ, HY6, HPV6, HO6⟩
            · skip
              have d3 : ((y.kind : Int) == 3) = false := beq_eq_false_iff_ne.2 (by omega)
              have HNM := Lib.hid (show nameAt y k = digS (k : Int) from by unfold nameAt; rw [if_neg h3])
              clear h3
              go_wp2_with fail
              refine (Digits_any (k : Int) _).mono ?_
              rintro e WQ ⟨rfl, hbq⟩
              have HOQ := Lib.hid (HO1.out.trans (OffR.of_below hbq (Nat.le_trans (by have := HSZ6.out; omega : w5.heap.size + 1 + 1 ≤ w6.heap.size) HO1.out.size)))
              have HPQ := Lib.hid (ownsB HPV1.out hbq)
              have HYQ := Lib.hid ((hbq.block _ (Array.getElem?_eq_some_iff.1 HY1.out).1).trans HY1.out)
              clear hbq

              have hb4 := (Below.refl WQ.heap.size WQ).alloc (Nat.le_refl _) (.cells #[.string (digS (k : Int))] 9)
              have HO4 := Lib.hid (HOQ.out.trans (OffR.of_below hb4 (Nat.le_trans (by have := HSZ6.out; omega : w5.heap.size + 1 + 1 ≤ w6.heap.size) HOQ.out.size)))
              have HOW4 := Lib.hid (ownsB HPQ.out hb4)
              have HBS4 := Lib.hid (show w6.heap.size ≤ (WQ.alloc (.cells #[.string (digS (k : Int))] 9)).heap.size from HO4.out.size)
              have HY4 := Lib.hid ((hb4.block _ (Array.getElem?_eq_some_iff.1 HYQ.out).1).trans HYQ.out)
              clear hb4

              go_upto_region 18 with (at_builtin; go_must (refine wpList_push rfl _ _ 22 rfl w6.heap.size 9 i0 (.string ByteArray.empty) 1 16 Tryz.underlying22 hi hi0 hi1 hi2 rfl (by decide) _ _ _ rfl HOW4.out ⟨WQ.heap.size, 0, none⟩ 1 1 [_] rfl rfl (cell_one_new _ _ _) (by simp [Value.oneCell']) (by unfold maxLen; omega) (by omega) HBS4.out ?_; intro u5 W5 hown5 hgrow5 hfr5; have HO5 := Lib.hid (HO4.out.grown HOW4.out hgrow5 (by have := HSZ6.out; omega)); have HPV5 := Lib.hid (show W5.ownsRow w6.heap.size 9 1 u5 (p ++ [nameAt y k]).length (strsV (p ++ [nameAt y k])) from by rw [HNM.out, List.length_append, show ∀ q : ByteArray, strsV (p ++ [q]) = strsV p ++ [.string q] from fun q => by simp [strsV]]; exact hown5); have HY5 := Lib.hid ((hgrow5.block _ (Array.getElem?_eq_some_iff.1 HY4.out).1 (fun e => by have := (HOW4.out.lt _ e.symm).1; have := HSZ6.out; omega)).trans HY4.out); clear hown5 hgrow5 hfr5))

              obtain ⟨q0, q1, q2, q3, q4⟩ := cells5 HY5.out
              obtain ⟨f0, f1, f2, f3, f4⟩ := cells5w HY5.out
              have hbw5 := HBW.out.trans (HO5.out.b.mono HLE.out)
              have z0 := cellB hbw5 k0
              have z1 := cellB hbw5 k1
              have z2 := cellB hbw5 k2
              have z3 := cellB hbw5 k3
              have z4 := cellB hbw5 k4
              have HY6 := Lib.hid (set5w (x0 := .int .u8 (y.kids[k].kind : Int)) (x1 := .string y.kids[k].text) (x2 := .slice kz y.kids[k].keys.length kzc) (x3 := .slice bz y.kids[k].kids.length bzc) (x4 := .int .i64 y.kids[k].line) HY5.out)
              have HO6 := Lib.hid (HO5.out.trans (OffR.set5 (w5.heap.size + 1 + 1) W5 (x0 := .int .u8 (y.kids[k].kind : Int)) (x1 := .string y.kids[k].text) (x2 := .slice kz y.kids[k].keys.length kzc) (x3 := .slice bz y.kids[k].kids.length bzc) (x4 := .int .i64 y.kids[k].line)))
              have hnb : ∀ gg, u5.ownBlock = some gg → gg ≠ w5.heap.size + 1 + 1 := fun gg hgg e => by
                have h1 := (HPV5.out.lt gg hgg).1
                have h2 := HSZ6.out
                omega
              have HPV6 := Lib.hid (owns_set5 (x0 := .int .u8 (y.kids[k].kind : Int)) (x1 := .string y.kids[k].text) (x2 := .slice kz y.kids[k].keys.length kzc) (x3 := .slice bz y.kids[k].kids.length bzc) (x4 := .int .i64 y.kids[k].line) HPV5.out hnb)
              clear hnb
              clear hbw5
              go_wp2_with fail
              clear q0 q1 q2 q3 q4 f0 f1 f2 f3 f4 z0 z1 z2 z3 z4
              generalize ((((W5.setCell ⟨w5.heap.size + 1 + 1, 0, none⟩ (.int .u8 (y.kids[k].kind : Int))).setCell ⟨w5.heap.size + 1 + 1, 1, none⟩ (.string y.kids[k].text)).setCell ⟨w5.heap.size + 1 + 1, 2, none⟩ (.slice kz y.kids[k].keys.length kzc)).setCell ⟨w5.heap.size + 1 + 1, 3, none⟩ (.slice bz y.kids[k].kids.length bzc)).setCell ⟨w5.heap.size + 1 + 1, 4, none⟩ (.int .i64 y.kids[k].line) = W6 at *
              go_wp2_with fail
              go_roundg (way.length + 1 - (j + 1))
              case measure => omega
              case rel => exact ⟨j + 1, by omega, by omega, rfl, p ++ [nameAt y k], y.kids[k], kz, bz, kzc, bzc, Lib.hid (by rw [List.length_append, HPL.out]; rfl), HPK2, HNZ, HY6, HPV6, HO6⟩
        · have d1 : decide ((j : Int) < (way.length : Int)) = false := decide_eq_false (by omega)
          have hlt2 : w5.heap.size + 1 + 1 < w6.heap.size := by have := HSZ6.out; omega
          have hwx : w.heap.size < w5.heap.size := HLX.out
          have hX := (HO.out.same w.heap.size (by omega) (by omega)).trans HX6.out
          have hM := (HO.out.same w5.heap.size (by omega) (by omega)).trans HM6.out
          have hF := (HO.out.same (w5.heap.size + 1) (by omega) (by omega)).trans HF6.out
          have hmm : Below w5.heap.size w5 wr := HB56.out.trans (HO.out.b.mono (by omega))
          obtain ⟨z, hz1, hz2⟩ := at_same p m x y HSK.out HPK1.out.at_
          have HZ2 := Lib.hid hz2
          have hsz : ∀ s ∈ p, s.size ≤ 9223372036854775807 := fun s hs => Nat.le_trans (HPK1.out.size s hs) (by decide)
          have HAT := Lib.hid (At_any x p _ _ wr (HN0.out.belowW HBR.out) (RdS.of_owns HPV.out) hsz)
          have HAT2 := Lib.hid (fun W (hb : Below wr.heap.size wr W) => At_any m p _ _ W ((HM5.out.belowW hmm).belowW hb) ((RdS.of_owns HPV.out).below hb) hsz)
          rw [HPK1.out.at_] at HAT
          rw [hz1] at HAT2
          have HYR := Lib.hid (HNY.out.belowW HBR.out)
          obtain ⟨p0, p1, p2, p3, p4⟩ := cells5 hX
          clear hz1 hz2 hsz hmm hX
          go_wp2_with fail
          refine HAT.out.mono ?_
          rintro e w7 ⟨cs7, b7, rfl, hn7, hb7⟩
          clear q0 q1 q2 q3 q4
          obtain ⟨rfl, hn7⟩ := hn7
          obtain ⟨ka7, kc7, ba7, bc7, rfl⟩ := hn7.cells
          have hb8 := (Below.refl w7.heap.size w7).alloc (Nat.le_refl _) (.cells #[.int .u8 (y.kind : Int), .string y.text, .slice ka7 y.keys.length kc7, .slice ba7 y.kids.length bc7, .int .i64 y.line] 25)
          have hb78 := hb7.trans (hb8.mono hb7.size)
          have h13 := World.alloc_heap_new w7 (.cells #[.int .u8 (y.kind : Int), .string y.text, .slice ka7 y.keys.length kc7, .slice ba7 y.kids.length bc7, .int .i64 y.line] 25)
          have HN8 := Lib.hid (hn7.belowW hb8)
          have HA8 := Lib.hid (HAT2.out _ hb78)
          have HY8 := Lib.hid (HYR.out.belowW hb78)
          have hM8 := (hb78.block _ (Array.getElem?_eq_some_iff.1 hM).1).trans hM
          have hF8 := (hb78.block _ (Array.getElem?_eq_some_iff.1 hF).1).trans hF
          have hY8 := (hb78.block _ (Array.getElem?_eq_some_iff.1 HY.out).1).trans HY.out
          have HB8 := Lib.hid (HBR.out.trans (hb78.mono HBR.out.size))
          clear hb7 hb8 hb78 hn7 hM hF p0 p1 p2 p3 p4
          go_upto_region 20 with fail
          generalize w7.alloc (.cells #[.int .u8 (y.kind : Int), .string y.text, .slice ka7 y.keys.length kc7, .slice ba7 y.kids.length bc7, .int .i64 y.line] 25) = w8 at *
          have H13 := Lib.hid h13
          have HF8 := Lib.hid hF8
          have HYC8 := Lib.hid hY8
          obtain ⟨p0, p1, p2, p3, p4⟩ := cells5 hM8
          clear h13 hF8 hY8 hM8
          go_wp2_with fail
          refine HA8.out.mono ?_
          rintro e w9 ⟨cs9, b9, rfl, hn9, hb9⟩
          obtain ⟨rfl, hn9⟩ := hn9
          obtain ⟨ka9, kc9, ba9, bc9, rfl⟩ := hn9.cells
          have hb10 := (Below.refl w9.heap.size w9).alloc (Nat.le_refl _) (.cells #[.int .u8 (z.kind : Int), .string z.text, .slice ka9 z.keys.length kc9, .slice ba9 z.kids.length bc9, .int .i64 z.line] 25)
          have hb910 := hb9.trans (hb10.mono hb9.size)
          have h15 := World.alloc_heap_new w9 (.cells #[.int .u8 (z.kind : Int), .string z.text, .slice ka9 z.keys.length kc9, .slice ba9 z.kids.length bc9, .int .i64 z.line] 25)
          have HN10 := Lib.hid (hn9.belowW hb10)
          have h13 := (hb910.block _ (Array.getElem?_eq_some_iff.1 H13.out).1).trans H13.out
          have hF10 := (hb910.block _ (Array.getElem?_eq_some_iff.1 HF8.out).1).trans HF8.out
          have hY10 := (hb910.block _ (Array.getElem?_eq_some_iff.1 HYC8.out).1).trans HYC8.out
          have HS1 := Lib.hid (bSame_any y y _ _ _ (HN8.out.belowW hb910) (HY8.out.belowW hb910))
          rw [sameT_refl y] at HS1
          have HY10 := Lib.hid (HY8.out.belowW hb910)
          have HB10 := Lib.hid (HB8.out.trans (hb910.mono HB8.out.size))
          clear hb9 hb10 hb910 hn9 p0 p1 p2 p3 p4
          go_upto_region 21 with fail
          generalize w9.alloc (.cells #[.int .u8 (z.kind : Int), .string z.text, .slice ka9 z.keys.length kc9, .slice ba9 z.kids.length bc9, .int .i64 z.line] 25) = w10 at *
          have H15 := Lib.hid h15
          have HYC10 := Lib.hid hY10
          obtain ⟨p0, p1, p2, p3, p4⟩ := cells5 h13
          obtain ⟨q0, q1, q2, q3, q4⟩ := cells5 hY10
          obtain ⟨r0, r1, -, -⟩ := cells2 hF10
          clear h15 h13 hY10 hF10
          go_wp2_with fail
          refine HS1.out.mono ?_
          rintro e w11 ⟨rfl, hb11⟩
          have h15 := (hb11.block _ (Array.getElem?_eq_some_iff.1 H15.out).1).trans H15.out
          have hY11 := (hb11.block _ (Array.getElem?_eq_some_iff.1 HYC10.out).1).trans HYC10.out
          have HS2 := Lib.hid (bSame_any z y _ _ _ (HN10.out.belowW hb11) (HY10.out.belowW hb11))
          rw [HZ2.out] at HS2
          have HB11 := Lib.hid (HB10.out.trans (hb11.mono HB10.out.size))
          clear hb11 p0 p1 p2 p3 p4 q0 q1 q2 q3 q4 r0 r1
          obtain ⟨p0, p1, p2, p3, p4⟩ := cells5 h15
          obtain ⟨q0, q1, q2, q3, q4⟩ := cells5 hY11
          clear h15 hY11
          go_wp2_with fail
          refine HS2.out.mono ?_
          rintro e w12 ⟨rfl, hb12⟩
          have HB12 := Lib.hid (HB11.out.trans (hb12.mono HB11.out.size))
          clear hb12
          go_wp2_with fail
          go_ret
          exact ⟨rfl, HB12.out⟩
end Go.Proofs.YtdhgcgejdoedbaaGreatDoor
