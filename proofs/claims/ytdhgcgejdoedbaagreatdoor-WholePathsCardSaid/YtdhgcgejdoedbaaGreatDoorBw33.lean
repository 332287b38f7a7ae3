/-
  tok.All: contract for a text of known lines.
-/
import Derived.Test.YtdhgcgejdoedbaaGreatDoorBw14
import Derived.Test.YtdhgcgejdoedbaaGreatDoorBw29
import Derived.Test.YtdhgcgejdoedbaaGreatDoorBw32
namespace Go.Proofs.YtdhgcgejdoedbaaGreatDoor
open Go.RowKit Go.WideShapes

def linD : Nat → List (Nat × BodyD) → List LineD
  | _, [] => []
  | n, x :: ls => (n, x.1, bodyS x.2) :: linD (n + 1) ls
theorem linD_len : ∀ (ls : List (Nat × BodyD)) (n : Nat), (linD n ls).length = ls.length
  | [], _ => rfl
  | _ :: ls, n => by rw [linD, List.length_cons, List.length_cons, linD_len ls]
theorem linD_get : ∀ (ls : List (Nat × BodyD)) (n k : Nat) (h : k < ls.length), (linD n ls)[k]'(by rw [linD_len]; exact h) = (n + k, ls[k].1, bodyS ls[k].2)
  | [], _, _, h => absurd h (by simp)
  | x :: ls, n, 0, _ => rfl
  | x :: ls, n, k + 1, h => by
    have := linD_get ls (n + 1) k (by simpa using h)
    simp only [linD, List.getElem_cons_succ]
    rw [this, show n + 1 + k = n + (k + 1) by omega]
def tsJ (ls : List (Nat × BodyD)) (k : Nat) : List TokD := match ls[k]? with
  | some (c, b) => bodyK (k + 1) c b
  | none => []
def stL (ls : List (Nat × BodyD)) : Nat → NSt
  | 0 => ([], [0])
  | k + 1 => stJ (tsJ ls k) (stL ls k) (tsJ ls k).length
def tokF (ls : List (Nat × BodyD)) : List TokD := (stL ls ls.length).1 ++ List.replicate (closeN 0 (stL ls ls.length).2) (2, { data := #[] }, ls.length, 0)
structure OkAll (ls : List (Nat × BodyD)) : Prop where
  len : ls.length ≤ 10000000
  at0 : ∀ x : Nat × BodyD, ls[0]? = some x → x.1 = 0
  body : ∀ (k c : Nat) (b : BodyD), ls[k]? = some (c, b) → OkB b ∧ c ≤ 500000000 ∧ (bodyS b).length ≤ 536870912
  ok : ∀ k < ls.length, OkJ (tsJ ls k) (stL ls k) ∧ (tsJ ls k).length ≤ 10000000 ∧ tsJ ls k ≠ []
  fin : closeN 0 (stL ls ls.length).2 < (stL ls ls.length).2.length ∧ (stL ls ls.length).2.length ≤ 100 ∧ (stL ls ls.length).1.length ≤ 900000
theorem lineC_get3 : ∀ (l : List LineD) (k : Nat) (h : k < l.length) (j : Nat), j < 3 → (l.flatMap lineC)[k * 3 + j]? = (lineC l[k])[j]?
  | [], k, h, _, _ => absurd h (by simp)
  | x :: l, 0, _, j, hj => by
    rw [List.flatMap_cons, List.getElem?_append_left (by simp [lineC]; omega)]
    simp
  | x :: l, k + 1, h, j, hj => by
    rw [List.flatMap_cons, List.getElem?_append_right (by simp [lineC]; omega)]
    have := lineC_get3 l k (by simpa using h) j hj
    rw [show (k + 1) * 3 + j - (lineC x).length = k * 3 + j by simp [lineC]; omega, this]
    simp

theorem RdS.row {W : World} {g n cap size : Nat} {xs : List Value} (h : RdS W (.slice (some ⟨g, 0, none⟩) n cap) size n xs) (i : Nat) (c : Value) (hc : xs[i]? = some c) : W.cell? ⟨g, i, none⟩ = some c := by
  obtain ⟨_, a, cap', he, _, _, h5⟩ := h
  rcases h5 with rfl | ⟨g', off, rfl, h6⟩
  · simp at hc
  · injection he with q1
    injection q1 with q1
    injection q1 with q1 q2
    subst q1 q2
    simpa using h6 i c hc
theorem nest_new (W : World) : NestR ((W.alloc (.cells #[.int .i64 0] 3)).alloc (.cells #[.slice none 0 0, .slice (some ⟨W.heap.size, 0, none⟩) 1 1] 65)) (W.heap.size + 1) W.heap.size [] [0] (fun _ => False) := by
  have h1 := World.alloc_heap_new (W.alloc (.cells #[.int .i64 0] 3)) (.cells #[.slice none 0 0, .slice (some ⟨W.heap.size, 0, none⟩) 1 1] 65)
  rw [World.size_alloc] at h1
  have h2 := (Below.heap_alloc (W.alloc (.cells #[.int .i64 0] 3)) (.cells #[.slice none 0 0, .slice (some ⟨W.heap.size, 0, none⟩) 1 1] 65) W.heap.size (by simp)).trans (World.alloc_heap_new W (.cells #[.int .i64 0] 3))
  exact ⟨none, 0, some ⟨W.heap.size, 0, none⟩, 1, ⟨h1, World.ownsRow_nil _ _ _ _, ⟨rfl, .inr ⟨W.heap.size, 1, #[.int .i64 0], rfl, Nat.le_refl _, h2, Nat.le_refl _, by decide, rfl, rfl⟩⟩, Nat.le_succ _⟩, fun q h => h.elim⟩

set_option maxRecDepth 100000 in
set_option maxHeartbeats 4000000 in
theorem tkAll_any (s : ByteArray) (ls : List (Nat × BodyD)) (w : World) (hs : FineT s) (hl : allN 1 (linesN (bsN s)) = linD 1 ls) (hok : OkAll ls) :
    Calls Tryz.prog 8 #[.string s] w fun e w' => ∃ v, e = .returned (.tuple #[v, .agg #[.int .i64 0, .int .i64 0]]) ∧ w'.ownsRow w.heap.size 39 4 v (tokF ls).length ((tokF ls).flatMap tokC) ∧ Below w.heap.size w w' := by
  have HLA := Lib.hid (fun w => lnAll_any s w hs)
  rw [hl] at HLA
  have hlen := hok.len
  have HOK := Lib.hid hok
  have hll := linD_len ls 1
  have HLG := Lib.hid (linD_get ls 1)
  clear hs hl hok
  go_enter Tryz.func8, Tryz.ntmps8
  go_wp2_with fail
  refine (HLA.out _).mono ?_
  rintro e w1 ⟨v, rfl, ho, hb⟩
  rw [hll] at ho
  have hR1 : w1.heap[w.heap.size]? = some (.cells #[.int .i64 0, .int .i64 0] 33 (0, 0)) := (hb.block _ (by simp)).trans (World.alloc_heap_new w _)
  have hbw : Below w.heap.size w w1 := ((Below.refl _ w).alloc (Nat.le_refl _) _).trans (hb.mono (by simp))
  have hsz1 : w.heap.size + 1 ≤ w1.heap.size := by have := hb.size; simpa using this
  have HR1 := Lib.hid hR1
  have HBW := Lib.hid hbw
  have HO1 := Lib.hid (RdS.of_owns ho)
  obtain ⟨va, vc, rfl⟩ := HO1.out.form
  clear ho hb hR1 hbw
  go_wp2_with fail
  have hal := (Below.refl w1.heap.size w1).alloc (Nat.le_refl _) (.cells #[.int .i64 0, .int .i64 0] 33)
  have hN0 := nest_new (w1.alloc (.cells #[.int .i64 0, .int .i64 0] 33))
  rw [World.size_alloc] at hN0
  have hB4 : Below w1.heap.size w1 (((w1.alloc (.cells #[.int .i64 0, .int .i64 0] 33)).alloc (.cells #[.int .i64 0] 3)).alloc (.cells #[.slice none 0 0, .slice (some ⟨w1.heap.size + 1, 0, none⟩) 1 1] 65)) := (hal.alloc (by simp) _).alloc (by simp; omega) _
  have HB4 := Lib.hid hB4
  have HN0 := Lib.hid hN0.s
  clear hal hB4 hN0
  generalize (((w1.alloc (.cells #[.int .i64 0, .int .i64 0] 33)).alloc (.cells #[.int .i64 0] 3)).alloc (.cells #[.slice none 0 0, .slice (some ⟨w1.heap.size + 1, 0, none⟩) 1 1] 65)) = w4 at *
  generalize hP : w1.heap.size + 1 + 1 = P at *
  generalize hB : w1.heap.size + 1 = B at *
  go_loopg [26, 7] (ls.length + 1) (fun gk i l wr => ∃ k : Nat, k + gk = ls.length + 1 ∧ k ≤ ls.length ∧ i = .int .i64 k ∧ l = .int .i64 k ∧ Hid (NS w4 P B (stL ls k).1 (stL ls k).2 (fun _ => False) wr))
  case atStart => exact ⟨0, by omega, by omega, rfl, rfl, HN0⟩
  case round =>
    obtain ⟨k, hgk, hk, rfl, rfl, HN⟩ := hrel
    have hg : gk = ls.length + 1 - k := by omega
    subst hg
    by_cases hkl : k < ls.length
    · have hk1 : (k : Int) < (ls.length : Int) := by omega
      have d3 : decide ((k : Int) < (ls.length : Int)) = true := decide_eq_true (by omega)
      have HBW1 := Lib.hid (HB4.out.trans (HN.out.b.mono (show w1.heap.size ≤ B by omega)))
      rcases (HO1.out.below HBW1.out).cases (by decide) with ⟨h0, _⟩ | ⟨_, _, g0, o0, c0, hq0, _, _, h03⟩
      · omega
      obtain ⟨rfl, rfl⟩ : va = some ⟨g0, o0, none⟩ ∧ vc = c0 := by injection hq0 with q1 q2 q3; exact ⟨q1, q3⟩
      have hlg := HLG.out k hkl
      obtain ⟨hbo, hcc, hbl⟩ := HOK.out.body k ls[k].1 ls[k].2 (by simp [hkl])
      obtain ⟨hoj, hoj2, hoj3⟩ := HOK.out.ok k hkl
      have hx (i : Nat) (hi : i < 3) (c : Value) (hc : (lineC (1 + k, ls[k].1, bodyS ls[k].2))[i]? = some c) : wr.cell? ⟨g0, o0 + (k * 3 + i), none⟩ = some c := h03 (k * 3 + i) c ((lineC_get3 _ k (by rw [hll]; exact hkl) i hi).trans (by rw [hlg]; exact hc))
      have x0 := hx 0 (by decide) _ rfl
      have x1 := hx 1 (by decide) _ rfl
      have x2 := hx 2 (by decide) _ rfl
      rw [Nat.add_zero] at x0
      rw [← Nat.add_assoc] at x1 x2
      rw [Nat.add_comm 1 k] at x0
      have hts : tsJ ls k = bodyK (k + 1) ls[k].1 ls[k].2 := by simp [tsJ, hkl]
      have h00 : k = 0 → ls[k].1 = 0 := fun e => HOK.out.at0 ls[k] (by subst e; simp [hkl])
      have HSL : Hid (stL ls (k + 1) = stJ (tsJ ls k) (stL ls k) (tsJ ls k).length) := Lib.hid rfl
      generalize ls[k].1 = c at *
      generalize ls[k].2 = b at *
      have hbS : bsN (mkS (bodyS b)) = bodyS b := bsN_mkS (body_lt b)
      have hzS := mkS_size (bodyS b)
      have HLN := Lib.hid (fun w => tkLine_any (k + 1) c (mkS (bodyS b)) b w (by omega) (by omega) (by omega) hbS hbo)
      rw [← hts] at HLN
      rw [show ((k + 1 : Nat) : Int) = (k : Int) + 1 by omega] at HLN
      have HOJ := Lib.hid hoj
      clear hx h03 hlg hq0 hbo hbS hoj hts
      generalize mkS (bodyS b) = st at *
      generalize tsJ ls k = ts at *
      generalize stL ls k = sk at *
      have hal := (Below.refl wr.heap.size wr).alloc (Nat.le_refl _) (.cells #[.int .i64 ((k : Int) + 1), .int .i64 (c : Nat), .string st] 67)
      have hnew := World.alloc_heap_new wr (.cells #[.int .i64 ((k : Int) + 1), .int .i64 (c : Nat), .string st] 67)
      have hsz : (wr.alloc (.cells #[.int .i64 ((k : Int) + 1), .int .i64 (c : Nat), .string st] 67)).heap.size = wr.heap.size + 1 := by simp
      have HNa := Lib.hid (HN.out.n.more hal (Nat.le_refl _) (by omega))
      have hBr := HN.out.n.hBV
      have HAL := Lib.hid hal
      clear hal
      have hw1 : IntKind.i64.wrap ((k : Int) + 1) = (k : Int) + 1 := IntWalk.i64_in _ (by omega)
      go_wp2_with fail
      refine (HLN.out _).mono ?_
      rintro e w5 ⟨vt, rfl, ho5, hb5⟩
      have HX5 := Lib.hid (blk_next hb5 hnew)
      obtain ⟨y0, y1, y2, -⟩ := tcells3 HX5.out
      rcases ho5.2 with ⟨_, h0⟩ | ⟨g, tc, cur, rfl, hg1, hg2, _, _, _, htk⟩
      · exact absurd (List.eq_nil_of_length_eq_zero h0) hoj3
      have hrow : ∀ i c, (ts.flatMap tokC)[i]? = some c → w5.cell? ⟨g, i, none⟩ = some c := (RdS.of_owns ho5).row
      have HROW := Lib.hid hrow
      have HN5 := Lib.hid (HNa.out.more hb5 hg1 (Array.getElem?_eq_some_iff.1 hg2).1)
      have HB5 := Lib.hid hb5
      clear ho5 hb5 hg1 hg2 htk hrow
      by_cases hk0 : k = 0
      · have hc0 := h00 hk0
        have HK0 := Lib.hid hk0
        have d0 : decide ((k : Int) = 0) = true := decide_eq_true (by omega)
        have d0b : decide (k = 0) = true := decide_eq_true (by omega)
        have d1 : decide ((c : Int) > 0) = false := decide_eq_false (by omega)
        have d1b : decide (0 < c) = false := decide_eq_false (by omega)
        clear hk0 h00 hc0
        go_wp2_with fail
        refine (tkAdd_any w5 P B ts sk _ HN5.out g tc (.inr rfl) HROW.out hoj2 HOJ.out).mono ?_
        rintro e w6 ⟨rfl, hn6, hb6, hk6⟩
        have HN6 := Lib.hid (HN.out.round HAL.out (X := wr.heap.size) (HNa.out.s.round HB5.out (HN5.out.s.step hn6 hb6 hk6)))
        have hX6 := (hk6 wr.heap.size (.inl (.inr rfl))).trans HX5.out
        obtain ⟨y0, y1, y2, -⟩ := tcells3 hX6
        clear hn6 hb6 hk6 hX6
        go_wp2_with fail
        go_roundg (ls.length + 1 - (k + 1))
        case measure => omega
        case rel => exact ⟨k + 1, by omega, by omega, by first | (simp; done) | simp [HK0.out], by first | (simp; done) | simp [HK0.out], Lib.hid (by rw [HSL.out]; exact HN6.out)⟩
      · have HK0 := Lib.hid hk0
        have d0 : decide ((k : Int) = 0) = false := decide_eq_false (by omega)
        have d0b : decide (k = 0) = false := decide_eq_false (by omega)
        clear hk0 h00
        go_wp2_with fail
        refine (tkAdd_any w5 P B ts sk _ HN5.out g tc (.inr rfl) HROW.out hoj2 HOJ.out).mono ?_
        rintro e w6 ⟨rfl, hn6, hb6, hk6⟩
        have HN6 := Lib.hid (HN.out.round HAL.out (X := wr.heap.size) (HNa.out.s.round HB5.out (HN5.out.s.step hn6 hb6 hk6)))
        have hX6 := (hk6 wr.heap.size (.inl (.inr rfl))).trans HX5.out
        obtain ⟨y0, y1, y2, -⟩ := tcells3 hX6
        clear hn6 hb6 hk6 hX6
        go_wp2_with fail
        go_roundg (ls.length + 1 - (k + 1))
        case measure => omega
        case rel => exact ⟨k + 1, by omega, by omega, by first | (simp; done) | simp [HK0.out], by first | (simp; done) | simp [HK0.out], Lib.hid (by rw [HSL.out]; exact HN6.out)⟩
    · have hkn : k = ls.length := by omega
      subst hkn
      have d3 : decide ((ls.length : Int) < (ls.length : Int)) = false := decide_eq_false (by omega)
      obtain ⟨hf1, hf2, hf3⟩ := HOK.out.fin
      go_wp2_with fail
      refine (tkClose_any wr P B _ _ ls.length 0 0 _ HN.out.n hf1 hf2 (by omega)).mono ?_
      rintro e w6 ⟨rfl, hn6, hb6, hk6⟩
      have HN6 := Lib.hid (HN.out.step hn6 hb6 hk6)
      have hRB : w6.heap[w.heap.size]? = some (.cells #[.int .i64 0, .int .i64 0] 33 (0, 0)) := (HN6.out.b.block _ (by omega)).trans ((HB4.out.block _ (by omega)).trans HR1.out)
      have hBW : Below w.heap.size w w6 := (bthen HBW.out (Nat.le_refl _) HB4.out).trans (HN6.out.b.mono (by omega))
      obtain ⟨va2, vc2, ra2, rc2, hNA, _⟩ := HN6.out.n
      obtain ⟨p0, p1, -, -⟩ := hNA.cells
      obtain ⟨r0, r1, r2, r3⟩ := cells2 hRB
      have HNA := Lib.hid hNA
      have HRB := Lib.hid hRB
      have HBX := Lib.hid hBW
      clear hNA hn6 hb6 hk6 hRB hBW
      go_wp2_with fail
      have hS1 : (w6.setCell ⟨w.heap.size, 0, none⟩ (.int .i64 0)).heap[w.heap.size]? = some (.cells #[.int .i64 0, .int .i64 0] 33 (0, 0)) := by
        have := HRB.out
        simp [World.setCell, this, Array.getElem?_modify]
      have hS2 : ((w6.setCell ⟨w.heap.size, 0, none⟩ (.int .i64 0)).setCell ⟨w.heap.size, 1, none⟩ (.int .i64 0)).heap[w.heap.size]? = some (.cells #[.int .i64 0, .int .i64 0] 33 (0, 0)) := by
        generalize (w6.setCell ⟨w.heap.size, 0, none⟩ (.int .i64 0)) = w8 at *
        simp [World.setCell, hS1, Array.getElem?_modify]
      have hO := owns_store (i := 1) (.int .i64 0) (owns_store (i := 0) (.int .i64 0) HNA.out.own1 HRB.out (by decide)) hS1 (by decide)
      rw [List.length_append, List.length_replicate] at hO
      have hB7 : Below w.heap.size w ((w6.setCell ⟨w.heap.size, 0, none⟩ (.int .i64 0)).setCell ⟨w.heap.size, 1, none⟩ (.int .i64 0)) := (HBX.out.setCell (p := ⟨w.heap.size, 0, none⟩) (Nat.le_refl _) _).setCell (p := ⟨w.heap.size, 1, none⟩) (Nat.le_refl _) _
      clear p0 p1 r0 r1 r2 r3
      generalize ((w6.setCell ⟨w.heap.size, 0, none⟩ (.int .i64 0)).setCell ⟨w.heap.size, 1, none⟩ (.int .i64 0)) = w7 at *
      obtain ⟨r0, r1, -, -⟩ := cells2 hS2
      have HO7 := Lib.hid (ownsRow_mono hO (show w.heap.size ≤ B by omega))
      have HB7 := Lib.hid hB7
      have HTF : Hid (tokF ls = (stL ls ls.length).1 ++ List.replicate (closeN 0 (stL ls ls.length).2) (2, { data := #[] }, ls.length, 0)) := Lib.hid rfl
      clear hO hB7 hS1 hS2
      refine bodyPost_ret (v := .tuple #[.slice va2 ((stL ls ls.length).1.length + closeN 0 (stL ls ls.length).2) vc2, .agg #[.int .i64 0, .int .i64 0]]) (by simp [results, Tryz.results8, go_sem, r0, r1]) rfl ?_
      refine ⟨_, rfl, ?_, HB7.out⟩
      rw [HTF.out, List.length_append, List.length_replicate]
      exact HO7.out
end Go.Proofs.YtdhgcgejdoedbaaGreatDoor

/-
  Known lines: their text.
-/
namespace Go.Proofs.YtdhgcgejdoedbaaGreatDoor
open Go.RowKit Go.WideShapes

theorem cutN_body : ∀ (b : BodyD) (rest : List Nat) (pb : Bool), ∃ pb', cutN false false pb (bodyS b ++ rest) = (bodyS b).length + cutN false false pb' rest
  | .leaf (.word t), rest, pb => ⟨_, cutN_put (bsN t) rest pb⟩
  | .leaf .noSeq, rest, pb => ⟨_, cutN_plain [91, 93] rest pb (by decide)⟩
  | .leaf .noMap, rest, pb => ⟨_, cutN_plain [123, 125] rest pb (by decide)⟩
  | .key k none, rest, pb => by
    refine ⟨decide (([58] : List Nat).getLast? = some 32), ?_⟩
    unfold bodyS
    rw [List.append_assoc, cutN_put, cutN_plain [58] rest false (by decide), List.length_append]
    simp; omega
  | .key k (some x), rest, pb => by
    obtain ⟨pb', h⟩ := cutN_body (.leaf x) rest true
    refine ⟨pb', ?_⟩
    change cutN false false true (leafL x ++ rest) = (leafL x).length + _ at h
    unfold bodyS
    rw [List.append_assoc, cutN_put, show (58 :: 32 :: leafL x) ++ rest = [58, 32] ++ (leafL x ++ rest) by rfl, cutN_plain [58, 32] _ false (by decide), List.length_append]
    rw [show (if ([58, 32] : List Nat) = [] then false else decide (([58, 32] : List Nat).getLast? = some 32)) = true by decide, h]
    simp; omega
  | .dash b, rest, pb => by
    obtain ⟨pb', h⟩ := cutN_body b rest true
    refine ⟨pb', ?_⟩
    unfold bodyS
    rw [show (45 :: 32 :: bodyS b) ++ rest = [45, 32] ++ (bodyS b ++ rest) by rfl, cutN_plain [45, 32] _ pb (by decide)]
    rw [show (if ([45, 32] : List Nat) = [] then pb else decide (([45, 32] : List Nat).getLast? = some 32)) = true by rfl, h]
    simp; omega
theorem leaf_last (x : LeafD) : ∃ m c, leafL x = m ++ [c] ∧ c ≠ 32 := by
  cases x with
  | word t => obtain ⟨_, _, _, _, m, c, h, h1⟩ := wrL_ends (bsN t); exact ⟨m, c, h, h1⟩
  | noSeq => exact ⟨[91], 93, rfl, by decide⟩
  | noMap => exact ⟨[123], 125, rfl, by decide⟩
theorem body_last : ∀ b : BodyD, ∃ m c, bodyS b = m ++ [c] ∧ c ≠ 32
  | .leaf x => leaf_last x
  | .key k none => ⟨_, 58, rfl, by decide⟩
  | .key k (some x) => by
    obtain ⟨m, c, h, h1⟩ := leaf_last x
    exact ⟨wrL (bsN k) ++ 58 :: 32 :: m, c, by unfold bodyS; rw [h]; simp, h1⟩
  | .dash b => by
    obtain ⟨m, c, h, h1⟩ := body_last b
    exact ⟨45 :: 32 :: m, c, by unfold bodyS; rw [h]; rfl, h1⟩
def lineB (x : Nat × BodyD) : List Nat := List.replicate x.1 32 ++ bodyS x.2
theorem strip_body (x : Nat × BodyD) : stripN (lineB x) = lineB x := by
  obtain ⟨k, b⟩ := x
  obtain ⟨pb', h⟩ := cutN_body b [] true
  obtain ⟨m, c, h1, h2⟩ := body_last b
  have hc : cutN false false true (lineB (k, b)) = (lineB (k, b)).length := by
    unfold lineB
    rw [cutN_blanks, List.length_append, List.length_replicate]
    rw [List.append_nil] at h
    simp only
    rw [h]; simp [cutN]
  unfold stripN
  rw [hc, List.take_length]
  have := trimRN_last (List.replicate k 32 ++ m) c h2 0
  unfold lineB
  rw [h1]
  simpa using this
theorem trim_body (x : Nat × BodyD) : trimLN (lineB x) = bodyS x.2 := by
  obtain ⟨a, m, h, h1⟩ := body_first x.2
  unfold lineB
  rw [h]
  exact trimLN_blanks _ a m h1
theorem allN_body : ∀ (ls : List (Nat × BodyD)) (n : Nat), allN n (ls.map lineB) = linD n ls
  | [], _ => rfl
  | x :: ls, n => by
    obtain ⟨a, m, h, _⟩ := body_first x.2
    rw [List.map_cons, allN, strip_body, trim_body, if_neg (by rw [h]; simp), allN_body ls, linD]
    congr 3
    unfold lineB
    rw [List.length_append, List.length_replicate]; omega
theorem leaf_even (x : LeafD) : ∀ c ∈ leafL x, evenB c = true := by
  cases x with
  | word t => exact wrL_even (bsN_lt t)
  | noSeq => decide
  | noMap => decide
theorem body_even : ∀ (b : BodyD), ∀ c ∈ bodyS b, evenB c = true
  | .leaf x => leaf_even x
  | .key k none => fun c hc => by
    rcases List.mem_append.1 hc with h | h
    · exact wrL_even (bsN_lt k) c h
    · obtain rfl : c = 58 := by simpa using h
      decide
  | .key k (some x) => fun c hc => by
    rcases List.mem_append.1 hc with h | h
    · exact wrL_even (bsN_lt k) c h
    · rcases List.mem_cons.1 h with rfl | h
      · decide
      · rcases List.mem_cons.1 h with rfl | h
        · decide
        · exact leaf_even x c h
  | .dash b => fun c hc => by
    rcases List.mem_cons.1 hc with rfl | h
    · decide
    · rcases List.mem_cons.1 h with rfl | h
      · decide
      · exact body_even b c h
theorem line_even (x : Nat × BodyD) : ∀ c ∈ lineB x, evenB c = true := fun c hc => by
  rcases List.mem_append.1 hc with h | h
  · rw [List.eq_of_mem_replicate h]; decide
  · exact body_even x.2 c h
theorem leaf_utf (x : LeafD) (h : OkL x) : Utf (leafL x) := by
  cases x with
  | word t => exact utf_put h.2
  | noSeq => exact Utf.ascii (by decide)
  | noMap => exact Utf.ascii (by decide)
theorem body_utf : ∀ (b : BodyD), OkB b → Utf (bodyS b)
  | .leaf x, h => leaf_utf x h
  | .key k none, h => (utf_put h.2).append (Utf.ascii (by decide))
  | .key k (some x), h => by
    have := (utf_put h.1.2).append ((Utf.ascii (l := [58, 32]) (by decide)).append (leaf_utf x h.2))
    simpa [bodyS] using this
  | .dash b, h => (Utf.ascii (l := [45, 32]) (by decide)).append (body_utf b h)
def textB (ls : List (Nat × BodyD)) : List Nat := ls.flatMap fun x => lineB x ++ [10]
theorem textB_lines (ls : List (Nat × BodyD)) : linesN (textB ls) = ls.map lineB := by
  have := linesN_join (ls.map lineB) (fun t ht => by
    obtain ⟨x, _, rfl⟩ := List.mem_map.1 ht
    exact fun h => even_ne (line_even x 10 h) rfl)
  rw [List.flatMap_map] at this
  exact this
theorem textB_fine (s : ByteArray) (ls : List (Nat × BodyD)) (hs : bsN s = textB ls) (hsz : s.size ≤ 1048576) (hok : ∀ x ∈ ls, OkB x.2) : FineT s := by
  refine ⟨hsz, ?_, ?_⟩
  · rw [hs]
    exact Utf.flat fun x hx => ((Utf.ascii (fun c hc => by rw [List.eq_of_mem_replicate hc]; decide)).append (body_utf _ (hok x hx))).append (Utf.ascii (by decide))
  · rw [hs, textB_lines]
    intro t ht
    obtain ⟨x, _, rfl⟩ := List.mem_map.1 ht
    exact line_even x
theorem textB_all (s : ByteArray) (ls : List (Nat × BodyD)) (hs : bsN s = textB ls) : allN 1 (linesN (bsN s)) = linD 1 ls := by rw [hs, textB_lines, allN_body]
theorem lineB_le (ls : List (Nat × BodyD)) : ∀ x ∈ ls, x.1 + (bodyS x.2).length + 1 ≤ (textB ls).length := by
  induction ls with
  | nil => intro x hx; cases hx
  | cons y ls ih =>
    intro x hx
    unfold textB at ih ⊢
    rw [List.flatMap_cons, List.length_append]
    rcases List.mem_cons.1 hx with rfl | hx
    · simp [lineB]; omega
    · have := ih x hx; omega
theorem textB_len (ls : List (Nat × BodyD)) : ls.length ≤ (textB ls).length := by
  induction ls with
  | nil => simp
  | cons y ls ih =>
    unfold textB at ih ⊢
    simp only [List.flatMap_cons, List.length_append, List.length_cons, List.length_nil]; omega
end Go.Proofs.YtdhgcgejdoedbaaGreatDoor

/-
  A line's tokens, one behind the other: the state of a nest as a fold.
-/
namespace Go.Proofs.YtdhgcgejdoedbaaGreatDoor
open Go.RowKit Go.WideShapes

def opIf (b : Bool) (t : TokD) (s : NSt) : NSt := if b then opT t s else s
def restT : Bool → List TokD → NSt → NSt
  | _, [], s => s
  | pd, t :: ts, s => restT (decide (t.1 = 3)) ts (puT t (opIf pd t s))
def LensOk (s : NSt) : Prop := s.2.length ≤ 100 ∧ s.1.length ≤ 900000
def restOk : Bool → List TokD → NSt → Prop
  | _, [], _ => True
  | pd, t :: ts, s => LensOk s ∧ (pd = true → s.2.length + 1 ≤ 16) ∧ restOk (decide (t.1 = 3)) ts (puT t (opIf pd t s))
def headT (t : TokD) (s : NSt) : NSt := puT t (opIf (decide ((clT t s).2.headD 0 < t.2.2.2)) t (clT t s))
structure headOk (t : TokD) (s : NSt) : Prop where
  ne : s.2 ≠ []
  len : LensOk s
  cl : closeN t.2.2.2 s.2 < s.2.length
  eq : 0 < closeN t.2.2.2 s.2 → (clT t s).2.headD 0 = t.2.2.2
  op : (clT t s).2.headD 0 < t.2.2.2 → (clT t s).2.length + 1 ≤ 16
theorem stJ_one (t : TokD) (ts : List TokD) (s : NSt) : stJ (t :: ts) s 1 = headT t s := by
  unfold headT opIf
  simp only [stJ, List.getD_cons_zero, decide_eq_true_eq]
  split <;> rfl
theorem stJ_next (ts : List TokD) (s : NSt) (j : Nat) : stJ ts s (j + 2) = puT (ts.getD (j + 1) noTok) (opIf (decide ((ts.getD j noTok).1 = 3)) (ts.getD (j + 1) noTok) (stJ ts s (j + 1))) := by
  unfold opIf
  simp only [stJ, decide_eq_true_eq]
  split <;> rfl
theorem stJ_rest (ts : List TokD) (s : NSt) : ∀ (m j : Nat), j + 1 + m = ts.length → stJ ts s ts.length = restT (decide ((ts.getD j noTok).1 = 3)) (ts.drop (j + 1)) (stJ ts s (j + 1))
  | 0, j, h => by rw [List.drop_eq_nil_of_le (by omega), restT, ← h]
  | m + 1, j, h => by
    have hj : j + 1 < ts.length := by omega
    rw [stJ_rest ts s m (j + 1) (by omega), List.drop_eq_getElem_cons hj, restT, stJ_next]
    have e : ts.getD (j + 1) noTok = ts[j + 1] := by simp [List.getD, hj]
    rw [e]
theorem restOk_at (ts : List TokD) (s : NSt) : ∀ (j : Nat), j < ts.length → restOk (decide ((ts.getD 0 noTok).1 = 3)) (ts.drop 1) (stJ ts s 1) → restOk (decide ((ts.getD j noTok).1 = 3)) (ts.drop (j + 1)) (stJ ts s (j + 1))
  | 0, _, h => h
  | j + 1, hj, h => by
    have ih := restOk_at ts s j (by omega) h
    rw [List.drop_eq_getElem_cons hj] at ih
    have e : ts.getD (j + 1) noTok = ts[j + 1] := by simp [List.getD, hj]
    rw [stJ_next, e]
    exact ih.2.2
theorem line_run (t : TokD) (ts : List TokD) (s : NSt) : stJ (t :: ts) s (t :: ts).length = restT (decide (t.1 = 3)) ts (headT t s) := by
  have := stJ_rest (t :: ts) s ts.length 0 (by simp; omega)
  rw [this, stJ_one]; rfl
theorem line_ok (t : TokD) (ts : List TokD) (s : NSt) (h : headOk t s) (hr : restOk (decide (t.1 = 3)) ts (headT t s)) : OkJ (t :: ts) s := by
  have hr' : restOk (decide (((t :: ts).getD 0 noTok).1 = 3)) ((t :: ts).drop 1) (stJ (t :: ts) s 1) := by rw [stJ_one]; exact hr
  have hat (j : Nat) (hj : j + 1 < (t :: ts).length) : LensOk (stJ (t :: ts) s (j + 1)) ∧ (decide (((t :: ts).getD j noTok).1 = 3) = true → (stJ (t :: ts) s (j + 1)).2.length + 1 ≤ 16) := by
    have := restOk_at (t :: ts) s j (by omega) hr'
    rw [List.drop_eq_getElem_cons hj] at this
    exact ⟨this.1, this.2.1⟩
  refine ⟨h.ne, ?_, h.cl, h.eq, h.op, fun j hj e => (hat j hj).2 (decide_eq_true e)⟩
  intro j hj
  cases j with
  | zero => exact h.len
  | succ j => exact (hat j hj).1
def lineT (n : Nat) (x : Nat × BodyD) (s : NSt) : NSt := restT (decide ((headK n x.1 x.2).1 = 3)) (bodyK n x.1 x.2).tail (headT (headK n x.1 x.2) s)
def lineOk (n : Nat) (x : Nat × BodyD) (s : NSt) : Prop := headOk (headK n x.1 x.2) s ∧ restOk (decide ((headK n x.1 x.2).1 = 3)) (bodyK n x.1 x.2).tail (headT (headK n x.1 x.2) s)
def runL : Nat → List (Nat × BodyD) → NSt → NSt
  | _, [], s => s
  | n, x :: ls, s => runL (n + 1) ls (lineT n x s)
def runOk : Nat → List (Nat × BodyD) → NSt → Prop
  | _, [], _ => True
  | n, x :: ls, s => lineOk n x s ∧ runOk (n + 1) ls (lineT n x s)
theorem bodyK_cons (n c : Nat) (b : BodyD) : bodyK n c b = headK n c b :: (bodyK n c b).tail := by
  conv => lhs; rw [bodyK_step]
  conv => rhs; rw [bodyK_step]
  rfl
theorem runL_app (a b : List (Nat × BodyD)) : ∀ (n : Nat) (s : NSt), runL n (a ++ b) s = runL (n + a.length) b (runL n a s) := by
  induction a with
  | nil => intro n s; rfl
  | cons x a ih => intro n s; rw [List.cons_append, runL, ih, runL, List.length_cons, show n + 1 + a.length = n + (a.length + 1) by omega]
theorem runOk_app (a b : List (Nat × BodyD)) : ∀ (n : Nat) (s : NSt), runOk n a s → runOk (n + a.length) b (runL n a s) → runOk n (a ++ b) s := by
  induction a with
  | nil => intro n s _ h; exact h
  | cons x a ih => intro n s h1 h2; exact ⟨h1.1, ih _ _ h1.2 (by rw [runL, List.length_cons, show n + (a.length + 1) = n + 1 + a.length by omega] at h2; exact h2)⟩
theorem tsJ_at (ls : List (Nat × BodyD)) (k : Nat) (h : k < ls.length) : tsJ ls k = bodyK (k + 1) ls[k].1 ls[k].2 := by simp [tsJ, h]
theorem stL_run (ls : List (Nat × BodyD)) : ∀ k, k ≤ ls.length → stL ls k = runL 1 (ls.take k) ([], [0])
  | 0, _ => rfl
  | k + 1, h => by
    have hk : k < ls.length := by omega
    rw [stL, stL_run ls k (by omega), tsJ_at ls k hk, bodyK_cons, line_run, List.take_succ_eq_append_getElem hk, runL_app]
    rw [List.length_take, Nat.min_eq_left (by omega), Nat.add_comm 1 k]
    rfl
theorem runOk_at : ∀ (ls : List (Nat × BodyD)) (n : Nat) (s : NSt) (k : Nat) (h : k < ls.length), runOk n ls s → lineOk (n + k) ls[k] (runL n (ls.take k) s)
  | [], _, _, _, h, _ => absurd h (by simp)
  | x :: ls, n, s, 0, _, hr => hr.1
  | x :: ls, n, s, k + 1, h, hr => by
    have := runOk_at ls (n + 1) (lineT n x s) k (by simpa using h) hr.2
    rw [show n + 1 + k = n + (k + 1) by omega] at this
    exact this
theorem bodyK_le (n : Nat) : ∀ (c : Nat) (b : BodyD), (bodyK n c b).length ≤ (bodyS b).length + 2 := fun c b => by
  have := bodyK_len n b c; omega
theorem okAll_of (ls : List (Nat × BodyD)) (hne : ∀ x, ls[0]? = some x → x.1 = 0) (hlen : (textB ls).length ≤ 1048576) (hb : ∀ x ∈ ls, OkB x.2) (hr : runOk 1 ls ([], [0])) (hf : closeN 0 (runL 1 ls ([], [0])).2 < (runL 1 ls ([], [0])).2.length ∧ LensOk (runL 1 ls ([], [0]))) : OkAll ls := by
  have hfin := stL_run ls ls.length (Nat.le_refl _)
  rw [List.take_length] at hfin
  have hl := textB_len ls
  refine ⟨by omega, hne, ?_, ?_, ?_⟩
  · intro k c b h
    have hm := List.mem_of_getElem? h
    have := lineB_le ls _ hm
    have h1 := hb _ hm
    exact ⟨h1, by simp only at this; omega, by simp only at this; omega⟩
  · intro k hk
    have hm := List.getElem_mem hk
    have h1 := runOk_at ls 1 ([], [0]) k hk hr
    rw [← stL_run ls k (by omega), Nat.add_comm 1 k] at h1
    rw [tsJ_at ls k hk]
    refine ⟨?_, ?_, ?_⟩
    · rw [bodyK_cons]; exact line_ok _ _ _ h1.1 h1.2
    · have := bodyK_le (k + 1) ls[k].1 ls[k].2
      have := lineB_le ls _ hm
      omega
    · rw [bodyK_cons]; simp
  · rw [hfin]; exact ⟨hf.1, hf.2.1, hf.2.2⟩
end Go.Proofs.YtdhgcgejdoedbaaGreatDoor

/-
  A tree's lines and tokens.
-/
namespace Go.Proofs.YtdhgcgejdoedbaaGreatDoor
open Go.RowKit Go.WideShapes

def leafD (k : Nat) (t : ByteArray) : LeafD := if k = 2 then .noSeq else if k = 3 then .noMap else .word t
def leafO (x : Tree) : LeafD := leafD x.kind x.text
def keyB (k : ByteArray) (y : Tree) : BodyD := .key k (if y.kids.isEmpty then some (leafO y) else none)
mutual
def hdB : Tree → BodyD
  | .mk k t ks kids _ => hdBs k t ks kids
def hdBs : Nat → ByteArray → List ByteArray → List Tree → BodyD
  | k, t, _, [] => .leaf (leafD k t)
  | k, _, ks, x :: _ => if k = 2 then .dash (hdB x) else keyB (ks.headD { data := #[] }) x
end
def nxS (c : Nat) : List Tree → List (Nat × BodyD)
  | [] => []
  | y :: _ => [(c, .dash (hdB y))]
def nxM (c : Nat) (ks : List ByteArray) : List Tree → List (Nat × BodyD)
  | [] => []
  | y :: _ => [(c, keyB (ks.headD { data := #[] }) y)]
mutual
def tlT : Nat → Tree → List (Nat × BodyD)
  | c, .mk k _ ks kids _ => if k = 2 then tlS c kids else tlM c ks kids
def tlS : Nat → List Tree → List (Nat × BodyD)
  | _, [] => []
  | c, x :: l => tlT (c + 2) x ++ (nxS c l ++ tlS c l)
def tlM : Nat → List ByteArray → List Tree → List (Nat × BodyD)
  | _, _, [] => []
  | c, ks, x :: l => (if x.kids.isEmpty then [] else (c + 2, hdB x) :: tlT (c + 2) x) ++ (nxM c ks.tail l ++ tlM c ks.tail l)
end
def OPN : TokD := (1, { data := #[] }, 0, 0)
def CLS : TokD := (2, { data := #[] }, 0, 0)
def leafE (n : Nat) (x : LeafD) : TokD := (leafK x, leafT x, n, 0)
mutual
def bkT : Nat → Nat → Tree → List TokD
  | n, c, .mk k t ks kids _ => if kids.isEmpty then [leafE n (leafD k t)] else if k = 2 then bkS n c kids else bkM n c ks kids
def bkS : Nat → Nat → List Tree → List TokD
  | _, _, [] => []
  | n, c, x :: l => (3, { data := #[] }, n, 0) :: OPN :: (bkT n (c + 2) x ++ CLS :: bkS (n + 1 + (tlT (c + 2) x).length) c l)
def bkM : Nat → Nat → List ByteArray → List Tree → List TokD
  | _, _, _, [] => []
  | n, c, ks, x :: l => (4, ks.headD { data := #[] }, n, 0) :: ((if x.kids.isEmpty then [leafE n (leafO x)] else OPN :: (bkT (n + 1) (c + 2) x ++ [CLS])) ++ bkM (n + 1 + (if x.kids.isEmpty then 0 else (tlT (c + 2) x).length + 1)) c ks.tail l)
end
def erE (t : TokD) : TokD := if t.1 = 1 ∨ t.1 = 2 then (t.1, { data := #[] }, 0, 0) else (t.1, t.2.1, t.2.2.1, 0)
theorem headK_pos (n c : Nat) (b : BodyD) : (headK n c b).2.2 = (n, c) := by cases b <;> rfl
theorem closeN_app (c : Nat) : ∀ (Q R : List Nat), (∀ p ∈ Q, c < p) → closeN c (Q ++ c :: R) = Q.length
  | [], R, _ => by simp [closeN]
  | q :: Q, R, h => by
    rw [List.cons_append, closeN, if_pos (h q (by simp)), closeN_app c Q R (fun p hp => h p (by simp [hp]))]; rfl
theorem closeN_up (c : Nat) (R : List Nat) : closeN (c + 2) (c :: R) = 0 := by unfold closeN; exact if_neg (by omega)
structure VP (o : List TokD) (s2 : NSt) (c : Nat) (R : List Nat) (toks : List TokD) (P : List Nat) (out : List TokD) : Prop where
  s : s2 = (o ++ out, P ++ c :: R)
  gt : ∀ p ∈ P, c < p
  len : P.length + R.length + 1 ≤ 16
  er : out.map erE ++ List.replicate P.length CLS = toks
theorem line_next (n c : Nat) (b : BodyD) (o : List TokD) (Q R : List Nat) (hQ : ∀ p ∈ Q, c < p) : lineT n (c, b) (o, Q ++ c :: R) = restT false (bodyK n c b) (o ++ List.replicate Q.length (2, { data := #[] }, n, c), c :: R) := by
  have hp := headK_pos n c b
  have hcl : clT (headK n c b) (o, Q ++ c :: R) = (o ++ List.replicate Q.length (2, { data := #[] }, n, c), c :: R) := by
    unfold clT
    rw [hp]
    simp only
    rw [closeN_app c Q R hQ, List.drop_left]
  conv => rhs; rw [bodyK_cons, restT]
  unfold lineT headT
  simp only
  rw [hcl, hp]
  simp [opIf]
theorem line_next_ok (n c : Nat) (b : BodyD) (o : List TokD) (Q R : List Nat) (hQ : ∀ p ∈ Q, c < p) (hl : Q.length + R.length + 1 ≤ 16) (ho : o.length ≤ 900000) (h : restOk false (bodyK n c b) (o ++ List.replicate Q.length (2, { data := #[] }, n, c), c :: R)) : lineOk n (c, b) (o, Q ++ c :: R) := by
  have hp := headK_pos n c b
  have hcl : clT (headK n c b) (o, Q ++ c :: R) = (o ++ List.replicate Q.length (2, { data := #[] }, n, c), c :: R) := by
    unfold clT
    rw [hp]
    simp only
    rw [closeN_app c Q R hQ, List.drop_left]
  refine ⟨⟨by simp, ⟨by simp; omega, ho⟩, ?_, ?_, ?_⟩, ?_⟩
  · rw [hp]; simp only; rw [closeN_app c Q R hQ]; simp
  · rw [hcl, hp]; simp
  · rw [hcl, hp]; simp
  · rw [bodyK_cons] at h
    have := h.2.2
    unfold headT
    rw [hcl, hp]
    simpa [opIf] using this
theorem line_open (n c : Nat) (b : BodyD) (o : List TokD) (R : List Nat) : lineT n (c + 2, b) (o, c :: R) = restT false (bodyK n (c + 2) b) (o ++ [(1, { data := #[] }, n, c + 2)], (c + 2) :: c :: R) := by
  have hp := headK_pos n (c + 2) b
  have hcl : clT (headK n (c + 2) b) (o, c :: R) = (o, c :: R) := clT_id (by rw [hp]; exact closeN_up c R)
  conv => rhs; rw [bodyK_cons, restT]
  unfold lineT headT
  simp only
  rw [hcl, hp]
  simp [opIf, opT, hp]
theorem line_open_ok (n c : Nat) (b : BodyD) (o : List TokD) (R : List Nat) (hl : R.length + 2 ≤ 16) (ho : o.length ≤ 900000) (h : restOk false (bodyK n (c + 2) b) (o ++ [(1, { data := #[] }, n, c + 2)], (c + 2) :: c :: R)) : lineOk n (c + 2, b) (o, c :: R) := by
  have hp := headK_pos n (c + 2) b
  have hcl : clT (headK n (c + 2) b) (o, c :: R) = (o, c :: R) := clT_id (by rw [hp]; exact closeN_up c R)
  refine ⟨⟨by simp, ⟨by simp; omega, ho⟩, ?_, ?_, ?_⟩, ?_⟩
  · rw [hp]; simp only; rw [closeN_up]; simp
  · rw [hp]; simp only; rw [closeN_up]; intro h0; exact absurd h0 (by decide)
  · rw [hcl]; simp; omega
  · rw [bodyK_cons] at h
    have := h.2.2
    unfold headT
    rw [hcl, hp]
    simpa [opIf, opT, hp] using this
theorem rest_open (n c : Nat) (b : BodyD) (o : List TokD) (R : List Nat) : restT true (bodyK n c b) (o, R) = restT false (bodyK n c b) (o ++ [(1, { data := #[] }, n, c)], c :: R) := by
  have hp := headK_pos n c b
  rw [bodyK_cons]
  simp [restT, opIf, opT, hp]
theorem rest_open_ok (n c : Nat) (b : BodyD) (o : List TokD) (R : List Nat) (hl : R.length + 1 ≤ 16) (ho : o.length ≤ 900000) (h : restOk false (bodyK n c b) (o ++ [(1, { data := #[] }, n, c)], c :: R)) : restOk true (bodyK n c b) (o, R) := by
  have hp := headK_pos n c b
  rw [bodyK_cons] at h ⊢
  refine ⟨⟨by simp; omega, ho⟩, fun _ => hl, ?_⟩
  have := h.2.2
  simpa [opIf, opT, hp] using this
end Go.Proofs.YtdhgcgejdoedbaaGreatDoor

/-
  A tree's lines give its tokens.
-/
namespace Go.Proofs.YtdhgcgejdoedbaaGreatDoor
open Go.RowKit Go.WideShapes

inductive DepT : Nat → Tree → Prop
  | mk {m k : Nat} {t : ByteArray} {ks : List ByteArray} {kids : List Tree} {l : Int} (h : ∀ x ∈ kids, DepT m x) : DepT (m + 1) (.mk k t ks kids l)
def ValG (n c : Nat) (b : BodyD) (tl : List (Nat × BodyD)) (toks : List TokD) (o : List TokD) (R : List Nat) : Prop :=
  restOk false (bodyK n c b) (o, c :: R) ∧ runOk (n + 1) tl (restT false (bodyK n c b) (o, c :: R)) ∧ ∃ P out, VP o (runL (n + 1) tl (restT false (bodyK n c b) (o, c :: R))) c R toks P out
theorem VP.length {o : List TokD} {s2 : NSt} {c : Nat} {R : List Nat} {toks : List TokD} {P : List Nat} {out : List TokD} (h : VP o s2 c R toks P out) : out.length + P.length = toks.length := by
  rw [← h.er]; simp
theorem er_rep (n a b : Nat) : (List.replicate n ((2, { data := #[] }, a, b) : TokD)).map erE = List.replicate n CLS := by
  rw [List.map_replicate]; rfl
theorem dash_ok {n c : Nat} {b : BodyD} {o : List TokD} {R : List Nat} (hl : R.length + 2 ≤ 16) (ho : o.length + 1 ≤ 900000) (h1 : restOk false (bodyK n (c + 2) b) (o ++ [(3, { data := #[] }, n, c)] ++ [(1, { data := #[] }, n, c + 2)], (c + 2) :: c :: R)) : restOk false (bodyK n c (.dash b)) (o, c :: R) := by
  have := rest_open_ok n (c + 2) b (o ++ [(3, { data := #[] }, n, c)]) (c :: R) (by simp; omega) (by simp; omega) h1
  exact ⟨⟨by simp; omega, by simp only; omega⟩, (fun h => by cases h), this⟩
theorem LS (c m : Nat) (R : List Nat) (hR : R.length + (m + 1) ≤ 16) : ∀ (l : List Tree) (y : Tree) (n : Nat) (o : List TokD),
    (∀ x ∈ y :: l, 1 ≤ m ∧ ∀ (n c : Nat) (o : List TokD) (R : List Nat), R.length + m ≤ 16 → o.length + (bkT n c x).length ≤ 900000 → ValG n c (hdB x) (tlT c x) (bkT n c x) o R) →
    o.length + (bkS n c (y :: l)).length ≤ 900000 → ValG n c (.dash (hdB y)) (tlS c (y :: l)) (bkS n c (y :: l)) o R := by
  intro l
  induction l with
  | nil =>
    intro y n o ih ho
    obtain ⟨hm, ihy⟩ := ih y (by simp)
    have hb : (bkS n c [y]).length = 3 + (bkT n (c + 2) y).length := by simp [bkS]; omega
    obtain ⟨h1, h2, P, out, hV⟩ := ihy n (c + 2) (o ++ [(3, { data := #[] }, n, c)] ++ [(1, { data := #[] }, n, c + 2)]) (c :: R) (by simp; omega) (by simp; omega)
    have hd : restT false (bodyK n c (.dash (hdB y))) (o, c :: R) = restT false (bodyK n (c + 2) (hdB y)) (o ++ [(3, { data := #[] }, n, c)] ++ [(1, { data := #[] }, n, c + 2)], (c + 2) :: c :: R) := by
      rw [← rest_open]; rfl
    have ht : tlS c [y] = tlT (c + 2) y := by simp [tlS, nxS]
    refine ⟨dash_ok (by omega) (by omega) h1, by rw [hd, ht]; exact h2, P ++ [c + 2], [(3, { data := #[] }, n, c), (1, { data := #[] }, n, c + 2)] ++ out, ?_, ?_, ?_, ?_⟩
    · rw [hd, ht, hV.s]; simp
    · intro p hp
      rcases List.mem_append.1 hp with h | h
      · have := hV.gt p h; omega
      · obtain rfl : p = c + 2 := by simpa using h
        omega
    · have := hV.len; simp at this ⊢; omega
    · rw [List.map_append, List.length_append, List.length_singleton, List.replicate_succ', List.append_assoc, ← List.append_assoc (out.map erE), hV.er]
      simp [bkS, erE, OPN]
  | cons z l ihl =>
    intro y n o ih ho
    obtain ⟨hm, ihy⟩ := ih y (by simp)
    have hb : (bkS n c (y :: z :: l)).length = 3 + (bkT n (c + 2) y).length + (bkS (n + 1 + (tlT (c + 2) y).length) c (z :: l)).length := by
      conv => lhs; rw [bkS]
      simp; omega
    obtain ⟨h1, h2, P, out, hV⟩ := ihy n (c + 2) (o ++ [(3, { data := #[] }, n, c)] ++ [(1, { data := #[] }, n, c + 2)]) (c :: R) (by simp; omega) (by simp; omega)
    have hd : restT false (bodyK n c (.dash (hdB y))) (o, c :: R) = restT false (bodyK n (c + 2) (hdB y)) (o ++ [(3, { data := #[] }, n, c)] ++ [(1, { data := #[] }, n, c + 2)], (c + 2) :: c :: R) := by
      rw [← rest_open]; rfl
    have ht : tlS c (y :: z :: l) = tlT (c + 2) y ++ ((c, .dash (hdB z)) :: tlS c (z :: l)) := by
      conv => lhs; rw [tlS]
      rfl
    have hQ : ∀ p ∈ P ++ [c + 2], c < p := fun p hp => by
      rcases List.mem_append.1 hp with h | h
      · have := hV.gt p h; omega
      · obtain rfl : p = c + 2 := by simpa using h
        omega
    have hs : runL (n + 1) (tlT (c + 2) y) (restT false (bodyK n (c + 2) (hdB y)) (o ++ [(3, { data := #[] }, n, c)] ++ [(1, { data := #[] }, n, c + 2)], (c + 2) :: c :: R)) = (o ++ [(3, { data := #[] }, n, c)] ++ [(1, { data := #[] }, n, c + 2)] ++ out, (P ++ [c + 2]) ++ c :: R) := by rw [hV.s]; simp
    have hvl := hV.length
    obtain ⟨k1, k2, P', out', hV'⟩ := ihl z (n + 1 + (tlT (c + 2) y).length) (o ++ [(3, { data := #[] }, n, c)] ++ [(1, { data := #[] }, n, c + 2)] ++ out ++ List.replicate (P ++ [c + 2]).length (2, { data := #[] }, n + 1 + (tlT (c + 2) y).length, c)) (fun x hx => ih x (List.mem_cons_of_mem _ hx)) (by simp; omega)
    have hvlen := hV.len
    refine ⟨dash_ok (by omega) (by omega) h1, ?_, P', [(3, { data := #[] }, n, c), (1, { data := #[] }, n, c + 2)] ++ out ++ List.replicate (P ++ [c + 2]).length (2, { data := #[] }, n + 1 + (tlT (c + 2) y).length, c) ++ out', ?_, hV'.gt, hV'.len, ?_⟩
    · rw [hd, ht]
      refine runOk_app _ _ _ _ h2 ?_
      rw [hs]
      refine ⟨line_next_ok _ _ _ _ _ _ hQ (by simp at hvlen ⊢; omega) (by simp; omega) k1, ?_⟩
      rw [line_next _ _ _ _ _ _ hQ]
      exact k2
    · rw [hd, ht, runL_app, hs, runL, line_next _ _ _ _ _ _ hQ, hV'.s]
      simp
    · have he := hV'.er
      have he1 := hV.er
      conv => rhs; rw [bkS]
      rw [List.map_append, List.append_assoc, he, List.map_append, er_rep, List.map_append, List.length_append, List.length_singleton, List.replicate_succ', ← List.append_assoc, List.append_assoc (List.map erE [_, _]), ← he1]
      simp [erE, OPN]
theorem kidM (c m n : Nat) (k : ByteArray) (y : Tree) (o : List TokD) (R : List Nat) (hR : R.length + (m + 1) ≤ 16) (hm : 1 ≤ m)
    (ih : ∀ (n c : Nat) (o : List TokD) (R : List Nat), R.length + m ≤ 16 → o.length + (bkT n c y).length ≤ 900000 → ValG n c (hdB y) (tlT c y) (bkT n c y) o R)
    (ho : o.length + 3 + (bkT (n + 1) (c + 2) y).length ≤ 900000 ∨ (y.kids.isEmpty = true ∧ o.length + 2 ≤ 900000)) :
    ∃ Q out, restOk false (bodyK n c (keyB k y)) (o, c :: R) ∧ runOk (n + 1) (if y.kids.isEmpty then [] else (c + 2, hdB y) :: tlT (c + 2) y) (restT false (bodyK n c (keyB k y)) (o, c :: R)) ∧
      runL (n + 1) (if y.kids.isEmpty then [] else (c + 2, hdB y) :: tlT (c + 2) y) (restT false (bodyK n c (keyB k y)) (o, c :: R)) = (o ++ out, Q ++ c :: R) ∧ (∀ p ∈ Q, c < p) ∧ Q.length + R.length + 1 ≤ 16 ∧
      out.map erE ++ List.replicate Q.length CLS = (4, k, n, 0) :: (if y.kids.isEmpty then [leafE n (leafO y)] else OPN :: (bkT (n + 1) (c + 2) y ++ [CLS])) := by
  cases he : y.kids.isEmpty with
  | true =>
    have ho2 : o.length + 2 ≤ 900000 := by rcases ho with h | h <;> omega
    have hb : bodyK n c (keyB k y) = [(4, k, n, c), (leafK (leafO y), leafT (leafO y), n, c + (wrL (bsN k)).length + 2)] := by unfold keyB; rw [he]; rfl
    rw [hb]
    refine ⟨[], [(4, k, n, c), (leafK (leafO y), leafT (leafO y), n, c + (wrL (bsN k)).length + 2)], ⟨⟨by simp; omega, by simp only; omega⟩, (fun h => by cases h), ⟨⟨by simp [puT, opIf]; omega, by simp [puT, opIf]; omega⟩, (fun h => absurd h (by simp)), trivial⟩⟩, trivial, ?_, (fun p hp => by cases hp), by simp; omega, ?_⟩
    · simp [restT, runL, puT, opIf]
    · have hk : leafK (leafO y) ≠ 1 ∧ leafK (leafO y) ≠ 2 := by cases leafO y <;> simp [leafK]
      simp [erE, leafE, hk.1, hk.2]
  | false =>
    have ho2 : o.length + 3 + (bkT (n + 1) (c + 2) y).length ≤ 900000 := by
      rcases ho with h | ⟨h, _⟩
      · exact h
      · rw [he] at h; cases h
    have hb : bodyK n c (keyB k y) = [(4, k, n, c)] := by unfold keyB; rw [he]; rfl
    have hs0 : restT false (bodyK n c (keyB k y)) (o, c :: R) = (o ++ [(4, k, n, c)], c :: R) := by rw [hb]; rfl
    obtain ⟨h1, h2, P, out, hV⟩ := ih (n + 1) (c + 2) (o ++ [(4, k, n, c)] ++ [(1, { data := #[] }, n + 1, c + 2)]) (c :: R) (by simp; omega) (by simp; omega)
    have hlen := hV.len
    refine ⟨P ++ [c + 2], [(4, k, n, c), (1, { data := #[] }, n + 1, c + 2)] ++ out, ?_, ?_, ?_, ?_, by simp at hlen ⊢; omega, ?_⟩
    · rw [hb]; exact ⟨⟨by simp; omega, by simp only; omega⟩, (fun h => by cases h), trivial⟩
    · rw [hs0]
      refine ⟨line_open_ok _ _ _ _ _ (by omega) (by simp; omega) h1, ?_⟩
      rw [line_open]; exact h2
    · rw [hs0]
      show runL (n + 1 + 1) (tlT (c + 2) y) (lineT (n + 1) (c + 2, hdB y) (o ++ [(4, k, n, c)], c :: R)) = _
      rw [line_open, hV.s]; simp
    · intro p hp
      rcases List.mem_append.1 hp with h | h
      · have := hV.gt p h; omega
      · obtain rfl : p = c + 2 := by simpa using h
        omega
    · rw [List.map_append, List.length_append, List.length_singleton, List.replicate_succ', List.append_assoc, ← List.append_assoc (out.map erE), hV.er]
      simp [erE, OPN]
theorem LM (c m : Nat) (R : List Nat) (hR : R.length + (m + 1) ≤ 16) : ∀ (l : List Tree) (y : Tree) (ks : List ByteArray) (n : Nat) (o : List TokD),
    (∀ x ∈ y :: l, 1 ≤ m ∧ ∀ (n c : Nat) (o : List TokD) (R : List Nat), R.length + m ≤ 16 → o.length + (bkT n c x).length ≤ 900000 → ValG n c (hdB x) (tlT c x) (bkT n c x) o R) →
    o.length + (bkM n c ks (y :: l)).length ≤ 900000 → ValG n c (keyB (ks.headD { data := #[] }) y) (tlM c ks (y :: l)) (bkM n c ks (y :: l)) o R := by
  intro l
  induction l with
  | nil =>
    intro y ks n o ih ho
    obtain ⟨hm, ihy⟩ := ih y (by simp)
    have hkid : o.length + 3 + (bkT (n + 1) (c + 2) y).length ≤ 900000 ∨ (y.kids.isEmpty = true ∧ o.length + 2 ≤ 900000) := by
      cases he : y.kids.isEmpty with
      | true => exact .inr ⟨rfl, by simp [bkM, he] at ho; omega⟩
      | false => exact .inl (by simp [bkM, he] at ho; omega)
    obtain ⟨Q, out, h1, h2, h3, h4, h5, h6⟩ := kidM c m n (ks.headD { data := #[] }) y o R hR hm ihy hkid
    have ht : tlM c ks [y] = if y.kids.isEmpty then [] else (c + 2, hdB y) :: tlT (c + 2) y := by simp [tlM, nxM]
    refine ⟨h1, by rw [ht]; exact h2, Q, out, by rw [ht]; exact h3, h4, h5, ?_⟩
    rw [h6]; simp [bkM]
  | cons z l ihl =>
    intro y ks n o ih ho
    obtain ⟨hm, ihy⟩ := ih y (by simp)
    have hb : bkM n c ks (y :: z :: l) = ((4, ks.headD { data := #[] }, n, 0) :: (if y.kids.isEmpty then [leafE n (leafO y)] else OPN :: (bkT (n + 1) (c + 2) y ++ [CLS]))) ++ bkM (n + 1 + (if y.kids.isEmpty then 0 else (tlT (c + 2) y).length + 1)) c ks.tail (z :: l) := by
      conv => lhs; rw [bkM]
      rfl
    rw [hb, List.length_append] at ho
    have hkid : o.length + 3 + (bkT (n + 1) (c + 2) y).length ≤ 900000 ∨ (y.kids.isEmpty = true ∧ o.length + 2 ≤ 900000) := by
      cases he : y.kids.isEmpty with
      | true => exact .inr ⟨rfl, by simp [he] at ho; omega⟩
      | false => exact .inl (by simp [he] at ho; omega)
    obtain ⟨Q, out, h1, h2, h3, h4, h5, h6⟩ := kidM c m n (ks.headD { data := #[] }) y o R hR hm ihy hkid
    rw [← h6] at ho hb
    have hn : (if y.kids.isEmpty then [] else (c + 2, hdB y) :: tlT (c + 2) y).length = if y.kids.isEmpty then 0 else (tlT (c + 2) y).length + 1 := by split <;> simp
    have ht : tlM c ks (y :: z :: l) = (if y.kids.isEmpty then [] else (c + 2, hdB y) :: tlT (c + 2) y) ++ ((c, keyB (ks.tail.headD { data := #[] }) z) :: tlM c ks.tail (z :: l)) := by
      conv => lhs; rw [tlM]
      rfl
    rw [← hn] at ho hb
    generalize (if y.kids.isEmpty then [] else (c + 2, hdB y) :: tlT (c + 2) y) = kl at *
    obtain ⟨k1, k2, P', out', hV'⟩ := ihl z ks.tail (n + 1 + kl.length) (o ++ out ++ List.replicate Q.length (2, { data := #[] }, n + 1 + kl.length, c)) (fun x hx => ih x (List.mem_cons_of_mem _ hx)) (by simp at ho ⊢; omega)
    refine ⟨h1, ?_, P', out ++ List.replicate Q.length (2, { data := #[] }, n + 1 + kl.length, c) ++ out', ?_, hV'.gt, hV'.len, ?_⟩
    · rw [ht]
      refine runOk_app _ _ _ _ h2 ?_
      rw [h3]
      refine ⟨line_next_ok _ _ _ _ _ _ h4 h5 (by simp at ho ⊢; omega) k1, ?_⟩
      rw [line_next _ _ _ _ _ _ h4]
      exact k2
    · rw [ht, runL_app, h3, runL, line_next _ _ _ _ _ _ h4, hV'.s]
      simp
    · rw [hb, List.map_append, List.append_assoc, hV'.er, List.map_append, er_rep]
theorem LV : ∀ (x : Tree) (m n c : Nat) (o : List TokD) (R : List Nat), DepT m x → R.length + m ≤ 16 → o.length + (bkT n c x).length ≤ 900000 → ValG n c (hdB x) (tlT c x) (bkT n c x) o R := by
  refine Tree.ind fun k t ks kids l ih m n c o R hd hR ho => ?_
  cases hd with
  | @mk m _ _ _ _ _ hk =>
    cases kids with
    | nil =>
      have hb : hdB (.mk k t ks [] l) = .leaf (leafD k t) := rfl
      have ht : tlT c (.mk k t ks [] l) = [] := by rw [tlT]; split <;> rfl
      have hkb : bkT n c (.mk k t ks [] l) = [leafE n (leafD k t)] := rfl
      rw [hkb] at ho; rw [hb, ht, hkb]
      have hk : leafK (leafD k t) ≠ 1 ∧ leafK (leafD k t) ≠ 2 := by cases leafD k t <;> simp [leafK]
      refine ⟨⟨⟨by simp; omega, by simp at ho ⊢; omega⟩, (fun h => by cases h), trivial⟩, trivial, [], [(leafK (leafD k t), leafT (leafD k t), n, c)], ?_, (fun p hp => by cases hp), by simp; omega, ?_⟩
      · simp [restT, runL, puT, opIf, bodyK]
      · simp [erE, leafE, hk.1, hk.2]
    | cons y ys =>
      have h1m : 1 ≤ m := by
        have := hk y (by simp)
        cases this; omega
      have ihs : ∀ x ∈ y :: ys, 1 ≤ m ∧ ∀ (n c : Nat) (o : List TokD) (R : List Nat), R.length + m ≤ 16 → o.length + (bkT n c x).length ≤ 900000 → ValG n c (hdB x) (tlT c x) (bkT n c x) o R :=
        fun x hx => ⟨h1m, fun n c o R hR ho => ih x hx m n c o R (hk x hx) hR ho⟩
      by_cases h2 : k = 2
      · have hb : hdB (.mk k t ks (y :: ys) l) = .dash (hdB y) := by show (if k = 2 then _ else _) = _; rw [if_pos h2]
        have ht : tlT c (.mk k t ks (y :: ys) l) = tlS c (y :: ys) := by rw [tlT, if_pos h2]
        have hkb : bkT n c (.mk k t ks (y :: ys) l) = bkS n c (y :: ys) := by rw [bkT, if_neg (by simp), if_pos h2]
        rw [hkb] at ho; rw [hb, ht, hkb]
        exact LS c m R hR ys y n o ihs ho
      · have hb : hdB (.mk k t ks (y :: ys) l) = keyB (ks.headD { data := #[] }) y := by show (if k = 2 then _ else _) = _; rw [if_neg h2]
        have ht : tlT c (.mk k t ks (y :: ys) l) = tlM c ks (y :: ys) := by rw [tlT, if_neg h2]
        have hkb : bkT n c (.mk k t ks (y :: ys) l) = bkM n c ks (y :: ys) := by rw [bkT, if_neg (by simp), if_neg h2]
        rw [hkb] at ho; rw [hb, ht, hkb]
        exact LM c m R hR ys y ks n o ihs ho
def blkT (x : Tree) : List (Nat × BodyD) := (0, hdB x) :: tlT 0 x
theorem blk_run (x : Tree) (hd : DepT 16 x) (ho : (bkT 1 0 x).length ≤ 900000) : runOk 1 (blkT x) ([], [0]) ∧ ∃ P out, runL 1 (blkT x) ([], [0]) = (out, P ++ [0]) ∧ (∀ p ∈ P, 0 < p) ∧ P.length + 1 ≤ 16 ∧ out.map erE ++ List.replicate P.length CLS = bkT 1 0 x := by
  obtain ⟨h1, h2, P, out, hV⟩ := LV x 16 1 0 [] [] hd (by simp) (by simpa using ho)
  have hl := line_next 1 0 (hdB x) [] [] [] (fun p hp => by cases hp)
  have hk := line_next_ok 1 0 (hdB x) [] [] [] (fun p hp => by cases hp) (by simp) (by simp) h1
  have hlen := hV.len
  refine ⟨⟨hk, by rw [show ([], [0]) = (([], [] ++ 0 :: []) : NSt) from rfl, hl]; exact h2⟩, P, out, ?_, hV.gt, by simpa using hlen, hV.er⟩
  unfold blkT
  rw [runL, show ([], [0]) = (([], [] ++ 0 :: []) : NSt) from rfl, hl]
  have := hV.s
  simpa using this
end Go.Proofs.YtdhgcgejdoedbaaGreatDoor

/-
  A tree's text has its tokens.
-/
namespace Go.Proofs.YtdhgcgejdoedbaaGreatDoor
open Go.RowKit Go.WideShapes

theorem tokF_blk (x : Tree) (hd : DepT 16 x) (ho : (bkT 1 0 x).length ≤ 900000) : (tokF (blkT x)).map erE = bkT 1 0 x := by
  obtain ⟨_, P, out, h1, h2, h3, h4⟩ := blk_run x hd ho
  have hs := stL_run (blkT x) (blkT x).length (Nat.le_refl _)
  rw [List.take_length, h1] at hs
  unfold tokF
  rw [hs]
  simp only
  rw [closeN_app 0 P [] h2, List.map_append, er_rep, h4]
theorem okAll_blk (x : Tree) (hd : DepT 16 x) (ho : (bkT 1 0 x).length ≤ 900000) (hlen : (textB (blkT x)).length ≤ 1048576) (hb : ∀ y ∈ blkT x, OkB y.2) : OkAll (blkT x) := by
  obtain ⟨hr, P, out, h1, h2, h3, h4⟩ := blk_run x hd ho
  refine okAll_of (blkT x) (fun y hy => by injection hy with hy; rw [← hy]) hlen hb hr ?_
  rw [h1]
  refine ⟨?_, ?_⟩
  · simp only; rw [closeN_app 0 P [] h2]; simp
  · have : out.length ≤ (bkT 1 0 x).length := by rw [← h4]; simp
    exact ⟨by simp; omega, by simp only; omega⟩
end Go.Proofs.YtdhgcgejdoedbaaGreatDoor
