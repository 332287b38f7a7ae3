/-
  block.At: contract.
-/
import Derived.Deep.DeepCutAuto
import Derived.Test.YtgafjjgnbcjmpaaBq6
import Derived.Test.YtgafjjgnbcjmpaaBq12
import Derived.Test.YtgafjjgnbcjmpaaBq14
import Derived.Test.YtgafjjgnbcjmpaaBq16
import Derived.Test.YtgafjjgnbcjmpaaBq19
import Derived.Test.YtgafjjgnbcjmpaaBq21
import Derived.Test.YtgafjjgnbcjmpaaBq22
import Derived.Test.YtgafjjgnbcjmpaaBq23
namespace Go.Proofs.Ytgafjjgnbcjmpaa
open Go.RowKit Go.WideShapes

/-- Which kid a name stands for. -/
def kidAt (x : Tree) (s : ByteArray) : Int := if x.kind = 3 then idxS x.keys s else if x.kind = 2 then (if (numN (bsN s)).2 = 0 then ((numN (bsN s)).1 : Int) else -1) else -1
def atT : Tree → List ByteArray → Option Tree
  | x, [] => some x
  | x, s :: l => if h : 0 ≤ kidAt x s ∧ kidAt x s < (x.kids.length : Int) then atT (x.kids[(kidAt x s).toNat]'(by omega)) l else none
theorem atT_no {x : Tree} {s : ByteArray} {l : List ByteArray} (h : ¬ (0 ≤ kidAt x s ∧ kidAt x s < (x.kids.length : Int))) : atT x (s :: l) = none := by rw [atT, dif_neg h]
theorem atT_go {x : Tree} {s : ByteArray} {l : List ByteArray} {k : Nat} (hk : k < x.kids.length) (h : kidAt x s = (k : Int)) : atT x (s :: l) = atT x.kids[k] l := by
  rw [atT, dif_pos (by omega)]
  congr 1
  simp [h]
/-- What is found: a node, or none. -/
def NodeAt (w' : World) (o : Option Tree) (b : Bool) (cs' : List Value) : Prop := match o with
  | some y => b = true ∧ NodeR w' cs' y
  | none => b = false ∧ cs' = [.int .u8 0, .string { data := #[] }, .slice none 0 0, .slice none 0 0, .int .i64 0]
theorem NodeR.kidsR {w : World} {x : Tree} {ka ba : Option Addr} {kc bc : Nat} (h : NodeR w [.int .u8 (x.kind : Int), .string x.text, .slice ka x.keys.length kc, .slice ba x.kids.length bc, .int .i64 x.line] x) : RdS w (.slice ka x.keys.length kc) 1 x.keys.length (strsV x.keys) ∧ NodesR w (.slice ba x.kids.length bc) x.kids ∧ x.kind < 256 := by
  obtain ⟨k, t, ks, kids, ln⟩ := x
  obtain ⟨vk, vc, he, h1, _, _, _, h5, h6⟩ := h.parts
  simp only [Tree.kind, Tree.text, Tree.keys, Tree.kids, Tree.line, List.cons.injEq, and_true, true_and] at he
  obtain ⟨rfl, rfl⟩ := he
  exact ⟨h5, h6, h1⟩
theorem numN_range (s : ByteArray) : (numN (bsN s)).1 < 1000000000 ∧ ((numN (bsN s)).2 = 0 ∨ (numN (bsN s)).2 = 3) := by
  unfold numN
  split
  · rename_i h
    unfold numOk at h
    simp only [Bool.and_eq_true, decide_eq_true_eq] at h
    exact ⟨valN_9 h.1.1.2 h.2, .inl rfl⟩
  · exact ⟨by decide, .inr rfl⟩
theorem idxS_range (l : List ByteArray) (s : ByteArray) (hl : l.length ≤ 9223372036854775807) : -1 ≤ idxS l s ∧ idxS l s ≤ 9223372036854775807 := by
  unfold idxS
  split
  · have := List.idxOf_le_length (a := s) (l := l); omega
  · omega

end Go.Proofs.Ytgafjjgnbcjmpaa

/-
  parse: the readers of a text, of a number, of a note: contracts.
-/
namespace Go.Proofs.Ytgafjjgnbcjmpaa
open Go Go.RowKit Go.Maps Go.WideShapes

theorem froz5n {W : World} {B : Nat} {c0 c1 c2 c3 c4 : Value} {t : TypeId} (h : W.heap[B]? = some (.cells #[c0, c1, c2, c3, c4] t (0, 0))) :
    W.frozen? ⟨B, 0, none⟩ = false ∧ W.frozen? ⟨B, 1, none⟩ = false ∧ W.frozen? ⟨B, 2, none⟩ = false ∧ W.frozen? ⟨B, 3, none⟩ = false ∧ W.frozen? ⟨B, 4, none⟩ = false := by
  simp [World.frozen?, h]
theorem set5n {W : World} {B : Nat} {a0 a1 a2 a3 a4 c0 c1 c2 c3 c4 : Value} {t : TypeId} (h : W.heap[B]? = some (.cells #[a0, a1, a2, a3, a4] t (0, 0))) :
    (((((W.setCell ⟨B, 0, none⟩ c0).setCell ⟨B, 1, none⟩ c1).setCell ⟨B, 2, none⟩ c2).setCell ⟨B, 3, none⟩ c3).setCell ⟨B, 4, none⟩ c4).heap[B]? = some (.cells #[c0, c1, c2, c3, c4] t (0, 0)) := by
  simp [World.setCell, h, Array.getElem?_modify]
theorem set5o {W : World} {B k : Nat} {c0 c1 c2 c3 c4 : Value} (h : k ≠ B) :
    (((((W.setCell ⟨B, 0, none⟩ c0).setCell ⟨B, 1, none⟩ c1).setCell ⟨B, 2, none⟩ c2).setCell ⟨B, 3, none⟩ c3).setCell ⟨B, 4, none⟩ c4).heap[k]? = W.heap[k]? := by
  rw [Below.heap_setCell _ _ _ _ h, Below.heap_setCell _ _ _ _ h, Below.heap_setCell _ _ _ _ h, Below.heap_setCell _ _ _ _ h, Below.heap_setCell _ _ _ _ h]

set_option maxRecDepth 100000 in
set_option maxHeartbeats 1000000 in
theorem text1_any (t : Tree) (cs : List Value) (pt pm B : Nat) (most : Int) (old : ByteArray) (w0 w : World) (h : NodeR w0 cs t) (hk : t.kind = 1) (hc : checkN (bsN t.text) most = 0) (hpt : w.heap[pt]? = some (.cells #[.pointer (some ⟨B, 0, none⟩)] 68 (0, 0))) (hpm : w.heap[pm]? = some (.cells #[.int .i64 most] 3 (0, 0))) (hB : w.heap[B]? = some (.cells #[.string old] 9 (0, 0))) :
    Calls Try.prog 54 #[.agg cs.toArray, .pointer (some ⟨pt, 0, none⟩), .pointer (some ⟨pm, 0, none⟩)] w fun e w' => e = .returned zeroF ∧ w'.heap[B]? = some (.cells #[.string t.text] 9 (0, 0)) ∧ TurnS (fun j => j = B) w w' := by
  obtain ⟨ka, kc, ba, bc, rfl⟩ := h.cells
  have htx : t.text.size ≤ maxLen := by
    obtain ⟨k, tx, ks, kids, ln⟩ := t
    obtain ⟨_, _, _, _, h2, _⟩ := h.parts
    exact h2
  have hk1 : (t.kind : Int) = 1 := by omega
  rw [hk1] at h ⊢
  have HN := Lib.hid h
  have HC := Lib.hid hc
  have HB := Lib.hid hB
  have hlt1 := (Array.getElem?_eq_some_iff.1 hpt).1
  have hlt2 := (Array.getElem?_eq_some_iff.1 hpm).1
  have hlt3 := (Array.getElem?_eq_some_iff.1 hB).1
  clear h hk hk1 hc
  obtain ⟨hb0, g0, f0, hs0⟩ := enter5 w (.int .u8 1) (.string t.text) (.slice ka t.keys.length kc) (.slice ba t.kids.length bc) (.int .i64 t.line)
  have hptz := (hb0.block _ hlt1).trans hpt
  have hpmz := (hb0.block _ hlt2).trans hpm
  have hBz := (hb0.block _ hlt3).trans hB
  have HB0 := Lib.hid hb0
  clear hb0 hpt hpm hB
  go_enter Try.func54, Try.ntmps54
  go_upto_region 1 with fail
  generalize (w.alloc (.cells #[.int .u8 1, .string t.text, .slice ka t.keys.length kc, .slice ba t.kids.length bc, .int .i64 t.line] 34)).alloc (.cells #[.int .i64 0, .int .i64 0] 29) = wz at *
  obtain ⟨q0, q1, q2, q3, q4⟩ := cells5n g0
  obtain ⟨m0, -⟩ := cell1n hpmz
  obtain ⟨n0, -⟩ := cell1n hptz
  obtain ⟨b0, b1⟩ := cell1n hBz
  go_upto_region 4 with fail
  have hmB : pm ≠ B := by rintro rfl; rw [hpmz] at hBz; cases hBz
  have HF3 : Hid ((wz.setCell ⟨B, 0, none⟩ (.string t.text)).heap[w.heap.size + 1]? = some (.cells #[.int .i64 0, .int .i64 0] 29 (0, 0))) := Lib.hid ((Below.heap_setCell _ _ _ _ (by show _ ≠ B; omega)).trans f0)
  have g3 := (Below.heap_setCell wz ⟨B, 0, none⟩ (.string t.text) (w.heap.size) (by show _ ≠ B; omega)).trans g0
  have m3 := (Below.heap_setCell wz ⟨B, 0, none⟩ (.string t.text) pm hmB).trans hpmz
  have HB3 := Lib.hid (set1n (x := .string t.text) hBz)
  have HT3 : Hid (TurnS (fun j => j = B) w (wz.setCell ⟨B, 0, none⟩ (.string t.text))) := Lib.hid (TurnS.setCell (S := fun j => j = B) (TurnS.of_below HB0.out) (p := ⟨B, 0, none⟩) (fun _ => rfl) _)
  have hs3 : (wz.setCell ⟨B, 0, none⟩ (.string t.text)).heap.size = w.heap.size + 2 := by simp [hs0]
  clear q0 q1 q2 q3 q4 m0 n0 b0 b1 g0 hpmz hptz hBz f0 HB
  generalize wz.setCell ⟨B, 0, none⟩ (.string t.text) = w3 at *
  obtain ⟨q0, q1, q2, q3, q4⟩ := cells5n g3
  obtain ⟨m0, -⟩ := cell1n m3
  have HFR0 : Hid (w3.drew.heap[w.heap.size + 1]? = some (.cells #[.int .i64 0, .int .i64 0] 29 (0, 0))) := HF3
  have HZ0 : Hid (Below w3.heap.size w3 w3.drew) := Lib.hid (Below.refl _ _).drew
  clear g3 m3
  refine E_region (S := (fun W => W.cell? ⟨w.heap.size, 0, none⟩ = some (.int .u8 1) ∧ W.cell? ⟨w.heap.size, 1, none⟩ = some (.string t.text) ∧ W.cell? ⟨w.heap.size, 2, none⟩ = some (.slice ka t.keys.length kc) ∧ W.cell? ⟨w.heap.size, 3, none⟩ = some (.slice ba t.kids.length bc) ∧ W.cell? ⟨w.heap.size, 4, none⟩ = some (.int .i64 t.line) ∧ W.cell? ⟨pm, 0, none⟩ = some (.int .i64 most))) 5 (by kernel_rfl) ⟨q0, q1, q2, q3, q4, m0⟩ (fun _ _ _ _ _ h => h) (fun Q' hQ hK' hHeld => ?_)
  refine E_take hQ hHeld 0 (v := ?tv1) rfl rfl (by kernel_rfl) (by kernel_rfl) (by kernel_rfl) (by kernel_rfl) (by kernel_rfl) (by rfl) ?ty1 ?tr1
  case ty1 => (intro w hSw; (try dsimp only at hSw); go_simp; (try with_reducible rfl))
  (try simp only [Act.put, List.setIfInBounds_toArray, List.set_cons_zero, List.set_cons_succ])
  refine E_take0 hQ (fun _ => hHeld) 1 (v := ?tv2) rfl rfl (by kernel_rfl) (by kernel_rfl) (by kernel_rfl) (by decide) (by rfl) ?ty2 ?tr2
  case ty2 => (intro w; go_simp; (try with_reducible rfl))
  (try simp only [Act.put, List.setIfInBounds_toArray, List.set_cons_zero, List.set_cons_succ])
  refine E_take hQ hHeld 2 (v := ?tv3) rfl rfl (by kernel_rfl) (by kernel_rfl) (by kernel_rfl) (by kernel_rfl) (by kernel_rfl) (by rfl) ?ty3 ?tr3
  case ty3 => (intro w hSw; (try dsimp only at hSw); go_simp; (try with_reducible rfl))
  (try simp only [Act.put, List.setIfInBounds_toArray, List.set_cons_zero, List.set_cons_succ])
  refine E_take hQ hHeld 3 (v := ?tv4) rfl rfl (by kernel_rfl) (by kernel_rfl) (by kernel_rfl) (by kernel_rfl) (by kernel_rfl) (by rfl) ?ty4 ?tr4
  case ty4 => (intro w hSw; (try dsimp only at hSw); go_simp; (try with_reducible rfl))
  (try simp only [Act.put, List.setIfInBounds_toArray, List.set_cons_zero, List.set_cons_succ])
  refine E_one 4 (by kernel_rfl) rfl (by rfl) (fun K hK => ?_)
  go_simp
  refine (Check_any t.text most _ (by unfold maxLen at htx; omega)).mono ?_
  rintro e V4 ⟨rfl, hb⟩
  have HY4 := Lib.hid hb
  have HZ4 := Lib.hid (bthen HZ0.out (Nat.le_refl _) hb)
  clear hb
  rw [HC.out]
  (skip)
  refine hK.out _ _ (fun _ _ => ⟨cellB HY4.out hHeld.1, cellB HY4.out hHeld.2.1, cellB HY4.out hHeld.2.2.1, cellB HY4.out hHeld.2.2.2.1, cellB HY4.out hHeld.2.2.2.2.1, cellB HY4.out hHeld.2.2.2.2.2⟩) (fun hHeld' => ?_)
  replace hHeld := hHeld' (by rfl) (by decide)
  clear hK hHeld'
  (try simp only [Act.put, List.setIfInBounds_toArray, List.set_cons_zero, List.set_cons_succ])
  refine E_one 5 (by kernel_rfl) rfl (by rfl) (fun K hK => ?_)
  go_simp
  refine (wrong_ok t _ _ HN.out).mono ?_
  rintro e V5 ⟨rfl, hb⟩
  have HY5 := Lib.hid hb
  have HZ5 := Lib.hid (bthen HZ4.out (Nat.le_refl _) hb)
  clear hb
  have hfr := (HZ5.out.block _ (by omega)).trans HFR0.out
  obtain ⟨x0, x1, y0, y1⟩ := cells2 hfr
  unfold zeroF
  (skip)
  refine hK.out _ _ (fun _ h => absurd rfl h) (fun _ => ?_)
  clear hK hHeld
  (try simp only [Act.put, List.setIfInBounds_toArray, List.set_cons_zero, List.set_cons_succ])
  refine E_one 6 (by kernel_rfl) rfl (by rfl) (fun K hK => ?_)
  go_simp
  (try simp only [Act.put, List.setIfInBounds_toArray, List.set_cons_zero, List.set_cons_succ])
  refine hK.out _ _ (fun h => absurd h (by decide)) (fun _ => ?_)
  clear hK
  (try simp only [Act.put, List.setIfInBounds_toArray, List.set_cons_zero, List.set_cons_succ])
  refine E_done (by kernel_rfl) ?_ _
  refine hK'.out _ _ ?_
  clear q0 q1 q2 q3 q4 m0 hK' hQ
  go_wp2_with fail
  have hset := two_set (x := .int .i64 0) (y := .int .i64 0) hfr
  have hB5 : V5.heap[B]? = some (.cells #[.string t.text] 9 (0, 0)) := (HZ5.out.block _ (by omega)).trans HB3.out
  have ht5 : TurnS (fun j => j = B) w ((V5.setCell ⟨w.heap.size + 1, 0, none⟩ (.int .i64 0)).setCell ⟨w.heap.size + 1, 1, none⟩ (.int .i64 0)) := ((HT3.out.trans (TurnS.of_below HZ5.out)).setCell (p := ⟨w.heap.size + 1, 0, none⟩) (fun h => absurd h (by simp)) _).setCell (p := ⟨w.heap.size + 1, 1, none⟩) (fun h => absurd h (by simp)) _
  have hB6 : ((V5.setCell ⟨w.heap.size + 1, 0, none⟩ (.int .i64 0)).setCell ⟨w.heap.size + 1, 1, none⟩ (.int .i64 0)).heap[B]? = some (.cells #[.string t.text] 9 (0, 0)) := by
    have hne : B ≠ w.heap.size + 1 := by omega
    rw [Below.heap_setCell _ _ _ _ hne, Below.heap_setCell _ _ _ _ hne]; exact hB5
  clear x0 x1 y0 y1
  generalize (V5.setCell ⟨w.heap.size + 1, 0, none⟩ (.int .i64 0)).setCell ⟨w.heap.size + 1, 1, none⟩ (.int .i64 0) = w9 at *
  obtain ⟨z0, z1, -, -⟩ := cells2 hset
  refine bodyPost_ret (v := zeroF) (by unfold zeroF; simp [results, Try.results54, go_sem, z0, z1]) rfl ⟨rfl, hB6, ht5⟩

set_option maxRecDepth 100000 in
set_option maxHeartbeats 1000000 in
theorem number1_any (t : Tree) (cs : List Value) (p B n : Nat) (old : Int) (w0 w : World) (h : NodeR w0 cs t) (hk : t.kind = 1) (hc : numN (bsN t.text) = (n, 0)) (hp : w.heap[p]? = some (.cells #[.pointer (some ⟨B, 0, none⟩)] 77 (0, 0))) (hB : w.heap[B]? = some (.cells #[.int .i64 old] 3 (0, 0))) :
    Calls Try.prog 65 #[.agg cs.toArray, .pointer (some ⟨p, 0, none⟩)] w fun e w' => e = .returned zeroF ∧ w'.heap[B]? = some (.cells #[.int .i64 (n : Int)] 3 (0, 0)) ∧ TurnS (fun j => j = B) w w' := by
  obtain ⟨ka, kc, ba, bc, rfl⟩ := h.cells
  have htx : t.text.size ≤ maxLen := by
    obtain ⟨k, tx, ks, kids, ln⟩ := t
    obtain ⟨_, _, _, _, h2, _⟩ := h.parts
    exact h2
  have hk1 : (t.kind : Int) = 1 := by omega
  rw [hk1] at h ⊢
  have HN := Lib.hid h
  have HNU := Lib.hid (fun W => Number_any t.text W (by unfold maxLen at htx; omega))
  rw [hc] at HNU
  have HB := Lib.hid hB
  have hlt1 := (Array.getElem?_eq_some_iff.1 hp).1
  have hlt3 := (Array.getElem?_eq_some_iff.1 hB).1
  clear h hk hk1 hc
  obtain ⟨hb0, g0, f0, hs0⟩ := enter5 w (.int .u8 1) (.string t.text) (.slice ka t.keys.length kc) (.slice ba t.kids.length bc) (.int .i64 t.line)
  have hptz := (hb0.block _ hlt1).trans hp
  have hBz := (hb0.block _ hlt3).trans hB
  have HB0 := Lib.hid hb0
  clear hb0 hp hB
  go_enter Try.func65, Try.ntmps65
  go_upto_region 1 with fail
  generalize (w.alloc (.cells #[.int .u8 1, .string t.text, .slice ka t.keys.length kc, .slice ba t.kids.length bc, .int .i64 t.line] 34)).alloc (.cells #[.int .i64 0, .int .i64 0] 29) = wz at *
  obtain ⟨q0, q1, q2, q3, q4⟩ := cells5n g0
  go_upto_region 3 with fail
  go_wp2_with fail
  refine (HNU.out _).mono ?_
  rintro e w3 ⟨rfl, hb3⟩
  have hn3 := (hb3.block _ (by omega)).trans hptz
  have hB3 := (hb3.block _ (by omega)).trans hBz
  have g3 := (hb3.block _ (by omega)).trans g0
  have f3 := (hb3.block _ (by omega)).trans f0
  have HB3 := Lib.hid (bthen HB0.out (Nat.le_refl _) hb3)
  have hs3 := hb3.size
  clear q0 q1 q2 q3 q4 g0 f0 hptz hBz hb3
  obtain ⟨n0, -⟩ := cell1n hn3
  obtain ⟨b0, b1⟩ := cell1n hB3
  go_upto_region 5 with fail
  have hne : B ≠ w.heap.size + 1 := by omega
  have hnf : w.heap.size + 1 ≠ B := by omega
  have hng : w.heap.size ≠ B := by omega
  have f4 := (Below.heap_setCell w3 ⟨B, 0, none⟩ (.int .i64 (n : Int)) (w.heap.size + 1) hnf).trans f3
  have g4 := (Below.heap_setCell w3 ⟨B, 0, none⟩ (.int .i64 (n : Int)) (w.heap.size) hng).trans g3
  have hB4 := set1n (x := .int .i64 (n : Int)) hB3
  have ht4 : TurnS (fun j => j = B) w (w3.setCell ⟨B, 0, none⟩ (.int .i64 (n : Int))) := TurnS.setCell (S := fun j => j = B) (TurnS.of_below HB3.out) (p := ⟨B, 0, none⟩) (fun _ => rfl) _
  have hs4 : (w3.setCell ⟨B, 0, none⟩ (.int .i64 (n : Int))).heap.size = w3.heap.size := by simp
  clear n0 b0 b1 hn3 hB3 g3 f3
  generalize w3.setCell ⟨B, 0, none⟩ (.int .i64 (n : Int)) = w4 at *
  obtain ⟨q0, q1, q2, q3, q4⟩ := cells5n g4
  have HF4 := Lib.hid f4
  have HB4 := Lib.hid hB4
  have HT4 := Lib.hid ht4
  clear g4 f4 hB4 ht4
  go_wp2_with fail
  refine (wrong_ok t _ _ HN.out).mono ?_
  rintro e w5 ⟨rfl, hb5⟩
  have f5 := (hb5.block _ (by omega)).trans HF4.out
  have hB5 := (hb5.block _ (by omega)).trans HB4.out
  have HT5 := Lib.hid (HT4.out.trans (TurnS.of_below hb5))
  obtain ⟨x0, x1, y0, y1⟩ := cells2 f5
  clear hb5 q0 q1 q2 q3 q4
  unfold zeroF
  go_wp2_with fail
  have hset := two_set (x := .int .i64 0) (y := .int .i64 0) f5
  have ht6 : TurnS (fun j => j = B) w ((w5.setCell ⟨w.heap.size + 1, 0, none⟩ (.int .i64 0)).setCell ⟨w.heap.size + 1, 1, none⟩ (.int .i64 0)) := (HT5.out.setCell (p := ⟨w.heap.size + 1, 0, none⟩) (fun h => absurd h (by simp)) _).setCell (p := ⟨w.heap.size + 1, 1, none⟩) (fun h => absurd h (by simp)) _
  have hB6 : ((w5.setCell ⟨w.heap.size + 1, 0, none⟩ (.int .i64 0)).setCell ⟨w.heap.size + 1, 1, none⟩ (.int .i64 0)).heap[B]? = some (.cells #[.int .i64 (n : Int)] 3 (0, 0)) := by
    rw [Below.heap_setCell _ _ _ _ hne, Below.heap_setCell _ _ _ _ hne]; exact hB5
  clear x0 x1 y0 y1
  generalize (w5.setCell ⟨w.heap.size + 1, 0, none⟩ (.int .i64 0)).setCell ⟨w.heap.size + 1, 1, none⟩ (.int .i64 0) = w9 at *
  obtain ⟨z0, z1, -, -⟩ := cells2 hset
  refine bodyPost_ret (v := .agg #[.int .i64 0, .int .i64 0]) (by simp [results, Try.results65, go_sem, z0, z1]) rfl ⟨rfl, hB6, ht6⟩

set_option maxRecDepth 100000 in
set_option maxHeartbeats 1000000 in
theorem note1_any (t : Tree) (cs : List Value) (p B : Nat) (o0 o1 o2 o3 o4 : Value) (w0 w : World) (h : NodeR w0 cs t) (hb : Below w0.heap.size w0 w) (hBl : w0.heap.size ≤ B) (hsm : SmallP 18 t) (hc : checkT t = 0) (hd : depthT 18 t ≤ 13) (hp : w.heap[p]? = some (.cells #[.pointer (some ⟨B, 0, none⟩)] 53 (0, 0))) (hB : w.heap[B]? = some (.cells #[o0, o1, o2, o3, o4] 34 (0, 0))) :
    Calls Try.prog 67 #[.agg cs.toArray, .pointer (some ⟨p, 0, none⟩)] w fun e w' => e = .returned zeroF ∧ (∃ c0 c1 c2 c3 c4, w'.heap[B]? = some (.cells #[c0, c1, c2, c3, c4] 34 (0, 0)) ∧ NodeO w' (inSpan w.heap.size w'.heap.size) [c0, c1, c2, c3, c4] t) ∧ TurnS (fun j => j = B) w w' := by
  obtain ⟨ka, kc, ba, bc, rfl⟩ := h.cells
  have HN := Lib.hid h
  have HW00 := Lib.hid hb
  have HSM := Lib.hid hsm
  have HC := Lib.hid hc
  have hd1 : decide ((13 : Int) < (depthT 18 t : Int)) = false := decide_eq_false (by omega)
  have hlt1 := (Array.getElem?_eq_some_iff.1 hp).1
  have hlt3 := (Array.getElem?_eq_some_iff.1 hB).1
  clear h hc hd hsm hb
  obtain ⟨hb0, g0, f0, hs0⟩ := enter5 w (.int .u8 (t.kind : Int)) (.string t.text) (.slice ka t.keys.length kc) (.slice ba t.kids.length bc) (.int .i64 t.line)
  have hpz := (hb0.block _ hlt1).trans hp
  have hBz := (hb0.block _ hlt3).trans hB
  have HB0 := Lib.hid hb0
  have HWZ := Lib.hid (bthen HW00.out (Nat.le_refl _) (hb0.mono (by have := HW00.out.size; omega)))
  clear hb0 hp hB
  go_enter Try.func67, Try.ntmps67
  go_upto_region 1 with fail
  generalize (w.alloc (.cells #[.int .u8 (t.kind : Int), .string t.text, .slice ka t.keys.length kc, .slice ba t.kids.length bc, .int .i64 t.line] 34)).alloc (.cells #[.int .i64 0, .int .i64 0] 29) = wz at *
  obtain ⟨q0, q1, q2, q3, q4⟩ := cells5n g0
  obtain ⟨m0, -⟩ := cell1n hpz
  have HGB : Hid (wz.drew.heap[B]? = some (.cells #[o0, o1, o2, o3, o4] 34 (0, 0))) := Lib.hid hBz
  have HZ0 : Hid (Below wz.heap.size wz wz.drew) := Lib.hid (Below.refl _ _).drew
  have HW0 : Hid (Below w0.heap.size w0 wz.drew) := Lib.hid HWZ.out.drew
  have HG0 := Lib.hid g0
  have HF0 := Lib.hid f0
  clear g0 f0 hBz hpz
  refine E_region (S := (fun W => W.cell? ⟨w.heap.size, 0, none⟩ = some (.int .u8 (t.kind : Int)) ∧ W.cell? ⟨w.heap.size, 1, none⟩ = some (.string t.text) ∧ W.cell? ⟨w.heap.size, 2, none⟩ = some (.slice ka t.keys.length kc) ∧ W.cell? ⟨w.heap.size, 3, none⟩ = some (.slice ba t.kids.length bc) ∧ W.cell? ⟨w.heap.size, 4, none⟩ = some (.int .i64 t.line) ∧ W.cell? ⟨p, 0, none⟩ = some (.pointer (some ⟨B, 0, none⟩)))) 4 (by kernel_rfl) ⟨q0, q1, q2, q3, q4, m0⟩ (fun _ _ _ _ _ h => h) (fun Q' hQ hK' hHeld => ?_)
  refine E_take hQ hHeld 0 (v := ?ov1) rfl rfl (by kernel_rfl) (by kernel_rfl) (by kernel_rfl) (by kernel_rfl) (by kernel_rfl) (by rfl) ?oy1 ?or1
  case oy1 => (intro w hSw; (try dsimp only at hSw); go_simp; (try with_reducible rfl))
  (try simp only [Act.put, List.setIfInBounds_toArray, List.set_cons_zero, List.set_cons_succ])
  refine E_take hQ hHeld 1 (v := ?ov2) rfl rfl (by kernel_rfl) (by kernel_rfl) (by kernel_rfl) (by kernel_rfl) (by kernel_rfl) (by rfl) ?oy2 ?or2
  case oy2 => (intro w hSw; (try dsimp only at hSw); go_simp; (try with_reducible rfl))
  (try simp only [Act.put, List.setIfInBounds_toArray, List.set_cons_zero, List.set_cons_succ])
  refine E_one 2 (by kernel_rfl) rfl (by rfl) (fun K hK => ?_)
  go_simp
  refine (Copy_any t _ _ (HN.out.belowW HW0.out) HSM.out).mono ?_
  rintro e V2 ⟨cs2, rfl, hn2, hb⟩
  have HY2 := Lib.hid hb
  have HZ2 := Lib.hid (bthen HZ0.out (Nat.le_refl _) hb)
  clear hb
  obtain ⟨ka2, kc2, ba2, bc2, rfl⟩ := hn2.cells
  have HN2 := Lib.hid hn2
  clear hn2
  have hgb := (HZ2.out.block _ (by omega)).trans HGB.out
  obtain ⟨f0, f1, f2, f3, f4⟩ := froz5n hgb
  obtain ⟨b0, b1, b2, b3, b4⟩ := cells5n hgb
  (skip)
  refine hK.out _ _ (fun _ _ => ⟨cellB HY2.out hHeld.1, cellB HY2.out hHeld.2.1, cellB HY2.out hHeld.2.2.1, cellB HY2.out hHeld.2.2.2.1, cellB HY2.out hHeld.2.2.2.2.1, cellB HY2.out hHeld.2.2.2.2.2⟩) (fun hHeld' => ?_)
  replace hHeld := hHeld' (by rfl) (by decide)
  clear hK hHeld'
  (try simp only [Act.put, List.setIfInBounds_toArray, List.set_cons_zero, List.set_cons_succ])
  refine E_take0 hQ (fun _ => hHeld) 3 (v := ?ov3) rfl rfl (by kernel_rfl) (by kernel_rfl) (by kernel_rfl) (by decide) (by rfl) ?oy3 ?or3
  case oy3 => (intro w; go_simp; (try with_reducible rfl))
  (try simp only [Act.put, List.setIfInBounds_toArray, List.set_cons_zero, List.set_cons_succ])
  refine E_one 4 (by kernel_rfl) rfl (by rfl) (fun K hK => ?_)
  go_simp
  (try simp only [Act.put, List.setIfInBounds_toArray, List.set_cons_zero, List.set_cons_succ])
  refine hK.out _ _ (fun _ h => absurd rfl h) (fun _ => ?_)
  clear hK hHeld
  (try simp only [Act.put, List.setIfInBounds_toArray, List.set_cons_zero, List.set_cons_succ])
  refine E_done (by kernel_rfl) ?_ _
  refine hK'.out _ _ ?_
  clear q0 q1 q2 q3 q4 m0 hK' hQ f0 f1 f2 f3 f4 b0 b1 b2 b3 b4
  have hne : B ≠ w.heap.size + 1 := by omega
  have hnf : w.heap.size + 1 ≠ B := by omega
  have hng : w.heap.size ≠ B := by omega
  have hset5 := set5n (c0 := .int .u8 (t.kind : Int)) (c1 := .string t.text) (c2 := .slice ka2 t.keys.length kc2) (c3 := .slice ba2 t.kids.length bc2) (c4 := .int .i64 t.line) hgb
  have hot := fun k (hk : k ≠ B) => set5o (W := V2) (c0 := .int .u8 (t.kind : Int)) (c1 := .string t.text) (c2 := .slice ka2 t.keys.length kc2) (c3 := .slice ba2 t.kids.length bc2) (c4 := .int .i64 t.line) hk
  have hs5 : (((((V2.setCell ⟨B, 0, none⟩ (.int .u8 (t.kind : Int))).setCell ⟨B, 1, none⟩ (.string t.text)).setCell ⟨B, 2, none⟩ (.slice ka2 t.keys.length kc2)).setCell ⟨B, 3, none⟩ (.slice ba2 t.kids.length bc2)).setCell ⟨B, 4, none⟩ (.int .i64 t.line)).heap.size = V2.heap.size := by simp
  have ht5 : TurnS (fun j => j = B) w (((((V2.setCell ⟨B, 0, none⟩ (.int .u8 (t.kind : Int))).setCell ⟨B, 1, none⟩ (.string t.text)).setCell ⟨B, 2, none⟩ (.slice ka2 t.keys.length kc2)).setCell ⟨B, 3, none⟩ (.slice ba2 t.kids.length bc2)).setCell ⟨B, 4, none⟩ (.int .i64 t.line)) := ((((TurnS.setCell (S := fun j => j = B) (TurnS.of_below (bthen HB0.out (Nat.le_refl _) HZ2.out)) (p := ⟨B, 0, none⟩) (fun _ => rfl) _).setCell (p := ⟨B, 1, none⟩) (fun _ => rfl) _).setCell (p := ⟨B, 2, none⟩) (fun _ => rfl) _).setCell (p := ⟨B, 3, none⟩) (fun _ => rfl) _).setCell (p := ⟨B, 4, none⟩) (fun _ => rfl) _
  have hsz2 := HZ2.out.size
  have hsw : wz.drew.heap.size = wz.heap.size := rfl
  generalize (((((V2.setCell ⟨B, 0, none⟩ (.int .u8 (t.kind : Int))).setCell ⟨B, 1, none⟩ (.string t.text)).setCell ⟨B, 2, none⟩ (.slice ka2 t.keys.length kc2)).setCell ⟨B, 3, none⟩ (.slice ba2 t.kids.length bc2)).setCell ⟨B, 4, none⟩ (.int .i64 t.line)) = w4 at *
  have hn4 : NodeO w4 (inSpan (w.heap.size + 2) w4.heap.size) [.int .u8 (t.kind : Int), .string t.text, .slice ka2 t.keys.length kc2, .slice ba2 t.kids.length bc2, .int .i64 t.line] t := HN2.out.keep (fun g hg _ => hot g (by have := hg.1; omega)) (fun g hg => ⟨by have := hg.1; omega, by have := hg.2; omega⟩)
  have HN4 := Lib.hid hn4
  have HG5 := Lib.hid hset5
  have HT5 := Lib.hid ht5
  have g4 := (hot _ hng).trans ((HZ2.out.block _ (by omega)).trans HG0.out)
  have f4 := (hot _ hnf).trans ((HZ2.out.block _ (by omega)).trans HF0.out)
  have HW4 := Lib.hid (ht5.below HW00.out (fun j hj => by subst hj; exact hBl) HW00.out.size)
  have HF4 := Lib.hid f4
  obtain ⟨q0, q1, q2, q3, q4⟩ := cells5n g4
  clear hn4 hset5 ht5 hot hgb f4
  go_wp2_with fail
  refine (CheckB_any t _ _ (HN.out.belowW HW4.out) ⟨18, HSM.out⟩).mono ?_
  rintro e w5 ⟨rfl, hb5⟩
  rw [HC.out]
  have hs5' := hb5.size
  have HB5 := Lib.hid hb5
  have g5 := (hb5.block _ (by omega)).trans g4
  clear q0 q1 q2 q3 q4 hb5 g4
  obtain ⟨q0, q1, q2, q3, q4⟩ := cells5n g5
  have hW5 := Lib.hid (HW4.out.trans (HB5.out.mono (by have := HW4.out.size; omega)))
  go_wp2_with fail
  refine (Depth_any t _ _ (HN.out.belowW hW5.out)).mono ?_
  rintro e w6 ⟨rfl, hb6⟩
  have HB6 := Lib.hid (bthen HB5.out (Nat.le_refl _) hb6)
  have g6 := (hb6.block _ (by omega)).trans g5
  have hs6' := hb6.size
  clear q0 q1 q2 q3 q4 hb6 g5
  obtain ⟨q0, q1, q2, q3, q4⟩ := cells5n g6
  go_wp2_with fail
  refine (wrong_ok t _ _ HN.out).mono ?_
  rintro e w7 ⟨rfl, hb7⟩
  have hb47 := bthen HB6.out (Nat.le_refl _) hb7
  have f7 := (hb47.block _ (by omega)).trans HF4.out
  have HG7 := Lib.hid ((hb47.block _ (by omega)).trans HG5.out)
  have HT7 := Lib.hid (HT5.out.trans (TurnS.of_below hb47))
  have HN7 : Hid (NodeO w7 (inSpan (w.heap.size + 2) w4.heap.size) [.int .u8 (t.kind : Int), .string t.text, .slice ka2 t.keys.length kc2, .slice ba2 t.kids.length bc2, .int .i64 t.line] t) := Lib.hid (HN4.out.keep (fun g hg _ => hb47.block g hg.2) (fun _ h => h))
  have hs7 := hb47.size
  obtain ⟨x0, x1, y0, y1⟩ := cells2 f7
  clear hb7 hb47 q0 q1 q2 q3 q4
  unfold zeroF
  go_wp2_with fail
  have hset := two_set (x := .int .i64 0) (y := .int .i64 0) f7
  have ht8 : TurnS (fun j => j = B) w ((w7.setCell ⟨w.heap.size + 1, 0, none⟩ (.int .i64 0)).setCell ⟨w.heap.size + 1, 1, none⟩ (.int .i64 0)) := (HT7.out.setCell (p := ⟨w.heap.size + 1, 0, none⟩) (fun h => absurd h (by simp)) _).setCell (p := ⟨w.heap.size + 1, 1, none⟩) (fun h => absurd h (by simp)) _
  have ho8 : ∀ k, k ≠ w.heap.size + 1 → ((w7.setCell ⟨w.heap.size + 1, 0, none⟩ (.int .i64 0)).setCell ⟨w.heap.size + 1, 1, none⟩ (.int .i64 0)).heap[k]? = w7.heap[k]? := fun k hk => by rw [Below.heap_setCell _ _ _ _ hk, Below.heap_setCell _ _ _ _ hk]
  have hs8 : ((w7.setCell ⟨w.heap.size + 1, 0, none⟩ (.int .i64 0)).setCell ⟨w.heap.size + 1, 1, none⟩ (.int .i64 0)).heap.size = w7.heap.size := by simp
  clear x0 x1 y0 y1
  generalize (w7.setCell ⟨w.heap.size + 1, 0, none⟩ (.int .i64 0)).setCell ⟨w.heap.size + 1, 1, none⟩ (.int .i64 0) = w9 at *
  obtain ⟨z0, z1, -, -⟩ := cells2 hset
  refine bodyPost_ret (v := .agg #[.int .i64 0, .int .i64 0]) (by simp [results, Try.results67, go_sem, z0, z1]) rfl ⟨rfl, ⟨_, _, _, _, _, (ho8 _ hne).trans HG7.out, ?_⟩, ht8⟩
  exact HN7.out.keep (fun g hg _ => ho8 g (by have := hg.1; omega)) (fun g hg => ⟨by have := hg.1; omega, by have := hg.2; omega⟩)
end Go.Proofs.Ytgafjjgnbcjmpaa

/-
  rescriptlaw21.one, rescriptlaw21.live: contracts.
-/
namespace Go.Proofs.Ytgafjjgnbcjmpaa
open Go Go.RowKit Go.WideShapes

def oneS (lim : Int) : StepD := ⟨{ data := #[97] }, { data := #[100, 111] }, { data := #[117, 110, 100, 111] }, [{ data := #[98] }], 2, 0, 0, lim, .mk 0 { data := #[] } [] [] 0⟩
def oneD (lim : Int) : DefD := ⟨{ data := #[115] }, { data := #[] }, [oneS lim]⟩
theorem one_small (lim : Int) : SmallD (oneD lim) := by
  refine ⟨by simp only [oneD]; decide, by simp only [oneD]; decide, by simp [oneD], fun s hs => ?_⟩
  simp only [oneD, List.mem_singleton] at hs
  subst hs
  exact ⟨by simp only [oneS]; decide, by simp only [oneS]; decide, by simp only [oneS]; decide, by simp [oneS], .mk (by decide) (by simp) (fun s hs => by cases hs) (fun x hx => by cases hx) (by simp), fun a ha => by simp only [oneS, List.mem_singleton] at ha; subst ha; decide⟩
theorem node_none (W : World) : NodeR W [.int .u8 0, .string { data := #[] }, .slice none 0 0, .slice none 0 0, .int .i64 0] (.mk 0 { data := #[] } [] [] 0) :=
  .mk [] (by decide) (by decide) (fun s hs => by cases hs) (by decide) ⟨rfl, none, 0, rfl, Nat.le_refl _, Nat.zero_le _, .inl rfl⟩ rfl ⟨rfl, none, 0, rfl, Nat.le_refl _, Nat.zero_le _, .inl rfl⟩ (fun i r x h => by simp at h)
/-- The blocks of a definition of one step. -/
structure OneAt (W : World) (g1 g2 : Nat) (lim : Int) : Prop where
  b1 : W.heap[g1]? = some (.cells #[.string { data := #[98] }] 9 (0, 0))
  b2 : W.heap[g2]? = some (.cells #[.string { data := #[97] }, .string { data := #[100, 111] }, .string { data := #[117, 110, 100, 111] }, .slice (some ⟨g1, 0, none⟩) 1 1, .int .i64 2, .int .i64 0, .int .i64 0, .int .i64 lim, .int .u8 0, .string { data := #[] }, .slice none 0 0, .slice none 0 0, .int .i64 0] 45 (0, 0))
theorem OneAt.below {W W' : World} {g1 g2 : Nat} {lim : Int} (h : OneAt W g1 g2 lim) (hb : Below W.heap.size W W') : OneAt W' g1 g2 lim :=
  ⟨(hb.block _ (Array.getElem?_eq_some_iff.1 h.b1).1).trans h.b1, (hb.block _ (Array.getElem?_eq_some_iff.1 h.b2).1).trans h.b2⟩
theorem rds_row {W : World} {g : Nat} {l : List Value} {t : TypeId} {fr : Nat × Nat} (n size : Nat) (h : W.heap[g]? = some (.cells l.toArray t fr)) (hn : l.length = n * size) (hb : n ≤ 1073741824) : RdS W (.slice (some ⟨g, 0, none⟩) n n) size n l := by
  refine ⟨hn, _, _, rfl, Nat.le_refl _, by unfold maxLen; omega, .inr ⟨g, 0, rfl, fun i c hi => ?_⟩⟩
  simp only [World.cell?, h, Nat.zero_add]
  simpa using hi
theorem OneAt.toR {W : World} {g1 g2 : Nat} {lim : Int} (h : OneAt W g1 g2 lim) (hl : I64w lim) : DefR W [.string { data := #[115] }, .string { data := #[] }, .slice (some ⟨g2, 0, none⟩) 1 1] (oneD lim) (some ⟨g2, 0, none⟩) 1 := by
  refine ⟨rfl, by simp only [oneD]; decide, by simp only [oneD]; decide, [[.string { data := #[97] }, .string { data := #[100, 111] }, .string { data := #[117, 110, 100, 111] }, .slice (some ⟨g1, 0, none⟩) 1 1, .int .i64 2, .int .i64 0, .int .i64 0, .int .i64 lim, .int .u8 0, .string { data := #[] }, .slice none 0 0, .slice none 0 0, .int .i64 0]], rfl, rds_row 1 13 h.b2 rfl (by decide), fun i r s hr hs => ?_⟩
  rcases i with _ | i
  · cases hr
    cases hs
    refine ⟨some ⟨g1, 0, none⟩, 1, none, 0, none, 0, rfl, ⟨by simp only [oneS]; decide, by simp only [oneS]; decide, by simp only [oneS]; decide, fun a ha => by simp only [oneS, List.mem_singleton] at ha; subst ha; decide, by simp only [oneS]; unfold I64w; omega, by simp only [oneS]; unfold I64w; omega, by simp only [oneS]; unfold I64w; omega, hl⟩, rds_row 1 1 h.b1 rfl (by decide), node_none W⟩
  · simp at hr
theorem OneAt.setLim {W : World} {g1 g2 : Nat} {lim : Int} (h : OneAt W g1 g2 lim) (hne : g1 ≠ g2) (n : Int) : OneAt (W.setCell ⟨g2, 7, none⟩ (.int .i64 n)) g1 g2 n :=
  ⟨(Below.heap_setCell W ⟨g2, 7, none⟩ _ g1 hne).trans h.b1, by simp [World.setCell, h.b2, Array.getElem?_modify]⟩

theorem one_check : defC (oneD 5) = (0, 0) := by decide +kernel
theorem bad_check : defC (oneD (-1)) = (1, 1) := by decide +kernel
theorem one_same : sameD (oneD 5) (oneD 5) = true := by decide +kernel
theorem bad_same : sameD (oneD 5) (oneD (-1)) = false := by decide +kernel
theorem one_idx : idxStep (oneD 5).steps { data := #[97] } 0 = 0 := by decide +kernel
theorem one_idz : idxStep (oneD 5).steps { data := #[122] } 0 = -1 := by decide +kernel
def pathL : List ByteArray := [sSteps, { data := #[48] }, sRetry, sMost]
theorem one_at : atT (defT (oneD 5)) pathL = some (numT 2) := by kernel_rfl
theorem num2 : digS 2 = { data := #[50] } := by decide +kernel
theorem cs_pair {W : World} {cs : List Value} {b : Bool} (h : NodeAt W (some (numT 2)) b cs) : b = true ∧ ∃ ka kc ba bc, cs = [.int .u8 1, .string { data := #[50] }, .slice ka 0 kc, .slice ba 0 bc, .int .i64 0] := by
  obtain ⟨h1, h2⟩ := h
  obtain ⟨ka, kc, ba, bc, he⟩ := h2.cells
  refine ⟨h1, ka, kc, ba, bc, ?_⟩
  rw [he]
  show [_, Value.string (digS 2), _, _, _] = _
  rw [num2]; rfl

theorem c_check {lim a b : Int} (hf : defC (oneD lim) = (a, b)) (hl : I64w lim) {g1 g2 : Nat} {W0 W : World} (h : OneAt W0 g1 g2 lim) (hb : Below W0.heap.size W0 W) : Calls Try.prog 6 #[.agg #[.string { data := #[115] }, .string { data := #[] }, .slice (some ⟨g2, 0, none⟩) 1 1]] W fun e w' => e = .returned (.agg #[.int .i64 a, .int .i64 b]) ∧ Below W.heap.size W w' := by
  have := dCheck_any (oneD lim) _ _ _ W ((h.below hb).toR hl) (one_small lim)
  rw [hf] at this
  exact this
theorem c_same {l1 l2 : Int} {b : Bool} (hf : sameD (oneD l1) (oneD l2) = b) (hl1 : I64w l1) (hl2 : I64w l2) {g1 g2 k1 k2 : Nat} {W : World} (h : OneAt W g1 g2 l1) (h' : OneAt W k1 k2 l2) : Calls Try.prog 10 #[.agg #[.string { data := #[115] }, .string { data := #[] }, .slice (some ⟨g2, 0, none⟩) 1 1], .agg #[.string { data := #[115] }, .string { data := #[] }, .slice (some ⟨k2, 0, none⟩) 1 1]] W fun e w' => e = .returned (.bool b) ∧ Below W.heap.size W w' := by
  have := dSame_any (oneD l1) (oneD l2) _ _ _ _ _ _ W (h.toR hl1) (h'.toR hl2)
  rw [hf] at this
  exact this
theorem c_copy {g1 g2 : Nat} {W : World} (h : OneAt W g1 g2 5) : Calls Try.prog 8 #[.agg #[.string { data := #[115] }, .string { data := #[] }, .slice (some ⟨g2, 0, none⟩) 1 1]] W fun e w' => ∃ va vc, e = .returned (.agg #[.string { data := #[115] }, .string { data := #[] }, .slice va 1 vc]) ∧ DefR w' [.string { data := #[115] }, .string { data := #[] }, .slice va 1 vc] (oneD 5) va vc ∧ Below W.heap.size W w' := by
  refine (dCopy_any (oneD 5) _ _ _ W (h.toR (by unfold I64w; omega)) (one_small 5)).mono ?_
  rintro e w' ⟨va, vc, rows, rfl, h1, h2, h3, hb⟩
  exact ⟨va, vc, rfl, ⟨rfl, by simp only [oneD]; decide, by simp only [oneD]; decide, rows, h1, RdS.of_owns h2, fun i r s hr hs => (h3 i r s hr hs).toX⟩, hb⟩
theorem c_same2 {g1 g2 : Nat} {va : Option Addr} {vc : Nat} {W : World} (h' : DefR W [.string { data := #[115] }, .string { data := #[] }, .slice va 1 vc] (oneD 5) va vc) (h : OneAt W g1 g2 5) : Calls Try.prog 10 #[.agg #[.string { data := #[115] }, .string { data := #[] }, .slice va 1 vc], .agg #[.string { data := #[115] }, .string { data := #[] }, .slice (some ⟨g2, 0, none⟩) 1 1]] W fun e w' => e = .returned (.bool true) ∧ Below W.heap.size W w' := by
  have := dSame_any (oneD 5) (oneD 5) _ _ _ _ _ _ W h' (h.toR (by unfold I64w; omega))
  rw [one_same] at this
  exact this
theorem c_index {n : ByteArray} {k : Int} (hf : idxStep (oneD 5).steps n 0 = k) {g1 g2 : Nat} {W : World} (h : OneAt W g1 g2 5) : Calls Try.prog 12 #[.agg #[.string { data := #[115] }, .string { data := #[] }, .slice (some ⟨g2, 0, none⟩) 1 1], .string n] W fun e w' => e = .returned (.int .i64 k) ∧ Below W.heap.size W w' := by
  have := dIndex_any (oneD 5) n _ _ _ W (h.toR (by unfold I64w; omega))
  rw [hf] at this
  exact this

end Go.Proofs.Ytgafjjgnbcjmpaa

/-
  parse: the readers; the reader of a Map: contract.
-/
namespace Go.Proofs.Ytgafjjgnbcjmpaa
open Go Go.RowKit Go.Maps Go.WideShapes

/-- A reader: what it is, and the boxes that it has. -/
inductive Rd where
  | text (p q : Nat)
  | names (p : Nat)
  | number (p : Nat)
  | retry (p : Nat)
  | note (p : Nat)
  | all (p q : Nat)
def rdV : Rd → Value
  | .text p q => .func (.func 54) #[] #[.pointer (some ⟨p, 0, none⟩), .pointer (some ⟨q, 0, none⟩)]
  | .names p => .func (.func 62) #[] #[.pointer (some ⟨p, 0, none⟩)]
  | .number p => .func (.func 65) #[] #[.pointer (some ⟨p, 0, none⟩)]
  | .retry p => .func (.func 64) #[] #[.pointer (some ⟨p, 0, none⟩)]
  | .note p => .func (.func 67) #[] #[.pointer (some ⟨p, 0, none⟩)]
  | .all p q => .func (.func 26) #[] #[.pointer (some ⟨p, 0, none⟩), .pointer (some ⟨q, 0, none⟩)]
def RdCalls (r : Rd) (c : Value) (w : World) (R : Ending → World → Prop) : Prop := match r with
  | .text p q => Calls Try.prog 54 #[c, .pointer (some ⟨p, 0, none⟩), .pointer (some ⟨q, 0, none⟩)] w R
  | .names p => Calls Try.prog 62 #[c, .pointer (some ⟨p, 0, none⟩)] w R
  | .number p => Calls Try.prog 65 #[c, .pointer (some ⟨p, 0, none⟩)] w R
  | .retry p => Calls Try.prog 64 #[c, .pointer (some ⟨p, 0, none⟩)] w R
  | .note p => Calls Try.prog 67 #[c, .pointer (some ⟨p, 0, none⟩)] w R
  | .all p q => Calls Try.prog 26 #[c, .pointer (some ⟨p, 0, none⟩), .pointer (some ⟨q, 0, none⟩)] w R
/-- All but two blocks stays. -/
structure Keep2 (N : Nat) (w w' : World) : Prop where
  low : Below 0 w w'
  block : ∀ j, j < w.heap.size → j ≠ N → j ≠ N + 1 → w'.heap[j]? = w.heap[j]?
theorem Keep2.of_below {N : Nat} {w w' : World} (h : Below w.heap.size w w') : Keep2 N w w' := ⟨h.mono (Nat.zero_le _), fun j hj _ _ => h.block j hj⟩
/-- What each reader does with its kid. -/
def Reads (S : Nat → Prop) (N0 N1 : Nat) (w0 : World) (t : Tree) (g : ByteArray → Option Value) (Inv : Nat → World → Prop) : Prop :=
  ∀ (i : Nat) (kid : Tree) (key : ByteArray), t.kids[i]? = some kid → t.keys[i]? = some key → ∃ rd, g key = some (rdV rd) ∧ ∀ (V : World) (cs : List Value), Inv i V → N1 ≤ V.heap.size → Below N0 w0 V → NodeR w0 cs kid → RdCalls rd (.agg cs.toArray) V fun e w' => e = .returned zeroF ∧ Inv (i + 1) w' ∧ TurnS S V w'

set_option maxRecDepth 100000 in
set_option maxHeartbeats 4000000 in
theorem keys1_any (S : Nat → Prop) (t : Tree) (cs : List Value) (p q mb n : Nat) (g : ByteArray → Option Value) (mv : Value) (ml : List ByteArray) (Inv : Nat → World → Prop) (w0 w : World)
    (h : NodeR w0 cs t) (hb : Below w0.heap.size w0 w) (hk : t.kind = 3) (hlen : t.keys.length = t.kids.length) (hsm : t.kids.length ≤ 1000)
    (hSlo : ∀ j, S j → w0.heap.size ≤ j) (hSn : ¬ S w.heap.size) (hSr : ¬ S (w.heap.size + 1))
    (hp : w.heap[p]? = some (.cells #[.map (some mb)] 69 (0, 0))) (hpS : ¬ S p) (hq : w.heap[q]? = some (.cells #[mv] 31 (0, 0))) (hqS : ¬ S q)
    (hm : MapF w mb n g) (hmS : ¬ S mb) (hml : RdS w mv 1 ml.length (strsV ml)) (hmlS : ml.length ≠ 0 → ∀ b, mv.ownBlock = some b → ¬ S b) (hmk : ∀ k ∈ ml, k ∈ t.keys) (hmlen : ml.length ≤ 1000)
    (hInvB : ∀ i W W', Inv i W → Keep2 w.heap.size W W' → Inv i W') (hread : Reads S w0.heap.size (w.heap.size + 2) w0 t g Inv) (h0 : Inv 0 w) :
    Calls Try.prog 52 #[.agg cs.toArray, .pointer (some ⟨p, 0, none⟩), .pointer (some ⟨q, 0, none⟩)] w fun e w' => e = .returned zeroF ∧ Inv t.kids.length w' ∧ TurnS S w w' := by
  obtain ⟨ka, kc, ba, bc, rfl⟩ := h.cells
  have hk1 : (t.kind : Int) = 3 := by omega
  rw [hk1] at h ⊢
  rw [hlen] at h ⊢
  have hparts : RdS w0 (.slice ka t.keys.length kc) 1 t.keys.length (strsV t.keys) ∧ NodesR w0 (.slice ba t.kids.length bc) t.kids ∧ ∀ s ∈ t.keys, s.size ≤ maxLen := by
    obtain ⟨k, tx, ks, kids, ln⟩ := t
    change ks.length = kids.length at hlen
    obtain rfl : k = 3 := hk
    obtain ⟨vk, vc, he, _, _, h3, _, h5, h6⟩ := h.parts
    injection he with e1 e2
    injection e2 with e2 e3
    injection e3 with e3 e4
    injection e4 with e4 e5
    subst e3 e4
    change RdS w0 (.slice ka ks.length kc) 1 ks.length (strsV ks) ∧ _
    rw [hlen] at h5 ⊢
    exact ⟨h5, h6, h3⟩
  have HKEYS := Lib.hid hparts.1
  have HKIDS := Lib.hid hparts.2.1
  have HKSZ := Lib.hid hparts.2.2
  have HLEN := Lib.hid hlen
  have HW0 := Lib.hid hb
  have HSLO := Lib.hid hSlo
  have HM := Lib.hid hm
  have HML := Lib.hid hml
  have HMLS := Lib.hid hmlS
  have HMK := Lib.hid hmk
  have HIB := Lib.hid hInvB
  have HRD := Lib.hid hread
  have HMS := Lib.hid hmS
  have HPS := Lib.hid hpS
  have HQS := Lib.hid hqS
  have hlp := (Array.getElem?_eq_some_iff.1 hp).1
  have hlq := (Array.getElem?_eq_some_iff.1 hq).1
  have hlm := hm.lt
  obtain ⟨ma, mc, rfl⟩ := hml.form
  obtain ⟨hm1, hm2⟩ : ml.length ≤ mc ∧ mc ≤ 9223372036854775807 := by
    obtain ⟨_, _, _, he, h1, h2, _⟩ := hml
    injection he with _ _ e3; subst e3; unfold maxLen at h2; exact ⟨h1, h2⟩
  clear h hk hk1 hparts hlen hb hSlo hm hml hmlS hmk hInvB hread hmS hpS hqS
  obtain ⟨hb0, g0, f0, hs0⟩ := enter5 w (.int .u8 3) (.string t.text) (.slice ka t.kids.length kc) (.slice ba t.kids.length bc) (.int .i64 t.line)
  have HB0 := Lib.hid hb0
  have HG0 := Lib.hid g0
  have HF0 := Lib.hid f0
  have HP := Lib.hid ((hb0.block _ hlp).trans hp)
  have HQ0 := Lib.hid ((hb0.block _ hlq).trans hq)
  have HI0 := Lib.hid (HIB.out 0 _ _ h0 (.of_below hb0))
  have HSN := Lib.hid hSn
  have HSR := Lib.hid hSr
  clear hb0 f0 hp hq h0 hSn hSr
  go_enter Try.func52, Try.ntmps52
  go_upto_region 1 with fail
  generalize (w.alloc (.cells #[.int .u8 3, .string t.text, .slice ka t.kids.length kc, .slice ba t.kids.length bc, .int .i64 t.line] 34)).alloc (.cells #[.int .i64 0, .int .i64 0] 29) = wz at *
  obtain ⟨q0, q1, q2, q3, q4⟩ := cells5n g0
  have hne : ((t.kids.length : Int) != (t.kids.length : Int)) = false := by simp
  clear g0
  go_wp2
  go_step3
  go_wp2
  go_step3
  go_wp2
  clear q0 q1 q2 q3 q4 hne
  go_loopg [31] (t.kids.length + 1) (fun gk i wr => ∃ k : Nat, k + gk = t.kids.length + 1 ∧ k ≤ t.kids.length ∧ i = .int .i64 k ∧ Hid (Inv k wr) ∧ Hid (TurnS S wz wr))
  case atStart => exact ⟨0, by omega, by omega, rfl, HI0, Lib.hid (TurnS.refl _ _)⟩
  case round =>
    obtain ⟨k, hgk, hk, rfl, HIN, HTR⟩ := hrel
    have hg : gk = t.kids.length + 1 - k := by omega
    subst hg
    have hszr := HTR.out.size
    have hgr := (HTR.out.block _ (by omega) HSN.out).trans HG0.out
    have hpr := (HTR.out.block _ (by omega) HPS.out).trans HP.out
    have hbr := HTR.out.below (HW0.out.trans (HB0.out.mono HW0.out.size)) HSLO.out (by have := HW0.out.size; omega)
    have HBR := Lib.hid hbr
    clear hbr
    by_cases hkl : k < t.kids.length
    · have d1 : decide ((k : Int) < (t.kids.length : Int)) = true := decide_eq_true (by omega)
      have hk1 : (k : Int) < (t.kids.length : Int) := by omega
      have hk0 : (0 : Int) ≤ (k : Int) := by omega
      have hkk : k < t.keys.length := by rw [HLEN.out]; exact hkl
      obtain ⟨rd, hrd, hcall⟩ := HRD.out k _ _ (List.getElem?_eq_getElem hkl) (List.getElem?_eq_getElem hkk)
      obtain ⟨G, off, cap, xa, xc, ya, yc, he, hc1, hc2, hnk, z0, z1, z2, z3, z4⟩ := HKIDS.out.at hkl
      cases he
      replace z0 := cellB HBR.out z0
      replace z1 := cellB HBR.out z1
      replace z2 := cellB HBR.out z2
      replace z3 := cellB HBR.out z3
      replace z4 := cellB HBR.out z4
      obtain ⟨kg, ko, he, hc3, hc4, u0⟩ := strs_at (HKEYS.out.below HBR.out) hkk
      subst he
      rw [HLEN.out] at hc3
      have hksz := HKSZ.out _ (List.getElem_mem hkk)
      have HCALL := Lib.hid hcall
      have HNK := Lib.hid hnk
      have HRDE := Lib.hid hrd
      clear hcall hnk hrd
      generalize t.kids[k] = kid at *
      generalize t.keys[k] = key at *
      go_upto_region 8 with fail
      have hal : Below wr.heap.size wr (wr.alloc (.cells #[.int .u8 (kid.kind : Int), .string kid.text, .slice xa kid.keys.length xc, .slice ya kid.kids.length yc, .int .i64 kid.line] 34)) := (Below.refl _ _).alloc (Nat.le_refl _) _
      have gk := World.alloc_heap_new wr (.cells #[.int .u8 (kid.kind : Int), .string kid.text, .slice xa kid.keys.length xc, .slice ya kid.kids.length yc, .int .i64 kid.line] 34)
      have hsa : (wr.alloc (.cells #[.int .u8 (kid.kind : Int), .string kid.text, .slice xa kid.keys.length xc, .slice ya kid.kids.length yc, .int .i64 kid.line] 34)).heap.size = wr.heap.size + 1 := by simp
      have HT7 : Hid (TurnS S wz (wr.alloc (.cells #[.int .u8 (kid.kind : Int), .string kid.text, .slice xa kid.keys.length xc, .slice ya kid.kids.length yc, .int .i64 kid.line] 34))) := Lib.hid (HTR.out.alloc _)
      have HI7 := Lib.hid (HIB.out k _ _ HIN.out (.of_below hal))
      have HB7 := Lib.hid (bthen HBR.out (Nat.le_refl _) hal)
      have g7 := (hal.block _ (by omega)).trans hgr
      have p7 := (hal.block _ (by omega)).trans hpr
      have u0 := cellB hal u0
      clear z0 z1 z2 z3 z4 hgr hpr hal
      generalize wr.alloc (.cells #[.int .u8 (kid.kind : Int), .string kid.text, .slice xa kid.keys.length xc, .slice ya kid.kids.length yc, .int .i64 kid.line] 34) = w7 at *
      generalize hrs : wr.heap.size = R6 at *
      have HG6 := Lib.hid gk
      have hmap : MapF w7.drew mb n g := HM.out.block ((HT7.out.block _ (by omega) HMS.out).trans (HB0.out.block _ hlm))
      have hlk := hmap.look hksz HRDE.out
      obtain ⟨q0, q1, q2, q3, q4⟩ := cells5n g7
      obtain ⟨p0, -⟩ := cell1n p7
      have HI8 := Lib.hid (HIB.out k _ _ HI7.out (.of_below (Below.refl _ _).drew))
      have HT8 := Lib.hid HT7.out.drew
      have HB8 := Lib.hid HB7.out.drew
      clear hmap g7 p7
      refine E_region (S := (fun W => W.cell? ⟨p, 0, none⟩ = some (.map (some mb)) ∧ W.cell? ⟨w.heap.size, 2, none⟩ = some (.slice (some ⟨kg, ko, none⟩) t.kids.length kc) ∧ W.cell? ⟨kg, ko + k, none⟩ = some (.string key) ∧ (Instr.lookup 69 (.map (some mb)) (.string key) true).run Try.prog W = .ok (.tuple #[rdV rd, .bool true]) W)) 11 (by kernel_rfl) ⟨p0, q2, u0, hlk⟩ (fun _ _ _ _ _ h => h) (fun Q' hQ hK' hHeld => ?_)
      refine E_take hQ hHeld 0 (v := ?av1) rfl rfl (by kernel_rfl) (by kernel_rfl) (by kernel_rfl) (by kernel_rfl) (by kernel_rfl) (by rfl) ?ay1 ?ar1
      case ay1 => (intro w hSw; (try dsimp only at hSw); go_simp; (try with_reducible rfl))
      (try simp only [Act.put, List.setIfInBounds_toArray, List.set_cons_zero, List.set_cons_succ])
      refine E_take0 hQ (fun _ => hHeld) 1 (v := ?av2) rfl rfl (by kernel_rfl) (by kernel_rfl) (by kernel_rfl) (by decide) (by rfl) ?ay2 ?ar2
      case ay2 => (intro w; go_simp; (try with_reducible rfl))
      (try simp only [Act.put, List.setIfInBounds_toArray, List.set_cons_zero, List.set_cons_succ])
      refine E_take hQ hHeld 2 (v := ?av3) rfl rfl (by kernel_rfl) (by kernel_rfl) (by kernel_rfl) (by kernel_rfl) (by kernel_rfl) (by rfl) ?ay3 ?ar3
      case ay3 => (intro w hSw; (try dsimp only at hSw); go_simp; (try with_reducible rfl))
      (try simp only [Act.put, List.setIfInBounds_toArray, List.set_cons_zero, List.set_cons_succ])
      refine E_take0 hQ (fun _ => hHeld) 3 (v := ?av4) rfl rfl (by kernel_rfl) (by kernel_rfl) (by kernel_rfl) (by decide) (by rfl) ?ay4 ?ar4
      case ay4 => (intro w; go_simp; (try with_reducible rfl))
      (try simp only [Act.put, List.setIfInBounds_toArray, List.set_cons_zero, List.set_cons_succ])
      refine E_take0 hQ (fun _ => hHeld) 4 (v := ?av5) rfl rfl (by kernel_rfl) (by kernel_rfl) (by kernel_rfl) (by decide) (by rfl) ?ay5 ?ar5
      case ay5 => (intro w; go_simp; (try with_reducible rfl))
      (try simp only [Act.put, List.setIfInBounds_toArray, List.set_cons_zero, List.set_cons_succ])
      refine E_take hQ hHeld 5 (v := ?av6) rfl rfl (by kernel_rfl) (by kernel_rfl) (by kernel_rfl) (by kernel_rfl) (by kernel_rfl) (by rfl) ?ay6 ?ar6
      case ay6 => (intro w hSw; (try dsimp only at hSw); go_simp; (try with_reducible rfl))
      (try simp only [Act.put, List.setIfInBounds_toArray, List.set_cons_zero, List.set_cons_succ])
      refine E_take hQ hHeld 6 (v := ?av7) rfl rfl (by kernel_rfl) (by kernel_rfl) (by kernel_rfl) (by kernel_rfl) (by kernel_rfl) (by rfl) ?ay7 ?ar7
      case ay7 => (intro w hSw; (try dsimp only at hSw); go_simp; (try with_reducible rfl))
      (try simp only [Act.put, List.setIfInBounds_toArray, List.set_cons_zero, List.set_cons_succ])
      refine E_take0 hQ (fun _ => hHeld) 7 (v := ?av8) rfl rfl (by kernel_rfl) (by kernel_rfl) (by kernel_rfl) (by decide) (by rfl) ?ay8 ?ar8
      case ay8 => (intro w; go_simp; (try with_reducible rfl))
      (try simp only [Act.put, List.setIfInBounds_toArray, List.set_cons_zero, List.set_cons_succ])
      refine E_take0 hQ (fun _ => hHeld) 8 (v := ?av9) rfl rfl (by kernel_rfl) (by kernel_rfl) (by kernel_rfl) (by decide) (by rfl) ?ay9 ?ar9
      case ay9 => (intro w; go_simp; (try with_reducible rfl))
      (try simp only [Act.put, List.setIfInBounds_toArray, List.set_cons_zero, List.set_cons_succ])
      refine E_take0 hQ (fun _ => hHeld) 9 (v := ?av10) rfl rfl (by kernel_rfl) (by kernel_rfl) (by kernel_rfl) (by decide) (by rfl) ?ay10 ?ar10
      case ay10 => (intro w; go_simp; (try with_reducible rfl))
      (try simp only [Act.put, List.setIfInBounds_toArray, List.set_cons_zero, List.set_cons_succ])
      refine E_take0 hQ (fun _ => hHeld) 10 (v := ?av11) rfl rfl (by kernel_rfl) (by kernel_rfl) (by kernel_rfl) (by decide) (by rfl) ?ay11 ?ar11
      case ay11 => (intro w; go_simp; (try with_reducible rfl))
      (try simp only [Act.put, List.setIfInBounds_toArray, List.set_cons_zero, List.set_cons_succ])
      refine E_one 11 (by kernel_rfl) rfl (by rfl) (fun K hK => ?_)
      go_simp
      (try simp only [Act.put, List.setIfInBounds_toArray, List.set_cons_zero, List.set_cons_succ])
      refine hK.out _ _ (fun _ h => absurd rfl h) (fun _ => ?_)
      clear hK hHeld
      (try simp only [Act.put, List.setIfInBounds_toArray, List.set_cons_zero, List.set_cons_succ])
      refine E_done (by kernel_rfl) ?_ _
      refine hK'.out _ _ ?_
      clear hlk q0 q1 q2 q3 q4 p0 u0 hK' hQ
      have g8 : w7.drew.heap[R6]? = some (.cells #[.int .u8 (kid.kind : Int), .string kid.text, .slice xa kid.keys.length xc, .slice ya kid.kids.length yc, .int .i64 kid.line] 34 (0, 0)) := HG6.out
      have hs8 : R6 < w7.drew.heap.size := by show R6 < w7.heap.size; omega
      have hs8' : wz.heap.size ≤ w7.drew.heap.size := by show wz.heap.size ≤ w7.heap.size; omega
      generalize w7.drew = w8 at *
      obtain ⟨q0, q1, q2, q3, q4⟩ := cells5n g8
      have HC8 := Lib.hid (HCALL.out w8 _ HI8.out (by omega) HB8.out HNK.out)
      clear g8 gk
      cases rd
      all_goals
        dsimp only [rdV, RdCalls] at *
        go_wp2_with fail
        refine HC8.out.mono ?_
        rintro e w9 ⟨rfl, hi9, ht9⟩
        have HI9 := Lib.hid hi9
        have HT9 := Lib.hid (HT8.out.trans ht9)
        have HIA := Lib.hid (fun o => HIB.out (k + 1) _ _ HI9.out (.of_below ((Below.refl _ _).alloc (Nat.le_refl _) o)))
        have HTA := Lib.hid (fun o => HT9.out.alloc o)
        clear hi9 ht9 q0 q1 q2 q3 q4
        unfold zeroF
        go_wp2_with fail
        go_roundg (t.kids.length + 1 - (k + 1))
        case measure => omega
        case rel => exact ⟨k + 1, by omega, by omega, by go_num, Lib.hid (HIA.out _), Lib.hid (HTA.out _)⟩
    · have d1 : decide ((k : Int) < (t.kids.length : Int)) = false := decide_eq_false (by omega)
      have hk1 : ¬ (k : Int) < (t.kids.length : Int) := by omega
      obtain rfl : k = t.kids.length := by omega
      have hqr := (HTR.out.block _ (by omega) HQS.out).trans HQ0.out
      obtain ⟨p0, -⟩ := cell1n hqr
      clear hgr hpr hqr
      go_wp2_with fail
      clear p0
      go_loopg [60] (ml.length + 1) (fun gk i wj => ∃ j : Nat, j + gk = ml.length + 1 ∧ j ≤ ml.length ∧ i = .int .i64 j ∧ Hid (Inv t.kids.length wj) ∧ Hid (TurnS S wz wj))
      case atStart => exact ⟨0, by omega, by omega, rfl, HIN, HTR⟩
      case round =>
        obtain ⟨j, hgj, hj, rfl, HIJ, HTJ⟩ := hrel
        rename World => wj
        have hg : gk = ml.length + 1 - j := by omega
        subst hg
        have hszj := HTJ.out.size
        have hgj2 := (HTJ.out.block _ (by omega) HSN.out).trans HG0.out
        have hbj := HTJ.out.below (HW0.out.trans (HB0.out.mono HW0.out.size)) HSLO.out (by have := HW0.out.size; omega)
        by_cases hjl : j < ml.length
        · have d2 : decide ((j : Int) < (ml.length : Int)) = true := decide_eq_true (by omega)
          have hj1 : (j : Int) < (ml.length : Int) := by omega
          have hj0 : (0 : Int) ≤ (j : Int) := by omega
          have hmj : RdS wj (.slice ma ml.length mc) 1 ml.length (strsV ml) := HML.out.keepN (fun hn b hb hlt => (HTJ.out.block b (by omega) (HMLS.out hn b hb)).trans (HB0.out.block b hlt))
          obtain ⟨mg, mo, he, -, -, u0⟩ := strs_at hmj hjl
          subst he
          have hct := ContainsS_any t.keys (.slice ka t.keys.length kc) ml[j] wj (HKEYS.out.below hbj)
          rw [HLEN.out] at hct
          have hhas : hasS t.keys ml[j] = true := by unfold hasS; exact List.contains_iff_mem.2 (HMK.out _ (List.getElem_mem hjl))
          rw [hhas] at hct
          have HCT := Lib.hid hct
          obtain ⟨q0, q1, q2, q3, q4⟩ := cells5n hgj2
          clear hct hhas hmj hgj2
          generalize ml[j] = mk at *
          go_wp2_with fail
          refine HCT.out.mono ?_
          rintro e w10 ⟨rfl, rfl⟩
          clear q0 q1 q2 q3 q4 u0
          go_wp2_with fail
          go_roundg (ml.length + 1 - (j + 1))
          case measure => omega
          case rel => exact ⟨j + 1, by omega, by omega, by go_num, HIJ, HTJ⟩
        · have d2 : decide ((j : Int) < (ml.length : Int)) = false := decide_eq_false (by omega)
          have hj1 : ¬ (j : Int) < (ml.length : Int) := by omega
          have f9 := (HTJ.out.block _ (by omega) HSR.out).trans HF0.out
          obtain ⟨x0, x1, y0, y1⟩ := cells2 f9
          clear hgj2
          go_wp2_with fail
          have hset := two_set (x := .int .i64 0) (y := .int .i64 0) f9
          have ht9 : TurnS S w ((wj.setCell ⟨w.heap.size + 1, 0, none⟩ (.int .i64 0)).setCell ⟨w.heap.size + 1, 1, none⟩ (.int .i64 0)) := (((TurnS.of_below HB0.out).trans HTJ.out).setCell (p := ⟨w.heap.size + 1, 0, none⟩) (fun h => absurd h (by simp)) _).setCell (p := ⟨w.heap.size + 1, 1, none⟩) (fun h => absurd h (by simp)) _
          clear x0 x1 y0 y1
          generalize hwe : (wj.setCell ⟨w.heap.size + 1, 0, none⟩ (.int .i64 0)).setCell ⟨w.heap.size + 1, 1, none⟩ (.int .i64 0) = w9 at *
          obtain ⟨z0, z1, -, -⟩ := cells2 hset
          try rw [Exit.noGoto_ret]
          refine bodyPost_ret (v := zeroF) (by unfold zeroF; simp [results, Try.results52, go_sem, z0, z1]) rfl ⟨rfl, ?_, ht9⟩
          rw [← hwe]
          exact HIB.out _ _ _ HIJ.out ⟨((Below.refl 0 wj).setCell (p := ⟨w.heap.size + 1, 0, none⟩) (Nat.zero_le _) _).setCell (p := ⟨w.heap.size + 1, 1, none⟩) (Nat.zero_le _) _, fun j _ _ hj => by rw [Below.heap_setCell _ _ _ _ hj, Below.heap_setCell _ _ _ _ hj]⟩
end Go.Proofs.Ytgafjjgnbcjmpaa

/-
  parse: the reader of a Seq: contract.
-/
namespace Go.Proofs.Ytgafjjgnbcjmpaa
open Go Go.RowKit Go.Maps Go.WideShapes

/-- What reads a Seq's kids. -/
inductive Rk where
  | add (p : Nat)
  | nm (p : Nat)
def rkV : Rk → Value
  | .add p => .func (.func 24) #[] #[.pointer (some ⟨p, 0, none⟩)]
  | .nm p => .func (.func 63) #[] #[.pointer (some ⟨p, 0, none⟩)]
def RkCalls (r : Rk) (c : Value) (w : World) (R : Ending → World → Prop) : Prop := match r with
  | .add p => Calls Try.prog 24 #[c, .pointer (some ⟨p, 0, none⟩)] w R
  | .nm p => Calls Try.prog 63 #[c, .pointer (some ⟨p, 0, none⟩)] w R
def ReadsK (S : Nat → Prop) (N0 N1 : Nat) (w0 : World) (t : Tree) (rk : Rk) (Inv : Nat → World → Prop) : Prop :=
  ∀ (i : Nat) (kid : Tree), t.kids[i]? = some kid → ∀ (V : World) (cs : List Value), Inv i V → N1 ≤ V.heap.size → Below N0 w0 V → NodeR w0 cs kid → RkCalls rk (.agg cs.toArray) V fun e w' => e = .returned zeroF ∧ Inv (i + 1) w' ∧ TurnS S V w'

set_option maxRecDepth 100000 in
set_option maxHeartbeats 4000000 in
theorem row1_any (S : Nat → Prop) (t : Tree) (cs : List Value) (p q : Nat) (most : Int) (rk : Rk) (Inv : Nat → World → Prop) (w0 w : World)
    (h : NodeR w0 cs t) (hb : Below w0.heap.size w0 w) (hk : t.kind = 2) (hmost : (t.kids.length : Int) ≤ most) (hsm : t.kids.length ≤ 2000)
    (hSlo : ∀ j, S j → w0.heap.size ≤ j) (hSn : ¬ S w.heap.size) (hSr : ¬ S (w.heap.size + 1))
    (hp : w.heap[p]? = some (.cells #[.int .i64 most] 3 (0, 0))) (hq : w.heap[q]? = some (.cells #[rkV rk] 63 (0, 0))) (hqS : ¬ S q)
    (hInvB : ∀ i W W', Inv i W → Keep2 w.heap.size W W' → Inv i W') (hread : ReadsK S w0.heap.size (w.heap.size + 2) w0 t rk Inv) (h0 : Inv 0 w) :
    Calls Try.prog 50 #[.agg cs.toArray, .pointer (some ⟨p, 0, none⟩), .pointer (some ⟨q, 0, none⟩)] w fun e w' => e = .returned zeroF ∧ Inv t.kids.length w' ∧ TurnS S w w' := by
  obtain ⟨ka, kc, ba, bc, rfl⟩ := h.cells
  have hk1 : (t.kind : Int) = 2 := by omega
  rw [hk1] at h ⊢
  have hkids : NodesR w0 (.slice ba t.kids.length bc) t.kids := by
    obtain ⟨k, tx, ks, kids, ln⟩ := t
    obtain rfl : k = 2 := hk
    obtain ⟨vk, vc, he, _, _, h3, _, h5, h6⟩ := h.parts
    injection he with e1 e2
    injection e2 with e2 e3
    injection e3 with e3 e4
    injection e4 with e4 e5
    subst e3 e4
    exact h6
  have HKIDS := Lib.hid hkids
  have HW0 := Lib.hid hb
  have HSLO := Lib.hid hSlo
  have HIB := Lib.hid hInvB
  have HRD := Lib.hid hread
  have HQS := Lib.hid hqS
  have hlp := (Array.getElem?_eq_some_iff.1 hp).1
  have hlq := (Array.getElem?_eq_some_iff.1 hq).1
  clear h hk hk1 hkids hb hSlo hInvB hread hqS
  obtain ⟨hb0, g0, f0, hs0⟩ := enter5 w (.int .u8 2) (.string t.text) (.slice ka t.keys.length kc) (.slice ba t.kids.length bc) (.int .i64 t.line)
  have HB0 := Lib.hid hb0
  have HG0 := Lib.hid g0
  have HF0 := Lib.hid f0
  have HQ0 := Lib.hid ((hb0.block _ hlq).trans hq)
  have hp0 := (hb0.block _ hlp).trans hp
  have HI0 := Lib.hid (HIB.out 0 _ _ h0 (.of_below hb0))
  have HSN := Lib.hid hSn
  have HSR := Lib.hid hSr
  clear hb0 f0 hp hq h0 hSn hSr
  have d0 : decide (most < (t.kids.length : Int)) = false := decide_eq_false (by omega)
  go_enter Try.func50, Try.ntmps50
  go_upto_region 1 with fail
  generalize (w.alloc (.cells #[.int .u8 2, .string t.text, .slice ka t.keys.length kc, .slice ba t.kids.length bc, .int .i64 t.line] 34)).alloc (.cells #[.int .i64 0, .int .i64 0] 29) = wz at *
  obtain ⟨q0, q1, q2, q3, q4⟩ := cells5n g0
  obtain ⟨m0, -⟩ := cell1n hp0
  clear g0 hp0
  go_wp2_with fail
  clear q0 q1 q2 q3 q4 m0 d0
  go_loopg [25] (t.kids.length + 1) (fun gk i wr => ∃ k : Nat, k + gk = t.kids.length + 1 ∧ k ≤ t.kids.length ∧ i = .int .i64 k ∧ Hid (Inv k wr) ∧ Hid (TurnS S wz wr))
  case atStart => exact ⟨0, by omega, by omega, rfl, HI0, Lib.hid (TurnS.refl _ _)⟩
  case round =>
    obtain ⟨k, hgk, hk, rfl, HIN, HTR⟩ := hrel
    have hg : gk = t.kids.length + 1 - k := by omega
    subst hg
    have hszr := HTR.out.size
    have hqr := (HTR.out.block _ (by omega) HQS.out).trans HQ0.out
    have hbr := HTR.out.below (HW0.out.trans (HB0.out.mono HW0.out.size)) HSLO.out (by have := HW0.out.size; omega)
    have HBR := Lib.hid hbr
    clear hbr
    by_cases hkl : k < t.kids.length
    · have d1 : decide ((k : Int) < (t.kids.length : Int)) = true := decide_eq_true (by omega)
      have hk1 : (k : Int) < (t.kids.length : Int) := by omega
      have hk0 : (0 : Int) ≤ (k : Int) := by omega
      have hcall := HRD.out k _ (List.getElem?_eq_getElem hkl)
      obtain ⟨G, off, cap, xa, xc, ya, yc, he, hc1, hc2, hnk, z0, z1, z2, z3, z4⟩ := HKIDS.out.at hkl
      cases he
      replace z0 := cellB HBR.out z0
      replace z1 := cellB HBR.out z1
      replace z2 := cellB HBR.out z2
      replace z3 := cellB HBR.out z3
      replace z4 := cellB HBR.out z4
      have HCALL := Lib.hid hcall
      have HNK := Lib.hid hnk
      clear hcall hnk
      generalize t.kids[k] = kid at *
      go_upto_region 8 with fail
      have hal : Below wr.heap.size wr (wr.alloc (.cells #[.int .u8 (kid.kind : Int), .string kid.text, .slice xa kid.keys.length xc, .slice ya kid.kids.length yc, .int .i64 kid.line] 34)) := (Below.refl _ _).alloc (Nat.le_refl _) _
      have gk := World.alloc_heap_new wr (.cells #[.int .u8 (kid.kind : Int), .string kid.text, .slice xa kid.keys.length xc, .slice ya kid.kids.length yc, .int .i64 kid.line] 34)
      have hsa : (wr.alloc (.cells #[.int .u8 (kid.kind : Int), .string kid.text, .slice xa kid.keys.length xc, .slice ya kid.kids.length yc, .int .i64 kid.line] 34)).heap.size = wr.heap.size + 1 := by simp
      have HT7 : Hid (TurnS S wz (wr.alloc (.cells #[.int .u8 (kid.kind : Int), .string kid.text, .slice xa kid.keys.length xc, .slice ya kid.kids.length yc, .int .i64 kid.line] 34))) := Lib.hid (HTR.out.alloc _)
      have HI7 := Lib.hid (HIB.out k _ _ HIN.out (.of_below hal))
      have HB7 := Lib.hid (bthen HBR.out (Nat.le_refl _) hal)
      have hq7 := (hal.block _ (by omega)).trans hqr
      clear z0 z1 z2 z3 z4 hqr hal
      generalize wr.alloc (.cells #[.int .u8 (kid.kind : Int), .string kid.text, .slice xa kid.keys.length xc, .slice ya kid.kids.length yc, .int .i64 kid.line] 34) = w7 at *
      generalize hrs : wr.heap.size = R6 at *
      obtain ⟨q0, q1, q2, q3, q4⟩ := cells5n gk
      obtain ⟨m0, -⟩ := cell1n hq7
      have HC8 := Lib.hid (HCALL.out w7 _ HI7.out (by omega) HB7.out HNK.out)
      clear gk hq7
      cases rk
      all_goals
        dsimp only [rkV, RkCalls] at *
        go_wp2_with fail
        refine HC8.out.mono ?_
        rintro e w9 ⟨rfl, hi9, ht9⟩
        have HI9 := Lib.hid hi9
        have HT9 := Lib.hid (HT7.out.trans ht9)
        have HIA := Lib.hid (fun o => HIB.out (k + 1) _ _ HI9.out (.of_below ((Below.refl _ _).alloc (Nat.le_refl _) o)))
        have HTA := Lib.hid (fun o => HT9.out.alloc o)
        clear hi9 ht9 q0 q1 q2 q3 q4 m0
        unfold zeroF
        go_wp2_with fail
        go_roundg (t.kids.length + 1 - (k + 1))
        case measure => omega
        case rel => exact ⟨k + 1, by omega, by omega, by go_num, Lib.hid (HIA.out _), Lib.hid (HTA.out _)⟩
    · have d1 : decide ((k : Int) < (t.kids.length : Int)) = false := decide_eq_false (by omega)
      have hk1 : ¬ (k : Int) < (t.kids.length : Int) := by omega
      obtain rfl : k = t.kids.length := by omega
      have f9 := (HTR.out.block _ (by omega) HSR.out).trans HF0.out
      obtain ⟨x0, x1, y0, y1⟩ := cells2 f9
      clear hqr
      go_wp2_with fail
      have hset := two_set (x := .int .i64 0) (y := .int .i64 0) f9
      have ht9 : TurnS S w ((wr.setCell ⟨w.heap.size + 1, 0, none⟩ (.int .i64 0)).setCell ⟨w.heap.size + 1, 1, none⟩ (.int .i64 0)) := (((TurnS.of_below HB0.out).trans HTR.out).setCell (p := ⟨w.heap.size + 1, 0, none⟩) (fun h => absurd h (by simp)) _).setCell (p := ⟨w.heap.size + 1, 1, none⟩) (fun h => absurd h (by simp)) _
      clear x0 x1 y0 y1
      generalize hwe : (wr.setCell ⟨w.heap.size + 1, 0, none⟩ (.int .i64 0)).setCell ⟨w.heap.size + 1, 1, none⟩ (.int .i64 0) = w9 at *
      obtain ⟨z0, z1, -, -⟩ := cells2 hset
      try rw [Exit.noGoto_ret]
      refine bodyPost_ret (v := zeroF) (by unfold zeroF; simp [results, Try.results50, go_sem, z0, z1]) rfl ⟨rfl, ?_, ht9⟩
      rw [← hwe]
      exact HIB.out _ _ _ HIN.out ⟨((Below.refl 0 wr).setCell (p := ⟨w.heap.size + 1, 0, none⟩) (Nat.zero_le _) _).setCell (p := ⟨w.heap.size + 1, 1, none⟩) (Nat.zero_le _) _, fun j _ _ hj => by rw [Below.heap_setCell _ _ _ _ hj, Below.heap_setCell _ _ _ _ hj]⟩
end Go.Proofs.Ytgafjjgnbcjmpaa

/-
  A drawn region in which much may come up at any time: an invariant of what has come up, one proof for each operation.
-/
namespace Go.Proofs.Ytgafjjgnbcjmpaa
open Go Go.RowKit Go.Maps Go.WideShapes

theorem countP_less {p q : Nat → Bool} : ∀ (l : List Nat), (∀ x ∈ l, p x = true → q x = true) → (∃ x ∈ l, q x = true ∧ p x = false) → l.countP p < l.countP q
  | [], _, h => by obtain ⟨x, hx, _⟩ := h; cases hx
  | a :: l, h1, h2 => by
    have hle : ∀ (m : List Nat), (∀ x ∈ m, p x = true → q x = true) → m.countP p ≤ m.countP q := fun m hm => List.countP_mono_left hm
    rw [List.countP_cons, List.countP_cons]
    by_cases ha : q a = true ∧ p a = false
    · rw [ha.1, ha.2]
      have := hle l (fun x hx => h1 x (List.mem_cons_of_mem _ hx))
      simp
      omega
    · obtain ⟨x, hx, hq, hp⟩ := h2
      have hx' : x ∈ l := by
        rcases List.mem_cons.1 hx with rfl | hx
        · exact absurd ⟨hq, hp⟩ ha
        · exact hx
      have := countP_less l (fun x hx => h1 x (List.mem_cons_of_mem _ hx)) ⟨x, hx', hq, hp⟩
      have h3 := h1 a (List.mem_cons_self ..)
      cases hpa : p a with
      | false => simp; omega
      | true => rw [h3 hpa]; simp; omega
/-- Each operation waits for earlier ones alone. -/
def forwardB (ops : List Oper) : Bool := (List.range ops.length).all fun i => ((ops[i]?).map fun o => o.after.all fun e => !Region.binds .any e || decide (e.on < i)).getD true
theorem ready_nil {ops : List Oper} {listed : Array Bool} (hf : forwardB ops = true) (hs : listed.size = ops.length) (h : Region.ready .any ops.toArray listed = []) : ∀ i, i < ops.length → listed.getD i false = true := by
  intro i
  induction i using Nat.strongRecOn with
  | ind i ih =>
    intro hi
    cases hl : listed.getD i false with
    | true => rfl
    | false =>
      exfalso
      have hmem : i ∈ Region.ready .any ops.toArray listed := by
        refine mem_ready.2 ⟨?_, ops[i], by simp [hi], fun e he hb => ?_⟩
        · rw [Array.getD_eq_getD_getElem?] at hl ⊢
          rw [Array.getElem?_eq_getElem (by omega)] at hl ⊢
          exact hl
        · have h1 := List.all_eq_true.1 hf i (List.mem_range.2 hi)
          rw [List.getElem?_eq_getElem hi] at h1
          simp only [Option.map_some, Option.getD_some, Array.all_eq_true_iff_forall_mem] at h1
          have h2 := h1 e he
          rw [hb] at h2
          simp at h2
          exact ih e.on h2 (by omega)
      rw [h] at hmem
      cases hmem
/-- What a ready operation tells of the others. -/
def bindsB (ops : List Oper) (i j : Nat) : Bool := match ops[i]? with
  | some o => o.after.any fun e => Region.binds .any e && e.on == j
  | none => false
theorem closed_binds {ops : List Oper} {listed : Array Bool} (h : ClosedL .any ops.toArray listed) : ∀ i j, bindsB ops i j = true → listed.getD i false = true → listed.getD j false = true := by
  intro i j hb hl
  unfold bindsB at hb
  split at hb
  · rename_i o ho
    simp only [Array.any_eq_true', Bool.and_eq_true, beq_iff_eq] at hb
    obtain ⟨e, he, hb1, hb2⟩ := hb
    rw [← hb2]
    exact h i o (by simpa using ho) hl e he hb1
  · cases hb
/-- The invariant's law: whatever order is picked. -/
theorem E_inv {P : Program} {ops : List Oper} {Q : Exit → Act → World → Prop} {id : Nat} {a : Act} {w : World} (I : Array Bool → Act → World → Prop) (hm : P.follows .mixedOrders = true) (hf : forwardB ops = true)
    (hstep : ∀ (Q : Exit → Act → World → Prop) listed a w, (∀ i j, bindsB ops i j = true → listed.getD i false = true → listed.getD j false = true) → I listed a w → ∀ i ∈ Region.ready .any ops.toArray listed, wpOp P ops.toArray Q i (I (listed.setIfInBounds i true)) a w)
    (hdone : ∀ listed a w, listed.size = ops.length → (∀ i, i < ops.length → listed.getD i false = true) → I listed a w → Q .normal a w)
    (h0 : I (Array.replicate ops.length false) a w.drew) : (Code.region id ops.toArray true).wp P Q a w := by
  refine wp_region_any hm ?_
  have key : ∀ (fuel : Nat) (listed : Array Bool) (a : Act) (w : World), listed.size = ops.length → ClosedL .any ops.toArray listed → (List.range ops.length).countP (fun i => !listed.getD i false) ≤ fuel → I listed a w → wpAny P .any ops.toArray Q fuel listed a w := by
    intro fuel
    induction fuel with
    | zero =>
      intro listed a w hs hcl hc hI
      have hall : ∀ i, i < ops.length → listed.getD i false = true := fun i hi => by
        have := List.countP_eq_zero.1 (Nat.le_zero.1 hc) i (List.mem_range.2 hi)
        simpa using this
      refine ⟨?_, hdone listed a w hs hall hI⟩
      rw [List.eq_nil_iff_forall_not_mem]
      intro i hi
      obtain ⟨h1, o, ho, _⟩ := mem_ready.1 hi
      have hil : i < ops.length := by
        have := (Array.getElem?_eq_some_iff.1 ho).1
        simpa using this
      have h2 := hall i hil
      rw [Array.getD_eq_getD_getElem?, Array.getElem?_eq_getElem (by omega)] at h1 h2
      simp only [Option.getD_some] at h1 h2
      rw [h1] at h2
      cases h2
    | succ fuel ih =>
      intro listed a w hs hcl hc hI
      refine ⟨fun hr => hdone listed a w hs (ready_nil hf hs hr) hI, fun i hi => ?_⟩
      refine wpOp_mono (fun a' w' h' => ih _ a' w' (by rw [Array.size_setIfInBounds]; exact hs) (hcl.set hi) ?_ h') (hstep Q listed a w (closed_binds hcl) hI i hi)
      obtain ⟨h1, o, ho, _⟩ := mem_ready.1 hi
      have hil : i < ops.length := by
        have := (Array.getElem?_eq_some_iff.1 ho).1
        simpa using this
      have hlt : (List.range ops.length).countP (fun j => !(listed.setIfInBounds i true).getD j false) < (List.range ops.length).countP (fun j => !listed.getD j false) := by
        refine countP_less _ (fun x hx hp => ?_) ⟨i, List.mem_range.2 hil, ?_, ?_⟩
        · by_cases e : x = i
          · subst e
            simp only [Array.getD_eq_getD_getElem?, Array.getElem?_setIfInBounds] at hp
            simp [show x < listed.size by omega] at hp
          · simp only [Array.getD_eq_getD_getElem?, Array.getElem?_setIfInBounds] at hp ⊢
            rw [if_neg (fun h => e h.symm)] at hp
            exact hp
        · rw [Array.getD_eq_getD_getElem?, Array.getElem?_eq_getElem (by omega)] at h1 ⊢
          simp only [Option.getD_some] at h1 ⊢
          rw [h1]
          rfl
        · simp only [Array.getD_eq_getD_getElem?, Array.getElem?_setIfInBounds]
          simp [show i < listed.size by omega]
      omega
  refine key _ _ _ _ (by simp) (fun j oj _ hl => ?_) ?_ h0
  · rw [Array.getD_eq_getD_getElem?, Array.getElem?_replicate] at hl
    split at hl <;> cases hl
  refine Nat.le_trans (List.countP_le_length) (by simp)
theorem ready_dep {ops : List Oper} {listed : Array Bool} {i : Nat} (h : i ∈ Region.ready .any ops.toArray listed) (j : Nat) (hb : bindsB ops i j = true) : listed.getD j false = true := by
  obtain ⟨_, o, ho, hall⟩ := mem_ready.1 h
  have ho' : ops[i]? = some o := by simpa using ho
  unfold bindsB at hb
  rw [ho'] at hb
  simp only [Array.any_eq_true', Bool.and_eq_true, beq_iff_eq] at hb
  obtain ⟨e, he, hb1, hb2⟩ := hb
  have := hall e he hb1
  rwa [hb2] at this
theorem ready_un {ops : List Oper} {listed : Array Bool} {i : Nat} (h : i ∈ Region.ready .any ops.toArray listed) : listed.getD i true = false := (mem_ready.1 h).1
theorem ready_lt {ops : List Oper} {listed : Array Bool} {i : Nat} (h : i ∈ Region.ready .any ops.toArray listed) : i < ops.length := by
  obtain ⟨_, o, ho, _⟩ := mem_ready.1 h
  have := (Array.getElem?_eq_some_iff.1 ho).1
  simpa using this
theorem wpOp_lit {P : Program} {ops : List Oper} {Q : Exit → Act → World → Prop} {R : Act → World → Prop} {a : Act} {w : World} {i : Nat} {oi : Oper} (hi : ops[i]? = some oi) (hw : Region.wanted oi (yielded ops.toArray a.tmps) = true)
    (h : ∀ K : Act → World → Prop, Shut (∀ a' w', R a' w' → K a' w') → oi.wp P a w K Q) : wpOp P ops.toArray Q i R a w := by
  have hi' : ops.toArray[i]? = some oi := by simpa using hi
  unfold wpOp
  simp only [hi', hw, if_true]
  exact .inl (h _ (fun _ _ h => h))
/-- All cells stay as they are. -/
def KeepC (w w' : World) : Prop := ∀ (j : Nat) (c : Array Value) (t : TypeId) (fr : Nat × Nat), w.heap[j]? = some (.cells c t fr) → w'.heap[j]? = some (.cells c t fr)
theorem KeepC.of_below {w w' : World} (h : Below w.heap.size w w') : KeepC w w' := fun j _ _ _ hj => (h.block j (Array.getElem?_eq_some_iff.1 hj).1).trans hj
theorem KeepC.of_other {w w' : World} {b : Nat} {es : Array MapEntry} {clock : Nat} (hb : w.heap[b]? = some (.map es clock)) (h : ∀ j, j ≠ b → w'.heap[j]? = w.heap[j]?) : KeepC w w' := fun j c t fr hj => (h j (fun e => by subst e; rw [hb] at hj; cases hj)).trans hj
theorem MapF.keepC {w w' : World} {b n : Nat} {g : ByteArray → Option Value} (h : MapF w b n g) (ho : ∀ j, j ≠ b → w'.heap[j]? = w.heap[j]?) : KeepC w w' := by
  obtain ⟨D, ⟨es, clock, hb, _⟩, _⟩ := h
  exact KeepC.of_other hb ho
end Go.Proofs.Ytgafjjgnbcjmpaa

/-
  parse: the makers of readers: contracts.
-/
namespace Go.Proofs.Ytgafjjgnbcjmpaa
open Go Go.RowKit Go.Maps Go.WideShapes

def keysV (p q : Nat) : Value := .func (.func 52) #[] #[.pointer (some ⟨p, 0, none⟩), .pointer (some ⟨q, 0, none⟩)]
def rowV (p q : Nat) : Value := .func (.func 50) #[] #[.pointer (some ⟨p, 0, none⟩), .pointer (some ⟨q, 0, none⟩)]
set_option maxRecDepth 100000 in
theorem mkText_any (B : Nat) (most : Int) (w : World) : Calls Try.prog 29 #[.pointer (some ⟨B, 0, none⟩), .int .i64 most] w fun e w' => ∃ p q : Nat, e = .returned (rdV (.text p q)) ∧ w.heap.size ≤ p ∧ w.heap.size ≤ q ∧ w'.heap[p]? = some (.cells #[.pointer (some ⟨B, 0, none⟩)] 68 (0, 0)) ∧ w'.heap[q]? = some (.cells #[.int .i64 most] 3 (0, 0)) ∧ Below w.heap.size w w' := by
  have e0 := World.alloc_heap_new w (.cells #[.pointer (some ⟨B, 0, none⟩)] 68)
  have e2 := World.alloc_heap_new (w.alloc (.cells #[.pointer (some ⟨B, 0, none⟩)] 68)) (.cells #[.int .i64 most] 3)
  have e1 : ((w.alloc (.cells #[.pointer (some ⟨B, 0, none⟩)] 68)).alloc (.cells #[.int .i64 most] 3)).heap[w.heap.size]? = some (.cells #[.pointer (some ⟨B, 0, none⟩)] 68 (0, 0)) := (Below.heap_alloc _ _ _ (by simp)).trans e0
  rw [World.size_alloc] at e2
  have hb : Below w.heap.size w ((w.alloc (.cells #[.pointer (some ⟨B, 0, none⟩)] 68)).alloc (.cells #[.int .i64 most] 3)) := ((Below.refl _ w).alloc (Nat.le_refl _) _).alloc (by simp) _
  clear e0
  go_enter Try.func29, Try.ntmps29
  go_wp2_with fail
  go_ret
  exact ⟨w.heap.size, w.heap.size + 1, rfl, Nat.le_refl _, Nat.le_succ _, e1, e2, hb⟩
set_option maxRecDepth 100000 in
theorem mkNumber_any (B : Nat) (w : World) : Calls Try.prog 48 #[.pointer (some ⟨B, 0, none⟩)] w fun e w' => ∃ p : Nat, e = .returned (rdV (.number p)) ∧ w.heap.size ≤ p ∧ w'.heap[p]? = some (.cells #[.pointer (some ⟨B, 0, none⟩)] 77 (0, 0)) ∧ Below w.heap.size w w' := by
  have e1 := World.alloc_heap_new w (.cells #[.pointer (some ⟨B, 0, none⟩)] 77)
  have hb : Below w.heap.size w (w.alloc (.cells #[.pointer (some ⟨B, 0, none⟩)] 77)) := (Below.refl _ w).alloc (Nat.le_refl _) _
  go_enter Try.func48, Try.ntmps48
  go_wp2_with fail
  go_ret
  exact ⟨w.heap.size, rfl, Nat.le_refl _, e1, hb⟩
set_option maxRecDepth 100000 in
theorem mkNames_any (B : Nat) (w : World) : Calls Try.prog 46 #[.pointer (some ⟨B, 0, none⟩)] w fun e w' => ∃ p : Nat, e = .returned (rdV (.names p)) ∧ w.heap.size ≤ p ∧ w'.heap[p]? = some (.cells #[.pointer (some ⟨B, 0, none⟩)] 86 (0, 0)) ∧ Below w.heap.size w w' := by
  have e1 := World.alloc_heap_new w (.cells #[.pointer (some ⟨B, 0, none⟩)] 86)
  have hb : Below w.heap.size w (w.alloc (.cells #[.pointer (some ⟨B, 0, none⟩)] 86)) := (Below.refl _ w).alloc (Nat.le_refl _) _
  go_enter Try.func46, Try.ntmps46
  go_wp2_with fail
  go_ret
  exact ⟨w.heap.size, rfl, Nat.le_refl _, e1, hb⟩
set_option maxRecDepth 100000 in
theorem mkRetry_any (B : Nat) (w : World) : Calls Try.prog 47 #[.pointer (some ⟨B, 0, none⟩)] w fun e w' => ∃ p : Nat, e = .returned (rdV (.retry p)) ∧ w.heap.size ≤ p ∧ w'.heap[p]? = some (.cells #[.pointer (some ⟨B, 0, none⟩)] 88 (0, 0)) ∧ Below w.heap.size w w' := by
  have e1 := World.alloc_heap_new w (.cells #[.pointer (some ⟨B, 0, none⟩)] 88)
  have hb : Below w.heap.size w (w.alloc (.cells #[.pointer (some ⟨B, 0, none⟩)] 88)) := (Below.refl _ w).alloc (Nat.le_refl _) _
  go_enter Try.func47, Try.ntmps47
  go_wp2_with fail
  go_ret
  exact ⟨w.heap.size, rfl, Nat.le_refl _, e1, hb⟩
set_option maxRecDepth 100000 in
theorem mkNote_any (B : Nat) (w : World) : Calls Try.prog 49 #[.pointer (some ⟨B, 0, none⟩)] w fun e w' => ∃ p : Nat, e = .returned (rdV (.note p)) ∧ w.heap.size ≤ p ∧ w'.heap[p]? = some (.cells #[.pointer (some ⟨B, 0, none⟩)] 53 (0, 0)) ∧ Below w.heap.size w w' := by
  have e1 := World.alloc_heap_new w (.cells #[.pointer (some ⟨B, 0, none⟩)] 53)
  have hb : Below w.heap.size w (w.alloc (.cells #[.pointer (some ⟨B, 0, none⟩)] 53)) := (Below.refl _ w).alloc (Nat.le_refl _) _
  go_enter Try.func49, Try.ntmps49
  go_wp2_with fail
  go_ret
  exact ⟨w.heap.size, rfl, Nat.le_refl _, e1, hb⟩
set_option maxRecDepth 100000 in
theorem mkKeys_any (M : Nat) (a : Option Addr) (n c : Nat) (w : World) : Calls Try.prog 28 #[.map (some M), .slice a n c] w fun e w' => ∃ p q : Nat, e = .returned (keysV p q) ∧ w.heap.size ≤ p ∧ w.heap.size ≤ q ∧ w'.heap[p]? = some (.cells #[.map (some M)] 69 (0, 0)) ∧ w'.heap[q]? = some (.cells #[.slice a n c] 31 (0, 0)) ∧ Below w.heap.size w w' := by
  have e0 := World.alloc_heap_new w (.cells #[.map (some M)] 69)
  have e2 := World.alloc_heap_new (w.alloc (.cells #[.map (some M)] 69)) (.cells #[.slice a n c] 31)
  have e1 : ((w.alloc (.cells #[.map (some M)] 69)).alloc (.cells #[.slice a n c] 31)).heap[w.heap.size]? = some (.cells #[.map (some M)] 69 (0, 0)) := (Below.heap_alloc _ _ _ (by simp)).trans e0
  rw [World.size_alloc] at e2
  have hb : Below w.heap.size w ((w.alloc (.cells #[.map (some M)] 69)).alloc (.cells #[.slice a n c] 31)) := ((Below.refl _ w).alloc (Nat.le_refl _) _).alloc (by simp) _
  clear e0
  go_enter Try.func28, Try.ntmps28
  go_wp2_with fail
  go_ret
  exact ⟨w.heap.size, w.heap.size + 1, rfl, Nat.le_refl _, Nat.le_succ _, e1, e2, hb⟩
set_option maxRecDepth 100000 in
theorem mkRow_any (most : Int) (rk : Rk) (w : World) : Calls Try.prog 27 #[.int .i64 most, rkV rk] w fun e w' => ∃ p q : Nat, e = .returned (rowV p q) ∧ w.heap.size ≤ p ∧ w.heap.size ≤ q ∧ w'.heap[p]? = some (.cells #[.int .i64 most] 3 (0, 0)) ∧ w'.heap[q]? = some (.cells #[rkV rk] 63 (0, 0)) ∧ Below w.heap.size w w' := by
  obtain ⟨rf, rc, hf⟩ : ∃ f c, rkV rk = .func (.func f) #[] c := by cases rk <;> exact ⟨_, _, rfl⟩
  rw [hf]
  clear hf
  have e0 := World.alloc_heap_new w (.cells #[.int .i64 most] 3)
  have e2 := World.alloc_heap_new (w.alloc (.cells #[.int .i64 most] 3)) (.cells #[.func (.func rf) #[] rc] 63)
  have e1 : ((w.alloc (.cells #[.int .i64 most] 3)).alloc (.cells #[.func (.func rf) #[] rc] 63)).heap[w.heap.size]? = some (.cells #[.int .i64 most] 3 (0, 0)) := (Below.heap_alloc _ _ _ (by simp)).trans e0
  rw [World.size_alloc] at e2
  have hb : Below w.heap.size w ((w.alloc (.cells #[.int .i64 most] 3)).alloc (.cells #[.func (.func rf) #[] rc] 63)) := ((Below.refl _ w).alloc (Nat.le_refl _) _).alloc (by simp) _
  clear e0
  go_enter Try.func27, Try.ntmps27
  go_wp2_with fail
  go_ret
  exact ⟨w.heap.size, w.heap.size + 1, rfl, Nat.le_refl _, Nat.le_succ _, e1, e2, hb⟩
end Go.Proofs.Ytgafjjgnbcjmpaa
