/-
  rescripttop.count.
-/
import Derived.Deep.CutBlock
import Derived.Test.YtdhgcgejdoedbaaGreatDoorBt7
import Derived.Test.YtdhgcgejdoedbaaGreatDoorBt18
import Derived.Test.YtdhgcgejdoedbaaGreatDoorBt33
namespace Go.Proofs.YtdhgcgejdoedbaaGreatDoor
open Go.RowKit Go.WideShapes

def cntO (k a b i : Nat) : Nat := if k = 1 then (if i = 0 then 1 else 0) else if b = 0 then (if k = 2 then (if i = 1 then 1 else 0) else if i = 2 then 1 else 0) else if k = 3 then (if i = 3 then a else 0) else if i = 4 then b else 0
mutual
def cntT (i : Nat) : Tree → Nat
  | .mk k _ ks kids _ => cntO k ks.length kids.length i + cntTs i kids
def cntTs (i : Nat) : List Tree → Nat
  | [] => 0
  | x :: l => cntT i x + cntTs i l
end
theorem cntTs_app (i : Nat) : ∀ (a b : List Tree), cntTs i (a ++ b) = cntTs i a + cntTs i b
  | [], b => by simp [cntTs]
  | x :: a, b => by rw [List.cons_append, cntTs, cntTs_app i a b, cntTs]; omega
theorem cntTs_take (i : Nat) (l : List Tree) (j : Nat) (h : j < l.length) : cntTs i (l.take (j + 1)) = cntTs i (l.take j) + cntT i l[j] := by
  rw [List.take_succ_eq_append_getElem h, cntTs_app, cntTs, cntTs]; omega
theorem cntTs_le (i : Nat) (l : List Tree) (j : Nat) : cntTs i (l.take j) ≤ cntTs i l := by
  conv => rhs; rw [← List.take_append_drop j l, cntTs_app]
  omega
theorem fset0 {W : World} {P : Nat} {c0 c1 c2 c3 c4 v : Value} {t : TypeId} (h : W.heap[P]? = some (.cells #[c0, c1, c2, c3, c4] t (0, 0))) : (W.setCell ⟨P, 0, none⟩ v).heap[P]? = some (.cells #[v, c1, c2, c3, c4] t (0, 0)) := by simp [World.setCell, h, Array.getElem?_modify]
theorem fset1 {W : World} {P : Nat} {c0 c1 c2 c3 c4 v : Value} {t : TypeId} (h : W.heap[P]? = some (.cells #[c0, c1, c2, c3, c4] t (0, 0))) : (W.setCell ⟨P, 1, none⟩ v).heap[P]? = some (.cells #[c0, v, c2, c3, c4] t (0, 0)) := by simp [World.setCell, h, Array.getElem?_modify]
theorem fset2 {W : World} {P : Nat} {c0 c1 c2 c3 c4 v : Value} {t : TypeId} (h : W.heap[P]? = some (.cells #[c0, c1, c2, c3, c4] t (0, 0))) : (W.setCell ⟨P, 2, none⟩ v).heap[P]? = some (.cells #[c0, c1, v, c3, c4] t (0, 0)) := by simp [World.setCell, h, Array.getElem?_modify]
theorem fset3 {W : World} {P : Nat} {c0 c1 c2 c3 c4 v : Value} {t : TypeId} (h : W.heap[P]? = some (.cells #[c0, c1, c2, c3, c4] t (0, 0))) : (W.setCell ⟨P, 3, none⟩ v).heap[P]? = some (.cells #[c0, c1, c2, v, c4] t (0, 0)) := by simp [World.setCell, h, Array.getElem?_modify]
theorem fset4 {W : World} {P : Nat} {c0 c1 c2 c3 c4 v : Value} {t : TypeId} (h : W.heap[P]? = some (.cells #[c0, c1, c2, c3, c4] t (0, 0))) : (W.setCell ⟨P, 4, none⟩ v).heap[P]? = some (.cells #[c0, c1, c2, c3, v] t (0, 0)) := by simp [World.setCell, h, Array.getElem?_modify]
theorem cnt_room {i q a o n j : Nat} {l : List Tree} (hq : q = a + o) (h : a + (o + cntTs i l) ≤ 1000000000) (hj : j < l.length) (hn : n = q + cntTs i (l.take j)) : n + cntT i l[j] ≤ 1000000000 := by
  have := cntTs_le i l (j + 1)
  rw [cntTs_take i l j hj] at this
  omega
set_option maxRecDepth 100000 in
set_option maxHeartbeats 4000000 in
theorem count_any : ∀ (x : Tree) (cs : List Value) (a0 a1 a2 a3 a4 : Nat) (w : World), NodeR w cs x → (a0 + cntT 0 x ≤ 1000000000 ∧ a1 + cntT 1 x ≤ 1000000000 ∧ a2 + cntT 2 x ≤ 1000000000 ∧ a3 + cntT 3 x ≤ 1000000000 ∧ a4 + cntT 4 x ≤ 1000000000) →
    Calls Tryz.prog 9 #[.agg cs.toArray, .agg #[.int .i64 (a0 : Nat), .int .i64 (a1 : Nat), .int .i64 (a2 : Nat), .int .i64 (a3 : Nat), .int .i64 (a4 : Nat)]] w fun e w' => e = .returned (.agg #[.int .i64 ((a0 + cntT 0 x : Nat) : Int), .int .i64 ((a1 + cntT 1 x : Nat) : Int), .int .i64 ((a2 + cntT 2 x : Nat) : Int), .int .i64 ((a3 + cntT 3 x : Nat) : Int), .int .i64 ((a4 + cntT 4 x : Nat) : Int)]) ∧ Below w.heap.size w w' := by
  refine Tree.ind fun k t ks kids ln ih cs a0 a1 a2 a3 a4 w h hle => ?_
  obtain ⟨vk, vc, rfl, hk8, ht63, hks63, hln, hk1, hc1⟩ := h.parts
  obtain ⟨ba, bc, rfl, hv1, hv2⟩ := hc1.form
  obtain ⟨ka, kc, rfl⟩ := hk1.form
  have hcn : ∀ i, cntT i (.mk k t ks kids ln) = cntO k ks.length kids.length i + cntTs i kids := fun i => by rw [cntT]
  obtain ⟨l0, l1, l2, l3, l4⟩ := hle
  simp only [hcn] at l0 l1 l2 l3 l4 ⊢
  clear hcn
  have hb : Below w.heap.size w (((w.alloc (.cells #[.int .u8 (k : Int), .string t, .slice ka ks.length kc, .slice ba kids.length bc, .int .i64 ln] 25)).alloc (.cells #[.int .i64 (a0 : Nat), .int .i64 (a1 : Nat), .int .i64 (a2 : Nat), .int .i64 (a3 : Nat), .int .i64 (a4 : Nat)] 36)).alloc (.cells #[.int .i64 0, .int .i64 0, .int .i64 0, .int .i64 0, .int .i64 0] 36)) := (((Below.refl _ w).alloc (Nat.le_refl _) _).alloc (by simp only [World.size_alloc]; omega) _).alloc (by simp only [World.size_alloc]; omega) _
  have gX : (((w.alloc (.cells #[.int .u8 (k : Int), .string t, .slice ka ks.length kc, .slice ba kids.length bc, .int .i64 ln] 25)).alloc (.cells #[.int .i64 (a0 : Nat), .int .i64 (a1 : Nat), .int .i64 (a2 : Nat), .int .i64 (a3 : Nat), .int .i64 (a4 : Nat)] 36)).alloc (.cells #[.int .i64 0, .int .i64 0, .int .i64 0, .int .i64 0, .int .i64 0] 36)).heap[w.heap.size]? = some (.cells #[.int .u8 (k : Int), .string t, .slice ka ks.length kc, .slice ba kids.length bc, .int .i64 ln] 25 (0, 0)) := (Below.heap_alloc _ _ _ (by simp only [World.size_alloc]; omega)).trans ((Below.heap_alloc _ _ _ (by simp only [World.size_alloc]; omega)).trans (World.alloc_heap_new w _))
  have gP : (((w.alloc (.cells #[.int .u8 (k : Int), .string t, .slice ka ks.length kc, .slice ba kids.length bc, .int .i64 ln] 25)).alloc (.cells #[.int .i64 (a0 : Nat), .int .i64 (a1 : Nat), .int .i64 (a2 : Nat), .int .i64 (a3 : Nat), .int .i64 (a4 : Nat)] 36)).alloc (.cells #[.int .i64 0, .int .i64 0, .int .i64 0, .int .i64 0, .int .i64 0] 36)).heap[w.heap.size + 1]? = some (.cells #[.int .i64 (a0 : Nat), .int .i64 (a1 : Nat), .int .i64 (a2 : Nat), .int .i64 (a3 : Nat), .int .i64 (a4 : Nat)] 36 (0, 0)) := by
    refine (Below.heap_alloc _ _ _ (by simp only [World.size_alloc]; omega)).trans ?_
    have := World.alloc_heap_new (w.alloc (.cells #[.int .u8 (k : Int), .string t, .slice ka ks.length kc, .slice ba kids.length bc, .int .i64 ln] 25)) (.cells #[.int .i64 (a0 : Nat), .int .i64 (a1 : Nat), .int .i64 (a2 : Nat), .int .i64 (a3 : Nat), .int .i64 (a4 : Nat)] 36)
    rwa [World.size_alloc] at this
  have gR : (((w.alloc (.cells #[.int .u8 (k : Int), .string t, .slice ka ks.length kc, .slice ba kids.length bc, .int .i64 ln] 25)).alloc (.cells #[.int .i64 (a0 : Nat), .int .i64 (a1 : Nat), .int .i64 (a2 : Nat), .int .i64 (a3 : Nat), .int .i64 (a4 : Nat)] 36)).alloc (.cells #[.int .i64 0, .int .i64 0, .int .i64 0, .int .i64 0, .int .i64 0] 36)).heap[w.heap.size + 1 + 1]? = some (.cells #[.int .i64 0, .int .i64 0, .int .i64 0, .int .i64 0, .int .i64 0] 36 (0, 0)) := by
    have := World.alloc_heap_new ((w.alloc (.cells #[.int .u8 (k : Int), .string t, .slice ka ks.length kc, .slice ba kids.length bc, .int .i64 ln] 25)).alloc (.cells #[.int .i64 (a0 : Nat), .int .i64 (a1 : Nat), .int .i64 (a2 : Nat), .int .i64 (a3 : Nat), .int .i64 (a4 : Nat)] 36)) (.cells #[.int .i64 0, .int .i64 0, .int .i64 0, .int .i64 0, .int .i64 0] 36)
    rwa [World.size_alloc, World.size_alloc] at this
  have IH := Lib.hid (fun j (hj : j < kids.length) => ih kids[j] (List.getElem_mem hj))
  have HC := Lib.hid hc1
  clear h ih hk1 hc1 hks63
  have HB := Lib.hid hb
  obtain ⟨x0, x1, x2, x3, x4⟩ := cells5 gX
  obtain ⟨o0, o1, o2, o3, o4⟩ := cells5 gP
  obtain ⟨f0, f1, f2, f3, f4⟩ := cells5w gP
  have GX := Lib.hid gX
  have GP := Lib.hid gP
  have GR := Lib.hid gR
  clear hb gX gP gR
  go_enter Tryz.func9, Tryz.ntmps9
  go_upto_block 0 with fail
  generalize (((w.alloc (.cells #[.int .u8 (k : Int), .string t, .slice ka ks.length kc, .slice ba kids.length bc, .int .i64 ln] 25)).alloc (.cells #[.int .i64 (a0 : Nat), .int .i64 (a1 : Nat), .int .i64 (a2 : Nat), .int .i64 (a3 : Nat), .int .i64 (a4 : Nat)] 36)).alloc (.cells #[.int .i64 0, .int .i64 0, .int .i64 0, .int .i64 0, .int .i64 0] 36)) = w3 at *
  go_cut [] (fun wx => ∃ n0 n1 n2 n3 n4 : Nat, (n0 = a0 + cntO k ks.length kids.length 0 ∧ n1 = a1 + cntO k ks.length kids.length 1 ∧ n2 = a2 + cntO k ks.length kids.length 2 ∧ n3 = a3 + cntO k ks.length kids.length 3 ∧ n4 = a4 + cntO k ks.length kids.length 4) ∧ Hid (wx.heap[w.heap.size]? = some (.cells #[.int .u8 (k : Int), .string t, .slice ka ks.length kc, .slice ba kids.length bc, .int .i64 ln] 25 (0, 0))) ∧ Hid (wx.heap[w.heap.size + 1]? = some (.cells #[.int .i64 (n0 : Nat), .int .i64 (n1 : Nat), .int .i64 (n2 : Nat), .int .i64 (n3 : Nat), .int .i64 (n4 : Nat)] 36 (0, 0))) ∧ Hid (wx.heap[w.heap.size + 1 + 1]? = some (.cells #[.int .i64 0, .int .i64 0, .int .i64 0, .int .i64 0, .int .i64 0] 36 (0, 0))) ∧ Hid (Below w.heap.size w wx))
  case first =>
    by_cases e1 : k = 1
    · have d1 : ((k : Int) == 1) = true := beq_iff_eq.2 (by omega)
      have EQ : Hid (∀ i, cntO k ks.length kids.length i = if i = 0 then 1 else 0) := Lib.hid (fun i => by unfold cntO; rw [if_pos e1])
      clear e1
      go_wp2_with fail
      go_meet
      refine ⟨a0 + 1, a1, a2, a3, a4, ⟨?_, ?_, ?_, ?_, ?_⟩, Lib.hid ((Below.heap_setCell _ _ _ _ (by show w.heap.size ≠ w.heap.size + 1; omega)).trans GX.out), Lib.hid (fset0 GP.out), Lib.hid ((Below.heap_setCell _ _ _ _ (by show w.heap.size + 1 + 1 ≠ w.heap.size + 1; omega)).trans GR.out), Lib.hid (HB.out.setCell (by show w.heap.size ≤ w.heap.size + 1; omega) _)⟩ <;> rw [EQ.out] <;> simp
    · have d1 : ((k : Int) == 1) = false := beq_eq_false_iff_ne.2 (by omega)
      by_cases e2 : kids.length = 0
      · have d2 : ((kids.length : Int) == 0) = true := beq_iff_eq.2 (by omega)
        by_cases e3 : k = 2
        · have d3 : ((k : Int) == 2) = true := beq_iff_eq.2 (by omega)
          have EQ : Hid (∀ i, cntO k ks.length kids.length i = if i = 1 then 1 else 0) := Lib.hid (fun i => by unfold cntO; rw [if_neg e1, if_pos e2, if_pos e3])
          clear e1 e2 e3
          go_wp2_with fail
          go_meet
          refine ⟨a0, a1 + 1, a2, a3, a4, ⟨?_, ?_, ?_, ?_, ?_⟩, Lib.hid ((Below.heap_setCell _ _ _ _ (by show w.heap.size ≠ w.heap.size + 1; omega)).trans GX.out), Lib.hid (fset1 GP.out), Lib.hid ((Below.heap_setCell _ _ _ _ (by show w.heap.size + 1 + 1 ≠ w.heap.size + 1; omega)).trans GR.out), Lib.hid (HB.out.setCell (by show w.heap.size ≤ w.heap.size + 1; omega) _)⟩ <;> rw [EQ.out] <;> simp
        · have d3 : ((k : Int) == 2) = false := beq_eq_false_iff_ne.2 (by omega)
          have EQ : Hid (∀ i, cntO k ks.length kids.length i = if i = 2 then 1 else 0) := Lib.hid (fun i => by unfold cntO; rw [if_neg e1, if_pos e2, if_neg e3])
          clear e1 e2 e3
          go_wp2_with fail
          go_meet
          refine ⟨a0, a1, a2 + 1, a3, a4, ⟨?_, ?_, ?_, ?_, ?_⟩, Lib.hid ((Below.heap_setCell _ _ _ _ (by show w.heap.size ≠ w.heap.size + 1; omega)).trans GX.out), Lib.hid (fset2 GP.out), Lib.hid ((Below.heap_setCell _ _ _ _ (by show w.heap.size + 1 + 1 ≠ w.heap.size + 1; omega)).trans GR.out), Lib.hid (HB.out.setCell (by show w.heap.size ≤ w.heap.size + 1; omega) _)⟩ <;> rw [EQ.out] <;> simp
      · have d2 : ((kids.length : Int) == 0) = false := beq_eq_false_iff_ne.2 (by omega)
        by_cases e3 : k = 3
        · have d3 : ((k : Int) == 3) = true := beq_iff_eq.2 (by omega)
          have EQ : Hid (∀ i, cntO k ks.length kids.length i = if i = 3 then ks.length else 0) := Lib.hid (fun i => by unfold cntO; rw [if_neg e1, if_neg e2, if_pos e3])
          have b3 : a3 + ks.length ≤ 1000000000 := by rw [EQ.out] at l3; simp at l3; omega
          clear e1 e2 e3
          go_wp2_with fail
          go_meet
          refine ⟨a0, a1, a2, a3 + ks.length, a4, ⟨?_, ?_, ?_, ?_, ?_⟩, Lib.hid ((Below.heap_setCell _ _ _ _ (by show w.heap.size ≠ w.heap.size + 1; omega)).trans GX.out), Lib.hid (fset3 GP.out), Lib.hid ((Below.heap_setCell _ _ _ _ (by show w.heap.size + 1 + 1 ≠ w.heap.size + 1; omega)).trans GR.out), Lib.hid (HB.out.setCell (by show w.heap.size ≤ w.heap.size + 1; omega) _)⟩ <;> rw [EQ.out] <;> simp
        · have d3 : ((k : Int) == 3) = false := beq_eq_false_iff_ne.2 (by omega)
          have EQ : Hid (∀ i, cntO k ks.length kids.length i = if i = 4 then kids.length else 0) := Lib.hid (fun i => by unfold cntO; rw [if_neg e1, if_neg e2, if_neg e3])
          have b3 : a4 + kids.length ≤ 1000000000 := by rw [EQ.out] at l4; simp at l4; omega
          clear e1 e2 e3
          go_wp2_with fail
          go_meet
          refine ⟨a0, a1, a2, a3, a4 + kids.length, ⟨?_, ?_, ?_, ?_, ?_⟩, Lib.hid ((Below.heap_setCell _ _ _ _ (by show w.heap.size ≠ w.heap.size + 1; omega)).trans GX.out), Lib.hid (fset4 GP.out), Lib.hid ((Below.heap_setCell _ _ _ _ (by show w.heap.size + 1 + 1 ≠ w.heap.size + 1; omega)).trans GR.out), Lib.hid (HB.out.setCell (by show w.heap.size ≤ w.heap.size + 1; omega) _)⟩ <;> rw [EQ.out] <;> simp
  case rest =>
    clear x0 x1 x2 x3 x4 o0 o1 o2 o3 o4 f0 f1 f2 f3 f4
    obtain ⟨q0, q1, q2, q3, q4, ⟨hq0, hq1, hq2, hq3, hq4⟩, HX, HP, HR, HBc⟩ := hcut
    clear GX GP GR HB w3
    go_wp2_with fail
    go_loopg [5] (kids.length + 1) (fun gk iv wr => ∃ j : Nat, j + gk = kids.length + 1 ∧ j ≤ kids.length ∧ iv = .int .i64 j ∧ Hid (wr.heap[w.heap.size]? = some (.cells #[.int .u8 (k : Int), .string t, .slice ka ks.length kc, .slice ba kids.length bc, .int .i64 ln] 25 (0, 0))) ∧ Hid (wr.heap[w.heap.size + 1]? = some (.cells #[.int .i64 ((q0 + cntTs 0 (kids.take j) : Nat) : Int), .int .i64 ((q1 + cntTs 1 (kids.take j) : Nat) : Int), .int .i64 ((q2 + cntTs 2 (kids.take j) : Nat) : Int), .int .i64 ((q3 + cntTs 3 (kids.take j) : Nat) : Int), .int .i64 ((q4 + cntTs 4 (kids.take j) : Nat) : Int)] 36 (0, 0))) ∧ Hid (wr.heap[w.heap.size + 1 + 1]? = some (.cells #[.int .i64 0, .int .i64 0, .int .i64 0, .int .i64 0, .int .i64 0] 36 (0, 0))) ∧ Hid (Below w.heap.size w wr))
    case atStart => exact ⟨0, by omega, by omega, rfl, HX, Lib.hid (by simp only [List.take_zero, cntTs, Nat.add_zero]; exact HP.out), HR, HBc⟩
    case round =>
      obtain ⟨j, hgk, hj, rfl, HXr, HPr, HRr, HBr⟩ := hrel
      have hg : gk = kids.length + 1 - j := by omega
      subst hg
      have p3 := (cells5 HXr.out).2.2.2.1
      by_cases hjl : j < kids.length
      · have hj1 : (j : Int) < (kids.length : Int) := by omega
        have d1 : decide ((j : Int) < (kids.length : Int)) = true := decide_eq_true (by omega)
        obtain ⟨g, off, cap, ka1, kc1, ba1, bc1, he, z1, z2, hn, y0, y1, y2, y3, y4⟩ := HC.out.at hjl
        obtain ⟨rfl, rfl⟩ : ba = some ⟨g, off, none⟩ ∧ bc = cap := by injection he with e1 e2 e3; exact ⟨e1, e3⟩
        have HN := Lib.hid hn
        have x0 := cellB HBr.out y0
        have x1 := cellB HBr.out y1
        have x2 := cellB HBr.out y2
        have x3 := cellB HBr.out y3
        have x4 := cellB HBr.out y4
        clear y0 y1 y2 y3 y4
        obtain ⟨n0, hn0⟩ : ∃ n, n = q0 + cntTs 0 (kids.take j) := ⟨_, rfl⟩
        obtain ⟨n1, hn1⟩ : ∃ n, n = q1 + cntTs 1 (kids.take j) := ⟨_, rfl⟩
        obtain ⟨n2, hn2⟩ : ∃ n, n = q2 + cntTs 2 (kids.take j) := ⟨_, rfl⟩
        obtain ⟨n3, hn3⟩ : ∃ n, n = q3 + cntTs 3 (kids.take j) := ⟨_, rfl⟩
        obtain ⟨n4, hn4⟩ : ∃ n, n = q4 + cntTs 4 (kids.take j) := ⟨_, rfl⟩
        rw [← hn0, ← hn1, ← hn2, ← hn3, ← hn4] at HPr
        have g0 := cnt_room hq0 l0 hjl hn0
        have g1 := cnt_room hq1 l1 hjl hn1
        have g2 := cnt_room hq2 l2 hjl hn2
        have g3 := cnt_room hq3 l3 hjl hn3
        have g4 := cnt_room hq4 l4 hjl hn4
        have HHN := Lib.hid (And.intro hn0 (And.intro hn1 (And.intro hn2 (And.intro hn3 hn4))))
        obtain ⟨o0, o1, o2, o3, o4⟩ := cells5 HPr.out
        clear hn z1 z2 he hn0 hn1 hn2 hn3 hn4 hq0 hq1 hq2 hq3 hq4 l0 l1 l2 l3 l4
        have HP := HPr
        have HBW := Lib.hid HBr.out.drew
        go_upto_region 13 with fail
        refine E_region (S := (fun V => V.cell? ⟨w.heap.size, 3, none⟩ = some (.slice (some ⟨g, off, none⟩) kids.length bc) ∧ V.cell? ⟨g, off + j * 5, none⟩ = some (.int .u8 (kids[j].kind : Int)) ∧ V.cell? ⟨g, off + j * 5 + 1, none⟩ = some (.string kids[j].text) ∧ V.cell? ⟨g, off + j * 5 + 2, none⟩ = some (.slice ka1 kids[j].keys.length kc1) ∧ V.cell? ⟨g, off + j * 5 + 3, none⟩ = some (.slice ba1 kids[j].kids.length bc1) ∧ V.cell? ⟨g, off + j * 5 + 4, none⟩ = some (.int .i64 kids[j].line) ∧ V.cell? ⟨w.heap.size + 1, 0, none⟩ = some (.int .i64 (n0 : Nat)) ∧ V.cell? ⟨w.heap.size + 1, 1, none⟩ = some (.int .i64 (n1 : Nat)) ∧ V.cell? ⟨w.heap.size + 1, 2, none⟩ = some (.int .i64 (n2 : Nat)) ∧ V.cell? ⟨w.heap.size + 1, 3, none⟩ = some (.int .i64 (n3 : Nat)) ∧ V.cell? ⟨w.heap.size + 1, 4, none⟩ = some (.int .i64 (n4 : Nat)) ∧ Hid (V.heap[w.heap.size + 1]? = some (.cells #[.int .i64 (n0 : Nat), .int .i64 (n1 : Nat), .int .i64 (n2 : Nat), .int .i64 (n3 : Nat), .int .i64 (n4 : Nat)] 36 (0, 0))) ∧ Hid (Below w.heap.size w V))) 7 (by kernel_rfl) ⟨p3, x0, x1, x2, x3, x4, o0, o1, o2, o3, o4, HP, HBW⟩ (fun _ _ _ _ _ h => h) (fun Q' hQ hK' hHeld => ?_)
        refine E_take0 hQ (fun _ => hHeld) 0 (v := ?rcv1) rfl rfl (by kernel_rfl) (by kernel_rfl) (by kernel_rfl) (by decide) (by rfl) ?rcy1 ?rcr1
        case rcy1 => (intro w; go_simp; (try with_reducible rfl))
        (try simp only [layE])
        refine E_take hQ hHeld 1 (v := ?rcv2) rfl rfl (by kernel_rfl) (by kernel_rfl) (by kernel_rfl) (by kernel_rfl) (by kernel_rfl) (by rfl) ?rcy2 ?rcr2
        case rcy2 => (intro w hSw; (try dsimp only at hSw); go_simp; (try with_reducible rfl))
        (try simp only [layE])
        refine E_take0 hQ (fun _ => hHeld) 2 (v := ?rcv3) rfl rfl (by kernel_rfl) (by kernel_rfl) (by kernel_rfl) (by decide) (by rfl) ?rcy3 ?rcr3
        case rcy3 => (intro w; go_simp; (try with_reducible rfl))
        (try simp only [layE])
        refine E_take0 hQ (fun _ => hHeld) 3 (v := ?rcv4) rfl rfl (by kernel_rfl) (by kernel_rfl) (by kernel_rfl) (by decide) (by rfl) ?rcy4 ?rcr4
        case rcy4 => (intro w; go_simp; (try with_reducible rfl))
        (try simp only [layE])
        refine E_take hQ hHeld 4 (v := ?rcv5) rfl rfl (by kernel_rfl) (by kernel_rfl) (by kernel_rfl) (by kernel_rfl) (by kernel_rfl) (by rfl) ?rcy5 ?rcr5
        case rcy5 => (intro w hSw; (try dsimp only at hSw); go_simp; (try with_reducible rfl))
        (try simp only [layE])
        refine E_take hQ hHeld 5 (v := ?rcv6) rfl rfl (by kernel_rfl) (by kernel_rfl) (by kernel_rfl) (by kernel_rfl) (by kernel_rfl) (by rfl) ?rcy6 ?rcr6
        case rcy6 => (intro w hSw; (try dsimp only at hSw); go_simp; (try with_reducible rfl))
        (try simp only [layE])
        refine E_one 6 (by kernel_rfl) rfl (by rfl) (fun K hK => ?_)
        obtain ⟨hp3, hx0, hx1, hx2, hx3, hx4, ho0, ho1, ho2, ho3, ho4, hHP, hHW⟩ := hHeld
        go_simp
        refine (IH.out j hjl _ n0 n1 n2 n3 n4 _ (HN.out.belowW hHW.out) ⟨by omega, by omega, by omega, by omega, by omega⟩).mono ?_
        rintro e w2 ⟨rfl, hb2⟩
        have HB2 := Lib.hid hb2
        have HP2 := Lib.hid ((HB2.out.block _ (Array.getElem?_eq_some_iff.1 hHP.out).1).trans hHP.out)
        have HW2 := Lib.hid (hHW.out.trans (HB2.out.mono hHW.out.size))
        have kp3 := cellB HB2.out hp3
        have kx0 := cellB HB2.out hx0
        have kx1 := cellB HB2.out hx1
        have kx2 := cellB HB2.out hx2
        have kx3 := cellB HB2.out hx3
        have kx4 := cellB HB2.out hx4
        have ko0 := cellB HB2.out ho0
        have ko1 := cellB HB2.out ho1
        have ko2 := cellB HB2.out ho2
        have ko3 := cellB HB2.out ho3
        have ko4 := cellB HB2.out ho4
        clear hb2
        (skip)
        refine hK.out _ _ (fun _ _ => ⟨kp3, kx0, kx1, kx2, kx3, kx4, ko0, ko1, ko2, ko3, ko4, HP2, HW2⟩) (fun hHeld' => ?_)
        replace hHeld := hHeld' (by rfl) (by decide)
        clear hK hHeld'
        (try simp only [layE])
        refine E_one 7 (by kernel_rfl) rfl (by rfl) (fun K hK => ?_)
        obtain ⟨f0, f1, f2, f3, f4⟩ := cells5w hHeld.2.2.2.2.2.2.2.2.2.2.2.1.out
        go_simp
        (try simp only [layE])
        refine hK.out _ _ (fun _ h => absurd rfl h) (fun _ => ?_)
        clear hK hHeld
        (try simp only [layE])
        refine E_done (by kernel_rfl) ?_ _
        refine hK'.out _ _ ?_
        have HB2' := HB2.out
        have HP5 := Lib.hid (set5w (x0 := .int .i64 ((n0 : Int) + (cntT 0 kids[j] : Nat))) (x1 := .int .i64 ((n1 : Int) + (cntT 1 kids[j] : Nat))) (x2 := .int .i64 ((n2 : Int) + (cntT 2 kids[j] : Nat))) (x3 := .int .i64 ((n3 : Int) + (cntT 3 kids[j] : Nat))) (x4 := .int .i64 ((n4 : Int) + (cntT 4 kids[j] : Nat))) HP2.out)
        have HX5 := Lib.hid ((set5w_other (x0 := .int .i64 ((n0 : Int) + (cntT 0 kids[j] : Nat))) (x1 := .int .i64 ((n1 : Int) + (cntT 1 kids[j] : Nat))) (x2 := .int .i64 ((n2 : Int) + (cntT 2 kids[j] : Nat))) (x3 := .int .i64 ((n3 : Int) + (cntT 3 kids[j] : Nat))) (x4 := .int .i64 ((n4 : Int) + (cntT 4 kids[j] : Nat))) (W := w2) (B := w.heap.size + 1) (k := w.heap.size) (by omega)).trans ((HB2'.block _ (Array.getElem?_eq_some_iff.1 HXr.out).1).trans HXr.out))
        have HR5 := Lib.hid ((set5w_other (x0 := .int .i64 ((n0 : Int) + (cntT 0 kids[j] : Nat))) (x1 := .int .i64 ((n1 : Int) + (cntT 1 kids[j] : Nat))) (x2 := .int .i64 ((n2 : Int) + (cntT 2 kids[j] : Nat))) (x3 := .int .i64 ((n3 : Int) + (cntT 3 kids[j] : Nat))) (x4 := .int .i64 ((n4 : Int) + (cntT 4 kids[j] : Nat))) (W := w2) (B := w.heap.size + 1) (k := w.heap.size + 1 + 1) (by omega)).trans ((HB2'.block _ (Array.getElem?_eq_some_iff.1 HRr.out).1).trans HRr.out))
        have HB5 := Lib.hid (set5w_below (x0 := .int .i64 ((n0 : Int) + (cntT 0 kids[j] : Nat))) (x1 := .int .i64 ((n1 : Int) + (cntT 1 kids[j] : Nat))) (x2 := .int .i64 ((n2 : Int) + (cntT 2 kids[j] : Nat))) (x3 := .int .i64 ((n3 : Int) + (cntT 3 kids[j] : Nat))) (x4 := .int .i64 ((n4 : Int) + (cntT 4 kids[j] : Nat))) HW2.out (B := w.heap.size + 1) (by omega))
        clear HB2' HB2 HP2 HW2 kp3 kx0 kx1 kx2 kx3 kx4 ko0 ko1 ko2 ko3 ko4 p3 x0 x1 x2 x3 x4 o0 o1 o2 o3 o4
        generalize (((((w2.setCell ⟨w.heap.size + 1, 0, none⟩ (.int .i64 ((n0 : Int) + (cntT 0 kids[j] : Nat)))).setCell ⟨w.heap.size + 1, 1, none⟩ (.int .i64 ((n1 : Int) + (cntT 1 kids[j] : Nat)))).setCell ⟨w.heap.size + 1, 2, none⟩ (.int .i64 ((n2 : Int) + (cntT 2 kids[j] : Nat)))).setCell ⟨w.heap.size + 1, 3, none⟩ (.int .i64 ((n3 : Int) + (cntT 3 kids[j] : Nat)))).setCell ⟨w.heap.size + 1, 4, none⟩ (.int .i64 ((n4 : Int) + (cntT 4 kids[j] : Nat)))) = w5 at *
        go_wp2_with fail
        go_roundg (kids.length + 1 - (j + 1))
        case measure => omega
        case rel => exact ⟨j + 1, by omega, by omega, rfl, HX5, Lib.hid (by rw [cntTs_take _ _ _ hjl, cntTs_take _ _ _ hjl, cntTs_take _ _ _ hjl, cntTs_take _ _ _ hjl, cntTs_take _ _ _ hjl, ← Nat.add_assoc, ← Nat.add_assoc, ← Nat.add_assoc, ← Nat.add_assoc, ← Nat.add_assoc, ← HHN.out.1, ← HHN.out.2.1, ← HHN.out.2.2.1, ← HHN.out.2.2.2.1, ← HHN.out.2.2.2.2]; exact HP5.out), HR5, HB5⟩
      · have d1 : decide ((j : Int) < (kids.length : Int)) = false := decide_eq_false (by omega)
        obtain rfl : j = kids.length := by omega
        rw [List.take_length] at HPr
        obtain ⟨o0, o1, o2, o3, o4⟩ := cells5 HPr.out
        obtain ⟨u0, u1, u2, u3, u4⟩ := cells5 HRr.out
        obtain ⟨f0, f1, f2, f3, f4⟩ := cells5w HRr.out
        have HE := Lib.hid (And.intro hq0 (And.intro hq1 (And.intro hq2 (And.intro hq3 hq4))))
        clear hq0 hq1 hq2 hq3 hq4
        go_wp2_with fail
        have HP5 := set5w (x0 := .int .i64 ((q0 : Int) + (cntTs 0 kids : Nat))) (x1 := .int .i64 ((q1 : Int) + (cntTs 1 kids : Nat))) (x2 := .int .i64 ((q2 : Int) + (cntTs 2 kids : Nat))) (x3 := .int .i64 ((q3 : Int) + (cntTs 3 kids : Nat))) (x4 := .int .i64 ((q4 : Int) + (cntTs 4 kids : Nat))) HRr.out
        have HB5 := Lib.hid (set5w_below (x0 := .int .i64 ((q0 : Int) + (cntTs 0 kids : Nat))) (x1 := .int .i64 ((q1 : Int) + (cntTs 1 kids : Nat))) (x2 := .int .i64 ((q2 : Int) + (cntTs 2 kids : Nat))) (x3 := .int .i64 ((q3 : Int) + (cntTs 3 kids : Nat))) (x4 := .int .i64 ((q4 : Int) + (cntTs 4 kids : Nat))) HBr.out (B := w.heap.size + 1 + 1) (by omega))
        clear o0 o1 o2 o3 o4 u0 u1 u2 u3 u4 f0 f1 f2 f3 f4 p3
        obtain ⟨hq0, hq1, hq2, hq3, hq4⟩ := HE.out
        generalize ((((wr.setCell ⟨w.heap.size + 1 + 1, 0, none⟩ (.int .i64 ((q0 : Int) + (cntTs 0 kids : Nat)))).setCell ⟨w.heap.size + 1 + 1, 1, none⟩ (.int .i64 ((q1 : Int) + (cntTs 1 kids : Nat)))).setCell ⟨w.heap.size + 1 + 1, 2, none⟩ (.int .i64 ((q2 : Int) + (cntTs 2 kids : Nat)))).setCell ⟨w.heap.size + 1 + 1, 3, none⟩ (.int .i64 ((q3 : Int) + (cntTs 3 kids : Nat)))).setCell ⟨w.heap.size + 1 + 1, 4, none⟩ (.int .i64 ((q4 : Int) + (cntTs 4 kids : Nat))) = w6 at *
        obtain ⟨y0, y1, y2, y3, y4⟩ := cells5 HP5
        refine bodyPost_ret (v := .agg #[.int .i64 ((q0 : Int) + (cntTs 0 kids : Nat)), .int .i64 ((q1 : Int) + (cntTs 1 kids : Nat)), .int .i64 ((q2 : Int) + (cntTs 2 kids : Nat)), .int .i64 ((q3 : Int) + (cntTs 3 kids : Nat)), .int .i64 ((q4 : Int) + (cntTs 4 kids : Nat))]) (by simp [results, Tryz.results9, go_sem, y0, y1, y2, y3, y4]) rfl ⟨?_, HB5.out⟩
        rw [hq0, hq1, hq2, hq3, hq4]
        simp only [Int.natCast_add, Int.add_assoc]
end Go.Proofs.YtdhgcgejdoedbaaGreatDoor

/-
  Plain facts of a tree's lines and tokens: how many, how deep, how long (no program).
-/
namespace Go.Proofs.YtdhgcgejdoedbaaGreatDoor
open Go.RowKit Go.WideShapes

theorem okT_nil : OkT { data := #[] } := ⟨by decide, Utf.nil⟩
theorem okT_headD {ks : List ByteArray} (h : ∀ s ∈ ks, OkT s ∧ s.size ≤ 64) : OkT (ks.headD { data := #[] }) := by
  cases ks with
  | nil => exact okT_nil
  | cons a l => exact (h a (by simp)).1
theorem okL_leaf {x : Tree} (h : GoodT x) : OkL (leafO x) := by
  unfold leafO leafD
  split
  · trivial
  · split
    · trivial
    · exact h.text
theorem okB_key {k : ByteArray} {y : Tree} (hk : OkT k) (hy : GoodT y) : OkB (keyB k y) := by
  unfold keyB
  cases y.kids.isEmpty with
  | true => exact ⟨hk, okL_leaf hy⟩
  | false => exact hk
theorem blk_ok : ∀ x, GoodT x → OkB (hdB x) ∧ ∀ c, ∀ p ∈ tlT c x, OkB p.2 := by
  refine Tree.ind fun k t ks kids l ih h => ?_
  have hks := h.keys
  simp only [Tree.keys] at hks
  have hkids := h.kids
  simp only [Tree.kids] at hkids
  refine ⟨?_, fun c p hp => ?_⟩
  · cases kids with
    | nil => exact okL_leaf h
    | cons y m =>
      show OkB (if k = 2 then _ else _)
      split
      · exact (ih y (by simp) (hkids y (by simp))).1
      · exact okB_key (okT_headD hks) (hkids y (by simp))
  · have hS : ∀ m : List Tree, (∀ y ∈ m, y ∈ kids) → ∀ p ∈ tlS c m, OkB p.2 := by
      intro m hm
      induction m with
      | nil => intro p hp; simp [tlS] at hp
      | cons y m ihm =>
        intro p hp
        rw [tlS] at hp
        have hy := hm y (by simp)
        rcases List.mem_append.1 hp with hp | hp
        · exact (ih y hy (hkids y hy)).2 _ p hp
        · rcases List.mem_append.1 hp with hp | hp
          · cases m with
            | nil => simp [nxS] at hp
            | cons z m =>
              simp only [nxS, List.mem_singleton] at hp
              subst hp
              exact (ih z (hm z (by simp)) (hkids z (hm z (by simp)))).1
          · exact ihm (fun y hy => hm y (by simp [hy])) p hp
    have hM : ∀ (m : List Tree), (∀ y ∈ m, y ∈ kids) → ∀ (qs : List ByteArray), (∀ s ∈ qs, OkT s ∧ s.size ≤ 64) → ∀ p ∈ tlM c qs m, OkB p.2 := by
      intro m hm
      induction m with
      | nil => intro qs _ p hp; simp [tlM] at hp
      | cons y m ihm =>
        intro qs hq p hp
        rw [tlM] at hp
        have hy := hm y (by simp)
        have hqt : ∀ s ∈ qs.tail, OkT s ∧ s.size ≤ 64 := fun s hs => hq s (List.mem_of_mem_tail hs)
        rcases List.mem_append.1 hp with hp | hp
        · split at hp
          · simp at hp
          · rcases List.mem_cons.1 hp with rfl | hp
            · exact (ih y hy (hkids y hy)).1
            · exact (ih y hy (hkids y hy)).2 _ p hp
        · rcases List.mem_append.1 hp with hp | hp
          · cases m with
            | nil => simp [nxM] at hp
            | cons z m =>
              simp only [nxM, List.mem_singleton] at hp
              subst hp
              exact okB_key (okT_headD hqt) (hkids z (hm z (by simp)))
          · exact ihm (fun y hy => hm y (by simp [hy])) qs.tail hqt p hp
    rw [tlT] at hp
    split at hp
    · exact hS kids (fun _ h => h) p hp
    · exact hM kids (fun _ h => h) ks hks p hp
theorem blkT_ok {x : Tree} (h : GoodT x) : ∀ p ∈ blkT x, OkB p.2 := by
  intro p hp
  rcases List.mem_cons.1 hp with rfl | hp
  · exact (blk_ok x h).1
  · exact (blk_ok x h).2 0 p hp

/-! ### How many tokens -/
theorem bkT_len : ∀ (x : Tree) (m n c : Nat), SmallP m x → (bkT n c x).length + 3 ≤ 4 * countT m x := by
  refine Tree.ind fun k t ks kids l ih m n c h => ?_
  obtain ⟨m, rfl, _, _, _, hkids, _⟩ := h.parts
  rw [bkT, countT]
  split
  · simp; omega
  · have hS : ∀ (q : List Tree), (∀ y ∈ q, y ∈ kids) → ∀ n, (bkS n c q).length ≤ 4 * countTs m q := by
      intro q hq
      induction q with
      | nil => intro n; simp [bkS]
      | cons y q ihq =>
        intro n
        rw [bkS, countTs]
        have h1 := ih y (hq y (by simp)) m n (c + 2) (hkids y (hq y (by simp)))
        have h2 := ihq (fun y hy => hq y (by simp [hy])) (n + 1 + (tlT (c + 2) y).length)
        simp only [List.length_cons, List.length_append]; omega
    have hM : ∀ (q : List Tree), (∀ y ∈ q, y ∈ kids) → ∀ n (qs : List ByteArray), (bkM n c qs q).length ≤ 4 * countTs m q := by
      intro q hq
      induction q with
      | nil => intro n qs; simp [bkM]
      | cons y q ihq =>
        intro n qs
        rw [bkM, countTs]
        have h1 := ih y (hq y (by simp)) m (n + 1) (c + 2) (hkids y (hq y (by simp)))
        have h2 := ihq (fun y hy => hq y (by simp [hy])) (n + 1 + (if y.kids.isEmpty then 0 else (tlT (c + 2) y).length + 1)) qs.tail
        simp only [List.length_cons, List.length_append]
        split
        · rename_i he
          rw [he] at h2
          simp only [List.length_singleton] at *
          simp only [if_true] at h2
          omega
        · rename_i he
          rw [if_neg he] at h2
          simp only [List.length_cons, List.length_append, List.length_nil]; omega
    split
    · have := hS kids (fun _ h => h) n; omega
    · have := hM kids (fun _ h => h) n ks; omega

/-! ### How long the text is -/
theorem leafL_len (x : LeafD) : (leafL x).length ≤ 4 * (leafT x).size + 2 := by
  cases x with
  | word t => have := wrL_len (bsN t); rw [bsN_len] at this; exact this
  | noSeq => simp [leafL]
  | noMap => simp [leafL]
theorem leafT_le (x : Tree) : (leafT (leafO x)).size ≤ x.text.size := by
  unfold leafO leafD
  split
  · exact Nat.zero_le _
  · split
    · exact Nat.zero_le _
    · exact Nat.le_refl _
theorem key_len {ks : List ByteArray} (h : ∀ s ∈ ks, s.size ≤ 200) (j : Nat) : (wrL (bsN (ks.getD j { data := #[] }))).length ≤ 802 := by
  have h1 := wrL_len (bsN (ks.getD j { data := #[] }))
  have h2 : (ks.getD j { data := #[] }).size ≤ 200 := by
    by_cases hj : j < ks.length
    · have : ks.getD j { data := #[] } = ks[j] := by simp [List.getD, hj]
      rw [this]; exact h _ (List.getElem_mem hj)
    · have : ks.getD j { data := #[] } = { data := #[] } := by simp [List.getD, hj]
      rw [this]; exact Nat.zero_le _
  rw [bsN_len] at h1
  omega
theorem countTs_app (m : Nat) : ∀ (a b : List Tree), countTs m (a ++ b) = countTs m a + countTs m b
  | [], b => by simp [countTs]
  | x :: a, b => by rw [List.cons_append, countTs, countTs_app m a b, countTs]; omega
theorem outN_len : ∀ (x : Tree) (m c : Nat) (f : List Nat), SmallP m x → c + 2 * m ≤ 1000 → (outN f c x).length + 40000 ≤ f.length + 80000 * countT m x := by
  refine Tree.ind fun k t ks kids l ih m c f h hc => ?_
  obtain ⟨m, rfl, ht, _, hks, hkids, _⟩ := h.parts
  rw [countT]
  by_cases h0 : kids = []
  · obtain ⟨h1, h2⟩ := leaf_hd (y := .mk k t ks kids l) (by rw [h0]; rfl) c
    unfold outN
    rw [h1, h2]
    have h3 := leafL_len (leafO (.mk k t ks kids l))
    have h4 := leafT_le (.mk k t ks kids l)
    simp only [Tree.text] at h4
    have h5 : bodyS (.leaf (leafO (.mk k t ks kids l))) = leafL (leafO (.mk k t ks kids l)) := rfl
    rw [h5]
    simp only [List.length_append, List.length_cons, textB, List.flatMap_nil, List.length_nil]
    omega
  · have hj : ∀ j, j ≤ kids.length → 1 ≤ j → (outJ (.mk k t ks kids l) f c j).length ≤ f.length + 80000 * countTs m (kids.take j) := by
      intro j
      induction j with
      | zero => intro _ h; omega
      | succ j ihj =>
        intro hjl _
        have hlt : j < kids.length := by omega
        have hy := List.getElem_mem hlt
        rw [outJ, List.take_succ_eq_append_getElem hlt, countTs_app, countTs, countTs, List.length_append]
        simp only [Tree.kids, Tree.keys, Tree.kind]
        have e : kids.getD j noTree = kids[j] := by simp [List.getD, hlt]
        rw [e]
        have hp : ∀ pf : List Nat, (pieceN k pf c (ks.getD j { data := #[] }) kids[j]).length + 40000 ≤ pf.length + 80000 * countT m kids[j] + c + 900 := by
          intro pf
          have hkl := key_len hks j
          unfold pieceN
          split
          · have := ih _ hy m (c + 2) (pf ++ [45, 32]) (hkids _ hy) (by omega)
            simp only [List.length_append, List.length_cons, List.length_nil] at this
            omega
          · split
            · have := ih _ hy m 0 (pf ++ wrL (bsN (ks.getD j { data := #[] })) ++ [58, 32]) (hkids _ hy) (by omega)
              simp only [List.length_append, List.length_cons, List.length_nil] at this
              omega
            · have := ih _ hy m (c + 2) (List.replicate (c + 2) 32) (hkids _ hy) (by omega)
              simp only [List.length_append, List.length_cons, List.length_nil, List.length_replicate] at this ⊢
              omega
        by_cases hj0 : j = 0
        · subst hj0
          have := hp f
          simp only [outJ, List.length_nil, if_true, List.take_zero, countTs] at this ⊢
          omega
        · have h1 := ihj (by omega) (by omega)
          have h2 := hp (List.replicate c 32)
          rw [if_neg hj0]
          simp only [List.length_replicate] at h2
          omega
    have hn : 1 ≤ kids.length := by
      cases kids with
      | nil => exact absurd rfl h0
      | cons a b => simp
    have h1 := hj kids.length (Nat.le_refl _) hn
    rw [List.take_length] at h1
    have h2 := outJ_all (.mk k t ks kids l) f c h0
    simp only [Tree.kids] at h2
    rw [← h2]
    omega
theorem outN_blk (x : Tree) : outN [] 0 x = textB (blkT x) := by
  unfold outN blkT
  rw [textB_cons]; rfl

/-! ### How many of a kind -/
def kindN (i : Nat) : Nat := if i = 0 then 5 else if i = 1 then 6 else if i = 2 then 7 else if i = 3 then 4 else 3
def ofKind (k : Nat) (l : List TokD) : Nat := l.countP fun t => t.1 == k
theorem ofKind_app (k : Nat) (a b : List TokD) : ofKind k (a ++ b) = ofKind k a + ofKind k b := by simp [ofKind]
theorem ofKind_cons (k : Nat) (t : TokD) (l : List TokD) : ofKind k (t :: l) = (if t.1 = k then 1 else 0) + ofKind k l := by
  unfold ofKind
  rw [List.countP_cons]
  simp only [beq_iff_eq]
  omega
theorem ofKind_er (k : Nat) (l : List TokD) : ofKind k (l.map erE) = ofKind k l := by
  induction l with
  | nil => rfl
  | cons t l ih =>
    rw [List.map_cons, ofKind_cons, ofKind_cons, ih]
    have : (erE t).1 = t.1 := by unfold erE; split <;> rfl
    rw [this]
theorem kindN_ne {i : Nat} (h : i < 5) : kindN i ≠ 1 ∧ kindN i ≠ 2 := by
  have : ∀ i : Fin 5, kindN i.val ≠ 1 ∧ kindN i.val ≠ 2 := by decide
  exact this ⟨i, h⟩
theorem leaf_cnt {x : Tree} (h : GoodT x) (h0 : x.kids = []) (n : Nat) {i : Nat} (hi : i < 5) : ofKind (kindN i) [leafE n (leafO x)] = cntT i x := by
  obtain ⟨k, t, ks, kids, l⟩ := x
  simp only [Tree.kids] at h0
  subst h0
  have hk := h.kind
  simp only [Tree.kind] at hk
  have h1 : ∀ (i : Fin 5) (k : Fin 4), 1 ≤ k.val → (if (if k.val = 2 then 6 else if k.val = 3 then 7 else 5) = kindN i.val then 1 else 0) = cntO k.val 0 0 i.val := by decide
  have h2 := h1 ⟨i, hi⟩ ⟨k, by omega⟩ hk.1
  simp only at h2
  rw [cntT, cntTs, ofKind_cons]
  have h3 : (leafE n (leafO (.mk k t ks [] l))).1 = if k = 2 then 6 else if k = 3 then 7 else 5 := by
    show leafK (if k = 2 then _ else if k = 3 then _ else _) = _
    split
    · rfl
    · split <;> rfl
  rw [h3, h2]
  have h4 : cntO k ks.length 0 i = cntO k 0 0 i := by unfold cntO; rfl
  show _ = cntO k ks.length 0 i + 0
  rw [h4]; rfl
theorem cntO_seq {k a b : Nat} (h1 : k ≠ 1) (h3 : k ≠ 3) (hb : b ≠ 0) (i : Nat) : cntO k a b i = if i = 4 then b else 0 := by unfold cntO; rw [if_neg h1, if_neg hb, if_neg h3]
theorem cntO_map {k a b : Nat} (h3 : k = 3) (hb : b ≠ 0) (i : Nat) : cntO k a b i = if i = 3 then a else 0 := by unfold cntO; rw [if_neg (by omega), if_neg hb, if_pos h3]
theorem bk_cnt {i : Nat} (hi : i < 5) : ∀ (x : Tree) (n c : Nat), GoodT x → ofKind (kindN i) (bkT n c x) = cntT i x := by
  refine Tree.ind fun k t ks kids l ih n c h => ?_
  have hkids := h.kids
  simp only [Tree.kids] at hkids
  have hne := kindN_ne hi
  have hO : (if OPN.1 = kindN i then 1 else 0) = 0 := if_neg (fun e => hne.1 e.symm)
  have hC : (if CLS.1 = kindN i then 1 else 0) = 0 := if_neg (fun e => hne.2 e.symm)
  rw [bkT]
  split
  · rename_i he
    have h0 : kids = [] := List.isEmpty_iff.1 he
    exact leaf_cnt h (by exact h0) n hi
  · rename_i he
    have hne0 : kids ≠ [] := fun e => he (by rw [e]; rfl)
    have hlen : kids.length ≠ 0 := fun e => hne0 (List.length_eq_zero_iff.1 e)
    have hk := h.kind
    simp only [Tree.kind] at hk
    split
    · rename_i hk2
      have hS : ∀ (q : List Tree), (∀ y ∈ q, y ∈ kids) → ∀ n, ofKind (kindN i) (bkS n c q) = (if i = 4 then q.length else 0) + cntTs i q := by
        intro q hq
        induction q with
        | nil => intro n; simp [bkS, cntTs, ofKind]
        | cons y q ihq =>
          intro n
          rw [bkS, cntTs, ofKind_cons, ofKind_cons, ofKind_app, ofKind_cons, ih y (hq y (by simp)) n (c + 2) (hkids y (hq y (by simp))), ihq (fun y hy => hq y (by simp [hy])), hO, hC, List.length_cons]
          have h3 : (if 3 = kindN i then 1 else 0) = if i = 4 then 1 else 0 := by
            have : ∀ i : Fin 5, (if 3 = kindN i.val then 1 else 0) = if i.val = 4 then 1 else 0 := by decide
            exact this ⟨i, hi⟩
          simp only
          rw [h3]
          split <;> omega
      rw [hS kids (fun _ h => h) n, cntT]
      congr 1
      exact (cntO_seq (by omega) (by omega) hlen i).symm
    · rename_i hk2
      have hk3 := (h.map (by exact hk2) hne0)
      simp only [Tree.kind, Tree.keys, Tree.kids] at hk3
      have hM : ∀ (q : List Tree), (∀ y ∈ q, y ∈ kids) → ∀ n qs, ofKind (kindN i) (bkM n c qs q) = (if i = 3 then q.length else 0) + cntTs i q := by
        intro q hq
        induction q with
        | nil => intro n qs; simp [bkM, cntTs, ofKind]
        | cons y q ihq =>
          intro n qs
          have hy := hkids y (hq y (by simp))
          have h3 : (if 4 = kindN i then 1 else 0) = if i = 3 then 1 else 0 := by
            have : ∀ i : Fin 5, (if 4 = kindN i.val then 1 else 0) = if i.val = 3 then 1 else 0 := by decide
            exact this ⟨i, hi⟩
          rw [bkM, cntTs, ofKind_cons, ofKind_app, ihq (fun y hy => hq y (by simp [hy])), List.length_cons]
          have h4 : ofKind (kindN i) (if y.kids.isEmpty then [leafE n (leafO y)] else OPN :: (bkT (n + 1) (c + 2) y ++ [CLS])) = cntT i y := by
            split
            · rename_i he
              exact leaf_cnt hy (List.isEmpty_iff.1 he) n hi
            · rw [ofKind_cons, ofKind_app, ofKind_cons, ih y (hq y (by simp)) (n + 1) (c + 2) hy, hO, hC]
              simp [ofKind]
          rw [h4]
          simp only
          rw [h3]
          split <;> omega
      rw [hM kids (fun _ h => h) n ks, cntT]
      congr 1
      exact (show (if i = 3 then kids.length else 0) = if i = 3 then ks.length else 0 by rw [hk3.2]).trans (cntO_map hk3.1 hlen i).symm

/-! ### How deep -/
def deepS (s : Int × Int) (t : TokD) : Int × Int := if t.1 = 1 then (s.1 + 1, max s.2 (s.1 + 1)) else if t.1 = 2 then (s.1 - 1, max s.2 (s.1 - 1)) else s
theorem deep_er (l : List TokD) (s : Int × Int) : (l.map erE).foldl deepS s = l.foldl deepS s := by
  rw [List.foldl_map]
  congr 1
  funext s t
  have : (erE t).1 = t.1 := by unfold erE; split <;> rfl
  unfold deepS
  rw [this]
theorem depT_up {m : Nat} {x : Tree} (h : DepT m x) : ∀ q, m ≤ q → DepT q x := by
  induction h with
  | mk h ih =>
    intro q hq
    obtain ⟨q, rfl⟩ : ∃ r, q = r + 1 := ⟨q - 1, by omega⟩
    exact .mk fun x hx => ih x hx q (by omega)
theorem leafK_deep (n : Nat) (o : LeafD) (s : Int × Int) : deepS s (leafE n o) = s := by cases o <;> rfl
theorem bk_deep : ∀ (x : Tree) (m n c : Nat) (a q : Int), DepT m x → a ≤ q → ∃ q', (bkT n c x).foldl deepS (a, q) = (a, q') ∧ q ≤ q' ∧ q' ≤ max q (a + depthT m x - 1) := by
  refine Tree.ind fun k t ks kids l ih m n c a q h haq => ?_
  cases h with
  | @mk m _ _ _ _ _ hk =>
  rw [bkT, depthT]
  split
  · exact ⟨q, by rw [List.foldl_cons, leafK_deep]; rfl, Int.le_refl _, by omega⟩
  · have hS : ∀ (r : List Tree), (∀ y ∈ r, y ∈ kids) → ∀ n (q : Int), a ≤ q → ∃ q', (bkS n c r).foldl deepS (a, q) = (a, q') ∧ q ≤ q' ∧ q' ≤ max q (a + depthTs m r) := by
      intro r hr
      induction r with
      | nil => intro n q hq; exact ⟨q, by simp [bkS], Int.le_refl _, by omega⟩
      | cons y r ihr =>
        intro n q hq
        have hy := hr y (by simp)
        obtain ⟨q1, e1, l1, l2⟩ := ih y hy m n (c + 2) (a + 1) (max q (a + 1)) (hk y hy) (by omega)
        obtain ⟨q2, e2, l3, l4⟩ := ihr (fun y hy => hr y (by simp [hy])) (n + 1 + (tlT (c + 2) y).length) (max q1 (a + 1 - 1)) (by omega)
        have d1 : 1 ≤ depthT m y := by
          cases hk y hy with
          | mk _ => rw [depthT]; omega
        refine ⟨q2, ?_, ?_, ?_⟩
        · rw [bkS, List.foldl_cons, List.foldl_cons, List.foldl_append, List.foldl_cons]
          have h3 : deepS (a, q) ((3, { data := #[] }, n, 0) : TokD) = (a, q) := rfl
          have h4 : deepS (a, q) OPN = (a + 1, max q (a + 1)) := rfl
          have h5 : ∀ p : Int, deepS (a + 1, p) CLS = (a, max p (a + 1 - 1)) := fun p => by
            show (a + 1 - 1, max p (a + 1 - 1)) = _
            rw [Int.add_sub_cancel]
          rw [h3, h4, e1, h5, e2]
        · omega
        · rw [depthTs]; omega
    have hM : ∀ (r : List Tree), (∀ y ∈ r, y ∈ kids) → ∀ n qs (q : Int), a ≤ q → ∃ q', (bkM n c qs r).foldl deepS (a, q) = (a, q') ∧ q ≤ q' ∧ q' ≤ max q (a + depthTs m r) := by
      intro r hr
      induction r with
      | nil => intro n qs q hq; exact ⟨q, by simp [bkM], Int.le_refl _, by omega⟩
      | cons y r ihr =>
        intro n qs q hq
        have hy := hr y (by simp)
        have h3 : ∀ k : ByteArray, deepS (a, q) ((4, k, n, 0) : TokD) = (a, q) := fun _ => rfl
        by_cases he : y.kids.isEmpty = true
        · obtain ⟨q2, e2, l3, l4⟩ := ihr (fun y hy => hr y (by simp [hy])) (n + 1 + 0) qs.tail q hq
          refine ⟨q2, ?_, l3, ?_⟩
          · rw [bkM, he, if_pos rfl, if_pos rfl, List.foldl_cons, h3, List.foldl_append, List.foldl_cons, leafK_deep, List.foldl_nil, e2]
          · rw [depthTs]; omega
        · obtain ⟨q1, e1, l1, l2⟩ := ih y hy m (n + 1) (c + 2) (a + 1) (max q (a + 1)) (hk y hy) (by omega)
          obtain ⟨q2, e2, l3, l4⟩ := ihr (fun y hy => hr y (by simp [hy])) (n + 1 + ((tlT (c + 2) y).length + 1)) qs.tail (max q1 (a + 1 - 1)) (by omega)
          have d1 : 1 ≤ depthT m y := by
            cases hk y hy with
            | mk _ => rw [depthT]; omega
          refine ⟨q2, ?_, ?_, ?_⟩
          · rw [bkM, if_neg he, if_neg he, List.foldl_cons, h3, List.foldl_append, List.foldl_cons, List.foldl_append, List.foldl_cons, List.foldl_nil]
            have h4 : deepS (a, q) OPN = (a + 1, max q (a + 1)) := rfl
            have h5 : ∀ p : Int, deepS (a + 1, p) CLS = (a, max p (a + 1 - 1)) := fun p => by
              show (a + 1 - 1, max p (a + 1 - 1)) = _
              rw [Int.add_sub_cancel]
            rw [h4, e1, h5, e2]
          · omega
          · rw [depthTs]; omega
    split
    · obtain ⟨q', h1, h2, h3⟩ := hS kids (fun _ h => h) n q haq
      exact ⟨q', h1, h2, by omega⟩
    · obtain ⟨q', h1, h2, h3⟩ := hM kids (fun _ h => h) n ks q haq
      exact ⟨q', h1, h2, by omega⟩
theorem tok_deep {x : Tree} (hd : DepT 16 x) (ho : (bkT 1 0 x).length ≤ 900000) : ((tokF (blkT x)).foldl deepS (0, 0)).2 < depthT 18 x := by
  obtain ⟨q', h1, h2, h3⟩ := bk_deep x 18 1 0 0 0 (depT_up hd 18 (by decide)) (by decide)
  rw [← deep_er, tokF_blk x hd ho, h1]
  have : 1 ≤ depthT 18 x := by
    obtain ⟨k, t, ks, kids, l⟩ := x
    rw [depthT]; omega
  simp only
  omega
theorem tok_cnt {x : Tree} (h : GoodT x) (hd : DepT 16 x) (ho : (bkT 1 0 x).length ≤ 900000) {i : Nat} (hi : i < 5) : ofKind (kindN i) (tokF (blkT x)) = cntT i x := by
  rw [← ofKind_er, tokF_blk x hd ho, bk_cnt hi x 1 0 h]
end Go.Proofs.YtdhgcgejdoedbaaGreatDoor

/-
  block.Print.
-/
namespace Go.Proofs.YtdhgcgejdoedbaaGreatDoor
open Go.RowKit Go.WideShapes

set_option maxRecDepth 100000 in
theorem bLen_any (B b : Nat) (bs : List Value) (w : World) (h : Lib.IsBuilder 55 5 B b bs w) :
    Calls Tryz.prog 19 #[.pointer (some ⟨b, 0, none⟩)] w fun e w' => e = .returned (.int .i64 (bs.length : Nat)) ∧ w = w' := by
  have hc : ∃ va vc, w.cell? ⟨b, 1, none⟩ = some (.slice va bs.length vc) := by
    rcases h with ⟨_, v, h2, h3, _⟩ | ⟨_, v, h2, h3, _⟩
    · obtain ⟨va, vc, rfl⟩ := (RdS.of_owns h3).form
      exact ⟨va, vc, by simp [World.cell?, h2]⟩
    · obtain ⟨va, vc, rfl⟩ := (RdS.of_owns h3).form
      exact ⟨va, vc, by simp [World.cell?, h2]⟩
  obtain ⟨va, vc, hc⟩ := hc
  clear h
  go_enter Tryz.func19, Tryz.ntmps19
  go_wp2_with fail
  go_ret
  exact ⟨rfl, rfl⟩
theorem textB_lt : ∀ ls : List (Nat × BodyD), AllLt 256 (textB ls)
  | [] => by intro c hc; simp [textB] at hc
  | x :: ls => by
    rw [textB_cons]
    intro c hc
    rcases List.mem_append.1 hc with hc | hc
    · rcases List.mem_append.1 hc with hc | hc
      · rw [List.eq_of_mem_replicate hc]; decide
      · exact body_lt x.2 c hc
    · rcases List.mem_cons.1 hc with rfl | hc
      · decide
      · exact textB_lt ls c hc
def PrintP (x : Tree) (s : ByteArray) (e : Int) : Prop := (e ≠ 0 ∧ s = { data := #[] }) ∨ (e = 0 ∧ checkT x = 0 ∧ bsN s = textB (blkT x) ∧ s.size ≤ 1048576)
set_option maxRecDepth 100000 in
set_option maxHeartbeats 2000000 in
theorem print_any (x : Tree) (cs : List Value) (w : World) (h : NodeR w cs x) (hsm : SmallP 18 x) (hct : countT 18 x ≤ 150) :
    Calls Tryz.prog 7 #[.agg cs.toArray] w fun e w' => ∃ (s : ByteArray) (c : Int), e = .returned (.tuple #[.string s, .int .i64 c]) ∧ PrintP x s c ∧ Below w.heap.size w w' := by
  obtain ⟨ka, kc, ba, bc, rfl⟩ := h.cells
  have hb := (Below.refl w.heap.size w).alloc (Nat.le_refl _) (.cells #[.int .u8 (x.kind : Int), .string x.text, .slice ka x.keys.length kc, .slice ba x.kids.length bc, .int .i64 x.line] 25)
  have hx := World.alloc_heap_new w (.cells #[.int .u8 (x.kind : Int), .string x.text, .slice ka x.keys.length kc, .slice ba x.kids.length bc, .int .i64 x.line] 25)
  have hw1 : w.heap.size < (w.alloc (.cells #[.int .u8 (x.kind : Int), .string x.text, .slice ka x.keys.length kc, .slice ba x.kids.length bc, .int .i64 x.line] 25)).heap.size := by simp
  have HN := Lib.hid (h.belowW hb)
  have HB := Lib.hid hb
  have HCK := Lib.hid (CheckB_any x _ _ HN.out ⟨18, hsm⟩)
  have hol := outN_len x 18 0 [] hsm (by decide)
  have HPL : Hid (∀ s : ByteArray, s = outS { data := #[] } 0 x → bsN s = textB (blkT x) ∧ s.size = (textB (blkT x)).length ∧ s.size ≤ 20000000) := Lib.hid (fun s hs => by
    have h2 := outN_blk x
    have h4 : outN (bsN { data := #[] }) 0 x = outN [] 0 x := rfl
    have h5 : s = mkS (textB (blkT x)) := by rw [hs, ← h2]; rfl
    have h6 : AllLt 256 (textB (blkT x)) := by
      exact textB_lt _
    have h7 := congrArg List.length h2
    simp only [List.length_nil] at hol
    rw [h5]
    refine ⟨bsN_mkS h6, mkS_size _, ?_⟩
    rw [mkS_size]; omega)
  have HGD := Lib.hid (fun h : checkT x = 0 => good_of h)
  obtain ⟨p0, p1, p2, p3, p4⟩ := cells5 hx
  have HXZ := Lib.hid hx
  have HOL : Hid (([] : List Value).length + (outN (bsN { data := #[] }) 0 x).length ≤ 140000000000000) := Lib.hid (by
    have h4 : outN (bsN { data := #[] }) 0 x = outN [] 0 x := rfl
    rw [h4]
    simp only [List.length_nil] at hol ⊢
    omega)
  clear h hb hx hsm hct hol
  go_enter Tryz.func7, Tryz.ntmps7
  go_wp2_with fail
  generalize w.alloc (.cells #[.int .u8 (x.kind : Int), .string x.text, .slice ka x.keys.length kc, .slice ba x.kids.length bc, .int .i64 x.line] 25) = w1 at *
  refine HCK.out.mono ?_
  rintro e w2 ⟨rfl, hb2⟩
  have HB2 := Lib.hid (HB.out.trans (hb2.mono HB.out.size))
  have HN2 := Lib.hid (HN.out.belowW hb2)
  have HX2 := Lib.hid ((hb2.block _ hw1).trans HXZ.out)
  have r0 := cellB hb2 p0
  have r1 := cellB hb2 p1
  have r2 := cellB hb2 p2
  have r3 := cellB hb2 p3
  have r4 := cellB hb2 p4
  clear hb2 p0 p1 p2 p3 p4
  by_cases hc : checkT x = 0
  · obtain ⟨hg, hd⟩ := HGD.out hc
    have HG := Lib.hid hg
    have HDP := Lib.hid hd
    have HC0 := Lib.hid hc
    clear hg hd
    rw [hc]
    clear hc
    have hb3 := (Below.refl w2.heap.size w2).alloc (Nat.le_refl _) (.cells #[.pointer none, .slice none 0 0] 55)
    have hfr := Lib.fresh_isBuilder 55 5 w2
    have hsz3 : w2.heap.size ≤ (w2.alloc (.cells #[.pointer none, .slice none 0 0] 55)).heap.size := by simp
    have s0 := cellB hb3 r0
    have s1 := cellB hb3 r1
    have s2 := cellB hb3 r2
    have s3 := cellB hb3 r3
    have s4 := cellB hb3 r4
    have HB3 := Lib.hid hb3
    have HWR := Lib.hid (write_any w2 x _ w2.heap.size w2.heap.size 0 [] { data := #[] } { data := #[] } _ HN2.out hb3 (Nat.le_refl _) hfr hsz3 (.inr rfl) HG.out ⟨16, HDP.out, by decide⟩ HOL.out)
    clear hb3 hfr
    go_wp2_with fail
    refine HWR.out.mono ?_
    rintro e w4 ⟨rfl, hI4, hb4, _⟩
    rw [List.nil_append] at hI4
    have HI4 := Lib.hid hI4
    have HB4 := Lib.hid (HB2.out.trans ((HB3.out.trans (hb4.mono (Nat.le_refl _))).mono HB2.out.size))
    have HSZ4 := Lib.hid (Nat.le_trans hsz3 hb4.size)
    clear hI4 hb4 s0 s1 s2 s3 s4 r0 r1 r2 r3 r4
    obtain ⟨hp1, hp2, hp3⟩ := HPL.out _ rfl
    have HP1 := Lib.hid hp1
    have HP2 := Lib.hid hp2
    clear hp1 hp2
    generalize outS { data := #[] } 0 x = s at *
    go_wp2_with fail
    refine (bLen_any w2.heap.size w2.heap.size _ w4 HI4.out).mono ?_
    rintro e w5 ⟨rfl, rfl⟩
    rw [Lib.strCells_length]
    by_cases hz : s.size ≤ 1048576
    · have d1 : decide ((1048576 : Int) < (s.size : Int)) = false := decide_eq_false (by omega)
      go_wp2_with fail
      refine (BString_any w2.heap.size w2.heap.size s.data.toList w4 HI4.out HSZ4.out).mono ?_
      rintro e w5 ⟨rfl, hb5⟩
      have HB5 := Lib.hid (HB4.out.trans (hb5.mono HB2.out.size))
      clear hb5
      go_wp2_with fail
      go_ret2
      exact ⟨s, 0, rfl, .inr ⟨rfl, HC0.out, HP1.out, hz⟩, HB5.out⟩
    · have d1 : decide ((1048576 : Int) < (s.size : Int)) = true := decide_eq_true (by omega)
      go_wp2_with fail
      go_ret2
      exact ⟨_, 2, rfl, .inl ⟨by decide, rfl⟩, HB4.out⟩
  · have d1 : (checkT x == 0) = false := beq_eq_false_iff_ne.2 hc
    have HC := Lib.hid hc
    generalize checkT x = z at *
    go_wp2_with fail
    go_ret2
    exact ⟨_, z, rfl, .inl ⟨HC.out, rfl⟩, HB2.out⟩
end Go.Proofs.YtdhgcgejdoedbaaGreatDoor

/-
  tok.Deep.
-/
namespace Go.Proofs.YtdhgcgejdoedbaaGreatDoor
open Go.RowKit Go.WideShapes

theorem cells4t {W : World} {B : Nat} {a b c d : Value} {t : TypeId} (h : W.heap[B]? = some (.cells #[a, b, c, d] t (0, 0))) : W.cell? ⟨B, 0, none⟩ = some a ∧ W.cell? ⟨B, 1, none⟩ = some b ∧ W.cell? ⟨B, 2, none⟩ = some c ∧ W.cell? ⟨B, 3, none⟩ = some d := by
  simp [World.cell?, h]
theorem toks_at {w : World} {v : Value} {l : List TokD} (h : RdS w v 4 l.length (l.flatMap tokC)) {j : Nat} (hj : j < l.length) :
    ∃ g off cap, v = .slice (some ⟨g, off, none⟩) l.length cap ∧ w.cell? ⟨g, off + j * 4, none⟩ = some (.int .u8 (l[j].1 : Int)) ∧ w.cell? ⟨g, off + j * 4 + 1, none⟩ = some (.string l[j].2.1) ∧ w.cell? ⟨g, off + j * 4 + 2, none⟩ = some (.int .i64 (l[j].2.2.1 : Nat)) ∧ w.cell? ⟨g, off + j * 4 + 3, none⟩ = some (.int .i64 (l[j].2.2.2 : Nat)) := by
  rcases h.cases (by decide) with ⟨h0, _⟩ | ⟨_, _, g, off, cap, rfl, _, _, h3⟩
  · omega
  · have hx (i : Nat) (hi : i < 4) (c : Value) (hc : (tokC l[j])[i]? = some c) : w.cell? ⟨g, off + j * 4 + i, none⟩ = some c := by
      rw [Nat.add_assoc]; exact h3 _ _ ((tokC_get l j hj i hi).trans hc)
    exact ⟨g, off, cap, rfl, hx 0 (by decide) _ rfl, hx 1 (by decide) _ rfl, hx 2 (by decide) _ rfl, hx 3 (by decide) _ rfl⟩
theorem deep_room (l : List TokD) : ∀ j : Nat, -(j : Int) ≤ ((l.take j).foldl deepS (0, 0)).1 ∧ ((l.take j).foldl deepS (0, 0)).1 ≤ j ∧ 0 ≤ ((l.take j).foldl deepS (0, 0)).2 ∧ ((l.take j).foldl deepS (0, 0)).2 ≤ j := by
  intro j
  induction j with
  | zero => simp
  | succ j ih =>
    by_cases h : j < l.length
    · rw [List.take_succ_eq_append_getElem h, List.foldl_append, List.foldl_cons, List.foldl_nil]
      generalize (l.take j).foldl deepS (0, 0) = s at *
      unfold deepS
      split
      · simp only; omega
      · split
        · simp only; omega
        · omega
    · rw [List.take_of_length_le (by omega)] at ih ⊢
      omega
set_option maxRecDepth 100000 in
set_option maxHeartbeats 2000000 in
theorem Deep_any (l : List TokD) (v : Value) (w : World) (h : RdS w v 4 l.length (l.flatMap tokC)) (hl : l.length ≤ 10000000) :
    Calls Tryz.prog 10 #[v] w fun e w' => e = .returned (.int .i64 (l.foldl deepS (0, 0)).2) ∧ Below w.heap.size w w' := by
  have hmx := @run_max2 Tryz.prog
  obtain ⟨va, vc, rfl⟩ := h.form
  have HR := Lib.hid h
  have HRM := Lib.hid (deep_room l)
  have HB := Lib.hid (Below.refl w.heap.size w)
  clear h
  go_enter Tryz.func10, Tryz.ntmps10
  go_wp2_with fail
  go_step3
  go_wp2_with fail
  go_step3
  go_wp2_with fail
  go_loopg [9, 3, 4] (l.length + 1) (fun gk iv nv mv wr => ∃ j : Nat, j + gk = l.length + 1 ∧ j ≤ l.length ∧ iv = .int .i64 j ∧ (∃ n m : Int, nv = .int .i64 n ∧ mv = .int .i64 m ∧ Hid ((l.take j).foldl deepS (0, 0) = (n, m))) ∧ Hid (Below w.heap.size w wr))
  case atStart => exact ⟨0, by omega, by omega, rfl, ⟨0, 0, rfl, rfl, Lib.hid rfl⟩, HB⟩
  case round =>
    obtain ⟨j, hgk, hj, rfl, ⟨n, m, rfl, rfl, HF⟩, HBr⟩ := hrel
    have hg : gk = l.length + 1 - j := by omega
    subst hg
    by_cases hjl : j < l.length
    · have hj1 : (j : Int) < (l.length : Int) := by omega
      have d1 : decide ((j : Int) < (l.length : Int)) = true := decide_eq_true (by omega)
      have hrm := HRM.out j
      rw [HF.out] at hrm
      simp only at hrm
      obtain ⟨m1, m2, m3, m4⟩ := hrm
      obtain ⟨g, off, cap, he, x0, x1, x2, x3⟩ := toks_at (HR.out.below HBr.out) hjl
      obtain ⟨rfl, rfl⟩ : va = some ⟨g, off, none⟩ ∧ vc = cap := by injection he with e1 e2 e3; exact ⟨e1, e3⟩
      have HST : Hid ((l.take (j + 1)).foldl deepS (0, 0) = deepS (n, m) l[j]) := Lib.hid (by rw [List.take_succ_eq_append_getElem hjl, List.foldl_append, List.foldl_cons, List.foldl_nil, HF.out])
      generalize l[j].2.1 = tx at *
      generalize l[j].2.2.1 = tn at *
      generalize l[j].2.2.2 = tc at *
      obtain ⟨k, hk⟩ : ∃ k, k = l[j].1 := ⟨_, rfl⟩
      rw [← hk] at x0
      have HDS : Hid (deepS (n, m) l[j] = if k = 1 then (n + 1, max m (n + 1)) else if k = 2 then (n - 1, max m (n - 1)) else (n, m)) := Lib.hid (by rw [hk]; rfl)
      have hbk := (Below.refl wr.heap.size wr).alloc (Nat.le_refl _) (.cells #[.int .u8 (k : Int), .string tx, .int .i64 (tn : Nat), .int .i64 (tc : Nat)] 39)
      have HB1 := Lib.hid (HBr.out.trans (hbk.mono HBr.out.size))
      obtain ⟨y0, -, -, -⟩ := cells4t (World.alloc_heap_new wr (.cells #[.int .u8 (k : Int), .string tx, .int .i64 (tn : Nat), .int .i64 (tc : Nat)] 39))
      clear hbk hk he
      by_cases h1 : k = 1
      · have d2 : ((k : Int) == 1) = true := beq_iff_eq.2 (by omega)
        rw [if_pos h1] at HDS
        clear h1
        go_wp2_with fail
        go_roundg (l.length + 1 - (j + 1))
        case measure => omega
        case rel => exact ⟨j + 1, by omega, by omega, rfl, ⟨n + 1, max m (n + 1), rfl, rfl, Lib.hid (by rw [HST.out, HDS.out])⟩, HB1⟩
      · have d2 : ((k : Int) == 1) = false := beq_eq_false_iff_ne.2 (by omega)
        rw [if_neg h1] at HDS
        by_cases h2 : k = 2
        · have d3 : ((k : Int) == 2) = true := beq_iff_eq.2 (by omega)
          rw [if_pos h2] at HDS
          clear h1 h2
          go_wp2_with fail
          go_roundg (l.length + 1 - (j + 1))
          case measure => omega
          case rel => exact ⟨j + 1, by omega, by omega, rfl, ⟨n - 1, max m (n - 1), rfl, rfl, Lib.hid (by rw [HST.out, HDS.out])⟩, HB1⟩
        · have d3 : ((k : Int) == 2) = false := beq_eq_false_iff_ne.2 (by omega)
          rw [if_neg h2] at HDS
          clear h1 h2
          go_wp2_with fail
          go_roundg (l.length + 1 - (j + 1))
          case measure => omega
          case rel => exact ⟨j + 1, by omega, by omega, rfl, ⟨n, m, rfl, rfl, Lib.hid (by rw [HST.out, HDS.out])⟩, HB1⟩
    · have d1 : decide ((j : Int) < (l.length : Int)) = false := decide_eq_false (by omega)
      obtain rfl : j = l.length := by omega
      have hF := HF.out
      rw [List.take_length] at hF
      have HF2 := Lib.hid hF
      clear hF
      go_wp2_with fail
      rw [Exit.noGoto_ret]
      exact bodyPost_ret (v := .int .i64 m) (by simp [results, Tryz.results10, go_sem]) rfl ⟨by rw [HF2.out], HBr.out⟩
end Go.Proofs.YtdhgcgejdoedbaaGreatDoor

/-
  block.reader: kind, here, take, inline: contracts.
-/
namespace Go.Proofs.YtdhgcgejdoedbaaGreatDoor
open Go.RowKit Go.WideShapes

structure OffR (R : Nat) (W W' : World) : Prop where
  b : Below R W W'
  same : ∀ k, k < W.heap.size → k ≠ R → W'.heap[k]? = W.heap[k]?
theorem OffR.refl (R : Nat) (W : World) : OffR R W W := ⟨Below.refl R W, fun _ _ _ => rfl⟩
theorem OffR.trans {R : Nat} {A B C : World} (h : OffR R A B) (k : OffR R B C) : OffR R A C := ⟨h.b.trans k.b, fun i hi hn => (k.same i (Nat.lt_of_lt_of_le hi h.b.size) hn).trans (h.same i hi hn)⟩
theorem OffR.of_below {R : Nat} {W W' : World} (h : Below W.heap.size W W') (hR : R ≤ W.heap.size) : OffR R W W' := ⟨h.mono hR, fun k hk _ => h.block k hk⟩
theorem OffR.set (R i : Nat) (W : World) (x : Value) : OffR R W (W.setCell ⟨R, i, none⟩ x) := ⟨(Below.refl R W).setCell (p := ⟨R, i, none⟩) (Nat.le_refl _) x, fun k _ hn => Below.heap_setCell W ⟨R, i, none⟩ x k hn⟩
theorem OffR.size {R : Nat} {W W' : World} (h : OffR R W W') : W.heap.size ≤ W'.heap.size := h.b.size
def lvA (g off cap k : Nat) : Option Addr := some ⟨g, off + min k (cap - 1) * 4, none⟩
structure TokS (w0 : World) (g off cap : Nat) (l : List TokD) : Prop where
  n : l.length ≤ cap
  c : cap ≤ 9223372036854775807
  len : l.length ≤ 1000000
  ln : ∀ t ∈ l.map erE, t.2.2.1 ≤ 1000000000
  at_ : ∀ j u, (l.flatMap tokC)[j]? = some u → w0.cell? ⟨g, off + j, none⟩ = some u
structure RdR (w0 : World) (R g off cap : Nat) (l : List TokD) (k : Nat) (W : World) : Prop where
  cell : W.heap[R]? = some (.cells #[.slice (some ⟨g, off, none⟩) l.length cap, .slice (lvA g off cap k) (l.length - k) (cap - k)] 102 (0, 0))
  lo : w0.heap.size ≤ R
  b : Below w0.heap.size w0 W
  k : k ≤ l.length
  s : TokS w0 g off cap l
theorem RdR.lt {w0 : World} {R g off cap : Nat} {l : List TokD} {k : Nat} {W : World} (h : RdR w0 R g off cap l k W) : R < W.heap.size := (Array.getElem?_eq_some_iff.1 h.cell).1
theorem RdR.below {w0 : World} {R g off cap : Nat} {l : List TokD} {k : Nat} {W W' : World} (h : RdR w0 R g off cap l k W) (hb : Below W.heap.size W W') : RdR w0 R g off cap l k W' :=
  ⟨(hb.block R h.lt).trans h.cell, h.lo, h.b.trans (hb.mono h.b.size), h.k, h.s⟩
theorem RdR.cells {w0 : World} {R g off cap : Nat} {l : List TokD} {k : Nat} {W : World} (h : RdR w0 R g off cap l k W) : W.cell? ⟨R, 0, none⟩ = some (.slice (some ⟨g, off, none⟩) l.length cap) ∧ W.cell? ⟨R, 1, none⟩ = some (.slice (lvA g off cap k) (l.length - k) (cap - k)) ∧ W.frozen? ⟨R, 1, none⟩ = false := by
  refine ⟨?_, ?_, ?_⟩ <;> simp [World.cell?, World.frozen?, h.cell]
theorem RdR.next {w0 : World} {R g off cap : Nat} {l : List TokD} {k : Nat} {W : World} (h : RdR w0 R g off cap l k W) {t : TokD} (ht : l[k]? = some t) :
    ∃ o m c, lvA g off cap k = some ⟨g, o, none⟩ ∧ l.length - k = m + 1 ∧ cap - k = c + 1 ∧ m ≤ 1000000 ∧ c ≤ 9223372036854775807 ∧ m ≤ c ∧ W.cell? ⟨g, o, none⟩ = some (.int .u8 (t.1 : Int)) ∧ W.cell? ⟨g, o + 1, none⟩ = some (.string t.2.1) ∧ W.cell? ⟨g, o + 2, none⟩ = some (.int .i64 (t.2.2.1 : Nat)) ∧ W.cell? ⟨g, o + 3, none⟩ = some (.int .i64 (t.2.2.2 : Nat)) ∧
      (if c = 0 then some (⟨g, o, none⟩ : Addr) else some ⟨g, o + 4, none⟩) = lvA g off cap (k + 1) ∧ l.length - (k + 1) = m ∧ cap - (k + 1) = c := by
  obtain ⟨hk, rfl⟩ := List.getElem?_eq_some_iff.1 ht
  have h1 := h.s.n
  have h2 := h.s.c
  have h3 := h.s.len
  have hm : min k (cap - 1) = k := by omega
  have hx (i : Nat) (hi : i < 4) (u : Value) (hc : (tokC l[k])[i]? = some u) : W.cell? ⟨g, off + k * 4 + i, none⟩ = some u := by
    have := h.s.at_ (k * 4 + i) u ((tokC_get l k hk i hi).trans hc)
    rw [Nat.add_assoc]
    exact cellB h.b this
  refine ⟨off + k * 4, l.length - k - 1, cap - k - 1, by unfold lvA; rw [hm], by omega, by omega, by omega, by omega, by omega, hx 0 (by decide) _ rfl, hx 1 (by decide) _ rfl, hx 2 (by decide) _ rfl, hx 3 (by decide) _ rfl, ?_, by omega, by omega⟩
  unfold lvA
  split
  · have : min (k + 1) (cap - 1) = k := by omega
    rw [this]
  · have : min (k + 1) (cap - 1) = k + 1 := by omega
    rw [this, Nat.add_mul]
    simp [Nat.add_assoc]
def kndN (l : List TokD) (k : Nat) : Nat := (l.getD k noTok).1
theorem kndN_lt {l : List TokD} {k : Nat} {t : TokD} (h : l[k]? = some t) : kndN l k = t.1 := by unfold kndN; simp [List.getD, h]
theorem kndN_no {l : List TokD} {k : Nat} (h : ¬ k < l.length) : kndN l k = 0 := by unfold kndN; simp [List.getD, h, noTok]
section
variable {w0 : World} {R g off cap : Nat} {l : List TokD} {k : Nat}
set_option maxRecDepth 100000 in
theorem kind_any (W : World) (h : RdR w0 R g off cap l k W) : Calls Tryz.prog 68 #[.pointer (some ⟨R, 0, none⟩)] W fun e W' => e = .returned (.int .u8 (kndN l k : Int)) ∧ W = W' := by
  obtain ⟨p0, p1, f1⟩ := h.cells
  by_cases hk : k < l.length
  · have ht := List.getElem?_eq_getElem hk
    obtain ⟨o, m, c, e1, e2, e3, b1, b2, b3, x0, -, -, -, -, -⟩ := h.next ht
    rw [e1, e2, e3] at p1
    have hz : (((m : Int) + 1) == 0) = false := beq_eq_false_iff_ne.2 (by omega)
    have l1 : (0 : Int) < (m : Int) + 1 := by omega
    rw [kndN_lt ht]
    generalize l[k].1 = K at *
    clear h e1 e2 e3 p0 f1 hk ht
    go_enter Tryz.func68, Tryz.ntmps68
    go_wp2_with fail
    go_ret
    exact ⟨rfl, rfl⟩
  · have e2 : l.length - k = 0 := by omega
    rw [e2] at p1
    rw [kndN_no hk]
    generalize cap - k = c at *
    unfold lvA at p1
    clear h p0 f1 e2 hk
    go_enter Tryz.func68, Tryz.ntmps68
    go_wp2_with fail
    go_ret
    exact ⟨rfl, rfl⟩
def tokV (t : TokD) : Value := .agg #[.int .u8 (t.1 : Nat), .string t.2.1, .int .i64 (t.2.2.1 : Nat), .int .i64 (t.2.2.2 : Nat)]
theorem set4w {W : World} {B : Nat} {a b c d x0 x1 x2 x3 : Value} {t : TypeId} (h : W.heap[B]? = some (.cells #[a, b, c, d] t (0, 0))) :
    ((((W.setCell ⟨B, 0, none⟩ x0).setCell ⟨B, 1, none⟩ x1).setCell ⟨B, 2, none⟩ x2).setCell ⟨B, 3, none⟩ x3).heap[B]? = some (.cells #[x0, x1, x2, x3] t (0, 0)) := by
  simp [World.setCell, h, Array.getElem?_modify]
theorem set4w_other {W : World} {B k : Nat} {x0 x1 x2 x3 : Value} (h : k ≠ B) :
    ((((W.setCell ⟨B, 0, none⟩ x0).setCell ⟨B, 1, none⟩ x1).setCell ⟨B, 2, none⟩ x2).setCell ⟨B, 3, none⟩ x3).heap[k]? = W.heap[k]? := by
  rw [Below.heap_setCell _ _ _ _ h, Below.heap_setCell _ _ _ _ h, Below.heap_setCell _ _ _ _ h, Below.heap_setCell _ _ _ _ h]
theorem cells4f {W : World} {B : Nat} {a b c d : Value} {t : TypeId} (h : W.heap[B]? = some (.cells #[a, b, c, d] t (0, 0))) : W.cell? ⟨B, 0, none⟩ = some a ∧ W.cell? ⟨B, 1, none⟩ = some b ∧ W.cell? ⟨B, 2, none⟩ = some c ∧ W.cell? ⟨B, 3, none⟩ = some d ∧ W.frozen? ⟨B, 0, none⟩ = false ∧ W.frozen? ⟨B, 1, none⟩ = false ∧ W.frozen? ⟨B, 2, none⟩ = false ∧ W.frozen? ⟨B, 3, none⟩ = false := by
  simp [World.cell?, World.frozen?, h]
theorem set4w_below {n : Nat} {w W : World} (hb : Below n w W) {B : Nat} {x0 x1 x2 x3 : Value} (h : n ≤ B) :
    Below n w ((((W.setCell ⟨B, 0, none⟩ x0).setCell ⟨B, 1, none⟩ x1).setCell ⟨B, 2, none⟩ x2).setCell ⟨B, 3, none⟩ x3) :=
  (((hb.setCell (p := ⟨B, 0, none⟩) h _).setCell (p := ⟨B, 1, none⟩) h _).setCell (p := ⟨B, 2, none⟩) h _).setCell (p := ⟨B, 3, none⟩) h _
set_option maxRecDepth 100000 in
set_option maxHeartbeats 1000000 in
theorem here_any (W : World) (h : RdR w0 R g off cap l k W) (t : TokD) (ht : l[k]? = some t) : Calls Tryz.prog 67 #[.pointer (some ⟨R, 0, none⟩)] W fun e W' => e = .returned (tokV t) ∧ Below W.heap.size W W' := by
  have hb := (Below.refl W.heap.size W).alloc (Nat.le_refl _) (.cells #[.int .u8 0, .string { data := #[] }, .int .i64 0, .int .i64 0] 39)
  obtain ⟨p0, p1, f1⟩ := (h.below hb).cells
  obtain ⟨o, m, c, e1, e2, e3, b1, b2, b3, x0, x1, x2, x3, -, -⟩ := (h.below hb).next ht
  rw [e1, e2, e3] at p1
  have hz : (((m : Int) + 1) == 0) = false := beq_eq_false_iff_ne.2 (by omega)
  have l1 : (0 : Int) < (m : Int) + 1 := by omega
  obtain ⟨K, tx, tn, tc⟩ := t
  simp only at x0 x1 x2 x3
  have HP := Lib.hid (World.alloc_heap_new W (.cells #[.int .u8 (K : Nat), .string tx, .int .i64 (tn : Nat), .int .i64 (tc : Nat)] 39))
  have HB := Lib.hid ((Below.refl W.heap.size W).alloc (Nat.le_refl _) (.cells #[.int .u8 (K : Nat), .string tx, .int .i64 (tn : Nat), .int .i64 (tc : Nat)] 39))
  clear h e1 e2 e3 p0 f1 ht hb
  go_enter Tryz.func67, Tryz.ntmps67
  go_wp2_with fail
  generalize W.alloc (.cells #[.int .u8 (K : Nat), .string tx, .int .i64 (tn : Nat), .int .i64 (tc : Nat)] 39) = W2 at *
  obtain ⟨y0, y1, y2, y3⟩ := cells4t HP.out
  exact bodyPost_ret (v := .agg #[.int .u8 (K : Nat), .string tx, .int .i64 (tn : Nat), .int .i64 (tc : Nat)]) (by simp [results, Tryz.results67, go_sem, y0, y1, y2, y3]) rfl ⟨rfl, HB.out⟩
theorem RdR.taken {W : World} (h : RdR w0 R g off cap l k W) (hk : k < l.length) {v : Value} (hv : v = .slice (lvA g off cap (k + 1)) (l.length - (k + 1)) (cap - (k + 1))) : RdR w0 R g off cap l (k + 1) (W.setCell ⟨R, 1, none⟩ v) := by
  subst hv
  exact ⟨set_at1 _ h.cell, h.lo, h.b.setCell (p := ⟨R, 1, none⟩) h.lo _, hk, h.s⟩
set_option maxRecDepth 100000 in
set_option maxHeartbeats 2000000 in
theorem take_any (W : World) (h : RdR w0 R g off cap l k W) (t : TokD) (ht : l[k]? = some t) : Calls Tryz.prog 69 #[.pointer (some ⟨R, 0, none⟩)] W fun e W' => e = .returned (tokV t) ∧ RdR w0 R g off cap l (k + 1) W' ∧ OffR R W W' := by
  have hmn := @run_min2 Tryz.prog
  have hb := (Below.refl W.heap.size W).alloc (Nat.le_refl _) (.cells #[.int .u8 0, .string { data := #[] }, .int .i64 0, .int .i64 0] 39)
  have hT := World.alloc_heap_new W (.cells #[.int .u8 0, .string { data := #[] }, .int .i64 0, .int .i64 0] 39)
  have hT1 : W.heap.size < (W.alloc (.cells #[.int .u8 0, .string { data := #[] }, .int .i64 0, .int .i64 0] 39)).heap.size := by simp
  have hRl := h.lt
  have HR1 := Lib.hid (h.below hb)
  have HH := Lib.hid (here_any _ HR1.out t ht)
  have HB := Lib.hid hb
  have HT := Lib.hid hT
  have HK := Lib.hid ht
  have HRL := Lib.hid hRl
  have HT1 := Lib.hid hT1
  clear h hb hT ht hRl hT1
  go_enter Tryz.func69, Tryz.ntmps69
  go_wp2_with fail
  generalize W.alloc (.cells #[.int .u8 0, .string { data := #[] }, .int .i64 0, .int .i64 0] 39) = W1 at *
  refine HH.out.mono ?_
  rintro e W2 ⟨rfl, hb2⟩
  obtain ⟨tk, tx, tn, tc⟩ := t
  unfold tokV
  have hb3 := (Below.refl W2.heap.size W2).alloc (Nat.le_refl _) (.cells #[.int .u8 (tk : Nat), .string tx, .int .i64 (tn : Nat), .int .i64 (tc : Nat)] 39)
  have HR3 := Lib.hid ((HR1.out.below hb2).below hb3)
  have HB3 := Lib.hid ((HB.out.trans (hb2.mono HB.out.size)).trans (hb3.mono (Nat.le_trans HB.out.size hb2.size)))
  have HT3 := Lib.hid ((hb3.block _ (Nat.lt_of_lt_of_le HT1.out hb2.size)).trans ((hb2.block _ HT1.out).trans HT.out))
  have HY3 := Lib.hid (World.alloc_heap_new W2 (.cells #[.int .u8 (tk : Nat), .string tx, .int .i64 (tn : Nat), .int .i64 (tc : Nat)] 39))
  have hTW : W.heap.size < W2.heap.size := Nat.lt_of_lt_of_le HT1.out hb2.size
  clear hb2 hb3
  go_upto_region 2 with fail
  generalize W2.alloc (.cells #[.int .u8 (tk : Nat), .string tx, .int .i64 (tn : Nat), .int .i64 (tc : Nat)] 39) = W3 at *
  obtain ⟨o, m, c, e1, e2, e3, b1, b2, b3, -, -, -, -, e4, e5, e6⟩ := HR3.out.next HK.out
  obtain ⟨-, p1, f1⟩ := HR3.out.cells
  rw [e1, e2, e3] at p1
  have l1 : (1 : Int) ≤ (m : Int) + 1 := by omega
  have hmm : min (1 : Int) ((m : Int) + 1) = 1 := by omega
  clear e1 e2 e3
  have hRW := HRL.out
  have hne2 : W2.heap.size ≠ R := by omega
  have hneT : W.heap.size ≠ R := by omega
  have HR4 := Lib.hid ((HR3.out.taken (List.getElem?_eq_some_iff.1 HK.out).1 (v := .slice (lvA g off cap (k + 1)) m c) (by rw [e5, e6])).below (Below.refl _ _).drew)
  have HO4 := Lib.hid (((OffR.of_below HB3.out (Nat.le_of_lt HRL.out)).trans (OffR.set R 1 W3 (.slice (lvA g off cap (k + 1)) m c))).trans (OffR.of_below (Below.refl _ _).drew (Nat.le_of_lt HR4.out.lt)))
  have HY4 := Lib.hid ((Below.heap_setCell W3 ⟨R, 1, none⟩ (.slice (lvA g off cap (k + 1)) m c) W2.heap.size hne2).trans HY3.out)
  have HT4 := Lib.hid ((Below.heap_setCell W3 ⟨R, 1, none⟩ (.slice (lvA g off cap (k + 1)) m c) W.heap.size hneT).trans HT3.out)
  clear e5 e6 hne2 hneT
  refine E_region (S := (fun V => V.cell? ⟨R, 1, none⟩ = some (.slice (some ⟨g, o, none⟩) (m + 1) (c + 1)) ∧ V.frozen? ⟨R, 1, none⟩ = false)) 14 (by kernel_rfl) ⟨p1, f1⟩ (fun _ _ _ _ _ h => h) (fun Q' hQ hK' hHeld => ?_)
  refine E_take0 hQ (fun _ => hHeld) 0 (v := ?rtv1) rfl rfl (by kernel_rfl) (by kernel_rfl) (by kernel_rfl) (by decide) (by rfl) ?rty1 ?rtr1
  case rty1 => (intro w; go_simp; (try with_reducible rfl))
  (try simp only [layE])
  refine E_take0 hQ (fun _ => hHeld) 1 (v := ?rtv2) rfl rfl (by kernel_rfl) (by kernel_rfl) (by kernel_rfl) (by decide) (by rfl) ?rty2 ?rtr2
  case rty2 => (intro w; go_simp; (try with_reducible rfl))
  (try simp only [layE])
  refine E_take0 hQ (fun _ => hHeld) 2 (v := ?rtv3) rfl rfl (by kernel_rfl) (by kernel_rfl) (by kernel_rfl) (by decide) (by rfl) ?rty3 ?rtr3
  case rty3 => (intro w; go_simp; (try with_reducible rfl))
  (try simp only [layE])
  refine E_take0 hQ (fun _ => hHeld) 3 (v := ?rtv4) rfl rfl (by kernel_rfl) (by kernel_rfl) (by kernel_rfl) (by decide) (by rfl) ?rty4 ?rtr4
  case rty4 => (intro w; go_simp; (try with_reducible rfl))
  (try simp only [layE])
  refine E_take hQ hHeld 4 (v := ?rtv5) rfl rfl (by kernel_rfl) (by kernel_rfl) (by kernel_rfl) (by kernel_rfl) (by kernel_rfl) (by rfl) ?rty5 ?rtr5
  case rty5 => (intro w hSw; (try dsimp only at hSw); go_simp; (try with_reducible rfl))
  (try simp only [layE])
  refine E_take0 hQ (fun _ => hHeld) 5 (v := ?rtv6) rfl rfl (by kernel_rfl) (by kernel_rfl) (by kernel_rfl) (by decide) (by rfl) ?rty6 ?rtr6
  case rty6 => (intro w; go_simp; (try with_reducible rfl))
  (try simp only [layE])
  refine E_take0 hQ (fun _ => hHeld) 6 (v := ?rtv7) rfl rfl (by kernel_rfl) (by kernel_rfl) (by kernel_rfl) (by decide) (by rfl) ?rty7 ?rtr7
  case rty7 => (intro w; go_simp; (try with_reducible rfl))
  (try simp only [layE])
  refine E_take0 hQ (fun _ => hHeld) 7 (v := ?rtv8) rfl rfl (by kernel_rfl) (by kernel_rfl) (by kernel_rfl) (by decide) (by rfl) ?rty8 ?rtr8
  case rty8 => (intro w; go_simp; (try with_reducible rfl))
  (try simp only [layE])
  refine E_take hQ hHeld 8 (v := ?rtv9) rfl rfl (by kernel_rfl) (by kernel_rfl) (by kernel_rfl) (by kernel_rfl) (by kernel_rfl) (by rfl) ?rty9 ?rtr9
  case rty9 => (intro w hSw; (try dsimp only at hSw); go_simp; (try with_reducible rfl))
  (try simp only [layE])
  refine E_take0 hQ (fun _ => hHeld) 9 (v := ?rtv10) rfl rfl (by kernel_rfl) (by kernel_rfl) (by kernel_rfl) (by decide) (by rfl) ?rty10 ?rtr10
  case rty10 => (intro w; go_simp; (try with_reducible rfl))
  (try simp only [layE])
  refine E_take0 hQ (fun _ => hHeld) 10 (v := ?rtv11) rfl rfl (by kernel_rfl) (by kernel_rfl) (by kernel_rfl) (by decide) (by rfl) ?rty11 ?rtr11
  case rty11 => (intro w; go_simp; (try with_reducible rfl))
  (try simp only [layE])
  refine E_take0 hQ (fun _ => hHeld) 11 (v := ?rtv12) rfl rfl (by kernel_rfl) (by kernel_rfl) (by kernel_rfl) (by decide) (by rfl) ?rty12 ?rtr12
  case rty12 => (intro w; go_simp; (try with_reducible rfl))
  (try simp only [layE])
  refine E_take0 hQ (fun _ => hHeld) 12 (v := ?rtv13) rfl rfl (by kernel_rfl) (by kernel_rfl) (by kernel_rfl) (by decide) (by rfl) ?rty13 ?rtr13
  case rty13 => (intro w; go_simp; (try with_reducible rfl))
  (try simp only [layE])
  refine E_take0 hQ (fun _ => hHeld) 13 (v := ?rtv14) rfl rfl (by kernel_rfl) (by kernel_rfl) (by kernel_rfl) (by decide) (by rfl) ?rty14 ?rtr14
  case rty14 => (intro w; go_simp; (try with_reducible rfl))
  (try simp only [layE])
  refine E_one 14 (by kernel_rfl) rfl (by rfl) (fun K hK => ?_)
  have e1 := hHeld.1
  have e2 := hHeld.2
  go_simp
  (try simp only [layE])
  refine hK.out _ _ (fun _ h => absurd rfl h) (fun _ => ?_)
  clear hK hHeld
  (try simp only [layE])
  refine E_done (by kernel_rfl) ?_ _
  refine hK'.out _ _ ?_
  have hT4 : ((W3.setCell ⟨R, 1, none⟩ (.slice (lvA g off cap (k + 1)) m c)).drew).heap[W.heap.size]? = some (.cells #[.int .u8 0, .string { data := #[] }, .int .i64 0, .int .i64 0] 39 (0, 0)) := HT4.out
  have hY4 : ((W3.setCell ⟨R, 1, none⟩ (.slice (lvA g off cap (k + 1)) m c)).drew).heap[W2.heap.size]? = some (.cells #[.int .u8 (tk : Nat), .string tx, .int .i64 (tn : Nat), .int .i64 (tc : Nat)] 39 (0, 0)) := HY4.out
  clear HT4 HY4 p1 f1 hmm l1 e4
  generalize (W3.setCell ⟨R, 1, none⟩ (.slice (lvA g off cap (k + 1)) m c)).drew = W4 at *
  obtain ⟨y0, y1, y2, y3⟩ := cells4t hY4
  obtain ⟨s0, s1, s2, s3, u0, u1, u2, u3⟩ := cells4f hT4
  have HT5 := Lib.hid (set4w (x0 := .int .u8 (tk : Nat)) (x1 := .string tx) (x2 := .int .i64 (tn : Nat)) (x3 := .int .i64 (tc : Nat)) hT4)
  have HS5 := Lib.hid (fun k (hk : k ≠ W.heap.size) => set4w_other (x0 := .int .u8 (tk : Nat)) (x1 := .string tx) (x2 := .int .i64 (tn : Nat)) (x3 := .int .i64 (tc : Nat)) (W := W4) (B := W.heap.size) (k := k) hk)
  have HB5 := Lib.hid (set4w_below (x0 := .int .u8 (tk : Nat)) (x1 := .string tx) (x2 := .int .i64 (tn : Nat)) (x3 := .int .i64 (tc : Nat)) (Below.refl W.heap.size W4) (B := W.heap.size) (Nat.le_refl _))
  clear hT4 hY4
  go_wp2_with fail
  generalize (((W4.setCell ⟨W.heap.size, 0, none⟩ (.int .u8 (tk : Nat))).setCell ⟨W.heap.size, 1, none⟩ (.string tx)).setCell ⟨W.heap.size, 2, none⟩ (.int .i64 (tn : Nat))).setCell ⟨W.heap.size, 3, none⟩ (.int .i64 (tc : Nat)) = W5 at *
  obtain ⟨z0, z1, z2, z3⟩ := cells4t HT5.out
  refine bodyPost_ret (v := .agg #[.int .u8 (tk : Nat), .string tx, .int .i64 (tn : Nat), .int .i64 (tc : Nat)]) (by simp [results, Tryz.results69, go_sem, z0, z1, z2, z3]) rfl ⟨rfl, ?_, ?_⟩
  · exact ⟨(HS5.out R (by omega)).trans HR4.out.cell, HR4.out.lo, HR4.out.b.trans (HB5.out.mono (by have := HR4.out.lo; omega)), HR4.out.k, HR4.out.s⟩
  · exact ⟨HO4.out.b.trans (HB5.out.mono (by omega)), fun k hk hn => (HB5.out.block k hk).trans (HO4.out.same k hk hn)⟩
end
theorem field_tok1 (c0 c2 c3 : Value) (t : ByteArray) (w : World) : (Instr.field 39 (.agg #[c0, .string t, c2, c3]) 1).run Tryz.prog w = .ok (.string t) w := by kernel_rfl
theorem field_tok2 (c0 c1 c3 : Value) (n : Int) (w : World) : (Instr.field 39 (.agg #[c0, c1, .int .i64 n, c3]) 2).run Tryz.prog w = .ok (.int .i64 n) w := by kernel_rfl
section
variable {w0 : World} {R g off cap : Nat} {l : List TokD} {k : Nat}
def inlB (t : TokD) (n : Int) : Bool := (t.1 == 5 || t.1 == 6 || t.1 == 7) && ((t.2.2.1 : Int) == n)
set_option maxRecDepth 100000 in
theorem inline_any (W : World) (h : RdR w0 R g off cap l k W) (t : TokD) (ht : l[k]? = some t) (n : Int) : Calls Tryz.prog 98 #[.pointer (some ⟨R, 0, none⟩), .int .i64 n] W fun e W' => e = .returned (.bool (inlB t n)) ∧ Below W.heap.size W W' := by
  have hf2 := field_tok2
  have HK := Lib.hid (kind_any W h)
  have HH := Lib.hid (here_any W h t ht)
  rw [kndN_lt ht] at HK
  have HB := Lib.hid (Below.refl W.heap.size W)
  have hi : inlB t n = ((t.1 == 5 || t.1 == 6 || t.1 == 7) && ((t.2.2.1 : Int) == n)) := rfl
  obtain ⟨K, tx, tn, tc⟩ := t
  simp only at hi HK
  rw [hi]
  clear h ht hi
  unfold tokV at HH
  go_enter Tryz.func98, Tryz.ntmps98
  go_wp2_with fail
  refine HK.out.mono ?_
  rintro e w1 ⟨rfl, rfl⟩
  by_cases h5 : K = 5
  · have d1 : ((K : Int) == 5) = true := beq_iff_eq.2 (by omega)
    have HI : Hid (((K == 5 || K == 6 || K == 7) && ((tn : Int) == n)) = ((tn : Int) == n)) := Lib.hid (by simp [h5])
    clear h5
    go_wp2_with fail
    refine HH.out.mono ?_
    rintro e w2 ⟨rfl, hb2⟩
    have HB2 := Lib.hid hb2
    clear hb2
    go_wp2_with fail
    go_ret
    exact ⟨by rw [HI.out]; simp, HB2.out⟩
  · have d1 : ((K : Int) == 5) = false := beq_eq_false_iff_ne.2 (by omega)
    by_cases h6 : K = 6
    · have d2 : ((K : Int) == 6) = true := beq_iff_eq.2 (by omega)
      have HI : Hid (((K == 5 || K == 6 || K == 7) && ((tn : Int) == n)) = ((tn : Int) == n)) := Lib.hid (by simp [h6])
      clear h5 h6
      go_wp2_with fail
      refine HH.out.mono ?_
      rintro e w2 ⟨rfl, hb2⟩
      have HB2 := Lib.hid hb2
      clear hb2
      go_wp2_with fail
      go_ret
      exact ⟨by rw [HI.out]; simp, HB2.out⟩
    · have d2 : ((K : Int) == 6) = false := beq_eq_false_iff_ne.2 (by omega)
      by_cases h7 : K = 7
      · have d3 : ((K : Int) == 7) = true := beq_iff_eq.2 (by omega)
        have HI : Hid (((K == 5 || K == 6 || K == 7) && ((tn : Int) == n)) = ((tn : Int) == n)) := Lib.hid (by simp [h7])
        clear h5 h6 h7
        go_wp2_with fail
        refine HH.out.mono ?_
        rintro e w2 ⟨rfl, hb2⟩
        have HB2 := Lib.hid hb2
        clear hb2
        go_wp2_with fail
        go_ret
        exact ⟨by rw [HI.out]; simp, HB2.out⟩
      · have d3 : ((K : Int) == 7) = false := beq_eq_false_iff_ne.2 (by omega)
        have HI : Hid (((K == 5 || K == 6 || K == 7) && ((tn : Int) == n)) = false) := Lib.hid (by simp [h5, h6, h7])
        clear h5 h6 h7
        go_wp2_with fail
        go_ret
        exact ⟨by rw [HI.out]; rfl, HB.out⟩
end
end Go.Proofs.YtdhgcgejdoedbaaGreatDoor
