/-
  rescriptlaw26.live: contract.
-/
import Derived.Test.YtlpcagkknfajeaaGk
namespace Go.Proofs.Ytlpcagkknfajeaa
open Go.RowKit

theorem rds_lit {W : World} {g : Nat} {l : List Int} {t : TypeId} {fr : Nat × Nat} (h : W.heap[g]? = some (.cells (ints .i64 l).toArray t fr)) (hl : l.length ≤ 1073741824) : RdS W (.slice (some ⟨g, 0, none⟩) l.length l.length) 1 l.length (ints .i64 l) := by
  refine ⟨by simp [ints], _, _, rfl, Nat.le_refl _, by unfold maxLen; omega, .inr ⟨g, 0, rfl, fun i c hi => ?_⟩⟩
  simp only [World.cell?, h, Nat.zero_add, Option.bind_some]
  simpa using hi
theorem rds_none (W : World) : RdS W (.slice none 0 0) 1 ([] : List Int).length (ints .i64 []) := ⟨rfl, none, 0, rfl, Nat.le_refl _, Nat.zero_le _, .inl rfl⟩
theorem rows_lit {W : World} {g : Nat} {ss : List Value} {t : TypeId} {fr : Nat × Nat} (rows : List (List Int)) (h : W.heap[g]? = some (.cells ss.toArray t fr)) (hl : ss.length = rows.length) (hm : rows.length ≤ 1073741824)
    (hr : ∀ (i : Nat) (r : List Int), rows[i]? = some r → ∃ c : Value, ss[i]? = some c ∧ RdS W c 1 r.length (ints .i64 r)) : Rows2 W (.slice (some ⟨g, 0, none⟩) rows.length rows.length) rows := by
  refine ⟨ss, ⟨by omega, _, _, rfl, Nat.le_refl _, by unfold maxLen; omega, .inr ⟨g, 0, rfl, fun i c hi => ?_⟩⟩, hl, hr⟩
  simp only [World.cell?, h, Nat.zero_add, Option.bind_some]
  simpa using hi

/-- Three rows of which two were built: where each lies. -/
theorem lit_two (w : World) (l1 l2 : List Int) (o : Obj) (t1 t2 : TypeId) (h1 : l1.length ≤ 1073741824) (h2 : l2.length ≤ 1073741824) :
    RdS (((w.alloc (.cells (ints .i64 l1).toArray t1)).alloc (.cells (ints .i64 l2).toArray t2)).alloc o) (.slice (some ⟨w.heap.size, 0, none⟩) l1.length l1.length) 1 l1.length (ints .i64 l1) ∧
    RdS (((w.alloc (.cells (ints .i64 l1).toArray t1)).alloc (.cells (ints .i64 l2).toArray t2)).alloc o) (.slice (some ⟨w.heap.size + 1, 0, none⟩) l2.length l2.length) 1 l2.length (ints .i64 l2) := by
  refine ⟨rds_lit (t := t1) (fr := (0, 0)) ?_ h1, rds_lit (t := t2) (fr := (0, 0)) ?_ h2⟩
  · rw [Below.heap_alloc _ _ _ (by simp; omega), Below.heap_alloc _ _ _ (by simp)]
    exact World.alloc_heap_new w _
  · have := World.alloc_heap_new (w.alloc (.cells (ints .i64 l1).toArray t1)) (.cells (ints .i64 l2).toArray t2)
    rw [World.size_alloc] at this
    rw [Below.heap_alloc _ _ _ (by simp)]
    exact this
theorem two_new (w : World) (o1 o2 o3 : Obj) : (((w.alloc o1).alloc o2).alloc o3).heap[w.heap.size + 1 + 1]? = some o3 := by
  have := World.alloc_heap_new ((w.alloc o1).alloc o2) o3
  rw [World.size_alloc, World.size_alloc] at this
  exact this
theorem two_below (w : World) (o1 o2 o3 : Obj) : Below w.heap.size w (((w.alloc o1).alloc o2).alloc o3) := ((((Below.refl _ w).alloc (Nat.le_refl _) _).alloc (by simp) _).alloc (by simp; omega) _)

abbrev cI (l : List Int) : Obj := .cells (ints .i64 l).toArray 3
theorem litA (w : World) : Rows2 (((w.alloc (.cells #[.int .i64 1] 3)).alloc (.cells #[.int .i64 0, .int .i64 9] 3)).alloc (.cells #[.slice (some ⟨w.heap.size, 0, none⟩) 1 1, .slice none 0 0, .slice (some ⟨w.heap.size + 1, 0, none⟩) 2 2] 46)) (.slice (some ⟨w.heap.size + 1 + 1, 0, none⟩) 3 3) [[1], [], [0, 9]] := by
  have hl := lit_two w [1] [0, 9] (.cells #[.slice (some ⟨w.heap.size, 0, none⟩) 1 1, .slice none 0 0, .slice (some ⟨w.heap.size + 1, 0, none⟩) 2 2] 46) 3 3 (by decide) (by decide)
  refine rows_lit [[1], [], [0, 9]] (two_new w _ _ _) rfl (by decide) fun i r hi => ?_
  rcases i with _ | _ | _ | i
  · cases hi; exact ⟨_, rfl, hl.1⟩
  · cases hi; exact ⟨_, rfl, rds_none _⟩
  · cases hi; exact ⟨_, rfl, hl.2⟩
  · cases hi
theorem litB (w : World) : Rows2 (((w.alloc (.cells #[.int .i64 1] 3)).alloc (.cells #[.int .i64 0] 3)).alloc (.cells #[.slice (some ⟨w.heap.size, 0, none⟩) 1 1, .slice (some ⟨w.heap.size + 1, 0, none⟩) 1 1, .slice none 0 0] 46)) (.slice (some ⟨w.heap.size + 1 + 1, 0, none⟩) 3 3) [[1], [0], []] := by
  have hl := lit_two w [1] [0] (.cells #[.slice (some ⟨w.heap.size, 0, none⟩) 1 1, .slice (some ⟨w.heap.size + 1, 0, none⟩) 1 1, .slice none 0 0] 46) 3 3 (by decide) (by decide)
  refine rows_lit [[1], [0], []] (two_new w _ _ _) rfl (by decide) fun i r hi => ?_
  rcases i with _ | _ | _ | i
  · cases hi; exact ⟨_, rfl, hl.1⟩
  · cases hi; exact ⟨_, rfl, hl.2⟩
  · cases hi; exact ⟨_, rfl, rds_none _⟩
  · cases hi
theorem litC (w : World) : Rows2 (((w.alloc (.cells #[.int .i64 1] 3)).alloc (.cells #[.int .i64 0] 3)).alloc (.cells #[.slice (some ⟨w.heap.size, 0, none⟩) 1 1, .slice (some ⟨w.heap.size + 1, 0, none⟩) 1 1] 46)) (.slice (some ⟨w.heap.size + 1 + 1, 0, none⟩) 2 2) [[1], [0]] := by
  have hl := lit_two w [1] [0] (.cells #[.slice (some ⟨w.heap.size, 0, none⟩) 1 1, .slice (some ⟨w.heap.size + 1, 0, none⟩) 1 1] 46) 3 3 (by decide) (by decide)
  refine rows_lit [[1], [0]] (two_new w _ _ _) rfl (by decide) fun i r hi => ?_
  rcases i with _ | _ | i
  · cases hi; exact ⟨_, rfl, hl.1⟩
  · cases hi; exact ⟨_, rfl, hl.2⟩
  · cases hi
theorem litD (w : World) (z : Int) : Rows2 (((w.alloc (.cells #[.int .i64 1] 3)).alloc (.cells #[.int .i64 z] 3)).alloc (.cells #[.slice (some ⟨w.heap.size, 0, none⟩) 1 1, .slice none 0 0, .slice (some ⟨w.heap.size + 1, 0, none⟩) 1 1] 46)) (.slice (some ⟨w.heap.size + 1 + 1, 0, none⟩) 3 3) [[1], [], [z]] := by
  have hl := lit_two w [1] [z] (.cells #[.slice (some ⟨w.heap.size, 0, none⟩) 1 1, .slice none 0 0, .slice (some ⟨w.heap.size + 1, 0, none⟩) 1 1] 46) 3 3 (by decide) (by simp)
  refine rows_lit [[1], [], [z]] (two_new w _ _ _) rfl (by simp) fun i r hi => ?_
  rcases i with _ | _ | _ | i
  · cases hi; exact ⟨_, rfl, hl.1⟩
  · cases hi; exact ⟨_, rfl, rds_none _⟩
  · cases hi; exact ⟨_, rfl, hl.2⟩
  · cases hi
theorem litF (w : World) (o : Obj) : Rows2 (((w.alloc (.cells #[.int .i64 0] 3)).alloc (.cells #[.slice none 0 0, .slice (some ⟨w.heap.size, 0, none⟩) 1 1] 46)).alloc o) (.slice (some ⟨w.heap.size + 1, 0, none⟩) 2 2) [[], [0]] := by
  have h1 : RdS (((w.alloc (.cells #[.int .i64 0] 3)).alloc (.cells #[.slice none 0 0, .slice (some ⟨w.heap.size, 0, none⟩) 1 1] 46)).alloc o) (.slice (some ⟨w.heap.size, 0, none⟩) 1 1) 1 ([0] : List Int).length (ints .i64 [0]) := by
    refine rds_lit (l := [0]) (t := 3) (fr := (0, 0)) ?_ (by decide)
    rw [Below.heap_alloc _ _ _ (by simp; omega), Below.heap_alloc _ _ _ (by simp)]
    exact World.alloc_heap_new w _
  have h2 : (((w.alloc (.cells #[.int .i64 0] 3)).alloc (.cells #[.slice none 0 0, .slice (some ⟨w.heap.size, 0, none⟩) 1 1] 46)).alloc o).heap[w.heap.size + 1]? = some (.cells #[.slice none 0 0, .slice (some ⟨w.heap.size, 0, none⟩) 1 1] 46) := by
    have := World.alloc_heap_new (w.alloc (.cells #[.int .i64 0] 3)) (.cells #[.slice none 0 0, .slice (some ⟨w.heap.size, 0, none⟩) 1 1] 46)
    rw [World.size_alloc] at this
    rw [Below.heap_alloc _ _ _ (by simp)]
    exact this
  refine rows_lit [[], [0]] h2 rfl (by decide) fun i r hi => ?_
  rcases i with _ | _ | i
  · cases hi; exact ⟨_, rfl, rds_none _⟩
  · cases hi; exact ⟨_, rfl, h1⟩
  · cases hi

theorem callA (w : World) : Calls Try.prog 18 #[.slice (some ⟨w.heap.size + 1 + 1, 0, none⟩) 3 3] (((w.alloc (.cells #[.int .i64 1] 3)).alloc (.cells #[.int .i64 0, .int .i64 9] 3)).alloc (.cells #[.slice (some ⟨w.heap.size, 0, none⟩) 1 1, .slice none 0 0, .slice (some ⟨w.heap.size + 1, 0, none⟩) 2 2] 46)) fun e w' => ∃ v', e = .returned (.tuple #[v', .bool true]) ∧ RdS w' v' 1 3 (ints .i64 [1, 0, 2]) ∧ Below w.heap.size w w' := by
  refine (Order_any [[1], [], [0, 9]] _ _ (litA w) (by decide)).mono ?_
  rintro e w' ⟨v', rfl, ho, hb⟩
  have e1 : ordO [[1], [], [0, 9]] = [1, 0, 2] := by decide
  rw [e1] at ho ⊢
  exact ⟨v', rfl, RdS.of_owns ho, (two_below w _ _ _).trans (hb.mono (by simp; omega))⟩
theorem callB (w : World) : Calls Try.prog 18 #[.slice (some ⟨w.heap.size + 1 + 1, 0, none⟩) 3 3] (((w.alloc (.cells #[.int .i64 1] 3)).alloc (.cells #[.int .i64 0] 3)).alloc (.cells #[.slice (some ⟨w.heap.size, 0, none⟩) 1 1, .slice (some ⟨w.heap.size + 1, 0, none⟩) 1 1, .slice none 0 0] 46)) fun e w' => ∃ v', e = .returned (.tuple #[v', .bool false]) ∧ RdS w' v' 1 1 (ints .i64 [2]) ∧ Below w.heap.size w w' := by
  refine (Order_any [[1], [0], []] _ _ (litB w) (by decide)).mono ?_
  rintro e w' ⟨v', rfl, ho, hb⟩
  have e1 : ordO [[1], [0], []] = [2] := by decide
  rw [e1] at ho ⊢
  exact ⟨v', rfl, RdS.of_owns ho, (two_below w _ _ _).trans (hb.mono (by simp; omega))⟩
theorem callC (w : World) : Calls Try.prog 32 #[.slice (some ⟨w.heap.size + 1 + 1, 0, none⟩) 2 2] (((w.alloc (.cells #[.int .i64 1] 3)).alloc (.cells #[.int .i64 0] 3)).alloc (.cells #[.slice (some ⟨w.heap.size, 0, none⟩) 1 1, .slice (some ⟨w.heap.size + 1, 0, none⟩) 1 1] 46)) fun e w' => ∃ v', e = .returned v' ∧ RdS w' v' 1 2 (ints .i64 [0, 1]) ∧ Below w.heap.size w w' := by
  refine (Round_any [[1], [0]] _ _ (litC w) (by decide)).mono ?_
  rintro e w' ⟨v', rfl, ho, hb⟩
  have e1 : rndL [[1], [0]] ([[1], [0]] : List (List Int)).length = [0, 1] := by decide
  rw [e1] at ho
  exact ⟨v', rfl, RdS.of_owns ho, (two_below w _ _ _).trans (hb.mono (by simp; omega))⟩
theorem callD (w : World) : Calls Try.prog 22 #[.slice (some ⟨w.heap.size + 1 + 1, 0, none⟩) 3 3, .int .i64 2] (((w.alloc (.cells #[.int .i64 1] 3)).alloc (.cells #[.int .i64 0] 3)).alloc (.cells #[.slice (some ⟨w.heap.size, 0, none⟩) 1 1, .slice none 0 0, .slice (some ⟨w.heap.size + 1, 0, none⟩) 1 1] 46)) fun e w' => ∃ v', e = .returned v' ∧ RdS w' v' 1 2 (ints .i64 [0, 1]) ∧ Below w.heap.size w w' := by
  refine (Before_any [[1], [], [0]] 2 _ _ (litD w 0) (by decide)).mono ?_
  rintro e w' ⟨v', rfl, ho, hb⟩
  have e1 : befL [[1], [], [0]] 2 = [0, 1] := by decide
  rw [e1] at ho
  exact ⟨v', rfl, RdS.of_owns ho, (two_below w _ _ _).trans (hb.mono (by simp; omega))⟩
theorem callE (w : World) : Calls Try.prog 33 #[.slice (some ⟨w.heap.size + 1 + 1, 0, none⟩) 3 3, .int .i64 1] (((w.alloc (.cells #[.int .i64 1] 3)).alloc (.cells #[.int .i64 1] 3)).alloc (.cells #[.slice (some ⟨w.heap.size, 0, none⟩) 1 1, .slice none 0 0, .slice (some ⟨w.heap.size + 1, 0, none⟩) 1 1] 46)) fun e w' => ∃ v', e = .returned v' ∧ RdS w' v' 1 2 (ints .i64 [0, 2]) ∧ Below w.heap.size w w' := by
  refine (Behind_any [[1], [], [1]] 1 _ _ (litD w 1) (by decide)).mono ?_
  rintro e w' ⟨v', rfl, ho, hb⟩
  have e1 : behL [[1], [], [1]] 1 ([[1], [], [1]] : List (List Int)).length = [0, 2] := by decide
  rw [e1] at ho
  exact ⟨v', rfl, RdS.of_owns ho, (two_below w _ _ _).trans (hb.mono (by simp; omega))⟩
theorem callF (w : World) : Calls Try.prog 34 #[.slice (some ⟨w.heap.size + 1, 0, none⟩) 2 2, .slice (some ⟨w.heap.size + 1 + 1, 0, none⟩) 1 1] (((w.alloc (.cells #[.int .i64 0] 3)).alloc (.cells #[.slice none 0 0, .slice (some ⟨w.heap.size, 0, none⟩) 1 1] 46)).alloc (.cells #[.bool true] 4)) fun e w' => ∃ v', e = .returned v' ∧ RdS w' v' 1 1 (ints .i64 [1]) ∧ Below w.heap.size w w' := by
  refine (Ready_any [[], [0]] [true] _ _ _ (litF w _) (bools_rds (th := [true]) (two_new w _ _ _) (by decide)) (by decide)).mono ?_
  rintro e w' ⟨v', rfl, ho, hb⟩
  have e1 : rdyL [[], [0]] [true] ([[], [0]] : List (List Int)).length = [1] := by decide
  rw [e1] at ho
  exact ⟨v', rfl, RdS.of_owns ho, (two_below w _ _ _).trans (hb.mono (by simp; omega))⟩
theorem callG (w : World) : Calls Try.prog 17 #[.slice (some ⟨w.heap.size + 1 + 1, 0, none⟩) 3 3] (((w.alloc (.cells #[.int .i64 1] 3)).alloc (.cells #[.int .i64 0] 3)).alloc (.cells #[.slice (some ⟨w.heap.size, 0, none⟩) 1 1, .slice none 0 0, .slice (some ⟨w.heap.size + 1, 0, none⟩) 1 1] 46)) fun e w' => e = .returned (.int .i64 3) ∧ Below w.heap.size w w' := by
  refine (Longest_any [[1], [], [0]] _ _ (litD w 0) (by decide)).mono ?_
  rintro e w' ⟨rfl, hb⟩
  have e1 : lonO [[1], [], [0]] = 3 := by decide
  rw [e1]
  exact ⟨rfl, (two_below w _ _ _).trans (hb.mono (by simp; omega))⟩
theorem callS (l : List Int) (w : World) (v : Value) (hv : RdS w v 1 l.length (ints .i64 l)) (hl : l.length ≤ 1073741824) : Calls Try.prog 21 #[v, .slice (some ⟨w.heap.size, 0, none⟩) l.length l.length] (w.alloc (.cells (ints .i64 l).toArray 3)) fun e w' => e = .returned (.bool true) ∧ Below w.heap.size w w' := by
  have hb0 : Below w.heap.size w (w.alloc (.cells (ints .i64 l).toArray 3)) := (Below.refl _ w).alloc (Nat.le_refl _) _
  refine (gSame_true _ _ l _ (hv.below hb0) (rds_lit (World.alloc_heap_new w _) hl)).mono ?_
  rintro e w' ⟨rfl, hb⟩
  exact ⟨rfl, hb0.trans (hb.mono (by simp))⟩

set_option maxRecDepth 100000 in
set_option maxHeartbeats 1000000 in
theorem live26_any (w : World) : Calls Try.prog 12 #[] w fun e w' => e = .returned (.bool true) ∧ Below w.heap.size w w' := by
  go_enter Try.func12, Try.ntmps12
  go_wp2_with fail
  refine (callA _).mono ?_
  rintro e w1 ⟨vo, rfl, ho, hb1⟩
  have HO := Lib.hid ho
  have HB1 := Lib.hid hb1
  clear ho hb1
  go_wp2_with fail
  refine (callB _).mono ?_
  rintro e w2 ⟨vp, rfl, hp, hb2⟩
  have HP := Lib.hid hp
  have HB2 := Lib.hid (bthen HB1.out (Nat.le_refl _) hb2)
  have HO2 := Lib.hid (HO.out.below hb2)
  clear hp hb2 HO
  go_wp2_with fail
  refine (callS [1, 0, 2] _ _ HO2.out (by decide)).mono ?_
  rintro e w3 ⟨rfl, hb3⟩
  have HB3 := Lib.hid (bthen HB2.out (Nat.le_refl _) hb3)
  have HP3 := Lib.hid (HP.out.below hb3)
  clear HP hb3
  go_wp2_with fail
  refine (callS [2] _ _ HP3.out (by decide)).mono ?_
  rintro e w4 ⟨rfl, hb4⟩
  have HB4 := Lib.hid (bthen HB3.out (Nat.le_refl _) hb4)
  clear hb4
  go_wp2_with fail
  refine (callC _).mono ?_
  rintro e w5 ⟨v5, rfl, h5, hb5⟩
  have H5 := Lib.hid h5
  have HB5 := Lib.hid (bthen HB4.out (Nat.le_refl _) hb5)
  clear h5 hb5
  go_wp2_with fail
  refine (callS [0, 1] _ _ H5.out (by decide)).mono ?_
  rintro e w6 ⟨rfl, hb6⟩
  have HB6 := Lib.hid (bthen HB5.out (Nat.le_refl _) hb6)
  clear hb6
  go_wp2_with fail
  refine (callD _).mono ?_
  rintro e w7 ⟨v7, rfl, h7, hb7⟩
  have H7 := Lib.hid h7
  have HB7 := Lib.hid (bthen HB6.out (Nat.le_refl _) hb7)
  clear h7 hb7
  go_wp2_with fail
  refine (callS [0, 1] _ _ H7.out (by decide)).mono ?_
  rintro e w8 ⟨rfl, hb8⟩
  have HB8 := Lib.hid (bthen HB7.out (Nat.le_refl _) hb8)
  clear hb8
  go_wp2_with fail
  refine (callE _).mono ?_
  rintro e w9 ⟨v9, rfl, h9, hb9⟩
  have H9 := Lib.hid h9
  have HB9 := Lib.hid (bthen HB8.out (Nat.le_refl _) hb9)
  clear h9 hb9
  go_wp2_with fail
  refine (callS [0, 2] _ _ H9.out (by decide)).mono ?_
  rintro e w10 ⟨rfl, hb10⟩
  have HB10 := Lib.hid (bthen HB9.out (Nat.le_refl _) hb10)
  clear hb10
  go_wp2_with fail
  refine (callF _).mono ?_
  rintro e w11 ⟨v11, rfl, h11, hb11⟩
  have H11 := Lib.hid h11
  have HB11 := Lib.hid (bthen HB10.out (Nat.le_refl _) hb11)
  clear h11 hb11
  go_wp2_with fail
  refine (callS [1] _ _ H11.out (by decide)).mono ?_
  rintro e w12 ⟨rfl, hb12⟩
  have HB12 := Lib.hid (bthen HB11.out (Nat.le_refl _) hb12)
  clear hb12
  go_wp2_with fail
  refine (callG _).mono ?_
  rintro e w13 ⟨rfl, hb13⟩
  have HB13 := Lib.hid (bthen HB12.out (Nat.le_refl _) hb13)
  clear hb13
  go_wp2
  go_ret
  exact ⟨rfl, HB13.out⟩
end Go.Proofs.Ytlpcagkknfajeaa
