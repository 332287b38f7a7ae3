/-
  tok.sign, part.tok, part.behind, part.none: contracts.
-/
import Derived.Shelf.Small.Wraps
import Derived.Test.YtdhgcgejdoedbaaGreatDoorBw29
namespace Go.Proofs.YtdhgcgejdoedbaaGreatDoor
open Go.Shelf Go.RowKit Go.WideShapes
def Tryz.cutPre_ren : Go.Shelf.Ren := ⟨fun | 103 => 108 | 210 => 118 | 206 => 110 | n => n, fun | 9 => 9 | 4 => 4 | 24 => 153 | 3 => 3 | n => n, fun | n => n⟩
theorem Tryz.cutPre : Go.Proofs.Lays.n103 Tryz.prog Tryz.cutPre_ren where
  mixed := by kernel_rfl
  f103 := Tryz.func108.trans (congrArg some (by kernel_rfl))
  f206 := Tryz.func110.trans (congrArg some (by kernel_rfl))
  f210 := Tryz.func118.trans (congrArg some (by kernel_rfl))
  t3 := Tryz.underlying3
  a3 := Tryz.isAgg3
  z3 := Tryz.sizeOf3
  v3 := Tryz.zeroValue3
  t4 := Tryz.underlying4
  a4 := Tryz.isAgg4
  z4 := Tryz.sizeOf4
  v4 := Tryz.zeroValue4
  t9 := Tryz.underlying9
  a9 := Tryz.isAgg9
  z9 := Tryz.sizeOf9
  v9 := Tryz.zeroValue9
  t24 := Tryz.underlying153
  a24 := Tryz.isAgg153
  z24 := Tryz.sizeOf153
  v24 := Tryz.zeroValue153

def signN (s : List Nat) (c : Nat) : Bool := match s with
  | [] => false
  | a :: r => decide (a = c) && (decide (r = []) || decide (r.head? = some 32))
theorem hasPre_nat (s p : ByteArray) : Lib.hasPrefix s.data.toList p.data.toList = (bsN p).isPrefixOf (bsN s) := hasPre_bytes s p
theorem trimPre_nat (s p : ByteArray) (c : Nat) (hp : bsN p = [c]) : (⟨(Lib.trimPrefix s.data.toList p.data.toList).toArray⟩ : ByteArray) = if (bsN s).head? = some c then mkS ((bsN s).drop 1) else s := by
  unfold Lib.trimPrefix
  rw [hasPre_nat, hp]
  have hpl : p.data.toList.length = 1 := by
    have := congrArg List.length hp
    rw [bsN_len] at this
    simpa using this
  have hh : [c].isPrefixOf (bsN s) = decide ((bsN s).head? = some c) := by
    cases bsN s with
    | nil => rfl
    | cons a l =>
      simp only [List.isPrefixOf, Bool.and_true, List.head?_cons, Option.some.injEq]
      rw [Bool.eq_iff_iff]
      simp only [beq_iff_eq, decide_eq_true_eq]
      exact eq_comm
  rw [hh]
  by_cases h : (bsN s).head? = some c
  · rw [if_pos (by simpa using h), if_pos h, hpl]
    refine bsN_ext ?_
    rw [bsN_mkS (fun b hb => bsN_lt s b (List.mem_of_mem_drop hb))]
    unfold bsN
    rw [List.map_drop]
  · rw [if_neg (by simpa using h), if_neg h]
theorem tkCutPre_any (s p : ByteArray) (c : Nat) (hp : bsN p = [c]) (w : World) :
    Calls Tryz.prog 108 #[.string s, .string p] w fun e w' => e = .returned (.tuple #[.string (if (bsN s).head? = some c then mkS ((bsN s).drop 1) else s), .bool (decide ((bsN s).head? = some c))]) ∧ w' = w := by
  have := Any.strings_CutPrefix Tryz.cutPre s p w
  rw [trimPre_nat s p c hp] at this
  rw [hasPre_nat, hp] at this
  have hh : [c].isPrefixOf (bsN s) = decide ((bsN s).head? = some c) := by
    cases bsN s with
    | nil => rfl
    | cons a l =>
      simp only [List.isPrefixOf, Bool.and_true, List.head?_cons, Option.some.injEq]
      rw [Bool.eq_iff_iff]
      simp only [beq_iff_eq, decide_eq_true_eq]
      exact eq_comm
  rw [hh] at this
  exact this
set_option maxRecDepth 100000 in
theorem tkSign_any (s p : ByteArray) (c : Nat) (hp : bsN p = [c]) (w : World) :
    Calls Tryz.prog 91 #[.string s, .string p] w fun e w' => e = .returned (.bool (signN (bsN s) c)) ∧ w' = w := by
  have HC := Lib.hid (fun w => tkCutPre_any s p c hp w)
  cases hs : bsN s with
  | nil =>
    rw [hs] at HC
    go_enter Tryz.func91, Tryz.ntmps91
    go_wp2_with fail
    refine (HC.out _).mono ?_
    rintro e w1 ⟨rfl, rfl⟩
    go_wp2_with fail
    go_ret
    exact ⟨rfl, rfl⟩
  | cons a r =>
    rw [hs] at HC
    simp only [List.head?_cons, Option.some.injEq, List.drop_succ_cons, List.drop_zero] at HC
    by_cases h : a = c
    · subst h
      rw [if_pos rfl, decide_eq_true rfl] at HC
      have hme := mkS_empty r
      have HR : Hid (signN (a :: r) a = (r.isEmpty || decide (r.head? = some 32))) := Lib.hid (by
        unfold signN
        simp only [decide_true, Bool.true_and]
        congr 1
        cases r <;> simp)
      have hrl : AllLt 256 r := fun b hb => bsN_lt s b (by rw [hs]; exact List.mem_cons_of_mem _ hb)
      have HP : Hid (∀ w, Calls Tryz.prog 99 #[.string (mkS r), .string { data := #[32] }] w fun e w' => e = .returned (.bool (decide (r.head? = some 32))) ∧ w' = w) := Lib.hid (fun w => by
        have := hasPre_any (mkS r) { data := #[32] } w
        rw [hasPre_nat, bsN_mkS hrl] at this
        have hh : (bsN { data := #[32] }).isPrefixOf r = decide (r.head? = some 32) := by
          show [32].isPrefixOf r = _
          cases r with
          | nil => rfl
          | cons a l =>
            simp only [List.isPrefixOf, Bool.and_true, List.head?_cons, Option.some.injEq]
            rw [Bool.eq_iff_iff]
            simp only [beq_iff_eq, decide_eq_true_eq]
            exact eq_comm
        rw [hh] at this
        exact this)
      generalize decide (r.head? = some 32) = hb at *
      cases hre : r.isEmpty with
      | true =>
        rw [hre] at hme HR
        generalize mkS r = ms at *
        go_enter Tryz.func91, Tryz.ntmps91
        go_wp2_with fail
        refine (HC.out _).mono ?_
        rintro e w1 ⟨rfl, rfl⟩
        go_wp2_with fail
        go_ret
        rw [HR.out]
        exact ⟨rfl, rfl⟩
      | false =>
        rw [hre] at hme HR
        generalize mkS r = ms at *
        go_enter Tryz.func91, Tryz.ntmps91
        go_wp2_with fail
        refine (HC.out _).mono ?_
        rintro e w1 ⟨rfl, rfl⟩
        go_wp2_with fail
        refine (HP.out _).mono ?_
        rintro e w1 ⟨rfl, rfl⟩
        go_wp2_with fail
        go_ret
        rw [HR.out]
        exact ⟨rfl, rfl⟩
    · rw [if_neg h, decide_eq_false h] at HC
      have HR : Hid (signN (a :: r) c = false) := Lib.hid (by unfold signN; simp [h])
      go_enter Tryz.func91, Tryz.ntmps91
      go_wp2_with fail
      refine (HC.out _).mono ?_
      rintro e w1 ⟨rfl, rfl⟩
      go_wp2_with fail
      go_ret
      rw [HR.out]
      exact ⟨rfl, rfl⟩

theorem tcells4 {W : World} {B : Nat} {t : TypeId} {c0 c1 c2 c3 : Value} (h : W.heap[B]? = some (.cells #[c0, c1, c2, c3] t (0, 0))) : W.cell? ⟨B, 0, none⟩ = some c0 ∧ W.cell? ⟨B, 1, none⟩ = some c1 ∧ W.cell? ⟨B, 2, none⟩ = some c2 ∧ W.cell? ⟨B, 3, none⟩ = some c3 ∧ W.frozen? ⟨B, 0, none⟩ = false ∧ W.frozen? ⟨B, 1, none⟩ = false ∧ W.frozen? ⟨B, 2, none⟩ = false ∧ W.frozen? ⟨B, 3, none⟩ = false := by
  refine ⟨?_, ?_, ?_, ?_, ?_, ?_, ?_, ?_⟩ <;> simp [World.cell?, World.frozen?, h]
theorem tcells3 {W : World} {B : Nat} {t : TypeId} {c0 c1 c2 : Value} (h : W.heap[B]? = some (.cells #[c0, c1, c2] t (0, 0))) : W.cell? ⟨B, 0, none⟩ = some c0 ∧ W.cell? ⟨B, 1, none⟩ = some c1 ∧ W.cell? ⟨B, 2, none⟩ = some c2 ∧ W.frozen? ⟨B, 0, none⟩ = false ∧ W.frozen? ⟨B, 1, none⟩ = false ∧ W.frozen? ⟨B, 2, none⟩ = false := by
  refine ⟨?_, ?_, ?_, ?_, ?_, ?_⟩ <;> simp [World.cell?, World.frozen?, h]
def st4 (W : World) (B : Nat) (x0 x1 x2 x3 : Value) : World := (((W.setCell ⟨B, 0, none⟩ x0).setCell ⟨B, 1, none⟩ x1).setCell ⟨B, 2, none⟩ x2).setCell ⟨B, 3, none⟩ x3
def st3 (W : World) (B : Nat) (x0 x1 x2 : Value) : World := ((W.setCell ⟨B, 0, none⟩ x0).setCell ⟨B, 1, none⟩ x1).setCell ⟨B, 2, none⟩ x2
theorem st4_at {W : World} {B : Nat} {t : TypeId} {c0 c1 c2 c3 : Value} (x0 x1 x2 x3 : Value) (h : W.heap[B]? = some (.cells #[c0, c1, c2, c3] t (0, 0))) : (st4 W B x0 x1 x2 x3).heap[B]? = some (.cells #[x0, x1, x2, x3] t (0, 0)) := by
  simp [st4, World.setCell, h, Array.getElem?_modify]
theorem st3_at {W : World} {B : Nat} {t : TypeId} {c0 c1 c2 : Value} (x0 x1 x2 : Value) (h : W.heap[B]? = some (.cells #[c0, c1, c2] t (0, 0))) : (st3 W B x0 x1 x2).heap[B]? = some (.cells #[x0, x1, x2] t (0, 0)) := by
  simp [st3, World.setCell, h, Array.getElem?_modify]
theorem st4_off {W : World} {B k : Nat} (x0 x1 x2 x3 : Value) (h : k ≠ B) : (st4 W B x0 x1 x2 x3).heap[k]? = W.heap[k]? := by
  unfold st4
  rw [Below.heap_setCell _ _ _ _ h, Below.heap_setCell _ _ _ _ h, Below.heap_setCell _ _ _ _ h, Below.heap_setCell _ _ _ _ h]
theorem st3_off {W : World} {B k : Nat} (x0 x1 x2 : Value) (h : k ≠ B) : (st3 W B x0 x1 x2).heap[k]? = W.heap[k]? := by
  unfold st3
  rw [Below.heap_setCell _ _ _ _ h, Below.heap_setCell _ _ _ _ h, Below.heap_setCell _ _ _ _ h]
theorem st4_below {n : Nat} {w W : World} {B : Nat} (x0 x1 x2 x3 : Value) (h : Below n w W) (hB : n ≤ B) : Below n w (st4 W B x0 x1 x2 x3) :=
  (((h.setCell (p := ⟨B, 0, none⟩) hB _).setCell (p := ⟨B, 1, none⟩) hB _).setCell (p := ⟨B, 2, none⟩) hB _).setCell (p := ⟨B, 3, none⟩) hB _
theorem st3_below {n : Nat} {w W : World} {B : Nat} (x0 x1 x2 : Value) (h : Below n w W) (hB : n ≤ B) : Below n w (st3 W B x0 x1 x2) :=
  ((h.setCell (p := ⟨B, 0, none⟩) hB _).setCell (p := ⟨B, 1, none⟩) hB _).setCell (p := ⟨B, 2, none⟩) hB _

set_option maxRecDepth 100000 in
theorem tkTok_any (n col : Nat) (s x : ByteArray) (k : Int) (w : World) :
    Calls Tryz.prog 92 #[.agg #[.int .i64 (n : Int), .int .i64 (col : Int), .string s], .int .u8 k, .string x] w fun e w' => e = .returned (.agg #[.int .u8 k, .string x, .int .i64 (n : Int), .int .i64 (col : Int)]) ∧ Below w.heap.size w w' := by
  go_enter Tryz.func92, Tryz.ntmps92
  go_wp2
  refine bodyPost_ret (v := .agg #[.int .u8 k, .string x, .int .i64 (n : Int), .int .i64 (col : Int)]) (by simp [results, Tryz.results92, go_sem]) rfl ⟨rfl, ((Below.refl _ w).alloc (Nat.le_refl _) _).alloc (by simp) _⟩
set_option maxRecDepth 100000 in
theorem tkNone_any (n col : Nat) (s : ByteArray) (w : World) :
    Calls Tryz.prog 94 #[.agg #[.int .i64 (n : Int), .int .i64 (col : Int), .string s]] w fun e w' => Below w.heap.size w w' ∧
      ((s = { data := #[91, 93] } ∧ e = .returned (.tuple #[.agg #[.int .u8 6, .string { data := #[] }, .int .i64 (n : Int), .int .i64 (col : Int)], .bool true])) ∨
       (s = { data := #[123, 125] } ∧ e = .returned (.tuple #[.agg #[.int .u8 7, .string { data := #[] }, .int .i64 (n : Int), .int .i64 (col : Int)], .bool true])) ∨
       ((s ≠ { data := #[91, 93] } ∧ s ≠ { data := #[123, 125] }) ∧ e = .returned (.tuple #[.agg #[.int .u8 0, .string { data := #[] }, .int .i64 0, .int .i64 0], .bool false]))) := by
  have HT := Lib.hid (fun k w => tkTok_any n col s { data := #[] } k w)
  by_cases h1 : s = { data := #[91, 93] }
  · subst h1
    go_enter Tryz.func94, Tryz.ntmps94
    go_wp2_with fail
    refine (HT.out _ _).mono ?_
    rintro e w1 ⟨rfl, hb⟩
    have hb0 : Below w.heap.size w ((w.alloc (.cells #[.int .i64 (n : Int), .int .i64 (col : Int), .string { data := #[91, 93] }] 122)).alloc (.cells #[.int .u8 0, .string { data := #[] }, .int .i64 0, .int .i64 0] 39)) := ((Below.refl _ w).alloc (Nat.le_refl _) _).alloc (by simp) _
    have hR0 : ((w.alloc (.cells #[.int .i64 (n : Int), .int .i64 (col : Int), .string { data := #[91, 93] }] 122)).alloc (.cells #[.int .u8 0, .string { data := #[] }, .int .i64 0, .int .i64 0] 39)).heap[w.heap.size + 1]? = some (.cells #[.int .u8 0, .string { data := #[] }, .int .i64 0, .int .i64 0] 39 (0, 0)) := by
      have := World.alloc_heap_new (w.alloc (.cells #[.int .i64 (n : Int), .int .i64 (col : Int), .string { data := #[91, 93] }] 122)) (.cells #[.int .u8 0, .string { data := #[] }, .int .i64 0, .int .i64 0] 39)
      rw [World.size_alloc] at this; exact this
    have hR1 := (hb.block _ (by simp)).trans hR0
    have hb1 := bthen hb0 (by simp <;> omega) hb
    obtain ⟨q0, q1, q2, q3, f0, f1, f2, f3⟩ := tcells4 hR1
    have HR1 := Lib.hid hR1
    have HB1 := Lib.hid hb1
    clear hb hb0 hR0 hR1 hb1
    go_wp2_with fail
    have h5 := st4_at (.int .u8 6) (.string { data := #[] }) (.int .i64 (n : Int)) (.int .i64 (col : Int)) HR1.out
    have hb5 := st4_below (.int .u8 6) (.string { data := #[] }) (.int .i64 (n : Int)) (.int .i64 (col : Int)) HB1.out (show w.heap.size ≤ w.heap.size + 1 by omega)
    change bodyPost Tryz.prog Tryz.f94 _ _ _ (st4 w1 (w.heap.size + 1) (.int .u8 6) (.string { data := #[] }) (.int .i64 (n : Int)) (.int .i64 (col : Int)))
    generalize st4 w1 (w.heap.size + 1) (.int .u8 6) (.string { data := #[] }) (.int .i64 (n : Int)) (.int .i64 (col : Int)) = W5 at *
    obtain ⟨r0, r1, r2, r3, -⟩ := tcells4 h5
    refine bodyPost_ret (v := .tuple #[.agg #[.int .u8 6, .string { data := #[] }, .int .i64 (n : Int), .int .i64 (col : Int)], .bool true]) (by simp [results, Tryz.results94, go_sem, r0, r1, r2, r3]) rfl ?_
    exact ⟨hb5, .inl ⟨by trivial, rfl⟩⟩
  · by_cases h2 : s = { data := #[123, 125] }
    · subst h2
      go_enter Tryz.func94, Tryz.ntmps94
      go_wp2_with fail
      refine (HT.out _ _).mono ?_
      rintro e w1 ⟨rfl, hb⟩
      have hb0 : Below w.heap.size w ((w.alloc (.cells #[.int .i64 (n : Int), .int .i64 (col : Int), .string { data := #[123, 125] }] 122)).alloc (.cells #[.int .u8 0, .string { data := #[] }, .int .i64 0, .int .i64 0] 39)) := ((Below.refl _ w).alloc (Nat.le_refl _) _).alloc (by simp) _
      have hR0 : ((w.alloc (.cells #[.int .i64 (n : Int), .int .i64 (col : Int), .string { data := #[123, 125] }] 122)).alloc (.cells #[.int .u8 0, .string { data := #[] }, .int .i64 0, .int .i64 0] 39)).heap[w.heap.size + 1]? = some (.cells #[.int .u8 0, .string { data := #[] }, .int .i64 0, .int .i64 0] 39 (0, 0)) := by
        have := World.alloc_heap_new (w.alloc (.cells #[.int .i64 (n : Int), .int .i64 (col : Int), .string { data := #[123, 125] }] 122)) (.cells #[.int .u8 0, .string { data := #[] }, .int .i64 0, .int .i64 0] 39)
        rw [World.size_alloc] at this; exact this
      have hR1 := (hb.block _ (by simp)).trans hR0
      have hb1 := bthen hb0 (by simp <;> omega) hb
      obtain ⟨q0, q1, q2, q3, f0, f1, f2, f3⟩ := tcells4 hR1
      have HR1 := Lib.hid hR1
      have HB1 := Lib.hid hb1
      clear hb hb0 hR0 hR1 hb1
      go_wp2_with fail
      have h5 := st4_at (.int .u8 7) (.string { data := #[] }) (.int .i64 (n : Int)) (.int .i64 (col : Int)) HR1.out
      have hb5 := st4_below (.int .u8 7) (.string { data := #[] }) (.int .i64 (n : Int)) (.int .i64 (col : Int)) HB1.out (show w.heap.size ≤ w.heap.size + 1 by omega)
      change bodyPost Tryz.prog Tryz.f94 _ _ _ (st4 w1 (w.heap.size + 1) (.int .u8 7) (.string { data := #[] }) (.int .i64 (n : Int)) (.int .i64 (col : Int)))
      generalize st4 w1 (w.heap.size + 1) (.int .u8 7) (.string { data := #[] }) (.int .i64 (n : Int)) (.int .i64 (col : Int)) = W5 at *
      obtain ⟨r0, r1, r2, r3, -⟩ := tcells4 h5
      refine bodyPost_ret (v := .tuple #[.agg #[.int .u8 7, .string { data := #[] }, .int .i64 (n : Int), .int .i64 (col : Int)], .bool true]) (by simp [results, Tryz.results94, go_sem, r0, r1, r2, r3]) rfl ?_
      exact ⟨hb5, .inr (.inl ⟨by trivial, rfl⟩)⟩
    · have e1 : (s.toList == [91, 93]) = false := by have := beqS_no h1; rwa [show ({ data := #[91, 93] } : ByteArray).toList = [91, 93] by first | simp | go_simp | kernel_rfl] at this
      have e2 : (s.toList == [123, 125]) = false := by have := beqS_no h2; rwa [show ({ data := #[123, 125] } : ByteArray).toList = [123, 125] by first | simp | go_simp | kernel_rfl] at this
      go_enter Tryz.func94, Tryz.ntmps94
      go_wp2_with fail
      refine bodyPost_ret (v := .tuple #[.agg #[.int .u8 0, .string { data := #[] }, .int .i64 0, .int .i64 0], .bool false]) (by simp [results, Tryz.results94, go_sem]) rfl ?_
      exact ⟨((Below.refl _ w).alloc (Nat.le_refl _) _).alloc (by simp) _, .inr (.inr ⟨⟨h1, h2⟩, rfl⟩)⟩

set_option maxRecDepth 100000 in
theorem tkBehind_any (n col k : Nat) (s left : ByteArray) (w : World) (hk : k ≤ s.size) (hs : s.size ≤ 1073741824) (hc : col ≤ 1073741824) (hl : bsN left = trimLN ((bsN s).drop k)) :
    Calls Tryz.prog 93 #[.agg #[.int .i64 (n : Int), .int .i64 (col : Int), .string s], .int .i64 (k : Int)] w fun e w' => e = .returned (.agg #[.int .i64 (n : Int), .int .i64 ((col + s.size - left.size : Nat) : Int), .string left]) ∧ Below w.heap.size w w' := by
  have hx : bsN (s.extract k s.size) = (bsN s).drop k := by rw [bsN_extract, List.take_of_length_le (by rw [List.length_drop, bsN_len]; omega)]
  have HT : Hid (∀ w, Calls Tryz.prog 41 #[.string (s.extract k s.size), .string { data := #[32] }] w fun e w' => e = .returned (.string left) ∧ w' = w) := Lib.hid (fun w => by
    have := trimL_any (s.extract k s.size) 32 (by decide) w
    have he : (⟨(Lib.trimLeftB (s.extract k s.size).data.toList 32).toArray⟩ : ByteArray) = left := by
      refine bsN_ext ?_
      rw [trimL_bytes, hl, ← hx]
      rfl
    rw [he] at this; exact this)
  have hll : left.size ≤ s.size := by
    have := trimLN_len ((bsN s).drop k)
    rw [← hl, bsN_len, List.length_drop, bsN_len] at this
    omega
  have l1 : (k : Int) ≤ (s.size : Int) := by omega
  have hw1 : wrap64 ((col : Int) + (s.size : Int) - (left.size : Int)) = ((col + s.size - left.size : Nat) : Int) := by unfold wrap64; omega
  have hw2 : wrap64 ((col : Int) + (s.size : Int)) = (col : Int) + (s.size : Int) := by unfold wrap64; omega
  have HE : Hid ((col : Int) + (s.size : Int) - (left.size : Int) = ((col + s.size - left.size : Nat) : Int)) := Lib.hid (by omega)
  clear hx hl
  generalize hm : col + s.size - left.size = m at *
  go_enter Tryz.func93, Tryz.ntmps93
  go_wp2_with fail
  refine (HT.out _).mono ?_
  rintro e w1 ⟨rfl, rfl⟩
  go_wp2_with fail
  refine bodyPost_ret (v := .agg #[.int .i64 (n : Int), .int .i64 ((col : Int) + (s.size : Int) - (left.size : Int)), .string left]) (by simp [results, Tryz.results93, go_sem]) rfl ?_
  rw [HE.out]
  exact ⟨rfl, ((Below.refl _ w).alloc (Nat.le_refl _) _).alloc (by simp) _⟩
end Go.Proofs.YtdhgcgejdoedbaaGreatDoor

/-
  part.next: contracts at what begins with a dash, a leaf, a key.
-/
namespace Go.Proofs.YtdhgcgejdoedbaaGreatDoor
open Go.RowKit Go.WideShapes

inductive LeafD where
  | word (t : ByteArray)
  | noSeq
  | noMap
def leafL : LeafD → List Nat
  | .word t => wrL (bsN t)
  | .noSeq => [91, 93]
  | .noMap => [123, 125]
def leafK : LeafD → Nat
  | .word _ => 5
  | .noSeq => 6
  | .noMap => 7
def leafT : LeafD → ByteArray
  | .word t => t
  | _ => { data := #[] }
def OkT (t : ByteArray) : Prop := t.size ≤ 4096 ∧ Utf (bsN t)
def OkL : LeafD → Prop
  | .word t => OkT t
  | _ => True
theorem leafL_ends (x : LeafD) : ∃ a m, leafL x = a :: m ∧ a ≠ 32 ∧ a ≠ 45 := by
  cases x with
  | word t =>
    rcases wrL_cases (bsN t) with ⟨h1, h2, h3⟩ | ⟨h3, _⟩
    · cases hb : bsN t with
      | nil => exact absurd hb h1
      | cons a m =>
        rw [hb] at h2
        have hs : standsB a true = true := by unfold plainAll at h2; rw [Bool.and_eq_true] at h2; exact h2.1
        refine ⟨a, m, (show wrL (bsN t) = a :: m by rw [h3, hb]), (stands_not hs).2.2.1, fun e => ?_⟩
        subst e; exact absurd hs (by decide)
    · exact ⟨34, (bsN t).flatMap escN ++ [34], (show wrL (bsN t) = _ by rw [h3]; rfl), by decide, by decide⟩
  | noSeq => exact ⟨91, [93], rfl, by decide, by decide⟩
  | noMap => exact ⟨123, [125], rfl, by decide, by decide⟩
theorem wrL_first (t : ByteArray) : ∃ a m, wrL (bsN t) = a :: m ∧ a ≠ 32 ∧ a ≠ 45 ∧ a ≠ 91 ∧ a ≠ 123 := by
  obtain ⟨a, m, h, h1, h2⟩ := leafL_ends (.word t)
  refine ⟨a, m, h, h1, h2, ?_⟩
  change wrL (bsN t) = a :: m at h
  rcases wrL_cases (bsN t) with ⟨k1, k2, k3⟩ | ⟨k3, _⟩
  · rw [k3] at h
    have hs := plainAll_stands _ true k2 a (by rw [h]; simp)
    obtain ⟨g, hg⟩ := hs
    exact ⟨(stands_not hg).2.2.2.2.2.2.2.1, (stands_not hg).2.2.2.2.2.2.2.2⟩
  · rw [k3] at h
    have : a = 34 := by unfold quoteN at h; injection h with h1; exact h1.symm
    subst this; exact ⟨by decide, by decide⟩
theorem leafL_lt (x : LeafD) : AllLt 256 (leafL x) := by
  cases x with
  | word t => exact wrL_lt (bsN_lt t)
  | noSeq => intro b hb; simp [leafL] at hb; omega
  | noMap => intro b hb; simp [leafL] at hb; omega

abbrev NxS (w : World) (n col : Nat) (s : ByteArray) (V : World) : Prop :=
  V.heap[w.heap.size]? = some (.cells #[.int .i64 (n : Int), .int .i64 (col : Int), .string s] 122 (0, 0)) ∧ V.heap[w.heap.size + 1]? = some (.cells #[.int .u8 0, .string { data := #[] }, .int .i64 0, .int .i64 0] 39 (0, 0)) ∧ V.heap[w.heap.size + 1 + 1]? = some (.cells #[.int .i64 0, .int .i64 0, .string { data := #[] }] 122 (0, 0)) ∧ Below w.heap.size w V
abbrev NxH (w : World) (n col : Nat) (s : ByteArray) (V : World) : Prop :=
  V.cell? ⟨w.heap.size, 0, none⟩ = some (.int .i64 (n : Int)) ∧ V.cell? ⟨w.heap.size, 1, none⟩ = some (.int .i64 (col : Int)) ∧ V.cell? ⟨w.heap.size, 2, none⟩ = some (.string s) ∧ Hid (NxS w n col s V)
theorem blk_next {W W' : World} (hb : Below W.heap.size W W') {k : Nat} {o : Obj} (h : W.heap[k]? = some o) : W'.heap[k]? = some o := (hb.block k (Array.getElem?_eq_some_iff.1 h).1).trans h
theorem NxS.step {w V V' : World} {n col : Nat} {s : ByteArray} (h : NxS w n col s V) (hb : Below V.heap.size V V') : NxS w n col s V' :=
  ⟨blk_next hb h.1, blk_next hb h.2.1, blk_next hb h.2.2.1, bthen h.2.2.2 (Nat.le_refl _) hb⟩
theorem NxS.hid {w V : World} {n col : Nat} {s : ByteArray} (h : NxS w n col s V) : NxH w n col s V := by
  obtain ⟨p0, p1, p2, -⟩ := tcells3 h.1
  exact ⟨p0, p1, p2, Lib.hid h⟩
theorem NxS.next {w V V' : World} {n col : Nat} {s : ByteArray} (h : NxH w n col s V) (hb : Below V.heap.size V V') : NxH w n col s V' := (h.2.2.2.out.step hb).hid
theorem nx_start (w : World) (n col : Nat) (s : ByteArray) : NxS w n col s (((w.alloc (.cells #[.int .i64 (n : Int), .int .i64 (col : Int), .string s] 122)).alloc (.cells #[.int .u8 0, .string { data := #[] }, .int .i64 0, .int .i64 0] 39)).alloc (.cells #[.int .i64 0, .int .i64 0, .string { data := #[] }] 122)) := by
  have h1 := World.alloc_heap_new w (.cells #[.int .i64 (n : Int), .int .i64 (col : Int), .string s] 122)
  have h2 := World.alloc_heap_new (w.alloc (.cells #[.int .i64 (n : Int), .int .i64 (col : Int), .string s] 122)) (.cells #[.int .u8 0, .string { data := #[] }, .int .i64 0, .int .i64 0] 39)
  have h3 := World.alloc_heap_new ((w.alloc (.cells #[.int .i64 (n : Int), .int .i64 (col : Int), .string s] 122)).alloc (.cells #[.int .u8 0, .string { data := #[] }, .int .i64 0, .int .i64 0] 39)) (.cells #[.int .i64 0, .int .i64 0, .string { data := #[] }] 122)
  rw [World.size_alloc] at h2
  rw [World.size_alloc, World.size_alloc] at h3
  exact ⟨(Below.heap_alloc _ _ _ (by simp; omega)).trans ((Below.heap_alloc _ _ _ (by simp)).trans h1), (Below.heap_alloc _ _ _ (by simp)).trans h2, h3, (((Below.refl _ w).alloc (Nat.le_refl _) _).alloc (by simp) _).alloc (by simp; omega) _⟩

set_option maxRecDepth 100000 in
set_option maxHeartbeats 4000000 in
theorem tkNext_dash (n col : Nat) (s left : ByteArray) (a : Nat) (m : List Nat) (w : World) (hs : s.size ≤ 1073741824) (hc : col ≤ 1073741824) (_hn : n ≤ 1073741824) (hb : bsN s = 45 :: 32 :: a :: m) (ha : a ≠ 32) (hl : bsN left = a :: m) :
    Calls Tryz.prog 66 #[.agg #[.int .i64 (n : Int), .int .i64 (col : Int), .string s], .bool false] w fun e w' => e = .returned (.tuple #[.agg #[.int .u8 3, .string { data := #[] }, .int .i64 (n : Int), .int .i64 (col : Int)], .agg #[.int .i64 (n : Int), .int .i64 ((col + s.size - left.size : Nat) : Int), .string left], .int .i64 0]) ∧ Below w.heap.size w w' := by
  have HS : Hid (∀ w, Calls Tryz.prog 91 #[.string s, .string { data := #[45] }] w fun e w' => e = .returned (.bool true) ∧ w' = w) := Lib.hid (fun w => by
    have := tkSign_any s { data := #[45] } 45 rfl w
    rw [show signN (bsN s) 45 = true by rw [hb]; simp [signN]] at this
    exact this)
  have HB := Lib.hid (fun w => tkBehind_any n col 1 s left w (by have := bsN_len s; rw [hb] at this; simp at this; omega) hs hc (by rw [hb, hl]; simp [trimLN, ha]))
  clear hb hl
  have hN0 : NxS w n col s (((w.alloc (.cells #[.int .i64 (n : Int), .int .i64 (col : Int), .string s] 122)).alloc (.cells #[.int .u8 0, .string { data := #[] }, .int .i64 0, .int .i64 0] 39)).alloc (.cells #[.int .i64 0, .int .i64 0, .string { data := #[] }] 122)) := nx_start w n col s
  go_enter Tryz.func66, Tryz.ntmps66
  go_upto_region 1 with fail
  generalize (((w.alloc (.cells #[.int .i64 (n : Int), .int .i64 (col : Int), .string s] 122)).alloc (.cells #[.int .u8 0, .string { data := #[] }, .int .i64 0, .int .i64 0] 39)).alloc (.cells #[.int .i64 0, .int .i64 0, .string { data := #[] }] 122)) = w0 at *
  obtain ⟨p0, p1, p2, -⟩ := tcells3 hN0.1
  have HN0 := Lib.hid hN0
  clear hN0
  go_wp2_with fail
  refine (HS.out _).mono ?_
  rintro e w1 ⟨rfl, h1e⟩
  obtain rfl := h1e.symm
  go_upto_region 2 with fail
  have hH : NxH w n col s w0.drew := (HN0.out.step ((Below.refl _ w0).drew)).hid
  refine E_region (S := (NxH w n col s)) 4 (by kernel_rfl) hH (fun _ _ _ _ _ h => h) (fun Q' hQ hK' hHeld => ?_)
  refine E_take hQ hHeld 0 (v := ?rqv1) rfl rfl (by kernel_rfl) (by kernel_rfl) (by kernel_rfl) (by kernel_rfl) (by kernel_rfl) (by rfl) ?rqy1 ?rqr1
  case rqy1 => (intro w hSw; (try dsimp only at hSw); go_simp; (try with_reducible rfl))
  (try simp only [layE])
  refine E_take hQ hHeld 2 (v := ?rqv2) rfl rfl (by kernel_rfl) (by kernel_rfl) (by kernel_rfl) (by kernel_rfl) (by kernel_rfl) (by rfl) ?rqy2 ?rqr2
  case rqy2 => (intro w hSw; (try dsimp only at hSw); go_simp; (try with_reducible rfl))
  (try simp only [layE])
  refine E_one 1 (by kernel_rfl) rfl (by rfl) (fun K hK => ?_)
  go_simp
  refine (tkTok_any n col s _ 3 _).mono ?_
  rintro e W1 ⟨rfl, hb1⟩
  (skip)
  refine hK.out _ _ (fun _ _ => NxS.next hHeld hb1) (fun hHeld' => ?_)
  replace hHeld := hHeld' (by rfl) (by decide)
  clear hK hHeld'
  (try simp only [layE])
  refine E_one 3 (by kernel_rfl) rfl (by rfl) (fun K hK => ?_)
  go_simp
  refine (HB.out _).mono ?_
  rintro e W2 ⟨rfl, hb2⟩
  (skip)
  refine hK.out _ _ (fun _ _ => NxS.next hHeld hb2) (fun hHeld' => ?_)
  replace hHeld := hHeld' (by rfl) (by decide)
  clear hK hHeld'
  (try simp only [layE])
  refine E_one 4 (by kernel_rfl) rfl (by rfl) (fun K hK => ?_)
  have hN := hHeld.2.2.2
  obtain ⟨c0, c1, c2, c3, f0, f1, f2, f3⟩ := tcells4 hN.out.2.1
  go_simp
  (try simp only [layE])
  refine hK.out _ _ (fun _ h => absurd rfl h) (fun _ => ?_)
  clear hK hHeld
  (try simp only [layE])
  refine E_one 5 (by kernel_rfl) rfl (by rfl) (fun K hK => ?_)
  have h5 := (st4_off (.int .u8 3) (.string { data := #[] }) (.int .i64 (n : Int)) (.int .i64 (col : Int)) (show (w.heap.size + 1 + 1) ≠ (w.heap.size + 1) by omega)).trans hN.out.2.2.1
  unfold st4 at h5
  obtain ⟨d0, d1, d2, g0, g1, g2⟩ := tcells3 h5
  go_simp
  (try simp only [layE])
  refine hK.out _ _ (fun h => absurd h (by decide)) (fun _ => ?_)
  clear hK
  (try simp only [layE])
  refine E_take0 hQ (fun h => absurd h (by decide)) 6 (v := ?rqv3) rfl rfl (by kernel_rfl) (by kernel_rfl) (by kernel_rfl) (by decide) (by rfl) ?rqy3 ?rqr3
  case rqy3 => (intro w; go_simp; (try with_reducible rfl))
  (try simp only [layE])
  refine E_done (by kernel_rfl) ?_ _
  refine hK'.out _ _ ?_
  go_wp2_with fail
  have hM4 := st4_at (.int .u8 3) (.string { data := #[] }) (.int .i64 (n : Int)) (.int .i64 (col : Int)) hN.out.2.1
  have hM5 := (st4_off (.int .u8 3) (.string { data := #[] }) (.int .i64 (n : Int)) (.int .i64 (col : Int)) (show (w.heap.size + 1 + 1) ≠ (w.heap.size + 1) by omega)).trans hN.out.2.2.1
  have hM6 := st3_at (.int .i64 (n : Int)) (.int .i64 ((col + s.size - left.size : Nat) : Int)) (.string left) hM5
  have hM7 := (st3_off (.int .i64 (n : Int)) (.int .i64 ((col + s.size - left.size : Nat) : Int)) (.string left) (show (w.heap.size + 1) ≠ (w.heap.size + 1 + 1) by omega)).trans hM4
  have hB7 := st3_below (.int .i64 (n : Int)) (.int .i64 ((col + s.size - left.size : Nat) : Int)) (.string left) (st4_below (.int .u8 3) (.string { data := #[] }) (.int .i64 (n : Int)) (.int .i64 (col : Int)) hN.out.2.2.2 (show w.heap.size ≤ (w.heap.size + 1) by omega)) (show w.heap.size ≤ (w.heap.size + 1 + 1) by omega)
  change bodyPost Tryz.prog Tryz.f66 _ _ _ (st3 (st4 W2 (w.heap.size + 1) (.int .u8 3) (.string { data := #[] }) (.int .i64 (n : Int)) (.int .i64 (col : Int))) (w.heap.size + 1 + 1) (.int .i64 (n : Int)) (.int .i64 ((col + s.size - left.size : Nat) : Int)) (.string left))
  generalize st3 (st4 W2 (w.heap.size + 1) (.int .u8 3) (.string { data := #[] }) (.int .i64 (n : Int)) (.int .i64 (col : Int))) (w.heap.size + 1 + 1) (.int .i64 (n : Int)) (.int .i64 ((col + s.size - left.size : Nat) : Int)) (.string left) = W9 at *
  obtain ⟨r0, r1, r2, r3, -⟩ := tcells4 hM7
  obtain ⟨s0, s1, s2, -⟩ := tcells3 hM6
  refine bodyPost_ret (v := .tuple #[.agg #[.int .u8 3, .string { data := #[] }, .int .i64 (n : Int), .int .i64 (col : Int)], .agg #[.int .i64 (n : Int), .int .i64 ((col + s.size - left.size : Nat) : Int), .string left], .int .i64 0]) (by simp [results, Tryz.results66, go_sem, r0, r1, r2, r3, s0, s1, s2]) rfl ?_
  exact ⟨rfl, hB7⟩

theorem tkNone_seq (n col : Nat) (w : World) :
    Calls Tryz.prog 94 #[.agg #[.int .i64 (n : Int), .int .i64 (col : Int), .string { data := #[91, 93] }]] w fun e w' => e = .returned (.tuple #[.agg #[.int .u8 6, .string { data := #[] }, .int .i64 (n : Int), .int .i64 (col : Int)], .bool true]) ∧ Below w.heap.size w w' :=
  (tkNone_any n col _ w).mono (by
    rintro e w' ⟨hb, h⟩
    rcases h with ⟨_, rfl⟩ | ⟨h, _⟩ | ⟨h, _⟩
    · exact ⟨rfl, hb⟩
    · exact absurd h (by decide)
    · exact absurd rfl h.1)
theorem tkNone_map (n col : Nat) (w : World) :
    Calls Tryz.prog 94 #[.agg #[.int .i64 (n : Int), .int .i64 (col : Int), .string { data := #[123, 125] }]] w fun e w' => e = .returned (.tuple #[.agg #[.int .u8 7, .string { data := #[] }, .int .i64 (n : Int), .int .i64 (col : Int)], .bool true]) ∧ Below w.heap.size w w' :=
  (tkNone_any n col _ w).mono (by
    rintro e w' ⟨hb, h⟩
    rcases h with ⟨h, _⟩ | ⟨_, rfl⟩ | ⟨h, _⟩
    · exact absurd h (by decide)
    · exact ⟨rfl, hb⟩
    · exact absurd rfl h.2)
theorem tkNone_no (n col : Nat) (s : ByteArray) (w : World) (h1 : s ≠ { data := #[91, 93] }) (h2 : s ≠ { data := #[123, 125] }) :
    Calls Tryz.prog 94 #[.agg #[.int .i64 (n : Int), .int .i64 (col : Int), .string s]] w fun e w' => e = .returned (.tuple #[.agg #[.int .u8 0, .string { data := #[] }, .int .i64 0, .int .i64 0], .bool false]) ∧ Below w.heap.size w w' :=
  (tkNone_any n col s w).mono (by
    rintro e w' ⟨hb, h⟩
    rcases h with ⟨h, _⟩ | ⟨h, _⟩ | ⟨_, rfl⟩
    · exact absurd h h1
    · exact absurd h h2
    · exact ⟨rfl, hb⟩)
theorem sign_no (s : ByteArray) (a : Nat) (m : List Nat) (w : World) (h : bsN s = a :: m) (ha : a ≠ 45) : Calls Tryz.prog 91 #[.string s, .string { data := #[45] }] w fun e w' => e = .returned (.bool false) ∧ w' = w := by
  have := tkSign_any s { data := #[45] } 45 rfl w
  rw [show signN (bsN s) 45 = false by rw [h]; simp [signN, ha]] at this
  exact this

set_option maxRecDepth 100000 in
set_option maxHeartbeats 4000000 in
theorem tkNext_noSeq (n col : Nat) (b : Bool) (w : World) :
    Calls Tryz.prog 66 #[.agg #[.int .i64 (n : Int), .int .i64 (col : Int), .string { data := #[91, 93] }], .bool b] w fun e w' => e = .returned (.tuple #[.agg #[.int .u8 6, .string { data := #[] }, .int .i64 (n : Int), .int .i64 (col : Int)], .agg #[.int .i64 0, .int .i64 0, .string { data := #[] }], .int .i64 0]) ∧ Below w.heap.size w w' := by
  have HS := Lib.hid (fun w => sign_no { data := #[91, 93] } 91 [93] w rfl (by decide))
  have HNO := Lib.hid (fun w => tkNone_seq n col w)
  obtain ⟨s, hs⟩ : ∃ s : ByteArray, s = { data := #[91, 93] } := ⟨_, rfl⟩
  rw [← hs] at HS HNO ⊢
  clear hs
  have hN0 : NxS w n col s (((w.alloc (.cells #[.int .i64 (n : Int), .int .i64 (col : Int), .string s] 122)).alloc (.cells #[.int .u8 0, .string { data := #[] }, .int .i64 0, .int .i64 0] 39)).alloc (.cells #[.int .i64 0, .int .i64 0, .string { data := #[] }] 122)) := nx_start w n col s
  go_enter Tryz.func66, Tryz.ntmps66
  go_upto_region 1 with fail
  generalize (((w.alloc (.cells #[.int .i64 (n : Int), .int .i64 (col : Int), .string s] 122)).alloc (.cells #[.int .u8 0, .string { data := #[] }, .int .i64 0, .int .i64 0] 39)).alloc (.cells #[.int .i64 0, .int .i64 0, .string { data := #[] }] 122)) = w0 at *
  obtain ⟨p0, p1, p2, -⟩ := tcells3 hN0.1
  have HN0 := Lib.hid hN0
  clear hN0
  go_wp2_with fail
  refine (HS.out _).mono ?_
  rintro e w1 ⟨rfl, h1e⟩
  obtain rfl := h1e.symm
  go_wp2_with fail
  refine (HNO.out _).mono ?_
  rintro e w1 ⟨rfl, hb1⟩
  go_upto_region 5 with fail
  have hN1 := (HN0.out.step hb1).step ((Below.refl _ w1).alloc (Nat.le_refl _) (.cells #[.int .u8 6, .string { data := #[] }, .int .i64 (n : Int), .int .i64 (col : Int)] 39))
  have hT1 := World.alloc_heap_new w1 (.cells #[.int .u8 6, .string { data := #[] }, .int .i64 (n : Int), .int .i64 (col : Int)] 39)
  have hlt1 : w.heap.size + 1 + 1 < w1.heap.size := (Array.getElem?_eq_some_iff.1 (HN0.out.step hb1).2.2.1).1
  obtain ⟨t0, t1, t2, t3, -⟩ := tcells4 hT1
  obtain ⟨c0, c1, c2, c3, f0, f1, f2, f3⟩ := tcells4 hN1.2.1
  have h5 := (st4_off (.int .u8 6) (.string { data := #[] }) (.int .i64 (n : Int)) (.int .i64 (col : Int)) (show (w.heap.size + 1 + 1) ≠ (w.heap.size + 1) by omega)).trans hN1.2.2.1
  unfold st4 at h5
  obtain ⟨d0, d1, d2, g0, g1, g2⟩ := tcells3 h5
  have hN := Lib.hid hN1
  clear hN1 hb1 hT1 h5 p0 p1 p2
  generalize w1.alloc (.cells #[.int .u8 6, .string { data := #[] }, .int .i64 (n : Int), .int .i64 (col : Int)] 39) = w2 at *
  go_wp2_with fail
  have hM4 := st4_at (.int .u8 6) (.string { data := #[] }) (.int .i64 (n : Int)) (.int .i64 (col : Int)) hN.out.2.1
  have hM5 := (st4_off (.int .u8 6) (.string { data := #[] }) (.int .i64 (n : Int)) (.int .i64 (col : Int)) (show (w.heap.size + 1 + 1) ≠ (w.heap.size + 1) by omega)).trans hN.out.2.2.1
  have hM6 := st3_at (.int .i64 0) (.int .i64 0) (.string { data := #[] }) hM5
  have hM7 := (st3_off (.int .i64 0) (.int .i64 0) (.string { data := #[] }) (show (w.heap.size + 1) ≠ (w.heap.size + 1 + 1) by omega)).trans hM4
  have hB7 := st3_below (.int .i64 0) (.int .i64 0) (.string { data := #[] }) (st4_below (.int .u8 6) (.string { data := #[] }) (.int .i64 (n : Int)) (.int .i64 (col : Int)) hN.out.2.2.2 (show w.heap.size ≤ (w.heap.size + 1) by omega)) (show w.heap.size ≤ (w.heap.size + 1 + 1) by omega)
  change bodyPost Tryz.prog Tryz.f66 _ _ _ (st3 (st4 w2 (w.heap.size + 1) (.int .u8 6) (.string { data := #[] }) (.int .i64 (n : Int)) (.int .i64 (col : Int))) (w.heap.size + 1 + 1) (.int .i64 0) (.int .i64 0) (.string { data := #[] }))
  generalize st3 (st4 w2 (w.heap.size + 1) (.int .u8 6) (.string { data := #[] }) (.int .i64 (n : Int)) (.int .i64 (col : Int))) (w.heap.size + 1 + 1) (.int .i64 0) (.int .i64 0) (.string { data := #[] }) = W9 at *
  obtain ⟨r0, r1, r2, r3, -⟩ := tcells4 hM7
  obtain ⟨s0, s1, s2, -⟩ := tcells3 hM6
  refine bodyPost_ret (v := .tuple #[.agg #[.int .u8 6, .string { data := #[] }, .int .i64 (n : Int), .int .i64 (col : Int)], .agg #[.int .i64 0, .int .i64 0, .string { data := #[] }], .int .i64 0]) (by simp [results, Tryz.results66, go_sem, r0, r1, r2, r3, s0, s1, s2]) rfl ?_
  exact ⟨rfl, hB7⟩

set_option maxRecDepth 100000 in
set_option maxHeartbeats 4000000 in
theorem tkNext_noMap (n col : Nat) (b : Bool) (w : World) :
    Calls Tryz.prog 66 #[.agg #[.int .i64 (n : Int), .int .i64 (col : Int), .string { data := #[123, 125] }], .bool b] w fun e w' => e = .returned (.tuple #[.agg #[.int .u8 7, .string { data := #[] }, .int .i64 (n : Int), .int .i64 (col : Int)], .agg #[.int .i64 0, .int .i64 0, .string { data := #[] }], .int .i64 0]) ∧ Below w.heap.size w w' := by
  have HS := Lib.hid (fun w => sign_no { data := #[123, 125] } 123 [125] w rfl (by decide))
  have HNO := Lib.hid (fun w => tkNone_map n col w)
  obtain ⟨s, hs⟩ : ∃ s : ByteArray, s = { data := #[123, 125] } := ⟨_, rfl⟩
  rw [← hs] at HS HNO ⊢
  clear hs
  have hN0 : NxS w n col s (((w.alloc (.cells #[.int .i64 (n : Int), .int .i64 (col : Int), .string s] 122)).alloc (.cells #[.int .u8 0, .string { data := #[] }, .int .i64 0, .int .i64 0] 39)).alloc (.cells #[.int .i64 0, .int .i64 0, .string { data := #[] }] 122)) := nx_start w n col s
  go_enter Tryz.func66, Tryz.ntmps66
  go_upto_region 1 with fail
  generalize (((w.alloc (.cells #[.int .i64 (n : Int), .int .i64 (col : Int), .string s] 122)).alloc (.cells #[.int .u8 0, .string { data := #[] }, .int .i64 0, .int .i64 0] 39)).alloc (.cells #[.int .i64 0, .int .i64 0, .string { data := #[] }] 122)) = w0 at *
  obtain ⟨p0, p1, p2, -⟩ := tcells3 hN0.1
  have HN0 := Lib.hid hN0
  clear hN0
  go_wp2_with fail
  refine (HS.out _).mono ?_
  rintro e w1 ⟨rfl, h1e⟩
  obtain rfl := h1e.symm
  go_wp2_with fail
  refine (HNO.out _).mono ?_
  rintro e w1 ⟨rfl, hb1⟩
  go_upto_region 5 with fail
  have hN1 := (HN0.out.step hb1).step ((Below.refl _ w1).alloc (Nat.le_refl _) (.cells #[.int .u8 7, .string { data := #[] }, .int .i64 (n : Int), .int .i64 (col : Int)] 39))
  have hT1 := World.alloc_heap_new w1 (.cells #[.int .u8 7, .string { data := #[] }, .int .i64 (n : Int), .int .i64 (col : Int)] 39)
  have hlt1 : w.heap.size + 1 + 1 < w1.heap.size := (Array.getElem?_eq_some_iff.1 (HN0.out.step hb1).2.2.1).1
  obtain ⟨t0, t1, t2, t3, -⟩ := tcells4 hT1
  obtain ⟨c0, c1, c2, c3, f0, f1, f2, f3⟩ := tcells4 hN1.2.1
  have h5 := (st4_off (.int .u8 7) (.string { data := #[] }) (.int .i64 (n : Int)) (.int .i64 (col : Int)) (show (w.heap.size + 1 + 1) ≠ (w.heap.size + 1) by omega)).trans hN1.2.2.1
  unfold st4 at h5
  obtain ⟨d0, d1, d2, g0, g1, g2⟩ := tcells3 h5
  have hN := Lib.hid hN1
  clear hN1 hb1 hT1 h5 p0 p1 p2
  generalize w1.alloc (.cells #[.int .u8 7, .string { data := #[] }, .int .i64 (n : Int), .int .i64 (col : Int)] 39) = w2 at *
  go_wp2_with fail
  have hM4 := st4_at (.int .u8 7) (.string { data := #[] }) (.int .i64 (n : Int)) (.int .i64 (col : Int)) hN.out.2.1
  have hM5 := (st4_off (.int .u8 7) (.string { data := #[] }) (.int .i64 (n : Int)) (.int .i64 (col : Int)) (show (w.heap.size + 1 + 1) ≠ (w.heap.size + 1) by omega)).trans hN.out.2.2.1
  have hM6 := st3_at (.int .i64 0) (.int .i64 0) (.string { data := #[] }) hM5
  have hM7 := (st3_off (.int .i64 0) (.int .i64 0) (.string { data := #[] }) (show (w.heap.size + 1) ≠ (w.heap.size + 1 + 1) by omega)).trans hM4
  have hB7 := st3_below (.int .i64 0) (.int .i64 0) (.string { data := #[] }) (st4_below (.int .u8 7) (.string { data := #[] }) (.int .i64 (n : Int)) (.int .i64 (col : Int)) hN.out.2.2.2 (show w.heap.size ≤ (w.heap.size + 1) by omega)) (show w.heap.size ≤ (w.heap.size + 1 + 1) by omega)
  change bodyPost Tryz.prog Tryz.f66 _ _ _ (st3 (st4 w2 (w.heap.size + 1) (.int .u8 7) (.string { data := #[] }) (.int .i64 (n : Int)) (.int .i64 (col : Int))) (w.heap.size + 1 + 1) (.int .i64 0) (.int .i64 0) (.string { data := #[] }))
  generalize st3 (st4 w2 (w.heap.size + 1) (.int .u8 7) (.string { data := #[] }) (.int .i64 (n : Int)) (.int .i64 (col : Int))) (w.heap.size + 1 + 1) (.int .i64 0) (.int .i64 0) (.string { data := #[] }) = W9 at *
  obtain ⟨r0, r1, r2, r3, -⟩ := tcells4 hM7
  obtain ⟨s0, s1, s2, -⟩ := tcells3 hM6
  refine bodyPost_ret (v := .tuple #[.agg #[.int .u8 7, .string { data := #[] }, .int .i64 (n : Int), .int .i64 (col : Int)], .agg #[.int .i64 0, .int .i64 0, .string { data := #[] }], .int .i64 0]) (by simp [results, Tryz.results66, go_sem, r0, r1, r2, r3, s0, s1, s2]) rfl ?_
  exact ⟨rfl, hB7⟩

set_option maxRecDepth 100000 in
set_option maxHeartbeats 4000000 in
theorem tkNext_word (n col : Nat) (s x : ByteArray) (b : Bool) (w : World) (hs : s.size ≤ 1073741824) (_hc : col ≤ 1073741824) (_hn : n ≤ 1073741824) (hb : bsN s = wrL (bsN x)) (hx : OkT x) :
    Calls Tryz.prog 66 #[.agg #[.int .i64 (n : Int), .int .i64 (col : Int), .string s], .bool b] w fun e w' => e = .returned (.tuple #[.agg #[.int .u8 5, .string x, .int .i64 (n : Int), .int .i64 (col : Int)], .agg #[.int .i64 0, .int .i64 0, .string { data := #[] }], .int .i64 0]) ∧ Below w.heap.size w w' := by
  obtain ⟨a, m, hw, ha1, ha2, ha3, ha4⟩ := wrL_first x
  have HS := Lib.hid (fun w => sign_no s a m w (hb.trans hw) ha2)
  have HNO := Lib.hid (fun w => tkNone_no n col s w (fun e => by rw [e] at hb; exact ha3 (by have := hb.trans hw; injection this with h1; exact h1.symm)) (fun e => by rw [e] at hb; exact ha4 (by have := hb.trans hw; injection this with h1; exact h1.symm)))
  have HRD := Lib.hid (fun w => scRead_any s x w hb hx.1 hx.2)
  have hzl := bsN_len s
  have HCT : Hid (∀ w, Calls Tryz.prog 95 #[.string s] w fun e w' => e = .returned (.tuple #[.int .i64 (s.size : Int), .int .i64 0]) ∧ w' = w) := Lib.hid (fun w => by
    have := scCut_any s w (by omega)
    have h2 := cutE_wr (bsN x) [] (fun c h => by cases h)
    rw [List.append_nil, ← hb, hzl] at h2
    rw [h2] at this; exact this)
  clear hb hx hw
  have hN0 : NxS w n col s (((w.alloc (.cells #[.int .i64 (n : Int), .int .i64 (col : Int), .string s] 122)).alloc (.cells #[.int .u8 0, .string { data := #[] }, .int .i64 0, .int .i64 0] 39)).alloc (.cells #[.int .i64 0, .int .i64 0, .string { data := #[] }] 122)) := nx_start w n col s
  go_enter Tryz.func66, Tryz.ntmps66
  go_upto_region 1 with fail
  generalize (((w.alloc (.cells #[.int .i64 (n : Int), .int .i64 (col : Int), .string s] 122)).alloc (.cells #[.int .u8 0, .string { data := #[] }, .int .i64 0, .int .i64 0] 39)).alloc (.cells #[.int .i64 0, .int .i64 0, .string { data := #[] }] 122)) = w0 at *
  obtain ⟨p0, p1, p2, -⟩ := tcells3 hN0.1
  have HN0 := Lib.hid hN0
  clear hN0
  go_wp2_with fail
  refine (HS.out _).mono ?_
  rintro e w1 ⟨rfl, h1e⟩
  obtain rfl := h1e.symm
  go_wp2_with fail
  refine (HNO.out _).mono ?_
  rintro e w1 ⟨rfl, hb1⟩
  go_upto_region 6 with fail
  have hN1 := (HN0.out.step hb1).step ((Below.refl _ w1).alloc (Nat.le_refl _) (.cells #[.int .u8 0, .string { data := #[] }, .int .i64 0, .int .i64 0] 39))
  clear p0 p1 p2 hb1
  generalize w1.alloc (.cells #[.int .u8 0, .string { data := #[] }, .int .i64 0, .int .i64 0] 39) = w2 at *
  obtain ⟨p0, p1, p2, -⟩ := tcells3 hN1.1
  have HN1 := Lib.hid hN1
  clear hN1
  go_wp2_with fail
  refine (HCT.out _).mono ?_
  rintro e w3 ⟨rfl, h3e⟩
  obtain rfl := h3e.symm
  go_wp2_with fail
  have HSE : Hid (∀ w, Calls Tryz.prog 91 #[.string ByteArray.empty, .string { data := #[58] }] w fun e w' => e = .returned (.bool false) ∧ w' = w) := Lib.hid (fun w => tkSign_any ByteArray.empty { data := #[58] } 58 rfl w)
  refine (HSE.out _).mono ?_
  rintro e w4 ⟨rfl, h4e⟩
  obtain rfl := h4e.symm
  go_wp2_with fail
  refine (HRD.out _).mono ?_
  rintro e w5 ⟨rfl, hb5⟩
  have hN5 := HN1.out.step hb5
  obtain ⟨p0, p1, p2, -⟩ := tcells3 hN5.1
  have HN5 := Lib.hid hN5
  clear hN5 hb5
  go_wp2_with fail
  refine (tkTok_any n col s x 5 _).mono ?_
  rintro e w6 ⟨rfl, hb6⟩
  have hN6 := HN5.out.step hb6
  obtain ⟨c0, c1, c2, c3, f0, f1, f2, f3⟩ := tcells4 hN6.2.1
  have h5 := (st4_off (.int .u8 5) (.string x) (.int .i64 (n : Int)) (.int .i64 (col : Int)) (show (w.heap.size + 1 + 1) ≠ (w.heap.size + 1) by omega)).trans hN6.2.2.1
  unfold st4 at h5
  obtain ⟨d0, d1, d2, g0, g1, g2⟩ := tcells3 h5
  have hN := Lib.hid hN6
  clear hN6 hb6 h5 p0 p1 p2
  go_wp2_with fail
  have hM4 := st4_at (.int .u8 5) (.string x) (.int .i64 (n : Int)) (.int .i64 (col : Int)) hN.out.2.1
  have hM5 := (st4_off (.int .u8 5) (.string x) (.int .i64 (n : Int)) (.int .i64 (col : Int)) (show (w.heap.size + 1 + 1) ≠ (w.heap.size + 1) by omega)).trans hN.out.2.2.1
  have hM6 := st3_at (.int .i64 0) (.int .i64 0) (.string { data := #[] }) hM5
  have hM7 := (st3_off (.int .i64 0) (.int .i64 0) (.string { data := #[] }) (show (w.heap.size + 1) ≠ (w.heap.size + 1 + 1) by omega)).trans hM4
  have hB7 := st3_below (.int .i64 0) (.int .i64 0) (.string { data := #[] }) (st4_below (.int .u8 5) (.string x) (.int .i64 (n : Int)) (.int .i64 (col : Int)) hN.out.2.2.2 (show w.heap.size ≤ (w.heap.size + 1) by omega)) (show w.heap.size ≤ (w.heap.size + 1 + 1) by omega)
  change bodyPost Tryz.prog Tryz.f66 _ _ _ (st3 (st4 w6 (w.heap.size + 1) (.int .u8 5) (.string x) (.int .i64 (n : Int)) (.int .i64 (col : Int))) (w.heap.size + 1 + 1) (.int .i64 0) (.int .i64 0) (.string { data := #[] }))
  generalize st3 (st4 w6 (w.heap.size + 1) (.int .u8 5) (.string x) (.int .i64 (n : Int)) (.int .i64 (col : Int))) (w.heap.size + 1 + 1) (.int .i64 0) (.int .i64 0) (.string { data := #[] }) = W9 at *
  obtain ⟨r0, r1, r2, r3, -⟩ := tcells4 hM7
  obtain ⟨s0, s1, s2, -⟩ := tcells3 hM6
  refine bodyPost_ret (v := .tuple #[.agg #[.int .u8 5, .string x, .int .i64 (n : Int), .int .i64 (col : Int)], .agg #[.int .i64 0, .int .i64 0, .string { data := #[] }], .int .i64 0]) (by simp [results, Tryz.results66, go_sem, r0, r1, r2, r3, s0, s1, s2]) rfl ?_
  exact ⟨rfl, hB7⟩

set_option maxRecDepth 100000 in
set_option maxHeartbeats 4000000 in
theorem tkNext_key (n col : Nat) (s x left : ByteArray) (r : List Nat) (w : World) (hs : s.size ≤ 1073741824) (hc : col ≤ 1073741824) (_hn : n ≤ 1073741824) (hb : bsN s = wrL (bsN x) ++ 58 :: r) (hx : OkT x) (hr : r = [] ∨ ∃ m, r = 32 :: m) (hl : bsN left = trimLN r) :
    Calls Tryz.prog 66 #[.agg #[.int .i64 (n : Int), .int .i64 (col : Int), .string s], .bool false] w fun e w' => e = .returned (.tuple #[.agg #[.int .u8 4, .string x, .int .i64 (n : Int), .int .i64 (col : Int)], .agg #[.int .i64 (n : Int), .int .i64 ((col + s.size - left.size : Nat) : Int), .string left], .int .i64 0]) ∧ Below w.heap.size w w' := by
  obtain ⟨a, m, hw, ha1, ha2, ha3, ha4⟩ := wrL_first x
  have hsa : bsN s = a :: (m ++ 58 :: r) := by rw [hb, hw]; rfl
  have HS := Lib.hid (fun w => sign_no s a (m ++ 58 :: r) w hsa ha2)
  have HNO := Lib.hid (fun w => tkNone_no n col s w (fun e => by rw [e] at hsa; exact ha3 (by injection hsa with h1; exact h1.symm)) (fun e => by rw [e] at hsa; exact ha4 (by injection hsa with h1; exact h1.symm)))
  have hzl := bsN_len s
  obtain ⟨k, hk⟩ : ∃ k, (wrL (bsN x)).length = k := ⟨_, rfl⟩
  have hks : s.size = k + 1 + r.length := by rw [← hzl, hb, List.length_append, hk, List.length_cons]; omega
  have hd0 : (bsN s).drop k = 58 :: r := by rw [hb, ← hk, List.drop_left]
  have hd1 : (bsN s).drop (k + 1) = r := by rw [← List.drop_drop, hd0]; rfl
  have htk : (bsN s).take k = wrL (bsN x) := by rw [hb, ← hk, List.take_left]
  have HCT : Hid (∀ w, Calls Tryz.prog 95 #[.string s] w fun e w' => e = .returned (.tuple #[.int .i64 (k : Int), .int .i64 0]) ∧ w' = w) := Lib.hid (fun w => by
    have := scCut_any s w (by omega)
    have h2 := cutE_wr (bsN x) (58 :: r) (fun c h => by injection h with h; exact h.symm)
    rw [← hb, hk] at h2
    rw [h2] at this; exact this)
  have he1 : bsN (s.extract k s.size) = 58 :: r := by rw [bsN_extract, hd0, List.take_of_length_le (by rw [List.length_cons]; omega)]
  have HSG : Hid (∀ w, Calls Tryz.prog 91 #[.string (s.extract k s.size), .string { data := #[58] }] w fun e w' => e = .returned (.bool true) ∧ w' = w) := Lib.hid (fun w => by
    have := tkSign_any (s.extract k s.size) { data := #[58] } 58 rfl w
    rw [he1, show signN (58 :: r) 58 = true by rcases hr with rfl | ⟨m, rfl⟩ <;> simp [signN]] at this
    exact this)
  have hne : ((s.extract k s.size).toList == []) = false := by
    have h1 : (s.extract k s.size).toList.isEmpty = false := by rw [str_empty]; have := bsN_len (s.extract k s.size); rw [he1] at this; simp at this ⊢; omega
    cases h2 : (s.extract k s.size).toList with
    | nil => rw [h2] at h1; cases h1
    | cons _ _ => rfl
  have he2 : bsN (s.extract 0 k) = wrL (bsN x) := by rw [bsN_extract, List.drop_zero, Nat.sub_zero, htk]
  have HRD := Lib.hid (fun w => scRead_any (s.extract 0 k) x w he2 hx.1 hx.2)
  have HBH := Lib.hid (fun w => tkBehind_any n col (k + 1) s left w (by omega) hs hc (by rw [hd1]; exact hl))
  have l1 : (k : Int) ≤ (s.size : Int) := by omega
  have hw1 : wrap64 ((k : Int) + 1) = ((k + 1 : Nat) : Int) := by unfold wrap64; omega
  have hw2 : IntKind.i64.wrap ((k : Int) + 1) = ((k + 1 : Nat) : Int) := (IntWalk.i64_in ((k : Int) + 1) (by omega)).trans (by omega)
  clear hb hx hw hsa hl hr hks hd0 hd1 htk he1 he2
  have hN0 : NxS w n col s (((w.alloc (.cells #[.int .i64 (n : Int), .int .i64 (col : Int), .string s] 122)).alloc (.cells #[.int .u8 0, .string { data := #[] }, .int .i64 0, .int .i64 0] 39)).alloc (.cells #[.int .i64 0, .int .i64 0, .string { data := #[] }] 122)) := nx_start w n col s
  go_enter Tryz.func66, Tryz.ntmps66
  go_upto_region 1 with fail
  generalize (((w.alloc (.cells #[.int .i64 (n : Int), .int .i64 (col : Int), .string s] 122)).alloc (.cells #[.int .u8 0, .string { data := #[] }, .int .i64 0, .int .i64 0] 39)).alloc (.cells #[.int .i64 0, .int .i64 0, .string { data := #[] }] 122)) = w0 at *
  obtain ⟨p0, p1, p2, -⟩ := tcells3 hN0.1
  have HN0 := Lib.hid hN0
  clear hN0
  go_wp2_with fail
  refine (HS.out _).mono ?_
  rintro e w1 ⟨rfl, h1e⟩
  obtain rfl := h1e.symm
  go_wp2_with fail
  refine (HNO.out _).mono ?_
  rintro e w1 ⟨rfl, hb1⟩
  go_upto_region 6 with fail
  have hN1 := (HN0.out.step hb1).step ((Below.refl _ w1).alloc (Nat.le_refl _) (.cells #[.int .u8 0, .string { data := #[] }, .int .i64 0, .int .i64 0] 39))
  clear p0 p1 p2 hb1
  generalize w1.alloc (.cells #[.int .u8 0, .string { data := #[] }, .int .i64 0, .int .i64 0] 39) = w2 at *
  obtain ⟨p0, p1, p2, -⟩ := tcells3 hN1.1
  have HN1 := Lib.hid hN1
  clear hN1
  go_wp2_with fail
  refine (HCT.out _).mono ?_
  rintro e w3 ⟨rfl, h3e⟩
  obtain rfl := h3e.symm
  go_wp2_with fail
  refine (HSG.out _).mono ?_
  rintro e w4 ⟨rfl, h4e⟩
  obtain rfl := h4e.symm
  go_wp2_with fail
  refine (HRD.out _).mono ?_
  rintro e w5 ⟨rfl, hb5⟩
  have hN5 := HN1.out.step hb5
  clear p0 p1 p2 hb5
  go_upto_region 17 with fail
  have hH : NxH w n col s w5.drew := (hN5.step ((Below.refl _ w5).drew)).hid
  clear hN5
  refine E_region (S := (NxH w n col s)) 7 (by kernel_rfl) hH (fun _ _ _ _ _ h => h) (fun Q' hQ hK' hHeld => ?_)
  refine E_take hQ hHeld 0 (v := ?rkv1) rfl rfl (by kernel_rfl) (by kernel_rfl) (by kernel_rfl) (by kernel_rfl) (by kernel_rfl) (by rfl) ?rky1 ?rkr1
  case rky1 => (intro w hSw; (try dsimp only at hSw); go_simp; (try with_reducible rfl))
  (try simp only [layE])
  refine E_take0 hQ (fun _ => hHeld) 1 (v := ?rkv2) rfl rfl (by kernel_rfl) (by kernel_rfl) (by kernel_rfl) (by decide) (by rfl) ?rky2 ?rkr2
  case rky2 => (intro w; go_simp; (try with_reducible rfl))
  (try simp only [layE])
  refine E_take hQ hHeld 3 (v := ?rkv3) rfl rfl (by kernel_rfl) (by kernel_rfl) (by kernel_rfl) (by kernel_rfl) (by kernel_rfl) (by rfl) ?rky3 ?rkr3
  case rky3 => (intro w hSw; (try dsimp only at hSw); go_simp; (try with_reducible rfl))
  (try simp only [layE])
  refine E_take0 hQ (fun _ => hHeld) 4 (v := ?rkv4) rfl rfl (by kernel_rfl) (by kernel_rfl) (by kernel_rfl) (by decide) (by rfl) ?rky4 ?rkr4
  case rky4 => (intro w; go_simp; (try with_reducible rfl))
  (try simp only [layE])
  refine E_take0 hQ (fun _ => hHeld) 5 (v := ?rkv5) rfl rfl (by kernel_rfl) (by kernel_rfl) (by kernel_rfl) (by decide) (by rfl) ?rky5 ?rkr5
  case rky5 => (intro w; go_simp; (try with_reducible rfl))
  (try simp only [layE])
  refine E_one 2 (by kernel_rfl) rfl (by rfl) (fun K hK => ?_)
  go_simp
  refine (tkTok_any n col s x 4 _).mono ?_
  rintro e W1 ⟨rfl, hb1⟩
  (skip)
  refine hK.out _ _ (fun _ _ => NxS.next hHeld hb1) (fun hHeld' => ?_)
  replace hHeld := hHeld' (by rfl) (by decide)
  clear hK hHeld'
  (try simp only [layE])
  refine E_one 6 (by kernel_rfl) rfl (by rfl) (fun K hK => ?_)
  go_simp
  refine (HBH.out _).mono ?_
  rintro e W2 ⟨rfl, hb2⟩
  (skip)
  refine hK.out _ _ (fun _ _ => NxS.next hHeld hb2) (fun hHeld' => ?_)
  replace hHeld := hHeld' (by rfl) (by decide)
  clear hK hHeld'
  (try simp only [layE])
  refine E_one 7 (by kernel_rfl) rfl (by rfl) (fun K hK => ?_)
  have hN := hHeld.2.2.2
  obtain ⟨c0, c1, c2, c3, f0, f1, f2, f3⟩ := tcells4 hN.out.2.1
  go_simp
  (try simp only [layE])
  refine hK.out _ _ (fun _ h => absurd rfl h) (fun _ => ?_)
  clear hK hHeld
  (try simp only [layE])
  refine E_one 8 (by kernel_rfl) rfl (by rfl) (fun K hK => ?_)
  have h5 := (st4_off (.int .u8 4) (.string x) (.int .i64 (n : Int)) (.int .i64 (col : Int)) (show (w.heap.size + 1 + 1) ≠ (w.heap.size + 1) by omega)).trans hN.out.2.2.1
  unfold st4 at h5
  obtain ⟨d0, d1, d2, g0, g1, g2⟩ := tcells3 h5
  go_simp
  (try simp only [layE])
  refine hK.out _ _ (fun h => absurd h (by decide)) (fun _ => ?_)
  clear hK
  (try simp only [layE])
  refine E_take0 hQ (fun h => absurd h (by decide)) 9 (v := ?rkv6) rfl rfl (by kernel_rfl) (by kernel_rfl) (by kernel_rfl) (by decide) (by rfl) ?rky6 ?rkr6
  case rky6 => (intro w; go_simp; (try with_reducible rfl))
  (try simp only [layE])
  refine E_done (by kernel_rfl) ?_ _
  refine hK'.out _ _ ?_
  go_wp2_with fail
  have hM4 := st4_at (.int .u8 4) (.string x) (.int .i64 (n : Int)) (.int .i64 (col : Int)) hN.out.2.1
  have hM5 := (st4_off (.int .u8 4) (.string x) (.int .i64 (n : Int)) (.int .i64 (col : Int)) (show (w.heap.size + 1 + 1) ≠ (w.heap.size + 1) by omega)).trans hN.out.2.2.1
  have hM6 := st3_at (.int .i64 (n : Int)) (.int .i64 ((col + s.size - left.size : Nat) : Int)) (.string left) hM5
  have hM7 := (st3_off (.int .i64 (n : Int)) (.int .i64 ((col + s.size - left.size : Nat) : Int)) (.string left) (show (w.heap.size + 1) ≠ (w.heap.size + 1 + 1) by omega)).trans hM4
  have hB7 := st3_below (.int .i64 (n : Int)) (.int .i64 ((col + s.size - left.size : Nat) : Int)) (.string left) (st4_below (.int .u8 4) (.string x) (.int .i64 (n : Int)) (.int .i64 (col : Int)) hN.out.2.2.2 (show w.heap.size ≤ (w.heap.size + 1) by omega)) (show w.heap.size ≤ (w.heap.size + 1 + 1) by omega)
  change bodyPost Tryz.prog Tryz.f66 _ _ _ (st3 (st4 W2 (w.heap.size + 1) (.int .u8 4) (.string x) (.int .i64 (n : Int)) (.int .i64 (col : Int))) (w.heap.size + 1 + 1) (.int .i64 (n : Int)) (.int .i64 ((col + s.size - left.size : Nat) : Int)) (.string left))
  generalize st3 (st4 W2 (w.heap.size + 1) (.int .u8 4) (.string x) (.int .i64 (n : Int)) (.int .i64 (col : Int))) (w.heap.size + 1 + 1) (.int .i64 (n : Int)) (.int .i64 ((col + s.size - left.size : Nat) : Int)) (.string left) = W9 at *
  obtain ⟨r0, r1, r2, r3, -⟩ := tcells4 hM7
  obtain ⟨s0, s1, s2, -⟩ := tcells3 hM6
  refine bodyPost_ret (v := .tuple #[.agg #[.int .u8 4, .string x, .int .i64 (n : Int), .int .i64 (col : Int)], .agg #[.int .i64 (n : Int), .int .i64 ((col + s.size - left.size : Nat) : Int), .string left], .int .i64 0]) (by simp [results, Tryz.results66, go_sem, r0, r1, r2, r3, s0, s1, s2]) rfl ?_
  exact ⟨rfl, hB7⟩
end Go.Proofs.YtdhgcgejdoedbaaGreatDoor

/-
  tok.each: contract of its iterator.
-/
namespace Go.Proofs.YtdhgcgejdoedbaaGreatDoor
open Go.RowKit Go.WideShapes
attribute [local go_sem] Oper.semAt_some wide_fn wide_depth wide_fn' wide_depth'

inductive BodyD where
  | leaf (x : LeafD)
  | key (k : ByteArray) (r : Option LeafD)
  | dash (b : BodyD)
def bodyS : BodyD → List Nat
  | .leaf x => leafL x
  | .key k none => wrL (bsN k) ++ [58]
  | .key k (some x) => wrL (bsN k) ++ 58 :: 32 :: leafL x
  | .dash b => 45 :: 32 :: bodyS b
def OkB : BodyD → Prop
  | .leaf x => OkL x
  | .key k none => OkT k
  | .key k (some x) => OkT k ∧ OkL x
  | .dash b => OkB b
abbrev TokD := Nat × ByteArray × Nat × Nat
def bodyK (n : Nat) : Nat → BodyD → List TokD
  | c, .leaf x => [(leafK x, leafT x, n, c)]
  | c, .key k none => [(4, k, n, c)]
  | c, .key k (some x) => [(4, k, n, c), (leafK x, leafT x, n, c + (wrL (bsN k)).length + 2)]
  | c, .dash b => (3, { data := #[] }, n, c) :: bodyK n (c + 2) b
def headK (n c : Nat) : BodyD → TokD
  | .leaf x => (leafK x, leafT x, n, c)
  | .key k _ => (4, k, n, c)
  | .dash _ => (3, { data := #[] }, n, c)
def tailD (c : Nat) : BodyD → Option (BodyD × Nat × Bool)
  | .leaf _ => none
  | .key _ none => none
  | .key k (some x) => some (.leaf x, c + (wrL (bsN k)).length + 2, true)
  | .dash b => some (b, c + 2, false)
theorem bodyK_step (n c : Nat) (b : BodyD) : bodyK n c b = headK n c b :: (match tailD c b with | none => [] | some (b', c', _) => bodyK n c' b') := by
  cases b with
  | leaf x => rfl
  | key k r => cases r <;> rfl
  | dash b => rfl
theorem body_first (b : BodyD) : ∃ a m, bodyS b = a :: m ∧ a ≠ 32 := by
  cases b with
  | leaf x => obtain ⟨a, m, h, h1, _⟩ := leafL_ends x; exact ⟨a, m, h, h1⟩
  | key k r =>
    obtain ⟨a, m, h, h1, _⟩ := wrL_first k
    cases r with
    | none => exact ⟨a, m ++ [58], by unfold bodyS; rw [h]; rfl, h1⟩
    | some x => exact ⟨a, m ++ 58 :: 32 :: leafL x, by unfold bodyS; rw [h]; rfl, h1⟩
  | dash b => exact ⟨45, 32 :: bodyS b, rfl, by decide⟩
theorem body_lt : ∀ b : BodyD, AllLt 256 (bodyS b)
  | .leaf x => leafL_lt x
  | .key k none => fun c hc => by
    rcases List.mem_append.1 hc with h | h
    · exact wrL_lt (bsN_lt k) c h
    · simp at h; omega
  | .key k (some x) => fun c hc => by
    rcases List.mem_append.1 hc with h | h
    · exact wrL_lt (bsN_lt k) c h
    · rcases List.mem_cons.1 h with rfl | h
      · decide
      · rcases List.mem_cons.1 h with rfl | h
        · decide
        · exact leafL_lt x c h
  | .dash b => fun c hc => by
    unfold bodyS at hc
    rcases List.mem_cons.1 hc with rfl | h
    · decide
    · rcases List.mem_cons.1 h with rfl | h
      · decide
      · exact body_lt b c h
theorem trimLN_first {a : Nat} {m : List Nat} (h : a ≠ 32) : trimLN (a :: m) = a :: m := by simp [trimLN, h]
def tokA (t : TokD) : Value := .agg #[.int .u8 (t.1 : Nat), .string t.2.1, .int .i64 (t.2.2.1 : Nat), .int .i64 (t.2.2.2 : Nat)]
theorem tkNext_body (n c : Nat) (s : ByteArray) (b : BodyD) (v : Bool) (hs : s.size ≤ 1073741824) (hc : c ≤ 1073741824) (hn : n ≤ 1073741824) (hv : v = true → ∃ x, b = .leaf x) (hb : bsN s = bodyS b) (hok : OkB b) :
    ∃ (left : ByteArray) (n' c' : Nat), (∀ w, Calls Tryz.prog 66 #[.agg #[.int .i64 (n : Int), .int .i64 (c : Int), .string s], .bool v] w fun e w' => e = .returned (.tuple #[tokA (headK n c b), .agg #[.int .i64 (n' : Int), .int .i64 (c' : Int), .string left], .int .i64 0]) ∧ Below w.heap.size w w') ∧
      (match tailD c b with | none => left = { data := #[] } | some (b', c1, v') => n' = n ∧ c' = c1 ∧ bsN left = bodyS b' ∧ left.size < s.size ∧ c1 + left.size ≤ c + s.size ∧ OkB b' ∧ (v' = true → ∃ x, b' = .leaf x)) ∧ (∀ b' c1 v', tailD c b = some (b', c1, v') → v' = decide ((headK n c b).1 = 4)) := by
  have hzs := bsN_len s
  cases b with
  | leaf x =>
    refine ⟨{ data := #[] }, 0, 0, fun w => ?_, rfl, fun _ _ _ h => by cases h⟩
    cases x with
    | word t => exact tkNext_word n c s t v w hs hc hn hb hok
    | noSeq =>
      obtain rfl : s = { data := #[91, 93] } := bsN_ext hb
      exact tkNext_noSeq n c v w
    | noMap =>
      obtain rfl : s = { data := #[123, 125] } := bsN_ext hb
      exact tkNext_noMap n c v w
  | key k r =>
    have hvf : v = false := by
      cases v with
      | false => rfl
      | true => obtain ⟨x, hx⟩ := hv rfl; cases hx
    subst hvf
    cases r with
    | none =>
      refine ⟨{ data := #[] }, n, c + s.size - 0, fun w => tkNext_key n c s k { data := #[] } [] w hs hc hn hb hok (.inl rfl) rfl, rfl, fun _ _ _ h => by cases h⟩
    | some x =>
      obtain ⟨a, m, hx, hx1, _⟩ := leafL_ends x
      have hbl : bsN (mkS (leafL x)) = leafL x := bsN_mkS (leafL_lt x)
      have hzl : (mkS (leafL x)).size = (leafL x).length := mkS_size _
      have hsz : s.size = (wrL (bsN k)).length + 2 + (leafL x).length := by
        rw [← hzs, hb]; unfold bodyS; rw [List.length_append, List.length_cons, List.length_cons]; omega
      refine ⟨mkS (leafL x), n, c + s.size - (mkS (leafL x)).size, fun w => tkNext_key n c s k (mkS (leafL x)) (32 :: leafL x) w hs hc hn hb hok.1 (.inr ⟨_, rfl⟩) ?_, ⟨rfl, by rw [hzl, hsz]; omega, hbl, by rw [hzl, hsz]; omega, by rw [hzl, hsz]; omega, hok.2, fun _ => ⟨x, rfl⟩⟩, fun b' c1 v' h => ?_⟩
      · rw [hbl]
        show leafL x = trimLN (32 :: leafL x)
        unfold trimLN
        rw [List.dropWhile_cons_of_pos (by decide)]
        have := trimLN_first (m := m) hx1
        unfold trimLN at this
        rw [hx, this]
      · injection h with h; injection h with _ h; injection h with _ h; rw [← h]; rfl
  | dash b =>
    have hvf : v = false := by
      cases v with
      | false => rfl
      | true => obtain ⟨x, hx⟩ := hv rfl; cases hx
    subst hvf
    obtain ⟨a, m, hx, hx1⟩ := body_first b
    have hbl : bsN (mkS (bodyS b)) = bodyS b := bsN_mkS (body_lt b)
    have hzl : (mkS (bodyS b)).size = (bodyS b).length := mkS_size _
    have hsz : s.size = 2 + (bodyS b).length := by
      rw [← hzs, hb]; show (45 :: 32 :: bodyS b).length = _; rw [List.length_cons, List.length_cons]; omega
    refine ⟨mkS (bodyS b), n, c + s.size - (mkS (bodyS b)).size, fun w => tkNext_dash n c s (mkS (bodyS b)) a m w hs hc hn (by rw [hb, ← hx]; rfl) hx1 (by rw [hbl, hx]), ⟨rfl, by rw [hzl, hsz]; omega, hbl, by rw [hzl, hsz]; omega, by rw [hzl, hsz]; omega, hok, fun h => by cases h⟩, fun b' c1 v' h => ?_⟩
    injection h with h; injection h with _ h; injection h with _ h; rw [← h]; rfl

theorem Step.st3 {n0 : Nat} {S : Nat → Prop} {W : World} {B : Nat} {x0 x1 x2 : Value} (hl : S B) (hn : n0 ≤ B) : Step n0 S S W (st3 W B x0 x1 x2) :=
  ((Step.setCell (p := ⟨B, 0, none⟩) x0 hl hn).trans (Step.setCell (p := ⟨B, 1, none⟩) x1 hl hn)).trans (Step.setCell (p := ⟨B, 2, none⟩) x2 hl hn)
theorem tkEach_any (n c : Nat) (s : ByteArray) (w : World) :
    Calls Tryz.prog 42 #[.agg #[.int .i64 (n : Int), .int .i64 (c : Int), .string s]] w fun e w' => e = .returned (.func (.func 65) #[] #[.pointer (some ⟨w.heap.size, 0, none⟩)]) ∧ w.alloc (.cells #[.int .i64 (n : Int), .int .i64 (c : Int), .string s] 67) = w' := by
  go_enter Tryz.func42, Tryz.ntmps42
  go_wp2
  go_ret
  exact ⟨rfl, rfl⟩
def encTk (t : TokD) : Array Value := #[tokA t, .int .i64 0]
theorem headK_cases (n c : Nat) (b : BodyD) : ∃ k x, headK n c b = (k, x, n, c) ∧ k < 256 := by
  cases b with
  | leaf x => exact ⟨_, _, rfl, by cases x <;> simp [leafK]⟩
  | key k r => exact ⟨_, _, rfl, by decide⟩
  | dash b => exact ⟨_, _, rfl, by decide⟩

set_option maxRecDepth 100000 in
set_option maxHeartbeats 4000000 in
theorem tkEach_iter (n col : Nat) (s : ByteArray) (b : BodyD) (n0 X : Nat) (w : World) (hs : s.size ≤ 536870912) (hc : col ≤ 536870912) (hn : n ≤ 1073741824) (hb : bsN s = bodyS b) (hok : OkB b) (hbX : w.heap[X]? = some (.cells #[.int .i64 (n : Int), .int .i64 (col : Int), .string s] 67 (0, 0))) :
    IterAt Tryz.prog n0 65 #[.pointer (some ⟨X, 0, none⟩)] encTk (bodyK n col b) True (fun _ => False) w := by
  intro l J Jx W _ hS hn0 hbl hJ hJx hY h0
  have hX := (hbl.block X (Array.getElem?_eq_some_iff.1 hbX).1).trans hbX
  obtain ⟨p0, p1, p2, -⟩ := tcells3 hX
  have HY := Lib.hid hY
  have HJ := Lib.hid hJ
  clear hY hS hJ hJx hX
  refine callsIn_of_wp Tryz.func65 rfl trivial ?_ rfl
  simp only [Tryz.ntmps65, List.size_toArray, List.length_cons, List.length_nil, Nat.reduceAdd, Nat.reduceSub, Array.replicate_succ, Array.replicate_zero, List.push_toArray, List.append_toArray, List.nil_append, List.cons_append]
  gi_wp2_with fail
  have hst := Step.alloc (S := fun _ => False) hn0 (.cells #[.int .i64 (n : Int), .int .i64 (col : Int), .string s] 122)
  have hP := World.alloc_heap_new W (.cells #[.int .i64 (n : Int), .int .i64 (col : Int), .string s] 122)
  have hJ1 := HJ.out _ _ _ _ _ (fun k h => h.elim) h0 hst
  have hS1 : Hid (∀ k, (False ∨ k = W.heap.size) → n0 ≤ k ∧ k < (W.alloc (.cells #[.int .i64 (n : Int), .int .i64 (col : Int), .string s] 122)).heap.size) := Lib.hid (fun k h => by rcases h with h | rfl; exact h.elim; simp; omega)
  have HP := Lib.hid hP
  clear hst hP h0 p0 p1 p2
  generalize (W.alloc (.cells #[.int .i64 (n : Int), .int .i64 (col : Int), .string s] 122)) = w1 at *
  gi_loopg [3, 4] ((bodyK n col b).length + 1) (fun g t3 t4 wr => ∃ (S : Nat → Prop) (pre : List TokD) (st : BodyD) (v : Bool) (Pb c : Nat) (u : ByteArray), pre.length + g = (bodyK n col b).length + 1 ∧ Hid (bodyK n col b = pre ++ bodyK n c st) ∧ t3 = .bool v ∧ t4 = .pointer (some ⟨Pb, 0, none⟩) ∧ Hid (wr.heap[Pb]? = some (.cells #[.int .i64 (n : Int), .int .i64 (c : Int), .string u] 122 (0, 0))) ∧ Hid (bsN u = bodyS st) ∧ Hid (OkB st) ∧ Hid (v = true → ∃ x, st = .leaf x) ∧ u.size ≤ 536870912 ∧ c + u.size ≤ 1073741824 ∧ S Pb ∧ Hid (∀ k, S k → n0 ≤ k ∧ k < wr.heap.size) ∧ n0 ≤ wr.heap.size ∧ J S pre wr)
  case atStart =>
    exact ⟨_, [], b, false, W.heap.size, col, s, by simp, Lib.hid rfl, rfl, rfl, HP, Lib.hid hb, Lib.hid hok, Lib.hid (fun h => by cases h), hs, by omega, .inr rfl, hS1, by have := hS1.out _ (.inr rfl); omega, hJ1⟩
  case round =>
    obtain ⟨S, pre, st, v, Pb, c, u, hgk, HK, rfl, rfl, HPb, HU, HOK, HV, hus, hcu, hSP, HSb, hnr, hJs⟩ := hrel
    obtain ⟨left, n', c', hnx, hleft, hval⟩ := tkNext_body n c u st v (by omega) (by omega) hn HV.out HU.out HOK.out
    have HNX := Lib.hid hnx
    have HLF := Lib.hid hleft
    have HVL := Lib.hid hval
    have HST := Lib.hid (bodyK_step n c st)
    clear hnx hleft hval HU HOK HV
    obtain ⟨k, x, hhd, hk256⟩ := headK_cases n c st
    rw [hhd] at HNX HVL HST
    clear hhd
    obtain ⟨p0, p1, p2, -⟩ := tcells3 HPb.out
    gi_wp2_with fail
    refine callsIn_wide.2 ?_
    refine (HNX.out _).mono ?_
    rintro e w2 ⟨rfl, hb2⟩
    unfold tokA
    gi_upto_region 3 with fail
    have hst2 := Step.of_below (S := S) hnr hb2
    have hn2 : n0 ≤ w2.heap.size := Nat.le_trans hnr hb2.size
    have hst3 := (hst2.trans (Step.alloc (S := S) hn2 (.cells #[.int .u8 (k : Nat), .string x, .int .i64 (n : Int), .int .i64 (c : Int)] 39))).trans (Step.alloc (W := w2.alloc (.cells #[.int .u8 (k : Nat), .string x, .int .i64 (n : Int), .int .i64 (c : Int)] 39)) (by simp; omega) (.cells #[.int .i64 (n' : Int), .int .i64 (c' : Int), .string left] 122))
    rw [World.size_alloc] at hst3
    have hT3 : ((w2.alloc (.cells #[.int .u8 (k : Nat), .string x, .int .i64 (n : Int), .int .i64 (c : Int)] 39)).alloc (.cells #[.int .i64 (n' : Int), .int .i64 (c' : Int), .string left] 122)).heap[w2.heap.size]? = some (.cells #[.int .u8 (k : Nat), .string x, .int .i64 (n : Int), .int .i64 (c : Int)] 39 (0, 0)) := (Below.heap_alloc _ _ _ (by simp)).trans (World.alloc_heap_new w2 _)
    have hP3 : ((w2.alloc (.cells #[.int .u8 (k : Nat), .string x, .int .i64 (n : Int), .int .i64 (c : Int)] 39)).alloc (.cells #[.int .i64 (n' : Int), .int .i64 (c' : Int), .string left] 122)).heap[w2.heap.size + 1]? = some (.cells #[.int .i64 (n' : Int), .int .i64 (c' : Int), .string left] 122 (0, 0)) := by
      have := World.alloc_heap_new (w2.alloc (.cells #[.int .u8 (k : Nat), .string x, .int .i64 (n : Int), .int .i64 (c : Int)] 39)) (.cells #[.int .i64 (n' : Int), .int .i64 (c' : Int), .string left] 122)
      rw [World.size_alloc] at this; exact this
    have hPb3 : ((w2.alloc (.cells #[.int .u8 (k : Nat), .string x, .int .i64 (n : Int), .int .i64 (c : Int)] 39)).alloc (.cells #[.int .i64 (n' : Int), .int .i64 (c' : Int), .string left] 122)).heap[Pb]? = some (.cells #[.int .i64 (n : Int), .int .i64 (c : Int), .string u] 122 (0, 0)) := blk_next (((Below.refl _ w2).alloc (Nat.le_refl _) _).alloc (by simp) _) (blk_next hb2 HPb.out)
    have hJ3 := HJ.out _ _ _ _ _ HSb.out hJs hst3
    have hS3 := hst3.bound hnr HSb.out
    have hlt2 : Pb < w2.heap.size := (Array.getElem?_eq_some_iff.1 (blk_next hb2 HPb.out)).1
    clear hst2 hst3 hb2 p0 p1 p2 hJs HPb
    generalize hw2 : w2.heap.size = T5 at *
    generalize ((w2.alloc (.cells #[.int .u8 (k : Nat), .string x, .int .i64 (n : Int), .int .i64 (c : Int)] 39)).alloc (.cells #[.int .i64 (n' : Int), .int .i64 (c' : Int), .string left] 122)) = w3 at *
    have hn3 : n0 ≤ w3.heap.size := by have := (hS3 _ (.inr rfl)).1; have := (hS3 _ (.inr rfl)).2; omega
    obtain ⟨q0, q1, q2, q3, -⟩ := tcells4 hT3
    obtain ⟨r0, r1, r2, -⟩ := tcells3 hP3
    have HT3 := Lib.hid hT3
    have HP3 := Lib.hid hP3
    have HPb3 := Lib.hid hPb3
    have HS3 := Lib.hid hS3
    clear hT3 hP3 hPb3 hS3 hw2
    cases htl : tailD c st with
    | none =>
      rw [htl] at HLF HST
      have hle : left = { data := #[] } := HLF.out
      have HE : Hid (bodyK n col b = pre ++ [(k, x, n, c)]) := Lib.hid (by rw [HK.out, HST.out])
      obtain ⟨fn, tmps, assign, body, hy, hR⟩ := HY.out _ pre (k, x, n, c) w3 HS3.out hJ3 (by rw [HE.out]; exact List.prefix_refl _)
      dsimp only [encTk, tokA] at hy
      have HR := Lib.hid hR
      subst hle
      clear hR HLF
      gi_wp2_with fail
      refine HR.out.mono ?_
      rintro e W' (⟨rfl, hJ', hk'⟩ | ⟨rfl, hJ', hk'⟩)
      · have hP4 := (hk'.same _ (.inr rfl)).trans HP3.out
        clear hy q0 q1 q2 q3 r0 r1 r2
        obtain ⟨r0, r1, r2, -⟩ := tcells3 hP4
        clear hP4
        gi_wp2_with fail
        refine bodyPost_ret (results_none rfl _ _ _) rfl ?_
        exact ⟨⟨_, rfl⟩, _, (fun j hj => by have := HS3.out j hj; have := hk'.below.size; omega), .inl (by rw [HE.out]; exact hJ')⟩
      · clear hy q0 q1 q2 q3 r0 r1 r2
        gi_wp2_with fail
        refine bodyPost_ret (results_none rfl _ _ _) rfl ?_
        exact ⟨⟨_, rfl⟩, _, (fun j hj => by have := HS3.out j hj; have := hk'.below.size; omega), .inr ⟨_, by rw [HE.out]; exact List.prefix_refl _, hJ'⟩⟩
    | some y =>
      obtain ⟨b', c1, v'⟩ := y
      rw [htl] at HLF HST
      have hLF := HLF.out
      obtain ⟨rfl, rfl, hbl, hls, hcl, hok', hv'⟩ := hLF
      have HVK : Hid (v' = decide (k = 4)) := Lib.hid (HVL.out _ _ _ htl)
      have HE : Hid (bodyK n' col b = (pre ++ [(k, x, n', c)]) ++ bodyK n' c' b') := Lib.hid (by rw [HK.out, HST.out]; simp)
      obtain ⟨fn, tmps, assign, body, hy, hR⟩ := HY.out _ pre (k, x, n', c) w3 HS3.out hJ3 (by rw [HE.out]; exact List.prefix_append _ _)
      dsimp only [encTk, tokA] at hy
      have HR := Lib.hid hR
      have HBL := Lib.hid hbl
      have HOK' := Lib.hid hok'
      have HV' := Lib.hid hv'
      have hne : left.toList.isEmpty = false := by
        rw [str_empty]
        obtain ⟨a, m, ha, _⟩ := body_first b'
        have := bsN_len left
        rw [hbl, ha, List.length_cons] at this
        exact decide_eq_false (by omega)
      have hne2 : (left.toList == []) = false := by
        cases h2 : left.toList with
        | nil => rw [h2] at hne; cases hne
        | cons _ _ => rfl
      clear hR HLF hbl hok' hv' HVL
      gi_wp2_with fail
      refine HR.out.mono ?_
      rintro e W' (⟨rfl, hJ', hk'⟩ | ⟨rfl, hJ', hk'⟩)
      · have hP4 := (hk'.same _ (.inr rfl)).trans HP3.out
        have hT4 := (hk'.same _ (.inl (.inr rfl))).trans HT3.out
        have hPb4 := (hk'.same _ (.inl (.inl hSP))).trans HPb3.out
        clear hy q0 q1 q2 q3 r0 r1 r2
        obtain ⟨r0, r1, r2, -⟩ := tcells3 hP4
        obtain ⟨q0, q1, q2, q3, -⟩ := tcells4 hT4
        obtain ⟨s0, s1, s2, f0, f1, f2⟩ := tcells3 hPb4
        have HPb4 := Lib.hid hPb4
        clear hP4 hT4 hPb4
        gi_upto_region 7 with fail
        have hPbn := (HS3.out _ (.inl (.inl hSP))).1
        have hst4 := Step.st3 (W := W') (n0 := n0) (x0 := .int .i64 (n' : Int)) (x1 := .int .i64 (c' : Int)) (x2 := .string left) (S := fun k => (S k ∨ k = T5) ∨ k = T5 + 1) (.inl (.inl hSP)) hPbn
        have hJ5 := HJ.out _ _ _ _ _ (fun j hj => by have := HS3.out j hj; have := hk'.below.size; omega) hJ' hst4
        have hsz5 := hst4.below.size
        have hszk := hk'.below.size
        clear hst4 r0 r1 r2 q0 q1 q2 q3 s0 s1 s2 f0 f1 f2
        change Code.wpIn _ _ _ _ _ _ (st3 W' Pb (.int .i64 (n' : Int)) (.int .i64 (c' : Int)) (.string left))
        generalize st3 W' Pb (.int .i64 (n' : Int)) (.int .i64 (c' : Int)) (.string left) = w5 at *
        have hst6 := Step.alloc (S := fun k => (S k ∨ k = T5) ∨ k = T5 + 1) (show n0 ≤ w5.heap.size by omega) (.cells #[.int .i64 (n' : Int), .int .i64 (c' : Int), .string left] 122)
        have hJ6 := HJ.out _ _ _ _ _ (fun j hj => by have := HS3.out j hj; omega) hJ5 hst6
        have hP6 := World.alloc_heap_new w5 (.cells #[.int .i64 (n' : Int), .int .i64 (c' : Int), .string left] 122)
        have HP6 := Lib.hid hP6
        have hsz6 : (w5.alloc (.cells #[.int .i64 (n' : Int), .int .i64 (c' : Int), .string left] 122)).heap.size = w5.heap.size + 1 := by simp
        have HS6 : Hid (∀ j, (((S j ∨ j = T5) ∨ j = T5 + 1) ∨ j = w5.heap.size) → n0 ≤ j ∧ j < (w5.alloc (.cells #[.int .i64 (n' : Int), .int .i64 (c' : Int), .string left] 122)).heap.size) := Lib.hid (fun j hj => by
          rw [hsz6]
          rcases hj with hj | rfl
          · have := HS3.out j hj; omega
          · omega)
        have hvb : Value.bool ((k : Int) == 4) = Value.bool v' := by
          rw [HVK.out]; congr 1; rw [Bool.eq_iff_iff]; simp; omega
        have HVB := Lib.hid hvb
        clear hvb
        have hlen := congrArg List.length HE.out
        rw [List.length_append, List.length_append, List.length_singleton] at hlen
        have hml : 0 < (bodyK n' c' b').length := by rw [bodyK_step]; simp
        have hn6 : n0 ≤ w5.heap.size + 1 := by omega
        clear hst6 hJ5 hJ' hk' hP6
        gi_wp2_with fail
        gi_roundg ((bodyK n' col b).length + 1 - (pre.length + 1))
        case measure => omega
        case rel => exact ⟨_, pre ++ [(k, x, n', c)], b', v', w5.heap.size, c', left, by rw [List.length_append, List.length_singleton]; omega, HE, HVB.out, rfl, HP6, HBL, HOK', HV', by omega, by omega, .inr rfl, HS6, by rw [hsz6]; exact hn6, hJ6⟩
      · clear hy q0 q1 q2 q3 r0 r1 r2
        gi_wp2_with fail
        refine bodyPost_ret (results_none rfl _ _ _) rfl ?_
        exact ⟨⟨_, rfl⟩, _, (fun j hj => by have := HS3.out j hj; have := hk'.below.size; omega), .inr ⟨_, by rw [HE.out]; exact List.prefix_append _ _, hJ'⟩⟩
end Go.Proofs.YtdhgcgejdoedbaaGreatDoor
