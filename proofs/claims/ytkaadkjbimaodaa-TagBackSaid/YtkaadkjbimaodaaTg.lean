/-
  tag: live, the laws' walks.
-/
import Derived.Test.YtkaadkjbimaodaaTf
import Derived.Test.YtkaadkjbimaodaaVg
namespace Go.Proofs.Ytkaadkjbimaodaa
open Go.RowKit

theorem live02_f : mkT 1 2 = (10, 0) ∧ splT 10 = (1, 2, 0) ∧ readL 4 [2, 1, 0, 0, 9] = (258, 0) ∧ readL 8 [2, 1, 0, 0, 0, 0, 0, 0] = (258, 0) ∧ widthN 5 = 4 ∧ wireB 5 = true ∧ readL 4 [] = (0, 4) ∧ (headL 1 2).length = 1 := by decide +kernel

set_option maxRecDepth 100000 in
set_option maxHeartbeats 2000000 in
theorem live02_any (w : World) : Calls Try.prog 41 #[] w fun e w' => e = .returned (.bool true) ∧ Below w.heap.size w w' := by
  obtain ⟨l1, l2, l3, l4, l5, l6, l7, l8⟩ := live02_f
  have L1 := Lib.hid l1; have L2 := Lib.hid l2; have L3 := Lib.hid l3; have L4 := Lib.hid l4; have L5 := Lib.hid l5; have L6 := Lib.hid l6; have L7 := Lib.hid l7; have L8 := Lib.hid l8
  clear l1 l2 l3 l4 l5 l6 l7 l8
  go_enter Try.func41, Try.ntmps41
  go_wp2_with fail
  refine (Make_any 1 2 _ (by omega) (by omega) (by omega)).mono ?_
  rintro e w' ⟨rfl, rfl⟩
  rw [L1.out]
  dsimp only [tupT]
  go_wp2_with fail
  refine (Split_any 10 _ (by omega)).mono ?_
  rintro e w' ⟨rfl, rfl⟩
  rw [L2.out]
  dsimp only [tupS]
  go_wp2_with fail
  refine (Get32_any [2, 1, 0, 0, 9] _ _ (by simp [AllLt]) (rds_lit (c := #[.int .u8 2, .int .u8 1, .int .u8 0, .int .u8 0, .int .u8 9]) 5 rfl (by omega))).mono ?_
  rintro e w' ⟨rfl, rfl⟩
  rw [L3.out]
  dsimp only
  have hb1 : Below w.heap.size w (w.alloc (Obj.cells #[Value.int IntKind.u8 2, Value.int IntKind.u8 1, Value.int IntKind.u8 0, Value.int IntKind.u8 0, Value.int IntKind.u8 9] 5)) := (Below.refl _ _).alloc (Nat.le_refl _) _
  generalize hw1 : (w.alloc (Obj.cells #[Value.int IntKind.u8 2, Value.int IntKind.u8 1, Value.int IntKind.u8 0, Value.int IntKind.u8 0, Value.int IntKind.u8 9] 5)) = w1 at *
  clear hw1
  go_wp2_with fail
  refine (Get64_any [2, 1, 0, 0, 0, 0, 0, 0] _ _ (by simp [AllLt]) (rds_lit (c := #[.int .u8 2, .int .u8 1, .int .u8 0, .int .u8 0, .int .u8 0, .int .u8 0, .int .u8 0, .int .u8 0]) 8 rfl (by omega))).mono ?_
  rintro e w' ⟨rfl, rfl⟩
  rw [L4.out]
  dsimp only
  have hb2 := hb1.alloc hb1.size (Obj.cells #[Value.int IntKind.u8 2, Value.int IntKind.u8 1, Value.int IntKind.u8 0, Value.int IntKind.u8 0, Value.int IntKind.u8 0, Value.int IntKind.u8 0, Value.int IntKind.u8 0, Value.int IntKind.u8 0] 5)
  generalize hw2 : (w1.alloc (Obj.cells #[Value.int IntKind.u8 2, Value.int IntKind.u8 1, Value.int IntKind.u8 0, Value.int IntKind.u8 0, Value.int IntKind.u8 0, Value.int IntKind.u8 0, Value.int IntKind.u8 0, Value.int IntKind.u8 0] 5)) = w2 at *
  clear hw2 hb1
  go_wp2_with fail
  refine (Width_any 5 _ (by omega)).mono ?_
  rintro e w' ⟨rfl, rfl⟩
  rw [L5.out, L6.out]
  go_wp2_with fail
  refine (Get32_any [] _ _ (by simp [AllLt]) (RdS.of_owns (World.ownsRow_nil _ 0 5 1))).mono ?_
  rintro e w' ⟨rfl, rfl⟩
  rw [L7.out]
  dsimp only
  go_wp2_with fail
  refine (Fix32_any 1 _ (by omega)).mono ?_
  rintro e w3 ⟨v3, rfl, ho3, hb3⟩
  obtain ⟨a3, c3, rfl⟩ := (RdS.of_owns ho3).form
  have hb3 := hb2.trans (hb3.mono hb2.size)
  clear ho3
  go_wp2_with fail
  refine (Fix64_any 1 _ (by omega)).mono ?_
  rintro e w4 ⟨v4, rfl, ho4, hb4⟩
  obtain ⟨a4, c4, rfl⟩ := (RdS.of_owns ho4).form
  have hb4 := hb3.trans (hb4.mono hb3.size)
  clear ho4
  go_wp2_with fail
  refine (Head_any 1 2 _ (by omega) (by omega) (by omega)).mono ?_
  rintro e w5 ⟨v5, rfl, ho5, hb5⟩
  rw [L8.out] at ho5
  obtain ⟨a5, c5, rfl⟩ := (RdS.of_owns ho5).form
  have hb5 := hb4.trans (hb5.mono hb4.size)
  clear ho5
  go_wp2
  go_ret
  exact ⟨rfl, hb5⟩

set_option maxRecDepth 100000 in
set_option maxHeartbeats 1000000 in
theorem TagSplits_any (n : Nat) (w : World) (hn : n < 18446744073709551616) :
    Calls Try.prog 13 #[.int .u64 n] w fun e w' => e = .returned (.bool true) ∧ Below w.heap.size w w' := by
  have HS := Lib.hid (fun w => Split_any n w hn)
  have HR := Lib.hid (fun w => rSplit_any n w hn)
  unfold tupS at HS HR
  generalize splT n = x at *
  obtain ⟨a, b, c⟩ := x
  dsimp only at HS HR
  go_enter Try.func13, Try.ntmps13
  go_wp2_with fail
  refine (live02_any _).mono ?_
  rintro e w1 ⟨rfl, hb1⟩
  go_wp2_with fail
  refine (HS.out _).mono ?_
  rintro e w' ⟨rfl, rfl⟩
  go_wp2_with fail
  refine (HR.out _).mono ?_
  rintro e w' ⟨rfl, rfl⟩
  go_wp2
  go_ret
  exact ⟨rfl, hb1⟩

set_option maxRecDepth 100000 in
set_option maxHeartbeats 1000000 in
theorem TagMakes_any (n : Int) (wi : Nat) (w : World) (h1 : -9223372036854775808 ≤ n) (h2 : n ≤ 9223372036854775807) (hw : wi < 256) :
    Calls Try.prog 12 #[.int .i64 n, .int .u8 wi] w fun e w' => e = .returned (.bool true) ∧ Below w.heap.size w w' := by
  have HS := Lib.hid (fun w => Make_any n wi w h1 h2 hw)
  have HR := Lib.hid (fun w => rMake_any n wi w h1 h2 hw)
  have HH := Lib.hid (fun w => Head_any n wi w h1 h2 hw)
  have hr := mkT_range n wi hw
  unfold tupT at HS HR
  unfold headL at HH
  generalize mkT n wi = x at *
  obtain ⟨t, c⟩ := x
  dsimp only at HS HR HH hr
  obtain ⟨T, rfl⟩ : ∃ T : Nat, t = T := ⟨t.toNat, by omega⟩
  rw [Int.toNat_natCast] at HH
  go_enter Try.func12, Try.ntmps12
  go_wp2_with fail
  refine (live02_any _).mono ?_
  rintro e w1 ⟨rfl, hb1⟩
  go_wp2_with fail
  refine (HS.out _).mono ?_
  rintro e w' ⟨rfl, rfl⟩
  go_wp2_with fail
  refine (HR.out _).mono ?_
  rintro e w' ⟨rfl, rfl⟩
  go_wp2_with fail
  refine (HH.out _).mono ?_
  rintro e w2 ⟨v2, rfl, ho2, hb2⟩
  have hB := hb1.trans (hb2.mono hb1.size)
  by_cases h0 : c = 0
  · subst h0
    rw [if_pos rfl] at ho2
    have HO := Lib.hid (RdS.of_owns ho2)
    obtain ⟨a2, c2, rfl⟩ := (RdS.of_owns ho2).form
    clear ho2
    go_wp2_with fail
    refine (rPut_any T _ (by omega)).mono ?_
    rintro e w3 ⟨v3, rfl, ho3, hb3⟩
    have HO3 := Lib.hid (RdS.of_owns ho3)
    obtain ⟨a3, c3, rfl⟩ := (RdS.of_owns ho3).form
    clear ho3
    go_wp2_with fail
    refine (Same_true _ _ (putL 9 T) _ (HO.out.below hb3) HO3.out).mono ?_
    rintro e w4 ⟨rfl, hb4⟩
    go_wp2
    go_ret
    exact ⟨rfl, bthen (bthen hB (Nat.le_refl _) hb3) (Nat.le_refl _) hb4⟩
  · rw [if_neg h0] at ho2
    obtain ⟨a2, c2, rfl⟩ := (RdS.of_owns ho2).form
    have hz : (c == 0) = false := by simpa using h0
    clear ho2 h0
    go_wp2
    go_ret
    exact ⟨rfl, hB⟩
end Go.Proofs.Ytkaadkjbimaodaa
