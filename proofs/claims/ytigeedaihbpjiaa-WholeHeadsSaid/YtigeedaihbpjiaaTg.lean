/-
  tag: live, the laws' walks.
-/
import Derived.Test.YtigeedaihbpjiaaTf
import Derived.Test.YtigeedaihbpjiaaVg
namespace Go.Proofs.Ytigeedaihbpjiaa
open Go.RowKit

theorem live02_f : mkT 1 2 = (10, 0) ∧ splT 10 = (1, 2, 0) ∧ readL 4 [2, 1, 0, 0, 9] = (258, 0) ∧ readL 8 [2, 1, 0, 0, 0, 0, 0, 0] = (258, 0) ∧ widthN 5 = 4 ∧ wireB 5 = true ∧ readL 4 [] = (0, 4) ∧ (headL 1 2).length = 1 := by decide +kernel

set_option maxRecDepth 100000 in
set_option maxHeartbeats 2000000 in
theorem live02_any (w : World) : Calls Try.prog 20 #[] w fun e w' => e = .returned (.bool true) ∧ Below w.heap.size w w' := by
  obtain ⟨l1, l2, l3, l4, l5, l6, l7, l8⟩ := live02_f
  have L1 := Lib.hid l1; have L2 := Lib.hid l2; have L3 := Lib.hid l3; have L4 := Lib.hid l4; have L5 := Lib.hid l5; have L6 := Lib.hid l6; have L7 := Lib.hid l7; have L8 := Lib.hid l8
  clear l1 l2 l3 l4 l5 l6 l7 l8
  go_enter Try.func20, Try.ntmps20
  go_wp2_with fail
  refine (Make_any 1 2 _ (by omega) (by omega) (by omega)).mono ?_
  rintro e w' ⟨rfl, rfl⟩
  rw [L1.out]
  dsimp only [tupT]
  go_wp2_with fail
  refine (Split_any 10 _ (by omega)).mono ?_
  rintro e w' ⟨rfl, rfl⟩
  rw [L2.out]
  dsimp only [tupS]
  go_wp2_with fail
  refine (Get32_any [2, 1, 0, 0, 9] _ _ (by simp [AllLt]) (rds_lit (c := #[.int .u8 2, .int .u8 1, .int .u8 0, .int .u8 0, .int .u8 9]) 5 rfl (by omega))).mono ?_
  rintro e w' ⟨rfl, rfl⟩
  rw [L3.out]
  dsimp only
  have hb1 : Below w.heap.size w (w.alloc (Obj.cells #[Value.int IntKind.u8 2, Value.int IntKind.u8 1, Value.int IntKind.u8 0, Value.int IntKind.u8 0, Value.int IntKind.u8 9] 5)) := (Below.refl _ _).alloc (Nat.le_refl _) _
  generalize hw1 : (w.alloc (Obj.cells #[Value.int IntKind.u8 2, Value.int IntKind.u8 1, Value.int IntKind.u8 0, Value.int IntKind.u8 0, Value.int IntKind.u8 9] 5)) = w1 at *
  clear hw1
  go_wp2_with fail
  refine (Get64_any [2, 1, 0, 0, 0, 0, 0, 0] _ _ (by simp [AllLt]) (rds_lit (c := #[.int .u8 2, .int .u8 1, .int .u8 0, .int .u8 0, .int .u8 0, .int .u8 0, .int .u8 0, .int .u8 0]) 8 rfl (by omega))).mono ?_
  rintro e w' ⟨rfl, rfl⟩
  rw [L4.out]
  dsimp only
  have hb2 := hb1.alloc hb1.size (Obj.cells #[Value.int IntKind.u8 2, Value.int IntKind.u8 1, Value.int IntKind.u8 0, Value.int IntKind.u8 0, Value.int IntKind.u8 0, Value.int IntKind.u8 0, Value.int IntKind.u8 0, Value.int IntKind.u8 0] 5)
  generalize hw2 : (w1.alloc (Obj.cells #[Value.int IntKind.u8 2, Value.int IntKind.u8 1, Value.int IntKind.u8 0, Value.int IntKind.u8 0, Value.int IntKind.u8 0, Value.int IntKind.u8 0, Value.int IntKind.u8 0, Value.int IntKind.u8 0] 5)) = w2 at *
  clear hw2 hb1
  go_wp2_with fail
  refine (Width_any 5 _ (by omega)).mono ?_
  rintro e w' ⟨rfl, rfl⟩
  rw [L5.out, L6.out]
  go_wp2_with fail
  refine (Get32_any [] _ _ (by simp [AllLt]) (RdS.of_owns (World.ownsRow_nil _ 0 5 1))).mono ?_
  rintro e w' ⟨rfl, rfl⟩
  rw [L7.out]
  dsimp only
  go_wp2_with fail
  refine (Fix32_any 1 _ (by omega)).mono ?_
  rintro e w3 ⟨v3, rfl, ho3, hb3⟩
  obtain ⟨a3, c3, rfl⟩ := (RdS.of_owns ho3).form
  have hb3 := hb2.trans (hb3.mono hb2.size)
  clear ho3
  go_wp2_with fail
  refine (Fix64_any 1 _ (by omega)).mono ?_
  rintro e w4 ⟨v4, rfl, ho4, hb4⟩
  obtain ⟨a4, c4, rfl⟩ := (RdS.of_owns ho4).form
  have hb4 := hb3.trans (hb4.mono hb3.size)
  clear ho4
  go_wp2_with fail
  refine (Head_any 1 2 _ (by omega) (by omega) (by omega)).mono ?_
  rintro e w5 ⟨v5, rfl, ho5, hb5⟩
  rw [L8.out] at ho5
  obtain ⟨a5, c5, rfl⟩ := (RdS.of_owns ho5).form
  have hb5 := hb4.trans (hb5.mono hb4.size)
  clear ho5
  go_wp2
  go_ret
  exact ⟨rfl, hb5⟩

end Go.Proofs.Ytigeedaihbpjiaa
