/-
  varint: live.
-/
import Derived.Test.YtkaadkjbimaodaaVf
namespace Go.Proofs.Ytkaadkjbimaodaa
open Go.RowKit

theorem rds_lit {w : World} {e : TypeId} {c : Array Value} (n : Nat) (hn : c.size = n) (hm : n ≤ 1048576) : RdS (w.alloc (.cells c e)) (.slice (some ⟨w.heap.size, 0, none⟩) n n) 1 n c.toList := by
  refine ⟨by simp [hn], _, _, rfl, Nat.le_refl _, by unfold maxLen; omega, .inr ⟨_, _, rfl, fun i v hi => ?_⟩⟩
  have := World.alloc_heap_new w (.cells c e)
  unfold World.cell?
  rw [this]
  simpa using hi

def Boxed2 (W : World) (B : Nat) (t : TypeId) (a b : Value) : Prop := W.heap[B]? = some (.cells #[a, b] t (0, 0))
set_option maxRecDepth 100000 in
set_option maxHeartbeats 800000 in
theorem live_any (w : World) : Calls Try.prog 25 #[] w fun e w' => e = .returned (.bool true) ∧ Below w.heap.size w w' := by
  go_enter Try.func25, Try.ntmps25
  go_wp2_with fail
  refine (Put_any 300 _ (by omega)).mono ?_
  rintro e w1 ⟨v1, rfl, ho1, hb1⟩
  rw [show putL 9 300 = [172, 2] by decide] at ho1
  obtain ⟨g1, c1, rfl⟩ := ownsRow_succ ho1
  have hr1 := RdS.of_owns ho1
  have HR1 := Lib.hid hr1
  have H1 := Lib.hid (ho1.cells (g := g1) rfl 0 (.int .u8 172) rfl)
  have hg1 : g1 < w1.heap.size := (ho1.lt g1 rfl).2
  have hs1 := hb1.size
  clear ho1 hr1
  go_wp2_with fail
  refine (Get_any [128, 0, 7] _ _ (by simp [AllLt]) (rds_lit (c := #[.int .u8 128, .int .u8 0, .int .u8 7]) 3 rfl (by omega))).mono ?_
  rintro e w' ⟨rfl, rfl⟩
  rw [show getL [128, 0, 7] = (0, 2, 0) by decide]
  dsimp only [tup3]
  have hb2 : Below w1.heap.size w1 (w1.alloc (Obj.cells #[Value.int IntKind.u8 128, Value.int IntKind.u8 0, Value.int IntKind.u8 7] 5)) := (Below.refl _ _).alloc (Nat.le_refl _) _
  generalize hw2 : (w1.alloc (Obj.cells #[Value.int IntKind.u8 128, Value.int IntKind.u8 0, Value.int IntKind.u8 7] 5)) = w2 at *
  clear hw2
  have hs2 := hb2.size
  go_wp2_with fail
  refine (All_any [1, 2] _ _ (by simp [AllLt]) (rds_lit (c := #[.int .u8 1, .int .u8 2]) 2 rfl (by omega)) (by simp)).mono ?_
  rintro e w3 ⟨v3, rfl, ho3, hb3⟩
  rw [show allL [1, 2] = ([1, 2], 0, 0) by decide] at ho3 ⊢
  obtain ⟨g3, c3, rfl⟩ := ownsRow_succ ho3
  have hs3 := hb3.size
  have hb3' : Below w2.heap.size w2 w3 := ((Below.refl _ _).alloc (Nat.le_refl _) _).trans (hb3.mono (by simp))
  clear ho3
  have hA : Below w1.heap.size w1 (w3.alloc (Obj.cells #[Value.int IntKind.i64 0, Value.int IntKind.i64 0] 56)) :=
    ((hb2.trans (hb3'.mono hs2)).alloc (by have := hb3'.size; omega) _)
  have q1 := cellB hA H1.out
  simp only [Addr.add_lit, Nat.zero_add] at q1
  have hB3 : Boxed2 (w3.alloc (Obj.cells #[Value.int IntKind.i64 0, Value.int IntKind.i64 0] 56)) w3.heap.size 56 (.int .i64 0) (.int .i64 0) := World.alloc_heap_new w3 _
  clear hb3
  go_wp2_with fail
  have hL : RdS ((w3.alloc (Obj.cells #[Value.int IntKind.i64 0, Value.int IntKind.i64 0] 56)).alloc (Obj.cells #[Value.int IntKind.u8 128, Value.int IntKind.u8 0] 5)) (.slice (some ⟨w3.heap.size + 1, 0, none⟩) 2 2) 1 2 (u8s [128, 0]) := by
    have := rds_lit (w := w3.alloc (Obj.cells #[Value.int IntKind.i64 0, Value.int IntKind.i64 0] 56)) (e := 5) (c := #[.int .u8 128, .int .u8 0]) 2 rfl (by omega)
    rw [World.size_alloc] at this; exact this
  refine (Short_any [128, 0] _ _ (by simp [AllLt]) hL).mono ?_
  rintro e w5 ⟨rfl, hb5⟩
  rw [show shortB [128, 0] = false by decide]
  have h5 : Below w3.heap.size w3 w5 := (((Below.refl _ w3).alloc (Nat.le_refl _) _).alloc (by simp) _).trans (hb5.mono (by simp; omega))
  have hA5 : Below w1.heap.size w1 w5 := (hb2.trans (hb3'.mono hs2)).trans (h5.mono (by have := hb3'.size; omega))
  have hB5 : w5.heap[w3.heap.size]? = some (.cells #[.int .i64 0, .int .i64 0] 56 (0, 0)) := by
    rw [hb5.block _ (by simp; omega), Below.heap_alloc _ _ _ (by simp)]; exact hB3
  have HB5 := Lib.hid hB5
  clear hB5 hB3 hb5 q1 hA hL
  have hs5 := h5.size
  go_wp2_with fail
  refine (Short_any [172, 2] _ _ (by simp [AllLt]) (HR1.out.below hA5)).mono ?_
  rintro e w6 ⟨rfl, hb6⟩
  rw [show shortB [172, 2] = true by decide]
  have hs6 := hb6.size
  go_wp2_with fail
  refine (Zig_any (-2) _ (by omega) (by omega)).mono ?_
  rintro e w' ⟨rfl, rfl⟩
  rw [show zigN (-2) = 3 by decide]
  go_wp2_with fail
  refine (Zag_any 3 _ (by omega)).mono ?_
  rintro e w' ⟨rfl, rfl⟩
  rw [show zagN 3 = -2 by decide]
  go_wp2_with fail
  refine (Size_any 128 _ (by omega)).mono ?_
  rintro e w7 ⟨rfl, hb7⟩
  rw [show (putL 9 128).length = 2 by decide]
  have hlt5 := (Array.getElem?_eq_some_iff.1 HB5.out).1
  have hB7 : w7.heap[w3.heap.size]? = some (.cells #[.int .i64 0, .int .i64 0] 56 (0, 0)) := by
    rw [hb7.block _ (by omega), hb6.block _ (by omega)]; exact HB5.out
  obtain ⟨q0, q1, _, _⟩ := cells2 hB7
  clear hB7
  go_wp2
  go_ret
  refine ⟨rfl, ?_⟩
  exact hb1.trans ((hA5.trans ((hb6.mono (by have := hb3'.size; omega)).trans (hb7.mono (by have := hb3'.size; omega)))).mono hs1)
end Go.Proofs.Ytkaadkjbimaodaa
