/-
  backoff.meant, the reference's Meant: contracts.
-/
import Derived.Deep.DeepCutAuto
import Derived.Test.YtgfiogjfgbegpaaGreatBz3
import Derived.Test.YtgfiogjfgbegpaaGreatBz15
import Derived.Test.YtgfiogjfgbegpaaGreatBz21
namespace Go.Proofs.YtgfiogjfgbegpaaGreat
open Go.RowKit

theorem field_step4 (c0 c1 c2 c3 c4 c5 c6 c7 c8 c9 c10 c11 c12 : Value) (w : World) : (Instr.field 47 (.agg #[c0, c1, c2, c3, c4, c5, c6, c7, c8, c9, c10, c11, c12]) 4).run Tryz.prog w = .ok (.agg #[c4, c5, c6]) w := by kernel_rfl

set_option maxRecDepth 100000 in
set_option maxHeartbeats 1000000 in
theorem meant_any (m f k : Int) (w : World) :
    Calls Tryz.prog 40 #[retryV m f k] w fun e w' => e = .returned (retryV (bMost m) (bFirst f) (bFac k)) ∧ Below w.heap.size w w' := by
  unfold retryV bMost bFirst bFac
  have hf4 := @field_step4
  have hmn := @run_min2 Tryz.prog
  have hmx := @run_max2 Tryz.prog
  go_enter Tryz.func40, Tryz.ntmps40
  go_wp2_with fail
  refine (Real_any _ _ _ _ _ _ m f k 0 _ _ _ _ _ _ _ _ _ _).mono ?_
  rintro e w1 ⟨rfl, hb1⟩
  unfold stepV
  have hA : Below w.heap.size w w1 := (((Below.refl _ w).alloc (Nat.le_refl _) _).alloc (by simp) _).trans (hb1.mono (by simp; omega))
  have hs := hb1.size
  simp only [World.size_alloc] at hs
  have h0 : w1.heap[w.heap.size]? = some (.cells #[.int .i64 m, .int .i64 f, .int .i64 k] 42 (0, 0)) := by
    rw [hb1.block _ (by simp; omega), Below.heap_alloc _ _ _ (by simp)]; exact World.alloc_heap_new w _
  have h1 : w1.heap[w.heap.size + 1]? = some (.cells #[.int .i64 0, .int .i64 0, .int .i64 0] 42 (0, 0)) := by
    rw [hb1.block _ (by simp)]; have := World.alloc_heap_new (w.alloc (Obj.cells #[.int .i64 m, .int .i64 f, .int .i64 k] 42)) (Obj.cells #[.int .i64 0, .int .i64 0, .int .i64 0] 42); rwa [World.size_alloc] at this
  have g0 := cells3h h0
  have g1 := cells3h h1
  obtain ⟨a0, a1, a2, e0, e1, e2⟩ := g0
  obtain ⟨d0, d1, d2, e3, e4, e5⟩ := g1
  have H1 := Lib.hid h1
  clear hb1 h1 d0 d1 d2 e3 e4 e5
  go_upto_region 2 with (fail)
  have h2 := set3 (.int .i64 (or0 m 1)) (.int .i64 f) (.int .i64 (or0 k 1)) h0
  have h2b : (((w1.setCell ⟨w.heap.size, 0, none⟩ (.int .i64 (or0 m 1))).setCell ⟨w.heap.size, 1, none⟩ (.int .i64 f)).setCell ⟨w.heap.size, 2, none⟩ (.int .i64 (or0 k 1))).heap[w.heap.size + 1]? = some (.cells #[.int .i64 0, .int .i64 0, .int .i64 0] 42 (0, 0)) := by
    rw [Below.heap_setCell _ _ _ _ (by simp), Below.heap_setCell _ _ _ _ (by simp), Below.heap_setCell _ _ _ _ (by simp)]; exact H1.out
  have hA2 : Below w.heap.size w (((w1.setCell ⟨w.heap.size, 0, none⟩ (.int .i64 (or0 m 1))).setCell ⟨w.heap.size, 1, none⟩ (.int .i64 f)).setCell ⟨w.heap.size, 2, none⟩ (.int .i64 (or0 k 1))) := by
    refine Below.setCell ?_ (by simp) _
    refine Below.setCell ?_ (by simp) _
    refine Below.setCell ?_ (by simp) _
    exact hA
  generalize (((w1.setCell ⟨w.heap.size, 0, none⟩ (.int .i64 (or0 m 1))).setCell ⟨w.heap.size, 1, none⟩ (.int .i64 f)).setCell ⟨w.heap.size, 2, none⟩ (.int .i64 (or0 k 1))) = w2 at *
  clear a0 a1 a2 e0 e1 e2 h0 hA hs
  obtain ⟨a0, a1, a2, e0, e1, e2⟩ := cells3h h2
  have H2 := Lib.hid h2
  have H2b := Lib.hid h2b
  clear h2 h2b H1
  go_upto_region 5 with (fail)
  have h3 := set3 (.int .i64 (min (max (or0 m 1) 0) 10)) (.int .i64 (min (max f 0) 1000)) (.int .i64 (min (max (or0 k 1) 0) 1000)) H2.out
  have h3b : (((w2.setCell ⟨w.heap.size, 0, none⟩ (.int .i64 (min (max (or0 m 1) 0) 10))).setCell ⟨w.heap.size, 1, none⟩ (.int .i64 (min (max f 0) 1000))).setCell ⟨w.heap.size, 2, none⟩ (.int .i64 (min (max (or0 k 1) 0) 1000))).heap[w.heap.size + 1]? = some (.cells #[.int .i64 0, .int .i64 0, .int .i64 0] 42 (0, 0)) := by
    rw [Below.heap_setCell _ _ _ _ (by simp), Below.heap_setCell _ _ _ _ (by simp), Below.heap_setCell _ _ _ _ (by simp)]; exact H2b.out
  have hA3 : Below w.heap.size w (((w2.setCell ⟨w.heap.size, 0, none⟩ (.int .i64 (min (max (or0 m 1) 0) 10))).setCell ⟨w.heap.size, 1, none⟩ (.int .i64 (min (max f 0) 1000))).setCell ⟨w.heap.size, 2, none⟩ (.int .i64 (min (max (or0 k 1) 0) 1000))) := by
    refine Below.setCell ?_ (by simp) _
    refine Below.setCell ?_ (by simp) _
    refine Below.setCell ?_ (by simp) _
    exact hA2
  generalize (((w2.setCell ⟨w.heap.size, 0, none⟩ (.int .i64 (min (max (or0 m 1) 0) 10))).setCell ⟨w.heap.size, 1, none⟩ (.int .i64 (min (max f 0) 1000))).setCell ⟨w.heap.size, 2, none⟩ (.int .i64 (min (max (or0 k 1) 0) 1000))) = w3 at *
  clear a0 a1 a2 e0 e1 e2 hA2
  obtain ⟨a0, a1, a2, e0, e1, e2⟩ := cells3h h3
  obtain ⟨d0, d1, d2, e3, e4, e5⟩ := cells3h h3b
  have H3b := Lib.hid h3b
  clear h3 h3b H2 H2b
  go_wp2
  have k1 := set3 (.int .i64 (min (max (or0 m 1) 0) 10)) (.int .i64 (min (max f 0) 1000)) (.int .i64 (min (max (or0 k 1) 0) 1000)) H3b.out
  obtain ⟨q0, q1, q2, _⟩ := cells3h k1
  refine bodyPost_ret (v := .agg #[.int .i64 (min (max (or0 m 1) 0) 10), .int .i64 (min (max f 0) 1000), .int .i64 (min (max (or0 k 1) 0) 1000)]) (by simp [results, Tryz.results40, go_sem, q0, q1, q2]) rfl ⟨rfl, ?_⟩
  refine Below.setCell ?_ (by simp) _
  refine Below.setCell ?_ (by simp) _
  refine Below.setCell ?_ (by simp) _
  exact hA3

end Go.Proofs.YtgfiogjfgbegpaaGreat
