/-
  backoff.waits: the iterator's contract.
-/
import Derived.Test.YtigeedaihbpjiaaBc
import Derived.Sort.LoopGhostIn
import Derived.Shelf.RegionOpen
namespace Go.Proofs.Ytigeedaihbpjiaa
open Go.RowKit
attribute [local go_sem] Oper.semAt_some wide_fn wide_depth wide_fn' wide_depth'

theorem waits_any (m f k : Int) (w : World) :
    Calls Try.prog 119 #[retryV m f k] w fun e w' => e = .returned (.func (.func 120) #[] #[.pointer (some ⟨w.heap.size, 0, none⟩)]) ∧ w.alloc (.cells #[.int .i64 m, .int .i64 f, .int .i64 k] 77) = w' := by
  unfold retryV
  go_enter Try.func119, Try.ntmps119
  go_wp2
  go_ret
  exact ⟨rfl, rfl⟩

def encI (x : Int) : Array Value := #[.int .i64 x]
def Boxed3 (W : World) (B : Nat) (m f k : Int) : Prop := W.heap[B]? = some (.cells #[.int .i64 m, .int .i64 f, .int .i64 k] 77 (0, 0))

set_option maxRecDepth 100000 in
set_option maxHeartbeats 1000000 in
theorem waits_iter (m f k : Int) (n0 B N : Nat) (w : World) (hB : n0 ≤ B) (hb : Boxed3 w B m f k) :
    IterAt Try.prog n0 120 #[.pointer (some ⟨B, 0, none⟩)] encI (bList f k N) False (· = B) w := by
  intro l J Jx W hfin hS hn0 hbl hJ hJx hY h0
  have hlt := (Array.getElem?_eq_some_iff.1 hb).1
  have hbW : Boxed3 W B m f k := (hbl.block B hlt).trans hb
  obtain ⟨q0, q1, q2, _⟩ := cells3h hbW
  have hmn := @run_min2 Try.prog
  have HY := Lib.hid hY
  have HF := Lib.hid (hfin (fun h => h))
  have HS := Lib.hid hS
  clear hY hfin hS
  refine callsIn_of_wp Try.func120 rfl trivial ?_ rfl
  simp only [Try.ntmps120, List.size_toArray, List.length_cons, List.length_nil, Nat.reduceAdd, Nat.reduceSub, Array.replicate_succ, Array.replicate_zero, List.push_toArray, List.append_toArray, List.nil_append, List.cons_append]
  gi_wp2_with (gi_at_call 118; refine (callsIn_wide.2 (meant_any m f k _)).mono ?_; rintro e w1 ⟨rfl, hb1⟩; unfold retryV)
  have hsz := hb1.size
  obtain ⟨S1, hS1, hJ1⟩ : ∃ S1 : Nat → Prop, Hid (((∀ j, S1 j → n0 ≤ j ∧ j < w1.heap.size + 1) ∧ S1 w1.heap.size)) ∧ J S1 [] (w1.alloc (Obj.cells #[.int .i64 (bMost m), .int .i64 (bFirst f), .int .i64 (bFac k)] 77)) := by
    have h1 : J (· = B) [] w1 := hJ _ _ _ _ _ HS.out h0 (Step.of_below hn0 hb1)
    have h2 : ∀ j, j = B → n0 ≤ j ∧ j < w1.heap.size := fun j hj => by have := HS.out j hj; omega
    refine ⟨_, ⟨?_, ?_⟩, hJ _ _ _ _ _ h2 h1 (Step.alloc (by omega) _)⟩
    · rintro j (hj | rfl)
      · have := h2 j hj; omega
      · omega
    · exact .inr rfl
  have hM : Boxed3 (w1.alloc (Obj.cells #[.int .i64 (bMost m), .int .i64 (bFirst f), .int .i64 (bFac k)] 77)) w1.heap.size (bMost m) (bFirst f) (bFac k) := World.alloc_heap_new w1 _
  have hsz2 : (w1.alloc (Obj.cells #[.int .i64 (bMost m), .int .i64 (bFirst f), .int .i64 (bFac k)] 77)).heap.size = w1.heap.size + 1 := by simp
  generalize (w1.alloc (Obj.cells #[.int .i64 (bMost m), .int .i64 (bFirst f), .int .i64 (bFac k)] 77)) = w2 at *
  generalize w1.heap.size = M at *
  have HSZ := Lib.hid hsz2
  clear hsz2 q0 q1 q2
  gi_loopg [4] N (fun g p wr => ∃ (S : Nat → Prop) (i : Nat), i + g = N ∧ Hid (∀ j, S j → n0 ≤ j ∧ j < wr.heap.size) ∧ S M ∧ Boxed3 wr M (bMost m) (bFirst f) (bFac k) ∧ p = .int .i64 (bSeq f k i) ∧ J S (bList f k i) wr)
  case atStart =>
    exact ⟨S1, 0, by omega, fun j hj => by rw [HSZ.out]; exact hS1.out.1 j hj, hS1.out.2, hM, rfl, hJ1⟩
  case round =>
    obtain ⟨S, i, hi, hSb, hSM, hbx, rfl, hJs⟩ := hrel
    have hiN : i < N := by
      rcases Nat.lt_or_ge i N with h | h
      · exact h
      · exfalso; obtain rfl : i = N := by omega
        exact HF.out _ _ hJs
    have hg : gk = N - i := by omega
    subst hg
    clear hi
    obtain ⟨fn, tmps, assign, body, hy, hR⟩ := HY.out S (bList f k i) (bSeq f k i) wr hSb.out hJs (by rw [← bList_succ]; exact bList_prefix f k (i + 1) N hiN)
    dsimp only [encI] at hy
    have hml := bSeq_mul f k i
    have hfr := bFac_range k
    gi_wp2
    refine hR.mono ?_
    rintro e W' (⟨rfl, hJ', hk⟩ | ⟨rfl, hJ', hk⟩)
    · have hb' : Boxed3 W' M (bMost m) (bFirst f) (bFac k) := (hk.same M hSM).trans hbx
      obtain ⟨q0, q1, q2, _⟩ := cells3h hb'
      have HSeq : Hid (min (bSeq f k i * bFac k) 1000 = bSeq f k (i + 1)) := rfl
      clear hy hR
      gi_wp2
      gi_roundg (N - (i + 1))
      case measure => omega
      case rel => exact ⟨S, i + 1, by omega, fun j hj => by have := hSb.out j hj; have := hk.below.size; omega, hSM, hb', by rw [HSeq.out], by rw [bList_succ]; exact hJ'⟩
    · gi_wp2
      go_end0
      exact ⟨⟨_, rfl⟩, S, (fun j hj => by have := hSb.out j hj; have := hk.below.size; omega), .inr ⟨_, by rw [← bList_succ]; exact bList_prefix f k (i + 1) N hiN, hJ'⟩⟩
end Go.Proofs.Ytigeedaihbpjiaa
