/-
  awakeTexts.
-/
import Derived.Test.YtigeedaihbpjiaaNd
import Derived.Test.YtigeedaihbpjiaaUf
namespace Go.Proofs.Ytigeedaihbpjiaa
open Go.RowKit

theorem bthen2 {n B : Nat} {w a b : World} (h : Below n w a) (k : But B a b) (hB : n ≤ B) (hn : n ≤ a.heap.size) : Below n w b :=
  ⟨k.os.trans h.os, k.tape.trans h.tape, k.output.trans h.output, Nat.le_trans h.size k.size, fun i hi => (k.block i (by omega) (by omega)).trans (h.block i hi)⟩
theorem awake02_f : getL ([2, 195, 164, 1, 97].drop 0) = (2, 1, 0) ∧ getL ([2, 195, 164, 1, 97].drop 3) = (1, 1, 0) ∧ countN [195, 164] = 1 ∧ countN [97] = 1 := by decide +kernel

theorem rds_new (w : World) (l : List Nat) (t : TypeId) (hl : l.length ≤ 1099511627776) : RdS (w.alloc (.cells (u8s l).toArray t)) (.slice (some ⟨w.heap.size, 0, none⟩) l.length l.length) 1 l.length (u8s l) := by
  refine ⟨by simp, _, l.length, rfl, Nat.le_refl _, by unfold maxLen; omega, .inr ⟨w.heap.size, 0, rfl, fun i c hi => ?_⟩⟩
  have := World.alloc_heap_new w (.cells (u8s l).toArray t)
  simp only [World.cell?, this, Nat.zero_add]
  simpa using hi

set_option maxRecDepth 100000 in
set_option maxHeartbeats 1000000 in
theorem awakeTexts_any (w : World) : Calls Try.prog 43 #[] w fun e w' => e = .returned (.bool true) ∧ Below w.heap.size w w' := by
  obtain ⟨l1, l2, l3, l4⟩ := awake02_f
  have hall : AllLt 256 [2, 195, 164, 1, 97] := by unfold AllLt; decide
  have h0 : RdS (w.alloc (.cells #[.int .u8 2, .int .u8 195, .int .u8 164, .int .u8 1, .int .u8 97] 5)) (.slice (some ⟨w.heap.size, 0, none⟩) 5 5) 1 [2, 195, 164, 1, 97].length (u8s [2, 195, 164, 1, 97]) := rds_new w [2, 195, 164, 1, 97] 5 (by decide)
  have hb0 : Below w.heap.size w (w.alloc (.cells #[.int .u8 2, .int .u8 195, .int .u8 164, .int .u8 1, .int .u8 97] 5)) := (Below.refl _ w).alloc (Nat.le_refl _) _
  have HN := Lib.hid (New_any _ _ _ h0 (by decide))
  have HY : Hid (∀ (W : World) (B : Nat), InAt W B [2, 195, 164, 1, 97] 0 → _) := Lib.hid (fun W B h => Bytes_ok [2, 195, 164, 1, 97] B 0 9 W h (by decide) hall (by decide) (by rw [l1]) (by rw [l1]; decide) (by rw [l1]; decide))
  have HZ : Hid (∀ (W : World) (B : Nat), InAt W B [2, 195, 164, 1, 97] 3 → _) := Lib.hid (fun W B h => Bytes_ok [2, 195, 164, 1, 97] B 3 9 W h (by decide) hall (by decide) (by rw [l2]) (by rw [l2]; decide) (by rw [l2]; decide))
  rw [l1] at HY
  rw [l2] at HZ
  dsimp only [List.drop, List.take, Nat.add_zero, Nat.zero_add, Nat.reduceAdd] at HY HZ
  have HC : Hid (∀ (s : ByteArray) (W : World), s.size ≤ 1073741824 → _) := Lib.hid (fun s W hs => Count_any s W hs)
  clear h0 l1 l2
  go_enter Try.func43, Try.ntmps43
  go_wp2_with fail
  refine HN.out.mono ?_
  rintro e1 w1 ⟨B, rfl, h1, hB, hb1⟩
  have hbw1 := bthen hb0 (Nat.le_refl _) hb1
  have hB' : w.heap.size ≤ B := by simp at hB; omega
  have hBlt : B < w1.heap.size := by obtain ⟨v0, g1, _⟩ := h1; exact (Array.getElem?_eq_some_iff.1 g1).1
  have HY1 := Lib.hid (HY.out _ _ h1)
  clear h1 hb0 hb1 hB
  go_wp2_with fail
  refine HY1.out.mono ?_
  rintro e2 w2 ⟨v2, rfl, h2, h2o, hi2, hu2⟩
  have hf2 : Below w2.heap.size w2 (w2.alloc (.cells #[.int .i64 0, .int .i64 0] 34)) := (Below.refl _ _).alloc (Nat.le_refl _) _
  have HZ2 := Lib.hid (HZ.out _ _ (hi2.below hf2))
  have H2 := Lib.hid (h2.below hf2)
  have HN2 := Lib.hid (World.alloc_heap_new w2 (.cells #[.int .i64 0, .int .i64 0] 34))
  have H2O := Lib.hid h2o
  have hsz2 := hu2.size
  have hu2' := hu2.trans (But.of_below hf2)
  clear h2 h2o hi2
  go_wp2_with fail
  refine HZ2.out.mono ?_
  rintro e3 w3 ⟨v3, rfl, h3, h3o, hi3, hu3⟩
  have H3 := Lib.hid h3
  have H2' := Lib.hid (hu3.rds H2.out (fun g hg => by have := H2O.out g hg; omega))
  have HN3 := Lib.hid ((hu3.block w2.heap.size (by simp) (by omega)).trans HN2.out)
  have hbw3 : Below w.heap.size w w3 := bthen2 hbw1 (hu2'.trans hu3) hB' (by omega)
  clear h3 h3o hi3
  have hf4 : Below w3.heap.size w3 (w3.alloc (.cells #[.int .i64 0, .int .i64 0] 34)) := (Below.refl _ _).alloc (Nat.le_refl _) _
  have HN4 := Lib.hid (World.alloc_heap_new w3 (.cells #[.int .i64 0, .int .i64 0] 34))
  have HN3' := Lib.hid ((hf4.block w2.heap.size (by have := hu3.size; simp at this; omega)).trans HN3.out)
  have HA := Lib.hid (run_conv (l := [195, 164]) (by unfold AllLt; decide) (H2'.out.below hf4))
  go_wp2_with fail
  rw [HA.out]
  simp only [Result.andThen]
  rw [Oper.upon_value]
  go_wp2_with fail
  refine (HC.out (mkS [195, 164]) _ (by decide)).mono ?_
  rintro e5 w5 ⟨rfl, hb5⟩
  rw [bsN_mkS (by unfold AllLt; decide), l3]
  have HB := Lib.hid (run_conv (l := [97]) (by unfold AllLt; decide) ((H3.out.below hf4).below hb5))
  go_wp2_with fail
  rw [HB.out]
  simp only [Result.andThen]
  rw [Oper.upon_value]
  go_wp2_with fail
  refine (HC.out (mkS [97]) _ (by decide)).mono ?_
  rintro e6 w6 ⟨rfl, hb6⟩
  rw [bsN_mkS (by unfold AllLt; decide), l4]
  obtain ⟨p0, p1, _, _⟩ := cells2 ((hb6.block _ (by have := hb5.size; have := hu3.size; simp at *; omega)).trans ((hb5.block _ (by have := hu3.size; simp at *; omega)).trans HN3'.out))
  obtain ⟨r0, r1, _, _⟩ := cells2 ((hb6.block _ (by have := hb5.size; simp at *; omega)).trans ((hb5.block _ (by simp)).trans HN4.out))
  have hbw := bthen (bthen (bthen hbw3 (by omega) hf4) (by omega) hb5) (by omega) hb6
  go_wp2
  go_ret
  exact ⟨by simp, hbw⟩
end Go.Proofs.Ytigeedaihbpjiaa
