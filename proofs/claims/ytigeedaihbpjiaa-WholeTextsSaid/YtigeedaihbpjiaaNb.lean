/-
  inlet: At, end, cut, Bytes: contracts.
-/
import Derived.Test.YtigeedaihbpjiaaNa
import Derived.Test.YtigeedaihbpjiaaVc
namespace Go.Proofs.Ytigeedaihbpjiaa
open Go.RowKit

/-- A world in which of the old blocks none but B is another. -/
structure But (B : Nat) (w w' : World) : Prop where
  os : w'.os = w.os
  tape : w'.tape = w.tape
  output : w'.output = w.output
  size : w.heap.size ≤ w'.heap.size
  block : ∀ k, k < w.heap.size → k ≠ B → w'.heap[k]? = w.heap[k]?
theorem But.of_below {B : Nat} {w w' : World} (h : Below w.heap.size w w') : But B w w' := ⟨h.os, h.tape, h.output, h.size, fun k hk _ => h.block k hk⟩
theorem But.trans {B : Nat} {w a b : World} (h : But B w a) (h' : But B a b) : But B w b :=
  ⟨h'.os.trans h.os, h'.tape.trans h.tape, h'.output.trans h.output, Nat.le_trans h.size h'.size, fun k hk hn => (h'.block k (Nat.lt_of_lt_of_le hk h.size) hn).trans (h.block k hk hn)⟩
theorem But.set {B i : Nat} {w : World} {x : Value} : But B w (w.setCell ⟨B, i, none⟩ x) :=
  have h := (Below.refl B w).setCell (p := ⟨B, i, none⟩) (Nat.le_refl _) x
  ⟨h.os, h.tape, h.output, h.size, fun k _ hn => Below.heap_setCell _ _ _ k hn⟩
theorem But.below {B n : Nat} {w w' : World} (h : But B w w') (hn : n ≤ B) (hB : n ≤ w.heap.size) : Below n w w' :=
  ⟨h.os, h.tape, h.output, h.size, fun k hk => h.block k (by omega) (by omega)⟩
theorem But.rds {B : Nat} {w w' : World} {v : Value} {size n : Nat} {cs : List Value} (h : But B w w') (hr : RdS w v size n cs) (hv : ∀ g, v.ownBlock = some g → g ≠ B) : RdS w' v size n cs := by
  obtain ⟨h1, a, cap, rfl, h3, h4, h5⟩ := hr
  refine ⟨h1, a, cap, rfl, h3, h4, ?_⟩
  rcases h5 with h5 | ⟨g, off, rfl, hc⟩
  · exact .inl h5
  · refine .inr ⟨g, off, rfl, fun i c hi => ?_⟩
    have h6 := hc i c hi
    have h7 := World.block_lt_of_cell? w _ h6
    have h8 := h.block g h7 (hv g (by simp [Value.ownBlock]))
    rw [← h6]
    simp only [World.cell?, h8]
theorem InAt.set {W : World} {B at_ m : Nat} {l : List Nat} (h : InAt W B l at_) (hm : m ≤ l.length) : InAt (W.setCell ⟨B, 1, none⟩ (.int .i64 (m : Int))) B l m := by
  obtain ⟨v, h1, h2, h3, h4⟩ := h
  refine ⟨v, by simp [World.setCell, h1, Array.getElem?_modify], ?_, h3, hm⟩
  exact But.set.rds h2 fun g hg => Nat.ne_of_lt (h3 g hg)

set_option maxRecDepth 100000 in
theorem At_any (l : List Nat) (B at_ : Nat) (w : World) (h : InAt w B l at_) :
    Calls Try.prog 104 #[.pointer (some ⟨B, 0, none⟩)] w fun e w' => e = .returned (.int .i64 (at_ : Int)) ∧ w' = w := by
  obtain ⟨v, h1, h2, h3, h4⟩ := h
  have c1 : w.cell? ⟨B, 1, none⟩ = some (.int .i64 (at_ : Int)) := by simp [World.cell?, h1]
  clear h1 h2 h3 h4
  go_enter Try.func104, Try.ntmps104
  go_wp2_with fail
  go_ret
  exact ⟨rfl, rfl⟩

theorem fset2 {W : World} {B : Nat} {a b : Value} {t : TypeId} {x y : Value} (h : W.heap[B]? = some (.cells #[a, b] t (0, 0))) :
    ((W.setCell ⟨B, 0, none⟩ x).setCell ⟨B, 1, none⟩ y).heap[B]? = some (.cells #[x, y] t (0, 0)) := by
  simp [World.setCell, h, Array.getElem?_modify]
theorem fset2_other {W : World} {B k : Nat} {x y : Value} (h : k ≠ B) : ((W.setCell ⟨B, 0, none⟩ x).setCell ⟨B, 1, none⟩ y).heap[k]? = W.heap[k]? := by
  rw [Below.heap_setCell _ _ _ _ h, Below.heap_setCell _ _ _ _ h]

set_option maxRecDepth 100000 in
set_option maxHeartbeats 1000000 in
theorem end_err (l : List Nat) (B at_ : Nat) (size e : Int) (w : World) (h : InAt w B l at_) (he : e ≠ 0) :
    Calls Try.prog 85 #[.pointer (some ⟨B, 0, none⟩), .int .i64 size, .int .i64 e] w fun x w' => x = .returned (.agg #[.int .i64 e, .int .i64 (at_ : Int)]) ∧ Below w.heap.size w w' := by
  have he' : (e == 0) = false := by simpa using he
  have hb0 : Below w.heap.size w (w.alloc (.cells #[.int .i64 0, .int .i64 0] 34)) := (Below.refl _ w).alloc (Nat.le_refl _) _
  have HA := Lib.hid (At_any l B at_ _ (h.below hb0))
  generalize hwz : w.alloc (.cells #[.int .i64 0, .int .i64 0] 34) = wz at *
  have b1 : wz.heap[w.heap.size]? = some (.cells #[.int .i64 0, .int .i64 0] 34 (0, 0)) := by rw [← hwz]; exact World.alloc_heap_new w _
  have HB1 := Lib.hid b1
  have b2 : wz.cell? ⟨w.heap.size, 0, none⟩ = some (.int .i64 0) := by simp [World.cell?, b1]
  have b3 : wz.cell? ⟨w.heap.size, 1, none⟩ = some (.int .i64 0) := by simp [World.cell?, b1]
  have b4 : wz.frozen? ⟨w.heap.size, 0, none⟩ = false := by simp [World.frozen?, b1]
  have b5 : wz.frozen? ⟨w.heap.size, 1, none⟩ = false := by simp [World.frozen?, b1]
  clear h b1
  go_enter Try.func85, Try.ntmps85
  go_wp2_with fail
  refine HA.out.mono ?_
  rintro e1 w1 ⟨rfl, rfl⟩
  go_wp2
  have hs := fset2 (x := .int .i64 e) (y := .int .i64 (at_ : Int)) HB1.out
  have hbw := (hb0.setCell (p := ⟨w.heap.size, 0, none⟩) (Nat.le_refl _) (.int .i64 e)).setCell (p := ⟨w.heap.size, 1, none⟩) (Nat.le_refl _) (.int .i64 (at_ : Int))
  generalize (w1.setCell ⟨w.heap.size, 0, none⟩ (.int .i64 e)).setCell ⟨w.heap.size, 1, none⟩ (.int .i64 (at_ : Int)) = wf at *
  have q0 : wf.cell? ⟨w.heap.size, 0, none⟩ = some (.int .i64 e) := by simp [World.cell?, hs]
  have q1 : wf.cell? ⟨w.heap.size, 1, none⟩ = some (.int .i64 (at_ : Int)) := by simp [World.cell?, hs]
  refine bodyPost_ret (v := .agg #[.int .i64 e, .int .i64 (at_ : Int)]) (by simp [results, Try.results85, go_sem, q0, q1]) rfl ⟨rfl, hbw⟩

set_option maxRecDepth 100000 in
set_option maxHeartbeats 1000000 in
theorem end_ok (l : List Nat) (B at_ size : Nat) (w : World) (h : InAt w B l at_) (hs : at_ + size ≤ l.length) (hbig : l.length ≤ 1099511627776) :
    Calls Try.prog 85 #[.pointer (some ⟨B, 0, none⟩), .int .i64 size, .int .i64 0] w fun x w' => x = .returned (.agg #[.int .i64 0, .int .i64 0]) ∧ InAt w' B l (at_ + size) ∧ But B w w' := by
  have hlt : B < w.heap.size := by obtain ⟨v, h1, _⟩ := h; exact (Array.getElem?_eq_some_iff.1 h1).1
  have hb0 : Below w.heap.size w (w.alloc (.cells #[.int .i64 0, .int .i64 0] 34)) := (Below.refl _ w).alloc (Nat.le_refl _) _
  obtain ⟨v, h1w, h2, h3, h4⟩ := h
  have H2 := Lib.hid h2
  have H3 := Lib.hid h3
  have h1 := (hb0.block B hlt).trans h1w
  have H1 := Lib.hid h1
  generalize hwz : w.alloc (.cells #[.int .i64 0, .int .i64 0] 34) = wz at *
  have c1 : wz.cell? ⟨B, 1, none⟩ = some (.int .i64 (at_ : Int)) := by simp [World.cell?, h1]
  have f1 : wz.frozen? ⟨B, 1, none⟩ = false := by simp [World.frozen?, h1]
  have b1 : wz.heap[w.heap.size]? = some (.cells #[.int .i64 0, .int .i64 0] 34 (0, 0)) := by rw [← hwz]; exact World.alloc_heap_new w _
  have HB1 := Lib.hid b1
  have b2 : wz.cell? ⟨w.heap.size, 0, none⟩ = some (.int .i64 0) := by simp [World.cell?, b1]
  have b3 : wz.cell? ⟨w.heap.size, 1, none⟩ = some (.int .i64 0) := by simp [World.cell?, b1]
  have b4 : wz.frozen? ⟨w.heap.size, 0, none⟩ = false := by simp [World.frozen?, b1]
  have b5 : wz.frozen? ⟨w.heap.size, 1, none⟩ = false := by simp [World.frozen?, b1]
  have hne : w.heap.size ≠ B := by omega
  clear h1w h1 h2 h3 b1
  go_enter Try.func85, Try.ntmps85
  go_wp2_with fail
  rw [show ((at_ : Int) + (size : Int)) = ((at_ + size : Nat) : Int) by omega]
  have h6 : But B w (wz.setCell ⟨B, 1, none⟩ (.int .i64 ((at_ + size : Nat) : Int))) := (But.of_below hb0).trans But.set
  have h7 : (wz.setCell ⟨B, 1, none⟩ (.int .i64 ((at_ + size : Nat) : Int))).heap[w.heap.size]? = some (.cells #[.int .i64 0, .int .i64 0] 34 (0, 0)) := (Below.heap_setCell _ _ _ _ hne).trans HB1.out
  have h5 : (wz.setCell ⟨B, 1, none⟩ (.int .i64 ((at_ + size : Nat) : Int))).heap[B]? = some (.cells #[v, .int .i64 ((at_ + size : Nat) : Int)] 135 (0, 0)) := by simp [World.setCell, H1.out, Array.getElem?_modify]
  generalize wz.setCell ⟨B, 1, none⟩ (.int .i64 ((at_ + size : Nat) : Int)) = wy at *
  have hs2 := fset2 (x := .int .i64 0) (y := .int .i64 0) h7
  have hbw := ((Below.refl w.heap.size wy).setCell (p := ⟨w.heap.size, 0, none⟩) (Nat.le_refl _) (.int .i64 0)).setCell (p := ⟨w.heap.size, 1, none⟩) (Nat.le_refl _) (.int .i64 0)
  generalize (wy.setCell ⟨w.heap.size, 0, none⟩ (.int .i64 0)).setCell ⟨w.heap.size, 1, none⟩ (.int .i64 0) = wf at *
  have hbut : But B w wf := ⟨hbw.os.trans h6.os, hbw.tape.trans h6.tape, hbw.output.trans h6.output, Nat.le_trans h6.size hbw.size, fun k hk hn => (hbw.block k hk).trans (h6.block k hk hn)⟩
  have q0 : wf.cell? ⟨w.heap.size, 0, none⟩ = some (.int .i64 0) := by simp [World.cell?, hs2]
  have q1 : wf.cell? ⟨w.heap.size, 1, none⟩ = some (.int .i64 0) := by simp [World.cell?, hs2]
  refine bodyPost_ret (v := .agg #[.int .i64 0, .int .i64 0]) (by simp [results, Try.results85, go_sem, q0, q1]) rfl ⟨rfl, ?_, hbut⟩
  exact ⟨v, (hbw.block B hlt).trans h5, hbut.rds H2.out (fun g hg => Nat.ne_of_lt (H3.out g hg)), H3.out, hs⟩
end Go.Proofs.Ytigeedaihbpjiaa
