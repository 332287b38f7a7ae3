/-
  inlet: Bytes: contract.
-/
import Derived.Test.YtigeedaihbpjiaaNc
namespace Go.Proofs.Ytigeedaihbpjiaa
open Go.RowKit

/-- What Bytes finds ahead: 0 and where the bytes begin and how many, or a fault's number. -/
def bytesR (l : List Nat) (most : Nat) : Nat × Nat × Nat :=
  let g := getL l
  if g.2.2 ≠ 0 then (g.2.2, 0, 0)
  else if most < g.1 then (2, 0, 0)
  else if l.length < g.2.1 + g.1 then (4, 0, 0)
  else (0, g.2.1, g.1)

set_option maxRecDepth 100000 in
set_option maxHeartbeats 1000000 in
theorem Bytes_ok (l : List Nat) (B at_ most : Nat) (w : World) (h : InAt w B l at_) (hbig : l.length ≤ 1099511627776) (hl : AllLt 256 l) (hm : most ≤ 1099511627776)
    (hg : (getL (l.drop at_)).2.2 = 0) (hn : (getL (l.drop at_)).1 ≤ most) (hs : (getL (l.drop at_)).2.1 + (getL (l.drop at_)).1 ≤ l.length - at_) :
    Calls Try.prog 46 #[.pointer (some ⟨B, 0, none⟩), .int .i64 (most : Int)] w fun x w' => ∃ v', x = .returned (.tuple #[v', .agg #[.int .i64 0, .int .i64 0]]) ∧ RdS w' v' 1 (getL (l.drop at_)).1 (u8s ((l.drop (at_ + (getL (l.drop at_)).2.1)).take (getL (l.drop at_)).1)) ∧ (∀ g, v'.ownBlock = some g → w.heap.size ≤ g) ∧ InAt w' B l (at_ + (getL (l.drop at_)).2.1 + (getL (l.drop at_)).1) ∧ But B w w' := by
  have hb0 : Below w.heap.size w (w.alloc (.cells #[.int .i64 0, .int .i64 0] 34)) := (Below.refl _ w).alloc (Nat.le_refl _) _
  have HZ := Lib.hid (h.below hb0)
  have h0 := Lib.hid h
  have HB1 := Lib.hid (World.alloc_heap_new w (.cells #[.int .i64 0, .int .i64 0] 34))
  have hsz : (w.alloc (.cells #[.int .i64 0, .int .i64 0] 34)).heap.size = w.heap.size + 1 := by simp
  have hBlt : B < w.heap.size := by obtain ⟨v0, g1, _⟩ := h; exact (Array.getElem?_eq_some_iff.1 g1).1
  have hat : at_ ≤ l.length := by obtain ⟨_, _, _, _, h4⟩ := h; exact h4
  clear h
  generalize hwz : w.alloc (.cells #[.int .i64 0, .int .i64 0] 34) = wz at *
  have HR := Lib.hid (rest_any l B at_ _ HZ.out hbig)
  have hdl := List.length_drop (l := l) (i := at_)
  have HG : Hid (∀ (v : Value) (W : World), RdS W v 1 (l.drop at_).length (u8s (l.drop at_)) → _) := Lib.hid (fun v W hr => Get_any (l.drop at_) v W (fun b hb => hl b (List.mem_of_mem_drop hb)) hr)
  have HL : Hid (∀ (W : World), InAt W B l at_ → _) := Lib.hid (fun W hi => Left_any l B at_ W hi hbig)
  have HC : Hid (∀ (W : World), InAt W B l at_ → _) := Lib.hid (fun W hi => cut_ok l B at_ (getL (l.drop at_)).2.1 (getL (l.drop at_)).1 W hi hbig (by omega))
  unfold tup3 at HG
  generalize hgg : getL (l.drop at_) = gg at *
  obtain ⟨n, size, e⟩ := gg
  dsimp only at hg hn hs HG HC ⊢
  subst hg
  go_enter Try.func46, Try.ntmps46
  go_wp2_with fail
  refine HR.out.mono ?_
  rintro e1 w1 ⟨v1, rfl, h1, h1o, hb1⟩
  have HG1 := Lib.hid (HG.out _ _ h1)
  go_wp2_with fail
  refine HG1.out.mono ?_
  rintro e2 w2 ⟨rfl, rfl⟩
  have HL1 := Lib.hid (HL.out w1 (HZ.out.below hb1))
  go_wp2_with fail
  refine HL1.out.mono ?_
  rintro e3 w3 ⟨rfl, hb3⟩
  go_wp2_with fail
  have HI3 := Lib.hid ((HZ.out.below hb1).below hb3)
  refine (HC.out w3 HI3.out).mono ?_
  rintro e4 w4 ⟨v4, rfl, h4, h4o, hi4, hbu4⟩
  have H4 := Lib.hid h4
  have H4O := Lib.hid h4o
  have HI4 := Lib.hid hi4
  have hsz1 := hb1.size
  have hsz3 := hb3.size
  have hsz4 := hbu4.size
  have hR : w4.heap[w.heap.size]? = some (.cells #[.int .i64 0, .int .i64 0] 34 (0, 0)) := by
    rw [hbu4.block _ (by omega) (by omega), hb3.block _ (by omega), hb1.block _ (by omega)]; exact HB1.out
  have HR4 := Lib.hid hR
  have b2 : w4.cell? ⟨w.heap.size, 0, none⟩ = some (.int .i64 0) := by simp [World.cell?, hR]
  have b3 : w4.cell? ⟨w.heap.size, 1, none⟩ = some (.int .i64 0) := by simp [World.cell?, hR]
  have b4 : w4.frozen? ⟨w.heap.size, 0, none⟩ = false := by simp [World.frozen?, hR]
  have b5 : w4.frozen? ⟨w.heap.size, 1, none⟩ = false := by simp [World.frozen?, hR]
  clear h4 h4o hi4 hR
  go_wp2
  have hs2 := fset2 (x := .int .i64 0) (y := .int .i64 0) HR4.out
  have hbw := ((Below.refl w.heap.size w4).setCell (p := ⟨w.heap.size, 0, none⟩) (Nat.le_refl _) (.int .i64 0)).setCell (p := ⟨w.heap.size, 1, none⟩) (Nat.le_refl _) (.int .i64 0)
  have hRd : RdS ((w4.setCell ⟨w.heap.size, 0, none⟩ (.int .i64 0)).setCell ⟨w.heap.size, 1, none⟩ (.int .i64 0)) v4 1 n (u8s ((l.drop (at_ + size)).take n)) :=
    But.set.rds (But.set.rds H4.out (fun g hg => by have := H4O.out g hg; omega)) (fun g hg => by have := H4O.out g hg; omega)
  generalize (w4.setCell ⟨w.heap.size, 0, none⟩ (.int .i64 0)).setCell ⟨w.heap.size, 1, none⟩ (.int .i64 0) = wf at *
  have q0 : wf.cell? ⟨w.heap.size, 0, none⟩ = some (.int .i64 0) := by simp [World.cell?, hs2]
  have q1 : wf.cell? ⟨w.heap.size, 1, none⟩ = some (.int .i64 0) := by simp [World.cell?, hs2]
  have hfin : But B w wf := by
    refine ⟨hbw.os.trans (hbu4.os.trans (hb3.os.trans (hb1.os.trans hb0.os))), hbw.tape.trans (hbu4.tape.trans (hb3.tape.trans (hb1.tape.trans hb0.tape))), hbw.output.trans (hbu4.output.trans (hb3.output.trans (hb1.output.trans hb0.output))), by have := hbw.size; omega, fun k hk hn => ?_⟩
    rw [hbw.block k hk, hbu4.block k (by omega) hn, hb3.block k (by omega), hb1.block k (by omega), hb0.block k hk]
  obtain ⟨vi, i1, i2, i3, i4⟩ := HI4.out
  refine bodyPost_ret (v := .tuple #[v4, .agg #[.int .i64 0, .int .i64 0]]) (by simp [results, Try.results46, go_sem, q0, q1]) rfl ⟨_, rfl, hRd, fun g hg => by have := H4O.out g hg; omega, ⟨vi, ?_, ?_, i3, i4⟩, hfin⟩
  · rw [hbw.block B (by omega), i1]
  · exact i2.kept2 hbw (fun g hg => by have := i3 g hg; omega)

set_option maxRecDepth 100000 in
set_option maxHeartbeats 1000000 in
theorem Bytes_err (l : List Nat) (B at_ most : Nat) (w : World) (h : InAt w B l at_) (hbig : l.length ≤ 1099511627776) (hl : AllLt 256 l) (hm : most ≤ 1099511627776) (he : (bytesR (l.drop at_) most).1 ≠ 0) :
    Calls Try.prog 46 #[.pointer (some ⟨B, 0, none⟩), .int .i64 (most : Int)] w fun x w' => x = .returned (.tuple #[.slice none 0 0, .agg #[.int .i64 ((bytesR (l.drop at_) most).1 : Int), .int .i64 (at_ : Int)]]) ∧ Below w.heap.size w w' := by
  have hb0 : Below w.heap.size w (w.alloc (.cells #[.int .i64 0, .int .i64 0] 34)) := (Below.refl _ w).alloc (Nat.le_refl _) _
  have HZ := Lib.hid (h.below hb0)
  have h0 := Lib.hid h
  have HB1 := Lib.hid (World.alloc_heap_new w (.cells #[.int .i64 0, .int .i64 0] 34))
  have hsz : (w.alloc (.cells #[.int .i64 0, .int .i64 0] 34)).heap.size = w.heap.size + 1 := by simp
  have hBlt : B < w.heap.size := by obtain ⟨v0, g1, _⟩ := h; exact (Array.getElem?_eq_some_iff.1 g1).1
  have hat : at_ ≤ l.length := by obtain ⟨_, _, _, _, h4⟩ := h; exact h4
  clear h
  generalize hwz : w.alloc (.cells #[.int .i64 0, .int .i64 0] 34) = wz at *
  have HR := Lib.hid (rest_any l B at_ _ HZ.out hbig)
  have hdl := List.length_drop (l := l) (i := at_)
  have HG : Hid (∀ (v : Value) (W : World), RdS W v 1 (l.drop at_).length (u8s (l.drop at_)) → _) := Lib.hid (fun v W hr => Get_any (l.drop at_) v W (fun b hb => hl b (List.mem_of_mem_drop hb)) hr)
  have hgb := getGo_bound (l.drop at_) (fun b hb => hl b (List.mem_of_mem_drop hb)) 0 0 (by omega) (by decide)
  rw [show getGo 0 0 (l.drop at_) = getL (l.drop at_) from rfl, hdl] at hgb
  have HL : Hid (∀ (W : World), InAt W B l at_ → _) := Lib.hid (fun W hi => Left_any l B at_ W hi hbig)
  have HE : Hid (∀ (e : Int) (W : World), InAt W B l at_ → e ≠ 0 → _) := Lib.hid (fun e W hi he => end_err l B at_ 0 e W hi he)
  unfold bytesR at he ⊢
  have HC : Hid (∀ (W : World), InAt W B l at_ → l.length < at_ + (getL (l.drop at_)).2.1 + (getL (l.drop at_)).1 → (getL (l.drop at_)).1 ≤ l.length → _) := Lib.hid (fun W hi hs hn => cut_short l B at_ (getL (l.drop at_)).2.1 (getL (l.drop at_)).1 W hi hbig (by omega) hs (by omega))
  unfold tup3 at HG
  generalize hgg : getL (l.drop at_) = gg at *
  obtain ⟨n, size, e⟩ := gg
  dsimp only at he HG HC hgb ⊢
  obtain ⟨E, hE⟩ : ∃ E, E = (if e ≠ 0 then (e, 0, 0) else if most < n then (2, 0, 0) else if l.length - at_ < size + n then (4, 0, 0) else (0, size, n)).1 := ⟨_, rfl⟩
  rw [hdl] at he ⊢; rw [← hE] at he ⊢
  have hE' := Lib.hid hE
  clear hE
  go_enter Try.func46, Try.ntmps46
  go_wp2_with fail
  refine HR.out.mono ?_
  rintro e1 w1 ⟨v1, rfl, h1, h1o, hb1⟩
  have HG1 := Lib.hid (HG.out _ _ h1)
  have HI1 := Lib.hid (HZ.out.below hb1)
  clear h1 h1o
  go_wp2_with fail
  refine HG1.out.mono ?_
  rintro e2 w2 ⟨rfl, rfl⟩
  have HL1 := Lib.hid (HL.out w1 HI1.out)
  go_wp2_with fail
  · have hEv : E = e := by have hE := hE'.out; (repeat' split at hE) <;> first | exact hE | (exfalso; omega) | exact absurd hE he | (exfalso; simp only [bne_eq_false_iff_eq, bne_iff_ne] at *; omega)
    refine (HE.out (e : Int) w1 HI1.out (by simp only [bne_iff_ne] at *; assumption)).mono ?_
    rintro e4 w4 ⟨rfl, hb4⟩
    have hbp4 : Below wz.heap.size wz w4 := hb1.trans (hb4.mono hb1.size)
    have hbw4 : Below w.heap.size w w4 := bthen hb0 (Nat.le_refl _) hbp4
    have hR : w4.heap[w.heap.size]? = some (.cells #[.int .i64 0, .int .i64 0] 34 (0, 0)) := by
      rw [hbp4.block _ (by omega)]; exact HB1.out
    have HR4 := Lib.hid hR
    have b2 : w4.cell? ⟨w.heap.size, 0, none⟩ = some (.int .i64 0) := by simp [World.cell?, hR]
    have b3 : w4.cell? ⟨w.heap.size, 1, none⟩ = some (.int .i64 0) := by simp [World.cell?, hR]
    have b4 : w4.frozen? ⟨w.heap.size, 0, none⟩ = false := by simp [World.frozen?, hR]
    have b5 : w4.frozen? ⟨w.heap.size, 1, none⟩ = false := by simp [World.frozen?, hR]
    clear hR
    go_wp2
    have hs2 := fset2 (x := .int .i64 e) (y := .int .i64 (at_ : Int)) HR4.out
    have hbw := (hbw4.setCell (p := ⟨w.heap.size, 0, none⟩) (Nat.le_refl _) (.int .i64 e)).setCell (p := ⟨w.heap.size, 1, none⟩) (Nat.le_refl _) (.int .i64 (at_ : Int))
    generalize (w4.setCell ⟨w.heap.size, 0, none⟩ (.int .i64 e)).setCell ⟨w.heap.size, 1, none⟩ (.int .i64 (at_ : Int)) = wf at *
    have q0 : wf.cell? ⟨w.heap.size, 0, none⟩ = some (.int .i64 e) := by simp [World.cell?, hs2]
    have q1 : wf.cell? ⟨w.heap.size, 1, none⟩ = some (.int .i64 (at_ : Int)) := by simp [World.cell?, hs2]
    rw [hEv]
    exact bodyPost_ret (v := .tuple #[.slice none 0 0, .agg #[.int .i64 e, .int .i64 (at_ : Int)]]) (by simp [results, Try.results46, go_sem, q0, q1]) rfl ⟨rfl, hbw⟩
  · have hEv : E = 2 := by have hE := hE'.out; (repeat' split at hE) <;> first | exact hE | (exfalso; omega) | exact absurd hE he | (exfalso; simp only [bne_eq_false_iff_eq, bne_iff_ne] at *; omega)
    refine (HE.out 2 w1 HI1.out (by omega)).mono ?_
    rintro e4 w4 ⟨rfl, hb4⟩
    have hbp4 : Below wz.heap.size wz w4 := hb1.trans (hb4.mono hb1.size)
    have hbw4 : Below w.heap.size w w4 := bthen hb0 (Nat.le_refl _) hbp4
    have hR : w4.heap[w.heap.size]? = some (.cells #[.int .i64 0, .int .i64 0] 34 (0, 0)) := by
      rw [hbp4.block _ (by omega)]; exact HB1.out
    have HR4 := Lib.hid hR
    have b2 : w4.cell? ⟨w.heap.size, 0, none⟩ = some (.int .i64 0) := by simp [World.cell?, hR]
    have b3 : w4.cell? ⟨w.heap.size, 1, none⟩ = some (.int .i64 0) := by simp [World.cell?, hR]
    have b4 : w4.frozen? ⟨w.heap.size, 0, none⟩ = false := by simp [World.frozen?, hR]
    have b5 : w4.frozen? ⟨w.heap.size, 1, none⟩ = false := by simp [World.frozen?, hR]
    clear hR
    go_wp2
    have hs2 := fset2 (x := .int .i64 2) (y := .int .i64 (at_ : Int)) HR4.out
    have hbw := (hbw4.setCell (p := ⟨w.heap.size, 0, none⟩) (Nat.le_refl _) (.int .i64 2)).setCell (p := ⟨w.heap.size, 1, none⟩) (Nat.le_refl _) (.int .i64 (at_ : Int))
    generalize (w4.setCell ⟨w.heap.size, 0, none⟩ (.int .i64 2)).setCell ⟨w.heap.size, 1, none⟩ (.int .i64 (at_ : Int)) = wf at *
    have q0 : wf.cell? ⟨w.heap.size, 0, none⟩ = some (.int .i64 2) := by simp [World.cell?, hs2]
    have q1 : wf.cell? ⟨w.heap.size, 1, none⟩ = some (.int .i64 (at_ : Int)) := by simp [World.cell?, hs2]
    rw [hEv]
    exact bodyPost_ret (v := .tuple #[.slice none 0 0, .agg #[.int .i64 2, .int .i64 (at_ : Int)]]) (by simp [results, Try.results46, go_sem, q0, q1]) rfl ⟨rfl, hbw⟩
  · refine HL1.out.mono ?_
    rintro e3 w3 ⟨rfl, hb3⟩
    have HI3 := Lib.hid (HI1.out.below hb3)
    go_wp2_with fail
    · have hEv : E = 4 := by have hE := hE'.out; (repeat' split at hE) <;> first | exact hE | (exfalso; omega) | exact absurd hE he | (exfalso; simp only [bne_eq_false_iff_eq, bne_iff_ne] at *; omega)
      refine (HE.out 4 w3 HI3.out (by omega)).mono ?_
      rintro e4 w4 ⟨rfl, hb4⟩
      have hbp4 : Below wz.heap.size wz w4 := (hb1.trans (hb3.mono hb1.size)).trans (hb4.mono (Nat.le_trans hb1.size hb3.size))
      have hbw4 : Below w.heap.size w w4 := bthen hb0 (Nat.le_refl _) hbp4
      have hR : w4.heap[w.heap.size]? = some (.cells #[.int .i64 0, .int .i64 0] 34 (0, 0)) := by
        rw [hbp4.block _ (by omega)]; exact HB1.out
      have HR4 := Lib.hid hR
      have b2 : w4.cell? ⟨w.heap.size, 0, none⟩ = some (.int .i64 0) := by simp [World.cell?, hR]
      have b3 : w4.cell? ⟨w.heap.size, 1, none⟩ = some (.int .i64 0) := by simp [World.cell?, hR]
      have b4 : w4.frozen? ⟨w.heap.size, 0, none⟩ = false := by simp [World.frozen?, hR]
      have b5 : w4.frozen? ⟨w.heap.size, 1, none⟩ = false := by simp [World.frozen?, hR]
      clear hR
      go_wp2
      have hs2 := fset2 (x := .int .i64 4) (y := .int .i64 (at_ : Int)) HR4.out
      have hbw := (hbw4.setCell (p := ⟨w.heap.size, 0, none⟩) (Nat.le_refl _) (.int .i64 4)).setCell (p := ⟨w.heap.size, 1, none⟩) (Nat.le_refl _) (.int .i64 (at_ : Int))
      generalize (w4.setCell ⟨w.heap.size, 0, none⟩ (.int .i64 4)).setCell ⟨w.heap.size, 1, none⟩ (.int .i64 (at_ : Int)) = wf at *
      have q0 : wf.cell? ⟨w.heap.size, 0, none⟩ = some (.int .i64 4) := by simp [World.cell?, hs2]
      have q1 : wf.cell? ⟨w.heap.size, 1, none⟩ = some (.int .i64 (at_ : Int)) := by simp [World.cell?, hs2]
      rw [hEv]
      exact bodyPost_ret (v := .tuple #[.slice none 0 0, .agg #[.int .i64 4, .int .i64 (at_ : Int)]]) (by simp [results, Try.results46, go_sem, q0, q1]) rfl ⟨rfl, hbw⟩
    · have hEv : E = 4 := by have hE := hE'.out; (repeat' split at hE) <;> first | exact hE | (exfalso; omega) | exact absurd hE he | (exfalso; simp only [bne_eq_false_iff_eq, bne_iff_ne] at *; omega)
      have hsh : l.length - at_ < size + n := by have hE := hE'.out; (repeat' split at hE) <;> first | assumption | (exfalso; omega) | exact absurd hE he | (exfalso; simp only [bne_eq_false_iff_eq, bne_iff_ne] at *; omega)
      refine (HC.out w3 HI3.out (by omega) (by omega)).mono ?_
      rintro e4 w4 ⟨rfl, hb4⟩
      have hbp4 : Below wz.heap.size wz w4 := (hb1.trans (hb3.mono hb1.size)).trans (hb4.mono (Nat.le_trans hb1.size hb3.size))
      have hbw4 : Below w.heap.size w w4 := bthen hb0 (Nat.le_refl _) hbp4
      have hR : w4.heap[w.heap.size]? = some (.cells #[.int .i64 0, .int .i64 0] 34 (0, 0)) := by
        rw [hbp4.block _ (by omega)]; exact HB1.out
      have HR4 := Lib.hid hR
      have b2 : w4.cell? ⟨w.heap.size, 0, none⟩ = some (.int .i64 0) := by simp [World.cell?, hR]
      have b3 : w4.cell? ⟨w.heap.size, 1, none⟩ = some (.int .i64 0) := by simp [World.cell?, hR]
      have b4 : w4.frozen? ⟨w.heap.size, 0, none⟩ = false := by simp [World.frozen?, hR]
      have b5 : w4.frozen? ⟨w.heap.size, 1, none⟩ = false := by simp [World.frozen?, hR]
      clear hR
      go_wp2
      have hs2 := fset2 (x := .int .i64 4) (y := .int .i64 (at_ : Int)) HR4.out
      have hbw := (hbw4.setCell (p := ⟨w.heap.size, 0, none⟩) (Nat.le_refl _) (.int .i64 4)).setCell (p := ⟨w.heap.size, 1, none⟩) (Nat.le_refl _) (.int .i64 (at_ : Int))
      generalize (w4.setCell ⟨w.heap.size, 0, none⟩ (.int .i64 4)).setCell ⟨w.heap.size, 1, none⟩ (.int .i64 (at_ : Int)) = wf at *
      have q0 : wf.cell? ⟨w.heap.size, 0, none⟩ = some (.int .i64 4) := by simp [World.cell?, hs2]
      have q1 : wf.cell? ⟨w.heap.size, 1, none⟩ = some (.int .i64 (at_ : Int)) := by simp [World.cell?, hs2]
      rw [hEv]
      exact bodyPost_ret (v := .tuple #[.slice none 0 0, .agg #[.int .i64 4, .int .i64 (at_ : Int)]]) (by simp [results, Try.results46, go_sem, q0, q1]) rfl ⟨rfl, hbw⟩
end Go.Proofs.Ytigeedaihbpjiaa
