/-
  inlet: cut: contract.
-/
import Derived.Test.YtigeedaihbpjiaaNb
import Derived.Deep.RegionHeld3
import Derived.Deep.DrawnRows
namespace Go.Proofs.Ytigeedaihbpjiaa
open Go.RowKit

theorem rest_form {w : World} {v : Value} {l : List Nat} (h : RdS w v 1 l.length (u8s l)) : ∃ a c, v = .slice a l.length c ∧ l.length ≤ c ∧ c ≤ 9223372036854775807 := by
  obtain ⟨_, a', c', he, q1, q2, _⟩ := h
  exact ⟨a', c', he, q1, by unfold maxLen at q2; exact q2⟩

set_option maxRecDepth 100000 in
set_option maxHeartbeats 1000000 in
theorem cut_short (l : List Nat) (B at_ ahead n : Nat) (w : World) (h : InAt w B l at_) (hbig : l.length ≤ 1099511627776) (ha : at_ + ahead ≤ l.length) (hn : l.length < at_ + ahead + n) (hn2 : n ≤ 9223372036854775807) :
    Calls Try.prog 86 #[.pointer (some ⟨B, 0, none⟩), .int .i64 (ahead : Int), .int .i64 (n : Int)] w fun x w' => x = .returned (.tuple #[.slice none 0 0, .agg #[.int .i64 4, .int .i64 (at_ : Int)]]) ∧ Below w.heap.size w w' := by
  have hb0 : Below w.heap.size w (w.alloc (.cells #[.int .i64 0, .int .i64 0] 34)) := (Below.refl _ w).alloc (Nat.le_refl _) _
  have HZ := Lib.hid (h.below hb0)
  have b1 : (w.alloc (.cells #[.int .i64 0, .int .i64 0] 34)).heap[w.heap.size]? = some (.cells #[.int .i64 0, .int .i64 0] 34 (0, 0)) := World.alloc_heap_new w _
  have HB1 := Lib.hid b1
  have hsz : (w.alloc (.cells #[.int .i64 0, .int .i64 0] 34)).heap.size = w.heap.size + 1 := by simp
  generalize hwz : w.alloc (.cells #[.int .i64 0, .int .i64 0] 34) = wz at *
  have HR := Lib.hid (rest_any l B at_ _ HZ.out hbig)
  clear h b1
  have hdl := List.length_drop (l := l) (i := at_)
  go_enter Try.func86, Try.ntmps86
  go_wp2_with fail
  refine HR.out.mono ?_
  rintro e1 w1 ⟨v1, rfl, h1, _, hb1⟩
  have HE := Lib.hid (end_err l B at_ 0 4 w1 (HZ.out.below hb1) (by decide))
  obtain ⟨va, vc, rfl, hv1, hv2⟩ := rest_form h1
  rw [hdl] at *
  clear h1
  go_wp2_with fail
  refine HE.out.mono ?_
  rintro e2 w2 ⟨rfl, hb2⟩
  have hy : w2.heap[w.heap.size]? = some (.cells #[.int .i64 0, .int .i64 0] 34 (0, 0)) := by
    rw [hb2.block _ (by have := hb1.size; omega), hb1.block _ (by omega)]; exact HB1.out
  have HY := Lib.hid hy
  have b2 : w2.cell? ⟨w.heap.size, 0, none⟩ = some (.int .i64 0) := by simp [World.cell?, hy]
  have b3 : w2.cell? ⟨w.heap.size, 1, none⟩ = some (.int .i64 0) := by simp [World.cell?, hy]
  have b4 : w2.frozen? ⟨w.heap.size, 0, none⟩ = false := by simp [World.frozen?, hy]
  have b5 : w2.frozen? ⟨w.heap.size, 1, none⟩ = false := by simp [World.frozen?, hy]
  have hbw : Below w.heap.size w w2 := (hb0.trans (hb1.mono (by omega))).trans (hb2.mono (by have := hb1.size; omega))
  clear hy
  go_wp2
  have hs2 := fset2 (x := .int .i64 4) (y := .int .i64 (at_ : Int)) HY.out
  have hbw2 := (hbw.setCell (p := ⟨w.heap.size, 0, none⟩) (Nat.le_refl _) (.int .i64 4)).setCell (p := ⟨w.heap.size, 1, none⟩) (Nat.le_refl _) (.int .i64 (at_ : Int))
  generalize (w2.setCell ⟨w.heap.size, 0, none⟩ (.int .i64 4)).setCell ⟨w.heap.size, 1, none⟩ (.int .i64 (at_ : Int)) = wf at *
  have q0 : wf.cell? ⟨w.heap.size, 0, none⟩ = some (.int .i64 4) := by simp [World.cell?, hs2]
  have q1 : wf.cell? ⟨w.heap.size, 1, none⟩ = some (.int .i64 (at_ : Int)) := by simp [World.cell?, hs2]
  refine bodyPost_ret (v := .tuple #[.slice none 0 0, .agg #[.int .i64 4, .int .i64 (at_ : Int)]]) (by simp [results, Try.results86, go_sem, q0, q1]) rfl ⟨rfl, hbw2⟩

theorem RdS.kept2 {w w' : World} {v : Value} {size n N : Nat} {cs : List Value} (h : RdS w v size n cs) (hb : Below N w w') (hv : ∀ g, v.ownBlock = some g → g < N) : RdS w' v size n cs := by
  obtain ⟨h1, a, cap, rfl, h3, h4, h5⟩ := h
  refine ⟨h1, a, cap, rfl, h3, h4, ?_⟩
  rcases h5 with h5 | ⟨g, off, rfl, hc⟩
  · exact .inl h5
  · exact .inr ⟨g, off, rfl, fun i c hi => by rw [hb.cell (p := ⟨g, off + i, none⟩) (hv g (by simp [Value.ownBlock]))]; exact hc i c hi⟩
theorem But.alloc {B : Nat} {w a : World} (h : But B w a) (o : Obj) : But B w (a.alloc o) := h.trans (But.of_below ((Below.refl _ a).alloc (Nat.le_refl _) o))
/-- What a region holds that reads a struct of two cells in F and, last, writes R. -/
def Two (W0 : World) (R F : Nat) (W : World) : Prop := Below W0.heap.size W0 W ∧ W.cell? ⟨F, 0, none⟩ = some (.int .i64 0) ∧ W.cell? ⟨F, 1, none⟩ = some (.int .i64 0) ∧ W.cell? ⟨R, 0, none⟩ = some (.int .i64 0) ∧ W.cell? ⟨R, 1, none⟩ = some (.int .i64 0) ∧ W.frozen? ⟨R, 0, none⟩ = false ∧ W.frozen? ⟨R, 1, none⟩ = false
theorem two_of {W0 W : World} {R F : Nat} (hb : Below W0.heap.size W0 W) (h1 : W0.heap[R]? = some (.cells #[.int .i64 0, .int .i64 0] 34 (0, 0))) (h2 : W0.heap[F]? = some (.cells #[.int .i64 0, .int .i64 0] 34 (0, 0))) : Two W0 R F W := by
  have g1 := (hb.block R (Array.getElem?_eq_some_iff.1 h1).1).trans h1
  have g2 := (hb.block F (Array.getElem?_eq_some_iff.1 h2).1).trans h2
  refine ⟨hb, ?_, ?_, ?_, ?_, ?_, ?_⟩ <;> simp [World.cell?, World.frozen?, g1, g2]


set_option maxRecDepth 100000 in
set_option maxHeartbeats 1000000 in
theorem cut_ok (l : List Nat) (B at_ ahead n : Nat) (w : World) (h : InAt w B l at_) (hbig : l.length ≤ 1099511627776) (ha : at_ + ahead + n ≤ l.length) :
    Calls Try.prog 86 #[.pointer (some ⟨B, 0, none⟩), .int .i64 (ahead : Int), .int .i64 (n : Int)] w fun x w' => ∃ v', x = .returned (.tuple #[v', .agg #[.int .i64 0, .int .i64 0]]) ∧ RdS w' v' 1 n (u8s ((l.drop (at_ + ahead)).take n)) ∧ (∀ g, v'.ownBlock = some g → w.heap.size ≤ g) ∧ InAt w' B l (at_ + ahead + n) ∧ But B w w' := by
  have hb0 : Below w.heap.size w (w.alloc (.cells #[.int .i64 0, .int .i64 0] 34)) := (Below.refl _ w).alloc (Nat.le_refl _) _
  have HZ := Lib.hid (h.below hb0)
  have b1 : (w.alloc (.cells #[.int .i64 0, .int .i64 0] 34)).heap[w.heap.size]? = some (.cells #[.int .i64 0, .int .i64 0] 34 (0, 0)) := World.alloc_heap_new w _
  have HB1 := Lib.hid b1
  have hsz : (w.alloc (.cells #[.int .i64 0, .int .i64 0] 34)).heap.size = w.heap.size + 1 := by simp
  generalize hwz : w.alloc (.cells #[.int .i64 0, .int .i64 0] 34) = wz at *
  have HR := Lib.hid (rest_any l B at_ _ HZ.out hbig)
  have h0 := Lib.hid h
  clear h b1
  have hdl := List.length_drop (l := l) (i := at_)
  obtain ⟨x, hx⟩ : ∃ x, x = (l.drop (at_ + ahead)).take n := ⟨_, rfl⟩
  have hxl : x.length = n := by rw [hx, List.length_take, List.length_drop]; omega
  rw [← hx]
  have HC : Hid (∀ (ov : Value) (W : World), RdS W ov 1 x.length (u8s x) → Calls Try.prog 83 #[ov] W fun e w' => ∃ v', e = .returned v' ∧ RdS w' v' 1 x.length (u8s x) ∧ (∀ g, v'.ownBlock = some g → W.heap.size ≤ g ∧ g < w'.heap.size) ∧ Below W.heap.size W w') := Lib.hid (fun ov W h => Clone_any x ov W h (by omega))
  have hBlt : B < w.heap.size := by obtain ⟨v0, g1, _⟩ := h0.out; exact (Array.getElem?_eq_some_iff.1 g1).1
  go_enter Try.func86, Try.ntmps86
  go_wp2_with fail
  refine HR.out.mono ?_
  rintro e1 w1 ⟨v1, rfl, h1, h1o, hb1⟩
  have HI1 := Lib.hid (HZ.out.below hb1)
  have HE := Lib.hid (end_ok l B at_ (ahead + n) w1 HI1.out (by omega) hbig)
  have H1 := Lib.hid h1
  have H1O := Lib.hid h1o
  obtain ⟨va, vc, rfl, hv1, hv2⟩ := rest_form h1
  have HO0 : n = 0 → Hid (RdS w1 (.slice va 0 0) 1 x.length (u8s x)) := fun h0 => Lib.hid (by
    rw [List.eq_nil_of_length_eq_zero (hxl.trans h0)]
    exact ⟨rfl, va, 0, rfl, Nat.le_refl _, Nat.zero_le _, .inl rfl⟩)
  have HO1 : Hid (RdS w1 (.slice (Option.map (fun a => a.add ahead) va) n n) 1 x.length (u8s x)) := Lib.hid (by
    refine ⟨by simp, Option.map (fun a => a.add ahead) va, n, by rw [hxl], by omega, by unfold maxLen; omega, ?_⟩
    rcases h1.2 with ⟨a', c', q0, q1, q2, q3⟩
    cases q0
    rcases q3 with q3 | ⟨g, off, rfl, q3⟩
    · left
      have : (l.drop at_).length = 0 := by rw [← u8s_length, q3]; rfl
      rw [List.eq_nil_of_length_eq_zero (l := x) (by rw [hdl] at this; omega)]; rfl
    · refine .inr ⟨g, off + ahead, by simp [Addr.add_lit], fun i c hi => ?_⟩
      have := q3 (ahead + i) c (by
        rw [hx] at hi
        have hin : i < n := by
          have := (List.getElem?_eq_some_iff.1 hi).1
          rw [u8s_length, ← hx, hxl] at this; exact this
        simpa [u8s, List.getElem?_drop, List.getElem?_take, hin, Nat.add_assoc] using hi)
      rwa [← Nat.add_assoc] at this)
  have HOB0 : Hid (∀ g, (Value.slice va 0 0).ownBlock = some g → g ≠ B) := Lib.hid (fun g hg => by
      cases va with
      | none => cases hg
      | some y => exact Nat.ne_of_lt (H1O.out g hg))
  have HOB1 : Hid (∀ g, (Value.slice (Option.map (fun a => a.add ahead) va) n n).ownBlock = some g → g ≠ B) := Lib.hid (fun g hg => by
      cases va with
      | none => cases hg
      | some y =>
        have e : (y.add ahead).block = y.block := by unfold Addr.add; split <;> rfl
        exact Nat.ne_of_lt (H1O.out g (by simpa [Value.ownBlock, e] using hg)))
  rw [hdl] at *
  clear h1 h1o
  go_wp2_with fail
  all_goals (first
    | (have HO := HO0 (by omega); have HOB := HOB0; generalize Value.slice va 0 0 = ov at *)
    | (have HO := HO1; have HOB := HOB1; generalize Value.slice (Option.map (fun a => a.add ahead) va) n n = ov at *))
  all_goals clear HO0 HO1 HOB0 HOB1
  all_goals (
    rw [show ((ahead : Int) + (n : Int)) = ((ahead + n : Nat) : Int) by omega]
    refine HE.out.mono ?_
    rintro e2 w2 ⟨rfl, hi2, hbu2⟩
    have hne1 : w.heap.size ≠ B := by
      obtain ⟨v0, g1, _⟩ := h0.out
      have := (Array.getElem?_eq_some_iff.1 g1).1; omega
    have hy1 : w2.heap[w.heap.size]? = some (.cells #[.int .i64 0, .int .i64 0] 34 (0, 0)) := by
      rw [hbu2.block _ (by have := hb1.size; omega) hne1, hb1.block _ (by omega)]; exact HB1.out
    have HI2 := Lib.hid hi2
    have HX2 := Lib.hid (hbu2.rds HO.out HOB.out)
    have HY1 := Lib.hid hy1
    have hsz2 := hbu2.size
    have hsz1 := hb1.size
    clear hi2 hy1
    go_wp2_with fail
    have hby : Below w2.heap.size w2 (w2.alloc (.cells #[.int .i64 0, .int .i64 0] 34)).drew := ((Below.refl _ w2).alloc (Nat.le_refl _) _).drew
    have HW1 : Hid ((w2.alloc (.cells #[.int .i64 0, .int .i64 0] 34)).drew.heap[w.heap.size]? = some (.cells #[.int .i64 0, .int .i64 0] 34 (0, 0))) := Lib.hid ((hby.block _ (by omega)).trans HY1.out)
    have HW2 : Hid ((w2.alloc (.cells #[.int .i64 0, .int .i64 0] 34)).drew.heap[w2.heap.size]? = some (.cells #[.int .i64 0, .int .i64 0] 34 (0, 0))) := Lib.hid (World.alloc_heap_new w2 _)
    have HX3 := Lib.hid (HX2.out.below hby)
    have hbu3 : But B w1 (w2.alloc (.cells #[.int .i64 0, .int .i64 0] 34)).drew := hbu2.trans (But.of_below hby)
    have hsz3 : ((w2.alloc (.cells #[.int .i64 0, .int .i64 0] 34)).drew).heap.size = w2.heap.size + 1 := by simp [World.drew]
    have HI3 := Lib.hid (HI2.out.below hby)
    obtain ⟨-, o1, o2, o3, o4, o5, o6⟩ := two_of (Below.refl _ _) HW1.out HW2.out
    go_region_with (go_at_call 83; refine (HC.out _ _ HX3.out).mono ?_; rintro e w5 ⟨v5, rfl, h5, h5o, hb5⟩; obtain ⟨-, p1, p2, p3, p4, p5, p6⟩ := two_of hb5 HW1.out HW2.out; have H5 := Lib.hid h5; have H5O := Lib.hid h5o; clear h5 h5o))
  all_goals (
    go_wp2
    have hR : w5.heap[w.heap.size]? = some (.cells #[.int .i64 0, .int .i64 0] 34 (0, 0)) := (hb5.block _ (by omega)).trans HW1.out
    have hs2 := fset2 (x := .int .i64 0) (y := .int .i64 0) hR
    have hbw := ((Below.refl w.heap.size w5).setCell (p := ⟨w.heap.size, 0, none⟩) (Nat.le_refl _) (.int .i64 0)).setCell (p := ⟨w.heap.size, 1, none⟩) (Nat.le_refl _) (.int .i64 0)
    have hRd : RdS ((w5.setCell ⟨w.heap.size, 0, none⟩ (.int .i64 0)).setCell ⟨w.heap.size, 1, none⟩ (.int .i64 0)) v5 1 x.length (u8s x) := 
      But.set.rds (But.set.rds H5.out (fun g hg => by have := (H5O.out g hg).1; omega)) (fun g hg => by have := (H5O.out g hg).1; omega)
    generalize (w5.setCell ⟨w.heap.size, 0, none⟩ (.int .i64 0)).setCell ⟨w.heap.size, 1, none⟩ (.int .i64 0) = wf at *
    have q0 : wf.cell? ⟨w.heap.size, 0, none⟩ = some (.int .i64 0) := by simp [World.cell?, hs2]
    have q1 : wf.cell? ⟨w.heap.size, 1, none⟩ = some (.int .i64 0) := by simp [World.cell?, hs2]
    have hsz5 := hb5.size
    have hfin : But B w wf := by
      refine ⟨hbw.os.trans (hb5.os.trans (hbu3.os.trans (hb1.os.trans hb0.os))), hbw.tape.trans (hb5.tape.trans (hbu3.tape.trans (hb1.tape.trans hb0.tape))), hbw.output.trans (hb5.output.trans (hbu3.output.trans (hb1.output.trans hb0.output))), by have := hbw.size; omega, fun k hk hn => ?_⟩
      rw [hbw.block k hk, hb5.block k (by omega), hbu3.block k (by omega) hn, hb1.block k (by omega), hb0.block k hk]
    obtain ⟨vi, i1, i2, i3, i4⟩ := HI3.out
    refine bodyPost_ret (v := .tuple #[v5, .agg #[.int .i64 0, .int .i64 0]]) (by simp [results, Try.results86, go_sem, q0, q1]) rfl ⟨_, rfl, by rw [← hxl]; exact hRd, fun g hg => by have := (H5O.out g hg).1; omega, ⟨vi, ?_, ?_, i3, by omega⟩, hfin⟩
    · rw [hbw.block B (by omega), hb5.block B (by omega), i1, Nat.add_assoc]
    · exact (i2.below hb5).kept2 hbw (fun g hg => by have := i3 g hg; omega))
end Go.Proofs.Ytigeedaihbpjiaa
