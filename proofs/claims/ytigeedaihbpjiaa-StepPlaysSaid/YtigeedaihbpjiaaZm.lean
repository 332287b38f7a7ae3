/-
  StepPlays: the law's walk.
-/
import Derived.Test.YtigeedaihbpjiaaZj
import Derived.Test.YtigeedaihbpjiaaZg
import Derived.Test.YtigeedaihbpjiaaHw
import Derived.Deep.DeepCutAuto
import Derived.Deep.CutBlock
import Derived.BigRegion
namespace Go.Proofs.Ytigeedaihbpjiaa
open Go.RowKit
attribute [local go_sem ↓] Go.wp_at_zero Go.wp_at_succ

theorem S_alloc {B : Nat} {w W : World} {o : Obj} (h : Below B w W) (hB : B ≤ w.heap.size) : Below B w (W.alloc o) := h.alloc (Nat.le_trans hB h.size) o
def RRun4 (W : World) (B : Nat) (p t u : Int) (b : Bool) : Prop := W.heap[B]? = some (.cells #[.int .u8 p, .int .i64 t, .int .i64 u, .bool b] 86 (0, 0))

/-- What stays while the document's run is reckoned: the program's run, and a run's block for the other. -/
def Grp (wr : World) (G Gy : Nat) (p t u : Int) (b : Bool) (W : World) : Prop := Below wr.heap.size wr W ∧ Run4 W G p t u b ∧ ∃ c0 c1 c2 c3 : Value, W.heap[Gy]? = some (.cells #[c0, c1, c2, c3] 86 (0, 0))
theorem Grp.keep {wr W W' : World} {G Gy : Nat} {p t u : Int} {b : Bool} (h : Grp wr G Gy p t u b W) (hb : Below W.heap.size W W') : Grp wr G Gy p t u b W' := by
  obtain ⟨h0, hx, c0, c1, c2, c3, hy⟩ := h
  exact ⟨bthen h0 (Nat.le_refl _) hb, hx.keep hb, c0, c1, c2, c3, keepH hy hb⟩
theorem Grp.set {wr W : World} {G Gy : Nat} {p t u : Int} {b : Bool} {x y z v : Value} (h : Grp wr G Gy p t u b W) (hGy : wr.heap.size ≤ Gy) (hGG : G ≠ Gy) :
    Grp wr G Gy p t u b ((((W.setCell ⟨Gy, 0, none⟩ x).setCell ⟨Gy, 1, none⟩ y).setCell ⟨Gy, 2, none⟩ z).setCell ⟨Gy, 3, none⟩ v) ∧ ((((W.setCell ⟨Gy, 0, none⟩ x).setCell ⟨Gy, 1, none⟩ y).setCell ⟨Gy, 2, none⟩ z).setCell ⟨Gy, 3, none⟩ v).heap[Gy]? = some (.cells #[x, y, z, v] 86 (0, 0)) := by
  obtain ⟨h0, hx, c0, c1, c2, c3, hy⟩ := h
  exact ⟨⟨bset (bset (bset (bset h0 hGy) hGy) hGy) hGy, (set4_other _ _ _ _ hGG).trans hx, x, y, z, v, set4 _ _ _ _ hy⟩, set4 _ _ _ _ hy⟩
theorem Run4.drewn {W : World} {B : Nat} {p t u : Int} {b : Bool} (h : Run4 W B p t u b) : Run4 W.drew B p t u b := h
theorem RRun4.drewn {W : World} {B : Nat} {p t u : Int} {b : Bool} (h : RRun4 W B p t u b) : RRun4 W.drew B p t u b := h
theorem heap_drewn {W : World} {B : Nat} {o : Obj} (h : W.heap[B]? = some o) : W.drew.heap[B]? = some o := h
/-- Both runs are written over. -/
theorem finZ {w W : World} {A B Y B0 : Nat} {p t u q1 q2 q3 : Int} {b q4 : Bool} {so : Obj} (hA : Run4 W A p t u b) (hB : RRun4 W B p t u b) (hY : W.heap[Y]? = some so) (hAB : A ≠ B) (hYA : Y ≠ A) (hYB : Y ≠ B) (hb : Below B0 w W) (h1 : B0 ≤ A) (h2 : B0 ≤ B) :
    Run4 ((((((((W.setCell ⟨A, 0, none⟩ (.int .u8 q1)).setCell ⟨A, 1, none⟩ (.int .i64 q2)).setCell ⟨A, 2, none⟩ (.int .i64 q3)).setCell ⟨A, 3, none⟩ (.bool q4)).setCell ⟨B, 0, none⟩ (.int .u8 q1)).setCell ⟨B, 1, none⟩ (.int .i64 q2)).setCell ⟨B, 2, none⟩ (.int .i64 q3)).setCell ⟨B, 3, none⟩ (.bool q4)).drew A q1 q2 q3 q4 ∧ RRun4 ((((((((W.setCell ⟨A, 0, none⟩ (.int .u8 q1)).setCell ⟨A, 1, none⟩ (.int .i64 q2)).setCell ⟨A, 2, none⟩ (.int .i64 q3)).setCell ⟨A, 3, none⟩ (.bool q4)).setCell ⟨B, 0, none⟩ (.int .u8 q1)).setCell ⟨B, 1, none⟩ (.int .i64 q2)).setCell ⟨B, 2, none⟩ (.int .i64 q3)).setCell ⟨B, 3, none⟩ (.bool q4)).drew B q1 q2 q3 q4 ∧ ((((((((W.setCell ⟨A, 0, none⟩ (.int .u8 q1)).setCell ⟨A, 1, none⟩ (.int .i64 q2)).setCell ⟨A, 2, none⟩ (.int .i64 q3)).setCell ⟨A, 3, none⟩ (.bool q4)).setCell ⟨B, 0, none⟩ (.int .u8 q1)).setCell ⟨B, 1, none⟩ (.int .i64 q2)).setCell ⟨B, 2, none⟩ (.int .i64 q3)).setCell ⟨B, 3, none⟩ (.bool q4)).drew.heap[Y]? = some so ∧ Below B0 w ((((((((W.setCell ⟨A, 0, none⟩ (.int .u8 q1)).setCell ⟨A, 1, none⟩ (.int .i64 q2)).setCell ⟨A, 2, none⟩ (.int .i64 q3)).setCell ⟨A, 3, none⟩ (.bool q4)).setCell ⟨B, 0, none⟩ (.int .u8 q1)).setCell ⟨B, 1, none⟩ (.int .i64 q2)).setCell ⟨B, 2, none⟩ (.int .i64 q3)).setCell ⟨B, 3, none⟩ (.bool q4)).drew := by
  have e1 : Run4 ((((((((W.setCell ⟨A, 0, none⟩ (.int .u8 q1)).setCell ⟨A, 1, none⟩ (.int .i64 q2)).setCell ⟨A, 2, none⟩ (.int .i64 q3)).setCell ⟨A, 3, none⟩ (.bool q4)).setCell ⟨B, 0, none⟩ (.int .u8 q1)).setCell ⟨B, 1, none⟩ (.int .i64 q2)).setCell ⟨B, 2, none⟩ (.int .i64 q3)).setCell ⟨B, 3, none⟩ (.bool q4)) A q1 q2 q3 q4 := (set4_other _ _ _ _ hAB).trans (set4 _ _ _ _ hA)
  have e2 : RRun4 ((((((((W.setCell ⟨A, 0, none⟩ (.int .u8 q1)).setCell ⟨A, 1, none⟩ (.int .i64 q2)).setCell ⟨A, 2, none⟩ (.int .i64 q3)).setCell ⟨A, 3, none⟩ (.bool q4)).setCell ⟨B, 0, none⟩ (.int .u8 q1)).setCell ⟨B, 1, none⟩ (.int .i64 q2)).setCell ⟨B, 2, none⟩ (.int .i64 q3)).setCell ⟨B, 3, none⟩ (.bool q4)) B q1 q2 q3 q4 := set4 _ _ _ _ ((set4_other _ _ _ _ hAB.symm).trans hB)
  have e3 : ((((((((W.setCell ⟨A, 0, none⟩ (.int .u8 q1)).setCell ⟨A, 1, none⟩ (.int .i64 q2)).setCell ⟨A, 2, none⟩ (.int .i64 q3)).setCell ⟨A, 3, none⟩ (.bool q4)).setCell ⟨B, 0, none⟩ (.int .u8 q1)).setCell ⟨B, 1, none⟩ (.int .i64 q2)).setCell ⟨B, 2, none⟩ (.int .i64 q3)).setCell ⟨B, 3, none⟩ (.bool q4)).heap[Y]? = some so := (set4_other _ _ _ _ hYB).trans ((set4_other _ _ _ _ hYA).trans hY)
  have e4 : Below B0 w ((((((((W.setCell ⟨A, 0, none⟩ (.int .u8 q1)).setCell ⟨A, 1, none⟩ (.int .i64 q2)).setCell ⟨A, 2, none⟩ (.int .i64 q3)).setCell ⟨A, 3, none⟩ (.bool q4)).setCell ⟨B, 0, none⟩ (.int .u8 q1)).setCell ⟨B, 1, none⟩ (.int .i64 q2)).setCell ⟨B, 2, none⟩ (.int .i64 q3)).setCell ⟨B, 3, none⟩ (.bool q4)) := bset (bset (bset (bset (bset (bset (bset (bset hb h1) h1) h1) h1) h2) h2) h2) h2
  exact ⟨e1.drewn, e2.drewn, heap_drewn e3, e4.drew⟩
theorem callY {P : Program} {fn : FuncId} {args : Array Value} {W : World} {r : Value} {g : Nat} {p t u : Int} {b : Bool} (y : RRun4 W g p t u b) (h : Calls P fn args W fun e w' => e = .returned r ∧ Below W.heap.size W w') :
    Calls P fn args W fun e w' => e = .returned r ∧ Below W.heap.size W w' ∧ RRun4 w' g p t u b ∧ w'.cell? ⟨g, 0, none⟩ = some (.int .u8 p) ∧ w'.cell? ⟨g, 1, none⟩ = some (.int .i64 t) ∧ w'.cell? ⟨g, 2, none⟩ = some (.int .i64 u) ∧ w'.cell? ⟨g, 3, none⟩ = some (.bool b) ∧ w'.frozen? ⟨g, 0, none⟩ = false ∧ w'.frozen? ⟨g, 1, none⟩ = false ∧ w'.frozen? ⟨g, 2, none⟩ = false ∧ w'.frozen? ⟨g, 3, none⟩ = false :=
  h.mono fun _ _ ⟨h1, h2⟩ => ⟨h1, h2, keepH y h2, cells4h (keepH y h2)⟩

section
variable {s0 s1 s2 : ByteArray} {af : Option Addr} {an ac : Nat} {m f k l : Int} {nk : Int} {nt : ByteArray} {ka : Option Addr} {kn kc : Nat} {da : Option Addr} {dn dc : Nat} {nl : Int}
set_option maxRecDepth 100000 in
set_option maxHeartbeats 8000000 in
theorem StepPlays_walk (l' : List (Int × Int × Int × Int)) (hol : ∀ a ∈ l', 0 ≤ a.2.1) (v : Value) (p0 t0 u0 : Int) (b0 : Bool) (w : World) (hr : RdS w v 4 l'.length (asC l')) :
    Calls Try.prog 10 #[stepV s0 s1 s2 af an ac m f k l nk nt ka kn kc da dn dc nl, runV p0 t0 u0 b0, v] w fun e w' => e = .returned (.bool true) ∧ Below w.heap.size w w' := by
  have HR := Lib.hid hr
  have HOL := Lib.hid hol
  obtain ⟨a, cap, rfl⟩ := hr.form
  clear hr hol
  have HD := Lib.hid (fun p t u b kd o now tr w => do_any (s0 := s0) (s1 := s1) (s2 := s2) (af := af) (an := an) (ac := ac) (m := m) (f := f) (k := k) (l := l) (nk := nk) (nt := nt) (ka := ka) (kn := kn) (kc := kc) (da := da) (dn := dn) (dc := dc) (nl := nl) p t u b kd o now tr w)
  have HRA := Lib.hid (fun p t u b o now tr (ho : 0 ≤ o) w => rAnswer_any (s0 := s0) (s1 := s1) (s2 := s2) (af := af) (an := an) (ac := ac) (m := m) (f := f) (k := k) (l := l) (nk := nk) (nt := nt) (ka := ka) (kn := kn) (kc := kc) (da := da) (dn := dn) (dc := dc) (nl := nl) p t u b now tr o w ho)
  have HRT := Lib.hid (fun p t u b now w => rTick_any (s0 := s0) (s1 := s1) (s2 := s2) (af := af) (an := an) (ac := ac) (m := m) (f := f) (k := k) (l := l) (nk := nk) (nt := nt) (ka := ka) (kn := kn) (kc := kc) (da := da) (dn := dn) (dc := dc) (nl := nl) p t u b now w)
  have HRB := Lib.hid (fun now w => rBegin_any (s0 := s0) (s1 := s1) (s2 := s2) (af := af) (an := an) (ac := ac) (m := m) (f := f) (k := k) (l := l) (nk := nk) (nt := nt) (ka := ka) (kn := kn) (kc := kc) (da := da) (dn := dn) (dc := dc) (nl := nl) now w)
  unfold stepV askV at HD
  unfold stepV at HRA HRT HRB
  unfold stepV runV
  go_enter Try.func10, Try.ntmps10
  go_wp2_with fail
  refine (live31_any _).mono ?_
  rintro e w1 ⟨rfl, hb1⟩
  have hh2 := heap2 w (.cells #[.string s0, .string s1, .string s2, .slice af an ac, .int .i64 m, .int .i64 f, .int .i64 k, .int .i64 l, .int .u8 nk, .string nt, .slice ka kn kc, .slice da dn dc, .int .i64 nl] 82) (.cells #[.int .u8 p0, .int .i64 t0, .int .i64 u0, .bool b0] 84)
  have Y2 := Lib.hid (keepH hh2.1 hb1)
  have XR0 : Hid (Run4 w1 (w.heap.size + 1) p0 t0 u0 b0) := Lib.hid (keepH hh2.2.1 hb1)
  have hbw : Below w.heap.size w w1 := hh2.2.2.2.trans (hb1.mono (by simp; omega))
  have hsz : w.heap.size + 2 ≤ w1.heap.size := by have := hb1.size; simpa using this
  clear hb1 hh2
  by_cases hbig : 100 < l'.length
  · have hdd : decide ((100 : Int) < l'.length) = true := by simp; omega
    go_wp2
    go_ret
    exact ⟨rfl, hbw⟩
  · have hdd : decide ((100 : Int) < l'.length) = false := by simp; omega
    obtain ⟨a0, a1, a2, a3, f0, f1, f2, f3⟩ := cells4h XR0.out
    go_wp2
    have HW0 : Hid (RRun4 (w1.alloc (Obj.cells #[.int .u8 p0, .int .i64 t0, .int .i64 u0, .bool b0] 86)) w1.heap.size p0 t0 u0 b0) := Lib.hid (World.alloc_heap_new _ _)
    have hbx : Below w1.heap.size w1 (w1.alloc (Obj.cells #[.int .u8 p0, .int .i64 t0, .int .i64 u0, .bool b0] 86)) := (Below.refl _ w1).alloc (Nat.le_refl _) _
    have Y3 := Lib.hid (keepH Y2.out hbx)
    have XR1 := Lib.hid (XR0.out.keep hbx)
    have hbw := bthen hbw (Nat.le_refl _) hbx
    clear a0 a1 a2 a3 f0 f1 f2 f3 hbx Y2 XR0
    generalize w1.alloc (Obj.cells #[.int .u8 p0, .int .i64 t0, .int .i64 u0, .bool b0] 86) = wl at *
    generalize w1.heap.size = Bw at *
    go_loopw [8] (fun i wr => ∃ (k' : Nat) (p t u : Int) (b : Bool), k' ≤ l'.length ∧ i = .int .i64 k' ∧ Hid (Run4 wr (w.heap.size + 1) p t u b) ∧ Hid (RRun4 wr Bw p t u b) ∧ Hid (wr.heap[w.heap.size]? = some (.cells #[.string s0, .string s1, .string s2, .slice af an ac, .int .i64 m, .int .i64 f, .int .i64 k, .int .i64 l, .int .u8 nk, .string nt, .slice ka kn kc, .slice da dn dc, .int .i64 nl] 82 (0, 0))) ∧ Below w.heap.size w wr) (fun i _ => l'.length - (intOf i).toNat)
    case atStart => exact ⟨0, p0, t0, u0, b0, by omega, rfl, XR1, HW0, Y3, hbw⟩
    case round =>
      obtain ⟨k', p, t, u, b, hk, rfl, XR, XW, YS, hb⟩ := hrel
      clear XR1 HW0 Y3
      by_cases hlt : k' < l'.length
      · rcases (HR.out.below hb).cases (by decide) with ⟨h0, _⟩ | ⟨hn, _, g, off, cap', hq, h1, h2, h3⟩
        · omega
        obtain ⟨rfl, rfl⟩ : a = some ⟨g, off, none⟩ ∧ cap = cap' := by injection hq with q1 q2 q3; exact ⟨q1, q3⟩
        obtain ⟨e0, e1, e2, e3⟩ := asC_get l' k' hlt
        have c0 := h3 _ _ e0
        have c1 := h3 _ _ e1
        have c2 := h3 _ _ e2
        have c3 := h3 _ _ e3
        rw [← Nat.add_assoc] at c1 c2 c3
        have ho0 := HOL.out _ (List.getElem_mem hlt)
        generalize l'[k'] = x at *
        obtain ⟨kd, oo, nn, tt⟩ := x
        dsimp only at *
        have hlt' : (k' : Int) < l'.length := by omega
        have hk0 : (0 : Int) ≤ (k' : Int) := by omega
        clear h3 hq e0 e1 e2 e3
        obtain ⟨a0, a1, a2, a3, f0, f1, f2, f3⟩ := cells4h XR.out
        obtain ⟨d0, d1, d2, d3, d4, d5, d6, d7, d8, d9, d10, d11, d12⟩ := cells13a YS.out
        have HD1 := Lib.hid (HD.out p t u b kd oo nn tt)
        obtain ⟨X, hX⟩ : ∃ X, doT m f k l p t u b kd oo nn tt = X := ⟨_, rfl⟩
        have HXE := Lib.hid hX
        rw [hX] at HD1
        clear hX
        obtain ⟨⟨q1, q2, q3, q4⟩, q5⟩ := X
        unfold tupR runT runV at HD1
        dsimp only at HD1
        have HS : Hid (∀ W', Below wr.heap.size wr W' → (Below wr.heap.size wr W' ∧ W'.cell? ⟨w.heap.size + 1, 0, none⟩ = some (.int .u8 p) ∧ W'.cell? ⟨w.heap.size + 1, 1, none⟩ = some (.int .i64 t) ∧ W'.cell? ⟨w.heap.size + 1, 2, none⟩ = some (.int .i64 u) ∧ W'.cell? ⟨w.heap.size + 1, 3, none⟩ = some (.bool b) ∧
            W'.cell? ⟨w.heap.size, 0, none⟩ = some (.string s0) ∧ W'.cell? ⟨w.heap.size, 1, none⟩ = some (.string s1) ∧ W'.cell? ⟨w.heap.size, 2, none⟩ = some (.string s2) ∧ W'.cell? ⟨w.heap.size, 3, none⟩ = some (.slice af an ac) ∧ W'.cell? ⟨w.heap.size, 4, none⟩ = some (.int .i64 m) ∧ W'.cell? ⟨w.heap.size, 5, none⟩ = some (.int .i64 f) ∧ W'.cell? ⟨w.heap.size, 6, none⟩ = some (.int .i64 k) ∧ W'.cell? ⟨w.heap.size, 7, none⟩ = some (.int .i64 l) ∧ W'.cell? ⟨w.heap.size, 8, none⟩ = some (.int .u8 nk) ∧ W'.cell? ⟨w.heap.size, 9, none⟩ = some (.string nt) ∧ W'.cell? ⟨w.heap.size, 10, none⟩ = some (.slice ka kn kc) ∧ W'.cell? ⟨w.heap.size, 11, none⟩ = some (.slice da dn dc) ∧ W'.cell? ⟨w.heap.size, 12, none⟩ = some (.int .i64 nl) ∧
            W'.cell? ⟨g, off + k' * 4, none⟩ = some (.int .u8 kd) ∧ W'.cell? ⟨g, off + k' * 4 + 1, none⟩ = some (.int .u8 oo) ∧ W'.cell? ⟨g, off + k' * 4 + 2, none⟩ = some (.int .i64 nn) ∧ W'.cell? ⟨g, off + k' * 4 + 3, none⟩ = some (.int .i64 tt))) :=
          Lib.hid (fun W' h => ⟨h, cellB h a0, cellB h a1, cellB h a2, cellB h a3, cellB h d0, cellB h d1, cellB h d2, cellB h d3, cellB h d4, cellB h d5, cellB h d6, cellB h d7, cellB h d8, cellB h d9, cellB h d10, cellB h d11, cellB h d12, cellB h c0, cellB h c1, cellB h c2, cellB h c3⟩)
        go_upto_region 9 with fail
        go_cut [9, 10] (fun s9 s10 wx => ∃ G : Nat, s9 = .pointer (some ⟨G, 0, none⟩) ∧ s10 = .bool q5 ∧ wr.heap.size ≤ G ∧ Hid (Run4 wx G q1 q2 q3 q4) ∧ Below wr.heap.size wr wx)
        case first =>
          have K0 : Below wr.heap.size wr wr.drew := (Below.refl _ _).drew
          have KA : Below wr.heap.size wr ((wr.alloc (.cells #[.int .u8 0, .int .i64 0, .int .i64 0, .bool false] 84)).drew) := (S_alloc (Below.refl _ _) (Nat.le_refl _)).drew
          go_region_held3 (fun W' => Below wr.heap.size wr W' ∧ W'.cell? ⟨w.heap.size + 1, 0, none⟩ = some (.int .u8 p) ∧ W'.cell? ⟨w.heap.size + 1, 1, none⟩ = some (.int .i64 t) ∧ W'.cell? ⟨w.heap.size + 1, 2, none⟩ = some (.int .i64 u) ∧ W'.cell? ⟨w.heap.size + 1, 3, none⟩ = some (.bool b) ∧
            W'.cell? ⟨w.heap.size, 0, none⟩ = some (.string s0) ∧ W'.cell? ⟨w.heap.size, 1, none⟩ = some (.string s1) ∧ W'.cell? ⟨w.heap.size, 2, none⟩ = some (.string s2) ∧ W'.cell? ⟨w.heap.size, 3, none⟩ = some (.slice af an ac) ∧ W'.cell? ⟨w.heap.size, 4, none⟩ = some (.int .i64 m) ∧ W'.cell? ⟨w.heap.size, 5, none⟩ = some (.int .i64 f) ∧ W'.cell? ⟨w.heap.size, 6, none⟩ = some (.int .i64 k) ∧ W'.cell? ⟨w.heap.size, 7, none⟩ = some (.int .i64 l) ∧ W'.cell? ⟨w.heap.size, 8, none⟩ = some (.int .u8 nk) ∧ W'.cell? ⟨w.heap.size, 9, none⟩ = some (.string nt) ∧ W'.cell? ⟨w.heap.size, 10, none⟩ = some (.slice ka kn kc) ∧ W'.cell? ⟨w.heap.size, 11, none⟩ = some (.slice da dn dc) ∧ W'.cell? ⟨w.heap.size, 12, none⟩ = some (.int .i64 nl) ∧
            W'.cell? ⟨g, off + k' * 4, none⟩ = some (.int .u8 kd) ∧ W'.cell? ⟨g, off + k' * 4 + 1, none⟩ = some (.int .u8 oo) ∧ W'.cell? ⟨g, off + k' * 4 + 2, none⟩ = some (.int .i64 nn) ∧ W'.cell? ⟨g, off + k' * 4 + 3, none⟩ = some (.int .i64 tt))
            (first | assumption | exact HS.out _ K0 | exact HS.out _ KA | exact HS.out _ (bthen K0 (Nat.le_refl _) hb5) | exact HS.out _ (bthen KA (Nat.le_refl _) hb5) | exact HS.out _ (S_alloc (bthen K0 (Nat.le_refl _) hb5) (Nat.le_refl _)) | exact HS.out _ (bset (bset (bset (bset (bthen KA (Nat.le_refl _) hb5) (Nat.le_refl _)) (Nat.le_refl _)) (Nat.le_refl _)) (Nat.le_refl _))) (first
              | (go_at_call 49; (with_reducible refine (callA (HD1.out _)).mono ?_); rintro e w5 ⟨rfl, hb5, y5, b0, b1, b2, b3, g0, g1, g2, g3⟩)
              | (go_at_call 49; refine (HD1.out _).mono ?_; rintro e w5 ⟨rfl, hb5⟩))
          all_goals
            go_wp2_with fail
            go_meet
            first
              | exact ⟨w5.heap.size, rfl, rfl, (bthen K0 (Nat.le_refl _) hb5).size, Lib.hid (World.alloc_heap_new _ _), S_alloc (bthen K0 (Nat.le_refl _) hb5) (Nat.le_refl _)⟩
              | exact ⟨wr.heap.size, rfl, rfl, Nat.le_refl _, Lib.hid (set4 _ _ _ _ y5), bset (bset (bset (bset (bthen KA (Nat.le_refl _) hb5) (Nat.le_refl _)) (Nat.le_refl _)) (Nat.le_refl _)) (Nat.le_refl _)⟩
        case rest =>
          obtain ⟨G, rfl, rfl, hG, XG, hb9⟩ := hcut
          clear a0 a1 a2 a3 f0 f1 f2 f3 d0 d1 d2 d3 d4 d5 d6 d7 d8 d9 d10 d11 d12 c0 c1 c2 c3 HD1
          go_upto_region 11 with fail
          have YG : Hid (RRun4 (wc.alloc (Obj.cells #[.int .u8 0, .int .i64 0, .int .i64 0, .bool false] 86)) wc.heap.size 0 0 0 false) := Lib.hid (World.alloc_heap_new _ _)
          have hbd : Below wc.heap.size wc (wc.alloc (Obj.cells #[.int .u8 0, .int .i64 0, .int .i64 0, .bool false] 86)) := (Below.refl _ wc).alloc (Nat.le_refl _) _
          have hb9d := bthen hb9 (Nat.le_refl _) hbd
          have XGd := Lib.hid (XG.out.keep hbd)
          have hGy : wr.heap.size ≤ wc.heap.size := hb9.size
          have hGG : G ≠ wc.heap.size := by have := XG.out.lt; omega
          generalize wc.alloc (Obj.cells #[.int .u8 0, .int .i64 0, .int .i64 0, .bool false] 86) = wd at *
          generalize wc.heap.size = Gy at *
          clear hbd XG hb9
          obtain ⟨_, a0, a1, a2, a3, d0, d1, d2, d3, d4, d5, d6, d7, d8, d9, d10, d11, d12, c0, c1, c2, c3⟩ := HS.out _ hb9d
          have XWd : Hid (RRun4 wd Bw p t u b) := Lib.hid (keepH XW.out hb9d)
          obtain ⟨w0, w1', w2', w3', _, _, _, _⟩ := cells4h XWd.out
          have HSW : Hid (∀ W', Below wr.heap.size wr W' → RRun4 W' Bw p t u b) := Lib.hid (fun W' h => keepH XW.out h)
          have HS2 : Hid (∀ W', Grp wr G Gy q1 q2 q3 q4 W' → (Grp wr G Gy q1 q2 q3 q4 W' ∧ W'.cell? ⟨Bw, 0, none⟩ = some (.int .u8 p) ∧ W'.cell? ⟨Bw, 1, none⟩ = some (.int .i64 t) ∧ W'.cell? ⟨Bw, 2, none⟩ = some (.int .i64 u) ∧ W'.cell? ⟨Bw, 3, none⟩ = some (.bool b) ∧
            W'.cell? ⟨w.heap.size, 0, none⟩ = some (.string s0) ∧ W'.cell? ⟨w.heap.size, 1, none⟩ = some (.string s1) ∧ W'.cell? ⟨w.heap.size, 2, none⟩ = some (.string s2) ∧ W'.cell? ⟨w.heap.size, 3, none⟩ = some (.slice af an ac) ∧ W'.cell? ⟨w.heap.size, 4, none⟩ = some (.int .i64 m) ∧ W'.cell? ⟨w.heap.size, 5, none⟩ = some (.int .i64 f) ∧ W'.cell? ⟨w.heap.size, 6, none⟩ = some (.int .i64 k) ∧ W'.cell? ⟨w.heap.size, 7, none⟩ = some (.int .i64 l) ∧ W'.cell? ⟨w.heap.size, 8, none⟩ = some (.int .u8 nk) ∧ W'.cell? ⟨w.heap.size, 9, none⟩ = some (.string nt) ∧ W'.cell? ⟨w.heap.size, 10, none⟩ = some (.slice ka kn kc) ∧ W'.cell? ⟨w.heap.size, 11, none⟩ = some (.slice da dn dc) ∧ W'.cell? ⟨w.heap.size, 12, none⟩ = some (.int .i64 nl) ∧
            W'.cell? ⟨g, off + k' * 4, none⟩ = some (.int .u8 kd) ∧ W'.cell? ⟨g, off + k' * 4 + 1, none⟩ = some (.int .u8 oo) ∧ W'.cell? ⟨g, off + k' * 4 + 2, none⟩ = some (.int .i64 nn) ∧ W'.cell? ⟨g, off + k' * 4 + 3, none⟩ = some (.int .i64 tt) ∧
            W'.cell? ⟨Gy, 0, none⟩ = some (valAt W' ⟨Gy, 0, none⟩) ∧ W'.cell? ⟨Gy, 1, none⟩ = some (valAt W' ⟨Gy, 1, none⟩) ∧ W'.cell? ⟨Gy, 2, none⟩ = some (valAt W' ⟨Gy, 2, none⟩) ∧ W'.cell? ⟨Gy, 3, none⟩ = some (valAt W' ⟨Gy, 3, none⟩) ∧ W'.frozen? ⟨Gy, 0, none⟩ = false ∧ W'.frozen? ⟨Gy, 1, none⟩ = false ∧ W'.frozen? ⟨Gy, 2, none⟩ = false ∧ W'.frozen? ⟨Gy, 3, none⟩ = false)) := Lib.hid (fun W' h => by
            obtain ⟨h0, hx, x0, x1, x2, x3, hy⟩ := id h
            obtain ⟨_, _, _, _, _, r0, r1, r2, r3, r4, r5, r6, r7, r8, r9, r10, r11, r12, r13, r14, r15, r16⟩ := HS.out W' h0
            obtain ⟨b0, b1, b2, b3, _⟩ := cells4h (HSW.out W' h0)
            obtain ⟨y0, y1, y2, y3, g0, g1, g2, g3⟩ := cells4h hy
            exact ⟨h, b0, b1, b2, b3, r0, r1, r2, r3, r4, r5, r6, r7, r8, r9, r10, r11, r12, r13, r14, r15, r16, valAt_of y0, valAt_of y1, valAt_of y2, valAt_of y3, g0, g1, g2, g3⟩)
          have KG0 : Grp wr G Gy q1 q2 q3 q4 wd.drew := ⟨hb9d.drew, XGd.out, _, _, _, _, YG.out⟩
          go_upto_block 2 with fail
          go_cut [12] (fun s wx => s = .bool q5 ∧ Hid (RRun4 wx Gy q1 q2 q3 q4) ∧ Hid (Run4 wx G q1 q2 q3 q4) ∧ Below wr.heap.size wr wx)
          case first =>
            by_cases hk0' : kd = 0
            · have hkd : (kd == 0) = true := by simpa using hk0'
              have HC := Lib.hid (HRA.out p t u b oo nn tt ho0)
              have e := HXE.out
              unfold doT at e
              rw [if_pos hk0'] at e
              rw [e] at HC
              unfold tupR runT runV at HC
              dsimp only at HC
              clear e hk0'
              go_wp2_with fail
              first | go_region_held3 (fun W' => Grp wr G Gy q1 q2 q3 q4 W' ∧ W'.cell? ⟨Bw, 0, none⟩ = some (.int .u8 p) ∧ W'.cell? ⟨Bw, 1, none⟩ = some (.int .i64 t) ∧ W'.cell? ⟨Bw, 2, none⟩ = some (.int .i64 u) ∧ W'.cell? ⟨Bw, 3, none⟩ = some (.bool b) ∧
            W'.cell? ⟨w.heap.size, 0, none⟩ = some (.string s0) ∧ W'.cell? ⟨w.heap.size, 1, none⟩ = some (.string s1) ∧ W'.cell? ⟨w.heap.size, 2, none⟩ = some (.string s2) ∧ W'.cell? ⟨w.heap.size, 3, none⟩ = some (.slice af an ac) ∧ W'.cell? ⟨w.heap.size, 4, none⟩ = some (.int .i64 m) ∧ W'.cell? ⟨w.heap.size, 5, none⟩ = some (.int .i64 f) ∧ W'.cell? ⟨w.heap.size, 6, none⟩ = some (.int .i64 k) ∧ W'.cell? ⟨w.heap.size, 7, none⟩ = some (.int .i64 l) ∧ W'.cell? ⟨w.heap.size, 8, none⟩ = some (.int .u8 nk) ∧ W'.cell? ⟨w.heap.size, 9, none⟩ = some (.string nt) ∧ W'.cell? ⟨w.heap.size, 10, none⟩ = some (.slice ka kn kc) ∧ W'.cell? ⟨w.heap.size, 11, none⟩ = some (.slice da dn dc) ∧ W'.cell? ⟨w.heap.size, 12, none⟩ = some (.int .i64 nl) ∧
            W'.cell? ⟨g, off + k' * 4, none⟩ = some (.int .u8 kd) ∧ W'.cell? ⟨g, off + k' * 4 + 1, none⟩ = some (.int .u8 oo) ∧ W'.cell? ⟨g, off + k' * 4 + 2, none⟩ = some (.int .i64 nn) ∧ W'.cell? ⟨g, off + k' * 4 + 3, none⟩ = some (.int .i64 tt) ∧
            W'.cell? ⟨Gy, 0, none⟩ = some (valAt W' ⟨Gy, 0, none⟩) ∧ W'.cell? ⟨Gy, 1, none⟩ = some (valAt W' ⟨Gy, 1, none⟩) ∧ W'.cell? ⟨Gy, 2, none⟩ = some (valAt W' ⟨Gy, 2, none⟩) ∧ W'.cell? ⟨Gy, 3, none⟩ = some (valAt W' ⟨Gy, 3, none⟩) ∧ W'.frozen? ⟨Gy, 0, none⟩ = false ∧ W'.frozen? ⟨Gy, 1, none⟩ = false ∧ W'.frozen? ⟨Gy, 2, none⟩ = false ∧ W'.frozen? ⟨Gy, 3, none⟩ = false)
                (first | assumption | exact HS2.out _ KG0 | exact HS2.out _ (KG0.keep hb4) | exact HS2.out _ ((KG0.keep hb4).set hGy hGG).1) (first
                  | (go_at_call 50; refine (HC.out _).mono ?_; rintro e w4 ⟨rfl, hb4⟩)) | fail
              all_goals
                go_wp2_with fail
                go_meet
                have hf := (KG0.keep hb4).set (x := .int .u8 q1) (y := .int .i64 q2) (z := .int .i64 q3) (v := .bool q4) hGy hGG
                exact ⟨by rfl, Lib.hid hf.2, Lib.hid hf.1.2.1, hf.1.1⟩
            · by_cases hk1' : kd = 1
              · have hkd0 : (kd == 0) = false := by simpa using hk0'
                have hkd : (kd == 1) = true := by simpa using hk1'
                have HC := Lib.hid (HRT.out p t u b nn)
                have e := HXE.out
                unfold doT at e
                rw [if_neg hk0', if_pos hk1'] at e
                rw [e] at HC
                unfold tupR runT runV at HC
                dsimp only at HC
                clear e hk0' hk1'
                go_wp2_with fail
                first | go_region_held3 (fun W' => Grp wr G Gy q1 q2 q3 q4 W' ∧ W'.cell? ⟨Bw, 0, none⟩ = some (.int .u8 p) ∧ W'.cell? ⟨Bw, 1, none⟩ = some (.int .i64 t) ∧ W'.cell? ⟨Bw, 2, none⟩ = some (.int .i64 u) ∧ W'.cell? ⟨Bw, 3, none⟩ = some (.bool b) ∧
              W'.cell? ⟨w.heap.size, 0, none⟩ = some (.string s0) ∧ W'.cell? ⟨w.heap.size, 1, none⟩ = some (.string s1) ∧ W'.cell? ⟨w.heap.size, 2, none⟩ = some (.string s2) ∧ W'.cell? ⟨w.heap.size, 3, none⟩ = some (.slice af an ac) ∧ W'.cell? ⟨w.heap.size, 4, none⟩ = some (.int .i64 m) ∧ W'.cell? ⟨w.heap.size, 5, none⟩ = some (.int .i64 f) ∧ W'.cell? ⟨w.heap.size, 6, none⟩ = some (.int .i64 k) ∧ W'.cell? ⟨w.heap.size, 7, none⟩ = some (.int .i64 l) ∧ W'.cell? ⟨w.heap.size, 8, none⟩ = some (.int .u8 nk) ∧ W'.cell? ⟨w.heap.size, 9, none⟩ = some (.string nt) ∧ W'.cell? ⟨w.heap.size, 10, none⟩ = some (.slice ka kn kc) ∧ W'.cell? ⟨w.heap.size, 11, none⟩ = some (.slice da dn dc) ∧ W'.cell? ⟨w.heap.size, 12, none⟩ = some (.int .i64 nl) ∧
              W'.cell? ⟨g, off + k' * 4, none⟩ = some (.int .u8 kd) ∧ W'.cell? ⟨g, off + k' * 4 + 1, none⟩ = some (.int .u8 oo) ∧ W'.cell? ⟨g, off + k' * 4 + 2, none⟩ = some (.int .i64 nn) ∧ W'.cell? ⟨g, off + k' * 4 + 3, none⟩ = some (.int .i64 tt) ∧
              W'.cell? ⟨Gy, 0, none⟩ = some (valAt W' ⟨Gy, 0, none⟩) ∧ W'.cell? ⟨Gy, 1, none⟩ = some (valAt W' ⟨Gy, 1, none⟩) ∧ W'.cell? ⟨Gy, 2, none⟩ = some (valAt W' ⟨Gy, 2, none⟩) ∧ W'.cell? ⟨Gy, 3, none⟩ = some (valAt W' ⟨Gy, 3, none⟩) ∧ W'.frozen? ⟨Gy, 0, none⟩ = false ∧ W'.frozen? ⟨Gy, 1, none⟩ = false ∧ W'.frozen? ⟨Gy, 2, none⟩ = false ∧ W'.frozen? ⟨Gy, 3, none⟩ = false)
                  (first | assumption | exact HS2.out _ KG0 | exact HS2.out _ (KG0.keep hb4) | exact HS2.out _ ((KG0.keep hb4).set hGy hGG).1) (first
                    | (go_at_call 51; refine (HC.out _).mono ?_; rintro e w4 ⟨rfl, hb4⟩)) | fail
                all_goals
                  go_wp2_with fail
                  go_meet
                  have hf := (KG0.keep hb4).set (x := .int .u8 q1) (y := .int .i64 q2) (z := .int .i64 q3) (v := .bool q4) hGy hGG
                  exact ⟨by rfl, Lib.hid hf.2, Lib.hid hf.1.2.1, hf.1.1⟩
              · have hkd0 : (kd == 0) = false := by simpa using hk0'
                have hkd1 : (kd == 1) = false := by simpa using hk1'
                by_cases hk2' : kd = 2
                · have hkd : (kd == 2) = true := by simpa using hk2'
                  have HC := Lib.hid (rStop_any p t u b wd)
                  have e := HXE.out
                  unfold doT at e
                  rw [if_neg hk0', if_neg hk1', if_pos hk2'] at e
                  simp only [Prod.mk.injEq] at e
                  obtain ⟨e1, e5⟩ := e
                  rw [e1] at HC
                  unfold runT runV at HC
                  dsimp only at HC
                  have E5 := Lib.hid e5
                  have KGd : Grp wr G Gy q1 q2 q3 q4 wd := ⟨hb9d, XGd.out, _, _, _, _, YG.out⟩
                  clear e1 e5 hk0' hk1' hk2'
                  go_wp2_with fail
                  refine HC.out.mono ?_
                  rintro e w4 ⟨rfl, hb4⟩
                  obtain ⟨_, _, x0, x1, x2, x3, hy⟩ := KGd.keep hb4
                  obtain ⟨y0, y1, y2, y3, g0, g1, g2, g3⟩ := cells4h hy
                  clear hy
                  go_wp2_with fail
                  go_meet
                  have hf := (KGd.keep hb4).set (x := .int .u8 q1) (y := .int .i64 q2) (z := .int .i64 q3) (v := .bool q4) hGy hGG
                  exact ⟨by rw [← E5.out], Lib.hid hf.2, Lib.hid hf.1.2.1, hf.1.1⟩
                · have hkd2 : (kd == 2) = false := by simpa using hk2'
                  have HC := Lib.hid (HRB.out nn)
                  have e := HXE.out
                  unfold doT at e
                  rw [if_neg hk0', if_neg hk1', if_neg hk2'] at e
                  simp only [Prod.mk.injEq] at e
                  obtain ⟨⟨e1, e2, e3, e4⟩, e5⟩ := e
                  rw [e1, e2, e3, e4] at HC
                  unfold runV at HC
                  have E5 := Lib.hid e5
                  clear e1 e2 e3 e4 e5 hk0' hk1' hk2'
                  go_wp2_with fail
                  first | go_region_held3 (fun W' => Grp wr G Gy q1 q2 q3 q4 W' ∧ W'.cell? ⟨Bw, 0, none⟩ = some (.int .u8 p) ∧ W'.cell? ⟨Bw, 1, none⟩ = some (.int .i64 t) ∧ W'.cell? ⟨Bw, 2, none⟩ = some (.int .i64 u) ∧ W'.cell? ⟨Bw, 3, none⟩ = some (.bool b) ∧
                W'.cell? ⟨w.heap.size, 0, none⟩ = some (.string s0) ∧ W'.cell? ⟨w.heap.size, 1, none⟩ = some (.string s1) ∧ W'.cell? ⟨w.heap.size, 2, none⟩ = some (.string s2) ∧ W'.cell? ⟨w.heap.size, 3, none⟩ = some (.slice af an ac) ∧ W'.cell? ⟨w.heap.size, 4, none⟩ = some (.int .i64 m) ∧ W'.cell? ⟨w.heap.size, 5, none⟩ = some (.int .i64 f) ∧ W'.cell? ⟨w.heap.size, 6, none⟩ = some (.int .i64 k) ∧ W'.cell? ⟨w.heap.size, 7, none⟩ = some (.int .i64 l) ∧ W'.cell? ⟨w.heap.size, 8, none⟩ = some (.int .u8 nk) ∧ W'.cell? ⟨w.heap.size, 9, none⟩ = some (.string nt) ∧ W'.cell? ⟨w.heap.size, 10, none⟩ = some (.slice ka kn kc) ∧ W'.cell? ⟨w.heap.size, 11, none⟩ = some (.slice da dn dc) ∧ W'.cell? ⟨w.heap.size, 12, none⟩ = some (.int .i64 nl) ∧
                W'.cell? ⟨g, off + k' * 4, none⟩ = some (.int .u8 kd) ∧ W'.cell? ⟨g, off + k' * 4 + 1, none⟩ = some (.int .u8 oo) ∧ W'.cell? ⟨g, off + k' * 4 + 2, none⟩ = some (.int .i64 nn) ∧ W'.cell? ⟨g, off + k' * 4 + 3, none⟩ = some (.int .i64 tt) ∧
                W'.cell? ⟨Gy, 0, none⟩ = some (valAt W' ⟨Gy, 0, none⟩) ∧ W'.cell? ⟨Gy, 1, none⟩ = some (valAt W' ⟨Gy, 1, none⟩) ∧ W'.cell? ⟨Gy, 2, none⟩ = some (valAt W' ⟨Gy, 2, none⟩) ∧ W'.cell? ⟨Gy, 3, none⟩ = some (valAt W' ⟨Gy, 3, none⟩) ∧ W'.frozen? ⟨Gy, 0, none⟩ = false ∧ W'.frozen? ⟨Gy, 1, none⟩ = false ∧ W'.frozen? ⟨Gy, 2, none⟩ = false ∧ W'.frozen? ⟨Gy, 3, none⟩ = false)
                    (first | assumption | exact HS2.out _ KG0 | exact HS2.out _ (KG0.keep hb4) | exact HS2.out _ ((KG0.keep hb4).set hGy hGG).1) (first
                      | (go_at_call 53; refine (HC.out _).mono ?_; rintro e w4 ⟨rfl, hb4⟩)) | fail
                  all_goals
                    go_wp2_with fail
                    go_meet
                    have hf := (KG0.keep hb4).set (x := .int .u8 q1) (y := .int .i64 q2) (z := .int .i64 q3) (v := .bool q4) hGy hGG
                    exact ⟨by rw [← E5.out], Lib.hid hf.2, Lib.hid hf.1.2.1, hf.1.1⟩
          case rest =>
            obtain ⟨rfl, HY, HX, hbE⟩ := hcut
            clear a0 a1 a2 a3 d0 d1 d2 d3 d4 d5 d6 d7 d8 d9 d10 d11 d12 c0 c1 c2 c3 w0 w1' w2' w3' HSW HS2 KG0 hb9d XGd YG HXE HD HRA HRT HRB
            rename World => wE
            have HSE : Hid (∀ W', Below wE.heap.size wE W' → (Below wE.heap.size wE W' ∧ W'.cell? ⟨G, 0, none⟩ = some (.int .u8 q1) ∧ W'.cell? ⟨G, 1, none⟩ = some (.int .i64 q2) ∧ W'.cell? ⟨G, 2, none⟩ = some (.int .i64 q3) ∧ W'.cell? ⟨G, 3, none⟩ = some (.bool q4) ∧ W'.cell? ⟨Gy, 0, none⟩ = some (.int .u8 q1) ∧ W'.cell? ⟨Gy, 1, none⟩ = some (.int .i64 q2) ∧ W'.cell? ⟨Gy, 2, none⟩ = some (.int .i64 q3) ∧ W'.cell? ⟨Gy, 3, none⟩ = some (.bool q4) ∧ W'.cell? ⟨g, off + k' * 4 + 2, none⟩ = some (.int .i64 nn))) := Lib.hid (fun W' h => by
              obtain ⟨x0, x1, x2, x3, _⟩ := cells4h (HX.out.keep h)
              obtain ⟨y0, y1, y2, y3, _⟩ := cells4h (keepH HY.out h)
              obtain ⟨_, _, _, _, _, _, _, _, _, _, _, _, _, _, _, _, _, _, _, _, c2, _⟩ := HS.out W' (bthen hbE (Nat.le_refl _) h)
              exact ⟨h, x0, x1, x2, x3, y0, y1, y2, y3, c2⟩)
            have HST := Lib.hid (fun w => Settled_any q1 q2 q3 q4 w)
            unfold runV at HST
            have HSV : Hid (settledB q1 = ((q1 == 3) || (q1 == 4))) := Lib.hid (by unfold settledB; rw [Bool.eq_iff_iff]; simp)
            have HN := Lib.hid (fun w => Now_any nn w)
            have HRN := Lib.hid (fun w => rNow_any nn w)
            rw [HSV.out] at HST
            generalize nowI nn = N at *
            go_upto_region 20 with fail
            go_cut [122] (fun s wx => s = .bool false ∧ Below wE.heap.size wE wx)
            case first =>
              by_cases hq3 : q1 = 3
              · subst hq3
                have e3 : ((3 : Int) == 3) = true := by decide
                rw [e3, Bool.true_or] at HST
                refine held_region (S := (fun W' => Below wE.heap.size wE W' ∧ W'.cell? ⟨G, 0, none⟩ = some (.int .u8 3) ∧ W'.cell? ⟨G, 1, none⟩ = some (.int .i64 q2) ∧ W'.cell? ⟨G, 2, none⟩ = some (.int .i64 q3) ∧ W'.cell? ⟨G, 3, none⟩ = some (.bool q4) ∧ W'.cell? ⟨Gy, 0, none⟩ = some (.int .u8 3) ∧ W'.cell? ⟨Gy, 1, none⟩ = some (.int .i64 q2) ∧ W'.cell? ⟨Gy, 2, none⟩ = some (.int .i64 q3) ∧ W'.cell? ⟨Gy, 3, none⟩ = some (.bool q4) ∧ W'.cell? ⟨g, off + k' * 4 + 2, none⟩ = some (.int .i64 nn))) (by kernel_rfl) (HSE.out _ (Below.refl _ _).drew) (fun _ _ _ _ _ h => h) (fun Q' hQ hK' hHeld => ?_)
                refine held_take hQ hHeld 0 (v := ?vv1) rfl rfl (by kernel_rfl) (by kernel_rfl) (by kernel_rfl) (by rfl) ?hy1 ?rest1
                case hy1 => (intro w hSw; (try dsimp only at hSw); go_simp; (try with_reducible rfl))
                (try simp only [Act.put, List.setIfInBounds_toArray, List.set_cons_zero, List.set_cons_succ])
                refine held_take hQ hHeld 1 (v := ?vv2) rfl rfl (by kernel_rfl) (by kernel_rfl) (by kernel_rfl) (by rfl) ?hy2 ?rest2
                case hy2 => (intro w hSw; (try dsimp only at hSw); go_simp; (try with_reducible rfl))
                (try simp only [Act.put, List.setIfInBounds_toArray, List.set_cons_zero, List.set_cons_succ])
                refine held_take hQ hHeld 2 (v := ?vv3) rfl rfl (by kernel_rfl) (by kernel_rfl) (by kernel_rfl) (by rfl) ?hy3 ?rest3
                case hy3 => (intro w hSw; (try dsimp only at hSw); go_simp; (try with_reducible rfl))
                (try simp only [Act.put, List.setIfInBounds_toArray, List.set_cons_zero, List.set_cons_succ])
                refine held_take hQ hHeld 3 (v := ?vv4) rfl rfl (by kernel_rfl) (by kernel_rfl) (by kernel_rfl) (by rfl) ?hy4 ?rest4
                case hy4 => (intro w hSw; (try dsimp only at hSw); go_simp; (try with_reducible rfl))
                (try simp only [Act.put, List.setIfInBounds_toArray, List.set_cons_zero, List.set_cons_succ])
                refine held_take hQ hHeld 4 (v := ?vv5) rfl rfl (by kernel_rfl) (by kernel_rfl) (by kernel_rfl) (by rfl) ?hy5 ?rest5
                case hy5 => (intro w hSw; (try dsimp only at hSw); go_simp; (try with_reducible rfl))
                (try simp only [Act.put, List.setIfInBounds_toArray, List.set_cons_zero, List.set_cons_succ])
                refine held_take hQ hHeld 5 (v := ?vv6) rfl rfl (by kernel_rfl) (by kernel_rfl) (by kernel_rfl) (by rfl) ?hy6 ?rest6
                case hy6 => (intro w hSw; (try dsimp only at hSw); go_simp; (try with_reducible rfl))
                (try simp only [Act.put, List.setIfInBounds_toArray, List.set_cons_zero, List.set_cons_succ])
                refine held_take hQ hHeld 6 (v := ?vv7) rfl rfl (by kernel_rfl) (by kernel_rfl) (by kernel_rfl) (by rfl) ?hy7 ?rest7
                case hy7 => (intro w hSw; (try dsimp only at hSw); go_simp; (try with_reducible rfl))
                (try simp only [Act.put, List.setIfInBounds_toArray, List.set_cons_zero, List.set_cons_succ])
                refine held_take hQ hHeld 7 (v := ?vv8) rfl rfl (by kernel_rfl) (by kernel_rfl) (by kernel_rfl) (by rfl) ?hy8 ?rest8
                case hy8 => (intro w hSw; (try dsimp only at hSw); go_simp; (try with_reducible rfl))
                (try simp only [Act.put, List.setIfInBounds_toArray, List.set_cons_zero, List.set_cons_succ])
                refine held_take hQ hHeld 8 (v := ?vv9) rfl rfl (by kernel_rfl) (by kernel_rfl) (by kernel_rfl) (by rfl) ?hy9 ?rest9
                case hy9 => (intro w hSw; (try dsimp only at hSw); go_simp; (try with_reducible rfl))
                (try simp only [Act.put, List.setIfInBounds_toArray, List.set_cons_zero, List.set_cons_succ])
                refine held_take hQ hHeld 9 (v := ?vv10) rfl rfl (by kernel_rfl) (by kernel_rfl) (by kernel_rfl) (by rfl) ?hy10 ?rest10
                case hy10 => (intro w hSw; (try dsimp only at hSw); go_simp; (try with_reducible rfl))
                (try simp only [Act.put, List.setIfInBounds_toArray, List.set_cons_zero, List.set_cons_succ])
                refine held_take hQ hHeld 11 (v := ?vv11) rfl rfl (by kernel_rfl) (by kernel_rfl) (by kernel_rfl) (by rfl) ?hy11 ?rest11
                case hy11 => (intro w hSw; (try dsimp only at hSw); go_simp; (try with_reducible rfl))
                (try simp only [Act.put, List.setIfInBounds_toArray, List.set_cons_zero, List.set_cons_succ])
                refine held_take hQ hHeld 12 (v := ?vv12) rfl rfl (by kernel_rfl) (by kernel_rfl) (by kernel_rfl) (by rfl) ?hy12 ?rest12
                case hy12 => (intro w hSw; (try dsimp only at hSw); go_simp; (try with_reducible rfl))
                (try simp only [Act.put, List.setIfInBounds_toArray, List.set_cons_zero, List.set_cons_succ])
                refine held_take hQ hHeld 13 (v := ?vv13) rfl rfl (by kernel_rfl) (by kernel_rfl) (by kernel_rfl) (by rfl) ?hy13 ?rest13
                case hy13 => (intro w hSw; (try dsimp only at hSw); go_simp; (try with_reducible rfl))
                (try simp only [Act.put, List.setIfInBounds_toArray, List.set_cons_zero, List.set_cons_succ])
                refine wpAnyH_ready (rs := [10]) (by kernel_rfl) (by simp) ?_
                refine AllReadyH.cons rfl (fun K hK => ?_) AllReadyH.nil
                go_simp
                (go_at_call 54; refine (HST.out _).mono ?_; rintro e w5 ⟨rfl, hb5⟩)
                (try simp only [Act.put, List.setIfInBounds_toArray, List.set_cons_zero, List.set_cons_succ])
                refine hK.out _ _ (HSE.out _ (bthen (Below.refl wE.heap.size wE).drew (Nat.le_refl _) hb5)) (fun hHeld => ?_)
                clear hK
                (try simp only [Act.put, List.setIfInBounds_toArray, List.set_cons_zero, List.set_cons_succ])
                refine held_take hQ hHeld 14 (v := ?vv14) rfl rfl (by kernel_rfl) (by kernel_rfl) (by kernel_rfl) (by rfl) ?hy14 ?rest14
                case hy14 => (intro w hSw; (try dsimp only at hSw); go_simp; (try with_reducible rfl))
                (try simp only [Act.put, List.setIfInBounds_toArray, List.set_cons_zero, List.set_cons_succ])
                refine held_off hQ hHeld 15 rfl rfl (by kernel_rfl) (by kernel_rfl) (by kernel_rfl) (by rfl) ?_
                (try simp only [Act.put, List.setIfInBounds_toArray, List.set_cons_zero, List.set_cons_succ])
                refine held_off hQ hHeld 16 rfl rfl (by kernel_rfl) (by kernel_rfl) (by kernel_rfl) (by rfl) ?_
                (try simp only [Act.put, List.setIfInBounds_toArray, List.set_cons_zero, List.set_cons_succ])
                refine held_off hQ hHeld 17 rfl rfl (by kernel_rfl) (by kernel_rfl) (by kernel_rfl) (by rfl) ?_
                (try simp only [Act.put, List.setIfInBounds_toArray, List.set_cons_zero, List.set_cons_succ])
                refine held_take hQ hHeld 18 (v := ?vv15) rfl rfl (by kernel_rfl) (by kernel_rfl) (by kernel_rfl) (by rfl) ?hy15 ?rest15
                case hy15 => (intro w hSw; (try dsimp only at hSw); go_simp; (try with_reducible rfl))
                (try simp only [Act.put, List.setIfInBounds_toArray, List.set_cons_zero, List.set_cons_succ])
                refine held_take hQ hHeld 19 (v := ?vv16) rfl rfl (by kernel_rfl) (by kernel_rfl) (by kernel_rfl) (by rfl) ?hy16 ?rest16
                case hy16 => (intro w hSw; (try dsimp only at hSw); go_simp; (try with_reducible rfl))
                (try simp only [Act.put, List.setIfInBounds_toArray, List.set_cons_zero, List.set_cons_succ])
                refine held_take hQ hHeld 20 (v := ?vv17) rfl rfl (by kernel_rfl) (by kernel_rfl) (by kernel_rfl) (by rfl) ?hy17 ?rest17
                case hy17 => (intro w hSw; (try dsimp only at hSw); go_simp; (try with_reducible rfl))
                (try simp only [Act.put, List.setIfInBounds_toArray, List.set_cons_zero, List.set_cons_succ])
                refine held_take hQ hHeld 21 (v := ?vv18) rfl rfl (by kernel_rfl) (by kernel_rfl) (by kernel_rfl) (by rfl) ?hy18 ?rest18
                case hy18 => (intro w hSw; (try dsimp only at hSw); go_simp; (try with_reducible rfl))
                (try simp only [Act.put, List.setIfInBounds_toArray, List.set_cons_zero, List.set_cons_succ])
                refine held_take hQ hHeld 22 (v := ?vv19) rfl rfl (by kernel_rfl) (by kernel_rfl) (by kernel_rfl) (by rfl) ?hy19 ?rest19
                case hy19 => (intro w hSw; (try dsimp only at hSw); go_simp; (try with_reducible rfl))
                (try simp only [Act.put, List.setIfInBounds_toArray, List.set_cons_zero, List.set_cons_succ])
                refine held_take hQ hHeld 23 (v := ?vv20) rfl rfl (by kernel_rfl) (by kernel_rfl) (by kernel_rfl) (by rfl) ?hy20 ?rest20
                case hy20 => (intro w hSw; (try dsimp only at hSw); go_simp; (try with_reducible rfl))
                (try simp only [Act.put, List.setIfInBounds_toArray, List.set_cons_zero, List.set_cons_succ])
                refine held_take hQ hHeld 24 (v := ?vv21) rfl rfl (by kernel_rfl) (by kernel_rfl) (by kernel_rfl) (by rfl) ?hy21 ?rest21
                case hy21 => (intro w hSw; (try dsimp only at hSw); go_simp; (try with_reducible rfl))
                (try simp only [Act.put, List.setIfInBounds_toArray, List.set_cons_zero, List.set_cons_succ])
                refine held_take hQ hHeld 25 (v := ?vv22) rfl rfl (by kernel_rfl) (by kernel_rfl) (by kernel_rfl) (by rfl) ?hy22 ?rest22
                case hy22 => (intro w hSw; (try dsimp only at hSw); go_simp; (try with_reducible rfl))
                (try simp only [Act.put, List.setIfInBounds_toArray, List.set_cons_zero, List.set_cons_succ])
                refine held_take hQ hHeld 26 (v := ?vv23) rfl rfl (by kernel_rfl) (by kernel_rfl) (by kernel_rfl) (by rfl) ?hy23 ?rest23
                case hy23 => (intro w hSw; (try dsimp only at hSw); go_simp; (try with_reducible rfl))
                (try simp only [Act.put, List.setIfInBounds_toArray, List.set_cons_zero, List.set_cons_succ])
                refine held_take hQ hHeld 28 (v := ?vv24) rfl rfl (by kernel_rfl) (by kernel_rfl) (by kernel_rfl) (by rfl) ?hy24 ?rest24
                case hy24 => (intro w hSw; (try dsimp only at hSw); go_simp; (try with_reducible rfl))
                (try simp only [Act.put, List.setIfInBounds_toArray, List.set_cons_zero, List.set_cons_succ])
                refine held_take hQ hHeld 29 (v := ?vv25) rfl rfl (by kernel_rfl) (by kernel_rfl) (by kernel_rfl) (by rfl) ?hy25 ?rest25
                case hy25 => (intro w hSw; (try dsimp only at hSw); go_simp; (try with_reducible rfl))
                (try simp only [Act.put, List.setIfInBounds_toArray, List.set_cons_zero, List.set_cons_succ])
                refine held_take hQ hHeld 30 (v := ?vv26) rfl rfl (by kernel_rfl) (by kernel_rfl) (by kernel_rfl) (by rfl) ?hy26 ?rest26
                case hy26 => (intro w hSw; (try dsimp only at hSw); go_simp; (try with_reducible rfl))
                (try simp only [Act.put, List.setIfInBounds_toArray, List.set_cons_zero, List.set_cons_succ])
                refine held_take hQ hHeld 31 (v := ?vv27) rfl rfl (by kernel_rfl) (by kernel_rfl) (by kernel_rfl) (by rfl) ?hy27 ?rest27
                case hy27 => (intro w hSw; (try dsimp only at hSw); go_simp; (try with_reducible rfl))
                (try simp only [Act.put, List.setIfInBounds_toArray, List.set_cons_zero, List.set_cons_succ])
                refine held_take hQ hHeld 32 (v := ?vv28) rfl rfl (by kernel_rfl) (by kernel_rfl) (by kernel_rfl) (by rfl) ?hy28 ?rest28
                case hy28 => (intro w hSw; (try dsimp only at hSw); go_simp; (try with_reducible rfl))
                (try simp only [Act.put, List.setIfInBounds_toArray, List.set_cons_zero, List.set_cons_succ])
                refine wpAnyH_ready (rs := [27]) (by kernel_rfl) (by simp) ?_
                refine AllReadyH.cons rfl (fun K hK => ?_) AllReadyH.nil
                go_simp
                (go_at_call 55; refine (HN.out _).mono ?_; rintro e w6 ⟨rfl, rfl⟩)
                (try simp only [Act.put, List.setIfInBounds_toArray, List.set_cons_zero, List.set_cons_succ])
                refine hK.out _ _ hHeld (fun hHeld => ?_)
                clear hK
                (try simp only [Act.put, List.setIfInBounds_toArray, List.set_cons_zero, List.set_cons_succ])
                refine wpAnyH_ready (rs := [33]) (by kernel_rfl) (by simp) ?_
                refine AllReadyH.cons rfl (fun K hK => ?_) AllReadyH.nil
                go_simp
                (go_at_call 56; refine (HRN.out _).mono ?_; rintro e w7 ⟨rfl, rfl⟩)
                (try simp only [Act.put, List.setIfInBounds_toArray, List.set_cons_zero, List.set_cons_succ])
                refine hK.out _ _ hHeld (fun hHeld => ?_)
                clear hK
                (try simp only [Act.put, List.setIfInBounds_toArray, List.set_cons_zero, List.set_cons_succ])
                refine held_take hQ hHeld 34 (v := ?vv29) rfl rfl (by kernel_rfl) (by kernel_rfl) (by kernel_rfl) (by rfl) ?hy29 ?rest29
                case hy29 => (intro w hSw; (try dsimp only at hSw); go_simp; (try with_reducible rfl))
                (try simp only [Act.put, List.setIfInBounds_toArray, List.set_cons_zero, List.set_cons_succ])
                refine held_take hQ hHeld 35 (v := ?vv30) rfl rfl (by kernel_rfl) (by kernel_rfl) (by kernel_rfl) (by rfl) ?hy30 ?rest30
                case hy30 => (intro w hSw; (try dsimp only at hSw); go_simp; (try with_reducible rfl))
                (try simp only [Act.put, List.setIfInBounds_toArray, List.set_cons_zero, List.set_cons_succ])
                refine wpAnyH_done (by kernel_rfl) ?_ _
                refine hK'.out _ _ ?_
                go_wp2_with fail
                go_meet
                exact ⟨by first | rfl | simp, hHeld.1⟩
              · have e3 : (q1 == 3) = false := by simpa using hq3
                rw [e3, Bool.false_or] at HST
                clear hq3
                first | go_region_held3 (fun W' => Below wE.heap.size wE W' ∧ W'.cell? ⟨G, 0, none⟩ = some (.int .u8 q1) ∧ W'.cell? ⟨G, 1, none⟩ = some (.int .i64 q2) ∧ W'.cell? ⟨G, 2, none⟩ = some (.int .i64 q3) ∧ W'.cell? ⟨G, 3, none⟩ = some (.bool q4) ∧ W'.cell? ⟨Gy, 0, none⟩ = some (.int .u8 q1) ∧ W'.cell? ⟨Gy, 1, none⟩ = some (.int .i64 q2) ∧ W'.cell? ⟨Gy, 2, none⟩ = some (.int .i64 q3) ∧ W'.cell? ⟨Gy, 3, none⟩ = some (.bool q4) ∧ W'.cell? ⟨g, off + k' * 4 + 2, none⟩ = some (.int .i64 nn))
                  (first | assumption | exact HSE.out _ (Below.refl _ _).drew | exact HSE.out _ (bthen (Below.refl wE.heap.size wE).drew (Nat.le_refl _) hb5)) (first
                    | (go_at_call 54; refine (HST.out _).mono ?_; rintro e w5 ⟨rfl, hb5⟩)
                    | (go_at_call 55; refine (HN.out _).mono ?_; rintro e w6 ⟨rfl, rfl⟩)
                    | (go_at_call 56; refine (HRN.out _).mono ?_; rintro e w7 ⟨rfl, rfl⟩)) | fail
                go_wp2_with fail
                go_meet
                exact ⟨by first | rfl | simp, bthen (Below.refl wE.heap.size wE).drew (Nat.le_refl _) hb5⟩
            case rest =>
              obtain ⟨rfl, hbF⟩ := hcut
              have HXF := HX.out.keep hbF
              have HYF : RRun4 wc Gy q1 q2 q3 q4 := keepH HY.out hbF
              have hbwr := bthen hbE (Nat.le_refl _) hbF
              have HRF := XR.out.keep hbwr
              have HWF : RRun4 wc Bw p t u b := keepH XW.out hbwr
              have YSF := Lib.hid (keepH YS.out hbwr)
              have hbw2 := bthen hb (Nat.le_refl _) hbwr
              have hsr : w.heap.size + 1 < wr.heap.size := XR.out.lt
              have hsw : Bw < wr.heap.size := (Array.getElem?_eq_some_iff.1 XW.out).1
              obtain ⟨x0, x1, x2, x3, _, _, _, _⟩ := cells4h HXF
              obtain ⟨y0, y1, y2, y3, _, _, _, _⟩ := cells4h HYF
              obtain ⟨a0, a1, a2, a3, f0, f1, f2, f3⟩ := cells4h HRF
              obtain ⟨b0', b1', b2', b3', g0, g1, g2, g3⟩ := cells4h HWF
              have HRF := Lib.hid HRF
              have HWF := Lib.hid HWF
              clear HXF HYF HX HY HSE HST HSV HN HRN HS
              have n1 : Gy ≠ w.heap.size + 1 := by omega
              have n2 : w.heap.size + 1 ≠ Gy := by omega
              have n3 : Bw ≠ w.heap.size + 1 := by omega
              have n4 : w.heap.size + 1 ≠ Bw := by omega
              have n5 : Gy ≠ Bw := by omega
              have n6 : G ≠ w.heap.size + 1 := by omega
              have hz := finZ (q1 := q1) (q2 := q2) (q3 := q3) (q4 := q4) HRF.out HWF.out YSF.out n4 (by omega) (by omega) hbw2 (by omega) (by omega)
              have HZ := Lib.hid hz
              clear hz
              go_wp2_with fail
              go_region
              all_goals
                go_wp2
                go_roundw
                case rel => exact ⟨k' + 1, q1, q2, q3, q4, by omega, by go_num, Lib.hid HZ.out.1, Lib.hid HZ.out.2.1, Lib.hid HZ.out.2.2.1, HZ.out.2.2.2⟩
                case measure => simp [intOf]; omega
      · have hkl : k' = l'.length := by omega
        subst hkl
        go_wp2
        go_ret
        exact ⟨rfl, hb⟩
end
theorem StepPlays_any (s0 s1 s2 : ByteArray) (af : Option Addr) (an ac : Nat) (m f k l : Int) (nk : Int) (nt : ByteArray) (ka : Option Addr) (kn kc : Nat) (da : Option Addr) (dn dc : Nat) (nl : Int) (p0 t0 u0 : Int) (b0 : Bool) (l' : List (Int × Int × Int × Int)) (v : Value) (w : World) (hol : ∀ a ∈ l', 0 ≤ a.2.1) (hr : RdS w v 4 l'.length (asC l')) :
    Calls Try.prog 10 #[stepV s0 s1 s2 af an ac m f k l nk nt ka kn kc da dn dc nl, runV p0 t0 u0 b0, v] w fun e w' => e = .returned (.bool true) ∧ Below w.heap.size w w' := StepPlays_walk l' hol v p0 t0 u0 b0 w hr
end Go.Proofs.Ytigeedaihbpjiaa
