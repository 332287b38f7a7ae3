/-
  StepEnds: the law's walk.
-/
import Derived.Test.YtlpcagkknfajeaaZh
import Derived.Test.YtlpcagkknfajeaaZd
import Derived.Test.YtlpcagkknfajeaaPe
import Derived.Test.YtlpcagkknfajeaaOp
namespace Go.Proofs.Ytlpcagkknfajeaa
open Go.RowKit
attribute [local go_sem ↓] Go.wp_at_zero Go.wp_at_succ

theorem callK {P : Program} {fn : FuncId} {args : Array Value} {W : World} {r : Value} {g : Nat} {p t u : Int} {b : Bool} (y : Run4 W g p t u b) (h : Calls P fn args W fun e w' => e = .returned r ∧ Below W.heap.size W w') :
    Calls P fn args W fun e w' => e = .returned r ∧ Below W.heap.size W w' ∧ Run4 w' g p t u b ∧ w'.cell? ⟨g, 0, none⟩ = some (.int .u8 p) ∧ w'.cell? ⟨g, 1, none⟩ = some (.int .i64 t) ∧ w'.cell? ⟨g, 2, none⟩ = some (.int .i64 u) ∧ w'.cell? ⟨g, 3, none⟩ = some (.bool b) ∧ w'.frozen? ⟨g, 0, none⟩ = false ∧ w'.frozen? ⟨g, 1, none⟩ = false ∧ w'.frozen? ⟨g, 2, none⟩ = false ∧ w'.frozen? ⟨g, 3, none⟩ = false :=
  h.mono fun _ _ ⟨h1, h2⟩ => ⟨h1, h2, y.keep h2, cells4h (y.keep h2)⟩

section
variable {s0 s1 s2 : ByteArray} {af : Option Addr} {an ac : Nat} {m f k l : Int} {nk : Int} {nt : ByteArray} {ka : Option Addr} {kn kc : Nat} {da : Option Addr} {dn dc : Nat} {nl : Int}
set_option maxRecDepth 100000 in
set_option maxHeartbeats 8000000 in
theorem StepEnds_walk (now : Int) (l' : List Nat) (v : Value) (w : World) (hr : RdS w v 1 l'.length (u8s l')) :
    Calls Try.prog 3 #[stepV s0 s1 s2 af an ac m f k l nk nt ka kn kc da dn dc nl, .int .i64 now, v] w fun e w' => e = .returned (.bool true) ∧ Below w.heap.size w w' := by
  have HR := Lib.hid hr
  have hrl : l'.length ≤ 9223372036854775807 := by obtain ⟨_, a, c, _, h1, h2, _⟩ := hr; unfold maxLen at h2; omega
  obtain ⟨a, cap, rfl⟩ := hr.form
  clear hr
  have HSP := Lib.hid (fun w => Span_any s0 s1 s2 af an ac m f k l nk nt ka kn kc da dn dc nl w)
  have HB := Lib.hid (fun w => Begin_any (s0 := s0) (s1 := s1) (s2 := s2) (af := af) (an := an) (ac := ac) (m := m) (f := f) (k := k) (l := l) (nk := nk) (nt := nt) (ka := ka) (kn := kn) (kc := kc) (da := da) (dn := dn) (dc := dc) (nl := nl) now w)
  have HA := Lib.hid (fun p t u b nw o w => Answer_any (s0 := s0) (s1 := s1) (s2 := s2) (af := af) (an := an) (ac := ac) (m := m) (f := f) (k := k) (l := l) (nk := nk) (nt := nt) (ka := ka) (kn := kn) (kc := kc) (da := da) (dn := dn) (dc := dc) (nl := nl) p t u b nw t o w)
  have HT := Lib.hid (fun p t u b nw w => Tick_any (s0 := s0) (s1 := s1) (s2 := s2) (af := af) (an := an) (ac := ac) (m := m) (f := f) (k := k) (l := l) (nk := nk) (nt := nt) (ka := ka) (kn := kn) (kc := kc) (da := da) (dn := dn) (dc := dc) (nl := nl) p t u b nw w)
  have hsr : 0 ≤ spanI m f k l := by
    have h1 := lim_mul l m
    have h2 := bSum_range f k (wN m)
    unfold spanI; omega
  unfold runV stepV at HB
  unfold stepV at HA HT HSP
  unfold stepV
  go_enter Try.func3, Try.ntmps3
  go_wp2_with fail
  refine (live31_any _).mono ?_
  rintro e w1 ⟨rfl, hb1⟩
  have Y2 := Lib.hid (keepH (World.alloc_heap_new w (.cells #[.string s0, .string s1, .string s2, .slice af an ac, .int .i64 m, .int .i64 f, .int .i64 k, .int .i64 l, .int .u8 nk, .string nt, .slice ka kn kc, .slice da dn dc, .int .i64 nl] 29)) hb1)
  have hbw : Below w.heap.size w w1 := ((Below.refl _ w).alloc (Nat.le_refl _) _).trans (hb1.mono (by simp))
  have hsz : w.heap.size + 1 ≤ w1.heap.size := by have := hb1.size; simpa using this
  clear hb1
  obtain ⟨d0, d1, d2, d3, d4, d5, d6, d7, d8, d9, d10, d11, d12⟩ := cells13a Y2.out
  go_wp2_with fail
  refine (HSP.out _).mono ?_
  rintro e w2 ⟨rfl, hb2⟩
  have Y2 := Lib.hid (keepH Y2.out hb2)
  have hbw := bthen hbw (Nat.le_refl _) hb2
  have hsz : w.heap.size + 1 ≤ w2.heap.size := by have := hb2.size; omega
  clear hb2 d0 d1 d2 d3 d4 d5 d6 d7 d8 d9 d10 d11 d12
  obtain ⟨d0, d1, d2, d3, d4, d5, d6, d7, d8, d9, d10, d11, d12⟩ := cells13a Y2.out
  obtain ⟨sp, hsp⟩ : ∃ sp : Nat, spanI m f k l = sp := ⟨(spanI m f k l).toNat, by omega⟩
  have HSPN := Lib.hid hsp
  rw [hsp]
  clear hsp hsr HSP
  by_cases g1 : (2000 : Int) < l'.length
  · have e1 : decide ((2000 : Int) < l'.length) = true := by simpa using g1
    go_wp2
    go_ret
    exact ⟨rfl, hbw⟩
  have e1 : decide ((2000 : Int) < l'.length) = false := by simpa using g1
  by_cases g2 : (3000 : Int) < sp
  · have e2 : decide ((3000 : Int) < sp) = true := by simpa using g2
    go_wp2
    go_ret
    exact ⟨rfl, hbw⟩
  have e2 : decide ((3000 : Int) < sp) = false := by simpa using g2
  by_cases g3 : now < 0
  · have e3 : decide (now < 0) = true := by simpa using g3
    go_wp2
    go_ret
    exact ⟨rfl, hbw⟩
  have e3 : decide (now < 0) = false := by simpa using g3
  by_cases g4 : 549755813888 < now
  · have e4 : decide (549755813888 < now) = true := by simpa using g4
    go_wp2
    go_ret
    exact ⟨rfl, hbw⟩
  have e4 : decide (549755813888 < now) = false := by simpa using g4
  by_cases g5 : m < 0
  · have e5 : decide (m < 0) = true := by simpa using g5
    go_wp2
    go_ret
    exact ⟨rfl, hbw⟩
  have e5 : decide (m < 0) = false := by simpa using g5
  by_cases g6 : l < 0
  · have e6 : decide (l < 0) = true := by simpa using g6
    go_wp2
    go_ret
    exact ⟨rfl, hbw⟩
  have e6 : decide (l < 0) = false := by simpa using g6
  have hlim : 1 ≤ limI l := by unfold limI or0; split <;> omega
  have HI0 := Lib.hid (begin_inv (m := m) (f := f) (k := k) (l := l) (now := now) (by omega) (by omega) (by omega) hlim)
  have HIA := Lib.hid (fun (n : Nat) p t u b o (hn : n ≤ 3000) (h : stInv m f k l now n 0 (p, t, u, b)) => answer_inv (m := m) (f := f) (k := k) (l := l) (now := now) (n := n) (p := p) (t := t) (u := u) (b := b) o hlim (by omega) (by omega) hn h)
  have HIT := Lib.hid (fun (n : Nat) p t u b (hn : n ≤ 3000) (h : stInv m f k l now n 0 (p, t, u, b)) => tick_inv (m := m) (f := f) (k := k) (l := l) (now := now) (n := n) (p := p) (t := t) (u := u) (b := b) hlim (by omega) (by omega) hn h)
  have HIE := Lib.hid (fun (x : Int × Int × Int × Bool) (h : stInv m f k l now sp 1 x) => end_inv hlim HSPN.out.symm h)
  generalize inc 0 = T at *
  generalize nowI now + limI l = U at *
  go_wp2_with fail
  refine (HB.out _).mono ?_
  rintro e w3 ⟨rfl, hb3⟩
  have X1 := Lib.hid (show Run4 (w3.alloc (Obj.cells #[.int .u8 1, .int .i64 T, .int .i64 U, .bool false] 34)) w3.heap.size 1 T U false from World.alloc_heap_new _ _)
  have hbx : Below w2.heap.size w2 (w3.alloc (Obj.cells #[.int .u8 1, .int .i64 T, .int .i64 U, .bool false] 34)) := hb3.alloc hb3.size _
  have Y2 := Lib.hid (keepH Y2.out hbx)
  have hbw := bthen hbw (Nat.le_refl _) hbx
  have hBn : w.heap.size < w3.heap.size := by have := hb3.size; omega
  clear d0 d1 d2 d3 d4 d5 d6 d7 d8 d9 d10 d11 d12 hb3 hbx HB
  go_wp2
  generalize w3.alloc (Obj.cells #[.int .u8 1, .int .i64 T, .int .i64 U, .bool false] 34) = wl at *
  generalize w3.heap.size = Br at *
  go_loopw [9] (fun i wr => ∃ (n : Nat) (p t u : Int) (b : Bool), n ≤ sp + 1 ∧ i = .int .i64 n ∧ Hid (stInv m f k l now n 0 (p, t, u, b)) ∧ Hid (n = sp + 1 → settledB p = true) ∧ Hid (Run4 wr Br p t u b) ∧ Hid (wr.heap[w.heap.size]? = some (.cells #[.string s0, .string s1, .string s2, .slice af an ac, .int .i64 m, .int .i64 f, .int .i64 k, .int .i64 l, .int .u8 nk, .string nt, .slice ka kn kc, .slice da dn dc, .int .i64 nl] 29 (0, 0))) ∧ Below w.heap.size w wr) (fun i _ => sp + 1 - (intOf i).toNat)
  case atStart => exact ⟨0, 1, T, U, false, by omega, rfl, HI0, Lib.hid (fun h => by omega), X1, Y2, hbw⟩
  case round =>
    obtain ⟨n, p, t, u, b, hn, rfl, HI, HE, XR, YS, hb⟩ := hrel
    obtain ⟨a0, a1, a2, a3, f0, f1, f2, f3⟩ := cells4h XR.out
    obtain ⟨d0, d1, d2, d3, d4, d5, d6, d7, d8, d9, d10, d11, d12⟩ := cells13a YS.out
    by_cases hlt : n ≤ sp
    · have hlt' : (n : Int) ≤ sp := by omega
      have hw : IntKind.i64.wrap (now + (n : Int)) = now + (n : Int) := IntWalk.i64_in _ (by omega)
      have hn3 : n ≤ 3000 := by omega
      by_cases hans : n < l'.length
      · have hans' : (n : Int) < l'.length := by omega
        obtain ⟨g, off, hq, r1, r2, ucell⟩ : ∃ g off, a = some ⟨g, off, none⟩ ∧ l'.length ≤ cap ∧ cap ≤ 9223372036854775807 ∧ wr.cell? ⟨g, off + n, none⟩ = some (.int .u8 (l'[n] : Int)) := by
          rcases (HR.out.below hb).cases (by decide) with ⟨h0, _⟩ | ⟨hn, _, g, off, cap', hq, q1, q2, q3⟩
          · omega
          · injection hq with e1 e2 e3
            subst e1 e3
            exact ⟨g, off, rfl, q1, q2, q3 n _ (by simp [u8s, hans])⟩
        subst hq
        generalize l'[n] = o at *
        have HA1 := Lib.hid (HA.out p t u b (now + (n : Int)) (o : Int))
        have HI2 := Lib.hid (HIA.out n p t u b (o : Int) hn3 HI.out)
        generalize answerT m f k l p t u b (now + (n : Int)) t (o : Int) = X at *
        obtain ⟨⟨q1, q2, q3, q4⟩, q5⟩ := X
        unfold tupR runT runV at HA1
        dsimp only at HA1 HI2
        go_upto_region 11 with fail
        go_cut [66] (fun s wx => s = .bool q5 ∧ Hid (Run4 wx Br q1 q2 q3 q4) ∧ Hid (wx.heap[w.heap.size]? = some (.cells #[.string s0, .string s1, .string s2, .slice af an ac, .int .i64 m, .int .i64 f, .int .i64 k, .int .i64 l, .int .u8 nk, .string nt, .slice ka kn kc, .slice da dn dc, .int .i64 nl] 29 (0, 0))) ∧ Below w.heap.size w wx)
        case first =>
          have XD : Run4 wr.drew Br p t u b := XR.out
          first | go_region_with (first
            | (go_at_call 9; refine (callK XD (HA1.out _)).mono ?_; rintro e w4 ⟨rfl, hb4, x4, b0, b1, b2, b3, h0, h1, h2, h3⟩)
            | (go_at_call 9; rw [hw]; refine (callK XD (HA1.out _)).mono ?_; rintro e w4 ⟨rfl, hb4, x4, b0, b1, b2, b3, h0, h1, h2, h3⟩)) | fail
          all_goals
            have hbr := bthen (Below.refl wr.heap.size wr).drew (Nat.le_refl _) hb4
            go_wp2_with fail
            go_meet
            exact ⟨rfl, Lib.hid (set4 _ _ _ _ x4), Lib.hid ((set4_other _ _ _ _ (by omega)).trans (keepH YS.out hbr)), bset (bset (bset (bset (bthen hb (Nat.le_refl _) hbr) (by omega)) (by omega)) (by omega)) (by omega)⟩
        case rest =>
        obtain ⟨rfl, XR2, YS2, hb2⟩ := hcut
        clear a0 a1 a2 a3 f0 f1 f2 f3 d0 d1 d2 d3 d4 d5 d6 d7 d8 d9 d10 d11 d12 XR YS hb HA1
        have XR := XR2
        have YS := YS2
        have hb := hb2
        clear XR2 YS2 hb2
        obtain ⟨a0, a1, a2, a3, f0, f1, f2, f3⟩ := cells4h XR.out
        obtain ⟨d0, d1, d2, d3, d4, d5, d6, d7, d8, d9, d10, d11, d12⟩ := cells13a YS.out
        have HT1 := Lib.hid (HT.out q1 q2 q3 q4 (now + (n : Int)))
        have HI3 := Lib.hid (HIT.out n q1 q2 q3 q4 hn3 HI2.out)
        generalize tickT m f k l q1 q2 q3 q4 (now + (n : Int)) = Y at *
        obtain ⟨⟨z1, z2, z3, z4⟩, z5⟩ := Y
        unfold tupR runT runV at HT1
        dsimp only at HT1 HI3
        have HSET : Hid (n + 1 = sp + 1 → settledB z1 = true) := Lib.hid (fun h => by
          have hns : n = sp := by omega
          subst hns
          exact HIE.out _ HI3.out)
        go_wp2_with fail
        refine (HT1.out _).mono ?_
        rintro e w7 ⟨rfl, hb7⟩
        have x7 := XR.out.keep hb7
        obtain ⟨b0, b1, b2, b3, h0, h1, h2, h3⟩ := cells4h x7
        have y7 := Lib.hid (keepH YS.out hb7)
        have X7 := Lib.hid x7
        clear x7 a0 a1 a2 a3 f0 f1 f2 f3 d0 d1 d2 d3 d4 d5 d6 d7 d8 d9 d10 d11 d12 HT1
        go_wp2
        go_roundw
        case rel => exact ⟨n + 1, z1, z2, z3, z4, by omega, by go_num, Lib.hid (stInv_next HI3.out), HSET, Lib.hid (set4 _ _ _ _ X7.out), Lib.hid ((set4_other _ _ _ _ (by omega)).trans y7.out), bset (bset (bset (bset (bthen hb (Nat.le_refl _) hb7) (by omega)) (by omega)) (by omega)) (by omega)⟩
        case measure => simp [intOf]; omega
      · have HT1 := Lib.hid (HT.out p t u b (now + (n : Int)))
        have HI2 := HI
        have HI3 := Lib.hid (HIT.out n p t u b hn3 HI2.out)
        generalize tickT m f k l p t u b (now + (n : Int)) = Y at *
        obtain ⟨⟨z1, z2, z3, z4⟩, z5⟩ := Y
        unfold tupR runT runV at HT1
        dsimp only at HT1 HI3
        have HSET : Hid (n + 1 = sp + 1 → settledB z1 = true) := Lib.hid (fun h => by
          have hns : n = sp := by omega
          subst hns
          exact HIE.out _ HI3.out)
        go_wp2_with fail
        refine (HT1.out _).mono ?_
        rintro e w7 ⟨rfl, hb7⟩
        have x7 := XR.out.keep hb7
        obtain ⟨b0, b1, b2, b3, h0, h1, h2, h3⟩ := cells4h x7
        have y7 := Lib.hid (keepH YS.out hb7)
        have X7 := Lib.hid x7
        clear x7 a0 a1 a2 a3 f0 f1 f2 f3 d0 d1 d2 d3 d4 d5 d6 d7 d8 d9 d10 d11 d12 HT1
        go_wp2
        go_roundw
        case rel => exact ⟨n + 1, z1, z2, z3, z4, by omega, by go_num, Lib.hid (stInv_next HI3.out), HSET, Lib.hid (set4 _ _ _ _ X7.out), Lib.hid ((set4_other _ _ _ _ (by omega)).trans y7.out), bset (bset (bset (bset (bthen hb (Nat.le_refl _) hb7) (by omega)) (by omega)) (by omega)) (by omega)⟩
        case measure => simp [intOf]; omega
    · have hnl : n = sp + 1 := by omega
      have hst := HE.out hnl
      have hnl' : ¬ (n : Int) ≤ sp := by omega
      have HST := Lib.hid (Settled_any p t u b wr)
      unfold runV at HST
      rw [hst] at HST
      go_wp2_with fail
      refine HST.out.mono ?_
      rintro e w8 ⟨rfl, hb8⟩
      go_wp2
      go_ret
      exact ⟨rfl, bthen hb (Nat.le_refl _) hb8⟩
end
theorem StepEnds_any (s0 s1 s2 : ByteArray) (af : Option Addr) (an ac : Nat) (m f k l : Int) (nk : Int) (nt : ByteArray) (ka : Option Addr) (kn kc : Nat) (da : Option Addr) (dn dc : Nat) (nl : Int) (now : Int) (l' : List Nat) (v : Value) (w : World)
    (_ : -9223372036854775808 ≤ now) (_ : now ≤ 9223372036854775807) (_ : ∀ n ∈ l', n < 256) (hr : RdS w v 1 l'.length (u8s l')) :
    Calls Try.prog 3 #[stepV s0 s1 s2 af an ac m f k l nk nt ka kn kc da dn dc nl, .int .i64 now, v] w fun e w' => e = .returned (.bool true) ∧ Below w.heap.size w w' := StepEnds_walk now l' v w hr
end Go.Proofs.Ytlpcagkknfajeaa
