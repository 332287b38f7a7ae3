/-
  The law StepOnce: its walk.
-/
import Derived.Test.YtigeedaihbpjiaaZh
import Derived.Test.YtigeedaihbpjiaaZi
import Derived.Test.YtigeedaihbpjiaaOp
import Derived.StillTailTactics
namespace Go.Proofs.Ytigeedaihbpjiaa
open Go.RowKit
attribute [local go_sem ↓] Go.wp_at_zero Go.wp_at_succ

def asC (l : List (Int × Int × Int × Int)) : List Value := l.flatMap fun a => [.int .u8 a.1, .int .u8 a.2.1, .int .i64 a.2.2.1, .int .i64 a.2.2.2]
theorem asC_get (l : List (Int × Int × Int × Int)) (k : Nat) (h : k < l.length) : (asC l)[k * 4]? = some (.int .u8 (l[k]).1) ∧ (asC l)[k * 4 + 1]? = some (.int .u8 (l[k]).2.1) ∧ (asC l)[k * 4 + 2]? = some (.int .i64 (l[k]).2.2.1) ∧ (asC l)[k * 4 + 3]? = some (.int .i64 (l[k]).2.2.2) := by
  induction l generalizing k with
  | nil => simp at h
  | cons a l ih =>
    cases k with
    | zero => simp [asC]
    | succ k =>
      have := ih k (by simpa using h)
      have e1 : (k + 1) * 4 = k * 4 + 4 := by omega
      rw [e1]
      simpa [asC] using this
theorem callR {P : Program} {fn : FuncId} {args : Array Value} {W : World} {r : Value} {g : Nat} {p t u : Int} {b : Bool} (y : Run4 W g p t u b) (h : Calls P fn args W fun e w' => e = .returned r ∧ Below W.heap.size W w') :
    Calls P fn args W fun e w' => e = .returned r ∧ Below W.heap.size W w' ∧ Run4 w' g p t u b ∧ w'.cell? ⟨g, 0, none⟩ = some (.int .u8 p) ∧ w'.cell? ⟨g, 1, none⟩ = some (.int .i64 t) ∧ w'.cell? ⟨g, 2, none⟩ = some (.int .i64 u) ∧ w'.cell? ⟨g, 3, none⟩ = some (.bool b) ∧ w'.frozen? ⟨g, 0, none⟩ = false ∧ w'.frozen? ⟨g, 1, none⟩ = false ∧ w'.frozen? ⟨g, 2, none⟩ = false ∧ w'.frozen? ⟨g, 3, none⟩ = false :=
  h.mono fun _ _ ⟨h1, h2⟩ => ⟨h1, h2, y.keep h2, cells4h (y.keep h2)⟩
theorem inc_ne (t : Int) : inc t ≠ t := by unfold inc wrap64; omega
theorem ans_cases (m f k l p t u : Int) (b : Bool) (now tr o : Int) : answerT m f k l p t u b now tr o = ((p, t, u, b), false) ∨
    ∃ q1 q2 q3 q4, answerT m f k l p t u b now tr o = ((q1, q2, q3, q4), true) ∧ p = 1 ∧ t = tr ∧ answerT m f k l q1 q2 q3 q4 now tr o = ((q1, q2, q3, q4), false) := by
  by_cases hp : p = 1 ∧ t = tr
  · obtain ⟨rfl, rfl⟩ := hp
    have hno : ∀ q1 q2 q3 q4, (q1 ≠ 1 ∨ q2 ≠ t) → answerT m f k l q1 q2 q3 q4 now t o = ((q1, q2, q3, q4), false) := fun q1 q2 q3 q4 h => by
      unfold answerT; rw [if_neg (by omega)]
    by_cases h0 : o = 0
    · right; exact ⟨3, t, 0, b, by unfold answerT; rw [if_pos ⟨rfl, rfl⟩, if_pos h0], rfl, rfl, hno _ _ _ _ (.inl (by decide))⟩
    · by_cases h1 : o = 1
      · right
        have e : answerT m f k l 1 t u b now t o = (failT m f k l 1 t u b now, true) := by unfold answerT; rw [if_pos ⟨rfl, rfl⟩, if_neg h0, if_pos h1]
        by_cases hx : (b || !moreB m t) = true
        · exact ⟨4, t, 0, b, by rw [e]; unfold failT; rw [if_pos hx], rfl, rfl, hno _ _ _ _ (.inl (by decide))⟩
        · by_cases hw : waitI f k t = 0
          · exact ⟨1, inc t, nowI now + limI l, b, by rw [e]; unfold failT; rw [if_neg hx, if_pos hw], rfl, rfl, hno _ _ _ _ (.inr (inc_ne t))⟩
          · exact ⟨2, t, nowI now + waitI f k t, b, by rw [e]; unfold failT; rw [if_neg hx, if_neg hw], rfl, rfl, hno _ _ _ _ (.inl (by decide))⟩
      · by_cases h2 : o = 2
        · right; exact ⟨4, t, 0, b, by unfold answerT; rw [if_pos ⟨rfl, rfl⟩, if_neg h0, if_neg h1, if_pos h2], rfl, rfl, hno _ _ _ _ (.inl (by decide))⟩
        · left; unfold answerT; rw [if_pos ⟨rfl, rfl⟩, if_neg h0, if_neg h1, if_neg h2]
  · left; unfold answerT; rw [if_neg hp]

section
variable {s0 s1 s2 : ByteArray} {af : Option Addr} {an ac : Nat} {m f k l : Int} {nk : Int} {nt : ByteArray} {ka : Option Addr} {kn kc : Nat} {da : Option Addr} {dn dc : Nat} {nl : Int}
set_option maxRecDepth 100000 in
set_option maxHeartbeats 8000000 in
theorem StepOnce_walk (l' : List (Int × Int × Int × Int)) (v : Value) (now tr o : Int) (w : World) (hr : RdS w v 4 l'.length (asC l')) :
    Calls Try.prog 11 #[stepV s0 s1 s2 af an ac m f k l nk nt ka kn kc da dn dc nl, v, .int .i64 now, .int .i64 tr, .int .u8 o] w fun e w' => e = .returned (.bool true) ∧ Below w.heap.size w w' := by
  have HR := Lib.hid hr
  obtain ⟨a, cap, rfl⟩ := hr.form
  clear hr
  have HB := Lib.hid (fun w => Begin_any (s0 := s0) (s1 := s1) (s2 := s2) (af := af) (an := an) (ac := ac) (m := m) (f := f) (k := k) (l := l) (nk := nk) (nt := nt) (ka := ka) (kn := kn) (kc := kc) (da := da) (dn := dn) (dc := dc) (nl := nl) 0 w)
  generalize inc 0 = T at *
  generalize nowI 0 + limI l = U at *
  have HD := Lib.hid (fun p t u b kd o now tr w => do_any (s0 := s0) (s1 := s1) (s2 := s2) (af := af) (an := an) (ac := ac) (m := m) (f := f) (k := k) (l := l) (nk := nk) (nt := nt) (ka := ka) (kn := kn) (kc := kc) (da := da) (dn := dn) (dc := dc) (nl := nl) p t u b kd o now tr w)
  have HA := Lib.hid (fun p t u b w => Answer_any (s0 := s0) (s1 := s1) (s2 := s2) (af := af) (an := an) (ac := ac) (m := m) (f := f) (k := k) (l := l) (nk := nk) (nt := nt) (ka := ka) (kn := kn) (kc := kc) (da := da) (dn := dn) (dc := dc) (nl := nl) p t u b now tr o w)
  have HC := Lib.hid (fun p t u b => ans_cases m f k l p t u b now tr o)
  unfold runV stepV at HB
  unfold stepV askV at HD
  unfold stepV at HA
  unfold stepV
  go_enter Try.func11, Try.ntmps11
  go_wp2_with fail
  refine (live31_any _).mono ?_
  rintro e w1 ⟨rfl, hb1⟩
  have Y2 := Lib.hid (keepH (World.alloc_heap_new w (.cells #[.string s0, .string s1, .string s2, .slice af an ac, .int .i64 m, .int .i64 f, .int .i64 k, .int .i64 l, .int .u8 nk, .string nt, .slice ka kn kc, .slice da dn dc, .int .i64 nl] 82)) hb1)
  have hbw : Below w.heap.size w w1 := ((Below.refl _ w).alloc (Nat.le_refl _) _).trans (hb1.mono (by simp))
  have hsz : w.heap.size + 1 ≤ w1.heap.size := by have := hb1.size; simpa using this
  clear hb1
  by_cases hbig : 100 < l'.length
  · have hdd : decide ((100 : Int) < l'.length) = true := by simp; omega
    go_wp2
    go_ret
    exact ⟨rfl, hbw⟩
  · have hdd : decide ((100 : Int) < l'.length) = false := by simp; omega
    obtain ⟨d0, d1, d2, d3, d4, d5, d6, d7, d8, d9, d10, d11, d12⟩ := cells13a Y2.out
    go_wp2_with fail
    refine (HB.out _).mono ?_
    rintro e w2 ⟨rfl, hb2⟩
    have X1 := Lib.hid (show Run4 (w2.alloc (Obj.cells #[.int .u8 1, .int .i64 T, .int .i64 U, .bool false] 84)) w2.heap.size 1 T U false from World.alloc_heap_new _ _)
    have hbx : Below w1.heap.size w1 (w2.alloc (Obj.cells #[.int .u8 1, .int .i64 T, .int .i64 U, .bool false] 84)) := hb2.alloc hb2.size _
    have Y2 := Lib.hid (keepH Y2.out hbx)
    have hbw := bthen hbw (Nat.le_refl _) hbx
    have hBn : w.heap.size < w2.heap.size := by have := hb2.size; omega
    clear d0 d1 d2 d3 d4 d5 d6 d7 d8 d9 d10 d11 d12 hb2 hbx HB
    go_wp2
    generalize w2.alloc (Obj.cells #[.int .u8 1, .int .i64 T, .int .i64 U, .bool false] 84) = wl at *
    generalize w2.heap.size = Br at *
    go_loopw [12] (fun i wr => ∃ (k' : Nat) (p t u : Int) (b : Bool), k' ≤ l'.length ∧ i = .int .i64 k' ∧ Hid (Run4 wr Br p t u b) ∧ Hid (wr.heap[w.heap.size]? = some (.cells #[.string s0, .string s1, .string s2, .slice af an ac, .int .i64 m, .int .i64 f, .int .i64 k, .int .i64 l, .int .u8 nk, .string nt, .slice ka kn kc, .slice da dn dc, .int .i64 nl] 82 (0, 0))) ∧ Below w.heap.size w wr) (fun i _ => l'.length - (intOf i).toNat)
    case atStart => exact ⟨0, 1, T, U, false, by omega, rfl, X1, Y2, hbw⟩
    case round =>
      obtain ⟨k', p, t, u, b, hk, rfl, XR, YS, hb⟩ := hrel
      obtain ⟨a0, a1, a2, a3, f0, f1, f2, f3⟩ := cells4h XR.out
      obtain ⟨d0, d1, d2, d3, d4, d5, d6, d7, d8, d9, d10, d11, d12⟩ := cells13a YS.out
      by_cases hlt : k' < l'.length
      · rcases (HR.out.below hb).cases (by decide) with ⟨h0, _⟩ | ⟨hn, _, g, off, cap', hq, h1, h2, h3⟩
        · omega
        obtain ⟨rfl, rfl⟩ : a = some ⟨g, off, none⟩ ∧ cap = cap' := by injection hq with q1 q2 q3; exact ⟨q1, q3⟩
        obtain ⟨e0, e1, e2, e3⟩ := asC_get l' k' hlt
        have c0 := h3 _ _ e0
        have c1 := h3 _ _ e1
        have c2 := h3 _ _ e2
        have c3 := h3 _ _ e3
        rw [← Nat.add_assoc] at c1 c2 c3
        generalize l'[k'] = x at *
        obtain ⟨kd, oo, nn, tt⟩ := x
        dsimp only at *
        have hlt' : (k' : Int) < l'.length := by omega
        have hk0 : (0 : Int) ≤ (k' : Int) := by omega
        clear h3 hq e0 e1 e2 e3
        by_cases hk3 : kd < 3
        · have hd3 : decide (kd < 3) = true := by simpa using hk3
          have HD1 := Lib.hid (HD.out p t u b kd oo nn tt)
          generalize doT m f k l p t u b kd oo nn tt = X at *
          obtain ⟨⟨q1, q2, q3, q4⟩, q5⟩ := X
          unfold tupR runT runV at HD1
          dsimp only at HD1
          clear hk3
          go_upto_region 10 with fail
          have XD : Run4 wr.drew Br p t u b := XR.out
          first | go_region_with (first | (go_at_call 49; refine (callR XD (HD1.out _)).mono ?_; rintro e w3 ⟨rfl, hb3, z3, b0, b1, b2, b3, g0, g1, g2, g3⟩)) | fail
          all_goals
            have hbr := bthen (Below.refl wr.heap.size wr).drew (Nat.le_refl _) hb3
            go_wp2
            go_roundw
            case rel => exact ⟨k' + 1, q1, q2, q3, q4, by omega, by go_num, Lib.hid (set4 _ _ _ _ z3), Lib.hid ((set4_other _ _ _ _ (by omega)).trans (keepH YS.out hbr)), bset (bset (bset (bset (bthen hb (Nat.le_refl _) hbr) (by omega)) (by omega)) (by omega)) (by omega)⟩
            case measure => simp [intOf]; omega
        · have hd3 : decide (kd < 3) = false := by simpa using hk3
          clear hk3
          go_wp2
          go_roundw
          case rel => exact ⟨k' + 1, p, t, u, b, by omega, by go_num, XR, YS, hb⟩
          case measure => simp [intOf]; omega
      · rcases HC.out p t u b with e | ⟨q1, q2, q3, q4, e, hp, ht, e2⟩
        · have HA1 := Lib.hid (HA.out p t u b)
          rw [e] at HA1
          unfold tupR runT runV at HA1
          dsimp only at HA1
          clear e HA HC HD
          go_wp2_with fail
          refine (HA1.out _).mono ?_
          rintro e w5 ⟨rfl, hb5⟩
          have hbx : Below wr.heap.size wr (w5.alloc (Obj.cells #[.int .u8 p, .int .i64 t, .int .i64 u, .bool b] 84)) := hb5.alloc hb5.size _
          have XR2 := Lib.hid (XR.out.keep hbx)
          have XX := Lib.hid (show Run4 (w5.alloc (Obj.cells #[.int .u8 p, .int .i64 t, .int .i64 u, .bool b] 84)) w5.heap.size p t u b from World.alloc_heap_new _ _)
          have hb' := bthen hb (Nat.le_refl _) hbx
          clear a0 a1 a2 a3 f0 f1 f2 f3 d0 d1 d2 d3 d4 d5 d6 d7 d8 d9 d10 d11 d12 hb5 hbx HA1
          obtain ⟨a0, a1, a2, a3, f0, f1, f2, f3⟩ := cells4h XR2.out
          go_wp2
          go_ret
          exact ⟨by simp, hb'⟩
        · have HA1 := Lib.hid (HA.out p t u b)
          have HA2 := Lib.hid (HA.out q1 q2 q3 q4)
          rw [e] at HA1
          rw [e2] at HA2
          unfold tupR runT runV at HA1 HA2
          dsimp only at HA1 HA2
          have dp1 : (p == 1) = true := by simpa using hp
          have dp2 : (p != 1) = false := by simpa using hp
          have dt1 : (t == tr) = true := by simpa using ht
          have dt2 : (t != tr) = false := by simpa using ht
          clear e e2 HA HC HD hp ht
          go_wp2_with fail
          refine (HA1.out _).mono ?_
          rintro e w5 ⟨rfl, hb5⟩
          have hbx : Below wr.heap.size wr (w5.alloc (Obj.cells #[.int .u8 q1, .int .i64 q2, .int .i64 q3, .bool q4] 84)) := hb5.alloc hb5.size _
          have XR2 := Lib.hid (XR.out.keep hbx)
          have XX := Lib.hid (show Run4 (w5.alloc (Obj.cells #[.int .u8 q1, .int .i64 q2, .int .i64 q3, .bool q4] 84)) w5.heap.size q1 q2 q3 q4 from World.alloc_heap_new _ _)
          have YS2 := Lib.hid (keepH YS.out hbx)
          have hb' := bthen hb (Nat.le_refl _) hbx
          clear a0 a1 a2 a3 f0 f1 f2 f3 d0 d1 d2 d3 d4 d5 d6 d7 d8 d9 d10 d11 d12 hb5 hbx HA1
          obtain ⟨a0, a1, a2, a3, f0, f1, f2, f3⟩ := cells4h XR2.out
          obtain ⟨d0, d1, d2, d3, d4, d5, d6, d7, d8, d9, d10, d11, d12⟩ := cells13a YS2.out
          go_wp2_with fail
          refine (HA2.out _).mono ?_
          rintro e w6 ⟨rfl, hb6⟩
          have hby : Below (w5.alloc (Obj.cells #[.int .u8 q1, .int .i64 q2, .int .i64 q3, .bool q4] 84)).heap.size (w5.alloc (Obj.cells #[.int .u8 q1, .int .i64 q2, .int .i64 q3, .bool q4] 84)) (w6.alloc (Obj.cells #[.int .u8 q1, .int .i64 q2, .int .i64 q3, .bool q4] 84)) := hb6.alloc hb6.size _
          have XX2 := Lib.hid (XX.out.keep hby)
          have hb'' := bthen hb' (Nat.le_refl _) hby
          clear a0 a1 a2 a3 f0 f1 f2 f3 d0 d1 d2 d3 d4 d5 d6 d7 d8 d9 d10 d11 d12 hb6 hby HA2
          obtain ⟨a0, a1, a2, a3, f0, f1, f2, f3⟩ := cells4h XX2.out
          go_wp2
          go_ret
          exact ⟨by simp, hb''⟩
end
theorem StepOnce_any (s0 s1 s2 : ByteArray) (af : Option Addr) (an ac : Nat) (m f k l : Int) (nk : Int) (nt : ByteArray) (ka : Option Addr) (kn kc : Nat) (da : Option Addr) (dn dc : Nat) (nl : Int) (l' : List (Int × Int × Int × Int)) (v : Value) (now tr : Int) (o : Nat) (w : World) (hr : RdS w v 4 l'.length (asC l'))
    (_ : -9223372036854775808 ≤ now) (_ : now ≤ 9223372036854775807) (_ : -9223372036854775808 ≤ tr) (_ : tr ≤ 9223372036854775807) (_ : o < 256) :
    Calls Try.prog 11 #[stepV s0 s1 s2 af an ac m f k l nk nt ka kn kc da dn dc nl, v, .int .i64 now, .int .i64 tr, .int .u8 (o : Int)] w fun e w' => e = .returned (.bool true) ∧ Below w.heap.size w w' := StepOnce_walk l' v now tr o w hr
end Go.Proofs.Ytigeedaihbpjiaa
