/-
  step: fail, Begin, Answer, Tick, Stop, Settled: contracts.
-/
import Derived.Test.YtigeedaihbpjiaaZa
import Derived.Test.YtigeedaihbpjiaaBe
namespace Go.Proofs.Ytigeedaihbpjiaa
open Go.RowKit
attribute [local go_sem ↓] Go.wp_at_zero Go.wp_at_succ

theorem after3 (w : World) (a b c : Array Value) (ta tb tc : TypeId) {w1 : World} (hb : Below (((w.alloc (.cells a ta)).alloc (.cells b tb)).alloc (.cells c tc)).heap.size (((w.alloc (.cells a ta)).alloc (.cells b tb)).alloc (.cells c tc)) w1) :
    w1.heap[w.heap.size]? = some (.cells a ta (0, 0)) ∧ w1.heap[w.heap.size + 1]? = some (.cells b tb (0, 0)) ∧ w1.heap[w.heap.size + 1 + 1]? = some (.cells c tc (0, 0)) ∧ Below w.heap.size w w1 := by
  obtain ⟨x1, x2, x3, x4, x5⟩ := heap3 w (Obj.cells a ta) (Obj.cells b tb) (Obj.cells c tc)
  exact ⟨keepH x1 hb, keepH x2 hb, keepH x3 hb, x5.trans (hb.mono (by omega))⟩
theorem after2 (w : World) (a b : Array Value) (ta tb : TypeId) {w1 : World} (hb : Below ((w.alloc (.cells a ta)).alloc (.cells b tb)).heap.size ((w.alloc (.cells a ta)).alloc (.cells b tb)) w1) :
    w1.heap[w.heap.size]? = some (.cells a ta (0, 0)) ∧ w1.heap[w.heap.size + 1]? = some (.cells b tb (0, 0)) ∧ Below w.heap.size w w1 := by
  obtain ⟨x1, x2, x4, x5⟩ := heap2 w (Obj.cells a ta) (Obj.cells b tb)
  exact ⟨keepH x1 hb, keepH x2 hb, x5.trans (hb.mono (by omega))⟩

section
variable {s0 s1 s2 : ByteArray} {af : Option Addr} {an ac : Nat} {m f k l : Int} {nk : Int} {nt : ByteArray} {ka : Option Addr} {kn kc : Nat} {da : Option Addr} {dn dc : Nat} {nl : Int}

/-- What a failed try makes of a run. -/
def failT (m f k l p t u : Int) (b : Bool) (now : Int) : Int × Int × Int × Bool :=
  if b || !moreB m t then (4, t, 0, b) else if waitI f k t = 0 then (1, inc t, nowI now + limI l, b) else (2, t, nowI now + waitI f k t, b)
def runT (x : Int × Int × Int × Bool) : Value := runV x.1 x.2.1 x.2.2.1 x.2.2.2

set_option maxRecDepth 100000 in
set_option maxHeartbeats 1000000 in
theorem fail_last (p t u : Int) (b : Bool) (now : Int) (w : World) (hb0 : b = true) : Calls Try.prog 94 #[runV p t u b, stepV s0 s1 s2 af an ac m f k l nk nt ka kn kc da dn dc nl, .int .i64 now] w fun e w' => e = .returned (runT (failT m f k l p t u b now)) ∧ Below w.heap.size w w' := by
  subst hb0
  have e : failT m f k l p t u true now = (4, t, 0, true) := rfl
  rw [e]
  unfold runT runV stepV
  clear e
  go_enter Try.func94, Try.ntmps94
  go_wp2_with fail
  refine (end_any p t u 4 true _).mono ?_
  rintro e w1 ⟨rfl, hb1⟩
  unfold runV
  obtain ⟨y1, y2, y3, hbw⟩ := after3 w #[.int .u8 p, .int .i64 t, .int .i64 u, .bool true] #[.string s0, .string s1, .string s2, .slice af an ac, .int .i64 m, .int .i64 f, .int .i64 k, .int .i64 l, .int .u8 nk, .string nt, .slice ka kn kc, .slice da dn dc, .int .i64 nl] #[.int .u8 0, .int .i64 0, .int .i64 0, .bool false] 84 82 84 hb1
  have Y1 := Lib.hid y1; have Y2 := Lib.hid y2; have Y3 := Lib.hid y3
  obtain ⟨a0, a1, a2, a3, f0, f1, f2, f3⟩ := cells4h y1
  obtain ⟨b0, b1, b2, b3, g0, g1, g2, g3⟩ := cells4h y3
  obtain ⟨d0, d1, d2, d3, d4, d5, d6, d7, d8, d9, d10, d11, d12⟩ := cells13a y2
  clear y1 y2 y3
  go_wp2
  refine bodyPost_ret (v := .agg #[.int .u8 4, .int .i64 t, .int .i64 0, .bool true]) (by simp [results, Try.results94, go_sem, a0, a1, a2, a3, b0, b1, b2, b3]) rfl ⟨rfl, ?_⟩
  repeat (refine bset ?_ (by omega))
  exact hbw

set_option maxRecDepth 100000 in
set_option maxHeartbeats 1000000 in
theorem fail_no (p t u : Int) (now : Int) (w : World) (hm : moreB m t = false) : Calls Try.prog 94 #[runV p t u false, stepV s0 s1 s2 af an ac m f k l nk nt ka kn kc da dn dc nl, .int .i64 now] w fun e w' => e = .returned (runT (failT m f k l p t u false now)) ∧ Below w.heap.size w w' := by
  have e : failT m f k l p t u false now = (4, t, 0, false) := by unfold failT; rw [hm]; rfl
  rw [e]
  have HM := Lib.hid (fun w => More_any m f k t w)
  rw [hm] at HM
  unfold runT runV stepV
  clear e hm
  go_enter Try.func94, Try.ntmps94
  go_wp2_with fail
  refine (HM.out _).mono ?_
  rintro e w1 ⟨rfl, hb1⟩
  obtain ⟨y1, y2, y3, hbw⟩ := after3 w #[.int .u8 p, .int .i64 t, .int .i64 u, .bool false] #[.string s0, .string s1, .string s2, .slice af an ac, .int .i64 m, .int .i64 f, .int .i64 k, .int .i64 l, .int .u8 nk, .string nt, .slice ka kn kc, .slice da dn dc, .int .i64 nl] #[.int .u8 0, .int .i64 0, .int .i64 0, .bool false] 84 82 84 hb1
  have Y1 := Lib.hid y1; have Y2 := Lib.hid y2; have Y3 := Lib.hid y3
  obtain ⟨a0, a1, a2, a3, f0, f1, f2, f3⟩ := cells4h y1
  obtain ⟨b0, b1, b2, b3, g0, g1, g2, g3⟩ := cells4h y3
  obtain ⟨d0, d1, d2, d3, d4, d5, d6, d7, d8, d9, d10, d11, d12⟩ := cells13a y2
  clear y1 y2 y3
  go_wp2_with fail
  refine (end_any p t u 4 false _).mono ?_
  rintro e w2 ⟨rfl, hb2⟩
  unfold runV
  have y1 := keepH Y1.out hb2; have y2 := keepH Y2.out hb2; have y3 := keepH Y3.out hb2
  have hbw := bthen hbw (Nat.le_refl _) hb2
  clear Y1 Y2 Y3 hb2 a0 a1 a2 a3 f0 f1 f2 f3 b0 b1 b2 b3 g0 g1 g2 g3 d0 d1 d2 d3 d4 d5 d6 d7 d8 d9 d10 d11 d12
  have Y1 := Lib.hid y1; have Y2 := Lib.hid y2; have Y3 := Lib.hid y3
  obtain ⟨a0, a1, a2, a3, f0, f1, f2, f3⟩ := cells4h y1
  obtain ⟨b0, b1, b2, b3, g0, g1, g2, g3⟩ := cells4h y3
  obtain ⟨d0, d1, d2, d3, d4, d5, d6, d7, d8, d9, d10, d11, d12⟩ := cells13a y2
  clear y1 y2 y3
  go_wp2
  refine bodyPost_ret (v := .agg #[.int .u8 4, .int .i64 t, .int .i64 0, .bool false]) (by simp [results, Try.results94, go_sem, a0, a1, a2, a3, b0, b1, b2, b3]) rfl ⟨rfl, ?_⟩
  repeat (refine bset ?_ (by omega))
  exact hbw

set_option maxRecDepth 100000 in
set_option maxHeartbeats 1000000 in
theorem fail_wait (p t u : Int) (now : Int) (w : World) (hm : moreB m t = true) (hw0 : waitI f k t ≠ 0) : Calls Try.prog 94 #[runV p t u false, stepV s0 s1 s2 af an ac m f k l nk nt ka kn kc da dn dc nl, .int .i64 now] w fun e w' => e = .returned (runT (failT m f k l p t u false now)) ∧ Below w.heap.size w w' := by
  have e : failT m f k l p t u false now = (2, t, nowI now + waitI f k t, false) := by unfold failT; rw [hm]; simp [hw0]
  rw [e]
  have HM := Lib.hid (fun w => More_any m f k t w)
  rw [hm] at HM
  have HW := Lib.hid (fun w => Wait_any m f k t w)
  have hwr := waitI_range f k t
  have hnr := nowI_range now
  have HN := Lib.hid (fun w => Now_any now w)
  generalize waitI f k t = x at *
  generalize nowI now = N at *
  have hx0 : (x == 0) = false := by simpa using hw0
  unfold runT runV stepV
  clear e hm hw0
  go_enter Try.func94, Try.ntmps94
  go_wp2_with fail
  refine (HM.out _).mono ?_
  rintro e w1 ⟨rfl, hb1⟩
  obtain ⟨y1, y2, y3, hbw⟩ := after3 w #[.int .u8 p, .int .i64 t, .int .i64 u, .bool false] #[.string s0, .string s1, .string s2, .slice af an ac, .int .i64 m, .int .i64 f, .int .i64 k, .int .i64 l, .int .u8 nk, .string nt, .slice ka kn kc, .slice da dn dc, .int .i64 nl] #[.int .u8 0, .int .i64 0, .int .i64 0, .bool false] 84 82 84 hb1
  have Y1 := Lib.hid y1; have Y2 := Lib.hid y2; have Y3 := Lib.hid y3
  obtain ⟨a0, a1, a2, a3, f0, f1, f2, f3⟩ := cells4h y1
  obtain ⟨b0, b1, b2, b3, g0, g1, g2, g3⟩ := cells4h y3
  obtain ⟨d0, d1, d2, d3, d4, d5, d6, d7, d8, d9, d10, d11, d12⟩ := cells13a y2
  clear y1 y2 y3
  go_wp2_with fail
  refine (HW.out _).mono ?_
  rintro e w2 ⟨rfl, hb2⟩
  have y1 := keepH Y1.out hb2; have y2 := keepH Y2.out hb2; have y3 := keepH Y3.out hb2
  have hbw := bthen hbw (Nat.le_refl _) hb2
  clear Y1 Y2 Y3 hb2 a0 a1 a2 a3 f0 f1 f2 f3 b0 b1 b2 b3 g0 g1 g2 g3 d0 d1 d2 d3 d4 d5 d6 d7 d8 d9 d10 d11 d12
  have Y1 := Lib.hid y1; have Y2 := Lib.hid y2; have Y3 := Lib.hid y3
  obtain ⟨a0, a1, a2, a3, f0, f1, f2, f3⟩ := cells4h y1
  obtain ⟨b0, b1, b2, b3, g0, g1, g2, g3⟩ := cells4h y3
  obtain ⟨d0, d1, d2, d3, d4, d5, d6, d7, d8, d9, d10, d11, d12⟩ := cells13a y2
  clear y1 y2 y3
  go_wp2_with fail
  refine (HN.out _).mono ?_
  rintro e w' ⟨rfl, rfl⟩
  go_wp2
  refine bodyPost_ret (v := .agg #[.int .u8 2, .int .i64 t, .int .i64 (N + x), .bool false]) (by simp [results, Try.results94, go_sem, a0, a1, a2, a3, b0, b1, b2, b3]) rfl ⟨rfl, ?_⟩
  repeat (refine bset ?_ (by omega))
  exact hbw

set_option maxRecDepth 100000 in
set_option maxHeartbeats 1000000 in
theorem fail_again (p t u : Int) (now : Int) (w : World) (hm : moreB m t = true) (hw0 : waitI f k t = 0) : Calls Try.prog 94 #[runV p t u false, stepV s0 s1 s2 af an ac m f k l nk nt ka kn kc da dn dc nl, .int .i64 now] w fun e w' => e = .returned (runT (failT m f k l p t u false now)) ∧ Below w.heap.size w w' := by
  have e : failT m f k l p t u false now = (1, inc t, nowI now + limI l, false) := by unfold failT; rw [hm]; simp [hw0]
  rw [e]
  have HM := Lib.hid (fun w => More_any m f k t w)
  rw [hm] at HM
  have HW := Lib.hid (fun w => Wait_any m f k t w)
  rw [hw0] at HW
  have HT := Lib.hid (fun w => try_any (s0 := s0) (s1 := s1) (s2 := s2) (af := af) (an := an) (ac := ac) (m := m) (f := f) (k := k) (l := l) (nk := nk) (nt := nt) (ka := ka) (kn := kn) (kc := kc) (da := da) (dn := dn) (dc := dc) (nl := nl) p t u false now w)
  unfold runT
  generalize inc t = T at *
  generalize nowI now + limI l = U at *
  unfold runV stepV
  unfold runV stepV at HT
  clear e hm hw0
  go_enter Try.func94, Try.ntmps94
  go_wp2_with fail
  refine (HM.out _).mono ?_
  rintro e w1 ⟨rfl, hb1⟩
  obtain ⟨y1, y2, y3, hbw⟩ := after3 w #[.int .u8 p, .int .i64 t, .int .i64 u, .bool false] #[.string s0, .string s1, .string s2, .slice af an ac, .int .i64 m, .int .i64 f, .int .i64 k, .int .i64 l, .int .u8 nk, .string nt, .slice ka kn kc, .slice da dn dc, .int .i64 nl] #[.int .u8 0, .int .i64 0, .int .i64 0, .bool false] 84 82 84 hb1
  have Y1 := Lib.hid y1; have Y2 := Lib.hid y2; have Y3 := Lib.hid y3
  obtain ⟨a0, a1, a2, a3, f0, f1, f2, f3⟩ := cells4h y1
  obtain ⟨b0, b1, b2, b3, g0, g1, g2, g3⟩ := cells4h y3
  obtain ⟨d0, d1, d2, d3, d4, d5, d6, d7, d8, d9, d10, d11, d12⟩ := cells13a y2
  clear y1 y2 y3
  go_wp2_with fail
  refine (HW.out _).mono ?_
  rintro e w2 ⟨rfl, hb2⟩
  have y1 := keepH Y1.out hb2; have y2 := keepH Y2.out hb2; have y3 := keepH Y3.out hb2
  have hbw := bthen hbw (Nat.le_refl _) hb2
  clear Y1 Y2 Y3 hb2 a0 a1 a2 a3 f0 f1 f2 f3 b0 b1 b2 b3 g0 g1 g2 g3 d0 d1 d2 d3 d4 d5 d6 d7 d8 d9 d10 d11 d12
  have Y1 := Lib.hid y1; have Y2 := Lib.hid y2; have Y3 := Lib.hid y3
  obtain ⟨a0, a1, a2, a3, f0, f1, f2, f3⟩ := cells4h y1
  obtain ⟨b0, b1, b2, b3, g0, g1, g2, g3⟩ := cells4h y3
  obtain ⟨d0, d1, d2, d3, d4, d5, d6, d7, d8, d9, d10, d11, d12⟩ := cells13a y2
  clear y1 y2 y3
  go_wp2_with fail
  refine (HT.out _).mono ?_
  rintro e w3 ⟨rfl, hb3⟩
  have y1 := keepH Y1.out hb3; have y2 := keepH Y2.out hb3; have y3 := keepH Y3.out hb3
  have hbw := bthen hbw (Nat.le_refl _) hb3
  clear Y1 Y2 Y3 hb3 a0 a1 a2 a3 f0 f1 f2 f3 b0 b1 b2 b3 g0 g1 g2 g3 d0 d1 d2 d3 d4 d5 d6 d7 d8 d9 d10 d11 d12
  have Y1 := Lib.hid y1; have Y2 := Lib.hid y2; have Y3 := Lib.hid y3
  obtain ⟨a0, a1, a2, a3, f0, f1, f2, f3⟩ := cells4h y1
  obtain ⟨b0, b1, b2, b3, g0, g1, g2, g3⟩ := cells4h y3
  obtain ⟨d0, d1, d2, d3, d4, d5, d6, d7, d8, d9, d10, d11, d12⟩ := cells13a y2
  clear y1 y2 y3
  go_wp2
  refine bodyPost_ret (v := .agg #[.int .u8 1, .int .i64 T, .int .i64 U, .bool false]) (by simp [results, Try.results94, go_sem, a0, a1, a2, a3, b0, b1, b2, b3]) rfl ⟨rfl, ?_⟩
  repeat (refine bset ?_ (by omega))
  exact hbw

theorem fail_any (p t u : Int) (b : Bool) (now : Int) (w : World) : Calls Try.prog 94 #[runV p t u b, stepV s0 s1 s2 af an ac m f k l nk nt ka kn kc da dn dc nl, .int .i64 now] w fun e w' => e = .returned (runT (failT m f k l p t u b now)) ∧ Below w.heap.size w w' := by
  cases b with
  | true => exact fail_last p t u true now w rfl
  | false =>
    cases hm : moreB m t with
    | false => exact fail_no p t u now w hm
    | true =>
      by_cases h0 : waitI f k t = 0
      · exact fail_again p t u now w hm h0
      · exact fail_wait p t u now w hm h0

end
end Go.Proofs.Ytigeedaihbpjiaa
