/-
  step: Tick: contract.
-/
import Derived.Test.YtigeedaihbpjiaaZc
namespace Go.Proofs.Ytigeedaihbpjiaa
open Go.RowKit
attribute [local go_sem ↓] Go.wp_at_zero Go.wp_at_succ

section
variable {s0 s1 s2 : ByteArray} {af : Option Addr} {an ac : Nat} {m f k l : Int} {nk : Int} {nt : ByteArray} {ka : Option Addr} {kn kc : Nat} {da : Option Addr} {dn dc : Nat} {nl : Int}

set_option maxRecDepth 100000 in
set_option maxHeartbeats 1000000 in
theorem Tick_early (p t u : Int) (b : Bool) (now : Int) (w : World) (hl : ¬ u ≤ nowI now) : Calls Try.prog 88 #[runV p t u b, stepV s0 s1 s2 af an ac m f k l nk nt ka kn kc da dn dc nl, .int .i64 now] w fun e w' => e = .returned (tupR (tickT m f k l p t u b now)) ∧ Below w.heap.size w w' := by
  have e : tickT m f k l p t u b now = ((p, t, u, b), false) := by unfold tickT; rw [if_neg hl]
  rw [e]
  have HN := Lib.hid (fun w => Now_any now w)
  generalize nowI now = N at *
  have dl : decide (u ≤ N) = false := by simpa using hl
  clear hl
  unfold tupR runT runV stepV
  dsimp only
  clear e
  go_enter Try.func88, Try.ntmps88
  go_wp2
  go_quiet ((go_at_call 55; exact Calls.quiet_of_same ((HN.out _).mono fun e w' h => ⟨h.1, h.2.symm⟩)))
  have hE := belowN (Below.refl (((w.alloc (Obj.cells #[.int .u8 p, .int .i64 t, .int .i64 u, .bool b] 84)).alloc (Obj.cells #[.string s0, .string s1, .string s2, .slice af an ac, .int .i64 m, .int .i64 f, .int .i64 k, .int .i64 l, .int .u8 nk, .string nt, .slice ka kn kc, .slice da dn dc, .int .i64 nl] 82)).alloc (Obj.cells #[.int .u8 0, .int .i64 0, .int .i64 0, .bool false] 84)).heap.size (((w.alloc (Obj.cells #[.int .u8 p, .int .i64 t, .int .i64 u, .bool b] 84)).alloc (Obj.cells #[.string s0, .string s1, .string s2, .slice af an ac, .int .i64 m, .int .i64 f, .int .i64 k, .int .i64 l, .int .u8 nk, .string nt, .slice ka kn kc, .slice da dn dc, .int .i64 nl] 82)).alloc (Obj.cells #[.int .u8 0, .int .i64 0, .int .i64 0, .bool false] 84))) nq
  obtain ⟨y1, y2, y3, hbw⟩ := after3 w #[.int .u8 p, .int .i64 t, .int .i64 u, .bool b] #[.string s0, .string s1, .string s2, .slice af an ac, .int .i64 m, .int .i64 f, .int .i64 k, .int .i64 l, .int .u8 nk, .string nt, .slice ka kn kc, .slice da dn dc, .int .i64 nl] #[.int .u8 0, .int .i64 0, .int .i64 0, .bool false] 84 82 84 hE
  clear hE
  generalize (((w.alloc (Obj.cells #[.int .u8 p, .int .i64 t, .int .i64 u, .bool b] 84)).alloc (Obj.cells #[.string s0, .string s1, .string s2, .slice af an ac, .int .i64 m, .int .i64 f, .int .i64 k, .int .i64 l, .int .u8 nk, .string nt, .slice ka kn kc, .slice da dn dc, .int .i64 nl] 82)).alloc (Obj.cells #[.int .u8 0, .int .i64 0, .int .i64 0, .bool false] 84)).drewN nq = wq at *
  have Y1 := Lib.hid y1; have Y2 := Lib.hid y2; have Y3 := Lib.hid y3
  obtain ⟨a0, a1, a2, a3, f0, f1, f2, f3⟩ := cells4h y1
  obtain ⟨b0, b1, b2, b3, g0, g1, g2, g3⟩ := cells4h y3
  obtain ⟨d0, d1, d2, d3, d4, d5, d6, d7, d8, d9, d10, d11, d12⟩ := cells13a y2
  clear y1 y2 y3
  go_wp2
  refine bodyPost_ret (v := .tuple #[.agg #[.int .u8 p, .int .i64 t, .int .i64 u, .bool b], .bool false]) (by simp [results, Try.results88, go_sem, a0, a1, a2, a3, b0, b1, b2, b3]) rfl ⟨rfl, ?_⟩
  repeat (refine bset ?_ (by omega))
  exact hbw

set_option maxRecDepth 100000 in
set_option maxHeartbeats 1000000 in
theorem Tick_other (p t u : Int) (b : Bool) (now : Int) (w : World) (hl : u ≤ nowI now) (h1 : p ≠ 1) (h2 : p ≠ 2) : Calls Try.prog 88 #[runV p t u b, stepV s0 s1 s2 af an ac m f k l nk nt ka kn kc da dn dc nl, .int .i64 now] w fun e w' => e = .returned (tupR (tickT m f k l p t u b now)) ∧ Below w.heap.size w w' := by
  have e : tickT m f k l p t u b now = ((p, t, u, b), false) := by unfold tickT; rw [if_pos hl, if_neg h1, if_neg h2]
  rw [e]
  have HN := Lib.hid (fun w => Now_any now w)
  generalize nowI now = N at *
  have dl : decide (u ≤ N) = true := by simpa using hl
  have d1 : (p == 1) = false := by simpa using h1
  have d2 : (p == 2) = false := by simpa using h2
  clear hl h1 h2
  unfold tupR runT runV stepV
  dsimp only
  clear e
  go_enter Try.func88, Try.ntmps88
  go_wp2
  go_quiet ((go_at_call 55; exact Calls.quiet_of_same ((HN.out _).mono fun e w' h => ⟨h.1, h.2.symm⟩)))
  have hE := belowN (Below.refl (((w.alloc (Obj.cells #[.int .u8 p, .int .i64 t, .int .i64 u, .bool b] 84)).alloc (Obj.cells #[.string s0, .string s1, .string s2, .slice af an ac, .int .i64 m, .int .i64 f, .int .i64 k, .int .i64 l, .int .u8 nk, .string nt, .slice ka kn kc, .slice da dn dc, .int .i64 nl] 82)).alloc (Obj.cells #[.int .u8 0, .int .i64 0, .int .i64 0, .bool false] 84)).heap.size (((w.alloc (Obj.cells #[.int .u8 p, .int .i64 t, .int .i64 u, .bool b] 84)).alloc (Obj.cells #[.string s0, .string s1, .string s2, .slice af an ac, .int .i64 m, .int .i64 f, .int .i64 k, .int .i64 l, .int .u8 nk, .string nt, .slice ka kn kc, .slice da dn dc, .int .i64 nl] 82)).alloc (Obj.cells #[.int .u8 0, .int .i64 0, .int .i64 0, .bool false] 84))) nq
  obtain ⟨y1, y2, y3, hbw⟩ := after3 w #[.int .u8 p, .int .i64 t, .int .i64 u, .bool b] #[.string s0, .string s1, .string s2, .slice af an ac, .int .i64 m, .int .i64 f, .int .i64 k, .int .i64 l, .int .u8 nk, .string nt, .slice ka kn kc, .slice da dn dc, .int .i64 nl] #[.int .u8 0, .int .i64 0, .int .i64 0, .bool false] 84 82 84 hE
  clear hE
  generalize (((w.alloc (Obj.cells #[.int .u8 p, .int .i64 t, .int .i64 u, .bool b] 84)).alloc (Obj.cells #[.string s0, .string s1, .string s2, .slice af an ac, .int .i64 m, .int .i64 f, .int .i64 k, .int .i64 l, .int .u8 nk, .string nt, .slice ka kn kc, .slice da dn dc, .int .i64 nl] 82)).alloc (Obj.cells #[.int .u8 0, .int .i64 0, .int .i64 0, .bool false] 84)).drewN nq = wq at *
  have Y1 := Lib.hid y1; have Y2 := Lib.hid y2; have Y3 := Lib.hid y3
  obtain ⟨a0, a1, a2, a3, f0, f1, f2, f3⟩ := cells4h y1
  obtain ⟨b0, b1, b2, b3, g0, g1, g2, g3⟩ := cells4h y3
  obtain ⟨d0, d1, d2, d3, d4, d5, d6, d7, d8, d9, d10, d11, d12⟩ := cells13a y2
  clear y1 y2 y3
  go_wp2
  refine bodyPost_ret (v := .tuple #[.agg #[.int .u8 p, .int .i64 t, .int .i64 u, .bool b], .bool false]) (by simp [results, Try.results88, go_sem, a0, a1, a2, a3, b0, b1, b2, b3]) rfl ⟨rfl, ?_⟩
  repeat (refine bset ?_ (by omega))
  exact hbw

set_option maxRecDepth 100000 in
set_option maxHeartbeats 1000000 in
theorem Tick_fail (p t u : Int) (b : Bool) (now : Int) (w : World) (hl : u ≤ nowI now) (h1 : p = 1) : Calls Try.prog 88 #[runV p t u b, stepV s0 s1 s2 af an ac m f k l nk nt ka kn kc da dn dc nl, .int .i64 now] w fun e w' => e = .returned (tupR (tickT m f k l p t u b now)) ∧ Below w.heap.size w w' := by
  have e : tickT m f k l p t u b now = (failT m f k l p t u b now, true) := by unfold tickT; rw [if_pos hl, if_pos h1]
  rw [e]
  have HN := Lib.hid (fun w => Now_any now w)
  have HE := Lib.hid (fun w => fail_any (s0 := s0) (s1 := s1) (s2 := s2) (af := af) (an := an) (ac := ac) (m := m) (f := f) (k := k) (l := l) (nk := nk) (nt := nt) (ka := ka) (kn := kn) (kc := kc) (da := da) (dn := dn) (dc := dc) (nl := nl) p t u b now w)
  generalize failT m f k l p t u b now = X at *
  obtain ⟨q1, q2, q3, q4⟩ := X
  unfold runT runV stepV at HE
  dsimp only at HE
  generalize nowI now = N at *
  have dl : decide (u ≤ N) = true := by simpa using hl
  have d1 : (p == 1) = true := by simpa using h1
  clear hl h1
  unfold tupR runT runV stepV
  dsimp only
  clear e
  go_enter Try.func88, Try.ntmps88
  go_wp2
  go_quiet ((go_at_call 55; exact Calls.quiet_of_same ((HN.out _).mono fun e w' h => ⟨h.1, h.2.symm⟩)))
  have hE := belowN (Below.refl (((w.alloc (Obj.cells #[.int .u8 p, .int .i64 t, .int .i64 u, .bool b] 84)).alloc (Obj.cells #[.string s0, .string s1, .string s2, .slice af an ac, .int .i64 m, .int .i64 f, .int .i64 k, .int .i64 l, .int .u8 nk, .string nt, .slice ka kn kc, .slice da dn dc, .int .i64 nl] 82)).alloc (Obj.cells #[.int .u8 0, .int .i64 0, .int .i64 0, .bool false] 84)).heap.size (((w.alloc (Obj.cells #[.int .u8 p, .int .i64 t, .int .i64 u, .bool b] 84)).alloc (Obj.cells #[.string s0, .string s1, .string s2, .slice af an ac, .int .i64 m, .int .i64 f, .int .i64 k, .int .i64 l, .int .u8 nk, .string nt, .slice ka kn kc, .slice da dn dc, .int .i64 nl] 82)).alloc (Obj.cells #[.int .u8 0, .int .i64 0, .int .i64 0, .bool false] 84))) nq
  obtain ⟨y1, y2, y3, hbw⟩ := after3 w #[.int .u8 p, .int .i64 t, .int .i64 u, .bool b] #[.string s0, .string s1, .string s2, .slice af an ac, .int .i64 m, .int .i64 f, .int .i64 k, .int .i64 l, .int .u8 nk, .string nt, .slice ka kn kc, .slice da dn dc, .int .i64 nl] #[.int .u8 0, .int .i64 0, .int .i64 0, .bool false] 84 82 84 hE
  clear hE
  generalize (((w.alloc (Obj.cells #[.int .u8 p, .int .i64 t, .int .i64 u, .bool b] 84)).alloc (Obj.cells #[.string s0, .string s1, .string s2, .slice af an ac, .int .i64 m, .int .i64 f, .int .i64 k, .int .i64 l, .int .u8 nk, .string nt, .slice ka kn kc, .slice da dn dc, .int .i64 nl] 82)).alloc (Obj.cells #[.int .u8 0, .int .i64 0, .int .i64 0, .bool false] 84)).drewN nq = wq at *
  have Y1 := Lib.hid y1; have Y2 := Lib.hid y2; have Y3 := Lib.hid y3
  obtain ⟨a0, a1, a2, a3, f0, f1, f2, f3⟩ := cells4h y1
  obtain ⟨b0, b1, b2, b3, g0, g1, g2, g3⟩ := cells4h y3
  obtain ⟨d0, d1, d2, d3, d4, d5, d6, d7, d8, d9, d10, d11, d12⟩ := cells13a y2
  clear y1 y2 y3
  go_wp2_with fail
  refine (HE.out _).mono ?_
  rintro e w3 ⟨rfl, hb3⟩
  have y1 := keepH Y1.out hb3; have y2 := keepH Y2.out hb3; have y3 := keepH Y3.out hb3
  have hbw := bthen hbw (Nat.le_refl _) hb3
  clear Y1 Y2 Y3 hb3 a0 a1 a2 a3 f0 f1 f2 f3 b0 b1 b2 b3 g0 g1 g2 g3 d0 d1 d2 d3 d4 d5 d6 d7 d8 d9 d10 d11 d12
  have Y1 := Lib.hid y1; have Y2 := Lib.hid y2; have Y3 := Lib.hid y3
  obtain ⟨a0, a1, a2, a3, f0, f1, f2, f3⟩ := cells4h y1
  obtain ⟨b0, b1, b2, b3, g0, g1, g2, g3⟩ := cells4h y3
  obtain ⟨d0, d1, d2, d3, d4, d5, d6, d7, d8, d9, d10, d11, d12⟩ := cells13a y2
  clear y1 y2 y3
  go_wp2
  refine bodyPost_ret (v := .tuple #[.agg #[.int .u8 q1, .int .i64 q2, .int .i64 q3, .bool q4], .bool true]) (by simp [results, Try.results88, go_sem, a0, a1, a2, a3, b0, b1, b2, b3]) rfl ⟨rfl, ?_⟩
  repeat (refine bset ?_ (by omega))
  exact hbw

set_option maxRecDepth 100000 in
set_option maxHeartbeats 1000000 in
theorem Tick_try (p t u : Int) (b : Bool) (now : Int) (w : World) (hl : u ≤ nowI now) (h1 : p = 2) : Calls Try.prog 88 #[runV p t u b, stepV s0 s1 s2 af an ac m f k l nk nt ka kn kc da dn dc nl, .int .i64 now] w fun e w' => e = .returned (tupR (tickT m f k l p t u b now)) ∧ Below w.heap.size w w' := by
  have e : tickT m f k l p t u b now = ((1, inc t, nowI now + limI l, b), true) := by unfold tickT; rw [if_pos hl, h1]; rfl
  rw [e]
  have HN := Lib.hid (fun w => Now_any now w)
  have HE := Lib.hid (fun w => try_any (s0 := s0) (s1 := s1) (s2 := s2) (af := af) (an := an) (ac := ac) (m := m) (f := f) (k := k) (l := l) (nk := nk) (nt := nt) (ka := ka) (kn := kn) (kc := kc) (da := da) (dn := dn) (dc := dc) (nl := nl) p t u b now w)
  generalize inc t = T at *
  have dl : decide (u ≤ nowI now) = true := by simpa using hl
  generalize nowI now + limI l = U at *
  unfold runV stepV at HE
  generalize nowI now = N at *
  have d1 : (p == 1) = false := by rw [h1]; rfl
  have d2 : (p == 2) = true := by simpa using h1
  clear hl h1
  unfold tupR runT runV stepV
  dsimp only
  clear e
  go_enter Try.func88, Try.ntmps88
  go_wp2
  go_quiet ((go_at_call 55; exact Calls.quiet_of_same ((HN.out _).mono fun e w' h => ⟨h.1, h.2.symm⟩)))
  have hE := belowN (Below.refl (((w.alloc (Obj.cells #[.int .u8 p, .int .i64 t, .int .i64 u, .bool b] 84)).alloc (Obj.cells #[.string s0, .string s1, .string s2, .slice af an ac, .int .i64 m, .int .i64 f, .int .i64 k, .int .i64 l, .int .u8 nk, .string nt, .slice ka kn kc, .slice da dn dc, .int .i64 nl] 82)).alloc (Obj.cells #[.int .u8 0, .int .i64 0, .int .i64 0, .bool false] 84)).heap.size (((w.alloc (Obj.cells #[.int .u8 p, .int .i64 t, .int .i64 u, .bool b] 84)).alloc (Obj.cells #[.string s0, .string s1, .string s2, .slice af an ac, .int .i64 m, .int .i64 f, .int .i64 k, .int .i64 l, .int .u8 nk, .string nt, .slice ka kn kc, .slice da dn dc, .int .i64 nl] 82)).alloc (Obj.cells #[.int .u8 0, .int .i64 0, .int .i64 0, .bool false] 84))) nq
  obtain ⟨y1, y2, y3, hbw⟩ := after3 w #[.int .u8 p, .int .i64 t, .int .i64 u, .bool b] #[.string s0, .string s1, .string s2, .slice af an ac, .int .i64 m, .int .i64 f, .int .i64 k, .int .i64 l, .int .u8 nk, .string nt, .slice ka kn kc, .slice da dn dc, .int .i64 nl] #[.int .u8 0, .int .i64 0, .int .i64 0, .bool false] 84 82 84 hE
  clear hE
  generalize (((w.alloc (Obj.cells #[.int .u8 p, .int .i64 t, .int .i64 u, .bool b] 84)).alloc (Obj.cells #[.string s0, .string s1, .string s2, .slice af an ac, .int .i64 m, .int .i64 f, .int .i64 k, .int .i64 l, .int .u8 nk, .string nt, .slice ka kn kc, .slice da dn dc, .int .i64 nl] 82)).alloc (Obj.cells #[.int .u8 0, .int .i64 0, .int .i64 0, .bool false] 84)).drewN nq = wq at *
  have Y1 := Lib.hid y1; have Y2 := Lib.hid y2; have Y3 := Lib.hid y3
  obtain ⟨a0, a1, a2, a3, f0, f1, f2, f3⟩ := cells4h y1
  obtain ⟨b0, b1, b2, b3, g0, g1, g2, g3⟩ := cells4h y3
  obtain ⟨d0, d1, d2, d3, d4, d5, d6, d7, d8, d9, d10, d11, d12⟩ := cells13a y2
  clear y1 y2 y3
  go_wp2_with fail
  refine (HE.out _).mono ?_
  rintro e w3 ⟨rfl, hb3⟩
  have y1 := keepH Y1.out hb3; have y2 := keepH Y2.out hb3; have y3 := keepH Y3.out hb3
  have hbw := bthen hbw (Nat.le_refl _) hb3
  clear Y1 Y2 Y3 hb3 a0 a1 a2 a3 f0 f1 f2 f3 b0 b1 b2 b3 g0 g1 g2 g3 d0 d1 d2 d3 d4 d5 d6 d7 d8 d9 d10 d11 d12
  have Y1 := Lib.hid y1; have Y2 := Lib.hid y2; have Y3 := Lib.hid y3
  obtain ⟨a0, a1, a2, a3, f0, f1, f2, f3⟩ := cells4h y1
  obtain ⟨b0, b1, b2, b3, g0, g1, g2, g3⟩ := cells4h y3
  obtain ⟨d0, d1, d2, d3, d4, d5, d6, d7, d8, d9, d10, d11, d12⟩ := cells13a y2
  clear y1 y2 y3
  go_wp2
  refine bodyPost_ret (v := .tuple #[.agg #[.int .u8 1, .int .i64 T, .int .i64 U, .bool b], .bool true]) (by simp [results, Try.results88, go_sem, a0, a1, a2, a3, b0, b1, b2, b3]) rfl ⟨rfl, ?_⟩
  repeat (refine bset ?_ (by omega))
  exact hbw

theorem Tick_any (p t u : Int) (b : Bool) (now : Int) (w : World) : Calls Try.prog 88 #[runV p t u b, stepV s0 s1 s2 af an ac m f k l nk nt ka kn kc da dn dc nl, .int .i64 now] w fun e w' => e = .returned (tupR (tickT m f k l p t u b now)) ∧ Below w.heap.size w w' := by
  by_cases hl : u ≤ nowI now
  · by_cases h1 : p = 1
    · exact Tick_fail p t u b now w hl h1
    · by_cases h2 : p = 2
      · exact Tick_try p t u b now w hl h2
      · exact Tick_other p t u b now w hl h1 h2
  · exact Tick_early p t u b now w hl
end
end Go.Proofs.Ytigeedaihbpjiaa
