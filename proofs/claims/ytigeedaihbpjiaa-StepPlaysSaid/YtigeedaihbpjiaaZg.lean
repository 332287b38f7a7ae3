/-
  step: the reference's Begin, Answer, Tick, Stop: contracts.
-/
import Derived.Test.YtigeedaihbpjiaaZf
namespace Go.Proofs.Ytigeedaihbpjiaa
open Go.RowKit
attribute [local go_sem ↓] Go.wp_at_zero Go.wp_at_succ

section
variable {s0 s1 s2 : ByteArray} {af : Option Addr} {an ac : Nat} {m f k l : Int} {nk : Int} {nt : ByteArray} {ka : Option Addr} {kn kc : Nat} {da : Option Addr} {dn dc : Nat} {nl : Int}

set_option maxRecDepth 100000 in
set_option maxHeartbeats 1000000 in
theorem rBegin_any (now : Int) (w : World) : Calls Try.prog 53 #[stepV s0 s1 s2 af an ac m f k l nk nt ka kn kc da dn dc nl, .int .i64 now] w fun e w' => e = .returned (runV 1 (inc 0) (nowI now + limI l) false) ∧ Below w.heap.size w w' := by
  have HT := Lib.hid (fun w => rnext_any (s0 := s0) (s1 := s1) (s2 := s2) (af := af) (an := an) (ac := ac) (m := m) (f := f) (k := k) (l := l) (nk := nk) (nt := nt) (ka := ka) (kn := kn) (kc := kc) (da := da) (dn := dn) (dc := dc) (nl := nl) 0 0 0 false now w)
  generalize inc 0 = T at *
  generalize nowI now + limI l = U at *
  unfold runV stepV
  unfold runV stepV at HT
  go_enter Try.func53, Try.ntmps53
  go_wp2_with fail
  refine (HT.out _).mono ?_
  rintro e w1 ⟨rfl, hb1⟩
  obtain ⟨_, y2, hbw⟩ := after2 w #[.string s0, .string s1, .string s2, .slice af an ac, .int .i64 m, .int .i64 f, .int .i64 k, .int .i64 l, .int .u8 nk, .string nt, .slice ka kn kc, .slice da dn dc, .int .i64 nl] #[.int .u8 0, .int .i64 0, .int .i64 0, .bool false] 82 86 hb1
  obtain ⟨b0, b1, b2, b3, g0, g1, g2, g3⟩ := cells4h y2
  clear y2
  go_wp2
  refine bodyPost_ret (v := .agg #[.int .u8 1, .int .i64 T, .int .i64 U, .bool false]) (by simp [results, Try.results53, go_sem, b0, b1, b2, b3]) rfl ⟨rfl, ?_⟩
  repeat (refine bset ?_ (by omega))
  exact hbw

set_option maxRecDepth 100000 in
set_option maxHeartbeats 1000000 in
theorem rAnswer_other (p t u : Int) (b : Bool) (now tr o : Int) (w : World) (hp : p ≠ 1) : Calls Try.prog 50 #[runV p t u b, stepV s0 s1 s2 af an ac m f k l nk nt ka kn kc da dn dc nl, .int .i64 now, .int .i64 tr, .int .u8 o] w fun e w' => e = .returned (tupR (answerT m f k l p t u b now tr o)) ∧ Below w.heap.size w w' := by
  have e : answerT m f k l p t u b now tr o = ((p, t, u, b), false) := by unfold answerT; rw [if_neg (fun h => hp h.1)]
  rw [e]
  have d1 : (p == 1) = false := by simpa using hp
  have d2 : (p != 1) = true := by simpa using hp
  clear hp
  unfold tupR runT runV stepV
  dsimp only
  clear e
  go_enter Try.func50, Try.ntmps50
  go_wp2
  refine bodyPost_ret (v := .tuple #[.agg #[.int .u8 p, .int .i64 t, .int .i64 u, .bool b], .bool false]) (by simp [results, Try.results50, go_sem]) rfl ⟨rfl, ?_⟩
  exact (((Below.refl _ w).alloc (Nat.le_refl _) _).alloc (by simp) _).alloc (by simp; omega) _

set_option maxRecDepth 100000 in
set_option maxHeartbeats 1000000 in
theorem rAnswer_try (p t u : Int) (b : Bool) (now tr o : Int) (w : World) (hp : p = 1) (ht : t ≠ tr) : Calls Try.prog 50 #[runV p t u b, stepV s0 s1 s2 af an ac m f k l nk nt ka kn kc da dn dc nl, .int .i64 now, .int .i64 tr, .int .u8 o] w fun e w' => e = .returned (tupR (answerT m f k l p t u b now tr o)) ∧ Below w.heap.size w w' := by
  have e : answerT m f k l p t u b now tr o = ((p, t, u, b), false) := by unfold answerT; rw [if_neg (fun h => ht h.2)]
  rw [e]
  have d1 : (p == 1) = true := by simpa using hp
  have d2 : (p != 1) = false := by simpa using hp
  have d3 : (tr == t) = false := by simp; omega
  have d4 : (tr != t) = true := by simp; omega
  clear hp ht
  unfold tupR runT runV stepV
  dsimp only
  clear e
  go_enter Try.func50, Try.ntmps50
  go_wp2
  refine bodyPost_ret (v := .tuple #[.agg #[.int .u8 p, .int .i64 t, .int .i64 u, .bool b], .bool false]) (by simp [results, Try.results50, go_sem]) rfl ⟨rfl, ?_⟩
  exact (((Below.refl _ w).alloc (Nat.le_refl _) _).alloc (by simp) _).alloc (by simp; omega) _

set_option maxRecDepth 100000 in
set_option maxHeartbeats 1000000 in
theorem rAnswer_odd (p t u : Int) (b : Bool) (now tr o : Int) (w : World) (hp : p = 1) (ht : t = tr) (h2 : 2 < o) : Calls Try.prog 50 #[runV p t u b, stepV s0 s1 s2 af an ac m f k l nk nt ka kn kc da dn dc nl, .int .i64 now, .int .i64 tr, .int .u8 o] w fun e w' => e = .returned (tupR (answerT m f k l p t u b now tr o)) ∧ Below w.heap.size w w' := by
  have e : answerT m f k l p t u b now tr o = ((p, t, u, b), false) := by unfold answerT; rw [if_pos ⟨hp, ht⟩, if_neg (by omega), if_neg (by omega), if_neg (by omega)]
  rw [e]
  have d1 : (p == 1) = true := by simpa using hp
  have d2 : (p != 1) = false := by simpa using hp
  have d3 : (tr == t) = true := by simp; omega
  have d4 : (tr != t) = false := by simp; omega
  have d5 : decide (2 < o) = true := by simpa using h2
  clear hp ht h2
  unfold tupR runT runV stepV
  dsimp only
  clear e
  go_enter Try.func50, Try.ntmps50
  go_wp2
  refine bodyPost_ret (v := .tuple #[.agg #[.int .u8 p, .int .i64 t, .int .i64 u, .bool b], .bool false]) (by simp [results, Try.results50, go_sem]) rfl ⟨rfl, ?_⟩
  exact (((Below.refl _ w).alloc (Nat.le_refl _) _).alloc (by simp) _).alloc (by simp; omega) _

set_option maxRecDepth 100000 in
set_option maxHeartbeats 1000000 in
theorem rAnswer_done (p t u : Int) (b : Bool) (now tr o : Int) (w : World) (hp : p = 1) (ht : t = tr) (h0 : o = 0) : Calls Try.prog 50 #[runV p t u b, stepV s0 s1 s2 af an ac m f k l nk nt ka kn kc da dn dc nl, .int .i64 now, .int .i64 tr, .int .u8 o] w fun e w' => e = .returned (tupR (answerT m f k l p t u b now tr o)) ∧ Below w.heap.size w w' := by
  subst h0 -- 0
  have e : answerT m f k l p t u b now tr 0 = ((3, t, 0, b), true) := by unfold answerT; rw [if_pos ⟨hp, ht⟩]; rfl
  rw [e]
  have d1 : (p == 1) = true := by simpa using hp
  have d2 : (p != 1) = false := by simpa using hp
  have d3 : (tr == t) = true := by simp; omega
  have d4 : (tr != t) = false := by simp; omega
  clear hp ht
  unfold tupR runT runV stepV
  dsimp only
  clear e
  go_enter Try.func50, Try.ntmps50
  go_wp2
  refine bodyPost_ret (v := .tuple #[.agg #[.int .u8 3, .int .i64 t, .int .i64 0, .bool b], .bool true]) (by simp [results, Try.results50, go_sem]) rfl ⟨rfl, ?_⟩
  exact (((Below.refl _ w).alloc (Nat.le_refl _) _).alloc (by simp) _).alloc (by simp; omega) _

set_option maxRecDepth 100000 in
set_option maxHeartbeats 1000000 in
theorem rAnswer_fatal (p t u : Int) (b : Bool) (now tr o : Int) (w : World) (hp : p = 1) (ht : t = tr) (h0 : o = 2) : Calls Try.prog 50 #[runV p t u b, stepV s0 s1 s2 af an ac m f k l nk nt ka kn kc da dn dc nl, .int .i64 now, .int .i64 tr, .int .u8 o] w fun e w' => e = .returned (tupR (answerT m f k l p t u b now tr o)) ∧ Below w.heap.size w w' := by
  subst h0 -- 2
  have e : answerT m f k l p t u b now tr 2 = ((4, t, 0, b), true) := by unfold answerT; rw [if_pos ⟨hp, ht⟩]; rfl
  rw [e]
  have d1 : (p == 1) = true := by simpa using hp
  have d2 : (p != 1) = false := by simpa using hp
  have d3 : (tr == t) = true := by simp; omega
  have d4 : (tr != t) = false := by simp; omega
  clear hp ht
  unfold tupR runT runV stepV
  dsimp only
  clear e
  go_enter Try.func50, Try.ntmps50
  go_wp2
  refine bodyPost_ret (v := .tuple #[.agg #[.int .u8 4, .int .i64 t, .int .i64 0, .bool b], .bool true]) (by simp [results, Try.results50, go_sem]) rfl ⟨rfl, ?_⟩
  exact (((Below.refl _ w).alloc (Nat.le_refl _) _).alloc (by simp) _).alloc (by simp; omega) _

set_option maxRecDepth 100000 in
set_option maxHeartbeats 1000000 in
theorem rAnswer_fail (p t u : Int) (b : Bool) (now tr o : Int) (w : World) (hp : p = 1) (ht : t = tr) (h0 : o = 1) : Calls Try.prog 50 #[runV p t u b, stepV s0 s1 s2 af an ac m f k l nk nt ka kn kc da dn dc nl, .int .i64 now, .int .i64 tr, .int .u8 o] w fun e w' => e = .returned (tupR (answerT m f k l p t u b now tr o)) ∧ Below w.heap.size w w' := by
  subst h0 -- 1
  have e : answerT m f k l p t u b now tr 1 = (failT m f k l p t u b now, true) := by unfold answerT; rw [if_pos ⟨hp, ht⟩]; rfl
  rw [e]
  have d1 : (p == 1) = true := by simpa using hp
  have d2 : (p != 1) = false := by simpa using hp
  have d3 : (tr == t) = true := by simp; omega
  have d4 : (tr != t) = false := by simp; omega
  have HE := Lib.hid (fun w => rfails_any (s0 := s0) (s1 := s1) (s2 := s2) (af := af) (an := an) (ac := ac) (m := m) (f := f) (k := k) (l := l) (nk := nk) (nt := nt) (ka := ka) (kn := kn) (kc := kc) (da := da) (dn := dn) (dc := dc) (nl := nl) p t u b now w)
  generalize failT m f k l p t u b now = X at *
  obtain ⟨q1, q2, q3, q4⟩ := X
  unfold runT runV stepV at HE
  dsimp only at HE
  clear hp ht
  unfold tupR runT runV stepV
  dsimp only
  clear e
  go_enter Try.func50, Try.ntmps50
  go_wp2_with fail
  refine (HE.out _).mono ?_
  rintro e w1 ⟨rfl, hb1⟩
  obtain ⟨y1, y2, y3, hbw⟩ := after3 w #[.int .u8 p, .int .i64 t, .int .i64 u, .bool b] #[.string s0, .string s1, .string s2, .slice af an ac, .int .i64 m, .int .i64 f, .int .i64 k, .int .i64 l, .int .u8 nk, .string nt, .slice ka kn kc, .slice da dn dc, .int .i64 nl] #[.int .u8 0, .int .i64 0, .int .i64 0, .bool false] 86 82 86 hb1
  have Y1 := Lib.hid y1; have Y2 := Lib.hid y2; have Y3 := Lib.hid y3
  obtain ⟨a0, a1, a2, a3, f0, f1, f2, f3⟩ := cells4h y1
  obtain ⟨b0, b1, b2, b3, g0, g1, g2, g3⟩ := cells4h y3
  obtain ⟨d0, d1, d2, d3, d4, d5, d6, d7, d8, d9, d10, d11, d12⟩ := cells13a y2
  clear y1 y2 y3
  go_wp2
  refine bodyPost_ret (v := .tuple #[.agg #[.int .u8 q1, .int .i64 q2, .int .i64 q3, .bool q4], .bool true]) (by simp [results, Try.results50, go_sem, a0, a1, a2, a3, b0, b1, b2, b3]) rfl ⟨rfl, ?_⟩
  repeat (refine bset ?_ (by omega))
  exact hbw

theorem rAnswer_any (p t u : Int) (b : Bool) (now tr o : Int) (w : World) (ho : 0 ≤ o) : Calls Try.prog 50 #[runV p t u b, stepV s0 s1 s2 af an ac m f k l nk nt ka kn kc da dn dc nl, .int .i64 now, .int .i64 tr, .int .u8 o] w fun e w' => e = .returned (tupR (answerT m f k l p t u b now tr o)) ∧ Below w.heap.size w w' := by
  by_cases hp : p = 1
  · by_cases ht : t = tr
    · by_cases h0 : o = 0
      · exact rAnswer_done p t u b now tr o w hp ht h0
      · by_cases h1 : o = 1
        · exact rAnswer_fail p t u b now tr o w hp ht h1
        · by_cases h2 : o = 2
          · exact rAnswer_fatal p t u b now tr o w hp ht h2
          · exact rAnswer_odd p t u b now tr o w hp ht (by omega)
    · exact rAnswer_try p t u b now tr o w hp ht
  · exact rAnswer_other p t u b now tr o w hp

set_option maxRecDepth 100000 in
set_option maxHeartbeats 1000000 in
theorem rTick_e1 (p t u : Int) (b : Bool) (now : Int) (w : World) (hl : ¬ u ≤ nowI now) (h1 : p = 1) : Calls Try.prog 51 #[runV p t u b, stepV s0 s1 s2 af an ac m f k l nk nt ka kn kc da dn dc nl, .int .i64 now] w fun e w' => e = .returned (tupR (tickT m f k l p t u b now)) ∧ Below w.heap.size w w' := by
  have e : tickT m f k l p t u b now = ((p, t, u, b), false) := by unfold tickT; rw [if_neg hl]
  rw [e]
  have HN := Lib.hid (fun w => rNow_any now w)
  generalize nowI now = N at *
  have dl : decide (u ≤ N) = false := by simpa using hl
  have d1 : (p == 1) = true := by simpa using h1
  have d2 : (p == 2) = false := by rw [h1]; rfl
  clear hl h1
  unfold tupR runT runV stepV
  dsimp only
  clear e
  go_enter Try.func51, Try.ntmps51
  go_wp2
  go_quiet ((go_at_call 56; exact Calls.quiet_of_same ((HN.out _).mono fun e w' h => ⟨h.1, h.2.symm⟩)))
  have hE := belowN (Below.refl (((w.alloc (Obj.cells #[.int .u8 p, .int .i64 t, .int .i64 u, .bool b] 86)).alloc (Obj.cells #[.string s0, .string s1, .string s2, .slice af an ac, .int .i64 m, .int .i64 f, .int .i64 k, .int .i64 l, .int .u8 nk, .string nt, .slice ka kn kc, .slice da dn dc, .int .i64 nl] 82)).alloc (Obj.cells #[.int .u8 0, .int .i64 0, .int .i64 0, .bool false] 86)).heap.size (((w.alloc (Obj.cells #[.int .u8 p, .int .i64 t, .int .i64 u, .bool b] 86)).alloc (Obj.cells #[.string s0, .string s1, .string s2, .slice af an ac, .int .i64 m, .int .i64 f, .int .i64 k, .int .i64 l, .int .u8 nk, .string nt, .slice ka kn kc, .slice da dn dc, .int .i64 nl] 82)).alloc (Obj.cells #[.int .u8 0, .int .i64 0, .int .i64 0, .bool false] 86))) nq
  obtain ⟨y1, y2, y3, hbw⟩ := after3 w #[.int .u8 p, .int .i64 t, .int .i64 u, .bool b] #[.string s0, .string s1, .string s2, .slice af an ac, .int .i64 m, .int .i64 f, .int .i64 k, .int .i64 l, .int .u8 nk, .string nt, .slice ka kn kc, .slice da dn dc, .int .i64 nl] #[.int .u8 0, .int .i64 0, .int .i64 0, .bool false] 86 82 86 hE
  clear hE
  generalize (((w.alloc (Obj.cells #[.int .u8 p, .int .i64 t, .int .i64 u, .bool b] 86)).alloc (Obj.cells #[.string s0, .string s1, .string s2, .slice af an ac, .int .i64 m, .int .i64 f, .int .i64 k, .int .i64 l, .int .u8 nk, .string nt, .slice ka kn kc, .slice da dn dc, .int .i64 nl] 82)).alloc (Obj.cells #[.int .u8 0, .int .i64 0, .int .i64 0, .bool false] 86)).drewN nq = wq at *
  have Y1 := Lib.hid y1; have Y2 := Lib.hid y2; have Y3 := Lib.hid y3
  obtain ⟨a0, a1, a2, a3, f0, f1, f2, f3⟩ := cells4h y1
  obtain ⟨b0, b1, b2, b3, g0, g1, g2, g3⟩ := cells4h y3
  obtain ⟨d0, d1, d2, d3, d4, d5, d6, d7, d8, d9, d10, d11, d12⟩ := cells13a y2
  clear y1 y2 y3
  go_wp2
  go_quiet ((go_at_call 56; exact Calls.quiet_of_same ((HN.out _).mono fun e w' h => ⟨h.1, h.2.symm⟩)))
  have hE := belowN (Below.refl wq.heap.size wq) nq
  have y1 := keepH Y1.out hE; have y2 := keepH Y2.out hE; have y3 := keepH Y3.out hE
  have hbw := bthen hbw (Nat.le_refl _) hE
  clear a0 a1 a2 a3 f0 f1 f2 f3 b0 b1 b2 b3 g0 g1 g2 g3 d0 d1 d2 d3 d4 d5 d6 d7 d8 d9 d10 d11 d12 Y1 Y2 Y3 hE
  generalize wq.drewN nq = wp at *
  have Y1 := Lib.hid y1; have Y2 := Lib.hid y2; have Y3 := Lib.hid y3
  obtain ⟨a0, a1, a2, a3, f0, f1, f2, f3⟩ := cells4h y1
  obtain ⟨b0, b1, b2, b3, g0, g1, g2, g3⟩ := cells4h y3
  obtain ⟨d0, d1, d2, d3, d4, d5, d6, d7, d8, d9, d10, d11, d12⟩ := cells13a y2
  clear y1 y2 y3
  go_wp2
  refine bodyPost_ret (v := .tuple #[.agg #[.int .u8 p, .int .i64 t, .int .i64 u, .bool b], .bool false]) (by simp [results, Try.results51, go_sem, a0, a1, a2, a3, b0, b1, b2, b3]) rfl ⟨rfl, ?_⟩
  repeat (refine bset ?_ (by omega))
  exact hbw

set_option maxRecDepth 100000 in
set_option maxHeartbeats 1000000 in
theorem rTick_e2 (p t u : Int) (b : Bool) (now : Int) (w : World) (hl : ¬ u ≤ nowI now) (h1 : p = 2) : Calls Try.prog 51 #[runV p t u b, stepV s0 s1 s2 af an ac m f k l nk nt ka kn kc da dn dc nl, .int .i64 now] w fun e w' => e = .returned (tupR (tickT m f k l p t u b now)) ∧ Below w.heap.size w w' := by
  have e : tickT m f k l p t u b now = ((p, t, u, b), false) := by unfold tickT; rw [if_neg hl]
  rw [e]
  have HN := Lib.hid (fun w => rNow_any now w)
  generalize nowI now = N at *
  have dl : decide (u ≤ N) = false := by simpa using hl
  have d1 : (p == 1) = false := by rw [h1]; rfl
  have d2 : (p == 2) = true := by simpa using h1
  clear hl h1
  unfold tupR runT runV stepV
  dsimp only
  clear e
  go_enter Try.func51, Try.ntmps51
  go_wp2
  go_quiet ((go_at_call 56; exact Calls.quiet_of_same ((HN.out _).mono fun e w' h => ⟨h.1, h.2.symm⟩)))
  have hE := belowN (Below.refl (((w.alloc (Obj.cells #[.int .u8 p, .int .i64 t, .int .i64 u, .bool b] 86)).alloc (Obj.cells #[.string s0, .string s1, .string s2, .slice af an ac, .int .i64 m, .int .i64 f, .int .i64 k, .int .i64 l, .int .u8 nk, .string nt, .slice ka kn kc, .slice da dn dc, .int .i64 nl] 82)).alloc (Obj.cells #[.int .u8 0, .int .i64 0, .int .i64 0, .bool false] 86)).heap.size (((w.alloc (Obj.cells #[.int .u8 p, .int .i64 t, .int .i64 u, .bool b] 86)).alloc (Obj.cells #[.string s0, .string s1, .string s2, .slice af an ac, .int .i64 m, .int .i64 f, .int .i64 k, .int .i64 l, .int .u8 nk, .string nt, .slice ka kn kc, .slice da dn dc, .int .i64 nl] 82)).alloc (Obj.cells #[.int .u8 0, .int .i64 0, .int .i64 0, .bool false] 86))) nq
  obtain ⟨y1, y2, y3, hbw⟩ := after3 w #[.int .u8 p, .int .i64 t, .int .i64 u, .bool b] #[.string s0, .string s1, .string s2, .slice af an ac, .int .i64 m, .int .i64 f, .int .i64 k, .int .i64 l, .int .u8 nk, .string nt, .slice ka kn kc, .slice da dn dc, .int .i64 nl] #[.int .u8 0, .int .i64 0, .int .i64 0, .bool false] 86 82 86 hE
  clear hE
  generalize (((w.alloc (Obj.cells #[.int .u8 p, .int .i64 t, .int .i64 u, .bool b] 86)).alloc (Obj.cells #[.string s0, .string s1, .string s2, .slice af an ac, .int .i64 m, .int .i64 f, .int .i64 k, .int .i64 l, .int .u8 nk, .string nt, .slice ka kn kc, .slice da dn dc, .int .i64 nl] 82)).alloc (Obj.cells #[.int .u8 0, .int .i64 0, .int .i64 0, .bool false] 86)).drewN nq = wq at *
  have Y1 := Lib.hid y1; have Y2 := Lib.hid y2; have Y3 := Lib.hid y3
  obtain ⟨a0, a1, a2, a3, f0, f1, f2, f3⟩ := cells4h y1
  obtain ⟨b0, b1, b2, b3, g0, g1, g2, g3⟩ := cells4h y3
  obtain ⟨d0, d1, d2, d3, d4, d5, d6, d7, d8, d9, d10, d11, d12⟩ := cells13a y2
  clear y1 y2 y3
  go_wp2
  go_quiet ((go_at_call 56; exact Calls.quiet_of_same ((HN.out _).mono fun e w' h => ⟨h.1, h.2.symm⟩)))
  have hE := belowN (Below.refl wq.heap.size wq) nq
  have y1 := keepH Y1.out hE; have y2 := keepH Y2.out hE; have y3 := keepH Y3.out hE
  have hbw := bthen hbw (Nat.le_refl _) hE
  clear a0 a1 a2 a3 f0 f1 f2 f3 b0 b1 b2 b3 g0 g1 g2 g3 d0 d1 d2 d3 d4 d5 d6 d7 d8 d9 d10 d11 d12 Y1 Y2 Y3 hE
  generalize wq.drewN nq = wp at *
  have Y1 := Lib.hid y1; have Y2 := Lib.hid y2; have Y3 := Lib.hid y3
  obtain ⟨a0, a1, a2, a3, f0, f1, f2, f3⟩ := cells4h y1
  obtain ⟨b0, b1, b2, b3, g0, g1, g2, g3⟩ := cells4h y3
  obtain ⟨d0, d1, d2, d3, d4, d5, d6, d7, d8, d9, d10, d11, d12⟩ := cells13a y2
  clear y1 y2 y3
  go_wp2
  refine bodyPost_ret (v := .tuple #[.agg #[.int .u8 p, .int .i64 t, .int .i64 u, .bool b], .bool false]) (by simp [results, Try.results51, go_sem, a0, a1, a2, a3, b0, b1, b2, b3]) rfl ⟨rfl, ?_⟩
  repeat (refine bset ?_ (by omega))
  exact hbw

set_option maxRecDepth 100000 in
set_option maxHeartbeats 1000000 in
theorem rTick_other (p t u : Int) (b : Bool) (now : Int) (w : World) (h1 : p ≠ 1) (h2 : p ≠ 2) : Calls Try.prog 51 #[runV p t u b, stepV s0 s1 s2 af an ac m f k l nk nt ka kn kc da dn dc nl, .int .i64 now] w fun e w' => e = .returned (tupR (tickT m f k l p t u b now)) ∧ Below w.heap.size w w' := by
  have e : tickT m f k l p t u b now = ((p, t, u, b), false) := by unfold tickT; rw [if_neg h1, if_neg h2]; simp
  rw [e]
  have HN := Lib.hid (fun w => rNow_any now w)
  generalize nowI now = N at *
  have d1 : (p == 1) = false := by simpa using h1
  have d2 : (p == 2) = false := by simpa using h2
  clear h1 h2
  unfold tupR runT runV stepV
  dsimp only
  clear e
  go_enter Try.func51, Try.ntmps51
  go_wp2
  go_quiet ((go_at_call 56; exact Calls.quiet_of_same ((HN.out _).mono fun e w' h => ⟨h.1, h.2.symm⟩)))
  have hE := belowN (Below.refl (((w.alloc (Obj.cells #[.int .u8 p, .int .i64 t, .int .i64 u, .bool b] 86)).alloc (Obj.cells #[.string s0, .string s1, .string s2, .slice af an ac, .int .i64 m, .int .i64 f, .int .i64 k, .int .i64 l, .int .u8 nk, .string nt, .slice ka kn kc, .slice da dn dc, .int .i64 nl] 82)).alloc (Obj.cells #[.int .u8 0, .int .i64 0, .int .i64 0, .bool false] 86)).heap.size (((w.alloc (Obj.cells #[.int .u8 p, .int .i64 t, .int .i64 u, .bool b] 86)).alloc (Obj.cells #[.string s0, .string s1, .string s2, .slice af an ac, .int .i64 m, .int .i64 f, .int .i64 k, .int .i64 l, .int .u8 nk, .string nt, .slice ka kn kc, .slice da dn dc, .int .i64 nl] 82)).alloc (Obj.cells #[.int .u8 0, .int .i64 0, .int .i64 0, .bool false] 86))) nq
  obtain ⟨y1, y2, y3, hbw⟩ := after3 w #[.int .u8 p, .int .i64 t, .int .i64 u, .bool b] #[.string s0, .string s1, .string s2, .slice af an ac, .int .i64 m, .int .i64 f, .int .i64 k, .int .i64 l, .int .u8 nk, .string nt, .slice ka kn kc, .slice da dn dc, .int .i64 nl] #[.int .u8 0, .int .i64 0, .int .i64 0, .bool false] 86 82 86 hE
  clear hE
  generalize (((w.alloc (Obj.cells #[.int .u8 p, .int .i64 t, .int .i64 u, .bool b] 86)).alloc (Obj.cells #[.string s0, .string s1, .string s2, .slice af an ac, .int .i64 m, .int .i64 f, .int .i64 k, .int .i64 l, .int .u8 nk, .string nt, .slice ka kn kc, .slice da dn dc, .int .i64 nl] 82)).alloc (Obj.cells #[.int .u8 0, .int .i64 0, .int .i64 0, .bool false] 86)).drewN nq = wq at *
  have Y1 := Lib.hid y1; have Y2 := Lib.hid y2; have Y3 := Lib.hid y3
  obtain ⟨a0, a1, a2, a3, f0, f1, f2, f3⟩ := cells4h y1
  obtain ⟨b0, b1, b2, b3, g0, g1, g2, g3⟩ := cells4h y3
  obtain ⟨d0, d1, d2, d3, d4, d5, d6, d7, d8, d9, d10, d11, d12⟩ := cells13a y2
  clear y1 y2 y3
  go_wp2
  go_quiet ((go_at_call 56; exact Calls.quiet_of_same ((HN.out _).mono fun e w' h => ⟨h.1, h.2.symm⟩)))
  have hE := belowN (Below.refl wq.heap.size wq) nq
  have y1 := keepH Y1.out hE; have y2 := keepH Y2.out hE; have y3 := keepH Y3.out hE
  have hbw := bthen hbw (Nat.le_refl _) hE
  clear a0 a1 a2 a3 f0 f1 f2 f3 b0 b1 b2 b3 g0 g1 g2 g3 d0 d1 d2 d3 d4 d5 d6 d7 d8 d9 d10 d11 d12 Y1 Y2 Y3 hE
  generalize wq.drewN nq = wp at *
  have Y1 := Lib.hid y1; have Y2 := Lib.hid y2; have Y3 := Lib.hid y3
  obtain ⟨a0, a1, a2, a3, f0, f1, f2, f3⟩ := cells4h y1
  obtain ⟨b0, b1, b2, b3, g0, g1, g2, g3⟩ := cells4h y3
  obtain ⟨d0, d1, d2, d3, d4, d5, d6, d7, d8, d9, d10, d11, d12⟩ := cells13a y2
  clear y1 y2 y3
  go_wp2
  refine bodyPost_ret (v := .tuple #[.agg #[.int .u8 p, .int .i64 t, .int .i64 u, .bool b], .bool false]) (by simp [results, Try.results51, go_sem, a0, a1, a2, a3, b0, b1, b2, b3]) rfl ⟨rfl, ?_⟩
  repeat (refine bset ?_ (by omega))
  exact hbw

set_option maxRecDepth 100000 in
set_option maxHeartbeats 1000000 in
theorem rTick_fail (p t u : Int) (b : Bool) (now : Int) (w : World) (hl : u ≤ nowI now) (h1 : p = 1) : Calls Try.prog 51 #[runV p t u b, stepV s0 s1 s2 af an ac m f k l nk nt ka kn kc da dn dc nl, .int .i64 now] w fun e w' => e = .returned (tupR (tickT m f k l p t u b now)) ∧ Below w.heap.size w w' := by
  have e : tickT m f k l p t u b now = (failT m f k l p t u b now, true) := by unfold tickT; rw [if_pos hl, if_pos h1]
  rw [e]
  have HN := Lib.hid (fun w => rNow_any now w)
  have HE := Lib.hid (fun w => rfails_any (s0 := s0) (s1 := s1) (s2 := s2) (af := af) (an := an) (ac := ac) (m := m) (f := f) (k := k) (l := l) (nk := nk) (nt := nt) (ka := ka) (kn := kn) (kc := kc) (da := da) (dn := dn) (dc := dc) (nl := nl) p t u b now w)
  generalize failT m f k l p t u b now = X at *
  obtain ⟨q1, q2, q3, q4⟩ := X
  unfold runT runV stepV at HE
  dsimp only at HE
  generalize nowI now = N at *
  have dl : decide (u ≤ N) = true := by simpa using hl
  have d1 : (p == 1) = true := by simpa using h1
  clear hl h1
  unfold tupR runT runV stepV
  dsimp only
  clear e
  go_enter Try.func51, Try.ntmps51
  go_wp2
  go_quiet ((go_at_call 56; exact Calls.quiet_of_same ((HN.out _).mono fun e w' h => ⟨h.1, h.2.symm⟩)))
  have hE := belowN (Below.refl (((w.alloc (Obj.cells #[.int .u8 p, .int .i64 t, .int .i64 u, .bool b] 86)).alloc (Obj.cells #[.string s0, .string s1, .string s2, .slice af an ac, .int .i64 m, .int .i64 f, .int .i64 k, .int .i64 l, .int .u8 nk, .string nt, .slice ka kn kc, .slice da dn dc, .int .i64 nl] 82)).alloc (Obj.cells #[.int .u8 0, .int .i64 0, .int .i64 0, .bool false] 86)).heap.size (((w.alloc (Obj.cells #[.int .u8 p, .int .i64 t, .int .i64 u, .bool b] 86)).alloc (Obj.cells #[.string s0, .string s1, .string s2, .slice af an ac, .int .i64 m, .int .i64 f, .int .i64 k, .int .i64 l, .int .u8 nk, .string nt, .slice ka kn kc, .slice da dn dc, .int .i64 nl] 82)).alloc (Obj.cells #[.int .u8 0, .int .i64 0, .int .i64 0, .bool false] 86))) nq
  obtain ⟨y1, y2, y3, hbw⟩ := after3 w #[.int .u8 p, .int .i64 t, .int .i64 u, .bool b] #[.string s0, .string s1, .string s2, .slice af an ac, .int .i64 m, .int .i64 f, .int .i64 k, .int .i64 l, .int .u8 nk, .string nt, .slice ka kn kc, .slice da dn dc, .int .i64 nl] #[.int .u8 0, .int .i64 0, .int .i64 0, .bool false] 86 82 86 hE
  clear hE
  generalize (((w.alloc (Obj.cells #[.int .u8 p, .int .i64 t, .int .i64 u, .bool b] 86)).alloc (Obj.cells #[.string s0, .string s1, .string s2, .slice af an ac, .int .i64 m, .int .i64 f, .int .i64 k, .int .i64 l, .int .u8 nk, .string nt, .slice ka kn kc, .slice da dn dc, .int .i64 nl] 82)).alloc (Obj.cells #[.int .u8 0, .int .i64 0, .int .i64 0, .bool false] 86)).drewN nq = wq at *
  have Y1 := Lib.hid y1; have Y2 := Lib.hid y2; have Y3 := Lib.hid y3
  obtain ⟨a0, a1, a2, a3, f0, f1, f2, f3⟩ := cells4h y1
  obtain ⟨b0, b1, b2, b3, g0, g1, g2, g3⟩ := cells4h y3
  obtain ⟨d0, d1, d2, d3, d4, d5, d6, d7, d8, d9, d10, d11, d12⟩ := cells13a y2
  clear y1 y2 y3
  go_wp2_with fail
  refine (HE.out _).mono ?_
  rintro e w3 ⟨rfl, hb3⟩
  have y1 := keepH Y1.out hb3; have y2 := keepH Y2.out hb3; have y3 := keepH Y3.out hb3
  have hbw := bthen hbw (Nat.le_refl _) hb3
  clear Y1 Y2 Y3 hb3 a0 a1 a2 a3 f0 f1 f2 f3 b0 b1 b2 b3 g0 g1 g2 g3 d0 d1 d2 d3 d4 d5 d6 d7 d8 d9 d10 d11 d12
  have Y1 := Lib.hid y1; have Y2 := Lib.hid y2; have Y3 := Lib.hid y3
  obtain ⟨a0, a1, a2, a3, f0, f1, f2, f3⟩ := cells4h y1
  obtain ⟨b0, b1, b2, b3, g0, g1, g2, g3⟩ := cells4h y3
  obtain ⟨d0, d1, d2, d3, d4, d5, d6, d7, d8, d9, d10, d11, d12⟩ := cells13a y2
  clear y1 y2 y3
  go_wp2
  refine bodyPost_ret (v := .tuple #[.agg #[.int .u8 q1, .int .i64 q2, .int .i64 q3, .bool q4], .bool true]) (by simp [results, Try.results51, go_sem, a0, a1, a2, a3, b0, b1, b2, b3]) rfl ⟨rfl, ?_⟩
  repeat (refine bset ?_ (by omega))
  exact hbw

set_option maxRecDepth 100000 in
set_option maxHeartbeats 1000000 in
theorem rTick_try (p t u : Int) (b : Bool) (now : Int) (w : World) (hl : u ≤ nowI now) (h1 : p = 2) : Calls Try.prog 51 #[runV p t u b, stepV s0 s1 s2 af an ac m f k l nk nt ka kn kc da dn dc nl, .int .i64 now] w fun e w' => e = .returned (tupR (tickT m f k l p t u b now)) ∧ Below w.heap.size w w' := by
  have e : tickT m f k l p t u b now = ((1, inc t, nowI now + limI l, b), true) := by unfold tickT; rw [if_pos hl, h1]; rfl
  rw [e]
  have HN := Lib.hid (fun w => rNow_any now w)
  have HE := Lib.hid (fun w => rnext_any (s0 := s0) (s1 := s1) (s2 := s2) (af := af) (an := an) (ac := ac) (m := m) (f := f) (k := k) (l := l) (nk := nk) (nt := nt) (ka := ka) (kn := kn) (kc := kc) (da := da) (dn := dn) (dc := dc) (nl := nl) p t u b now w)
  generalize inc t = T at *
  have dl0 : decide (u ≤ nowI now) = true := by simpa using hl
  generalize nowI now + limI l = U at *
  unfold runV stepV at HE
  generalize nowI now = N at *
  have d1 : (p == 1) = false := by rw [h1]; rfl
  have d2 : (p == 2) = true := by simpa using h1
  clear hl h1
  unfold tupR runT runV stepV
  dsimp only
  clear e
  go_enter Try.func51, Try.ntmps51
  go_wp2
  go_quiet ((go_at_call 56; exact Calls.quiet_of_same ((HN.out _).mono fun e w' h => ⟨h.1, h.2.symm⟩)))
  have hE := belowN (Below.refl (((w.alloc (Obj.cells #[.int .u8 p, .int .i64 t, .int .i64 u, .bool b] 86)).alloc (Obj.cells #[.string s0, .string s1, .string s2, .slice af an ac, .int .i64 m, .int .i64 f, .int .i64 k, .int .i64 l, .int .u8 nk, .string nt, .slice ka kn kc, .slice da dn dc, .int .i64 nl] 82)).alloc (Obj.cells #[.int .u8 0, .int .i64 0, .int .i64 0, .bool false] 86)).heap.size (((w.alloc (Obj.cells #[.int .u8 p, .int .i64 t, .int .i64 u, .bool b] 86)).alloc (Obj.cells #[.string s0, .string s1, .string s2, .slice af an ac, .int .i64 m, .int .i64 f, .int .i64 k, .int .i64 l, .int .u8 nk, .string nt, .slice ka kn kc, .slice da dn dc, .int .i64 nl] 82)).alloc (Obj.cells #[.int .u8 0, .int .i64 0, .int .i64 0, .bool false] 86))) nq
  obtain ⟨y1, y2, y3, hbw⟩ := after3 w #[.int .u8 p, .int .i64 t, .int .i64 u, .bool b] #[.string s0, .string s1, .string s2, .slice af an ac, .int .i64 m, .int .i64 f, .int .i64 k, .int .i64 l, .int .u8 nk, .string nt, .slice ka kn kc, .slice da dn dc, .int .i64 nl] #[.int .u8 0, .int .i64 0, .int .i64 0, .bool false] 86 82 86 hE
  clear hE
  generalize (((w.alloc (Obj.cells #[.int .u8 p, .int .i64 t, .int .i64 u, .bool b] 86)).alloc (Obj.cells #[.string s0, .string s1, .string s2, .slice af an ac, .int .i64 m, .int .i64 f, .int .i64 k, .int .i64 l, .int .u8 nk, .string nt, .slice ka kn kc, .slice da dn dc, .int .i64 nl] 82)).alloc (Obj.cells #[.int .u8 0, .int .i64 0, .int .i64 0, .bool false] 86)).drewN nq = wq at *
  have Y1 := Lib.hid y1; have Y2 := Lib.hid y2; have Y3 := Lib.hid y3
  obtain ⟨a0, a1, a2, a3, f0, f1, f2, f3⟩ := cells4h y1
  obtain ⟨b0, b1, b2, b3, g0, g1, g2, g3⟩ := cells4h y3
  obtain ⟨d0, d1, d2, d3, d4, d5, d6, d7, d8, d9, d10, d11, d12⟩ := cells13a y2
  clear y1 y2 y3
  go_wp2
  go_quiet ((go_at_call 56; exact Calls.quiet_of_same ((HN.out _).mono fun e w' h => ⟨h.1, h.2.symm⟩)))
  have hE := belowN (Below.refl wq.heap.size wq) nq
  have y1 := keepH Y1.out hE; have y2 := keepH Y2.out hE; have y3 := keepH Y3.out hE
  have hbw := bthen hbw (Nat.le_refl _) hE
  clear a0 a1 a2 a3 f0 f1 f2 f3 b0 b1 b2 b3 g0 g1 g2 g3 d0 d1 d2 d3 d4 d5 d6 d7 d8 d9 d10 d11 d12 Y1 Y2 Y3 hE
  generalize wq.drewN nq = wp at *
  have Y1 := Lib.hid y1; have Y2 := Lib.hid y2; have Y3 := Lib.hid y3
  obtain ⟨a0, a1, a2, a3, f0, f1, f2, f3⟩ := cells4h y1
  obtain ⟨b0, b1, b2, b3, g0, g1, g2, g3⟩ := cells4h y3
  obtain ⟨d0, d1, d2, d3, d4, d5, d6, d7, d8, d9, d10, d11, d12⟩ := cells13a y2
  clear y1 y2 y3
  go_wp2_with fail
  refine (HE.out _).mono ?_
  rintro e w3 ⟨rfl, hb3⟩
  have y1 := keepH Y1.out hb3; have y2 := keepH Y2.out hb3; have y3 := keepH Y3.out hb3
  have hbw := bthen hbw (Nat.le_refl _) hb3
  clear Y1 Y2 Y3 hb3 a0 a1 a2 a3 f0 f1 f2 f3 b0 b1 b2 b3 g0 g1 g2 g3 d0 d1 d2 d3 d4 d5 d6 d7 d8 d9 d10 d11 d12
  have Y1 := Lib.hid y1; have Y2 := Lib.hid y2; have Y3 := Lib.hid y3
  obtain ⟨a0, a1, a2, a3, f0, f1, f2, f3⟩ := cells4h y1
  obtain ⟨b0, b1, b2, b3, g0, g1, g2, g3⟩ := cells4h y3
  obtain ⟨d0, d1, d2, d3, d4, d5, d6, d7, d8, d9, d10, d11, d12⟩ := cells13a y2
  clear y1 y2 y3
  go_wp2
  refine bodyPost_ret (v := .tuple #[.agg #[.int .u8 1, .int .i64 T, .int .i64 U, .bool b], .bool true]) (by simp [results, Try.results51, go_sem, a0, a1, a2, a3, b0, b1, b2, b3]) rfl ⟨rfl, ?_⟩
  repeat (refine bset ?_ (by omega))
  exact hbw

theorem rTick_any (p t u : Int) (b : Bool) (now : Int) (w : World) : Calls Try.prog 51 #[runV p t u b, stepV s0 s1 s2 af an ac m f k l nk nt ka kn kc da dn dc nl, .int .i64 now] w fun e w' => e = .returned (tupR (tickT m f k l p t u b now)) ∧ Below w.heap.size w w' := by
  by_cases h1 : p = 1
  · by_cases hl : u ≤ nowI now
    · exact rTick_fail p t u b now w hl h1
    · exact rTick_e1 p t u b now w hl h1
  · by_cases h2 : p = 2
    · by_cases hl : u ≤ nowI now
      · exact rTick_try p t u b now w hl h2
      · exact rTick_e2 p t u b now w hl h2
    · exact rTick_other p t u b now w h1 h2

set_option maxRecDepth 100000 in
set_option maxHeartbeats 1000000 in
theorem rStop_any (p t u : Int) (b : Bool) (w : World) : Calls Try.prog 52 #[runV p t u b] w fun e w' => e = .returned (runT (stopT p t u b)) ∧ Below w.heap.size w w' := by
  have hc : (p = 0 ∧ stopT p t u b = (4, t, 0, true)) ∨ (p = 2 ∧ stopT p t u b = (4, t, 0, true)) ∨ (p = 1 ∧ stopT p t u b = (p, t, u, true)) ∨ (p ≠ 0 ∧ p ≠ 1 ∧ p ≠ 2 ∧ stopT p t u b = (p, t, u, b)) := by
    unfold stopT
    by_cases h0 : p = 0
    · simp [h0]
    · by_cases h2 : p = 2
      · simp [h2]
      · by_cases h1 : p = 1
        · simp [h1]
        · simp [h0, h1, h2]
  unfold runT runV
  rcases hc with ⟨h, e⟩ | ⟨h, e⟩ | ⟨h, e⟩ | ⟨h0, h1, h2, e⟩
  · rw [e]
    dsimp only
    have d0 : (p == 0) = true := by simpa using h
    clear e h
    go_enter Try.func52, Try.ntmps52
    go_wp2
    refine bodyPost_ret (v := .agg #[.int .u8 4, .int .i64 t, .int .i64 0, .bool true]) (by simp [results, Try.results52, go_sem]) rfl ⟨rfl, ((Below.refl _ w).alloc (Nat.le_refl _) _).alloc (by simp) _⟩
  · rw [e]
    dsimp only
    have d0 : (p == 0) = false := by rw [h]; rfl
    have d2 : (p == 2) = true := by simpa using h
    clear e h
    go_enter Try.func52, Try.ntmps52
    go_wp2
    refine bodyPost_ret (v := .agg #[.int .u8 4, .int .i64 t, .int .i64 0, .bool true]) (by simp [results, Try.results52, go_sem]) rfl ⟨rfl, ((Below.refl _ w).alloc (Nat.le_refl _) _).alloc (by simp) _⟩
  · rw [e]
    dsimp only
    have d0 : (p == 0) = false := by rw [h]; rfl
    have d1 : (p == 1) = true := by simpa using h
    have d2 : (p == 2) = false := by rw [h]; rfl
    clear e h
    go_enter Try.func52, Try.ntmps52
    go_wp2
    refine bodyPost_ret (v := .agg #[.int .u8 p, .int .i64 t, .int .i64 u, .bool true]) (by simp [results, Try.results52, go_sem]) rfl ⟨rfl, ((Below.refl _ w).alloc (Nat.le_refl _) _).alloc (by simp) _⟩
  · rw [e]
    dsimp only
    have d0 : (p == 0) = false := by simpa using h0
    have d1 : (p == 1) = false := by simpa using h1
    have d2 : (p == 2) = false := by simpa using h2
    clear e h0 h1 h2
    go_enter Try.func52, Try.ntmps52
    go_wp2
    refine bodyPost_ret (v := .agg #[.int .u8 p, .int .i64 t, .int .i64 u, .bool b]) (by simp [results, Try.results52, go_sem]) rfl ⟨rfl, ((Below.refl _ w).alloc (Nat.le_refl _) _).alloc (by simp) _⟩

end
end Go.Proofs.Ytigeedaihbpjiaa
