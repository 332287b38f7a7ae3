/-
  step: the reference's fails, Begin, Answer, Tick, Stop: contracts.
-/
import Derived.Test.YtigeedaihbpjiaaZd
import Derived.Test.YtigeedaihbpjiaaZe
import Derived.Test.YtigeedaihbpjiaaBg
namespace Go.Proofs.Ytigeedaihbpjiaa
open Go.RowKit
attribute [local go_sem ↓] Go.wp_at_zero Go.wp_at_succ

theorem held5 {w1 W W' : World} {p q r s t : Addr} {a b c d e : Value} (h : Below w1.heap.size w1 W ∧ W.cell? p = some a ∧ W.cell? q = some b ∧ W.cell? r = some c ∧ W.cell? s = some d ∧ W.cell? t = some e) (hb : Below W.heap.size W W') :
    Below w1.heap.size w1 W' ∧ W'.cell? p = some a ∧ W'.cell? q = some b ∧ W'.cell? r = some c ∧ W'.cell? s = some d ∧ W'.cell? t = some e :=
  ⟨bthen h.1 (Nat.le_refl _) hb, cellB hb h.2.1, cellB hb h.2.2.1, cellB hb h.2.2.2.1, cellB hb h.2.2.2.2.1, cellB hb h.2.2.2.2.2⟩
section
variable {s0 s1 s2 : ByteArray} {af : Option Addr} {an ac : Nat} {m f k l : Int} {nk : Int} {nt : ByteArray} {ka : Option Addr} {kn kc : Nat} {da : Option Addr} {dn dc : Nat} {nl : Int}

set_option maxRecDepth 100000 in
set_option maxHeartbeats 1000000 in
theorem rfails_last (p t u : Int) (b : Bool) (now : Int) (w : World) (hb0 : b = true) : Calls Try.prog 90 #[runV p t u b, stepV s0 s1 s2 af an ac m f k l nk nt ka kn kc da dn dc nl, .int .i64 now] w fun e w' => e = .returned (runT (failT m f k l p t u b now)) ∧ Below w.heap.size w w' := by
  subst hb0
  have e : failT m f k l p t u true now = (4, t, 0, true) := rfl
  rw [e]
  unfold runT runV stepV
  dsimp only
  clear e
  go_enter Try.func90, Try.ntmps90
  go_wp2
  go_quiet (fail)
  have hE := belowN (Below.refl (((w.alloc (Obj.cells #[.int .u8 p, .int .i64 t, .int .i64 u, .bool true] 86)).alloc (Obj.cells #[.string s0, .string s1, .string s2, .slice af an ac, .int .i64 m, .int .i64 f, .int .i64 k, .int .i64 l, .int .u8 nk, .string nt, .slice ka kn kc, .slice da dn dc, .int .i64 nl] 82)).alloc (Obj.cells #[.int .u8 0, .int .i64 0, .int .i64 0, .bool false] 86)).heap.size (((w.alloc (Obj.cells #[.int .u8 p, .int .i64 t, .int .i64 u, .bool true] 86)).alloc (Obj.cells #[.string s0, .string s1, .string s2, .slice af an ac, .int .i64 m, .int .i64 f, .int .i64 k, .int .i64 l, .int .u8 nk, .string nt, .slice ka kn kc, .slice da dn dc, .int .i64 nl] 82)).alloc (Obj.cells #[.int .u8 0, .int .i64 0, .int .i64 0, .bool false] 86))) nq
  obtain ⟨y1, y2, y3, hbw⟩ := after3 w #[.int .u8 p, .int .i64 t, .int .i64 u, .bool true] #[.string s0, .string s1, .string s2, .slice af an ac, .int .i64 m, .int .i64 f, .int .i64 k, .int .i64 l, .int .u8 nk, .string nt, .slice ka kn kc, .slice da dn dc, .int .i64 nl] #[.int .u8 0, .int .i64 0, .int .i64 0, .bool false] 86 82 86 hE
  clear hE
  generalize (((w.alloc (Obj.cells #[.int .u8 p, .int .i64 t, .int .i64 u, .bool true] 86)).alloc (Obj.cells #[.string s0, .string s1, .string s2, .slice af an ac, .int .i64 m, .int .i64 f, .int .i64 k, .int .i64 l, .int .u8 nk, .string nt, .slice ka kn kc, .slice da dn dc, .int .i64 nl] 82)).alloc (Obj.cells #[.int .u8 0, .int .i64 0, .int .i64 0, .bool false] 86)).drewN nq = wq at *
  have Y1 := Lib.hid y1; have Y2 := Lib.hid y2; have Y3 := Lib.hid y3
  obtain ⟨a0, a1, a2, a3, f0, f1, f2, f3⟩ := cells4h y1
  obtain ⟨b0, b1, b2, b3, g0, g1, g2, g3⟩ := cells4h y3
  obtain ⟨d0, d1, d2, d3, d4, d5, d6, d7, d8, d9, d10, d11, d12⟩ := cells13a y2
  clear y1 y2 y3
  go_wp2
  refine bodyPost_ret (v := .agg #[.int .u8 4, .int .i64 t, .int .i64 0, .bool true]) (by simp [results, Try.results90, go_sem, a0, a1, a2, a3, b0, b1, b2, b3]) rfl ⟨rfl, ?_⟩
  repeat (refine bset ?_ (by omega))
  exact hbw

set_option maxRecDepth 100000 in
set_option maxHeartbeats 1000000 in
theorem rfails_low (p t u : Int) (now : Int) (w : World) (hl : t < 1) : Calls Try.prog 90 #[runV p t u false, stepV s0 s1 s2 af an ac m f k l nk nt ka kn kc da dn dc nl, .int .i64 now] w fun e w' => e = .returned (runT (failT m f k l p t u false now)) ∧ Below w.heap.size w w' := by
  have e : failT m f k l p t u false now = (4, t, 0, false) := by
    have : moreB m t = false := by unfold moreB; simp; omega
    unfold failT; rw [this]; rfl
  rw [e]
  have d1 : decide (t < 1) = true := by simpa using hl
  unfold runT runV stepV
  dsimp only
  clear e hl
  go_enter Try.func90, Try.ntmps90
  go_wp2
  go_quiet (fail)
  have hE := belowN (Below.refl (((w.alloc (Obj.cells #[.int .u8 p, .int .i64 t, .int .i64 u, .bool false] 86)).alloc (Obj.cells #[.string s0, .string s1, .string s2, .slice af an ac, .int .i64 m, .int .i64 f, .int .i64 k, .int .i64 l, .int .u8 nk, .string nt, .slice ka kn kc, .slice da dn dc, .int .i64 nl] 82)).alloc (Obj.cells #[.int .u8 0, .int .i64 0, .int .i64 0, .bool false] 86)).heap.size (((w.alloc (Obj.cells #[.int .u8 p, .int .i64 t, .int .i64 u, .bool false] 86)).alloc (Obj.cells #[.string s0, .string s1, .string s2, .slice af an ac, .int .i64 m, .int .i64 f, .int .i64 k, .int .i64 l, .int .u8 nk, .string nt, .slice ka kn kc, .slice da dn dc, .int .i64 nl] 82)).alloc (Obj.cells #[.int .u8 0, .int .i64 0, .int .i64 0, .bool false] 86))) nq
  obtain ⟨y1, y2, y3, hbw⟩ := after3 w #[.int .u8 p, .int .i64 t, .int .i64 u, .bool false] #[.string s0, .string s1, .string s2, .slice af an ac, .int .i64 m, .int .i64 f, .int .i64 k, .int .i64 l, .int .u8 nk, .string nt, .slice ka kn kc, .slice da dn dc, .int .i64 nl] #[.int .u8 0, .int .i64 0, .int .i64 0, .bool false] 86 82 86 hE
  clear hE
  generalize (((w.alloc (Obj.cells #[.int .u8 p, .int .i64 t, .int .i64 u, .bool false] 86)).alloc (Obj.cells #[.string s0, .string s1, .string s2, .slice af an ac, .int .i64 m, .int .i64 f, .int .i64 k, .int .i64 l, .int .u8 nk, .string nt, .slice ka kn kc, .slice da dn dc, .int .i64 nl] 82)).alloc (Obj.cells #[.int .u8 0, .int .i64 0, .int .i64 0, .bool false] 86)).drewN nq = wq at *
  have Y1 := Lib.hid y1; have Y2 := Lib.hid y2; have Y3 := Lib.hid y3
  obtain ⟨a0, a1, a2, a3, f0, f1, f2, f3⟩ := cells4h y1
  obtain ⟨b0, b1, b2, b3, g0, g1, g2, g3⟩ := cells4h y3
  obtain ⟨d0, d1, d2, d3, d4, d5, d6, d7, d8, d9, d10, d11, d12⟩ := cells13a y2
  clear y1 y2 y3
  go_wp2
  refine bodyPost_ret (v := .agg #[.int .u8 4, .int .i64 t, .int .i64 0, .bool false]) (by simp [results, Try.results90, go_sem, a0, a1, a2, a3, b0, b1, b2, b3]) rfl ⟨rfl, ?_⟩
  repeat (refine bset ?_ (by omega))
  exact hbw

set_option maxRecDepth 100000 in
set_option maxHeartbeats 1000000 in
theorem rfails_no (p t u : Int) (now : Int) (w : World) (hl : 1 ≤ t) (hm : bMost m ≤ t) : Calls Try.prog 90 #[runV p t u false, stepV s0 s1 s2 af an ac m f k l nk nt ka kn kc da dn dc nl, .int .i64 now] w fun e w' => e = .returned (runT (failT m f k l p t u false now)) ∧ Below w.heap.size w w' := by
  have e : failT m f k l p t u false now = (4, t, 0, false) := by
    have : moreB m t = false := by unfold moreB; simp; omega
    unfold failT; rw [this]; rfl
  rw [e]
  have d1 : decide (t < 1) = false := by simp; omega
  have d2 : decide (bMost m ≤ t) = true := by simpa using hm
  have HM := Lib.hid (fun w => rMeant_any m f k w)
  unfold retryV at HM
  have hf0 := @field_retry0
  generalize bMost m = M at *
  unfold runT runV stepV
  dsimp only
  clear e hl hm
  go_enter Try.func90, Try.ntmps90
  go_wp2
  obtain ⟨y1, y2, y3, z4, hbw⟩ := heap3 w (Obj.cells #[.int .u8 p, .int .i64 t, .int .i64 u, .bool false] 86) (Obj.cells #[.string s0, .string s1, .string s2, .slice af an ac, .int .i64 m, .int .i64 f, .int .i64 k, .int .i64 l, .int .u8 nk, .string nt, .slice ka kn kc, .slice da dn dc, .int .i64 nl] 82) (Obj.cells #[.int .u8 0, .int .i64 0, .int .i64 0, .bool false] 86)
  clear z4
  generalize (((w.alloc (Obj.cells #[.int .u8 p, .int .i64 t, .int .i64 u, .bool false] 86)).alloc (Obj.cells #[.string s0, .string s1, .string s2, .slice af an ac, .int .i64 m, .int .i64 f, .int .i64 k, .int .i64 l, .int .u8 nk, .string nt, .slice ka kn kc, .slice da dn dc, .int .i64 nl] 82)).alloc (Obj.cells #[.int .u8 0, .int .i64 0, .int .i64 0, .bool false] 86)) = wq at *
  have Y1 := Lib.hid y1; have Y2 := Lib.hid y2; have Y3 := Lib.hid y3
  have hS0 : Below wq.heap.size wq wq.drew ∧ wq.drew.cell? ⟨w.heap.size, 1, none⟩ = some (.int .i64 t) ∧ wq.drew.cell? ⟨w.heap.size, 3, none⟩ = some (.bool false) ∧ wq.drew.cell? ⟨w.heap.size + 1, 4, none⟩ = some (.int .i64 m) ∧ wq.drew.cell? ⟨w.heap.size + 1, 5, none⟩ = some (.int .i64 f) ∧ wq.drew.cell? ⟨w.heap.size + 1, 6, none⟩ = some (.int .i64 k) := by
    obtain ⟨_, a1, _, a3, _⟩ := cells4h y1
    obtain ⟨d4, d5, d6⟩ := cells13h y2
    exact ⟨(Below.refl _ _).drew, a1, a3, d4, d5, d6⟩
  clear y1 y2 y3
  go_region_held3 (fun W => Below wq.heap.size wq W ∧ W.cell? ⟨w.heap.size, 1, none⟩ = some (.int .i64 t) ∧ W.cell? ⟨w.heap.size, 3, none⟩ = some (.bool false) ∧ W.cell? ⟨w.heap.size + 1, 4, none⟩ = some (.int .i64 m) ∧ W.cell? ⟨w.heap.size + 1, 5, none⟩ = some (.int .i64 f) ∧ W.cell? ⟨w.heap.size + 1, 6, none⟩ = some (.int .i64 k))
    (first | assumption | exact hS0 | exact held5 (by assumption) (by assumption)) (first
    | (go_at_call 105; refine (HM.out _).mono ?_; rintro e w5 ⟨rfl, hb5⟩))
  rename_i hS
  obtain ⟨hbr, _⟩ := hS
  have y1 := keepH Y1.out hbr; have y2 := keepH Y2.out hbr; have y3 := keepH Y3.out hbr
  have hbw := bthen hbw (Nat.le_refl _) hbr
  clear Y1 Y2 Y3 hbr hS0 hb5
  have Y1 := Lib.hid y1; have Y2 := Lib.hid y2; have Y3 := Lib.hid y3
  obtain ⟨a0, a1, a2, a3, f0, f1, f2, f3⟩ := cells4h y1
  obtain ⟨b0, b1, b2, b3, g0, g1, g2, g3⟩ := cells4h y3
  obtain ⟨d0, d1, d2, d3, d4, d5, d6, d7, d8, d9, d10, d11, d12⟩ := cells13a y2
  clear y1 y2 y3
  go_wp2
  refine bodyPost_ret (v := .agg #[.int .u8 4, .int .i64 t, .int .i64 0, .bool false]) (by simp [results, Try.results90, go_sem, a0, a1, a2, a3, b0, b1, b2, b3]) rfl ⟨rfl, ?_⟩
  repeat (refine bset ?_ (by omega))
  exact hbw

set_option maxRecDepth 100000 in
set_option maxHeartbeats 1000000 in
theorem rfails_again (p t u : Int) (now : Int) (w : World) (hl : 1 ≤ t) (hm : t < bMost m) (hw0 : waitI f k t = 0) : Calls Try.prog 90 #[runV p t u false, stepV s0 s1 s2 af an ac m f k l nk nt ka kn kc da dn dc nl, .int .i64 now] w fun e w' => e = .returned (runT (failT m f k l p t u false now)) ∧ Below w.heap.size w w' := by
  have hm0 : moreB m t = true := by unfold moreB; simp; omega
  have d1 : decide (t < 1) = false := by simp; omega
  have d2 : decide (bMost m ≤ t) = false := by simp; omega
  have HM := Lib.hid (fun w => rMeant_any m f k w)
  unfold retryV at HM
  have hf0 := @field_retry0
  have HW := Lib.hid (fun w => rWait_any m f k t w)
  have e : failT m f k l p t u false now = (1, inc t, nowI now + limI l, false) := by unfold failT; rw [hm0]; simp [hw0]
  rw [e]
  rw [hw0] at HW
  have HT := Lib.hid (fun w => rnext_any (s0 := s0) (s1 := s1) (s2 := s2) (af := af) (an := an) (ac := ac) (m := m) (f := f) (k := k) (l := l) (nk := nk) (nt := nt) (ka := ka) (kn := kn) (kc := kc) (da := da) (dn := dn) (dc := dc) (nl := nl) p t u false now w)
  generalize inc t = T at *
  generalize nowI now + limI l = U at *
  generalize bMost m = M at *
  unfold runV stepV at HT
  unfold runT runV stepV
  dsimp only
  clear e hl hm hw0 hm0
  go_enter Try.func90, Try.ntmps90
  go_wp2
  obtain ⟨y1, y2, y3, z4, hbw⟩ := heap3 w (Obj.cells #[.int .u8 p, .int .i64 t, .int .i64 u, .bool false] 86) (Obj.cells #[.string s0, .string s1, .string s2, .slice af an ac, .int .i64 m, .int .i64 f, .int .i64 k, .int .i64 l, .int .u8 nk, .string nt, .slice ka kn kc, .slice da dn dc, .int .i64 nl] 82) (Obj.cells #[.int .u8 0, .int .i64 0, .int .i64 0, .bool false] 86)
  clear z4
  generalize (((w.alloc (Obj.cells #[.int .u8 p, .int .i64 t, .int .i64 u, .bool false] 86)).alloc (Obj.cells #[.string s0, .string s1, .string s2, .slice af an ac, .int .i64 m, .int .i64 f, .int .i64 k, .int .i64 l, .int .u8 nk, .string nt, .slice ka kn kc, .slice da dn dc, .int .i64 nl] 82)).alloc (Obj.cells #[.int .u8 0, .int .i64 0, .int .i64 0, .bool false] 86)) = wq at *
  have Y1 := Lib.hid y1; have Y2 := Lib.hid y2; have Y3 := Lib.hid y3
  have hS0 : Below wq.heap.size wq wq.drew ∧ wq.drew.cell? ⟨w.heap.size, 1, none⟩ = some (.int .i64 t) ∧ wq.drew.cell? ⟨w.heap.size, 3, none⟩ = some (.bool false) ∧ wq.drew.cell? ⟨w.heap.size + 1, 4, none⟩ = some (.int .i64 m) ∧ wq.drew.cell? ⟨w.heap.size + 1, 5, none⟩ = some (.int .i64 f) ∧ wq.drew.cell? ⟨w.heap.size + 1, 6, none⟩ = some (.int .i64 k) := by
    obtain ⟨_, a1, _, a3, _⟩ := cells4h y1
    obtain ⟨d4, d5, d6⟩ := cells13h y2
    exact ⟨(Below.refl _ _).drew, a1, a3, d4, d5, d6⟩
  clear y1 y2 y3
  go_region_held3 (fun W => Below wq.heap.size wq W ∧ W.cell? ⟨w.heap.size, 1, none⟩ = some (.int .i64 t) ∧ W.cell? ⟨w.heap.size, 3, none⟩ = some (.bool false) ∧ W.cell? ⟨w.heap.size + 1, 4, none⟩ = some (.int .i64 m) ∧ W.cell? ⟨w.heap.size + 1, 5, none⟩ = some (.int .i64 f) ∧ W.cell? ⟨w.heap.size + 1, 6, none⟩ = some (.int .i64 k))
    (first | assumption | exact hS0 | exact held5 (by assumption) (by assumption)) (first
    | (go_at_call 105; refine (HM.out _).mono ?_; rintro e w5 ⟨rfl, hb5⟩))
  rename_i hS
  obtain ⟨hbr, _⟩ := hS
  have y1 := keepH Y1.out hbr; have y2 := keepH Y2.out hbr; have y3 := keepH Y3.out hbr
  have hbw := bthen hbw (Nat.le_refl _) hbr
  clear Y1 Y2 Y3 hbr hS0 hb5
  have Y1 := Lib.hid y1; have Y2 := Lib.hid y2; have Y3 := Lib.hid y3
  obtain ⟨a0, a1, a2, a3, f0, f1, f2, f3⟩ := cells4h y1
  obtain ⟨b0, b1, b2, b3, g0, g1, g2, g3⟩ := cells4h y3
  obtain ⟨d0, d1, d2, d3, d4, d5, d6, d7, d8, d9, d10, d11, d12⟩ := cells13a y2
  clear y1 y2 y3
  go_wp2_with fail
  refine (HW.out _).mono ?_
  rintro e w2 ⟨rfl, hb2⟩
  have y1 := keepH Y1.out hb2; have y2 := keepH Y2.out hb2; have y3 := keepH Y3.out hb2
  have hbw := bthen hbw (Nat.le_refl _) hb2
  clear Y1 Y2 Y3 hb2 a0 a1 a2 a3 f0 f1 f2 f3 b0 b1 b2 b3 g0 g1 g2 g3 d0 d1 d2 d3 d4 d5 d6 d7 d8 d9 d10 d11 d12
  have Y1 := Lib.hid y1; have Y2 := Lib.hid y2; have Y3 := Lib.hid y3
  obtain ⟨a0, a1, a2, a3, f0, f1, f2, f3⟩ := cells4h y1
  obtain ⟨b0, b1, b2, b3, g0, g1, g2, g3⟩ := cells4h y3
  obtain ⟨d0, d1, d2, d3, d4, d5, d6, d7, d8, d9, d10, d11, d12⟩ := cells13a y2
  clear y1 y2 y3
  go_wp2_with fail
  refine (HT.out _).mono ?_
  rintro e w3 ⟨rfl, hb3⟩
  have y1 := keepH Y1.out hb3; have y2 := keepH Y2.out hb3; have y3 := keepH Y3.out hb3
  have hbw := bthen hbw (Nat.le_refl _) hb3
  clear Y1 Y2 Y3 hb3 a0 a1 a2 a3 f0 f1 f2 f3 b0 b1 b2 b3 g0 g1 g2 g3 d0 d1 d2 d3 d4 d5 d6 d7 d8 d9 d10 d11 d12
  have Y1 := Lib.hid y1; have Y2 := Lib.hid y2; have Y3 := Lib.hid y3
  obtain ⟨a0, a1, a2, a3, f0, f1, f2, f3⟩ := cells4h y1
  obtain ⟨b0, b1, b2, b3, g0, g1, g2, g3⟩ := cells4h y3
  obtain ⟨d0, d1, d2, d3, d4, d5, d6, d7, d8, d9, d10, d11, d12⟩ := cells13a y2
  clear y1 y2 y3
  go_wp2
  refine bodyPost_ret (v := .agg #[.int .u8 1, .int .i64 T, .int .i64 U, .bool false]) (by simp [results, Try.results90, go_sem, a0, a1, a2, a3, b0, b1, b2, b3]) rfl ⟨rfl, ?_⟩
  repeat (refine bset ?_ (by omega))
  exact hbw

set_option maxRecDepth 100000 in
set_option maxHeartbeats 1000000 in
theorem rfails_wait (p t u : Int) (now : Int) (w : World) (hl : 1 ≤ t) (hm : t < bMost m) (hw0 : waitI f k t ≠ 0) : Calls Try.prog 90 #[runV p t u false, stepV s0 s1 s2 af an ac m f k l nk nt ka kn kc da dn dc nl, .int .i64 now] w fun e w' => e = .returned (runT (failT m f k l p t u false now)) ∧ Below w.heap.size w w' := by
  have hm0 : moreB m t = true := by unfold moreB; simp; omega
  have d1 : decide (t < 1) = false := by simp; omega
  have d2 : decide (bMost m ≤ t) = false := by simp; omega
  have HM := Lib.hid (fun w => rMeant_any m f k w)
  unfold retryV at HM
  have hf0 := @field_retry0
  have HW := Lib.hid (fun w => rWait_any m f k t w)
  have e : failT m f k l p t u false now = (2, t, nowI now + waitI f k t, false) := by unfold failT; rw [hm0]; simp [hw0]
  rw [e]
  have hwr := waitI_range f k t
  have hnr := nowI_range now
  have HN := Lib.hid (fun w => rNow_any now w)
  generalize waitI f k t = x at *
  generalize nowI now = N at *
  generalize bMost m = M at *
  have hx0 : (x == 0) = false := by simpa using hw0
  unfold runT runV stepV
  dsimp only
  clear e hl hm hw0 hm0
  go_enter Try.func90, Try.ntmps90
  go_wp2
  obtain ⟨y1, y2, y3, z4, hbw⟩ := heap3 w (Obj.cells #[.int .u8 p, .int .i64 t, .int .i64 u, .bool false] 86) (Obj.cells #[.string s0, .string s1, .string s2, .slice af an ac, .int .i64 m, .int .i64 f, .int .i64 k, .int .i64 l, .int .u8 nk, .string nt, .slice ka kn kc, .slice da dn dc, .int .i64 nl] 82) (Obj.cells #[.int .u8 0, .int .i64 0, .int .i64 0, .bool false] 86)
  clear z4
  generalize (((w.alloc (Obj.cells #[.int .u8 p, .int .i64 t, .int .i64 u, .bool false] 86)).alloc (Obj.cells #[.string s0, .string s1, .string s2, .slice af an ac, .int .i64 m, .int .i64 f, .int .i64 k, .int .i64 l, .int .u8 nk, .string nt, .slice ka kn kc, .slice da dn dc, .int .i64 nl] 82)).alloc (Obj.cells #[.int .u8 0, .int .i64 0, .int .i64 0, .bool false] 86)) = wq at *
  have Y1 := Lib.hid y1; have Y2 := Lib.hid y2; have Y3 := Lib.hid y3
  have hS0 : Below wq.heap.size wq wq.drew ∧ wq.drew.cell? ⟨w.heap.size, 1, none⟩ = some (.int .i64 t) ∧ wq.drew.cell? ⟨w.heap.size, 3, none⟩ = some (.bool false) ∧ wq.drew.cell? ⟨w.heap.size + 1, 4, none⟩ = some (.int .i64 m) ∧ wq.drew.cell? ⟨w.heap.size + 1, 5, none⟩ = some (.int .i64 f) ∧ wq.drew.cell? ⟨w.heap.size + 1, 6, none⟩ = some (.int .i64 k) := by
    obtain ⟨_, a1, _, a3, _⟩ := cells4h y1
    obtain ⟨d4, d5, d6⟩ := cells13h y2
    exact ⟨(Below.refl _ _).drew, a1, a3, d4, d5, d6⟩
  clear y1 y2 y3
  go_region_held3 (fun W => Below wq.heap.size wq W ∧ W.cell? ⟨w.heap.size, 1, none⟩ = some (.int .i64 t) ∧ W.cell? ⟨w.heap.size, 3, none⟩ = some (.bool false) ∧ W.cell? ⟨w.heap.size + 1, 4, none⟩ = some (.int .i64 m) ∧ W.cell? ⟨w.heap.size + 1, 5, none⟩ = some (.int .i64 f) ∧ W.cell? ⟨w.heap.size + 1, 6, none⟩ = some (.int .i64 k))
    (first | assumption | exact hS0 | exact held5 (by assumption) (by assumption)) (first
    | (go_at_call 105; refine (HM.out _).mono ?_; rintro e w5 ⟨rfl, hb5⟩))
  rename_i hS
  obtain ⟨hbr, _⟩ := hS
  have y1 := keepH Y1.out hbr; have y2 := keepH Y2.out hbr; have y3 := keepH Y3.out hbr
  have hbw := bthen hbw (Nat.le_refl _) hbr
  clear Y1 Y2 Y3 hbr hS0 hb5
  have Y1 := Lib.hid y1; have Y2 := Lib.hid y2; have Y3 := Lib.hid y3
  obtain ⟨a0, a1, a2, a3, f0, f1, f2, f3⟩ := cells4h y1
  obtain ⟨b0, b1, b2, b3, g0, g1, g2, g3⟩ := cells4h y3
  obtain ⟨d0, d1, d2, d3, d4, d5, d6, d7, d8, d9, d10, d11, d12⟩ := cells13a y2
  clear y1 y2 y3
  go_wp2_with fail
  refine (HW.out _).mono ?_
  rintro e w2 ⟨rfl, hb2⟩
  have y1 := keepH Y1.out hb2; have y2 := keepH Y2.out hb2; have y3 := keepH Y3.out hb2
  have hbw := bthen hbw (Nat.le_refl _) hb2
  clear a0 a1 a2 a3 f0 f1 f2 f3 b0 b1 b2 b3 g0 g1 g2 g3 d0 d1 d2 d3 d4 d5 d6 d7 d8 d9 d10 d11 d12 Y1 Y2 Y3 hb2
  go_wp2
  have hS0 : (Below w.heap.size w w2.drew ∧ w2.drew.heap[w.heap.size]? = some (.cells #[.int .u8 p, .int .i64 t, .int .i64 u, .bool false] 86 (0, 0)) ∧ w2.drew.heap[w.heap.size + 1]? = some (.cells #[.string s0, .string s1, .string s2, .slice af an ac, .int .i64 m, .int .i64 f, .int .i64 k, .int .i64 l, .int .u8 nk, .string nt, .slice ka kn kc, .slice da dn dc, .int .i64 nl] 82 (0, 0)) ∧ ∃ c0 c1 c2 c3 : Value, w2.drew.heap[w.heap.size + 1 + 1]? = some (.cells #[c0, c1, c2, c3] 86 (0, 0))) ∧ w2.drew.cell? ⟨w.heap.size, 0, none⟩ = some (.int .u8 p) ∧ w2.drew.cell? ⟨w.heap.size, 1, none⟩ = some (.int .i64 t) ∧ w2.drew.cell? ⟨w.heap.size, 2, none⟩ = some (.int .i64 u) ∧ w2.drew.cell? ⟨w.heap.size, 3, none⟩ = some (.bool false) ∧ w2.drew.cell? ⟨w.heap.size + 1, 0, none⟩ = some (.string s0) ∧ w2.drew.cell? ⟨w.heap.size + 1, 1, none⟩ = some (.string s1) ∧ w2.drew.cell? ⟨w.heap.size + 1, 2, none⟩ = some (.string s2) ∧ w2.drew.cell? ⟨w.heap.size + 1, 3, none⟩ = some (.slice af an ac) ∧ w2.drew.cell? ⟨w.heap.size + 1, 4, none⟩ = some (.int .i64 m) ∧ w2.drew.cell? ⟨w.heap.size + 1, 5, none⟩ = some (.int .i64 f) ∧ w2.drew.cell? ⟨w.heap.size + 1, 6, none⟩ = some (.int .i64 k) ∧ w2.drew.cell? ⟨w.heap.size + 1, 7, none⟩ = some (.int .i64 l) ∧ w2.drew.cell? ⟨w.heap.size + 1, 8, none⟩ = some (.int .u8 nk) ∧ w2.drew.cell? ⟨w.heap.size + 1, 9, none⟩ = some (.string nt) ∧ w2.drew.cell? ⟨w.heap.size + 1, 10, none⟩ = some (.slice ka kn kc) ∧ w2.drew.cell? ⟨w.heap.size + 1, 11, none⟩ = some (.slice da dn dc) ∧ w2.drew.cell? ⟨w.heap.size + 1, 12, none⟩ = some (.int .i64 nl) ∧ w2.drew.cell? ⟨w.heap.size + 1 + 1, 0, none⟩ = some (valAt w2.drew ⟨w.heap.size + 1 + 1, 0, none⟩) ∧ w2.drew.cell? ⟨w.heap.size + 1 + 1, 1, none⟩ = some (valAt w2.drew ⟨w.heap.size + 1 + 1, 1, none⟩) ∧ w2.drew.cell? ⟨w.heap.size + 1 + 1, 2, none⟩ = some (valAt w2.drew ⟨w.heap.size + 1 + 1, 2, none⟩) ∧ w2.drew.cell? ⟨w.heap.size + 1 + 1, 3, none⟩ = some (valAt w2.drew ⟨w.heap.size + 1 + 1, 3, none⟩) ∧ w2.drew.frozen? ⟨w.heap.size + 1 + 1, 0, none⟩ = false ∧ w2.drew.frozen? ⟨w.heap.size + 1 + 1, 1, none⟩ = false ∧ w2.drew.frozen? ⟨w.heap.size + 1 + 1, 2, none⟩ = false ∧ w2.drew.frozen? ⟨w.heap.size + 1 + 1, 3, none⟩ = false := lit3 ⟨hbw.drew, y1, y2, _, _, _, _, y3⟩
  obtain ⟨b0, b1, b2, b3, g0, g1, g2, g3⟩ := cells4h y3
  have Y3 := Lib.hid y3
  clear y1 y2 y3
  go_region_held3 (fun W => (Below w.heap.size w W ∧ W.heap[w.heap.size]? = some (.cells #[.int .u8 p, .int .i64 t, .int .i64 u, .bool false] 86 (0, 0)) ∧ W.heap[w.heap.size + 1]? = some (.cells #[.string s0, .string s1, .string s2, .slice af an ac, .int .i64 m, .int .i64 f, .int .i64 k, .int .i64 l, .int .u8 nk, .string nt, .slice ka kn kc, .slice da dn dc, .int .i64 nl] 82 (0, 0)) ∧ ∃ c0 c1 c2 c3 : Value, W.heap[w.heap.size + 1 + 1]? = some (.cells #[c0, c1, c2, c3] 86 (0, 0))) ∧ W.cell? ⟨w.heap.size, 0, none⟩ = some (.int .u8 p) ∧ W.cell? ⟨w.heap.size, 1, none⟩ = some (.int .i64 t) ∧ W.cell? ⟨w.heap.size, 2, none⟩ = some (.int .i64 u) ∧ W.cell? ⟨w.heap.size, 3, none⟩ = some (.bool false) ∧ W.cell? ⟨w.heap.size + 1, 0, none⟩ = some (.string s0) ∧ W.cell? ⟨w.heap.size + 1, 1, none⟩ = some (.string s1) ∧ W.cell? ⟨w.heap.size + 1, 2, none⟩ = some (.string s2) ∧ W.cell? ⟨w.heap.size + 1, 3, none⟩ = some (.slice af an ac) ∧ W.cell? ⟨w.heap.size + 1, 4, none⟩ = some (.int .i64 m) ∧ W.cell? ⟨w.heap.size + 1, 5, none⟩ = some (.int .i64 f) ∧ W.cell? ⟨w.heap.size + 1, 6, none⟩ = some (.int .i64 k) ∧ W.cell? ⟨w.heap.size + 1, 7, none⟩ = some (.int .i64 l) ∧ W.cell? ⟨w.heap.size + 1, 8, none⟩ = some (.int .u8 nk) ∧ W.cell? ⟨w.heap.size + 1, 9, none⟩ = some (.string nt) ∧ W.cell? ⟨w.heap.size + 1, 10, none⟩ = some (.slice ka kn kc) ∧ W.cell? ⟨w.heap.size + 1, 11, none⟩ = some (.slice da dn dc) ∧ W.cell? ⟨w.heap.size + 1, 12, none⟩ = some (.int .i64 nl) ∧ W.cell? ⟨w.heap.size + 1 + 1, 0, none⟩ = some (valAt W ⟨w.heap.size + 1 + 1, 0, none⟩) ∧ W.cell? ⟨w.heap.size + 1 + 1, 1, none⟩ = some (valAt W ⟨w.heap.size + 1 + 1, 1, none⟩) ∧ W.cell? ⟨w.heap.size + 1 + 1, 2, none⟩ = some (valAt W ⟨w.heap.size + 1 + 1, 2, none⟩) ∧ W.cell? ⟨w.heap.size + 1 + 1, 3, none⟩ = some (valAt W ⟨w.heap.size + 1 + 1, 3, none⟩) ∧ W.frozen? ⟨w.heap.size + 1 + 1, 0, none⟩ = false ∧ W.frozen? ⟨w.heap.size + 1 + 1, 1, none⟩ = false ∧ W.frozen? ⟨w.heap.size + 1 + 1, 2, none⟩ = false ∧ W.frozen? ⟨w.heap.size + 1 + 1, 3, none⟩ = false)
    (first | assumption | exact hS0 | exact lit3_keep (by assumption) (by assumption) | exact lit3_set (by assumption)) (first
    | (go_at_call 56; refine (HN.out _).mono ?_; rintro e w5 ⟨rfl, rfl⟩))
  rw [IntWalk.i64_in (N + x) (by omega)]
  have z : (((((w2.setCell ⟨w.heap.size + 1 + 1, 0, none⟩ (.int .u8 2)).setCell ⟨w.heap.size + 1 + 1, 1, none⟩ (.int .i64 t)).setCell ⟨w.heap.size + 1 + 1, 2, none⟩ (.int .i64 (N + x))).setCell ⟨w.heap.size + 1 + 1, 3, none⟩ (.bool false)).drew).heap[w.heap.size + 1 + 1]? = some (.cells #[.int .u8 2, .int .i64 t, .int .i64 (N + x), .bool false] 86 (0, 0)) := set4 (.int .u8 2) (.int .i64 t) (.int .i64 (N + x)) (.bool false) Y3.out
  have hbw := (bset (bset (bset (bset hbw (show w.heap.size ≤ w.heap.size + 1 + 1 by omega) (o := 0) (v := .int .u8 2)) (show w.heap.size ≤ w.heap.size + 1 + 1 by omega) (o := 1) (v := .int .i64 t)) (show w.heap.size ≤ w.heap.size + 1 + 1 by omega) (o := 2) (v := .int .i64 (N + x))) (show w.heap.size ≤ w.heap.size + 1 + 1 by omega) (o := 3) (v := .bool false)).drew
  rename_i hS
  clear hS hS0 b0 b1 b2 b3 g0 g1 g2 g3 Y3
  generalize ((((w2.setCell ⟨w.heap.size + 1 + 1, 0, none⟩ (.int .u8 2)).setCell ⟨w.heap.size + 1 + 1, 1, none⟩ (.int .i64 t)).setCell ⟨w.heap.size + 1 + 1, 2, none⟩ (.int .i64 (N + x))).setCell ⟨w.heap.size + 1 + 1, 3, none⟩ (.bool false)).drew = W at *
  obtain ⟨b0, b1, b2, b3, g0, g1, g2, g3⟩ := cells4h z
  clear z
  go_wp2
  exact bodyPost_ret (v := .agg #[.int .u8 2, .int .i64 t, .int .i64 (N + x), .bool false]) (by simp [results, Try.results90, go_sem, b0, b1, b2, b3]) rfl ⟨rfl, hbw⟩

theorem rfails_any (p t u : Int) (b : Bool) (now : Int) (w : World) : Calls Try.prog 90 #[runV p t u b, stepV s0 s1 s2 af an ac m f k l nk nt ka kn kc da dn dc nl, .int .i64 now] w fun e w' => e = .returned (runT (failT m f k l p t u b now)) ∧ Below w.heap.size w w' := by
  cases b with
  | true => exact rfails_last p t u true now w rfl
  | false =>
    by_cases hl : t < 1
    · exact rfails_low p t u now w hl
    · by_cases hm : bMost m ≤ t
      · exact rfails_no p t u now w (by omega) hm
      · by_cases h0 : waitI f k t = 0
        · exact rfails_again p t u now w (by omega) (by omega) h0
        · exact rfails_wait p t u now w (by omega) (by omega) h0
end
end Go.Proofs.Ytigeedaihbpjiaa
