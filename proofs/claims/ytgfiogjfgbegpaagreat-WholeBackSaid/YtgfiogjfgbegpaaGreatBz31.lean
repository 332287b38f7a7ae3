/-
  backoff.Span, the reference's Span: contracts.
-/
import Derived.Deep.RegionHeld3
import Derived.Deep.DrawnRows
import Derived.Test.YtgfiogjfgbegpaaGreatBz1
import Derived.Test.YtgfiogjfgbegpaaGreatBz28
namespace Go.Proofs.YtgfiogjfgbegpaaGreat
open Go.RowKit
attribute [local go_sem ↓] Go.wp_at_zero Go.wp_at_succ

theorem field_step5 (c0 c1 c2 c3 c4 c5 c6 c7 c8 c9 c10 c11 c12 : Value) (w : World) : (Instr.field 47 (.agg #[c0, c1, c2, c3, c4, c5, c6, c7, c8, c9, c10, c11, c12]) 5).run Tryz.prog w = .ok c7 w := by kernel_rfl

theorem cells13h {W : World} {B : Nat} {c0 c1 c2 c3 c4 c5 c6 c7 c8 c9 c10 c11 c12 : Value} {t : TypeId} (h : W.heap[B]? = some (.cells #[c0, c1, c2, c3, c4, c5, c6, c7, c8, c9, c10, c11, c12] t (0, 0))) :
    W.cell? ⟨B, 4, none⟩ = some c4 ∧ W.cell? ⟨B, 5, none⟩ = some c5 ∧ W.cell? ⟨B, 6, none⟩ = some c6 := by
  simp [World.cell?, h]

def limI (l : Int) : Int := min (max (or0 l 100) 0) 10000
theorem limI_range (l : Int) : 0 ≤ limI l ∧ limI l ≤ 10000 := by unfold limI; omega
def spanI (m f k l : Int) : Int := limI l * bMost m + bSum f k (wN m)
theorem lim_mul (l m : Int) : 0 ≤ limI l * bMost m ∧ limI l * bMost m ≤ 100000 := by
  have h1 := limI_range l
  have h2 := bMost_range m
  refine ⟨Int.mul_nonneg h1.1 h2.1, ?_⟩
  have := Int.mul_le_mul h1.2 h2.2 h2.1 (by omega)
  omega

theorem held3 {w1 W W' : World} {p q r : Addr} {a b c : Value} (h : Below w1.heap.size w1 W ∧ W.cell? p = some a ∧ W.cell? q = some b ∧ W.cell? r = some c) (hb : Below W.heap.size W W') :
    Below w1.heap.size w1 W' ∧ W'.cell? p = some a ∧ W'.cell? q = some b ∧ W'.cell? r = some c :=
  ⟨bthen h.1 (Nat.le_refl _) hb, cellB hb h.2.1, cellB hb h.2.2.1, cellB hb h.2.2.2⟩

set_option maxRecDepth 100000 in
set_option maxHeartbeats 1000000 in
theorem Span_any (s0 s1 s2 : ByteArray) (af : Option Addr) (an ac : Nat) (m f k l : Int) (nk : Int) (nt : ByteArray) (ka : Option Addr) (kn kc : Nat) (da : Option Addr) (dn dc : Nat) (nl : Int) (w : World) :
    Calls Tryz.prog 13 #[stepV s0 s1 s2 af an ac m f k l nk nt ka kn kc da dn dc nl] w fun e w' => e = .returned (.int .i64 (spanI m f k l)) ∧ Below w.heap.size w w' := by
  have hmn := @run_min2 Tryz.prog
  have hmx := @run_max2 Tryz.prog
  have hf5 := @field_step5
  have hf0 := @field_retry0
  have hml := lim_mul l m
  have hlr := limI_range l
  have hsr := bSum_range f k (wN m)
  have hw9 := wN_le m
  unfold spanI
  obtain ⟨L, hL⟩ : ∃ L, limI l = L := ⟨_, rfl⟩
  rw [hL] at hml hlr ⊢
  have HL := Lib.hid (show min (max (or0 l 100) 0) 10000 = L from hL)
  clear hL
  unfold stepV
  go_enter Tryz.func13, Tryz.ntmps13
  go_wp2_with fail
  refine (Real_any _ _ _ _ _ _ m f k l _ _ _ _ _ _ _ _ _ _).mono ?_
  rintro e w1 ⟨rfl, hb1⟩
  unfold stepV
  have hb : Below w.heap.size w w1 := ((Below.refl _ w).alloc (Nat.le_refl _) _).trans (hb1.mono (by simp))
  have hbx := (hb1.block w.heap.size (by simp)).trans (World.alloc_heap_new w _)
  obtain ⟨q4, q5, q6⟩ := cells13h hbx
  have hsz := hb.size
  clear hb1 hbx
  go_wp2_with fail
  rw [HL.out]
  have hbr := bMost_range m
  clear hmn hmx hf5
  go_region_held3 (fun w' => Below w1.heap.size w1 w' ∧ w'.cell? ⟨w.heap.size, 4, none⟩ = some (.int .i64 m) ∧ w'.cell? ⟨w.heap.size, 5, none⟩ = some (.int .i64 f) ∧ w'.cell? ⟨w.heap.size, 6, none⟩ = some (.int .i64 k))
    (first | exact ⟨(Below.refl _ _).drew, q4, q5, q6⟩ | exact held3 (by assumption) (by assumption)) (first
      | (go_at_call 40; refine (meant_any m f k _).mono ?_; rintro e w7 ⟨rfl, hb7⟩; unfold retryV)
      | (go_at_call 41; refine (Total_any m f k _).mono ?_; rintro e w8 ⟨rfl, hb8⟩))
  have e1 : IntKind.i64.wrap (IntKind.i64.wrap (L * bMost m) + bSum f k (wN m)) = L * bMost m + bSum f k (wN m) := by
    rw [IntWalk.i64_in (L * bMost m) (by omega), IntWalk.i64_in _ (by omega)]
  rw [e1]
  go_wp2
  go_ret
  rename_i hS
  exact ⟨rfl, bthen hb (Nat.le_refl _) hS.1⟩

end Go.Proofs.YtgfiogjfgbegpaaGreat

/-
  backoff.Plan: contract.
-/
namespace Go.Proofs.YtgfiogjfgbegpaaGreat
open Go.RowKit
attribute [local go_sem] Oper.semAt_some wide_fn wide_depth wide_fn' wide_depth'

end Go.Proofs.YtgfiogjfgbegpaaGreat

/-
  The reference's Plan: contract.
-/
namespace Go.Proofs.YtgfiogjfgbegpaaGreat
open Go.RowKit

end Go.Proofs.YtgfiogjfgbegpaaGreat

/-
  backoff: live.
-/
namespace Go.Proofs.YtgfiogjfgbegpaaGreat
open Go.RowKit

end Go.Proofs.YtgfiogjfgbegpaaGreat

/-
  The law BackoffSpans: its walk.
-/
namespace Go.Proofs.YtgfiogjfgbegpaaGreat
open Go.RowKit
attribute [local go_sem ↓] Go.wp_at_zero Go.wp_at_succ

theorem cells13a {W : World} {B : Nat} {c0 c1 c2 c3 c4 c5 c6 c7 c8 c9 c10 c11 c12 : Value} {t : TypeId} (h : W.heap[B]? = some (.cells #[c0, c1, c2, c3, c4, c5, c6, c7, c8, c9, c10, c11, c12] t (0, 0))) :
    W.cell? ⟨B, 0, none⟩ = some c0 ∧ W.cell? ⟨B, 1, none⟩ = some c1 ∧ W.cell? ⟨B, 2, none⟩ = some c2 ∧ W.cell? ⟨B, 3, none⟩ = some c3 ∧ W.cell? ⟨B, 4, none⟩ = some c4 ∧ W.cell? ⟨B, 5, none⟩ = some c5 ∧ W.cell? ⟨B, 6, none⟩ = some c6 ∧ W.cell? ⟨B, 7, none⟩ = some c7 ∧ W.cell? ⟨B, 8, none⟩ = some c8 ∧ W.cell? ⟨B, 9, none⟩ = some c9 ∧ W.cell? ⟨B, 10, none⟩ = some c10 ∧ W.cell? ⟨B, 11, none⟩ = some c11 ∧ W.cell? ⟨B, 12, none⟩ = some c12 := by
  simp [World.cell?, h]
end Go.Proofs.YtgfiogjfgbegpaaGreat

/-
  step: the program's Now, end, try, fail, Begin: contracts.
-/
namespace Go.Proofs.YtgfiogjfgbegpaaGreat
open Go.RowKit
attribute [local go_sem ↓] Go.wp_at_zero Go.wp_at_succ

def nowI (n : Int) : Int := min (max n 0) 1099511627776
theorem nowI_range (n : Int) : 0 ≤ nowI n ∧ nowI n ≤ 1099511627776 := by unfold nowI; omega
theorem Now_any (n : Int) (w : World) : Calls Tryz.prog 94 #[.int .i64 n] w fun e w' => e = .returned (.int .i64 (nowI n)) ∧ w = w' := by
  have hmn := @run_min2 Tryz.prog
  have hmx := @run_max2 Tryz.prog
  go_enter Tryz.func94, Tryz.ntmps94
  go_wp2
  go_ret
  exact ⟨rfl, rfl⟩

def runV (p t u : Int) (b : Bool) : Value := .agg #[.int .u8 p, .int .i64 t, .int .i64 u, .bool b]
theorem cells4h {W : World} {B : Nat} {c0 c1 c2 c3 : Value} {t : TypeId} (h : W.heap[B]? = some (.cells #[c0, c1, c2, c3] t (0, 0))) :
    W.cell? ⟨B, 0, none⟩ = some c0 ∧ W.cell? ⟨B, 1, none⟩ = some c1 ∧ W.cell? ⟨B, 2, none⟩ = some c2 ∧ W.cell? ⟨B, 3, none⟩ = some c3 ∧ W.frozen? ⟨B, 0, none⟩ = false ∧ W.frozen? ⟨B, 1, none⟩ = false ∧ W.frozen? ⟨B, 2, none⟩ = false ∧ W.frozen? ⟨B, 3, none⟩ = false := by
  simp [World.cell?, World.frozen?, h]
theorem bset {B b o : Nat} {w W : World} {v : Value} (h : Below B w W) (hb : B ≤ b) : Below B w (W.setCell ⟨b, o, none⟩ v) := h.setCell (p := ⟨b, o, none⟩) hb v
theorem keepH {w w' : World} {i : Nat} {o : Obj} (h : w.heap[i]? = some o) (hb : Below w.heap.size w w') : w'.heap[i]? = some o := (hb.block i (Array.getElem?_eq_some_iff.1 h).1).trans h
theorem heap2 (w : World) (a b : Obj) : ((w.alloc a).alloc b).heap[w.heap.size]? = some a ∧ ((w.alloc a).alloc b).heap[w.heap.size + 1]? = some b ∧ ((w.alloc a).alloc b).heap.size = w.heap.size + 2 ∧ Below w.heap.size w ((w.alloc a).alloc b) := by
  refine ⟨(Below.heap_alloc _ _ _ (by simp)).trans (World.alloc_heap_new w _), ?_, by simp, ((Below.refl _ w).alloc (Nat.le_refl _) _).alloc (by simp) _⟩
  have := World.alloc_heap_new (w.alloc a) b
  rwa [World.size_alloc] at this
theorem heap3 (w : World) (a b c : Obj) : (((w.alloc a).alloc b).alloc c).heap[w.heap.size]? = some a ∧ (((w.alloc a).alloc b).alloc c).heap[w.heap.size + 1]? = some b ∧ (((w.alloc a).alloc b).alloc c).heap[w.heap.size + 1 + 1]? = some c ∧ (((w.alloc a).alloc b).alloc c).heap.size = w.heap.size + 3 ∧ Below w.heap.size w (((w.alloc a).alloc b).alloc c) := by
  obtain ⟨h1, h2, h3, h4⟩ := heap2 w a b
  refine ⟨(Below.heap_alloc _ _ _ (by omega)).trans h1, (Below.heap_alloc _ _ _ (by omega)).trans h2, ?_, by simp, h4.alloc (by omega) _⟩
  have := World.alloc_heap_new ((w.alloc a).alloc b) c
  rwa [h3] at this

set_option maxRecDepth 100000 in
theorem end_any (p t u ph : Int) (b : Bool) (w : World) : Calls Tryz.prog 86 #[runV p t u b, .int .u8 ph] w fun e w' => e = .returned (runV ph t 0 b) ∧ Below w.heap.size w w' := by
  unfold runV
  go_enter Tryz.func86, Tryz.ntmps86
  go_wp2
  refine bodyPost_ret (v := .agg #[.int .u8 ph, .int .i64 t, .int .i64 0, .bool b]) (by simp [results, Tryz.results86, go_sem]) rfl ⟨rfl, ((Below.refl _ w).alloc (Nat.le_refl _) _).alloc (by simp) _⟩

section
variable {s0 s1 s2 : ByteArray} {af : Option Addr} {an ac : Nat} {m f k l : Int} {nk : Int} {nt : ByteArray} {ka : Option Addr} {kn kc : Nat} {da : Option Addr} {dn dc : Nat} {nl : Int}

def inc (t : Int) : Int := wrap64 (t + 1)
set_option maxRecDepth 100000 in
set_option maxHeartbeats 1000000 in
theorem try_any (p t u : Int) (b : Bool) (now : Int) (w : World) : Calls Tryz.prog 95 #[runV p t u b, stepV s0 s1 s2 af an ac m f k l nk nt ka kn kc da dn dc nl, .int .i64 now] w fun e w' => e = .returned (runV 1 (inc t) (nowI now + limI l) b) ∧ Below w.heap.size w w' := by
  have hmn := @run_min2 Tryz.prog
  have hmx := @run_max2 Tryz.prog
  have hf5 := @field_step5
  have hlr := limI_range l
  obtain ⟨L, hL⟩ : ∃ L, limI l = L := ⟨_, rfl⟩
  rw [hL] at hlr ⊢
  have HL := Lib.hid (show min (max (or0 l 100) 0) 10000 = L from hL)
  have hnr := nowI_range now
  have HN := Lib.hid (fun w => Now_any now w)
  generalize nowI now = N at *
  clear hL
  unfold runV stepV
  go_enter Tryz.func95, Tryz.ntmps95
  go_wp2_with fail
  refine (Real_any s0 s1 s2 af an ac m f k l nk nt ka kn kc da dn dc nl _).mono ?_
  rintro e w1 ⟨rfl, hb1⟩
  unfold stepV
  obtain ⟨x1, x2, x3, x4, x5⟩ := heap3 w (Obj.cells #[.int .u8 p, .int .i64 t, .int .i64 u, .bool b] 100) (Obj.cells #[.string s0, .string s1, .string s2, .slice af an ac, .int .i64 m, .int .i64 f, .int .i64 k, .int .i64 l, .int .u8 nk, .string nt, .slice ka kn kc, .slice da dn dc, .int .i64 nl] 47) (Obj.cells #[.int .u8 0, .int .i64 0, .int .i64 0, .bool false] 100)
  have y1 := (hb1.block w.heap.size (by rw [x4]; omega)).trans x1
  have y3 := (hb1.block (w.heap.size + 1 + 1) (by rw [x4]; omega)).trans x3
  have hbw := x5.trans (hb1.mono (by rw [x4]; omega))
  obtain ⟨a0, a1, a2, a3, f0, f1, f2, f3⟩ := cells4h y1
  obtain ⟨b0, b1, b2, b3, g0, g1, g2, g3⟩ := cells4h y3
  clear x1 x2 x3 x4 x5 y1 y3 hb1
  go_wp2_with fail
  refine (HN.out _).mono ?_
  rintro e w' ⟨rfl, rfl⟩
  rw [HL.out]
  go_wp2
  refine bodyPost_ret (v := .agg #[.int .u8 1, .int .i64 (wrap64 (t + 1)), .int .i64 (N + L), .bool b]) (by simp [results, Tryz.results95, go_sem, b0, b1, b2, b3]) rfl ⟨rfl, ?_⟩
  exact bset (bset (bset (bset (bset (bset (bset hbw (Nat.le_refl _)) (Nat.le_refl _)) (Nat.le_refl _)) (by omega)) (by omega)) (by omega)) (by omega)
end
end Go.Proofs.YtgfiogjfgbegpaaGreat

/-
  step: fail, Begin, Answer, Tick, Stop, Settled: contracts.
-/
namespace Go.Proofs.YtgfiogjfgbegpaaGreat
open Go.RowKit
attribute [local go_sem ↓] Go.wp_at_zero Go.wp_at_succ

theorem after3 (w : World) (a b c : Array Value) (ta tb tc : TypeId) {w1 : World} (hb : Below (((w.alloc (.cells a ta)).alloc (.cells b tb)).alloc (.cells c tc)).heap.size (((w.alloc (.cells a ta)).alloc (.cells b tb)).alloc (.cells c tc)) w1) :
    w1.heap[w.heap.size]? = some (.cells a ta (0, 0)) ∧ w1.heap[w.heap.size + 1]? = some (.cells b tb (0, 0)) ∧ w1.heap[w.heap.size + 1 + 1]? = some (.cells c tc (0, 0)) ∧ Below w.heap.size w w1 := by
  obtain ⟨x1, x2, x3, x4, x5⟩ := heap3 w (Obj.cells a ta) (Obj.cells b tb) (Obj.cells c tc)
  exact ⟨keepH x1 hb, keepH x2 hb, keepH x3 hb, x5.trans (hb.mono (by omega))⟩
theorem after2 (w : World) (a b : Array Value) (ta tb : TypeId) {w1 : World} (hb : Below ((w.alloc (.cells a ta)).alloc (.cells b tb)).heap.size ((w.alloc (.cells a ta)).alloc (.cells b tb)) w1) :
    w1.heap[w.heap.size]? = some (.cells a ta (0, 0)) ∧ w1.heap[w.heap.size + 1]? = some (.cells b tb (0, 0)) ∧ Below w.heap.size w w1 := by
  obtain ⟨x1, x2, x4, x5⟩ := heap2 w (Obj.cells a ta) (Obj.cells b tb)
  exact ⟨keepH x1 hb, keepH x2 hb, x5.trans (hb.mono (by omega))⟩

section
variable {s0 s1 s2 : ByteArray} {af : Option Addr} {an ac : Nat} {m f k l : Int} {nk : Int} {nt : ByteArray} {ka : Option Addr} {kn kc : Nat} {da : Option Addr} {dn dc : Nat} {nl : Int}

def failT (m f k l _p t _u : Int) (b : Bool) (now : Int) : Int × Int × Int × Bool :=
  if b || !moreB m t then (4, t, 0, b) else if waitI f k t = 0 then (1, inc t, nowI now + limI l, b) else (2, t, nowI now + waitI f k t, b)
def runT (x : Int × Int × Int × Bool) : Value := runV x.1 x.2.1 x.2.2.1 x.2.2.2

set_option maxRecDepth 100000 in
set_option maxHeartbeats 1000000 in
theorem fail_last (p t u : Int) (b : Bool) (now : Int) (w : World) (hb0 : b = true) : Calls Tryz.prog 87 #[runV p t u b, stepV s0 s1 s2 af an ac m f k l nk nt ka kn kc da dn dc nl, .int .i64 now] w fun e w' => e = .returned (runT (failT m f k l p t u b now)) ∧ Below w.heap.size w w' := by
  subst hb0
  have e : failT m f k l p t u true now = (4, t, 0, true) := rfl
  rw [e]
  unfold runT runV stepV
  clear e
  go_enter Tryz.func87, Tryz.ntmps87
  go_wp2_with fail
  refine (end_any p t u 4 true _).mono ?_
  rintro e w1 ⟨rfl, hb1⟩
  unfold runV
  obtain ⟨y1, y2, y3, hbw⟩ := after3 w #[.int .u8 p, .int .i64 t, .int .i64 u, .bool true] #[.string s0, .string s1, .string s2, .slice af an ac, .int .i64 m, .int .i64 f, .int .i64 k, .int .i64 l, .int .u8 nk, .string nt, .slice ka kn kc, .slice da dn dc, .int .i64 nl] #[.int .u8 0, .int .i64 0, .int .i64 0, .bool false] 100 47 100 hb1
  have Y1 := Lib.hid y1; have Y2 := Lib.hid y2; have Y3 := Lib.hid y3
  obtain ⟨a0, a1, a2, a3, f0, f1, f2, f3⟩ := cells4h y1
  obtain ⟨b0, b1, b2, b3, g0, g1, g2, g3⟩ := cells4h y3
  obtain ⟨d0, d1, d2, d3, d4, d5, d6, d7, d8, d9, d10, d11, d12⟩ := cells13a y2
  clear y1 y2 y3
  go_wp2
  refine bodyPost_ret (v := .agg #[.int .u8 4, .int .i64 t, .int .i64 0, .bool true]) (by simp [results, Tryz.results87, go_sem, b0, b1, b2, b3]) rfl ⟨rfl, ?_⟩
  repeat (refine bset ?_ (by omega))
  exact hbw

set_option maxRecDepth 100000 in
set_option maxHeartbeats 1000000 in
theorem fail_no (p t u : Int) (now : Int) (w : World) (hm : moreB m t = false) : Calls Tryz.prog 87 #[runV p t u false, stepV s0 s1 s2 af an ac m f k l nk nt ka kn kc da dn dc nl, .int .i64 now] w fun e w' => e = .returned (runT (failT m f k l p t u false now)) ∧ Below w.heap.size w w' := by
  have e : failT m f k l p t u false now = (4, t, 0, false) := by unfold failT; rw [hm]; rfl
  rw [e]
  have HM := Lib.hid (fun w => More_any m f k t w)
  rw [hm] at HM
  unfold runT runV stepV
  clear e hm
  go_enter Tryz.func87, Tryz.ntmps87
  go_wp2_with fail
  refine (HM.out _).mono ?_
  rintro e w1 ⟨rfl, hb1⟩
  obtain ⟨y1, y2, y3, hbw⟩ := after3 w #[.int .u8 p, .int .i64 t, .int .i64 u, .bool false] #[.string s0, .string s1, .string s2, .slice af an ac, .int .i64 m, .int .i64 f, .int .i64 k, .int .i64 l, .int .u8 nk, .string nt, .slice ka kn kc, .slice da dn dc, .int .i64 nl] #[.int .u8 0, .int .i64 0, .int .i64 0, .bool false] 100 47 100 hb1
  have Y1 := Lib.hid y1; have Y2 := Lib.hid y2; have Y3 := Lib.hid y3
  obtain ⟨a0, a1, a2, a3, f0, f1, f2, f3⟩ := cells4h y1
  obtain ⟨b0, b1, b2, b3, g0, g1, g2, g3⟩ := cells4h y3
  obtain ⟨d0, d1, d2, d3, d4, d5, d6, d7, d8, d9, d10, d11, d12⟩ := cells13a y2
  clear y1 y2 y3
  go_wp2_with fail
  refine (end_any p t u 4 false _).mono ?_
  rintro e w2 ⟨rfl, hb2⟩
  unfold runV
  have y1 := keepH Y1.out hb2; have y2 := keepH Y2.out hb2; have y3 := keepH Y3.out hb2
  have hbw := bthen hbw (Nat.le_refl _) hb2
  clear Y1 Y2 Y3 hb2 a0 a1 a2 a3 f0 f1 f2 f3 b0 b1 b2 b3 g0 g1 g2 g3 d0 d1 d2 d3 d4 d5 d6 d7 d8 d9 d10 d11 d12
  have Y1 := Lib.hid y1; have Y2 := Lib.hid y2; have Y3 := Lib.hid y3
  obtain ⟨a0, a1, a2, a3, f0, f1, f2, f3⟩ := cells4h y1
  obtain ⟨b0, b1, b2, b3, g0, g1, g2, g3⟩ := cells4h y3
  obtain ⟨d0, d1, d2, d3, d4, d5, d6, d7, d8, d9, d10, d11, d12⟩ := cells13a y2
  clear y1 y2 y3
  go_wp2
  refine bodyPost_ret (v := .agg #[.int .u8 4, .int .i64 t, .int .i64 0, .bool false]) (by simp [results, Tryz.results87, go_sem, b0, b1, b2, b3]) rfl ⟨rfl, ?_⟩
  repeat (refine bset ?_ (by omega))
  exact hbw

set_option maxRecDepth 100000 in
set_option maxHeartbeats 1000000 in
theorem fail_wait (p t u : Int) (now : Int) (w : World) (hm : moreB m t = true) (hw0 : waitI f k t ≠ 0) : Calls Tryz.prog 87 #[runV p t u false, stepV s0 s1 s2 af an ac m f k l nk nt ka kn kc da dn dc nl, .int .i64 now] w fun e w' => e = .returned (runT (failT m f k l p t u false now)) ∧ Below w.heap.size w w' := by
  have e : failT m f k l p t u false now = (2, t, nowI now + waitI f k t, false) := by unfold failT; rw [hm]; simp [hw0]
  rw [e]
  have HM := Lib.hid (fun w => More_any m f k t w)
  rw [hm] at HM
  have HW := Lib.hid (fun w => Wait_any m f k t w)
  have hwr := waitI_range f k t
  have hnr := nowI_range now
  have HN := Lib.hid (fun w => Now_any now w)
  generalize waitI f k t = x at *
  generalize nowI now = N at *
  have hx0 : (x == 0) = false := by simpa using hw0
  unfold runT runV stepV
  clear e hm hw0
  go_enter Tryz.func87, Tryz.ntmps87
  go_wp2_with fail
  refine (HM.out _).mono ?_
  rintro e w1 ⟨rfl, hb1⟩
  obtain ⟨y1, y2, y3, hbw⟩ := after3 w #[.int .u8 p, .int .i64 t, .int .i64 u, .bool false] #[.string s0, .string s1, .string s2, .slice af an ac, .int .i64 m, .int .i64 f, .int .i64 k, .int .i64 l, .int .u8 nk, .string nt, .slice ka kn kc, .slice da dn dc, .int .i64 nl] #[.int .u8 0, .int .i64 0, .int .i64 0, .bool false] 100 47 100 hb1
  have Y1 := Lib.hid y1; have Y2 := Lib.hid y2; have Y3 := Lib.hid y3
  obtain ⟨a0, a1, a2, a3, f0, f1, f2, f3⟩ := cells4h y1
  obtain ⟨b0, b1, b2, b3, g0, g1, g2, g3⟩ := cells4h y3
  obtain ⟨d0, d1, d2, d3, d4, d5, d6, d7, d8, d9, d10, d11, d12⟩ := cells13a y2
  clear y1 y2 y3
  go_wp2_with fail
  refine (HW.out _).mono ?_
  rintro e w2 ⟨rfl, hb2⟩
  have y1 := keepH Y1.out hb2; have y2 := keepH Y2.out hb2; have y3 := keepH Y3.out hb2
  have hbw := bthen hbw (Nat.le_refl _) hb2
  clear Y1 Y2 Y3 hb2 a0 a1 a2 a3 f0 f1 f2 f3 b0 b1 b2 b3 g0 g1 g2 g3 d0 d1 d2 d3 d4 d5 d6 d7 d8 d9 d10 d11 d12
  have Y1 := Lib.hid y1; have Y2 := Lib.hid y2; have Y3 := Lib.hid y3
  obtain ⟨a0, a1, a2, a3, f0, f1, f2, f3⟩ := cells4h y1
  obtain ⟨b0, b1, b2, b3, g0, g1, g2, g3⟩ := cells4h y3
  obtain ⟨d0, d1, d2, d3, d4, d5, d6, d7, d8, d9, d10, d11, d12⟩ := cells13a y2
  clear y1 y2 y3
  go_wp2_with fail
  refine (HN.out _).mono ?_
  rintro e w' ⟨rfl, rfl⟩
  go_wp2
  refine bodyPost_ret (v := .agg #[.int .u8 2, .int .i64 t, .int .i64 (N + x), .bool false]) (by simp [results, Tryz.results87, go_sem, b0, b1, b2, b3]) rfl ⟨rfl, ?_⟩
  repeat (refine bset ?_ (by omega))
  exact hbw

set_option maxRecDepth 100000 in
set_option maxHeartbeats 1000000 in
theorem fail_again (p t u : Int) (now : Int) (w : World) (hm : moreB m t = true) (hw0 : waitI f k t = 0) : Calls Tryz.prog 87 #[runV p t u false, stepV s0 s1 s2 af an ac m f k l nk nt ka kn kc da dn dc nl, .int .i64 now] w fun e w' => e = .returned (runT (failT m f k l p t u false now)) ∧ Below w.heap.size w w' := by
  have e : failT m f k l p t u false now = (1, inc t, nowI now + limI l, false) := by unfold failT; rw [hm]; simp [hw0]
  rw [e]
  have HM := Lib.hid (fun w => More_any m f k t w)
  rw [hm] at HM
  have HW := Lib.hid (fun w => Wait_any m f k t w)
  rw [hw0] at HW
  have HT := Lib.hid (fun w => try_any (s0 := s0) (s1 := s1) (s2 := s2) (af := af) (an := an) (ac := ac) (m := m) (f := f) (k := k) (l := l) (nk := nk) (nt := nt) (ka := ka) (kn := kn) (kc := kc) (da := da) (dn := dn) (dc := dc) (nl := nl) p t u false now w)
  unfold runT
  generalize inc t = T at *
  generalize nowI now + limI l = U at *
  unfold runV stepV
  unfold runV stepV at HT
  clear e hm hw0
  go_enter Tryz.func87, Tryz.ntmps87
  go_wp2_with fail
  refine (HM.out _).mono ?_
  rintro e w1 ⟨rfl, hb1⟩
  obtain ⟨y1, y2, y3, hbw⟩ := after3 w #[.int .u8 p, .int .i64 t, .int .i64 u, .bool false] #[.string s0, .string s1, .string s2, .slice af an ac, .int .i64 m, .int .i64 f, .int .i64 k, .int .i64 l, .int .u8 nk, .string nt, .slice ka kn kc, .slice da dn dc, .int .i64 nl] #[.int .u8 0, .int .i64 0, .int .i64 0, .bool false] 100 47 100 hb1
  have Y1 := Lib.hid y1; have Y2 := Lib.hid y2; have Y3 := Lib.hid y3
  obtain ⟨a0, a1, a2, a3, f0, f1, f2, f3⟩ := cells4h y1
  obtain ⟨b0, b1, b2, b3, g0, g1, g2, g3⟩ := cells4h y3
  obtain ⟨d0, d1, d2, d3, d4, d5, d6, d7, d8, d9, d10, d11, d12⟩ := cells13a y2
  clear y1 y2 y3
  go_wp2_with fail
  refine (HW.out _).mono ?_
  rintro e w2 ⟨rfl, hb2⟩
  have y1 := keepH Y1.out hb2; have y2 := keepH Y2.out hb2; have y3 := keepH Y3.out hb2
  have hbw := bthen hbw (Nat.le_refl _) hb2
  clear Y1 Y2 Y3 hb2 a0 a1 a2 a3 f0 f1 f2 f3 b0 b1 b2 b3 g0 g1 g2 g3 d0 d1 d2 d3 d4 d5 d6 d7 d8 d9 d10 d11 d12
  have Y1 := Lib.hid y1; have Y2 := Lib.hid y2; have Y3 := Lib.hid y3
  obtain ⟨a0, a1, a2, a3, f0, f1, f2, f3⟩ := cells4h y1
  obtain ⟨b0, b1, b2, b3, g0, g1, g2, g3⟩ := cells4h y3
  obtain ⟨d0, d1, d2, d3, d4, d5, d6, d7, d8, d9, d10, d11, d12⟩ := cells13a y2
  clear y1 y2 y3
  go_wp2_with fail
  refine (HT.out _).mono ?_
  rintro e w3 ⟨rfl, hb3⟩
  have y1 := keepH Y1.out hb3; have y2 := keepH Y2.out hb3; have y3 := keepH Y3.out hb3
  have hbw := bthen hbw (Nat.le_refl _) hb3
  clear Y1 Y2 Y3 hb3 a0 a1 a2 a3 f0 f1 f2 f3 b0 b1 b2 b3 g0 g1 g2 g3 d0 d1 d2 d3 d4 d5 d6 d7 d8 d9 d10 d11 d12
  have Y1 := Lib.hid y1; have Y2 := Lib.hid y2; have Y3 := Lib.hid y3
  obtain ⟨a0, a1, a2, a3, f0, f1, f2, f3⟩ := cells4h y1
  obtain ⟨b0, b1, b2, b3, g0, g1, g2, g3⟩ := cells4h y3
  obtain ⟨d0, d1, d2, d3, d4, d5, d6, d7, d8, d9, d10, d11, d12⟩ := cells13a y2
  clear y1 y2 y3
  go_wp2
  refine bodyPost_ret (v := .agg #[.int .u8 1, .int .i64 T, .int .i64 U, .bool false]) (by simp [results, Tryz.results87, go_sem, b0, b1, b2, b3]) rfl ⟨rfl, ?_⟩
  repeat (refine bset ?_ (by omega))
  exact hbw

theorem fail_any (p t u : Int) (b : Bool) (now : Int) (w : World) : Calls Tryz.prog 87 #[runV p t u b, stepV s0 s1 s2 af an ac m f k l nk nt ka kn kc da dn dc nl, .int .i64 now] w fun e w' => e = .returned (runT (failT m f k l p t u b now)) ∧ Below w.heap.size w w' := by
  cases b with
  | true => exact fail_last p t u true now w rfl
  | false =>
    cases hm : moreB m t with
    | false => exact fail_no p t u now w hm
    | true =>
      by_cases h0 : waitI f k t = 0
      · exact fail_again p t u now w hm h0
      · exact fail_wait p t u now w hm h0

end
end Go.Proofs.YtgfiogjfgbegpaaGreat

/-
  step: Begin, Answer, Tick, Stop, Settled: contracts.
-/
namespace Go.Proofs.YtgfiogjfgbegpaaGreat
open Go.RowKit
attribute [local go_sem ↓] Go.wp_at_zero Go.wp_at_succ

def answerT (m f k l p t u : Int) (b : Bool) (now tr o : Int) : (Int × Int × Int × Bool) × Bool :=
  if p = 1 ∧ t = tr then (if o = 0 then ((3, t, 0, b), true) else if o = 1 then (failT m f k l p t u b now, true) else if o = 2 then ((4, t, 0, b), true) else ((p, t, u, b), false)) else ((p, t, u, b), false)
def tickT (m f k l p t u : Int) (b : Bool) (now : Int) : (Int × Int × Int × Bool) × Bool :=
  if u ≤ nowI now then (if p = 1 then (failT m f k l p t u b now, true) else if p = 2 then ((1, inc t, nowI now + limI l, b), true) else ((p, t, u, b), false)) else ((p, t, u, b), false)
def stopT (p t u : Int) (b : Bool) : Int × Int × Int × Bool :=
  if p = 0 ∨ p = 2 then (4, t, 0, true) else if p = 1 then (p, t, u, true) else (p, t, u, b)
def tupR (x : (Int × Int × Int × Bool) × Bool) : Value := .tuple #[runT x.1, .bool x.2]

section
variable {s0 s1 s2 : ByteArray} {af : Option Addr} {an ac : Nat} {m f k l : Int} {nk : Int} {nt : ByteArray} {ka : Option Addr} {kn kc : Nat} {da : Option Addr} {dn dc : Nat} {nl : Int}

set_option maxRecDepth 100000 in
set_option maxHeartbeats 1000000 in
theorem Begin_any (now : Int) (w : World) : Calls Tryz.prog 112 #[stepV s0 s1 s2 af an ac m f k l nk nt ka kn kc da dn dc nl, .int .i64 now] w fun e w' => e = .returned (runV 1 (inc 0) (nowI now + limI l) false) ∧ Below w.heap.size w w' := by
  have HT := Lib.hid (fun w => try_any (s0 := s0) (s1 := s1) (s2 := s2) (af := af) (an := an) (ac := ac) (m := m) (f := f) (k := k) (l := l) (nk := nk) (nt := nt) (ka := ka) (kn := kn) (kc := kc) (da := da) (dn := dn) (dc := dc) (nl := nl) 0 0 0 false now w)
  generalize inc 0 = T at *
  generalize nowI now + limI l = U at *
  unfold runV stepV
  unfold runV stepV at HT
  go_enter Tryz.func112, Tryz.ntmps112
  go_wp2_with fail
  refine (HT.out _).mono ?_
  rintro e w1 ⟨rfl, hb1⟩
  obtain ⟨_, y2, hbw⟩ := after2 w #[.string s0, .string s1, .string s2, .slice af an ac, .int .i64 m, .int .i64 f, .int .i64 k, .int .i64 l, .int .u8 nk, .string nt, .slice ka kn kc, .slice da dn dc, .int .i64 nl] #[.int .u8 0, .int .i64 0, .int .i64 0, .bool false] 47 100 hb1
  obtain ⟨b0, b1, b2, b3, g0, g1, g2, g3⟩ := cells4h y2
  clear y2
  go_wp2
  refine bodyPost_ret (v := .agg #[.int .u8 1, .int .i64 T, .int .i64 U, .bool false]) (by simp [results, Tryz.results112, go_sem, b0, b1, b2, b3]) rfl ⟨rfl, ?_⟩
  repeat (refine bset ?_ (by omega))
  exact hbw

set_option maxRecDepth 100000 in
set_option maxHeartbeats 1000000 in
theorem Answer_other (p t u : Int) (b : Bool) (now tr o : Int) (w : World) (hp : p ≠ 1) : Calls Tryz.prog 47 #[runV p t u b, stepV s0 s1 s2 af an ac m f k l nk nt ka kn kc da dn dc nl, .int .i64 now, .int .i64 tr, .int .u8 o] w fun e w' => e = .returned (tupR (answerT m f k l p t u b now tr o)) ∧ Below w.heap.size w w' := by
  have e : answerT m f k l p t u b now tr o = ((p, t, u, b), false) := by unfold answerT; rw [if_neg (fun h => hp h.1)]
  rw [e]
  have d1 : (p == 1) = false := by simpa using hp
  have d2 : (p != 1) = true := by simpa using hp
  clear hp
  unfold tupR runT runV stepV
  dsimp only
  clear e
  go_enter Tryz.func47, Tryz.ntmps47
  go_wp2
  refine bodyPost_ret (v := .tuple #[.agg #[.int .u8 p, .int .i64 t, .int .i64 u, .bool b], .bool false]) (by simp [results, Tryz.results47, go_sem]) rfl ⟨rfl, ?_⟩
  exact (((Below.refl _ w).alloc (Nat.le_refl _) _).alloc (by simp) _).alloc (by simp; omega) _

set_option maxRecDepth 100000 in
set_option maxHeartbeats 1000000 in
theorem Answer_try (p t u : Int) (b : Bool) (now tr o : Int) (w : World) (hp : p = 1) (ht : t ≠ tr) : Calls Tryz.prog 47 #[runV p t u b, stepV s0 s1 s2 af an ac m f k l nk nt ka kn kc da dn dc nl, .int .i64 now, .int .i64 tr, .int .u8 o] w fun e w' => e = .returned (tupR (answerT m f k l p t u b now tr o)) ∧ Below w.heap.size w w' := by
  have e : answerT m f k l p t u b now tr o = ((p, t, u, b), false) := by unfold answerT; rw [if_neg (fun h => ht h.2)]
  rw [e]
  have d1 : (p == 1) = true := by simpa using hp
  have d2 : (p != 1) = false := by simpa using hp
  have d3 : (t == tr) = false := by simpa using ht
  have d4 : (t != tr) = true := by simpa using ht
  clear hp ht
  unfold tupR runT runV stepV
  dsimp only
  clear e
  go_enter Tryz.func47, Tryz.ntmps47
  go_wp2
  refine bodyPost_ret (v := .tuple #[.agg #[.int .u8 p, .int .i64 t, .int .i64 u, .bool b], .bool false]) (by simp [results, Tryz.results47, go_sem]) rfl ⟨rfl, ?_⟩
  exact (((Below.refl _ w).alloc (Nat.le_refl _) _).alloc (by simp) _).alloc (by simp; omega) _

set_option maxRecDepth 100000 in
set_option maxHeartbeats 1000000 in
theorem Answer_odd (p t u : Int) (b : Bool) (now tr o : Int) (w : World) (hp : p = 1) (ht : t = tr) (h0 : o ≠ 0) (h1 : o ≠ 1) (h2 : o ≠ 2) : Calls Tryz.prog 47 #[runV p t u b, stepV s0 s1 s2 af an ac m f k l nk nt ka kn kc da dn dc nl, .int .i64 now, .int .i64 tr, .int .u8 o] w fun e w' => e = .returned (tupR (answerT m f k l p t u b now tr o)) ∧ Below w.heap.size w w' := by
  have e : answerT m f k l p t u b now tr o = ((p, t, u, b), false) := by unfold answerT; rw [if_pos ⟨hp, ht⟩, if_neg h0, if_neg h1, if_neg h2]
  rw [e]
  have d1 : (p == 1) = true := by simpa using hp
  have d2 : (p != 1) = false := by simpa using hp
  have d3 : (t == tr) = true := by simpa using ht
  have d4 : (t != tr) = false := by simpa using ht
  have e0 : (o == 0) = false := by simpa using h0
  have e1 : (o == 1) = false := by simpa using h1
  have e2 : (o == 2) = false := by simpa using h2
  clear hp ht h0 h1 h2
  unfold tupR runT runV stepV
  dsimp only
  clear e
  go_enter Tryz.func47, Tryz.ntmps47
  go_wp2
  refine bodyPost_ret (v := .tuple #[.agg #[.int .u8 p, .int .i64 t, .int .i64 u, .bool b], .bool false]) (by simp [results, Tryz.results47, go_sem]) rfl ⟨rfl, ?_⟩
  exact (((Below.refl _ w).alloc (Nat.le_refl _) _).alloc (by simp) _).alloc (by simp; omega) _

set_option maxRecDepth 100000 in
set_option maxHeartbeats 1000000 in
theorem Answer_done (p t u : Int) (b : Bool) (now tr o : Int) (w : World) (hp : p = 1) (ht : t = tr) (h0 : o = 0) : Calls Tryz.prog 47 #[runV p t u b, stepV s0 s1 s2 af an ac m f k l nk nt ka kn kc da dn dc nl, .int .i64 now, .int .i64 tr, .int .u8 o] w fun e w' => e = .returned (tupR (answerT m f k l p t u b now tr o)) ∧ Below w.heap.size w w' := by
  have e : answerT m f k l p t u b now tr o = ((3, t, 0, b), true) := by unfold answerT; rw [if_pos ⟨hp, ht⟩, h0]; rfl
  rw [e]
  have d1 : (p == 1) = true := by simpa using hp
  have d2 : (p != 1) = false := by simpa using hp
  have d3 : (t == tr) = true := by simpa using ht
  have d4 : (t != tr) = false := by simpa using ht
  have e0 : (o == 0) = true := by rw [h0]; rfl
  have e1 : (o == 1) = false := by rw [h0]; rfl
  have e2 : (o == 2) = false := by rw [h0]; rfl
  have HE := Lib.hid (fun w => end_any p t u 3 b w)
  unfold runV at HE
  clear hp ht h0
  unfold tupR runT runV stepV
  dsimp only
  clear e
  go_enter Tryz.func47, Tryz.ntmps47
  go_wp2_with fail
  refine (HE.out _).mono ?_
  rintro e w1 ⟨rfl, hb1⟩
  obtain ⟨y1, y2, y3, hbw⟩ := after3 w #[.int .u8 p, .int .i64 t, .int .i64 u, .bool b] #[.string s0, .string s1, .string s2, .slice af an ac, .int .i64 m, .int .i64 f, .int .i64 k, .int .i64 l, .int .u8 nk, .string nt, .slice ka kn kc, .slice da dn dc, .int .i64 nl] #[.int .u8 0, .int .i64 0, .int .i64 0, .bool false] 100 47 100 hb1
  have Y1 := Lib.hid y1; have Y2 := Lib.hid y2; have Y3 := Lib.hid y3
  obtain ⟨a0, a1, a2, a3, f0, f1, f2, f3⟩ := cells4h y1
  obtain ⟨b0, b1, b2, b3, g0, g1, g2, g3⟩ := cells4h y3
  obtain ⟨d0, d1, d2, d3, d4, d5, d6, d7, d8, d9, d10, d11, d12⟩ := cells13a y2
  clear y1 y2 y3
  go_wp2
  refine bodyPost_ret (v := .tuple #[.agg #[.int .u8 3, .int .i64 t, .int .i64 0, .bool b], .bool true]) (by simp [results, Tryz.results47, go_sem, b0, b1, b2, b3]) rfl ⟨rfl, ?_⟩
  repeat (refine bset ?_ (by omega))
  exact hbw

set_option maxRecDepth 100000 in
set_option maxHeartbeats 1000000 in
theorem Answer_fatal (p t u : Int) (b : Bool) (now tr o : Int) (w : World) (hp : p = 1) (ht : t = tr) (h0 : o = 2) : Calls Tryz.prog 47 #[runV p t u b, stepV s0 s1 s2 af an ac m f k l nk nt ka kn kc da dn dc nl, .int .i64 now, .int .i64 tr, .int .u8 o] w fun e w' => e = .returned (tupR (answerT m f k l p t u b now tr o)) ∧ Below w.heap.size w w' := by
  have e : answerT m f k l p t u b now tr o = ((4, t, 0, b), true) := by unfold answerT; rw [if_pos ⟨hp, ht⟩, h0]; rfl
  rw [e]
  have d1 : (p == 1) = true := by simpa using hp
  have d2 : (p != 1) = false := by simpa using hp
  have d3 : (t == tr) = true := by simpa using ht
  have d4 : (t != tr) = false := by simpa using ht
  have e0 : (o == 0) = false := by rw [h0]; rfl
  have e1 : (o == 1) = false := by rw [h0]; rfl
  have e2 : (o == 2) = true := by rw [h0]; rfl
  have HE := Lib.hid (fun w => end_any p t u 4 b w)
  unfold runV at HE
  clear hp ht h0
  unfold tupR runT runV stepV
  dsimp only
  clear e
  go_enter Tryz.func47, Tryz.ntmps47
  go_wp2_with fail
  refine (HE.out _).mono ?_
  rintro e w1 ⟨rfl, hb1⟩
  obtain ⟨y1, y2, y3, hbw⟩ := after3 w #[.int .u8 p, .int .i64 t, .int .i64 u, .bool b] #[.string s0, .string s1, .string s2, .slice af an ac, .int .i64 m, .int .i64 f, .int .i64 k, .int .i64 l, .int .u8 nk, .string nt, .slice ka kn kc, .slice da dn dc, .int .i64 nl] #[.int .u8 0, .int .i64 0, .int .i64 0, .bool false] 100 47 100 hb1
  have Y1 := Lib.hid y1; have Y2 := Lib.hid y2; have Y3 := Lib.hid y3
  obtain ⟨a0, a1, a2, a3, f0, f1, f2, f3⟩ := cells4h y1
  obtain ⟨b0, b1, b2, b3, g0, g1, g2, g3⟩ := cells4h y3
  obtain ⟨d0, d1, d2, d3, d4, d5, d6, d7, d8, d9, d10, d11, d12⟩ := cells13a y2
  clear y1 y2 y3
  go_wp2
  refine bodyPost_ret (v := .tuple #[.agg #[.int .u8 4, .int .i64 t, .int .i64 0, .bool b], .bool true]) (by simp [results, Tryz.results47, go_sem, b0, b1, b2, b3]) rfl ⟨rfl, ?_⟩
  repeat (refine bset ?_ (by omega))
  exact hbw

set_option maxRecDepth 100000 in
set_option maxHeartbeats 1000000 in
theorem Answer_fail (p t u : Int) (b : Bool) (now tr o : Int) (w : World) (hp : p = 1) (ht : t = tr) (h0 : o = 1) : Calls Tryz.prog 47 #[runV p t u b, stepV s0 s1 s2 af an ac m f k l nk nt ka kn kc da dn dc nl, .int .i64 now, .int .i64 tr, .int .u8 o] w fun e w' => e = .returned (tupR (answerT m f k l p t u b now tr o)) ∧ Below w.heap.size w w' := by
  have e : answerT m f k l p t u b now tr o = (failT m f k l p t u b now, true) := by unfold answerT; rw [if_pos ⟨hp, ht⟩, h0]; rfl
  rw [e]
  have d1 : (p == 1) = true := by simpa using hp
  have d2 : (p != 1) = false := by simpa using hp
  have d3 : (t == tr) = true := by simpa using ht
  have d4 : (t != tr) = false := by simpa using ht
  have e0 : (o == 0) = false := by rw [h0]; rfl
  have e1 : (o == 1) = true := by rw [h0]; rfl
  have HE := Lib.hid (fun w => fail_any (s0 := s0) (s1 := s1) (s2 := s2) (af := af) (an := an) (ac := ac) (m := m) (f := f) (k := k) (l := l) (nk := nk) (nt := nt) (ka := ka) (kn := kn) (kc := kc) (da := da) (dn := dn) (dc := dc) (nl := nl) p t u b now w)
  generalize failT m f k l p t u b now = X at *
  obtain ⟨q1, q2, q3, q4⟩ := X
  unfold runT runV stepV at HE
  dsimp only at HE
  clear hp ht h0
  unfold tupR runT runV stepV
  dsimp only
  clear e
  go_enter Tryz.func47, Tryz.ntmps47
  go_wp2_with fail
  refine (HE.out _).mono ?_
  rintro e w1 ⟨rfl, hb1⟩
  obtain ⟨y1, y2, y3, hbw⟩ := after3 w #[.int .u8 p, .int .i64 t, .int .i64 u, .bool b] #[.string s0, .string s1, .string s2, .slice af an ac, .int .i64 m, .int .i64 f, .int .i64 k, .int .i64 l, .int .u8 nk, .string nt, .slice ka kn kc, .slice da dn dc, .int .i64 nl] #[.int .u8 0, .int .i64 0, .int .i64 0, .bool false] 100 47 100 hb1
  have Y1 := Lib.hid y1; have Y2 := Lib.hid y2; have Y3 := Lib.hid y3
  obtain ⟨a0, a1, a2, a3, f0, f1, f2, f3⟩ := cells4h y1
  obtain ⟨b0, b1, b2, b3, g0, g1, g2, g3⟩ := cells4h y3
  obtain ⟨d0, d1, d2, d3, d4, d5, d6, d7, d8, d9, d10, d11, d12⟩ := cells13a y2
  clear y1 y2 y3
  go_wp2
  refine bodyPost_ret (v := .tuple #[.agg #[.int .u8 q1, .int .i64 q2, .int .i64 q3, .bool q4], .bool true]) (by simp [results, Tryz.results47, go_sem, b0, b1, b2, b3]) rfl ⟨rfl, ?_⟩
  repeat (refine bset ?_ (by omega))
  exact hbw

theorem Answer_any (p t u : Int) (b : Bool) (now tr o : Int) (w : World) : Calls Tryz.prog 47 #[runV p t u b, stepV s0 s1 s2 af an ac m f k l nk nt ka kn kc da dn dc nl, .int .i64 now, .int .i64 tr, .int .u8 o] w fun e w' => e = .returned (tupR (answerT m f k l p t u b now tr o)) ∧ Below w.heap.size w w' := by
  by_cases hp : p = 1
  · by_cases ht : t = tr
    · by_cases h0 : o = 0
      · exact Answer_done p t u b now tr o w hp ht h0
      · by_cases h1 : o = 1
        · exact Answer_fail p t u b now tr o w hp ht h1
        · by_cases h2 : o = 2
          · exact Answer_fatal p t u b now tr o w hp ht h2
          · exact Answer_odd p t u b now tr o w hp ht h0 h1 h2
    · exact Answer_try p t u b now tr o w hp ht
  · exact Answer_other p t u b now tr o w hp

theorem set4 {W : World} {B : Nat} {a b c d : Value} {t : TypeId} (x y z v : Value) (h : W.heap[B]? = some (.cells #[a, b, c, d] t (0, 0))) :
    ((((W.setCell ⟨B, 0, none⟩ x).setCell ⟨B, 1, none⟩ y).setCell ⟨B, 2, none⟩ z).setCell ⟨B, 3, none⟩ v).heap[B]? = some (.cells #[x, y, z, v] t (0, 0)) := by
  have := setCell_heap 3 v (setCell_heap 2 z (setCell_heap 1 y (setCell_heap 0 x h)))
  simpa using this
theorem set4_other {W : World} {B j : Nat} (x y z v : Value) (h : j ≠ B) :
    ((((W.setCell ⟨B, 0, none⟩ x).setCell ⟨B, 1, none⟩ y).setCell ⟨B, 2, none⟩ z).setCell ⟨B, 3, none⟩ v).heap[j]? = W.heap[j]? := by
  rw [Below.heap_setCell _ _ _ _ h, Below.heap_setCell _ _ _ _ h, Below.heap_setCell _ _ _ _ h, Below.heap_setCell _ _ _ _ h]
set_option maxRecDepth 100000 in
set_option maxHeartbeats 1000000 in
theorem Stop_any (p t u : Int) (b : Bool) (w : World) : Calls Tryz.prog 130 #[runV p t u b] w fun e w' => e = .returned (runT (stopT p t u b)) ∧ Below w.heap.size w w' := by
  have hc : ((p = 0 ∨ p = 2) ∧ stopT p t u b = (4, t, 0, true)) ∨ (p = 1 ∧ stopT p t u b = (p, t, u, true)) ∨ (p ≠ 0 ∧ p ≠ 1 ∧ p ≠ 2 ∧ stopT p t u b = (p, t, u, b)) := by
    unfold stopT
    by_cases h : p = 0 ∨ p = 2
    · simp [h]
    · by_cases h1 : p = 1
      · simp [h1]
      · right; right; simp [h, h1]; omega
  rcases hc with ⟨h, e⟩ | ⟨h, e⟩ | ⟨h0, h1, h2, e⟩
  · rw [e]
    unfold runT runV
    dsimp only
    clear e
    have HE := Lib.hid (fun w => end_any p t u 4 b w)
    unfold runV at HE
    rcases h with h | h
    · have d0 : (p == 0) = true := by simpa using h
      clear h
      go_enter Tryz.func130, Tryz.ntmps130
      go_wp2_with fail
      refine (HE.out _).mono ?_
      rintro e w1 ⟨rfl, hb1⟩
      obtain ⟨y1, y2, hbw⟩ := after2 w #[.int .u8 p, .int .i64 t, .int .i64 u, .bool b] #[.int .u8 0, .int .i64 0, .int .i64 0, .bool false] 100 100 hb1
      have hz1 := set4 (.int .u8 4) (.int .i64 t) (.int .i64 0) (.bool b) y1
      have hz2 := (set4_other (W := w1) (B := w.heap.size) (.int .u8 4) (.int .i64 t) (.int .i64 0) (.bool b) (show w.heap.size + 1 ≠ w.heap.size by omega)).trans y2
      have hz3 := bset (bset (bset (bset hbw (Nat.le_refl _) (o := 0) (v := .int .u8 4)) (Nat.le_refl _) (o := 1) (v := .int .i64 t)) (Nat.le_refl _) (o := 2) (v := .int .i64 0)) (Nat.le_refl _) (o := 3) (v := .bool b)
      obtain ⟨a0, a1, a2, a3, f0, f1, f2, f3⟩ := cells4h y1
      clear y1 y2 hbw hb1
      go_upto_region 6 with (fail)
      clear a0 a1 a2 a3 f0 f1 f2 f3
      generalize (((w1.setCell ⟨w.heap.size, 0, none⟩ (.int .u8 4)).setCell ⟨w.heap.size, 1, none⟩ (.int .i64 t)).setCell ⟨w.heap.size, 2, none⟩ (.int .i64 0)).setCell ⟨w.heap.size, 3, none⟩ (.bool b) = w2 at *
      obtain ⟨a0, a1, a2, a3, f0, f1, f2, f3⟩ := cells4h hz1
      obtain ⟨b0, b1, b2, b3, g0, g1, g2, g3⟩ := cells4h hz2
      clear hz1 hz2
      go_wp2
      refine bodyPost_ret (v := .agg #[.int .u8 4, .int .i64 t, .int .i64 0, .bool true]) (by simp [results, Tryz.results130, go_sem, b0, b1, b2, b3]) rfl ⟨rfl, ?_⟩
      repeat (refine bset ?_ (by omega))
      exact hz3
    · have d0 : (p == 0) = false := by rw [h]; rfl
      have d2 : (p == 2) = true := by simpa using h
      clear h
      go_enter Tryz.func130, Tryz.ntmps130
      go_wp2_with fail
      refine (HE.out _).mono ?_
      rintro e w1 ⟨rfl, hb1⟩
      obtain ⟨y1, y2, hbw⟩ := after2 w #[.int .u8 p, .int .i64 t, .int .i64 u, .bool b] #[.int .u8 0, .int .i64 0, .int .i64 0, .bool false] 100 100 hb1
      have hz1 := set4 (.int .u8 4) (.int .i64 t) (.int .i64 0) (.bool b) y1
      have hz2 := (set4_other (W := w1) (B := w.heap.size) (.int .u8 4) (.int .i64 t) (.int .i64 0) (.bool b) (show w.heap.size + 1 ≠ w.heap.size by omega)).trans y2
      have hz3 := bset (bset (bset (bset hbw (Nat.le_refl _) (o := 0) (v := .int .u8 4)) (Nat.le_refl _) (o := 1) (v := .int .i64 t)) (Nat.le_refl _) (o := 2) (v := .int .i64 0)) (Nat.le_refl _) (o := 3) (v := .bool b)
      obtain ⟨a0, a1, a2, a3, f0, f1, f2, f3⟩ := cells4h y1
      clear y1 y2 hbw hb1
      go_upto_region 6 with (fail)
      clear a0 a1 a2 a3 f0 f1 f2 f3
      generalize (((w1.setCell ⟨w.heap.size, 0, none⟩ (.int .u8 4)).setCell ⟨w.heap.size, 1, none⟩ (.int .i64 t)).setCell ⟨w.heap.size, 2, none⟩ (.int .i64 0)).setCell ⟨w.heap.size, 3, none⟩ (.bool b) = w2 at *
      obtain ⟨a0, a1, a2, a3, f0, f1, f2, f3⟩ := cells4h hz1
      obtain ⟨b0, b1, b2, b3, g0, g1, g2, g3⟩ := cells4h hz2
      clear hz1 hz2
      go_wp2
      refine bodyPost_ret (v := .agg #[.int .u8 4, .int .i64 t, .int .i64 0, .bool true]) (by simp [results, Tryz.results130, go_sem, b0, b1, b2, b3]) rfl ⟨rfl, ?_⟩
      repeat (refine bset ?_ (by omega))
      exact hz3
  · rw [e]
    unfold runT runV
    dsimp only
    have d0 : (p == 0) = false := by rw [h]; rfl
    have d1 : (p == 1) = true := by simpa using h
    have d2 : (p == 2) = false := by rw [h]; rfl
    clear e h
    go_enter Tryz.func130, Tryz.ntmps130
    go_wp2
    refine bodyPost_ret (v := .agg #[.int .u8 p, .int .i64 t, .int .i64 u, .bool true]) (by simp [results, Tryz.results130, go_sem]) rfl ⟨rfl, ((Below.refl _ w).alloc (Nat.le_refl _) _).alloc (by simp) _⟩
  · rw [e]
    unfold runT runV
    dsimp only
    have d0 : (p == 0) = false := by simpa using h0
    have d1 : (p == 1) = false := by simpa using h1
    have d2 : (p == 2) = false := by simpa using h2
    clear e h0 h1 h2
    go_enter Tryz.func130, Tryz.ntmps130
    go_wp2
    refine bodyPost_ret (v := .agg #[.int .u8 p, .int .i64 t, .int .i64 u, .bool b]) (by simp [results, Tryz.results130, go_sem]) rfl ⟨rfl, ((Below.refl _ w).alloc (Nat.le_refl _) _).alloc (by simp) _⟩

end
end Go.Proofs.YtgfiogjfgbegpaaGreat

/-
  step: Tick: contract.
-/
namespace Go.Proofs.YtgfiogjfgbegpaaGreat
open Go.RowKit
attribute [local go_sem ↓] Go.wp_at_zero Go.wp_at_succ

section
variable {s0 s1 s2 : ByteArray} {af : Option Addr} {an ac : Nat} {m f k l : Int} {nk : Int} {nt : ByteArray} {ka : Option Addr} {kn kc : Nat} {da : Option Addr} {dn dc : Nat} {nl : Int}

set_option maxRecDepth 100000 in
set_option maxHeartbeats 1000000 in
theorem Tick_early (p t u : Int) (b : Bool) (now : Int) (w : World) (hl : ¬ u ≤ nowI now) : Calls Tryz.prog 67 #[runV p t u b, stepV s0 s1 s2 af an ac m f k l nk nt ka kn kc da dn dc nl, .int .i64 now] w fun e w' => e = .returned (tupR (tickT m f k l p t u b now)) ∧ Below w.heap.size w w' := by
  have e : tickT m f k l p t u b now = ((p, t, u, b), false) := by unfold tickT; rw [if_neg hl]
  rw [e]
  have HN := Lib.hid (fun w => Now_any now w)
  generalize nowI now = N at *
  have dl : decide (u ≤ N) = false := by simpa using hl
  clear hl
  unfold tupR runT runV stepV
  dsimp only
  clear e
  go_enter Tryz.func67, Tryz.ntmps67
  go_wp2
  go_quiet ((go_at_call 94; exact Calls.quiet_of_same ((HN.out _).mono fun e w' h => ⟨h.1, h.2.symm⟩)))
  have hE := belowN (Below.refl (((w.alloc (Obj.cells #[.int .u8 p, .int .i64 t, .int .i64 u, .bool b] 100)).alloc (Obj.cells #[.string s0, .string s1, .string s2, .slice af an ac, .int .i64 m, .int .i64 f, .int .i64 k, .int .i64 l, .int .u8 nk, .string nt, .slice ka kn kc, .slice da dn dc, .int .i64 nl] 47)).alloc (Obj.cells #[.int .u8 0, .int .i64 0, .int .i64 0, .bool false] 100)).heap.size (((w.alloc (Obj.cells #[.int .u8 p, .int .i64 t, .int .i64 u, .bool b] 100)).alloc (Obj.cells #[.string s0, .string s1, .string s2, .slice af an ac, .int .i64 m, .int .i64 f, .int .i64 k, .int .i64 l, .int .u8 nk, .string nt, .slice ka kn kc, .slice da dn dc, .int .i64 nl] 47)).alloc (Obj.cells #[.int .u8 0, .int .i64 0, .int .i64 0, .bool false] 100))) nq
  obtain ⟨y1, y2, y3, hbw⟩ := after3 w #[.int .u8 p, .int .i64 t, .int .i64 u, .bool b] #[.string s0, .string s1, .string s2, .slice af an ac, .int .i64 m, .int .i64 f, .int .i64 k, .int .i64 l, .int .u8 nk, .string nt, .slice ka kn kc, .slice da dn dc, .int .i64 nl] #[.int .u8 0, .int .i64 0, .int .i64 0, .bool false] 100 47 100 hE
  clear hE
  generalize (((w.alloc (Obj.cells #[.int .u8 p, .int .i64 t, .int .i64 u, .bool b] 100)).alloc (Obj.cells #[.string s0, .string s1, .string s2, .slice af an ac, .int .i64 m, .int .i64 f, .int .i64 k, .int .i64 l, .int .u8 nk, .string nt, .slice ka kn kc, .slice da dn dc, .int .i64 nl] 47)).alloc (Obj.cells #[.int .u8 0, .int .i64 0, .int .i64 0, .bool false] 100)).drewN nq = wq at *
  have Y1 := Lib.hid y1; have Y2 := Lib.hid y2; have Y3 := Lib.hid y3
  obtain ⟨a0, a1, a2, a3, f0, f1, f2, f3⟩ := cells4h y1
  obtain ⟨b0, b1, b2, b3, g0, g1, g2, g3⟩ := cells4h y3
  obtain ⟨d0, d1, d2, d3, d4, d5, d6, d7, d8, d9, d10, d11, d12⟩ := cells13a y2
  clear y1 y2 y3
  go_wp2
  refine bodyPost_ret (v := .tuple #[.agg #[.int .u8 p, .int .i64 t, .int .i64 u, .bool b], .bool false]) (by simp [results, Tryz.results67, go_sem, b0, b1, b2, b3]) rfl ⟨rfl, ?_⟩
  repeat (refine bset ?_ (by omega))
  exact hbw

set_option maxRecDepth 100000 in
set_option maxHeartbeats 1000000 in
theorem Tick_other (p t u : Int) (b : Bool) (now : Int) (w : World) (hl : u ≤ nowI now) (h1 : p ≠ 1) (h2 : p ≠ 2) : Calls Tryz.prog 67 #[runV p t u b, stepV s0 s1 s2 af an ac m f k l nk nt ka kn kc da dn dc nl, .int .i64 now] w fun e w' => e = .returned (tupR (tickT m f k l p t u b now)) ∧ Below w.heap.size w w' := by
  have e : tickT m f k l p t u b now = ((p, t, u, b), false) := by unfold tickT; rw [if_pos hl, if_neg h1, if_neg h2]
  rw [e]
  have HN := Lib.hid (fun w => Now_any now w)
  generalize nowI now = N at *
  have dl : decide (u ≤ N) = true := by simpa using hl
  have d1 : (p == 1) = false := by simpa using h1
  have d2 : (p == 2) = false := by simpa using h2
  clear hl h1 h2
  unfold tupR runT runV stepV
  dsimp only
  clear e
  go_enter Tryz.func67, Tryz.ntmps67
  go_wp2
  go_quiet ((go_at_call 94; exact Calls.quiet_of_same ((HN.out _).mono fun e w' h => ⟨h.1, h.2.symm⟩)))
  have hE := belowN (Below.refl (((w.alloc (Obj.cells #[.int .u8 p, .int .i64 t, .int .i64 u, .bool b] 100)).alloc (Obj.cells #[.string s0, .string s1, .string s2, .slice af an ac, .int .i64 m, .int .i64 f, .int .i64 k, .int .i64 l, .int .u8 nk, .string nt, .slice ka kn kc, .slice da dn dc, .int .i64 nl] 47)).alloc (Obj.cells #[.int .u8 0, .int .i64 0, .int .i64 0, .bool false] 100)).heap.size (((w.alloc (Obj.cells #[.int .u8 p, .int .i64 t, .int .i64 u, .bool b] 100)).alloc (Obj.cells #[.string s0, .string s1, .string s2, .slice af an ac, .int .i64 m, .int .i64 f, .int .i64 k, .int .i64 l, .int .u8 nk, .string nt, .slice ka kn kc, .slice da dn dc, .int .i64 nl] 47)).alloc (Obj.cells #[.int .u8 0, .int .i64 0, .int .i64 0, .bool false] 100))) nq
  obtain ⟨y1, y2, y3, hbw⟩ := after3 w #[.int .u8 p, .int .i64 t, .int .i64 u, .bool b] #[.string s0, .string s1, .string s2, .slice af an ac, .int .i64 m, .int .i64 f, .int .i64 k, .int .i64 l, .int .u8 nk, .string nt, .slice ka kn kc, .slice da dn dc, .int .i64 nl] #[.int .u8 0, .int .i64 0, .int .i64 0, .bool false] 100 47 100 hE
  clear hE
  generalize (((w.alloc (Obj.cells #[.int .u8 p, .int .i64 t, .int .i64 u, .bool b] 100)).alloc (Obj.cells #[.string s0, .string s1, .string s2, .slice af an ac, .int .i64 m, .int .i64 f, .int .i64 k, .int .i64 l, .int .u8 nk, .string nt, .slice ka kn kc, .slice da dn dc, .int .i64 nl] 47)).alloc (Obj.cells #[.int .u8 0, .int .i64 0, .int .i64 0, .bool false] 100)).drewN nq = wq at *
  have Y1 := Lib.hid y1; have Y2 := Lib.hid y2; have Y3 := Lib.hid y3
  obtain ⟨a0, a1, a2, a3, f0, f1, f2, f3⟩ := cells4h y1
  obtain ⟨b0, b1, b2, b3, g0, g1, g2, g3⟩ := cells4h y3
  obtain ⟨d0, d1, d2, d3, d4, d5, d6, d7, d8, d9, d10, d11, d12⟩ := cells13a y2
  clear y1 y2 y3
  go_wp2
  refine bodyPost_ret (v := .tuple #[.agg #[.int .u8 p, .int .i64 t, .int .i64 u, .bool b], .bool false]) (by simp [results, Tryz.results67, go_sem, b0, b1, b2, b3]) rfl ⟨rfl, ?_⟩
  repeat (refine bset ?_ (by omega))
  exact hbw

set_option maxRecDepth 100000 in
set_option maxHeartbeats 1000000 in
theorem Tick_fail (p t u : Int) (b : Bool) (now : Int) (w : World) (hl : u ≤ nowI now) (h1 : p = 1) : Calls Tryz.prog 67 #[runV p t u b, stepV s0 s1 s2 af an ac m f k l nk nt ka kn kc da dn dc nl, .int .i64 now] w fun e w' => e = .returned (tupR (tickT m f k l p t u b now)) ∧ Below w.heap.size w w' := by
  have e : tickT m f k l p t u b now = (failT m f k l p t u b now, true) := by unfold tickT; rw [if_pos hl, if_pos h1]
  rw [e]
  have HN := Lib.hid (fun w => Now_any now w)
  have HE := Lib.hid (fun w => fail_any (s0 := s0) (s1 := s1) (s2 := s2) (af := af) (an := an) (ac := ac) (m := m) (f := f) (k := k) (l := l) (nk := nk) (nt := nt) (ka := ka) (kn := kn) (kc := kc) (da := da) (dn := dn) (dc := dc) (nl := nl) p t u b now w)
  generalize failT m f k l p t u b now = X at *
  obtain ⟨q1, q2, q3, q4⟩ := X
  unfold runT runV stepV at HE
  dsimp only at HE
  generalize nowI now = N at *
  have dl : decide (u ≤ N) = true := by simpa using hl
  have d1 : (p == 1) = true := by simpa using h1
  clear hl h1
  unfold tupR runT runV stepV
  dsimp only
  clear e
  go_enter Tryz.func67, Tryz.ntmps67
  go_wp2
  go_quiet ((go_at_call 94; exact Calls.quiet_of_same ((HN.out _).mono fun e w' h => ⟨h.1, h.2.symm⟩)))
  have hE := belowN (Below.refl (((w.alloc (Obj.cells #[.int .u8 p, .int .i64 t, .int .i64 u, .bool b] 100)).alloc (Obj.cells #[.string s0, .string s1, .string s2, .slice af an ac, .int .i64 m, .int .i64 f, .int .i64 k, .int .i64 l, .int .u8 nk, .string nt, .slice ka kn kc, .slice da dn dc, .int .i64 nl] 47)).alloc (Obj.cells #[.int .u8 0, .int .i64 0, .int .i64 0, .bool false] 100)).heap.size (((w.alloc (Obj.cells #[.int .u8 p, .int .i64 t, .int .i64 u, .bool b] 100)).alloc (Obj.cells #[.string s0, .string s1, .string s2, .slice af an ac, .int .i64 m, .int .i64 f, .int .i64 k, .int .i64 l, .int .u8 nk, .string nt, .slice ka kn kc, .slice da dn dc, .int .i64 nl] 47)).alloc (Obj.cells #[.int .u8 0, .int .i64 0, .int .i64 0, .bool false] 100))) nq
  obtain ⟨y1, y2, y3, hbw⟩ := after3 w #[.int .u8 p, .int .i64 t, .int .i64 u, .bool b] #[.string s0, .string s1, .string s2, .slice af an ac, .int .i64 m, .int .i64 f, .int .i64 k, .int .i64 l, .int .u8 nk, .string nt, .slice ka kn kc, .slice da dn dc, .int .i64 nl] #[.int .u8 0, .int .i64 0, .int .i64 0, .bool false] 100 47 100 hE
  clear hE
  generalize (((w.alloc (Obj.cells #[.int .u8 p, .int .i64 t, .int .i64 u, .bool b] 100)).alloc (Obj.cells #[.string s0, .string s1, .string s2, .slice af an ac, .int .i64 m, .int .i64 f, .int .i64 k, .int .i64 l, .int .u8 nk, .string nt, .slice ka kn kc, .slice da dn dc, .int .i64 nl] 47)).alloc (Obj.cells #[.int .u8 0, .int .i64 0, .int .i64 0, .bool false] 100)).drewN nq = wq at *
  have Y1 := Lib.hid y1; have Y2 := Lib.hid y2; have Y3 := Lib.hid y3
  obtain ⟨a0, a1, a2, a3, f0, f1, f2, f3⟩ := cells4h y1
  obtain ⟨b0, b1, b2, b3, g0, g1, g2, g3⟩ := cells4h y3
  obtain ⟨d0, d1, d2, d3, d4, d5, d6, d7, d8, d9, d10, d11, d12⟩ := cells13a y2
  clear y1 y2 y3
  go_wp2_with fail
  refine (HE.out _).mono ?_
  rintro e w3 ⟨rfl, hb3⟩
  have y1 := keepH Y1.out hb3; have y2 := keepH Y2.out hb3; have y3 := keepH Y3.out hb3
  have hbw := bthen hbw (Nat.le_refl _) hb3
  clear Y1 Y2 Y3 hb3 a0 a1 a2 a3 f0 f1 f2 f3 b0 b1 b2 b3 g0 g1 g2 g3 d0 d1 d2 d3 d4 d5 d6 d7 d8 d9 d10 d11 d12
  have Y1 := Lib.hid y1; have Y2 := Lib.hid y2; have Y3 := Lib.hid y3
  obtain ⟨a0, a1, a2, a3, f0, f1, f2, f3⟩ := cells4h y1
  obtain ⟨b0, b1, b2, b3, g0, g1, g2, g3⟩ := cells4h y3
  obtain ⟨d0, d1, d2, d3, d4, d5, d6, d7, d8, d9, d10, d11, d12⟩ := cells13a y2
  clear y1 y2 y3
  go_wp2
  refine bodyPost_ret (v := .tuple #[.agg #[.int .u8 q1, .int .i64 q2, .int .i64 q3, .bool q4], .bool true]) (by simp [results, Tryz.results67, go_sem, b0, b1, b2, b3]) rfl ⟨rfl, ?_⟩
  repeat (refine bset ?_ (by omega))
  exact hbw

set_option maxRecDepth 100000 in
set_option maxHeartbeats 1000000 in
theorem Tick_try (p t u : Int) (b : Bool) (now : Int) (w : World) (hl : u ≤ nowI now) (h1 : p = 2) : Calls Tryz.prog 67 #[runV p t u b, stepV s0 s1 s2 af an ac m f k l nk nt ka kn kc da dn dc nl, .int .i64 now] w fun e w' => e = .returned (tupR (tickT m f k l p t u b now)) ∧ Below w.heap.size w w' := by
  have e : tickT m f k l p t u b now = ((1, inc t, nowI now + limI l, b), true) := by unfold tickT; rw [if_pos hl, h1]; rfl
  rw [e]
  have HN := Lib.hid (fun w => Now_any now w)
  have HE := Lib.hid (fun w => try_any (s0 := s0) (s1 := s1) (s2 := s2) (af := af) (an := an) (ac := ac) (m := m) (f := f) (k := k) (l := l) (nk := nk) (nt := nt) (ka := ka) (kn := kn) (kc := kc) (da := da) (dn := dn) (dc := dc) (nl := nl) p t u b now w)
  generalize inc t = T at *
  have dl : decide (u ≤ nowI now) = true := by simpa using hl
  generalize nowI now + limI l = U at *
  unfold runV stepV at HE
  generalize nowI now = N at *
  have d1 : (p == 1) = false := by rw [h1]; rfl
  have d2 : (p == 2) = true := by simpa using h1
  clear hl h1
  unfold tupR runT runV stepV
  dsimp only
  clear e
  go_enter Tryz.func67, Tryz.ntmps67
  go_wp2
  go_quiet ((go_at_call 94; exact Calls.quiet_of_same ((HN.out _).mono fun e w' h => ⟨h.1, h.2.symm⟩)))
  have hE := belowN (Below.refl (((w.alloc (Obj.cells #[.int .u8 p, .int .i64 t, .int .i64 u, .bool b] 100)).alloc (Obj.cells #[.string s0, .string s1, .string s2, .slice af an ac, .int .i64 m, .int .i64 f, .int .i64 k, .int .i64 l, .int .u8 nk, .string nt, .slice ka kn kc, .slice da dn dc, .int .i64 nl] 47)).alloc (Obj.cells #[.int .u8 0, .int .i64 0, .int .i64 0, .bool false] 100)).heap.size (((w.alloc (Obj.cells #[.int .u8 p, .int .i64 t, .int .i64 u, .bool b] 100)).alloc (Obj.cells #[.string s0, .string s1, .string s2, .slice af an ac, .int .i64 m, .int .i64 f, .int .i64 k, .int .i64 l, .int .u8 nk, .string nt, .slice ka kn kc, .slice da dn dc, .int .i64 nl] 47)).alloc (Obj.cells #[.int .u8 0, .int .i64 0, .int .i64 0, .bool false] 100))) nq
  obtain ⟨y1, y2, y3, hbw⟩ := after3 w #[.int .u8 p, .int .i64 t, .int .i64 u, .bool b] #[.string s0, .string s1, .string s2, .slice af an ac, .int .i64 m, .int .i64 f, .int .i64 k, .int .i64 l, .int .u8 nk, .string nt, .slice ka kn kc, .slice da dn dc, .int .i64 nl] #[.int .u8 0, .int .i64 0, .int .i64 0, .bool false] 100 47 100 hE
  clear hE
  generalize (((w.alloc (Obj.cells #[.int .u8 p, .int .i64 t, .int .i64 u, .bool b] 100)).alloc (Obj.cells #[.string s0, .string s1, .string s2, .slice af an ac, .int .i64 m, .int .i64 f, .int .i64 k, .int .i64 l, .int .u8 nk, .string nt, .slice ka kn kc, .slice da dn dc, .int .i64 nl] 47)).alloc (Obj.cells #[.int .u8 0, .int .i64 0, .int .i64 0, .bool false] 100)).drewN nq = wq at *
  have Y1 := Lib.hid y1; have Y2 := Lib.hid y2; have Y3 := Lib.hid y3
  obtain ⟨a0, a1, a2, a3, f0, f1, f2, f3⟩ := cells4h y1
  obtain ⟨b0, b1, b2, b3, g0, g1, g2, g3⟩ := cells4h y3
  obtain ⟨d0, d1, d2, d3, d4, d5, d6, d7, d8, d9, d10, d11, d12⟩ := cells13a y2
  clear y1 y2 y3
  go_wp2_with fail
  refine (HE.out _).mono ?_
  rintro e w3 ⟨rfl, hb3⟩
  have y1 := keepH Y1.out hb3; have y2 := keepH Y2.out hb3; have y3 := keepH Y3.out hb3
  have hbw := bthen hbw (Nat.le_refl _) hb3
  clear Y1 Y2 Y3 hb3 a0 a1 a2 a3 f0 f1 f2 f3 b0 b1 b2 b3 g0 g1 g2 g3 d0 d1 d2 d3 d4 d5 d6 d7 d8 d9 d10 d11 d12
  have Y1 := Lib.hid y1; have Y2 := Lib.hid y2; have Y3 := Lib.hid y3
  obtain ⟨a0, a1, a2, a3, f0, f1, f2, f3⟩ := cells4h y1
  obtain ⟨b0, b1, b2, b3, g0, g1, g2, g3⟩ := cells4h y3
  obtain ⟨d0, d1, d2, d3, d4, d5, d6, d7, d8, d9, d10, d11, d12⟩ := cells13a y2
  clear y1 y2 y3
  go_wp2
  refine bodyPost_ret (v := .tuple #[.agg #[.int .u8 1, .int .i64 T, .int .i64 U, .bool b], .bool true]) (by simp [results, Tryz.results67, go_sem, b0, b1, b2, b3]) rfl ⟨rfl, ?_⟩
  repeat (refine bset ?_ (by omega))
  exact hbw

theorem Tick_any (p t u : Int) (b : Bool) (now : Int) (w : World) : Calls Tryz.prog 67 #[runV p t u b, stepV s0 s1 s2 af an ac m f k l nk nt ka kn kc da dn dc nl, .int .i64 now] w fun e w' => e = .returned (tupR (tickT m f k l p t u b now)) ∧ Below w.heap.size w w' := by
  by_cases hl : u ≤ nowI now
  · by_cases h1 : p = 1
    · exact Tick_fail p t u b now w hl h1
    · by_cases h2 : p = 2
      · exact Tick_try p t u b now w hl h2
      · exact Tick_other p t u b now w hl h1 h2
  · exact Tick_early p t u b now w hl
end
end Go.Proofs.YtgfiogjfgbegpaaGreat
