/-
  step: the program's Now, end, try, fail, Begin: contracts.
-/
import Derived.Test.YtigeedaihbpjiaaBh
import Derived.Test.YtigeedaihbpjiaaBl
namespace Go.Proofs.Ytigeedaihbpjiaa
open Go.RowKit
attribute [local go_sem ↓] Go.wp_at_zero Go.wp_at_succ

def nowI (n : Int) : Int := min (max n 0) 1099511627776
theorem nowI_range (n : Int) : 0 ≤ nowI n ∧ nowI n ≤ 1099511627776 := by unfold nowI; omega
theorem Now_any (n : Int) (w : World) : Calls Try.prog 55 #[.int .i64 n] w fun e w' => e = .returned (.int .i64 (nowI n)) ∧ w = w' := by
  have hmn := @run_min2 Try.prog
  have hmx := @run_max2 Try.prog
  go_enter Try.func55, Try.ntmps55
  go_wp2
  go_ret
  exact ⟨rfl, rfl⟩

/-- A step on its way, as a value. -/
def runV (p t u : Int) (b : Bool) : Value := .agg #[.int .u8 p, .int .i64 t, .int .i64 u, .bool b]
def runC (p t u : Int) (b : Bool) : Array Value := #[.int .u8 p, .int .i64 t, .int .i64 u, .bool b]
theorem cells4h {W : World} {B : Nat} {c0 c1 c2 c3 : Value} {t : TypeId} (h : W.heap[B]? = some (.cells #[c0, c1, c2, c3] t (0, 0))) :
    W.cell? ⟨B, 0, none⟩ = some c0 ∧ W.cell? ⟨B, 1, none⟩ = some c1 ∧ W.cell? ⟨B, 2, none⟩ = some c2 ∧ W.cell? ⟨B, 3, none⟩ = some c3 ∧ W.frozen? ⟨B, 0, none⟩ = false ∧ W.frozen? ⟨B, 1, none⟩ = false ∧ W.frozen? ⟨B, 2, none⟩ = false ∧ W.frozen? ⟨B, 3, none⟩ = false := by
  simp [World.cell?, World.frozen?, h]
theorem bset {B b o : Nat} {w W : World} {v : Value} (h : Below B w W) (hb : B ≤ b) : Below B w (W.setCell ⟨b, o, none⟩ v) := h.setCell (p := ⟨b, o, none⟩) hb v
theorem keepH {w w' : World} {i : Nat} {o : Obj} (h : w.heap[i]? = some o) (hb : Below w.heap.size w w') : w'.heap[i]? = some o := (hb.block i (Array.getElem?_eq_some_iff.1 h).1).trans h
theorem heap2 (w : World) (a b : Obj) : ((w.alloc a).alloc b).heap[w.heap.size]? = some a ∧ ((w.alloc a).alloc b).heap[w.heap.size + 1]? = some b ∧ ((w.alloc a).alloc b).heap.size = w.heap.size + 2 ∧ Below w.heap.size w ((w.alloc a).alloc b) := by
  refine ⟨(Below.heap_alloc _ _ _ (by simp)).trans (World.alloc_heap_new w _), ?_, by simp, ((Below.refl _ w).alloc (Nat.le_refl _) _).alloc (by simp) _⟩
  have := World.alloc_heap_new (w.alloc a) b
  rwa [World.size_alloc] at this
theorem heap3 (w : World) (a b c : Obj) : (((w.alloc a).alloc b).alloc c).heap[w.heap.size]? = some a ∧ (((w.alloc a).alloc b).alloc c).heap[w.heap.size + 1]? = some b ∧ (((w.alloc a).alloc b).alloc c).heap[w.heap.size + 1 + 1]? = some c ∧ (((w.alloc a).alloc b).alloc c).heap.size = w.heap.size + 3 ∧ Below w.heap.size w (((w.alloc a).alloc b).alloc c) := by
  obtain ⟨h1, h2, h3, h4⟩ := heap2 w a b
  refine ⟨(Below.heap_alloc _ _ _ (by omega)).trans h1, (Below.heap_alloc _ _ _ (by omega)).trans h2, ?_, by simp, h4.alloc (by omega) _⟩
  have := World.alloc_heap_new ((w.alloc a).alloc b) c
  rwa [h3] at this

set_option maxRecDepth 100000 in
theorem end_any (p t u ph : Int) (b : Bool) (w : World) : Calls Try.prog 93 #[runV p t u b, .int .u8 ph] w fun e w' => e = .returned (runV ph t 0 b) ∧ Below w.heap.size w w' := by
  unfold runV
  go_enter Try.func93, Try.ntmps93
  go_wp2
  refine bodyPost_ret (v := .agg #[.int .u8 ph, .int .i64 t, .int .i64 0, .bool b]) (by simp [results, Try.results93, go_sem]) rfl ⟨rfl, ((Below.refl _ w).alloc (Nat.le_refl _) _).alloc (by simp) _⟩

section
variable {s0 s1 s2 : ByteArray} {af : Option Addr} {an ac : Nat} {m f k l : Int} {nk : Int} {nt : ByteArray} {ka : Option Addr} {kn kc : Nat} {da : Option Addr} {dn dc : Nat} {nl : Int}

def inc (t : Int) : Int := wrap64 (t + 1)
set_option maxRecDepth 100000 in
set_option maxHeartbeats 1000000 in
theorem try_any (p t u : Int) (b : Bool) (now : Int) (w : World) : Calls Try.prog 92 #[runV p t u b, stepV s0 s1 s2 af an ac m f k l nk nt ka kn kc da dn dc nl, .int .i64 now] w fun e w' => e = .returned (runV 1 (inc t) (nowI now + limI l) b) ∧ Below w.heap.size w w' := by
  have hmn := @run_min2 Try.prog
  have hmx := @run_max2 Try.prog
  have hf5 := @field_step5
  have hlr := limI_range l
  obtain ⟨L, hL⟩ : ∃ L, limI l = L := ⟨_, rfl⟩
  rw [hL] at hlr ⊢
  have HL := Lib.hid (show min (max (or0 l 100) 0) 10000 = L from hL)
  have hnr := nowI_range now
  have HN := Lib.hid (fun w => Now_any now w)
  generalize nowI now = N at *
  clear hL
  unfold runV stepV
  go_enter Try.func92, Try.ntmps92
  go_wp2_with fail
  refine (Real_any s0 s1 s2 af an ac m f k l nk nt ka kn kc da dn dc nl _).mono ?_
  rintro e w1 ⟨rfl, hb1⟩
  unfold stepV
  obtain ⟨x1, x2, x3, x4, x5⟩ := heap3 w (Obj.cells #[.int .u8 p, .int .i64 t, .int .i64 u, .bool b] 84) (Obj.cells #[.string s0, .string s1, .string s2, .slice af an ac, .int .i64 m, .int .i64 f, .int .i64 k, .int .i64 l, .int .u8 nk, .string nt, .slice ka kn kc, .slice da dn dc, .int .i64 nl] 82) (Obj.cells #[.int .u8 0, .int .i64 0, .int .i64 0, .bool false] 84)
  have y1 := (hb1.block w.heap.size (by rw [x4]; omega)).trans x1
  have y3 := (hb1.block (w.heap.size + 1 + 1) (by rw [x4]; omega)).trans x3
  have hbw := x5.trans (hb1.mono (by rw [x4]; omega))
  obtain ⟨a0, a1, a2, a3, f0, f1, f2, f3⟩ := cells4h y1
  obtain ⟨b0, b1, b2, b3, g0, g1, g2, g3⟩ := cells4h y3
  clear x1 x2 x3 x4 x5 y1 y3 hb1
  go_wp2_with fail
  refine (HN.out _).mono ?_
  rintro e w' ⟨rfl, rfl⟩
  rw [HL.out]
  go_wp2
  refine bodyPost_ret (v := .agg #[.int .u8 1, .int .i64 (wrap64 (t + 1)), .int .i64 (N + L), .bool b]) (by simp [results, Try.results92, go_sem, a0, a1, a2, a3, b0, b1, b2, b3]) rfl ⟨rfl, ?_⟩
  exact bset (bset (bset (bset (bset (bset (bset hbw (Nat.le_refl _)) (Nat.le_refl _)) (Nat.le_refl _)) (by omega)) (by omega)) (by omega)) (by omega)
end
end Go.Proofs.Ytigeedaihbpjiaa
