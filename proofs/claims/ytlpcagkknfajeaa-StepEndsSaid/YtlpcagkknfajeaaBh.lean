/-
  backoff.Span, the reference's Span: contracts.
-/
import Derived.Test.YtlpcagkknfajeaaBg
import Derived.Deep.RegionHeld3
import Derived.Deep.DrawnRows
namespace Go.Proofs.Ytlpcagkknfajeaa
open Go.RowKit
attribute [local go_sem ↓] Go.wp_at_zero Go.wp_at_succ

theorem field_step5 (c0 c1 c2 c3 c4 c5 c6 c7 c8 c9 c10 c11 c12 : Value) (w : World) : (Instr.field 29 (.agg #[c0, c1, c2, c3, c4, c5, c6, c7, c8, c9, c10, c11, c12]) 5).run Try.prog w = .ok c7 w := by kernel_rfl

theorem cells13h {W : World} {B : Nat} {c0 c1 c2 c3 c4 c5 c6 c7 c8 c9 c10 c11 c12 : Value} {t : TypeId} (h : W.heap[B]? = some (.cells #[c0, c1, c2, c3, c4, c5, c6, c7, c8, c9, c10, c11, c12] t (0, 0))) :
    W.cell? ⟨B, 4, none⟩ = some c4 ∧ W.cell? ⟨B, 5, none⟩ = some c5 ∧ W.cell? ⟨B, 6, none⟩ = some c6 := by
  simp [World.cell?, h]

/-- How many ticks a step may take. -/
def limI (l : Int) : Int := min (max (or0 l 100) 0) 10000
theorem limI_range (l : Int) : 0 ≤ limI l ∧ limI l ≤ 10000 := by unfold limI; omega
def spanI (m f k l : Int) : Int := limI l * bMost m + bSum f k (wN m)
theorem lim_mul (l m : Int) : 0 ≤ limI l * bMost m ∧ limI l * bMost m ≤ 100000 := by
  have h1 := limI_range l
  have h2 := bMost_range m
  refine ⟨Int.mul_nonneg h1.1 h2.1, ?_⟩
  have := Int.mul_le_mul h1.2 h2.2 h2.1 (by omega)
  omega

theorem held3 {w1 W W' : World} {p q r : Addr} {a b c : Value} (h : Below w1.heap.size w1 W ∧ W.cell? p = some a ∧ W.cell? q = some b ∧ W.cell? r = some c) (hb : Below W.heap.size W W') :
    Below w1.heap.size w1 W' ∧ W'.cell? p = some a ∧ W'.cell? q = some b ∧ W'.cell? r = some c :=
  ⟨bthen h.1 (Nat.le_refl _) hb, cellB hb h.2.1, cellB hb h.2.2.1, cellB hb h.2.2.2⟩

set_option maxRecDepth 100000 in
set_option maxHeartbeats 1000000 in
theorem Span_any (s0 s1 s2 : ByteArray) (af : Option Addr) (an ac : Nat) (m f k l : Int) (nk : Int) (nt : ByteArray) (ka : Option Addr) (kn kc : Nat) (da : Option Addr) (dn dc : Nat) (nl : Int) (w : World) :
    Calls Try.prog 7 #[stepV s0 s1 s2 af an ac m f k l nk nt ka kn kc da dn dc nl] w fun e w' => e = .returned (.int .i64 (spanI m f k l)) ∧ Below w.heap.size w w' := by
  have hmn := @run_min2 Try.prog
  have hmx := @run_max2 Try.prog
  have hf5 := @field_step5
  have hf0 := @field_retry0
  have hml := lim_mul l m
  have hlr := limI_range l
  have hsr := bSum_range f k (wN m)
  have hw9 := wN_le m
  unfold spanI
  obtain ⟨L, hL⟩ : ∃ L, limI l = L := ⟨_, rfl⟩
  rw [hL] at hml hlr ⊢
  have HL := Lib.hid (show min (max (or0 l 100) 0) 10000 = L from hL)
  clear hL
  unfold stepV
  go_enter Try.func7, Try.ntmps7
  go_wp2_with fail
  refine (Real_any _ _ _ _ _ _ m f k l _ _ _ _ _ _ _ _ _ _).mono ?_
  rintro e w1 ⟨rfl, hb1⟩
  unfold stepV
  have hb : Below w.heap.size w w1 := ((Below.refl _ w).alloc (Nat.le_refl _) _).trans (hb1.mono (by simp))
  have hbx := (hb1.block w.heap.size (by simp)).trans (World.alloc_heap_new w _)
  obtain ⟨q4, q5, q6⟩ := cells13h hbx
  have hsz := hb.size
  clear hb1 hbx
  go_wp2_with fail
  rw [HL.out]
  have hbr := bMost_range m
  clear hmn hmx hf5
  go_region_held3 (fun w' => Below w1.heap.size w1 w' ∧ w'.cell? ⟨w.heap.size, 4, none⟩ = some (.int .i64 m) ∧ w'.cell? ⟨w.heap.size, 5, none⟩ = some (.int .i64 f) ∧ w'.cell? ⟨w.heap.size, 6, none⟩ = some (.int .i64 k))
    (first | exact ⟨(Below.refl _ _).drew, q4, q5, q6⟩ | exact held3 (by assumption) (by assumption)) (first
      | (go_at_call 27; refine (meant_any m f k _).mono ?_; rintro e w7 ⟨rfl, hb7⟩; unfold retryV)
      | (go_at_call 28; refine (Total_any m f k _).mono ?_; rintro e w8 ⟨rfl, hb8⟩))
  have e1 : IntKind.i64.wrap (IntKind.i64.wrap (L * bMost m) + bSum f k (wN m)) = L * bMost m + bSum f k (wN m) := by
    rw [IntWalk.i64_in (L * bMost m) (by omega), IntWalk.i64_in _ (by omega)]
  rw [e1]
  go_wp2
  go_ret
  rename_i hS
  exact ⟨rfl, bthen hb (Nat.le_refl _) hS.1⟩

end Go.Proofs.Ytlpcagkknfajeaa
