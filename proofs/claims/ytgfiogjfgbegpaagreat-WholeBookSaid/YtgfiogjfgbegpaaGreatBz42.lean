/-
  diag.compare: contract, in the form that the sort wants.
-/
import Derived.Test.YtgfiogjfgbegpaaGreatBz10
import Derived.Test.YtgfiogjfgbegpaaGreatBz34
import Derived.Test.YtgfiogjfgbegpaaGreatBz41
namespace Go.Proofs.YtgfiogjfgbegpaaGreat
open Go Go.RowKit Go.WideShapes

abbrev DiagD := Int × Int × ByteArray
def encG (x : DiagD) : List Value := [.int .i64 x.1, .int .i64 x.2.1, .string x.2.2]
def cmpS (a b : ByteArray) : Int := Lib.compareBytes a.data.toList b.data.toList
def cmpD (x y : DiagD) : Int := orZ [cmpZ x.1 y.1, cmpZ x.2.1 y.2.1, cmpS x.2.2 y.2.2]
theorem rds_rowK {W : World} {g : Nat} {l : List Value} {t : TypeId} {fr : Nat × Nat} (n size : Nat) (h : W.heap[g]? = some (.cells l.toArray t fr)) (hn : l.length = n * size) (hb : n ≤ 1073741824) : RdS W (.slice (some ⟨g, 0, none⟩) n n) size n l := by
  refine ⟨hn, _, _, rfl, Nat.le_refl _, by unfold maxLen; omega, .inr ⟨g, 0, rfl, fun i c hi => ?_⟩⟩
  simp only [World.cell?, h, Nat.zero_add]
  simpa using hi

set_option maxRecDepth 100000 in
set_option maxHeartbeats 4000000 in
theorem compare_any (x y : DiagD) (W : World) :
    Calls Tryz.prog 120 #[.agg (encG x).toArray, .agg (encG y).toArray] W fun e w' => e = .returned (.int .i64 (cmpD x y)) ∧ ∃ q os', w' = Go.Sort.grow (W.drewN q) os' := by
  obtain ⟨hb, g0, g1, hsz⟩ := alloc2 W 154 154 #[.int .i64 x.1, .int .i64 x.2.1, .string x.2.2] #[.int .i64 y.1, .int .i64 y.2.1, .string y.2.2]
  obtain ⟨p0, p1, p2, -, -, -⟩ := cells3h g0
  obtain ⟨r0, r1, r2, -, -, -⟩ := cells3h g1
  clear hb g0 g1
  unfold encG
  go_enter Tryz.func120, Tryz.ntmps120
  go_wp2_with fail
  refine E_region (S := (fun V => V.cell? ⟨W.heap.size, 0, none⟩ = some (.int .i64 x.1) ∧ V.cell? ⟨W.heap.size, 1, none⟩ = some (.int .i64 x.2.1) ∧ V.cell? ⟨W.heap.size, 2, none⟩ = some (.string x.2.2) ∧ V.cell? ⟨W.heap.size + 1, 0, none⟩ = some (.int .i64 y.1) ∧ V.cell? ⟨W.heap.size + 1, 1, none⟩ = some (.int .i64 y.2.1) ∧ V.cell? ⟨W.heap.size + 1, 2, none⟩ = some (.string y.2.2))) 15 (by kernel_rfl) ⟨p0, p1, p2, r0, r1, r2⟩ (fun _ _ _ _ _ h => h) (fun Q' hQ hK' hHeld => ?_)
  refine E_take0 hQ (fun _ => hHeld) 0 (v := ?ev1) rfl rfl (by kernel_rfl) (by kernel_rfl) (by kernel_rfl) (by decide) (by rfl) ?ey1 ?er1
  case ey1 => (intro w; go_simp; (try with_reducible rfl))
  (try simp only [layE])
  refine E_take hQ hHeld 1 (v := ?ev2) rfl rfl (by kernel_rfl) (by kernel_rfl) (by kernel_rfl) (by kernel_rfl) (by kernel_rfl) (by rfl) ?ey2 ?er2
  case ey2 => (intro w hSw; (try dsimp only at hSw); go_simp; (try with_reducible rfl))
  (try simp only [layE])
  refine E_take0 hQ (fun _ => hHeld) 2 (v := ?ev3) rfl rfl (by kernel_rfl) (by kernel_rfl) (by kernel_rfl) (by decide) (by rfl) ?ey3 ?er3
  case ey3 => (intro w; go_simp; (try with_reducible rfl))
  (try simp only [layE])
  refine E_take hQ hHeld 3 (v := ?ev4) rfl rfl (by kernel_rfl) (by kernel_rfl) (by kernel_rfl) (by kernel_rfl) (by kernel_rfl) (by rfl) ?ey4 ?er4
  case ey4 => (intro w hSw; (try dsimp only at hSw); go_simp; (try with_reducible rfl))
  (try simp only [layE])
  refine E_take0 hQ (fun _ => hHeld) 5 (v := ?ev5) rfl rfl (by kernel_rfl) (by kernel_rfl) (by kernel_rfl) (by decide) (by rfl) ?ey5 ?er5
  case ey5 => (intro w; go_simp; (try with_reducible rfl))
  (try simp only [layE])
  refine E_take hQ hHeld 6 (v := ?ev6) rfl rfl (by kernel_rfl) (by kernel_rfl) (by kernel_rfl) (by kernel_rfl) (by kernel_rfl) (by rfl) ?ey6 ?er6
  case ey6 => (intro w hSw; (try dsimp only at hSw); go_simp; (try with_reducible rfl))
  (try simp only [layE])
  refine E_take0 hQ (fun _ => hHeld) 7 (v := ?ev7) rfl rfl (by kernel_rfl) (by kernel_rfl) (by kernel_rfl) (by decide) (by rfl) ?ey7 ?er7
  case ey7 => (intro w; go_simp; (try with_reducible rfl))
  (try simp only [layE])
  refine E_take hQ hHeld 8 (v := ?ev8) rfl rfl (by kernel_rfl) (by kernel_rfl) (by kernel_rfl) (by kernel_rfl) (by kernel_rfl) (by rfl) ?ey8 ?er8
  case ey8 => (intro w hSw; (try dsimp only at hSw); go_simp; (try with_reducible rfl))
  (try simp only [layE])
  refine E_take0 hQ (fun _ => hHeld) 10 (v := ?ev9) rfl rfl (by kernel_rfl) (by kernel_rfl) (by kernel_rfl) (by decide) (by rfl) ?ey9 ?er9
  case ey9 => (intro w; go_simp; (try with_reducible rfl))
  (try simp only [layE])
  refine E_take hQ hHeld 11 (v := ?ev10) rfl rfl (by kernel_rfl) (by kernel_rfl) (by kernel_rfl) (by kernel_rfl) (by kernel_rfl) (by rfl) ?ey10 ?er10
  case ey10 => (intro w hSw; (try dsimp only at hSw); go_simp; (try with_reducible rfl))
  (try simp only [layE])
  refine E_take0 hQ (fun _ => hHeld) 12 (v := ?ev11) rfl rfl (by kernel_rfl) (by kernel_rfl) (by kernel_rfl) (by decide) (by rfl) ?ey11 ?er11
  case ey11 => (intro w; go_simp; (try with_reducible rfl))
  (try simp only [layE])
  refine E_take hQ hHeld 13 (v := ?ev12) rfl rfl (by kernel_rfl) (by kernel_rfl) (by kernel_rfl) (by kernel_rfl) (by kernel_rfl) (by rfl) ?ey12 ?er12
  case ey12 => (intro w hSw; (try dsimp only at hSw); go_simp; (try with_reducible rfl))
  (try simp only [layE])
  refine E_one 4 (by kernel_rfl) rfl (by rfl) (fun K hK => ?_)
  go_simp
  refine (cmpI_any _ _ _).mono ?_
  rintro e V4 ⟨rfl, rfl⟩
  refine hK.out _ _ (fun _ _ => hHeld) (fun hHeld' => ?_)
  replace hHeld := hHeld' (by rfl) (by decide)
  clear hK hHeld'
  (try simp only [layE])
  refine E_one 9 (by kernel_rfl) rfl (by rfl) (fun K hK => ?_)
  go_simp
  refine (cmpE_any _ _ _).mono ?_
  rintro e V9 ⟨rfl, rfl⟩
  refine hK.out _ _ (fun _ _ => hHeld) (fun hHeld' => ?_)
  replace hHeld := hHeld' (by rfl) (by decide)
  clear hK hHeld'
  (try simp only [layE])
  refine E_one 14 (by kernel_rfl) rfl (by rfl) (fun K hK => ?_)
  go_simp
  refine (strCmp_any _ _ _).mono ?_
  rintro e V14 ⟨rfl, rfl⟩
  refine hK.out _ _ (fun _ _ => hHeld) (fun hHeld' => ?_)
  replace hHeld := hHeld' (by rfl) (by decide)
  clear hK hHeld'
  (try simp only [layE])
  refine E_one 15 (by kernel_rfl) rfl (by rfl) (fun K hK => ?_)
  go_simp
  (try simp only [layE])
  refine hK.out _ _ (fun _ h => absurd rfl h) (fun _ => ?_)
  clear hK hHeld
  (try simp only [layE])
  refine E_one 16 (by kernel_rfl) rfl (by rfl) (fun K hK => ?_)
  go_simp
  have hh : (((W.alloc (.cells #[.int .i64 x.1, .int .i64 x.2.1, .string x.2.2] 154)).alloc (.cells #[.int .i64 y.1, .int .i64 y.2.1, .string y.2.2] 154)).alloc (.cells #[.int .i64 (cmpZ x.1 y.1), .int .i64 (cmpZ x.2.1 y.2.1), .int .i64 (cmpS x.2.2 y.2.2)] 3)).drew.heap[W.heap.size + 2]? = some (.cells (ints .i64 [cmpZ x.1 y.1, cmpZ x.2.1 y.2.1, cmpS x.2.2 y.2.2]).toArray 3 (0, 0)) := by
    have h := World.alloc_heap_new ((W.alloc (.cells #[.int .i64 x.1, .int .i64 x.2.1, .string x.2.2] 154)).alloc (.cells #[.int .i64 y.1, .int .i64 y.2.1, .string y.2.2] 154)) (.cells #[.int .i64 (cmpZ x.1 y.1), .int .i64 (cmpZ x.2.1 y.2.1), .int .i64 (cmpS x.2.2 y.2.2)] 3)
    rw [hsz] at h
    exact h
  refine (orI_any [cmpZ x.1 y.1, cmpZ x.2.1 y.2.1, cmpS x.2.2 y.2.2] _ _ (rds_rowK 3 1 hh rfl (by decide))).mono ?_
  rintro e V16 ⟨rfl, rfl⟩
  refine hK.out _ _ (fun h => absurd h (by decide)) (fun _ => ?_)
  clear hK
  (try simp only [layE])
  refine E_take0 hQ (fun h => absurd h (by decide)) 17 (v := ?ev13) rfl rfl (by kernel_rfl) (by kernel_rfl) (by kernel_rfl) (by decide) (by rfl) ?ey13 ?er13
  case ey13 => (intro w; go_simp; (try with_reducible rfl))
  (try simp only [layE])
  refine E_done (by kernel_rfl) ?_ _
  refine hK'.out _ _ ?_
  go_wp2
  go_ret
  exact ⟨rfl, 1, #[.cells #[.int .i64 x.1, .int .i64 x.2.1, .string x.2.2] 154, .cells #[.int .i64 y.1, .int .i64 y.2.1, .string y.2.2] 154, .cells #[.int .i64 (cmpZ x.1 y.1), .int .i64 (cmpZ x.2.1 y.2.1), .int .i64 (cmpS x.2.2 y.2.2)] 3], by simp only [Go.Sort.alloc_eq_grow, Go.Sort.grow_grow]; rfl⟩
end Go.Proofs.YtgfiogjfgbegpaaGreat

/-
  slices.SortFunc on Diags: contract; the order of Diags.
-/
namespace Go.Proofs.YtgfiogjfgbegpaaGreat
open Go Go.RowKit Go.Sort Go.Lib Go.Shelf

theorem cb_refl : ∀ a : List UInt8, compareBytes a a = 0
  | [] => rfl
  | a :: l => by rw [compareBytes, if_neg (by simp), if_neg (by simp)]; exact cb_refl l
theorem cb_zero : ∀ {a b : List UInt8}, compareBytes a b = 0 → a = b
  | [], [], _ => rfl
  | [], _ :: _, h => by simp [compareBytes] at h
  | _ :: _, [], h => by simp [compareBytes] at h
  | a :: l, b :: m, h => by
    rw [compareBytes] at h
    split at h
    · cases h
    · split at h
      · cases h
      · rename_i h1 h2
        have : a = b := by
          apply UInt8.toNat_inj.1
          rw [UInt8.lt_iff_toNat_lt] at h1 h2
          omega
        rw [this, cb_zero h]
theorem cb_swap : ∀ a b : List UInt8, compareBytes b a = - compareBytes a b
  | [], [] => rfl
  | [], _ :: _ => rfl
  | _ :: _, [] => rfl
  | a :: l, b :: m => by
    rw [compareBytes, compareBytes]
    by_cases h1 : a < b
    · have h2 : ¬ b < a := by rw [UInt8.lt_iff_toNat_lt] at h1 ⊢; omega
      rw [if_pos h1, if_neg h2, if_pos h1]; rfl
    · by_cases h2 : b < a
      · rw [if_pos h2, if_neg h1, if_pos h2]
      · rw [if_neg h2, if_neg h1, if_neg h1, if_neg h2]; exact cb_swap l m
theorem cb_trans : ∀ {a b c : List UInt8}, compareBytes a b < 0 → compareBytes b c < 0 → compareBytes a c < 0
  | [], [], _, h, _ => by simp [compareBytes] at h
  | [], _ :: _, [], _, h => by simp [compareBytes] at h
  | [], _ :: _, _ :: _, _, _ => by simp [compareBytes]
  | _ :: _, [], _, h, _ => by simp [compareBytes] at h
  | _ :: _, _ :: _, [], _, h => by simp [compareBytes] at h
  | a :: l, b :: m, c :: n, h1, h2 => by
    rw [compareBytes] at h1 h2 ⊢
    simp only [UInt8.lt_iff_toNat_lt] at h1 h2 ⊢
    split at h1
    · split at h2
      · rw [if_pos (by omega)]; omega
      · split at h2
        · omega
        · rw [if_pos (by omega)]; omega
    · split at h1
      · omega
      · split at h2
        · rw [if_pos (by omega)]; omega
        · split at h2
          · omega
          · rw [if_neg (by omega), if_neg (by omega)]; exact cb_trans h1 h2
theorem cmpD_val (x y : DiagD) : cmpD x y = if x.1 < y.1 then -1 else if y.1 < x.1 then 1 else if x.2.1 < y.2.1 then -1 else if y.2.1 < x.2.1 then 1 else cmpS x.2.2 y.2.2 := by
  unfold cmpD orZ cmpZ
  by_cases h1 : x.1 < y.1
  · simp [h1]
  · by_cases h2 : y.1 < x.1
    · simp [h1, h2]
    · by_cases h3 : x.2.1 < y.2.1
      · simp [h1, h2, h3, orZ]
      · by_cases h4 : y.2.1 < x.2.1
        · simp [h1, h2, h3, h4, orZ]
        · simp only [h1, h2, h3, h4, if_false, orZ, if_true]
          split <;> simp_all
theorem bytes_of {a b : ByteArray} (h : a.data.toList = b.data.toList) : a = b := by
  cases a; cases b; simp at h; simp [h]
theorem cmpD_zero {x y : DiagD} (h : cmpD x y = 0) : x = y := by
  rw [cmpD_val] at h
  obtain ⟨a, b, c⟩ := x
  obtain ⟨a', b', c'⟩ := y
  simp only at h
  split at h
  · cases h
  · split at h
    · cases h
    · split at h
      · cases h
      · split at h
        · cases h
        · rw [show a = a' by omega, show b = b' by omega, bytes_of (cb_zero h)]
theorem cmpD_refl (x : DiagD) : cmpD x x = 0 := by
  rw [cmpD_val, if_neg (by omega), if_neg (by omega), if_neg (by omega), if_neg (by omega)]
  exact cb_refl _
theorem cmpD_swap (x y : DiagD) : cmpD y x = - cmpD x y := by
  rw [cmpD_val, cmpD_val]
  have h := cb_swap x.2.2.data.toList y.2.2.data.toList
  unfold cmpS
  rw [h]
  split <;> split <;> (try split) <;> (try split) <;> (try split) <;> (try split) <;> (try split) <;> omega
theorem cmpD_trans {x y z : DiagD} (h1 : cmpD x y < 0) (h2 : cmpD y z < 0) : cmpD x z < 0 := by
  rw [cmpD_val] at h1 h2 ⊢
  unfold cmpS at *
  by_cases a1 : x.1 = y.1 ∧ x.2.1 = y.2.1
  · by_cases a2 : y.1 = z.1 ∧ y.2.1 = z.2.1
    · rw [if_neg (by omega), if_neg (by omega), if_neg (by omega), if_neg (by omega)] at h1 h2 ⊢
      exact cb_trans h1 h2
    · have h3 : y.1 < z.1 ∨ (y.1 = z.1 ∧ y.2.1 < z.2.1) := by
        split at h2
        · omega
        · split at h2
          · omega
          · split at h2
            · omega
            · split at h2 <;> omega
      rcases h3 with h3 | h3
      · rw [if_pos (by omega)]; omega
      · rw [if_neg (by omega), if_neg (by omega), if_pos (by omega)]; omega
  · have h3 : x.1 < y.1 ∨ (x.1 = y.1 ∧ x.2.1 < y.2.1) := by
      split at h1
      · omega
      · split at h1
        · omega
        · split at h1
          · omega
          · split at h1 <;> omega
    have h4 : y.1 < z.1 ∨ (y.1 = z.1 ∧ y.2.1 ≤ z.2.1) := by
      split at h2
      · omega
      · split at h2
        · omega
        · split at h2
          · omega
          · split at h2 <;> omega
    by_cases h5 : x.1 < z.1
    · rw [if_pos h5]; omega
    · rw [if_neg h5, if_neg (by omega), if_pos (by omega)]; omega
theorem swoD : SWO (ltOf cmpD) where
  irrefl x := by unfold ltOf; rw [cmpD_refl]; rfl
  trans x y z h1 h2 := by
    unfold ltOf at *
    simp only [decide_eq_true_eq] at *
    exact cmpD_trans h1 h2
  ntrans x y z h1 h2 := by
    unfold ltOf at *
    simp only [decide_eq_false_iff_not] at *
    intro h3
    have h4 := cmpD_swap x y
    by_cases h5 : cmpD x y = 0
    · rw [cmpD_zero h5] at h3; exact h2 h3
    · exact h2 (cmpD_trans (show cmpD y x < 0 by omega) h3)

theorem Tryz.isAggDiag : ∀ w, (isAgg 154).run Tryz.prog w = .ok true w := fun w => by kernel_rfl
theorem Tryz.sizeOfDiag : ∀ w, (Go.sizeOf 154).run Tryz.prog w = .ok 3 w := fun w => by kernel_rfl
theorem encG_one (x : DiagD) : ∀ v ∈ encG x, v.oneCell' = true := by
  intro v hv
  simp [encG] at hv
  rcases hv with rfl | rfl | rfl <;> rfl
theorem sortDiag_any (blk off cap : Nat) (d : Array DiagD) (w : World) (hH : HoldsK encG 3 w blk off d) (hblk : blk < w.heap.size) (hsz : d.size < 4611686018427387904) :
    Calls Tryz.prog 119 #[.slice (some ⟨blk, off, none⟩) d.size cap, .func (.func 120) #[] #[]] w fun e w' =>
      e = .returned (.tuple #[]) ∧ ∃ d' n os, PermIn 0 d.size d d' ∧ SortedIn (ltOf cmpD) 0 d.size d' ∧ w' = sortWorldK encG 3 w blk off n d' os :=
  AnyQ.slices_SortFunc Tryz.sortDiag 3 Tryz.isAggDiag Tryz.sizeOfDiag encG (fun _ => rfl) encG_one cmpD swoD 120 #[] blk off cap d w (enters_of Tryz.func120 (by kernel_rfl) rfl) (fun _ _ _ _ x y => compare_any x y _) hH hblk hsz
end Go.Proofs.YtgfiogjfgbegpaaGreat
