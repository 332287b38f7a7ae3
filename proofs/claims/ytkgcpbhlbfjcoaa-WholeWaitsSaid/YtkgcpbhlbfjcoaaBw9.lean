/-
  ticks: how a clock's are compared, and a stable sort of what is rising: contracts.
-/
import Derived.Deep.DeepCutAuto
import Derived.Test.YtkgcpbhlbfjcoaaBw5
import Derived.Test.YtkgcpbhlbfjcoaaBw7
import Derived.Test.YtkgcpbhlbfjcoaaBw8
namespace Go.Proofs.Ytkgcpbhlbfjcoaa
open Go Go.RowKit Go.Maps Go.WideShapes

/-- -1, 0, 1: as two ticks stand to one another. -/
def ordT (a b : Int) : Int := if a < b then -1 else if b < a then 1 else 0
theorem nanT_any (a : Int) (w : World) : Calls Try.prog 100 #[.int .i64 a] w fun e w' => e = .returned (.bool false) ∧ w = w' := by
  go_enter Try.func100, Try.ntmps100
  go_wp2
  go_ret
  exact ⟨rfl, rfl⟩
set_option maxRecDepth 100000 in
theorem cmpT_any (a b : Int) (w : World) : Calls Try.prog 67 #[.int .i64 a, .int .i64 b] w fun e w' => e = .returned (.int .i64 (ordT a b)) ∧ w = w' := by
  by_cases h1 : a < b
  · have F : Hid (ordT a b = -1) := Lib.hid (if_pos h1)
    have d1 : decide (a < b) = true := decide_eq_true h1
    clear h1
    go_enter Try.func67, Try.ntmps67
    go_wp2_with (go_at_call 100; refine (nanT_any _ _).mono ?_; rintro e w1 ⟨rfl, rfl⟩)
    go_ret
    exact ⟨by rw [F.out]; rfl, rfl⟩
  have d1 : decide (a < b) = false := decide_eq_false h1
  by_cases h2 : b < a
  · have F : Hid (ordT a b = 1) := Lib.hid (by unfold ordT; rw [if_neg h1, if_pos h2])
    have d2 : decide (b < a) = true := decide_eq_true h2
    clear h1 h2
    go_enter Try.func67, Try.ntmps67
    go_wp2_with (go_at_call 100; refine (nanT_any _ _).mono ?_; rintro e w1 ⟨rfl, rfl⟩)
    go_ret
    exact ⟨by rw [F.out]; rfl, rfl⟩
  have F : Hid (ordT a b = 0) := Lib.hid (by unfold ordT; rw [if_neg h1, if_neg h2])
  have d2 : decide (b < a) = false := decide_eq_false h2
  clear h1 h2
  go_enter Try.func67, Try.ntmps67
  go_wp2_with (go_at_call 100; refine (nanT_any _ _).mono ?_; rintro e w1 ⟨rfl, rfl⟩)
  go_ret
  exact ⟨by rw [F.out]; rfl, rfl⟩


/-- Nothing but draws. -/
def Still (w w' : World) : Prop := ∃ q, w' = w.drewN q
theorem Still.refl (w : World) : Still w w := ⟨0, rfl⟩
theorem Still.drew {w w' : World} (h : Still w w') : Still w w'.drew := by
  obtain ⟨q, rfl⟩ := h
  exact ⟨q + 1, by first | rfl | simp [World.drewN]⟩
theorem Still.trans {w w' w'' : World} (h : Still w w') (k : Still w' w'') : Still w w'' := by
  obtain ⟨q, rfl⟩ := h
  obtain ⟨r, rfl⟩ := k
  exact ⟨q + r, by simp [World.drewN, Nat.add_assoc]⟩
theorem Still.below {w w' : World} (h : Still w w') (B : Nat) : Below B w w' := by
  obtain ⟨q, rfl⟩ := h
  exact belowN (Below.refl _ _) q
theorem Still.heap {w w' : World} (h : Still w w') : w'.heap = w.heap := by
  obtain ⟨q, rfl⟩ := h
  first | rfl | simp

set_option maxRecDepth 100000 in
set_option maxHeartbeats 1000000 in
theorem dueCmp_any (cb b n B : Nat) (g : Int → Option Int) (x y : Int) (w : World) (h : ClkR w cb b n g) (hB : w.heap[B]? = some (.cells #[.pointer (some ⟨cb, 0, none⟩)] 58 (0, 0))) (hx : WfI x) (hy : WfI y) :
    Calls Try.prog 66 #[.int .i64 x, .int .i64 y, .pointer (some ⟨B, 0, none⟩)] w fun e w' => e = .returned (.int .i64 (ordT ((g x).getD 0) ((g y).getD 0))) ∧ Still w w' := by
  have p0 : w.cell? ⟨B, 0, none⟩ = some (.pointer (some ⟨cb, 0, none⟩)) := by simp [World.cell?, hB]
  have p1 := h.read
  have hd : ClkR w.drew cb b n g := h.below ((Below.refl _ _).drew)
  have p2 := hd.look hx
  have p3 := hd.look hy
  clear hd h hB
  generalize (g x).getD 0 = gx at *
  generalize (g y).getD 0 = gy at *
  go_enter Try.func66, Try.ntmps66
  go_upto_region 1 with fail
  refine E_region (S := (fun W => W.cell? ⟨B, 0, none⟩ = some (.pointer (some ⟨cb, 0, none⟩)) ∧ W.cell? ⟨cb, 0, none⟩ = some (.map (some b)) ∧ (Instr.lookup 110 (.map (some b)) (.int .i64 x) false).run Try.prog W = .ok (.int .i64 gx) W ∧ (Instr.lookup 110 (.map (some b)) (.int .i64 y) false).run Try.prog W = .ok (.int .i64 gy) W)) 12 (by kernel_rfl) ⟨p0, p1, p2, p3⟩ (fun _ _ _ _ _ h => h) (fun Q' hQ hK' hHeld => ?_)
  refine E_take hQ hHeld 0 (v := ?av1) rfl rfl (by kernel_rfl) (by kernel_rfl) (by kernel_rfl) (by kernel_rfl) (by kernel_rfl) (by rfl) ?ay1 ?ar1
  case ay1 => (intro w hSw; (try dsimp only at hSw); go_simp; (try with_reducible rfl))
  (try simp only [Act.put, List.setIfInBounds_toArray, List.set_cons_zero, List.set_cons_succ])
  refine E_take0 hQ (fun _ => hHeld) 1 (v := ?av2) rfl rfl (by kernel_rfl) (by kernel_rfl) (by kernel_rfl) (by decide) (by rfl) ?ay2 ?ar2
  case ay2 => (intro w; go_simp; (try with_reducible rfl))
  (try simp only [Act.put, List.setIfInBounds_toArray, List.set_cons_zero, List.set_cons_succ])
  refine E_take0 hQ (fun _ => hHeld) 2 (v := ?av3) rfl rfl (by kernel_rfl) (by kernel_rfl) (by kernel_rfl) (by decide) (by rfl) ?ay3 ?ar3
  case ay3 => (intro w; go_simp; (try with_reducible rfl))
  (try simp only [Act.put, List.setIfInBounds_toArray, List.set_cons_zero, List.set_cons_succ])
  refine E_take hQ hHeld 3 (v := ?av4) rfl rfl (by kernel_rfl) (by kernel_rfl) (by kernel_rfl) (by kernel_rfl) (by kernel_rfl) (by rfl) ?ay4 ?ar4
  case ay4 => (intro w hSw; (try dsimp only at hSw); go_simp; (try with_reducible rfl))
  (try simp only [Act.put, List.setIfInBounds_toArray, List.set_cons_zero, List.set_cons_succ])
  refine E_take0 hQ (fun _ => hHeld) 4 (v := ?av5) rfl rfl (by kernel_rfl) (by kernel_rfl) (by kernel_rfl) (by decide) (by rfl) ?ay5 ?ar5
  case ay5 => (intro w; go_simp; (try with_reducible rfl))
  (try simp only [Act.put, List.setIfInBounds_toArray, List.set_cons_zero, List.set_cons_succ])
  refine E_take hQ hHeld 5 (v := ?av6) rfl rfl (by kernel_rfl) (by kernel_rfl) (by kernel_rfl) (by kernel_rfl) (by kernel_rfl) (by rfl) ?ay6 ?ar6
  case ay6 => (intro w hSw; (try dsimp only at hSw); go_simp; (try with_reducible rfl))
  (try simp only [Act.put, List.setIfInBounds_toArray, List.set_cons_zero, List.set_cons_succ])
  refine E_take hQ hHeld 6 (v := ?av7) rfl rfl (by kernel_rfl) (by kernel_rfl) (by kernel_rfl) (by kernel_rfl) (by kernel_rfl) (by rfl) ?ay7 ?ar7
  case ay7 => (intro w hSw; (try dsimp only at hSw); go_simp; (try with_reducible rfl))
  (try simp only [Act.put, List.setIfInBounds_toArray, List.set_cons_zero, List.set_cons_succ])
  refine E_take0 hQ (fun _ => hHeld) 7 (v := ?av8) rfl rfl (by kernel_rfl) (by kernel_rfl) (by kernel_rfl) (by decide) (by rfl) ?ay8 ?ar8
  case ay8 => (intro w; go_simp; (try with_reducible rfl))
  (try simp only [Act.put, List.setIfInBounds_toArray, List.set_cons_zero, List.set_cons_succ])
  refine E_take0 hQ (fun _ => hHeld) 8 (v := ?av9) rfl rfl (by kernel_rfl) (by kernel_rfl) (by kernel_rfl) (by decide) (by rfl) ?ay9 ?ar9
  case ay9 => (intro w; go_simp; (try with_reducible rfl))
  (try simp only [Act.put, List.setIfInBounds_toArray, List.set_cons_zero, List.set_cons_succ])
  refine E_take hQ hHeld 9 (v := ?av10) rfl rfl (by kernel_rfl) (by kernel_rfl) (by kernel_rfl) (by kernel_rfl) (by kernel_rfl) (by rfl) ?ay10 ?ar10
  case ay10 => (intro w hSw; (try dsimp only at hSw); go_simp; (try with_reducible rfl))
  (try simp only [Act.put, List.setIfInBounds_toArray, List.set_cons_zero, List.set_cons_succ])
  refine E_take0 hQ (fun _ => hHeld) 10 (v := ?av11) rfl rfl (by kernel_rfl) (by kernel_rfl) (by kernel_rfl) (by decide) (by rfl) ?ay11 ?ar11
  case ay11 => (intro w; go_simp; (try with_reducible rfl))
  (try simp only [Act.put, List.setIfInBounds_toArray, List.set_cons_zero, List.set_cons_succ])
  refine E_take hQ hHeld 11 (v := ?av12) rfl rfl (by kernel_rfl) (by kernel_rfl) (by kernel_rfl) (by kernel_rfl) (by kernel_rfl) (by rfl) ?ay12 ?ar12
  case ay12 => (intro w hSw; (try dsimp only at hSw); go_simp; (try with_reducible rfl))
  (try simp only [Act.put, List.setIfInBounds_toArray, List.set_cons_zero, List.set_cons_succ])
  refine E_one 12 (by kernel_rfl) rfl (by rfl) (fun K hK => ?_)
  go_simp
  refine (cmpT_any _ _ _).mono ?_
  rintro e V12 ⟨rfl, rfl⟩
  (skip)
  refine hK.out _ _ (fun _ h => absurd rfl h) (fun _ => ?_)
  clear hK hHeld
  (try simp only [Act.put, List.setIfInBounds_toArray, List.set_cons_zero, List.set_cons_succ])
  refine E_take0 hQ (fun h => absurd h (by decide)) 13 (v := ?av13) rfl rfl (by kernel_rfl) (by kernel_rfl) (by kernel_rfl) (by decide) (by rfl) ?ay13 ?ar13
  case ay13 => (intro w; go_simp; (try with_reducible rfl))
  (try simp only [Act.put, List.setIfInBounds_toArray, List.set_cons_zero, List.set_cons_succ])
  refine E_done (by kernel_rfl) ?_ _
  refine hK'.out _ _ ?_
  clear hK' hQ
  go_wp2_with fail
  go_ret
  exact ⟨rfl, (Still.refl w).drew⟩

set_option maxRecDepth 100000 in
set_option maxHeartbeats 1000000 in
/-- What rises already stays as it is. -/
theorem insT_any (cb b n B : Nat) (g : Int → Option Int) (l : List Int) (v : Value) (w : World) (h : ClkR w cb b n g) (hB : w.heap[B]? = some (.cells #[.pointer (some ⟨cb, 0, none⟩)] 58 (0, 0))) (hv : RdS w v 1 l.length (ints .i64 l)) (hw : ∀ x ∈ l, WfI x) (hlen : l.length ≤ 1000) (hup : ∀ (m : Nat) (h1 : m + 1 < l.length), (g (l[m]'(by omega))).getD 0 ≤ (g l[m + 1]).getD 0) :
    Calls Try.prog 122 #[v, .int .i64 0, .int .i64 l.length, (.func (.func 66) #[] #[.pointer (some ⟨B, 0, none⟩)])] w fun e w' => e = .returned (.tuple #[]) ∧ Still w w' := by
  obtain ⟨a, cap, rfl⟩ := hv.form
  have HV := Lib.hid hv
  have HC := Lib.hid h
  have HB := Lib.hid hB
  have HW := Lib.hid hw
  have HUP := Lib.hid hup
  clear hv h hB hw hup
  go_enter Try.func122, Try.ntmps122
  go_wp2_with fail
  go_loopg [8] (l.length + 1) (fun gk i wi => ∃ (k : Nat), k + gk = l.length + 2 ∧ 1 ≤ k ∧ k ≤ l.length + 1 ∧ i = .int .i64 k ∧ Hid (Still w wi))
  case atStart => exact ⟨1, by omega, by omega, by omega, rfl, Lib.hid (Still.refl w)⟩
  case round =>
    obtain ⟨k, hgk, hk1, hk2, rfl, HST⟩ := hrel
    rename World => wi
    have hg : gk = l.length + 2 - k := by omega
    subst hg
    by_cases hkl : k < l.length
    · have d1 : decide ((k : Int) < (l.length : Int)) = true := decide_eq_true (by omega)
      obtain ⟨m, rfl⟩ : ∃ m, k = m + 1 := ⟨k - 1, by omega⟩
      go_wp2_with fail
      go_loopg [9] 1 (fun gm j wj => gm = 1 ∧ j = .int .i64 ((m + 1 : Nat) : Int) ∧ Hid (Still w wj))
      case atStart => exact ⟨rfl, rfl, HST⟩
      case round =>
        obtain ⟨rfl, rfl, HSJ⟩ := hrel
        rename World => wj
        have hrd := HV.out.below (HSJ.out.below w.heap.size)
        obtain ⟨G, off, rfl, hc1, hc2, u1⟩ := ints_at hrd hkl
        obtain ⟨_, _, he, -, -, u0⟩ := ints_at hrd (i := m) (by omega)
        cases he
        have dm : decide ((0 : Int) < ((m + 1 : Nat) : Int)) = true := decide_eq_true (by omega)
        have hsub : IntKind.i64.wrap (m : Int) = (m : Int) := IntWalk.i64_in _ (by omega)
        have hle := HUP.out m hkl
        have hneg : decide (ordT ((g l[m + 1]).getD 0) ((g l[m]).getD 0) < 0) = false := decide_eq_false (by unfold ordT; rw [if_neg (by omega)]; split <;> omega)
        have hm1 : (m : Int) + 1 < (l.length : Int) := by omega
        have hm0 : (0 : Int) ≤ (m : Int) + 1 := by omega
        have hm00 : (0 : Int) ≤ (m : Int) := by omega
        have hm2 : (m : Int) < (l.length : Int) := by omega
        have HWD := Lib.hid HSJ.out.drew
        have HCMP : Hid (∀ V, Still w V → Calls Try.prog 66 #[.int .i64 l[m + 1], .int .i64 l[m], .pointer (some ⟨B, 0, none⟩)] V fun e w' => e = .returned (.int .i64 (ordT ((g l[m + 1]).getD 0) ((g l[m]).getD 0))) ∧ Still w w') := Lib.hid (fun V hV => (dueCmp_any cb b n B g _ _ V (HC.out.below (hV.below _)) (by rw [hV.heap]; exact HB.out) (HW.out _ (List.getElem_mem _)) (HW.out _ (List.getElem_mem _))).mono (fun e w' h => ⟨h.1, hV.trans h.2⟩))
        clear hle
        go_upto_region 4 with fail
        refine E_region (S := (fun W => W.cell? ⟨G, off + (m + 1), none⟩ = some (.int .i64 l[m + 1]) ∧ W.cell? ⟨G, off + m, none⟩ = some (.int .i64 l[m]))) 14 (by kernel_rfl) ⟨u1, u0⟩ (fun _ _ _ _ _ h => h) (fun Q' hQ hK' hHeld => ?_)
        refine E_take0 hQ (fun _ => hHeld) 0 (v := ?bv1) rfl rfl (by kernel_rfl) (by kernel_rfl) (by kernel_rfl) (by decide) (by rfl) ?by1 ?br1
        case by1 => (intro w; go_simp; (try with_reducible rfl))
        (try simp only [Act.put, List.setIfInBounds_toArray, List.set_cons_zero, List.set_cons_succ])
        refine E_take0 hQ (fun _ => hHeld) 1 (v := ?bv2) rfl rfl (by kernel_rfl) (by kernel_rfl) (by kernel_rfl) (by decide) (by rfl) ?by2 ?br2
        case by2 => (intro w; go_simp; (try with_reducible rfl))
        (try simp only [Act.put, List.setIfInBounds_toArray, List.set_cons_zero, List.set_cons_succ])
        refine E_take0 hQ (fun _ => hHeld) 2 (v := ?bv3) rfl rfl (by kernel_rfl) (by kernel_rfl) (by kernel_rfl) (by decide) (by rfl) ?by3 ?br3
        case by3 => (intro w; go_simp; (try with_reducible rfl))
        (try simp only [Act.put, List.setIfInBounds_toArray, List.set_cons_zero, List.set_cons_succ])
        refine E_take0 hQ (fun _ => hHeld) 3 (v := ?bv4) rfl rfl (by kernel_rfl) (by kernel_rfl) (by kernel_rfl) (by decide) (by rfl) ?by4 ?br4
        case by4 => (intro w; go_simp; (try with_reducible rfl))
        (try simp only [Act.put, List.setIfInBounds_toArray, List.set_cons_zero, List.set_cons_succ])
        refine E_take0 hQ (fun _ => hHeld) 4 (v := ?bv5) rfl rfl (by kernel_rfl) (by kernel_rfl) (by kernel_rfl) (by decide) (by rfl) ?by5 ?br5
        case by5 => (intro w; go_simp; (try with_reducible rfl))
        (try simp only [Act.put, List.setIfInBounds_toArray, List.set_cons_zero, List.set_cons_succ])
        refine E_take0 hQ (fun _ => hHeld) 5 (v := ?bv6) rfl rfl (by kernel_rfl) (by kernel_rfl) (by kernel_rfl) (by decide) (by rfl) ?by6 ?br6
        case by6 => (intro w; go_simp; (try with_reducible rfl))
        (try simp only [Act.put, List.setIfInBounds_toArray, List.set_cons_zero, List.set_cons_succ])
        refine E_take0 hQ (fun _ => hHeld) 6 (v := ?bv7) rfl rfl (by kernel_rfl) (by kernel_rfl) (by kernel_rfl) (by decide) (by rfl) ?by7 ?br7
        case by7 => (intro w; go_simp; (try with_reducible rfl))
        (try simp only [Act.put, List.setIfInBounds_toArray, List.set_cons_zero, List.set_cons_succ])
        refine E_take0 hQ (fun _ => hHeld) 7 (v := ?bv8) rfl rfl (by kernel_rfl) (by kernel_rfl) (by kernel_rfl) (by decide) (by rfl) ?by8 ?br8
        case by8 => (intro w; go_simp; (try with_reducible rfl))
        (try simp only [Act.put, List.setIfInBounds_toArray, List.set_cons_zero, List.set_cons_succ])
        refine E_take hQ hHeld 8 (v := ?bv9) rfl rfl (by kernel_rfl) (by kernel_rfl) (by kernel_rfl) (by kernel_rfl) (by kernel_rfl) (by rfl) ?by9 ?br9
        case by9 => (intro w hSw; (try dsimp only at hSw); go_simp; (try with_reducible rfl))
        (try simp only [Act.put, List.setIfInBounds_toArray, List.set_cons_zero, List.set_cons_succ])
        refine E_take0 hQ (fun _ => hHeld) 9 (v := ?bv10) rfl rfl (by kernel_rfl) (by kernel_rfl) (by kernel_rfl) (by decide) (by rfl) ?by10 ?br10
        case by10 => (intro w; go_simp; (try with_reducible rfl))
        (try simp only [Act.put, List.setIfInBounds_toArray, List.set_cons_zero, List.set_cons_succ])
        refine E_take0 hQ (fun _ => hHeld) 10 (v := ?bv11) rfl rfl (by kernel_rfl) (by kernel_rfl) (by kernel_rfl) (by decide) (by rfl) ?by11 ?br11
        case by11 => (intro w; go_simp; (try with_reducible rfl))
        (try simp only [Act.put, List.setIfInBounds_toArray, List.set_cons_zero, List.set_cons_succ])
        refine E_take0 hQ (fun _ => hHeld) 11 (v := ?bv12) rfl rfl (by kernel_rfl) (by kernel_rfl) (by kernel_rfl) (by decide) (by rfl) ?by12 ?br12
        case by12 => (intro w; go_simp; (try rw [hsub]); (try with_reducible rfl))
        (try simp only [Act.put, List.setIfInBounds_toArray, List.set_cons_zero, List.set_cons_succ])
        refine E_take0 hQ (fun _ => hHeld) 12 (v := ?bv13) rfl rfl (by kernel_rfl) (by kernel_rfl) (by kernel_rfl) (by decide) (by rfl) ?by13 ?br13
        case by13 => (intro w; go_simp; (try with_reducible rfl))
        (try simp only [Act.put, List.setIfInBounds_toArray, List.set_cons_zero, List.set_cons_succ])
        refine E_take hQ hHeld 13 (v := ?bv14) rfl rfl (by kernel_rfl) (by kernel_rfl) (by kernel_rfl) (by kernel_rfl) (by kernel_rfl) (by rfl) ?by14 ?br14
        case by14 => (intro w hSw; (try dsimp only at hSw); go_simp; (try with_reducible rfl))
        (try simp only [Act.put, List.setIfInBounds_toArray, List.set_cons_zero, List.set_cons_succ])
        refine E_one 14 (by kernel_rfl) rfl (by rfl) (fun K hK => ?_)
        go_simp
        refine (HCMP.out _ HWD.out).mono ?_
        rintro e V14 ⟨rfl, HV14⟩
        (skip)
        refine hK.out _ _ (fun _ h => absurd rfl h) (fun _ => ?_)
        clear hK hHeld
        (try simp only [Act.put, List.setIfInBounds_toArray, List.set_cons_zero, List.set_cons_succ])
        refine E_take0 hQ (fun h => absurd h (by decide)) 15 (v := ?bv15) rfl rfl (by kernel_rfl) (by kernel_rfl) (by kernel_rfl) (by decide) (by rfl) ?by15 ?br15
        case by15 => (intro w; go_simp; (try rw [hneg]); (try with_reducible rfl))
        (try simp only [Act.put, List.setIfInBounds_toArray, List.set_cons_zero, List.set_cons_succ])
        refine E_take0 hQ (fun h => absurd h (by decide)) 16 (v := ?bv16) rfl rfl (by kernel_rfl) (by kernel_rfl) (by kernel_rfl) (by decide) (by rfl) ?by16 ?br16
        case by16 => (intro w; go_simp; (try with_reducible rfl))
        (try simp only [Act.put, List.setIfInBounds_toArray, List.set_cons_zero, List.set_cons_succ])
        refine E_done (by kernel_rfl) ?_ _
        refine hK'.out _ _ ?_
        clear u0 u1 hK' hQ
        go_wp2_with fail
        go_roundg (l.length + 2 - (m + 1 + 1))
        case measure => omega
        case rel => exact ⟨m + 1 + 1, by omega, by omega, by omega, by go_num, Lib.hid HV14⟩
    · have d1 : decide ((k : Int) < (l.length : Int)) = false := decide_eq_false (by omega)
      go_wp2_with fail
      go_end0
      exact ⟨rfl, HST.out⟩

set_option maxRecDepth 100000 in
set_option maxHeartbeats 1000000 in
theorem stableT_any (cb b n B : Nat) (g : Int → Option Int) (l : List Int) (v : Value) (w : World) (h : ClkR w cb b n g) (hB : w.heap[B]? = some (.cells #[.pointer (some ⟨cb, 0, none⟩)] 58 (0, 0))) (hv : RdS w v 1 l.length (ints .i64 l)) (hw : ∀ x ∈ l, WfI x) (hlen : l.length ≤ 19) (hup : ∀ (m : Nat) (h1 : m + 1 < l.length), (g (l[m]'(by omega))).getD 0 ≤ (g l[m + 1]).getD 0) :
    Calls Try.prog 99 #[v, .int .i64 l.length, (.func (.func 66) #[] #[.pointer (some ⟨B, 0, none⟩)])] w fun e w' => e = .returned (.tuple #[]) ∧ Still w w' := by
  have HI := Lib.hid (insT_any cb b n B g l v w h hB hv hw (by omega) hup)
  have d1 : decide ((20 : Int) ≤ (l.length : Int)) = false := decide_eq_false (by omega)
  have d2 : decide ((20 : Int) < (l.length : Int)) = false := decide_eq_false (by omega)
  clear h hB hv hw hup
  go_enter Try.func99, Try.ntmps99
  go_wp2_with fail
  go_loopg [7, 8] 1 (fun gm i j wj => gm = 1 ∧ i = .int .i64 0 ∧ j = .int .i64 20 ∧ wj = w)
  case atStart => exact ⟨rfl, rfl, rfl, rfl⟩
  case round =>
    obtain ⟨rfl, rfl, rfl, rfl⟩ := hrel
    go_wp2_with fail
    refine HI.out.mono ?_
    rintro e w1 ⟨rfl, hst⟩
    have HST := Lib.hid hst
    clear hst
    go_wp2_with fail
    go_loopg [6] 1 (fun gm i wj => gm = 1 ∧ i = .int .i64 20 ∧ wj = w1)
    case atStart => exact ⟨rfl, rfl, rfl⟩
    case round =>
      obtain ⟨rfl, rfl, rfl⟩ := hrel
      go_wp2_with fail
      go_end0
      exact ⟨rfl, HST.out⟩

set_option maxRecDepth 100000 in
theorem sortStable_any (cb b n B : Nat) (g : Int → Option Int) (l : List Int) (v : Value) (w : World) (h : ClkR w cb b n g) (hB : w.heap[B]? = some (.cells #[.pointer (some ⟨cb, 0, none⟩)] 58 (0, 0))) (hv : RdS w v 1 l.length (ints .i64 l)) (hw : ∀ x ∈ l, WfI x) (hlen : l.length ≤ 19) (hup : ∀ (m : Nat) (h1 : m + 1 < l.length), (g (l[m]'(by omega))).getD 0 ≤ (g l[m + 1]).getD 0) :
    Calls Try.prog 65 #[v, (.func (.func 66) #[] #[.pointer (some ⟨B, 0, none⟩)])] w fun e w' => e = .returned (.tuple #[]) ∧ Still w w' := by
  have HI := Lib.hid (stableT_any cb b n B g l v w h hB hv hw hlen hup)
  obtain ⟨a, cap, rfl⟩ := hv.form
  clear h hB hv hw hup
  go_enter Try.func65, Try.ntmps65
  go_wp2_with fail
  refine HI.out.mono ?_
  rintro e w1 ⟨rfl, hst⟩
  go_wp2_with fail
  go_end0
  exact ⟨rfl, hst⟩
end Go.Proofs.Ytkgcpbhlbfjcoaa
