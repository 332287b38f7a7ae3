/-
  scalar.word: contract.
-/
import Derived.Test.YtbnggfhofdpdcaaBq12
import Derived.Test.YtbnggfhofdpdcaaBq53
namespace Go.Proofs.Ytbnggfhofdpdcaa
open Go Go.RowKit Go.WideShapes

def hexN (n : Nat) : Nat := if n < 10 then 48 + n else 87 + n
/-- What stands behind a backslash for a byte; nothing: it stands for itself. -/
def wordL (c : Nat) : List Nat := if c = 34 ∨ c = 92 then [c] else if c = 10 then [110] else if c = 9 then [116] else if c < 32 ∨ c = 127 then [120, hexN (c / 16), hexN (c % 16)] else []
theorem hex_sub : ∀ n : Nat, n < 16 → (⟨#[48, 49, 50, 51, 52, 53, 54, 55, 56, 57, 97, 98, 99, 100, 101, 102]⟩ : ByteArray).extract n (n + 1) = mkS [hexN n] := by decide +kernel
set_option maxRecDepth 100000 in
set_option maxHeartbeats 4000000 in
theorem word_any (c : Nat) (hc : c < 256) (w : World) :
    Calls Try.prog 198 #[.int .u8 (c : Int)] w fun e w' => e = .returned (.string (mkS (wordL c))) ∧ Below w.heap.size w w' := by
  by_cases h34 : c = 34
  · subst h34
    go_enter Try.func198, Try.ntmps198
    go_wp2_with fail
    go_ret
    exact ⟨rfl, Below.refl _ _⟩
  have e34 : ((c : Int) == 34) = false := by simp; omega
  by_cases h92 : c = 92
  · subst h92
    go_enter Try.func198, Try.ntmps198
    go_wp2_with fail
    go_ret
    exact ⟨rfl, Below.refl _ _⟩
  have e92 : ((c : Int) == 92) = false := by simp; omega
  by_cases h10 : c = 10
  · subst h10
    go_enter Try.func198, Try.ntmps198
    go_wp2_with fail
    go_ret
    exact ⟨rfl, Below.refl _ _⟩
  have e10 : ((c : Int) == 10) = false := by simp; omega
  by_cases h9 : c = 9
  · subst h9
    go_enter Try.func198, Try.ntmps198
    go_wp2_with fail
    go_ret
    exact ⟨rfl, Below.refl _ _⟩
  have e9 : ((c : Int) == 9) = false := by simp; omega
  by_cases hlo : c < 32 ∨ c = 127
  · have HW : Hid (wordL c = [120, hexN (c / 16), hexN (c % 16)]) := Lib.hid (by unfold wordL; rw [if_neg (by omega), if_neg h10, if_neg h9, if_pos hlo])
    have hcq : (c : Int) / 16 = ((c / 16 : Nat) : Int) := by omega
    have hcr : (c : Int) % 16 = ((c % 16 : Nat) : Int) := by omega
    have hct : (c : Int).tmod 16 = ((c % 16 : Nat) : Int) := by rw [Int.tmod_eq_emod_of_nonneg (by omega)]; omega
    have hq16 : c / 16 < 16 := by omega
    have hr16 : c % 16 < 16 := by omega
    have HQX := Lib.hid (hex_sub (c / 16) hq16)
    have HRX := Lib.hid (hex_sub (c % 16) hr16)
    generalize c / 16 = q at *
    generalize c % 16 = r at *
    have hw1 : IntKind.u8.wrap (q : Int) = (q : Int) := by rw [IntKind.wrap_u8]; omega
    have hw2 : IntKind.u8.wrap ((q : Int) + 1) = (q : Int) + 1 := by rw [IntKind.wrap_u8]; omega
    have hw3 : IntKind.u8.wrap (r : Int) = (r : Int) := by rw [IntKind.wrap_u8]; omega
    have hw4 : IntKind.u8.wrap ((r : Int) + 1) = (r : Int) + 1 := by rw [IntKind.wrap_u8]; omega
    have hl1 : (q : Int) + 1 ≤ 16 := by omega
    have hl2 : (q : Int) ≤ (q : Int) + 1 := by omega
    have hl3 : (r : Int) + 1 ≤ 16 := by omega
    have hl4 : (r : Int) ≤ (r : Int) + 1 := by omega
    have ht1 : ((q : Int) + 1).toNat = q + 1 := by omega
    have ht2 : ((r : Int) + 1).toNat = r + 1 := by omega
    have hx1 := HQX.out
    have hx2 := HRX.out
    have HH : Hid (({ data := #[120] } : ByteArray) ++ mkS [hexN q] ++ mkS [hexN r] = mkS [120, hexN q, hexN r]) := Lib.hid (by rw [show ({ data := #[120] } : ByteArray) = mkS [120] from rfl, mkS_append, mkS_append]; rfl)
    have hzq : (mkS [hexN q]).size = 1 := rfl
    have hzr : (mkS [hexN r]).size = 1 := rfl
    generalize mkS [hexN q] = qs at *
    generalize mkS [hexN r] = rs at *
    go_enter Try.func198, Try.ntmps198
    go_upto_region 9 with fail
    go_cut [19] (fun s wx => s = .bool true ∧ wx = w)
    case first =>
      by_cases h32 : c < 32
      · have d1 : decide ((c : Int) < 32) = true := decide_eq_true (by omega)
        go_wp2_with fail
        go_meet
        exact ⟨rfl, rfl⟩
      · have d1 : decide ((c : Int) < 32) = false := decide_eq_false (by omega)
        have e7 : ((c : Int) == 127) = true := by simp; omega
        go_wp2_with fail
        go_meet
        exact ⟨rfl, rfl⟩
    case rest =>
    obtain ⟨rfl, rfl⟩ := hcut
    go_upto_region 10 with fail
    refine E_region (S := (fun _ => True)) 14 (by kernel_rfl) trivial (fun _ _ _ _ _ h => h) (fun Q' hQ hK' hHeld => ?_)
    refine E_take0 hQ (fun _ => hHeld) 0 (v := ?hv1) rfl rfl (by kernel_rfl) (by kernel_rfl) (by kernel_rfl) (by decide) (by rfl) ?hy1 ?hr1
    case hy1 => (intro w; go_simp; (try with_reducible rfl))
    (try simp only [Act.put, List.setIfInBounds_toArray, List.set_cons_zero, List.set_cons_succ])
    refine E_take0 hQ (fun _ => hHeld) 1 (v := ?hv2) rfl rfl (by kernel_rfl) (by kernel_rfl) (by kernel_rfl) (by decide) (by rfl) ?hy2 ?hr2
    case hy2 => (intro w; go_simp; (try with_reducible rfl))
    (try simp only [Act.put, List.setIfInBounds_toArray, List.set_cons_zero, List.set_cons_succ])
    refine E_take0 hQ (fun _ => hHeld) 2 (v := ?hv3) rfl rfl (by kernel_rfl) (by kernel_rfl) (by kernel_rfl) (by decide) (by rfl) ?hy3 ?hr3
    case hy3 => (intro w; go_simp; (try with_reducible rfl))
    (try simp only [Act.put, List.setIfInBounds_toArray, List.set_cons_zero, List.set_cons_succ])
    refine E_take0 hQ (fun _ => hHeld) 3 (v := ?hv4) rfl rfl (by kernel_rfl) (by kernel_rfl) (by kernel_rfl) (by decide) (by rfl) ?hy4 ?hr4
    case hy4 => (intro w; go_simp; (try with_reducible rfl))
    (try simp only [Act.put, List.setIfInBounds_toArray, List.set_cons_zero, List.set_cons_succ])
    refine E_take0 hQ (fun _ => hHeld) 4 (v := ?hv5) rfl rfl (by kernel_rfl) (by kernel_rfl) (by kernel_rfl) (by decide) (by rfl) ?hy5 ?hr5
    case hy5 => (intro w; go_simp; (try with_reducible rfl))
    (try simp only [Act.put, List.setIfInBounds_toArray, List.set_cons_zero, List.set_cons_succ])
    refine E_take0 hQ (fun _ => hHeld) 5 (v := ?hv6) rfl rfl (by kernel_rfl) (by kernel_rfl) (by kernel_rfl) (by decide) (by rfl) ?hy6 ?hr6
    case hy6 => (intro w; go_simp; (try with_reducible rfl))
    (try simp only [Act.put, List.setIfInBounds_toArray, List.set_cons_zero, List.set_cons_succ])
    refine E_take0 hQ (fun _ => hHeld) 6 (v := ?hv7) rfl rfl (by kernel_rfl) (by kernel_rfl) (by kernel_rfl) (by decide) (by rfl) ?hy7 ?hr7
    case hy7 => (intro w; go_simp; (try with_reducible rfl))
    (try simp only [Act.put, List.setIfInBounds_toArray, List.set_cons_zero, List.set_cons_succ])
    refine E_take0 hQ (fun _ => hHeld) 7 (v := ?hv8) rfl rfl (by kernel_rfl) (by kernel_rfl) (by kernel_rfl) (by decide) (by rfl) ?hy8 ?hr8
    case hy8 => (intro w; go_simp; (try with_reducible rfl))
    (try simp only [Act.put, List.setIfInBounds_toArray, List.set_cons_zero, List.set_cons_succ])
    refine E_take0 hQ (fun _ => hHeld) 8 (v := ?hv9) rfl rfl (by kernel_rfl) (by kernel_rfl) (by kernel_rfl) (by decide) (by rfl) ?hy9 ?hr9
    case hy9 => (intro w; go_simp; (try with_reducible rfl))
    (try simp only [Act.put, List.setIfInBounds_toArray, List.set_cons_zero, List.set_cons_succ])
    refine E_take0 hQ (fun _ => hHeld) 9 (v := ?hv10) rfl rfl (by kernel_rfl) (by kernel_rfl) (by kernel_rfl) (by decide) (by rfl) ?hy10 ?hr10
    case hy10 => (intro w; go_simp; (try with_reducible rfl))
    (try simp only [Act.put, List.setIfInBounds_toArray, List.set_cons_zero, List.set_cons_succ])
    refine E_take0 hQ (fun _ => hHeld) 10 (v := ?hv11) rfl rfl (by kernel_rfl) (by kernel_rfl) (by kernel_rfl) (by decide) (by rfl) ?hy11 ?hr11
    case hy11 => (intro w; go_simp; (try with_reducible rfl))
    (try simp only [Act.put, List.setIfInBounds_toArray, List.set_cons_zero, List.set_cons_succ])
    refine E_take0 hQ (fun _ => hHeld) 11 (v := ?hv12) rfl rfl (by kernel_rfl) (by kernel_rfl) (by kernel_rfl) (by decide) (by rfl) ?hy12 ?hr12
    case hy12 => (intro w; go_simp; (try with_reducible rfl))
    (try simp only [Act.put, List.setIfInBounds_toArray, List.set_cons_zero, List.set_cons_succ])
    refine E_take0 hQ (fun _ => hHeld) 12 (v := ?hv13) rfl rfl (by kernel_rfl) (by kernel_rfl) (by kernel_rfl) (by decide) (by rfl) ?hy13 ?hr13
    case hy13 => (intro w; go_simp; (try with_reducible rfl))
    (try simp only [Act.put, List.setIfInBounds_toArray, List.set_cons_zero, List.set_cons_succ])
    refine E_take0 hQ (fun _ => hHeld) 13 (v := ?hv14) rfl rfl (by kernel_rfl) (by kernel_rfl) (by kernel_rfl) (by decide) (by rfl) ?hy14 ?hr14
    case hy14 => (intro w; go_simp; (try with_reducible rfl))
    (try simp only [Act.put, List.setIfInBounds_toArray, List.set_cons_zero, List.set_cons_succ])
    refine E_one 14 (by kernel_rfl) rfl (by rfl) (fun K hK => ?_)
    go_simp
    (try simp only [Act.put, List.setIfInBounds_toArray, List.set_cons_zero, List.set_cons_succ])
    refine hK.out _ _ (fun _ h => absurd rfl h) (fun _ => ?_)
    clear hK hHeld
    (try simp only [Act.put, List.setIfInBounds_toArray, List.set_cons_zero, List.set_cons_succ])
    refine E_done (by kernel_rfl) ?_ _
    refine hK'.out _ _ ?_
    go_wp2_with fail
    go_ret
    rw [HW.out, ← HH.out]
    exact ⟨rfl, (Below.refl _ _).drew⟩
  · have HW : Hid (wordL c = []) := Lib.hid (by unfold wordL; rw [if_neg (by omega), if_neg h10, if_neg h9, if_neg hlo])
    have d1 : decide ((c : Int) < 32) = false := decide_eq_false (by omega)
    have e7 : ((c : Int) == 127) = false := by simp; omega
    go_enter Try.func198, Try.ntmps198
    go_wp2_with fail
    go_ret
    rw [HW.out]
    exact ⟨rfl, Below.refl _ _⟩
end Go.Proofs.Ytbnggfhofdpdcaa

/-
  scalar.Quote, Put: contracts.
-/
namespace Go.Proofs.Ytbnggfhofdpdcaa
open Go Go.RowKit Go.WideShapes

/-- A byte as it stands within quotes. -/
def escN (c : Nat) : List Nat := if wordL c = [] then [c] else 92 :: wordL c
def quoteN (l : List Nat) : List Nat := 34 :: l.flatMap escN ++ [34]
/-- A text as it stands in a definition's text. -/
def putS (s : ByteArray) : ByteArray := if plainT s then s else mkS (quoteN (bsN s))
theorem wordL_len (c : Nat) : (wordL c).length ≤ 3 := by
  unfold wordL
  split
  · exact Nat.le_succ_of_le (Nat.le_succ_of_le (Nat.le_refl _))
  · split
    · exact Nat.le_succ_of_le (Nat.le_succ_of_le (Nat.le_refl _))
    · split
      · exact Nat.le_succ_of_le (Nat.le_succ_of_le (Nat.le_refl _))
      · split
        · exact Nat.le_refl _
        · exact Nat.zero_le _
theorem escN_len (c : Nat) : (escN c).length ≤ 4 := by
  have := wordL_len c
  unfold escN
  split
  · simp
  · simp; omega
theorem hexN_lt {n : Nat} (h : n < 16) : hexN n < 256 := by unfold hexN; split <;> omega
theorem wordL_lt {c : Nat} (hc : c < 256) : ∀ b ∈ wordL c, b < 256 := by
  unfold wordL
  intro b hb
  split at hb
  · simp at hb; omega
  · split at hb
    · simp at hb; omega
    · split at hb
      · simp at hb; omega
      · split at hb
        · have h1 := hexN_lt (show c / 16 < 16 by omega)
          have h2 := hexN_lt (show c % 16 < 16 by omega)
          simp at hb
          rcases hb with rfl | rfl | rfl
          · omega
          · exact h1
          · exact h2
        · cases hb
theorem escN_lt {c : Nat} (hc : c < 256) : ∀ b ∈ escN c, b < 256 := by
  have h := wordL_lt hc
  unfold escN
  intro b hb
  split at hb
  · simp at hb; omega
  · rcases List.mem_cons.1 hb with rfl | hb
    · omega
    · exact h b hb
def accQ (s : ByteArray) (k : Nat) : List Nat := 34 :: ((bsN s).take k).flatMap escN
theorem accQ_zero (s : ByteArray) : accQ s 0 = [34] := by simp [accQ]
theorem accQ_succ {s : ByteArray} {k : Nat} (h : k < s.size) : accQ s (k + 1) = accQ s k ++ escN s[k].toNat := by
  have h' : k < (bsN s).length := by rw [bsN_len]; exact h
  unfold accQ
  rw [List.take_add_one, List.getElem?_eq_getElem h', bsN_at h]
  simp
theorem accQ_len (s : ByteArray) : ∀ k : Nat, k ≤ s.size → (accQ s k).length ≤ 1 + 4 * k
  | 0, _ => by simp [accQ]
  | k + 1, h => by
    have ih := accQ_len s k (by omega)
    rw [accQ_succ (by omega), List.length_append]
    have := escN_len (s[k]'(by omega)).toNat
    omega
theorem accQ_lt (s : ByteArray) (k : Nat) : AllLt 256 (accQ s k) := by
  intro b hb
  rcases List.mem_cons.1 hb with rfl | hb
  · omega
  · obtain ⟨c, hc, hcb⟩ := List.mem_flatMap.1 hb
    have := bsN_lt s c (List.mem_of_mem_take hc)
    exact escN_lt this b hcb
theorem accQ_all (s : ByteArray) : accQ s s.size ++ [34] = quoteN (bsN s) := by
  unfold accQ quoteN
  rw [List.take_of_length_le (by rw [bsN_len]; exact Nat.le_refl _)]
theorem strCells_mk {l : List Nat} (h : AllLt 256 l) : Lib.strCells (mkS l) = u8s l := by
  unfold Lib.strCells mkS u8s
  simp only [List.map_map]
  refine List.map_congr_left fun b hb => ?_
  have := h b hb
  simp [Nat.mod_eq_of_lt this]
theorem mkS_empty (l : List Nat) : (mkS l).toList.isEmpty = l.isEmpty := by
  rw [str_empty, mkS_size]
  cases l <;> simp

set_option maxRecDepth 100000 in
set_option maxHeartbeats 4000000 in
theorem sQuote_any (s : ByteArray) (w : World) (hs : s.size ≤ 1000000) :
    Calls Try.prog 160 #[.string s] w fun e w' => e = .returned (.string (mkS (quoteN (bsN s)))) ∧ Below w.heap.size w w' := by
  obtain ⟨i0, hi, hz0, hz1, hz2⟩ := info_parts Try.info_byte
  have hb0 : Below w.heap.size w (w.alloc (.cells #[.int .u8 34] 5)) := (Below.refl _ _).alloc (Nat.le_refl _) _
  have HB0 := Lib.hid hb0
  have HO0 : Hid ((w.alloc (.cells #[.int .u8 34] 5)).ownsRow w.heap.size 5 1 (.slice (some ⟨w.heap.size, 0, none⟩) 1 1) 1 (u8s (accQ s 0))) := Lib.hid (by rw [accQ_zero]; exact owns_built w 5 (.int .u8 34))
  have hal0 : (accQ s 0).length = 1 := by rw [accQ_zero]; rfl
  clear hb0
  go_enter Try.func160, Try.ntmps160
  go_wp2_with fail
  generalize (w.alloc (.cells #[.int .u8 34] 5)) = w1 at *
  go_loopg [9, 3] (s.size + 1) (fun gk i s3 wr => ∃ (k : Nat) (va : Option Addr) (vc n : Nat), k + gk = s.size + 1 ∧ k ≤ s.size ∧ i = .int .i64 k ∧ s3 = .slice va n vc ∧ Hid (n = (accQ s k).length) ∧ Hid (wr.ownsRow w.heap.size 5 1 (.slice va n vc) n (u8s (accQ s k))) ∧ Hid (Below w.heap.size w wr))
  case atStart => exact ⟨0, _, _, _, by omega, by omega, rfl, rfl, Lib.hid hal0.symm, HO0, HB0⟩
  case round =>
    obtain ⟨k, va, vc, n, hgk, hk, rfl, rfl, HNL, HO, HB⟩ := hrel
    have hg : gk = s.size + 1 - k := by omega
    subst hg
    have hln := accQ_len s k hk
    have hnl := HNL.out
    by_cases hks : k < s.size
    · have hk1 : (k : Int) < (s.size : Int) := by omega
      have d1 : decide ((k : Int) < (s.size : Int)) = true := decide_eq_true (by omega)
      have h256 : s[k].toNat < 256 := s[k].toNat_lt
      have HS := Lib.hid (word_any s[k].toNat h256)
      have HAS := Lib.hid (accQ_succ hks)
      have hwl := wordL_len s[k].toNat
      have HWL := Lib.hid (wordL_lt h256)
      generalize hcc : s[k].toNat = c at *
      have HES : Hid (escN c = if wordL c = [] then [c] else 92 :: wordL c) := Lib.hid rfl
      have hmz := mkS_size (wordL c)
      have hme := mkS_empty (wordL c)
      have HMC := Lib.hid (strCells_mk (l := wordL c) HWL.out)
      generalize hwc : wordL c = wl at *
      generalize hms : mkS wl = ms at *

      generalize accQ s k = acc at *
      subst hnl
      go_wp2_with fail
      refine (HS.out _).mono ?_
      rintro e w2 ⟨rfl, hb2⟩
      have HO2 := Lib.hid (ownsB HO.out hb2)
      have HB2 := Lib.hid (bthen HB.out (Nat.le_refl _) hb2)
      clear hb2
      cases hwe : wl.isEmpty with
      | true =>
        have hw0 : wl = [] := List.isEmpty_iff.1 hwe
        have HE : Hid (accQ s (k + 1) = acc ++ [c]) := Lib.hid (by rw [HAS.out, HES.out, if_pos hw0])
        rw [hwe] at hme
        clear hwe hw0
        go_wp2_with (at_builtin; go_must (refine wpList_push rfl _ _ 142 rfl w.heap.size 5 i0 (.int .u8 0) 1 1 Try.underlying142 hi hz0 hz1 hz2 rfl (by decide) _ _ _ rfl (World.ownsRow.alloc HO2.out _) ⟨w2.heap.size, 0, none⟩ 1 1 [_] rfl rfl (cell_one_new _ _ _) (by simp [Value.oneCell']) (by unfold maxLen; omega) (by omega) (by have := HB2.out.size; simp; omega) ?_; intro v' w3 hown' hgrow hfr; have HOP := Lib.hid (show w3.ownsRow w.heap.size 5 1 v' _ (u8s _ ++ [.int .u8 (c : Int)]) from hown'); have HBP := Lib.hid (below_push HB2.out (by have := HB2.out.size; omega) HO2.out (Nat.le_refl _) hgrow); clear hown' hgrow hfr))
        obtain ⟨va', vc', rfl⟩ := (RdS.of_owns HOP.out).form
        go_roundg (s.size + 1 - (k + 1))
        case measure => omega
        case rel => exact ⟨k + 1, va', vc', _, by omega, by omega, by go_num, rfl, Lib.hid (by rw [HE.out, List.length_append]; rfl), Lib.hid (by rw [HE.out, u8s_snocD]; exact HOP.out), HBP⟩
      | false =>
        have hw0 : ¬ wl = [] := fun h => by rw [h] at hwe; cases hwe
        have HE : Hid (accQ s (k + 1) = acc ++ 92 :: wl) := Lib.hid (by rw [HAS.out, HES.out, if_neg hw0])
        rw [hwe] at hme
        clear hwe hw0
        go_wp2_with first
          | (at_builtin; (refine wpList_push rfl (.tmp 18) (.tmp 19) 142 rfl w.heap.size 5 i0 (.int .u8 0) 1 1 Try.underlying142 hi hz0 hz1 hz2 rfl (by decide) _ _ _ rfl (World.ownsRow.alloc HO2.out _) ⟨w2.heap.size, 0, none⟩ 1 1 [_] rfl rfl (cell_one_new _ _ _) (by simp [Value.oneCell']) (by unfold maxLen; omega) (by omega) (by have := HB2.out.size; simp; omega) ?_; intro v' w3 hown' hgrow hfr; have HOP := Lib.hid (show w3.ownsRow w.heap.size 5 1 v' _ (u8s _ ++ [.int .u8 92]) from hown'); have HBP := Lib.hid (below_push HB2.out (by have := HB2.out.size; omega) HO2.out (Nat.le_refl _) hgrow); clear hown' hgrow hfr))
          | (at_builtin; refine Lib.wpList_append_own_string _ rfl (.tmp 20) (.tmp 21) 142 9 rfl w.heap.size 5 i0 Try.underlying142 Try.underlying9 hi hz0 hz1 hz2 _ _ _ rfl HOP.out ms rfl (by unfold maxLen; omega) (by omega) (by have := HBP.out.size; omega) ?_; intro v'' w4 hown' hgrow _; have HO4 := Lib.hid hown'; have HB4 := Lib.hid (HBP.out.grown hgrow (by have := HBP.out.size; omega) (fun j ej => (World.ownsRow.lt HOP.out j ej).1)); clear hown' hgrow)
        obtain ⟨va', vc', rfl⟩ := (RdS.of_owns HO4.out).form
        go_roundg (s.size + 1 - (k + 1))
        case measure => omega
        case rel => exact ⟨k + 1, va', vc', _, by omega, by omega, by go_num, rfl, Lib.hid (by rw [HE.out, List.length_append, List.length_cons, hmz]; omega), Lib.hid (by have h := HO4.out; rw [HMC.out] at h; rw [HE.out]; simpa [u8s] using h), HB4⟩
    · have hk1 : ¬ (k : Int) < (s.size : Int) := by omega
      have d1 : decide ((k : Int) < (s.size : Int)) = false := decide_eq_false (by omega)
      have hke : k = s.size := by omega
      subst hke
      have HQ := Lib.hid (accQ_all s)
      have HLT : Hid (AllLt 256 (accQ s s.size ++ [34])) := Lib.hid (fun b hb => by rcases List.mem_append.1 hb with h | h; exact accQ_lt s _ b h; simp at h; omega)
      generalize accQ s s.size = acc at *
      subst hnl
      go_wp2_with (at_builtin; go_must (refine wpList_push rfl _ _ 142 rfl w.heap.size 5 i0 (.int .u8 0) 1 1 Try.underlying142 hi hz0 hz1 hz2 rfl (by decide) _ _ _ rfl (World.ownsRow.alloc HO.out _) ⟨wr.heap.size, 0, none⟩ 1 1 [_] rfl rfl (cell_one_new _ _ _) (by simp [Value.oneCell']) (by unfold maxLen; omega) (by omega) (by have := HB.out.size; simp; omega) ?_; intro v' w3 hown' hgrow hfr; have HOP := Lib.hid (show w3.ownsRow w.heap.size 5 1 v' _ (u8s _ ++ [.int .u8 34]) from hown'); have HBP := Lib.hid (below_push HB.out (by have := HB.out.size; omega) HO.out (Nat.le_refl _) hgrow); clear hown' hgrow hfr))
      have hrd := RdS.of_owns HOP.out
      rw [show (u8s acc ++ [Value.int .u8 34]) = u8s (acc ++ [34]) from (u8s_snocD acc 34).symm] at hrd
      have HCV := Lib.hid (run_conv HLT.out (by simpa using hrd))
      clear hrd
      rw [HCV.out]
      simp only [Result.andThen]
      rw [Oper.upon_value]
      go_wp2
      go_ret
      rw [HQ.out]
      exact ⟨rfl, HBP.out⟩
set_option maxRecDepth 100000 in
theorem sPut_any (s : ByteArray) (w : World) (hs : s.size ≤ 1000000) :
    Calls Try.prog 110 #[.string s] w fun e w' => e = .returned (.string (putS s)) ∧ Below w.heap.size w w' := by
  cases hp : plainT s with
  | true =>
    unfold putS
    rw [hp]
    exact Put_plain s w hp (by omega)
  | false =>
    have HE : Hid (putS s = mkS (quoteN (bsN s))) := Lib.hid (by unfold putS; rw [hp]; rfl)
    go_enter Try.func110, Try.ntmps110
    go_wp2_with fail
    refine (sPlain_any s w (by omega)).mono ?_
    rintro e w1 ⟨rfl, rfl⟩
    rw [hp]
    go_wp2_with fail
    refine (sQuote_any s w1 hs).mono ?_
    rintro e w2 ⟨rfl, hb⟩
    rw [← HE.out]
    go_wp2_with fail
    go_ret
    exact ⟨rfl, hb⟩
end Go.Proofs.Ytbnggfhofdpdcaa

/-
  The reference's Quote, Put, Digits, Text: contracts.
-/
namespace Go.Proofs.Ytbnggfhofdpdcaa
open Go Go.RowKit Go.WideShapes

theorem extract_one {s : ByteArray} {k : Nat} (h : k < s.size) : s.extract k (k + 1) = mkS [s[k].toNat] := by
  refine bsN_ext ?_
  rw [bsN_mkS (by intro b hb; simp at hb; rw [hb]; exact s[k].toNat_lt)]
  unfold bsN
  have h' : k < s.data.size := h
  have e : (s.extract k (k + 1)).data.toList = [s.data[k]] := by
    rw [ByteArray.data_extract]
    apply List.ext_getElem
    · simp; omega
    · intro i h1 h2
      simp at h2
      subst h2
      simp
  rw [e]
  rfl
theorem accQ_size (s : ByteArray) (k : Nat) (h : k ≤ s.size) : (mkS (accQ s k)).size ≤ 1 + 4 * k := by rw [mkS_size]; exact accQ_len s k h

set_option maxRecDepth 100000 in
set_option maxHeartbeats 8000000 in
theorem rQuote_any (s : ByteArray) (w : World) (hs : s.size ≤ 1000000) :
    Calls Try.prog 162 #[.string s] w fun e w' => e = .returned (.string (mkS (quoteN (bsN s)))) ∧ Below w.heap.size w w' := by
  have h0 : ({ data := #[34] } : ByteArray) = mkS (accQ s 0) := by rw [accQ_zero]; rfl
  go_enter Try.func162, Try.ntmps162
  go_wp2_with fail
  go_loopg [4, 3] (s.size + 1) (fun gk i s3 wr => ∃ (k : Nat), k + gk = s.size + 1 ∧ k ≤ s.size ∧ i = .int .i64 k ∧ s3 = .string (mkS (accQ s k)) ∧ Hid (Below w.heap.size w wr))
  case atStart => exact ⟨0, by omega, by omega, rfl, by rw [h0], Lib.hid (Below.refl _ _)⟩
  case round =>
    obtain ⟨k, hgk, hk, rfl, rfl, HDW⟩ := hrel
    have hg : gk = s.size + 1 - k := by omega
    subst hg
    have hln := accQ_size s k hk
    by_cases hks : k < s.size
    · have hk1 : (k : Int) < (s.size : Int) := by omega
      have d1 : decide ((k : Int) < (s.size : Int)) = true := decide_eq_true (by omega)
      have h256 : s[k].toNat < 256 := s[k].toNat_lt
      have HAS := Lib.hid (accQ_succ hks)
      have HX1 := Lib.hid (extract_one hks)
      have hb1 : ¬ 9223372036854775807 < (mkS (accQ s k)).size + 1 := by omega
      have hb2 : ¬ 9223372036854775807 < (mkS (accQ s k)).size + 2 := by omega
      have hb3 : ¬ 9223372036854775807 < (mkS (accQ s k)).size + 3 := by omega
      have hb4 : ¬ 9223372036854775807 < (mkS (accQ s k)).size + 4 := by omega
      have hb5 : ¬ 9223372036854775807 < (mkS (accQ s k)).size + 2 + 1 := by omega
      have hb6 : ¬ 9223372036854775807 < (mkS (accQ s k)).size + 2 + 1 + 1 := by omega
      have HACC : Hid (∀ x, mkS (accQ s k) ++ mkS x = mkS (accQ s k ++ x)) := Lib.hid (fun x => mkS_append _ _)
      generalize hcc : s[k].toNat = c at *
      have HAS2 : Hid (accQ s (k + 1) = accQ s k ++ escN c) := HAS
      generalize hacc : accQ s k = acc at *
      by_cases h34 : c = 34
      · have e1 : ((c : Int) == 34) = true := by simp; omega
        have HE : Hid (mkS acc ++ { data := #[92, 34] } = mkS (accQ s (k + 1))) := Lib.hid (by rw [show ({ data := #[92, 34] } : ByteArray) = mkS [92, 34] from rfl, HACC.out, HAS.out, h34]; rfl)
        generalize mkS acc = r at *
        go_wp2_with fail
        go_roundg (s.size + 1 - (k + 1))
        case measure => omega
        case rel => exact ⟨k + 1, by omega, by omega, by go_num, by rw [HE.out], HDW⟩
      have e34 : ((c : Int) == 34) = false := by simp; omega
      by_cases h92 : c = 92
      · have e1 : ((c : Int) == 92) = true := by simp; omega
        have HE : Hid (mkS acc ++ { data := #[92, 92] } = mkS (accQ s (k + 1))) := Lib.hid (by rw [show ({ data := #[92, 92] } : ByteArray) = mkS [92, 92] from rfl, HACC.out, HAS.out, h92]; rfl)
        generalize mkS acc = r at *
        go_wp2_with fail
        go_roundg (s.size + 1 - (k + 1))
        case measure => omega
        case rel => exact ⟨k + 1, by omega, by omega, by go_num, by rw [HE.out], HDW⟩
      have e92 : ((c : Int) == 92) = false := by simp; omega
      by_cases h10 : c = 10
      · have e1 : ((c : Int) == 10) = true := by simp; omega
        have HE : Hid (mkS acc ++ { data := #[92, 110] } = mkS (accQ s (k + 1))) := Lib.hid (by rw [show ({ data := #[92, 110] } : ByteArray) = mkS [92, 110] from rfl, HACC.out, HAS.out, h10]; rfl)
        generalize mkS acc = r at *
        go_wp2_with fail
        go_roundg (s.size + 1 - (k + 1))
        case measure => omega
        case rel => exact ⟨k + 1, by omega, by omega, by go_num, by rw [HE.out], HDW⟩
      have e10 : ((c : Int) == 10) = false := by simp; omega
      by_cases h9 : c = 9
      · have e1 : ((c : Int) == 9) = true := by simp; omega
        have HE : Hid (mkS acc ++ { data := #[92, 116] } = mkS (accQ s (k + 1))) := Lib.hid (by rw [show ({ data := #[92, 116] } : ByteArray) = mkS [92, 116] from rfl, HACC.out, HAS.out, h9]; rfl)
        generalize mkS acc = r at *
        go_wp2_with fail
        go_roundg (s.size + 1 - (k + 1))
        case measure => omega
        case rel => exact ⟨k + 1, by omega, by omega, by go_num, by rw [HE.out], HDW⟩
      have e9 : ((c : Int) == 9) = false := by simp; omega
      by_cases hlo : c < 32 ∨ c = 127
      · have HW : Hid (wordL c = [120, hexN (c / 16), hexN (c % 16)]) := Lib.hid (by unfold wordL; rw [if_neg (by omega), if_neg h10, if_neg h9, if_pos hlo])
        have HES : Hid (escN c = [92, 120, hexN (c / 16), hexN (c % 16)]) := Lib.hid (by unfold escN; rw [HW.out, if_neg (by simp)])
        have hcq : (c : Int) / 16 = ((c / 16 : Nat) : Int) := by omega
        have hct : (c : Int).tmod 16 = ((c % 16 : Nat) : Int) := by rw [Int.tmod_eq_emod_of_nonneg (by omega)]; omega
        have hq16 : c / 16 < 16 := by omega
        have hr16 : c % 16 < 16 := by omega
        have HQX := Lib.hid (hex_sub (c / 16) hq16)
        have HRX := Lib.hid (hex_sub (c % 16) hr16)
        generalize c / 16 = q at *
        generalize c % 16 = r at *
        have hw1 : IntKind.u8.wrap (q : Int) = (q : Int) := by rw [IntKind.wrap_u8]; omega
        have hw2 : IntKind.u8.wrap ((q : Int) + 1) = (q : Int) + 1 := by rw [IntKind.wrap_u8]; omega
        have hw3 : IntKind.u8.wrap (r : Int) = (r : Int) := by rw [IntKind.wrap_u8]; omega
        have hw4 : IntKind.u8.wrap ((r : Int) + 1) = (r : Int) + 1 := by rw [IntKind.wrap_u8]; omega
        have hl1 : (q : Int) + 1 ≤ 16 := by omega
        have hl2 : (q : Int) ≤ (q : Int) + 1 := by omega
        have hl3 : (r : Int) + 1 ≤ 16 := by omega
        have hl4 : (r : Int) ≤ (r : Int) + 1 := by omega
        have ht1 : ((q : Int) + 1).toNat = q + 1 := by omega
        have ht2 : ((r : Int) + 1).toNat = r + 1 := by omega
        have hx1 := HQX.out
        have hx2 := HRX.out
        have HE : Hid (mkS acc ++ { data := #[92, 120] } ++ mkS [hexN q] ++ mkS [hexN r] = mkS (accQ s (k + 1))) := Lib.hid (by rw [show ({ data := #[92, 120] } : ByteArray) = mkS [92, 120] from rfl, HACC.out, mkS_append, mkS_append, HAS.out, HES.out]; simp)
        have hzq : (mkS [hexN q]).size = 1 := rfl
        have hzr : (mkS [hexN r]).size = 1 := rfl
        generalize mkS [hexN q] = qs at *
        generalize mkS [hexN r] = rs at *
        generalize mkS acc = ra at *
        go_upto_region 15 with fail
        go_cut [43] (fun s43 wx => s43 = .bool true ∧ wx = wr)
        case first =>
          by_cases h32 : c < 32
          · have d2 : decide ((c : Int) < 32) = true := decide_eq_true (by omega)
            go_wp2_with fail
            go_meet
            exact ⟨rfl, rfl⟩
          · have d2 : decide ((c : Int) < 32) = false := decide_eq_false (by omega)
            have e7 : ((c : Int) == 127) = true := by simp; omega
            go_wp2_with fail
            go_meet
            exact ⟨rfl, rfl⟩
        case rest =>
        obtain ⟨rfl, rfl⟩ := hcut
        go_upto_region 17 with fail
        refine E_region (S := (fun _ => True)) 18 (by kernel_rfl) trivial (fun _ _ _ _ _ h => h) (fun Q' hQ hK' hHeld => ?_)
        refine E_take0 hQ (fun _ => hHeld) 0 (v := ?hv1) rfl rfl (by kernel_rfl) (by kernel_rfl) (by kernel_rfl) (by decide) (by rfl) ?hy1 ?hr1
        case hy1 => (intro w; go_simp; (try with_reducible rfl))
        (try simp only [Act.put, List.setIfInBounds_toArray, List.set_cons_zero, List.set_cons_succ])
        refine E_take0 hQ (fun _ => hHeld) 1 (v := ?hv2) rfl rfl (by kernel_rfl) (by kernel_rfl) (by kernel_rfl) (by decide) (by rfl) ?hy2 ?hr2
        case hy2 => (intro w; go_simp; (try with_reducible rfl))
        (try simp only [Act.put, List.setIfInBounds_toArray, List.set_cons_zero, List.set_cons_succ])
        refine E_take0 hQ (fun _ => hHeld) 2 (v := ?hv3) rfl rfl (by kernel_rfl) (by kernel_rfl) (by kernel_rfl) (by decide) (by rfl) ?hy3 ?hr3
        case hy3 => (intro w; go_simp; (try with_reducible rfl))
        (try simp only [Act.put, List.setIfInBounds_toArray, List.set_cons_zero, List.set_cons_succ])
        refine E_take0 hQ (fun _ => hHeld) 3 (v := ?hv4) rfl rfl (by kernel_rfl) (by kernel_rfl) (by kernel_rfl) (by decide) (by rfl) ?hy4 ?hr4
        case hy4 => (intro w; go_simp; (try with_reducible rfl))
        (try simp only [Act.put, List.setIfInBounds_toArray, List.set_cons_zero, List.set_cons_succ])
        refine E_take0 hQ (fun _ => hHeld) 4 (v := ?hv5) rfl rfl (by kernel_rfl) (by kernel_rfl) (by kernel_rfl) (by decide) (by rfl) ?hy5 ?hr5
        case hy5 => (intro w; go_simp; (try with_reducible rfl))
        (try simp only [Act.put, List.setIfInBounds_toArray, List.set_cons_zero, List.set_cons_succ])
        refine E_take0 hQ (fun _ => hHeld) 5 (v := ?hv6) rfl rfl (by kernel_rfl) (by kernel_rfl) (by kernel_rfl) (by decide) (by rfl) ?hy6 ?hr6
        case hy6 => (intro w; go_simp; (try with_reducible rfl))
        (try simp only [Act.put, List.setIfInBounds_toArray, List.set_cons_zero, List.set_cons_succ])
        refine E_take0 hQ (fun _ => hHeld) 6 (v := ?hv7) rfl rfl (by kernel_rfl) (by kernel_rfl) (by kernel_rfl) (by decide) (by rfl) ?hy7 ?hr7
        case hy7 => (intro w; go_simp; (try with_reducible rfl))
        (try simp only [Act.put, List.setIfInBounds_toArray, List.set_cons_zero, List.set_cons_succ])
        refine E_take0 hQ (fun _ => hHeld) 7 (v := ?hv8) rfl rfl (by kernel_rfl) (by kernel_rfl) (by kernel_rfl) (by decide) (by rfl) ?hy8 ?hr8
        case hy8 => (intro w; go_simp; (try with_reducible rfl))
        (try simp only [Act.put, List.setIfInBounds_toArray, List.set_cons_zero, List.set_cons_succ])
        refine E_take0 hQ (fun _ => hHeld) 8 (v := ?hv9) rfl rfl (by kernel_rfl) (by kernel_rfl) (by kernel_rfl) (by decide) (by rfl) ?hy9 ?hr9
        case hy9 => (intro w; go_simp; (try with_reducible rfl))
        (try simp only [Act.put, List.setIfInBounds_toArray, List.set_cons_zero, List.set_cons_succ])
        refine E_take0 hQ (fun _ => hHeld) 9 (v := ?hv10) rfl rfl (by kernel_rfl) (by kernel_rfl) (by kernel_rfl) (by decide) (by rfl) ?hy10 ?hr10
        case hy10 => (intro w; go_simp; (try with_reducible rfl))
        (try simp only [Act.put, List.setIfInBounds_toArray, List.set_cons_zero, List.set_cons_succ])
        refine E_take0 hQ (fun _ => hHeld) 10 (v := ?hv11) rfl rfl (by kernel_rfl) (by kernel_rfl) (by kernel_rfl) (by decide) (by rfl) ?hy11 ?hr11
        case hy11 => (intro w; go_simp; (try with_reducible rfl))
        (try simp only [Act.put, List.setIfInBounds_toArray, List.set_cons_zero, List.set_cons_succ])
        refine E_take0 hQ (fun _ => hHeld) 11 (v := ?hv12) rfl rfl (by kernel_rfl) (by kernel_rfl) (by kernel_rfl) (by decide) (by rfl) ?hy12 ?hr12
        case hy12 => (intro w; go_simp; (try with_reducible rfl))
        (try simp only [Act.put, List.setIfInBounds_toArray, List.set_cons_zero, List.set_cons_succ])
        refine E_take0 hQ (fun _ => hHeld) 12 (v := ?hv13) rfl rfl (by kernel_rfl) (by kernel_rfl) (by kernel_rfl) (by decide) (by rfl) ?hy13 ?hr13
        case hy13 => (intro w; go_simp; (try with_reducible rfl))
        (try simp only [Act.put, List.setIfInBounds_toArray, List.set_cons_zero, List.set_cons_succ])
        refine E_take0 hQ (fun _ => hHeld) 13 (v := ?hv14) rfl rfl (by kernel_rfl) (by kernel_rfl) (by kernel_rfl) (by decide) (by rfl) ?hy14 ?hr14
        case hy14 => (intro w; go_simp; (try with_reducible rfl))
        (try simp only [Act.put, List.setIfInBounds_toArray, List.set_cons_zero, List.set_cons_succ])
        refine E_take0 hQ (fun _ => hHeld) 14 (v := ?hv15) rfl rfl (by kernel_rfl) (by kernel_rfl) (by kernel_rfl) (by decide) (by rfl) ?hy15 ?hr15
        case hy15 => (intro w; go_simp; (try with_reducible rfl))
        (try simp only [Act.put, List.setIfInBounds_toArray, List.set_cons_zero, List.set_cons_succ])
        refine E_take0 hQ (fun _ => hHeld) 15 (v := ?hv16) rfl rfl (by kernel_rfl) (by kernel_rfl) (by kernel_rfl) (by decide) (by rfl) ?hy16 ?hr16
        case hy16 => (intro w; go_simp; (try with_reducible rfl))
        (try simp only [Act.put, List.setIfInBounds_toArray, List.set_cons_zero, List.set_cons_succ])
        refine E_take0 hQ (fun _ => hHeld) 16 (v := ?hv17) rfl rfl (by kernel_rfl) (by kernel_rfl) (by kernel_rfl) (by decide) (by rfl) ?hy17 ?hr17
        case hy17 => (intro w; go_simp; (try with_reducible rfl))
        (try simp only [Act.put, List.setIfInBounds_toArray, List.set_cons_zero, List.set_cons_succ])
        refine E_take0 hQ (fun _ => hHeld) 17 (v := ?hv18) rfl rfl (by kernel_rfl) (by kernel_rfl) (by kernel_rfl) (by decide) (by rfl) ?hy18 ?hr18
        case hy18 => (intro w; go_simp; (try with_reducible rfl))
        (try simp only [Act.put, List.setIfInBounds_toArray, List.set_cons_zero, List.set_cons_succ])
        refine E_one 18 (by kernel_rfl) rfl (by rfl) (fun K hK => ?_)
        go_simp
        (try simp only [Act.put, List.setIfInBounds_toArray, List.set_cons_zero, List.set_cons_succ])
        refine hK.out _ _ (fun _ h => absurd rfl h) (fun _ => ?_)
        clear hK hHeld
        (try simp only [Act.put, List.setIfInBounds_toArray, List.set_cons_zero, List.set_cons_succ])
        refine E_done (by kernel_rfl) ?_ _
        refine hK'.out _ _ ?_
        have HD2 := Lib.hid (HDW.out.drew)
        clear hK' hQ
        go_wp2_with fail
        go_roundg (s.size + 1 - (k + 1))
        case measure => omega
        case rel => exact ⟨k + 1, by omega, by omega, by go_num, by rw [← HE.out], HD2⟩
      · have HES : Hid (escN c = [c]) := Lib.hid (by
          have : wordL c = [] := by unfold wordL; rw [if_neg (by omega), if_neg h10, if_neg h9, if_neg hlo]
          unfold escN; rw [if_pos this])
        have d2 : decide ((c : Int) < 32) = false := decide_eq_false (by omega)
        have e7 : ((c : Int) == 127) = false := by simp; omega
        have hwk : IntKind.i64.wrap ((k : Int) + 1) = (k : Int) + 1 := IntWalk.i64_in _ (by omega)
        have hk3 : (k : Int) + 1 ≤ (s.size : Int) := by omega
        have hk4 : (k : Int) ≤ (k : Int) + 1 := by omega
        have ht1 : ((k : Int) + 1).toNat = k + 1 := by omega
        have hx1 := HX1.out
        have HE : Hid (mkS acc ++ mkS [c] = mkS (accQ s (k + 1))) := Lib.hid (by rw [HACC.out, HAS.out, HES.out])
        have hzc : (mkS [c]).size = 1 := rfl
        generalize mkS [c] = cs at *
        generalize mkS acc = ra at *
        go_wp2_with fail
        go_roundg (s.size + 1 - (k + 1))
        case measure => omega
        case rel => exact ⟨k + 1, by omega, by omega, by go_num, by rw [HE.out], HDW⟩
    · have hk1 : ¬ (k : Int) < (s.size : Int) := by omega
      have d1 : decide ((k : Int) < (s.size : Int)) = false := decide_eq_false (by omega)
      have hke : k = s.size := by omega
      subst hke
      have hb1 : ¬ 9223372036854775807 < (mkS (accQ s s.size)).size + 1 := by omega
      have HE : Hid (mkS (accQ s s.size) ++ { data := #[34] } = mkS (quoteN (bsN s))) := Lib.hid (by rw [show ({ data := #[34] } : ByteArray) = mkS [34] from rfl, mkS_append, accQ_all])
      clear h0
      generalize mkS (accQ s s.size) = ra at *
      go_wp2_with fail
      go_ret
      rw [← HE.out]
      exact ⟨rfl, HDW.out⟩
end Go.Proofs.Ytbnggfhofdpdcaa
