/-
  scalar.word: contract (Qk for a door seat).
-/
import Derived.Deep.DeepCutAuto
import Derived.Test.YtdhgcgejdoedbaaGreatDoorBw7
import Derived.Test.YtdhgcgejdoedbaaGreatDoorBw12
import Derived.Test.YtdhgcgejdoedbaaGreatDoorBw19
import Derived.Test.YtdhgcgejdoedbaaGreatDoorBw25
namespace Go.Proofs.YtdhgcgejdoedbaaGreatDoor
open Go Go.RowKit Go.WideShapes

def hexN (n : Nat) : Nat := if n < 10 then 48 + n else 87 + n
def wordL (c : Nat) : List Nat := if c = 34 ∨ c = 92 then [c] else if c = 10 then [110] else if c = 9 then [116] else if c < 32 ∨ c = 127 then [120, hexN (c / 16), hexN (c % 16)] else []
theorem hex_sub : ∀ n : Nat, n < 16 → (⟨#[48, 49, 50, 51, 52, 53, 54, 55, 56, 57, 97, 98, 99, 100, 101, 102]⟩ : ByteArray).extract n (n + 1) = mkS [hexN n] := by decide +kernel
set_option maxRecDepth 100000 in
set_option maxHeartbeats 4000000 in
theorem word_any (c : Nat) (hc : c < 256) (w : World) :
    Calls Tryz.prog 76 #[.int .u8 (c : Int)] w fun e w' => e = .returned (.string (mkS (wordL c))) ∧ Below w.heap.size w w' := by
  by_cases h34 : c = 34
  · subst h34
    go_enter Tryz.func76, Tryz.ntmps76
    go_wp2_with fail
    go_ret
    exact ⟨rfl, Below.refl _ _⟩
  have e34 : ((c : Int) == 34) = false := by simp; omega
  by_cases h92 : c = 92
  · subst h92
    go_enter Tryz.func76, Tryz.ntmps76
    go_wp2_with fail
    go_ret
    exact ⟨rfl, Below.refl _ _⟩
  have e92 : ((c : Int) == 92) = false := by simp; omega
  by_cases h10 : c = 10
  · subst h10
    go_enter Tryz.func76, Tryz.ntmps76
    go_wp2_with fail
    go_ret
    exact ⟨rfl, Below.refl _ _⟩
  have e10 : ((c : Int) == 10) = false := by simp; omega
  by_cases h9 : c = 9
  · subst h9
    go_enter Tryz.func76, Tryz.ntmps76
    go_wp2_with fail
    go_ret
    exact ⟨rfl, Below.refl _ _⟩
  have e9 : ((c : Int) == 9) = false := by simp; omega
  by_cases hlo : c < 32 ∨ c = 127
  · have HW : Hid (wordL c = [120, hexN (c / 16), hexN (c % 16)]) := Lib.hid (by unfold wordL; rw [if_neg (by omega), if_neg h10, if_neg h9, if_pos hlo])
    have hcq : (c : Int) / 16 = ((c / 16 : Nat) : Int) := by omega
    have hcr : (c : Int) % 16 = ((c % 16 : Nat) : Int) := by omega
    have hct : (c : Int).tmod 16 = ((c % 16 : Nat) : Int) := by rw [Int.tmod_eq_emod_of_nonneg (by omega)]; omega
    have hq16 : c / 16 < 16 := by omega
    have hr16 : c % 16 < 16 := by omega
    have HQX := Lib.hid (hex_sub (c / 16) hq16)
    have HRX := Lib.hid (hex_sub (c % 16) hr16)
    generalize c / 16 = q at *
    generalize c % 16 = r at *
    have hw1 : IntKind.u8.wrap (q : Int) = (q : Int) := by rw [IntKind.wrap_u8]; omega
    have hw2 : IntKind.u8.wrap ((q : Int) + 1) = (q : Int) + 1 := by rw [IntKind.wrap_u8]; omega
    have hw3 : IntKind.u8.wrap (r : Int) = (r : Int) := by rw [IntKind.wrap_u8]; omega
    have hw4 : IntKind.u8.wrap ((r : Int) + 1) = (r : Int) + 1 := by rw [IntKind.wrap_u8]; omega
    have hl1 : (q : Int) + 1 ≤ 16 := by omega
    have hl2 : (q : Int) ≤ (q : Int) + 1 := by omega
    have hl3 : (r : Int) + 1 ≤ 16 := by omega
    have hl4 : (r : Int) ≤ (r : Int) + 1 := by omega
    have ht1 : ((q : Int) + 1).toNat = q + 1 := by omega
    have ht2 : ((r : Int) + 1).toNat = r + 1 := by omega
    have hx1 := HQX.out
    have hx2 := HRX.out
    have HH : Hid (({ data := #[120] } : ByteArray) ++ mkS [hexN q] ++ mkS [hexN r] = mkS [120, hexN q, hexN r]) := Lib.hid (by rw [show ({ data := #[120] } : ByteArray) = mkS [120] from rfl, mkS_append, mkS_append]; rfl)
    have hzq : (mkS [hexN q]).size = 1 := rfl
    have hzr : (mkS [hexN r]).size = 1 := rfl
    generalize mkS [hexN q] = qs at *
    generalize mkS [hexN r] = rs at *
    go_enter Tryz.func76, Tryz.ntmps76
    go_upto_region 9 with fail
    go_cut [19] (fun s wx => s = .bool true ∧ wx = w)
    case first =>
      by_cases h32 : c < 32
      · have d1 : decide ((c : Int) < 32) = true := decide_eq_true (by omega)
        go_wp2_with fail
        go_meet
        exact ⟨rfl, rfl⟩
      · have d1 : decide ((c : Int) < 32) = false := decide_eq_false (by omega)
        have e7 : ((c : Int) == 127) = true := by simp; omega
        go_wp2_with fail
        go_meet
        exact ⟨rfl, rfl⟩
    case rest =>
    obtain ⟨rfl, rfl⟩ := hcut
    go_upto_region 10 with fail
    refine E_region (S := (fun _ => True)) 14 (by kernel_rfl) trivial (fun _ _ _ _ _ h => h) (fun Q' hQ hK' hHeld => ?_)
    refine E_take0 hQ (fun _ => hHeld) 0 (v := ?hv1) rfl rfl (by kernel_rfl) (by kernel_rfl) (by kernel_rfl) (by decide) (by rfl) ?hy1 ?hr1
    case hy1 => (intro w; go_simp; (try with_reducible rfl))
    (try simp only [layE])
    refine E_take0 hQ (fun _ => hHeld) 1 (v := ?hv2) rfl rfl (by kernel_rfl) (by kernel_rfl) (by kernel_rfl) (by decide) (by rfl) ?hy2 ?hr2
    case hy2 => (intro w; go_simp; (try with_reducible rfl))
    (try simp only [layE])
    refine E_take0 hQ (fun _ => hHeld) 2 (v := ?hv3) rfl rfl (by kernel_rfl) (by kernel_rfl) (by kernel_rfl) (by decide) (by rfl) ?hy3 ?hr3
    case hy3 => (intro w; go_simp; (try with_reducible rfl))
    (try simp only [layE])
    refine E_take0 hQ (fun _ => hHeld) 3 (v := ?hv4) rfl rfl (by kernel_rfl) (by kernel_rfl) (by kernel_rfl) (by decide) (by rfl) ?hy4 ?hr4
    case hy4 => (intro w; go_simp; (try with_reducible rfl))
    (try simp only [layE])
    refine E_take0 hQ (fun _ => hHeld) 4 (v := ?hv5) rfl rfl (by kernel_rfl) (by kernel_rfl) (by kernel_rfl) (by decide) (by rfl) ?hy5 ?hr5
    case hy5 => (intro w; go_simp; (try with_reducible rfl))
    (try simp only [layE])
    refine E_take0 hQ (fun _ => hHeld) 5 (v := ?hv6) rfl rfl (by kernel_rfl) (by kernel_rfl) (by kernel_rfl) (by decide) (by rfl) ?hy6 ?hr6
    case hy6 => (intro w; go_simp; (try with_reducible rfl))
    (try simp only [layE])
    refine E_take0 hQ (fun _ => hHeld) 6 (v := ?hv7) rfl rfl (by kernel_rfl) (by kernel_rfl) (by kernel_rfl) (by decide) (by rfl) ?hy7 ?hr7
    case hy7 => (intro w; go_simp; (try with_reducible rfl))
    (try simp only [layE])
    refine E_take0 hQ (fun _ => hHeld) 7 (v := ?hv8) rfl rfl (by kernel_rfl) (by kernel_rfl) (by kernel_rfl) (by decide) (by rfl) ?hy8 ?hr8
    case hy8 => (intro w; go_simp; (try with_reducible rfl))
    (try simp only [layE])
    refine E_take0 hQ (fun _ => hHeld) 8 (v := ?hv9) rfl rfl (by kernel_rfl) (by kernel_rfl) (by kernel_rfl) (by decide) (by rfl) ?hy9 ?hr9
    case hy9 => (intro w; go_simp; (try with_reducible rfl))
    (try simp only [layE])
    refine E_take0 hQ (fun _ => hHeld) 9 (v := ?hv10) rfl rfl (by kernel_rfl) (by kernel_rfl) (by kernel_rfl) (by decide) (by rfl) ?hy10 ?hr10
    case hy10 => (intro w; go_simp; (try with_reducible rfl))
    (try simp only [layE])
    refine E_take0 hQ (fun _ => hHeld) 10 (v := ?hv11) rfl rfl (by kernel_rfl) (by kernel_rfl) (by kernel_rfl) (by decide) (by rfl) ?hy11 ?hr11
    case hy11 => (intro w; go_simp; (try with_reducible rfl))
    (try simp only [layE])
    refine E_take0 hQ (fun _ => hHeld) 11 (v := ?hv12) rfl rfl (by kernel_rfl) (by kernel_rfl) (by kernel_rfl) (by decide) (by rfl) ?hy12 ?hr12
    case hy12 => (intro w; go_simp; (try with_reducible rfl))
    (try simp only [layE])
    refine E_take0 hQ (fun _ => hHeld) 12 (v := ?hv13) rfl rfl (by kernel_rfl) (by kernel_rfl) (by kernel_rfl) (by decide) (by rfl) ?hy13 ?hr13
    case hy13 => (intro w; go_simp; (try with_reducible rfl))
    (try simp only [layE])
    refine E_take0 hQ (fun _ => hHeld) 13 (v := ?hv14) rfl rfl (by kernel_rfl) (by kernel_rfl) (by kernel_rfl) (by decide) (by rfl) ?hy14 ?hr14
    case hy14 => (intro w; go_simp; (try with_reducible rfl))
    (try simp only [layE])
    refine E_one 14 (by kernel_rfl) rfl (by rfl) (fun K hK => ?_)
    go_simp
    (try simp only [layE])
    refine hK.out _ _ (fun _ h => absurd rfl h) (fun _ => ?_)
    clear hK hHeld
    (try simp only [layE])
    refine E_done (by kernel_rfl) ?_ _
    refine hK'.out _ _ ?_
    go_wp2_with fail
    go_ret
    rw [HW.out, ← HH.out]
    exact ⟨rfl, (Below.refl _ _).drew⟩
  · have HW : Hid (wordL c = []) := Lib.hid (by unfold wordL; rw [if_neg (by omega), if_neg h10, if_neg h9, if_neg hlo])
    have d1 : decide ((c : Int) < 32) = false := decide_eq_false (by omega)
    have e7 : ((c : Int) == 127) = false := by simp; omega
    go_enter Tryz.func76, Tryz.ntmps76
    go_wp2_with fail
    go_ret
    rw [HW.out]
    exact ⟨rfl, Below.refl _ _⟩
end Go.Proofs.YtdhgcgejdoedbaaGreatDoor

/-
  scalar.Quote, Put: contracts (Qm for a door seat).
-/
namespace Go.Proofs.YtdhgcgejdoedbaaGreatDoor
open Go Go.RowKit Go.WideShapes

def escN (c : Nat) : List Nat := if wordL c = [] then [c] else 92 :: wordL c
def quoteN (l : List Nat) : List Nat := 34 :: l.flatMap escN ++ [34]
def putS (s : ByteArray) : ByteArray := if plainT s then s else mkS (quoteN (bsN s))
theorem wordL_len (c : Nat) : (wordL c).length ≤ 3 := by
  unfold wordL
  split
  · exact Nat.le_succ_of_le (Nat.le_succ_of_le (Nat.le_refl _))
  · split
    · exact Nat.le_succ_of_le (Nat.le_succ_of_le (Nat.le_refl _))
    · split
      · exact Nat.le_succ_of_le (Nat.le_succ_of_le (Nat.le_refl _))
      · split
        · exact Nat.le_refl _
        · exact Nat.zero_le _
theorem escN_len (c : Nat) : (escN c).length ≤ 4 := by
  have := wordL_len c
  unfold escN
  split
  · simp
  · simp; omega
theorem hexN_lt {n : Nat} (h : n < 16) : hexN n < 256 := by unfold hexN; split <;> omega
theorem wordL_lt {c : Nat} (hc : c < 256) : ∀ b ∈ wordL c, b < 256 := by
  unfold wordL
  intro b hb
  split at hb
  · simp at hb; omega
  · split at hb
    · simp at hb; omega
    · split at hb
      · simp at hb; omega
      · split at hb
        · have h1 := hexN_lt (show c / 16 < 16 by omega)
          have h2 := hexN_lt (show c % 16 < 16 by omega)
          simp at hb
          rcases hb with rfl | rfl | rfl
          · omega
          · exact h1
          · exact h2
        · cases hb
theorem escN_lt {c : Nat} (hc : c < 256) : ∀ b ∈ escN c, b < 256 := by
  have h := wordL_lt hc
  unfold escN
  intro b hb
  split at hb
  · simp at hb; omega
  · rcases List.mem_cons.1 hb with rfl | hb
    · omega
    · exact h b hb
def accQ (s : ByteArray) (k : Nat) : List Nat := 34 :: ((bsN s).take k).flatMap escN
theorem accQ_zero (s : ByteArray) : accQ s 0 = [34] := by simp [accQ]
theorem accQ_succ {s : ByteArray} {k : Nat} (h : k < s.size) : accQ s (k + 1) = accQ s k ++ escN s[k].toNat := by
  have h' : k < (bsN s).length := by rw [bsN_len]; exact h
  unfold accQ
  rw [List.take_add_one, List.getElem?_eq_getElem h', bsN_at h]
  simp
theorem accQ_len (s : ByteArray) : ∀ k : Nat, k ≤ s.size → (accQ s k).length ≤ 1 + 4 * k
  | 0, _ => by simp [accQ]
  | k + 1, h => by
    have ih := accQ_len s k (by omega)
    rw [accQ_succ (by omega), List.length_append]
    have := escN_len (s[k]'(by omega)).toNat
    omega
theorem accQ_lt (s : ByteArray) (k : Nat) : AllLt 256 (accQ s k) := by
  intro b hb
  rcases List.mem_cons.1 hb with rfl | hb
  · omega
  · obtain ⟨c, hc, hcb⟩ := List.mem_flatMap.1 hb
    have := bsN_lt s c (List.mem_of_mem_take hc)
    exact escN_lt this b hcb
theorem accQ_all (s : ByteArray) : accQ s s.size ++ [34] = quoteN (bsN s) := by
  unfold accQ quoteN
  rw [List.take_of_length_le (by rw [bsN_len]; exact Nat.le_refl _)]
theorem strCells_mk {l : List Nat} (h : AllLt 256 l) : Lib.strCells (mkS l) = u8s l := by
  unfold Lib.strCells mkS u8s
  simp only [List.map_map]
  refine List.map_congr_left fun b hb => ?_
  have := h b hb
  simp [Nat.mod_eq_of_lt this]
theorem mkS_empty (l : List Nat) : (mkS l).toList.isEmpty = l.isEmpty := by
  rw [str_empty, mkS_size]
  cases l <;> simp

set_option maxRecDepth 100000 in
set_option maxHeartbeats 4000000 in
theorem sQuote_any (s : ByteArray) (w : World) (hs : s.size ≤ 1000000) :
    Calls Tryz.prog 54 #[.string s] w fun e w' => e = .returned (.string (mkS (quoteN (bsN s)))) ∧ Below w.heap.size w w' := by
  obtain ⟨i0, hi, hz0, hz1, hz2⟩ := info_parts Tryz.info_byte
  have hb0 : Below w.heap.size w (w.alloc (.cells #[.int .u8 34] 5)) := (Below.refl _ _).alloc (Nat.le_refl _) _
  have HB0 := Lib.hid hb0
  have HO0 : Hid ((w.alloc (.cells #[.int .u8 34] 5)).ownsRow w.heap.size 5 1 (.slice (some ⟨w.heap.size, 0, none⟩) 1 1) 1 (u8s (accQ s 0))) := Lib.hid (by rw [accQ_zero]; exact owns_built w 5 (.int .u8 34))
  have hal0 : (accQ s 0).length = 1 := by rw [accQ_zero]; rfl
  clear hb0
  go_enter Tryz.func54, Tryz.ntmps54
  go_wp2_with fail
  generalize (w.alloc (.cells #[.int .u8 34] 5)) = w1 at *
  go_loopg [9, 3] (s.size + 1) (fun gk i s3 wr => ∃ (k : Nat) (va : Option Addr) (vc n : Nat), k + gk = s.size + 1 ∧ k ≤ s.size ∧ i = .int .i64 k ∧ s3 = .slice va n vc ∧ Hid (n = (accQ s k).length) ∧ Hid (wr.ownsRow w.heap.size 5 1 (.slice va n vc) n (u8s (accQ s k))) ∧ Hid (Below w.heap.size w wr))
  case atStart => exact ⟨0, _, _, _, by omega, by omega, rfl, rfl, Lib.hid hal0.symm, HO0, HB0⟩
  case round =>
    obtain ⟨k, va, vc, n, hgk, hk, rfl, rfl, HNL, HO, HB⟩ := hrel
    have hg : gk = s.size + 1 - k := by omega
    subst hg
    have hln := accQ_len s k hk
    have hnl := HNL.out
    by_cases hks : k < s.size
    · have hk1 : (k : Int) < (s.size : Int) := by omega
      have d1 : decide ((k : Int) < (s.size : Int)) = true := decide_eq_true (by omega)
      have h256 : s[k].toNat < 256 := s[k].toNat_lt
      have HS := Lib.hid (word_any s[k].toNat h256)
      have HAS := Lib.hid (accQ_succ hks)
      have hwl := wordL_len s[k].toNat
      have HWL := Lib.hid (wordL_lt h256)
      generalize hcc : s[k].toNat = c at *
      have HES : Hid (escN c = if wordL c = [] then [c] else 92 :: wordL c) := Lib.hid rfl
      have hmz := mkS_size (wordL c)
      have hme := mkS_empty (wordL c)
      have HMC := Lib.hid (strCells_mk (l := wordL c) HWL.out)
      generalize hwc : wordL c = wl at *
      generalize hms : mkS wl = ms at *

      generalize accQ s k = acc at *
      subst hnl
      go_wp2_with fail
      refine (HS.out _).mono ?_
      rintro e w2 ⟨rfl, hb2⟩
      have HO2 := Lib.hid (ownsB HO.out hb2)
      have HB2 := Lib.hid (bthen HB.out (Nat.le_refl _) hb2)
      clear hb2
      cases hwe : wl.isEmpty with
      | true =>
        have hw0 : wl = [] := List.isEmpty_iff.1 hwe
        have HE : Hid (accQ s (k + 1) = acc ++ [c]) := Lib.hid (by rw [HAS.out, HES.out, if_pos hw0])
        rw [hwe] at hme
        clear hwe hw0
        go_wp2_with (at_builtin; go_must (refine wpList_push rfl _ _ 42 rfl w.heap.size 5 i0 (.int .u8 0) 1 1 Tryz.underlying42 hi hz0 hz1 hz2 rfl (by decide) _ _ _ rfl (World.ownsRow.alloc HO2.out _) ⟨w2.heap.size, 0, none⟩ 1 1 [_] rfl rfl (cell_one_new _ _ _) (by simp [Value.oneCell']) (by unfold maxLen; omega) (by omega) (by have := HB2.out.size; simp; omega) ?_; intro v' w3 hown' hgrow hfr; have HOP := Lib.hid (show w3.ownsRow w.heap.size 5 1 v' _ (u8s _ ++ [.int .u8 (c : Int)]) from hown'); have HBP := Lib.hid (below_push HB2.out (by have := HB2.out.size; omega) HO2.out (Nat.le_refl _) hgrow); clear hown' hgrow hfr))
        obtain ⟨va', vc', rfl⟩ := (RdS.of_owns HOP.out).form
        go_roundg (s.size + 1 - (k + 1))
        case measure => omega
        case rel => exact ⟨k + 1, va', vc', _, by omega, by omega, by go_num, rfl, Lib.hid (by rw [HE.out, List.length_append]; rfl), Lib.hid (by rw [HE.out, u8s_snocD]; exact HOP.out), HBP⟩
      | false =>
        have hw0 : ¬ wl = [] := fun h => by rw [h] at hwe; cases hwe
        have HE : Hid (accQ s (k + 1) = acc ++ 92 :: wl) := Lib.hid (by rw [HAS.out, HES.out, if_neg hw0])
        rw [hwe] at hme
        clear hwe hw0
        go_wp2_with first
          | (at_builtin; (refine wpList_push rfl (.tmp 18) (.tmp 19) 42 rfl w.heap.size 5 i0 (.int .u8 0) 1 1 Tryz.underlying42 hi hz0 hz1 hz2 rfl (by decide) _ _ _ rfl (World.ownsRow.alloc HO2.out _) ⟨w2.heap.size, 0, none⟩ 1 1 [_] rfl rfl (cell_one_new _ _ _) (by simp [Value.oneCell']) (by unfold maxLen; omega) (by omega) (by have := HB2.out.size; simp; omega) ?_; intro v' w3 hown' hgrow hfr; have HOP := Lib.hid (show w3.ownsRow w.heap.size 5 1 v' _ (u8s _ ++ [.int .u8 92]) from hown'); have HBP := Lib.hid (below_push HB2.out (by have := HB2.out.size; omega) HO2.out (Nat.le_refl _) hgrow); clear hown' hgrow hfr))
          | (at_builtin; refine Lib.wpList_append_own_string _ rfl (.tmp 20) (.tmp 21) 42 9 rfl w.heap.size 5 i0 Tryz.underlying42 Tryz.underlying9 hi hz0 hz1 hz2 _ _ _ rfl HOP.out ms rfl (by unfold maxLen; omega) (by omega) (by have := HBP.out.size; omega) ?_; intro v'' w4 hown' hgrow _; have HO4 := Lib.hid hown'; have HB4 := Lib.hid (HBP.out.grown hgrow (by have := HBP.out.size; omega) (fun j ej => (World.ownsRow.lt HOP.out j ej).1)); clear hown' hgrow)
        obtain ⟨va', vc', rfl⟩ := (RdS.of_owns HO4.out).form
        go_roundg (s.size + 1 - (k + 1))
        case measure => omega
        case rel => exact ⟨k + 1, va', vc', _, by omega, by omega, by go_num, rfl, Lib.hid (by rw [HE.out, List.length_append, List.length_cons, hmz]; omega), Lib.hid (by have h := HO4.out; rw [HMC.out] at h; rw [HE.out]; simpa [u8s] using h), HB4⟩
    · have hk1 : ¬ (k : Int) < (s.size : Int) := by omega
      have d1 : decide ((k : Int) < (s.size : Int)) = false := decide_eq_false (by omega)
      have hke : k = s.size := by omega
      subst hke
      have HQ := Lib.hid (accQ_all s)
      have HLT : Hid (AllLt 256 (accQ s s.size ++ [34])) := Lib.hid (fun b hb => by rcases List.mem_append.1 hb with h | h; exact accQ_lt s _ b h; simp at h; omega)
      generalize accQ s s.size = acc at *
      subst hnl
      go_wp2_with (at_builtin; go_must (refine wpList_push rfl _ _ 42 rfl w.heap.size 5 i0 (.int .u8 0) 1 1 Tryz.underlying42 hi hz0 hz1 hz2 rfl (by decide) _ _ _ rfl (World.ownsRow.alloc HO.out _) ⟨wr.heap.size, 0, none⟩ 1 1 [_] rfl rfl (cell_one_new _ _ _) (by simp [Value.oneCell']) (by unfold maxLen; omega) (by omega) (by have := HB.out.size; simp; omega) ?_; intro v' w3 hown' hgrow hfr; have HOP := Lib.hid (show w3.ownsRow w.heap.size 5 1 v' _ (u8s _ ++ [.int .u8 34]) from hown'); have HBP := Lib.hid (below_push HB.out (by have := HB.out.size; omega) HO.out (Nat.le_refl _) hgrow); clear hown' hgrow hfr))
      have hrd := RdS.of_owns HOP.out
      rw [show (u8s acc ++ [Value.int .u8 34]) = u8s (acc ++ [34]) from (u8s_snocD acc 34).symm] at hrd
      have HCV := Lib.hid (run_conv HLT.out (by simpa using hrd))
      clear hrd
      rw [HCV.out]
      simp only [Result.andThen]
      rw [Oper.upon_value]
      go_wp2
      go_ret
      rw [HQ.out]
      exact ⟨rfl, HBP.out⟩
set_option maxRecDepth 100000 in
theorem Put_plain (s : ByteArray) (w : World) (hp : plainT s = true) (hs : s.size ≤ 9223372036854775806) :
    Calls Tryz.prog 37 #[.string s] w fun e w' => e = .returned (.string s) ∧ Below w.heap.size w w' := by
  go_enter Tryz.func37, Tryz.ntmps37
  go_wp2_with fail
  refine (sPlain_any s w hs).mono ?_
  rintro e w1 ⟨rfl, rfl⟩
  rw [hp]
  go_wp2_with fail
  go_ret
  exact ⟨rfl, Below.refl _ _⟩
set_option maxRecDepth 100000 in
theorem sPut_any (s : ByteArray) (w : World) (hs : s.size ≤ 1000000) :
    Calls Tryz.prog 37 #[.string s] w fun e w' => e = .returned (.string (putS s)) ∧ Below w.heap.size w w' := by
  cases hp : plainT s with
  | true =>
    unfold putS
    rw [hp]
    exact Put_plain s w hp (by omega)
  | false =>
    have HE : Hid (putS s = mkS (quoteN (bsN s))) := Lib.hid (by unfold putS; rw [hp]; rfl)
    go_enter Tryz.func37, Tryz.ntmps37
    go_wp2_with fail
    refine (sPlain_any s w (by omega)).mono ?_
    rintro e w1 ⟨rfl, rfl⟩
    rw [hp]
    go_wp2_with fail
    refine (sQuote_any s w1 hs).mono ?_
    rintro e w2 ⟨rfl, hb⟩
    rw [← HE.out]
    go_wp2_with fail
    go_ret
    exact ⟨rfl, hb⟩
end Go.Proofs.YtdhgcgejdoedbaaGreatDoor

/-
  Lines of a text, in numbers. Nothing of the program.
-/
namespace Go.Proofs.YtdhgcgejdoedbaaGreatDoor
open Go

def cutN : Bool → Bool → Bool → List Nat → Nat
  | _, _, _, [] => 0
  | wi, ta, pb, c :: l =>
    if ta then cutN wi false (decide (c = 32)) l + 1
    else if wi && decide (c = 92) then cutN wi true (decide (c = 32)) l + 1
    else if c = 34 then cutN (!wi) false (decide (c = 32)) l + 1
    else if wi || decide (c ≠ 35) then cutN wi false (decide (c = 32)) l + 1
    else if pb then 0 else cutN wi false (decide (c = 32)) l + 1
def trimRN (l : List Nat) : List Nat := (l.reverse.dropWhile (· == 32)).reverse
def trimLN (l : List Nat) : List Nat := l.dropWhile (· == 32)
def stripN (l : List Nat) : List Nat := trimRN (l.take (cutN false false true l))
def linesN : List Nat → List (List Nat)
  | [] => []
  | c :: l => if c = 10 then [] :: linesN l else match linesN l with | [] => [[c]] | x :: xs => (c :: x) :: xs
def allN : Nat → List (List Nat) → List (Nat × Nat × List Nat)
  | _, [] => []
  | n, t :: ts => if trimLN (stripN t) = [] then allN (n + 1) ts else (n, (stripN t).length - (trimLN (stripN t)).length, trimLN (stripN t)) :: allN (n + 1) ts
def evenB (c : Nat) : Bool := decide (32 ≤ c) && decide (c ≠ 127)

theorem linesN_line : ∀ (t rest : List Nat), 10 ∉ t → linesN (t ++ 10 :: rest) = t :: linesN rest
  | [], rest, _ => by simp [linesN]
  | c :: t, rest, h => by
    have hc : c ≠ 10 := fun e => h (by simp [e])
    have ih := linesN_line t rest (fun h2 => h (by simp [h2]))
    rw [List.cons_append, linesN, if_neg hc, ih]
theorem linesN_join : ∀ (ls : List (List Nat)), (∀ t ∈ ls, 10 ∉ t) → linesN (ls.flatMap fun t => t ++ [10]) = ls
  | [], _ => rfl
  | t :: ls, h => by
    rw [List.flatMap_cons, List.append_assoc]
    show linesN (t ++ 10 :: (ls.flatMap fun t => t ++ [10])) = _
    rw [linesN_line t _ (h t (by simp)), linesN_join ls (fun t ht => h t (by simp [ht]))]
theorem linesN_len : ∀ (l : List Nat), (linesN l).length ≤ l.length
  | [] => by simp [linesN]
  | c :: l => by
    have ih := linesN_len l
    rw [linesN]
    split
    · simp; omega
    · split
      · simp
      · rename_i x xs h
        rw [h] at ih
        simp at ih ⊢; omega
theorem linesN_no : ∀ (l : List Nat), ∀ t ∈ linesN l, 10 ∉ t ∧ ∀ c ∈ t, c ∈ l
  | [], t, h => by simp [linesN] at h
  | c :: l, t, h => by
    have ih := linesN_no l
    rw [linesN] at h
    split at h
    · rcases List.mem_cons.1 h with rfl | h
      · exact ⟨by simp, fun c hc => by cases hc⟩
      · exact ⟨(ih t h).1, fun c hc => List.mem_cons_of_mem _ ((ih t h).2 c hc)⟩
    · rename_i hc
      split at h
      · obtain rfl : t = [c] := by simpa using h
        exact ⟨by simpa using fun e => hc e.symm, fun d hd => by simp at hd; simp [hd]⟩
      · rename_i x xs hx
        rw [hx] at ih
        rcases List.mem_cons.1 h with rfl | h
        · refine ⟨fun h2 => ?_, fun d hd => ?_⟩
          · rcases List.mem_cons.1 h2 with e | h2
            · exact hc e.symm
            · exact (ih x (by simp)).1 h2
          · rcases List.mem_cons.1 hd with rfl | hd
            · simp
            · exact List.mem_cons_of_mem _ ((ih x (by simp)).2 d hd)
        · exact ⟨(ih t (by simp [h])).1, fun d hd => List.mem_cons_of_mem _ ((ih t (by simp [h])).2 d hd)⟩

theorem trimLN_len (l : List Nat) : (trimLN l).length ≤ l.length := (List.dropWhile_sublist _).length_le
theorem trimRN_len (l : List Nat) : (trimRN l).length ≤ l.length := by
  unfold trimRN
  rw [List.length_reverse]
  have := (List.dropWhile_sublist (· == 32) (l := l.reverse)).length_le
  simpa using this
theorem stripN_len (l : List Nat) : (stripN l).length ≤ l.length := by
  have h := trimRN_len (l.take (cutN false false true l))
  unfold stripN
  rw [List.length_take] at h
  omega
theorem trimLN_sub (l : List Nat) : ∀ c ∈ trimLN l, c ∈ l := fun _ h => (List.dropWhile_sublist _).subset h
theorem stripN_sub (l : List Nat) : ∀ c ∈ stripN l, c ∈ l := fun c h => by
  unfold stripN trimRN at h
  have := (List.dropWhile_sublist (· == 32)).subset (List.mem_reverse.1 h)
  exact List.mem_of_mem_take (List.mem_reverse.1 this)
theorem trimRN_last (l : List Nat) (c : Nat) (h : c ≠ 32) (k : Nat) : trimRN (l ++ [c] ++ List.replicate k 32) = l ++ [c] := by
  unfold trimRN
  rw [List.reverse_append, List.reverse_replicate, List.reverse_append]
  have e : ∀ k m, List.dropWhile (· == 32) (List.replicate k 32 ++ ([c].reverse ++ m)) = [c].reverse ++ m := by
    intro k
    induction k with
    | zero => intro m; simp [h]
    | succ k ih => intro m; rw [List.replicate_succ]; simpa using ih m
  rw [e, List.reverse_append]; simp
theorem trimLN_blanks (k : Nat) (c : Nat) (l : List Nat) (h : c ≠ 32) : trimLN (List.replicate k 32 ++ c :: l) = c :: l := by
  unfold trimLN
  induction k with
  | zero => simp [h]
  | succ k ih => rw [List.replicate_succ]; simpa using ih

/-! ### Through a line -/
theorem cutN_blanks (k : Nat) (l : List Nat) : cutN false false true (List.replicate k 32 ++ l) = k + cutN false false true l := by
  induction k with
  | zero => simp
  | succ k ih =>
    rw [List.replicate_succ, List.cons_append]
    show cutN false false true (32 :: (List.replicate k 32 ++ l)) = _
    conv => lhs; unfold cutN
    simp only [Bool.false_eq_true, if_false, Bool.false_and, show ¬ (32 : Nat) = 34 by decide, Bool.false_or, show decide ((32 : Nat) ≠ 35) = true from rfl, if_true, decide_true]
    rw [ih]; omega
theorem cutN_plain : ∀ (t rest : List Nat) (pb : Bool), (∀ c ∈ t, c ≠ 34 ∧ c ≠ 35) → cutN false false pb (t ++ rest) = t.length + cutN false false (if t = [] then pb else decide (t.getLast? = some 32)) rest
  | [], rest, pb, _ => by simp
  | c :: t, rest, pb, h => by
    have hc := h c (by simp)
    have ih := cutN_plain t rest (decide (c = 32)) (fun c hc => h c (by simp [hc]))
    rw [List.cons_append]
    conv => lhs; unfold cutN
    simp only [Bool.false_eq_true, if_false, Bool.false_and, hc.1, Bool.false_or, decide_eq_true (show c ≠ 35 from hc.2), if_true]
    rw [ih, if_neg (by simp : ¬ (c :: t) = [])]
    cases t with
    | nil => simp [Nat.add_comm]
    | cons d t => simp [List.getLast?_cons_cons]; omega
theorem cutN_esc (c : Nat) (rest : List Nat) (pb : Bool) : ∃ pb', cutN true false pb (escN c ++ rest) = (escN c).length + cutN true false pb' rest := by
  unfold escN
  by_cases h : wordL c = []
  · rw [if_pos h]
    have h92 : c ≠ 92 := fun e => by subst e; simp [wordL] at h
    have h34 : c ≠ 34 := fun e => by subst e; simp [wordL] at h
    refine ⟨decide (c = 32), ?_⟩
    show cutN true false pb (c :: rest) = _
    conv => lhs; unfold cutN
    simp [h92, h34]; omega
  · rw [if_neg h]
    have hw : (∃ d, wordL c = [d]) ∨ (∃ d e, wordL c = [120, d, e] ∧ d ≠ 34 ∧ d ≠ 92 ∧ e ≠ 34 ∧ e ≠ 92) := by
      unfold wordL at h ⊢
      split
      · exact .inl ⟨_, rfl⟩
      · split
        · exact .inl ⟨_, rfl⟩
        · split
          · exact .inl ⟨_, rfl⟩
          · rename_i h1 h2 h3
            rw [if_neg h1, if_neg h2, if_neg h3] at h
            split
            · have hx : ∀ n, hexN n ≠ 34 ∧ hexN n ≠ 92 := fun n => by unfold hexN; split <;> omega
              exact .inr ⟨_, _, rfl, (hx _).1, (hx _).2, (hx _).1, (hx _).2⟩
            · rename_i h4
              rw [if_neg h4] at h
              exact absurd rfl h
    rcases hw with ⟨d, hd⟩ | ⟨d, e, hd, h1, h2, h3, h4⟩
    · rw [hd]
      refine ⟨decide (d = 32), ?_⟩
      show cutN true false pb (92 :: d :: rest) = _
      conv => lhs; unfold cutN; unfold cutN
      simp; omega
    · rw [hd]
      refine ⟨decide (e = 32), ?_⟩
      show cutN true false pb (92 :: 120 :: d :: e :: rest) = _
      conv => lhs; unfold cutN; unfold cutN; unfold cutN; unfold cutN
      simp [h1, h2, h3, h4]; omega
theorem cutN_escs : ∀ (t rest : List Nat) (pb : Bool), ∃ pb', cutN true false pb (t.flatMap escN ++ rest) = (t.flatMap escN).length + cutN true false pb' rest
  | [], rest, pb => ⟨pb, by simp⟩
  | c :: t, rest, pb => by
    rw [List.flatMap_cons, List.append_assoc]
    obtain ⟨p1, h1⟩ := cutN_esc c (t.flatMap escN ++ rest) pb
    obtain ⟨p2, h2⟩ := cutN_escs t rest p1
    exact ⟨p2, by rw [h1, h2, List.length_append]; omega⟩
theorem cutN_quote (t rest : List Nat) (pb : Bool) : cutN false false pb (quoteN t ++ rest) = (quoteN t).length + cutN false false false rest := by
  unfold quoteN
  rw [List.cons_append, List.cons_append, List.append_assoc]
  conv => lhs; unfold cutN
  simp only [Bool.false_eq_true, if_false, Bool.false_and, if_true, Bool.not_false]
  obtain ⟨p, h⟩ := cutN_escs t ([34] ++ rest) (decide ((34 : Nat) = 32))
  rw [h]
  show (t.flatMap escN).length + cutN true false p (34 :: rest) + 1 = _
  conv => lhs; unfold cutN
  simp
  omega

theorem stands_not {c : Nat} {f : Bool} (h : standsB c f = true) : c ≠ 34 ∧ c ≠ 35 ∧ c ≠ 32 ∧ c ≠ 58 ∧ c ≠ 10 ∧ 32 ≤ c ∧ c < 127 ∧ c ≠ 91 ∧ c ≠ 123 := by
  unfold standsB at h
  simp only [Bool.or_eq_true, Bool.and_eq_true, decide_eq_true_eq] at h
  omega
theorem plainAll_stands : ∀ (t : List Nat) (f : Bool), plainAll t f = true → ∀ c ∈ t, ∃ g, standsB c g = true
  | [], _, _, c, hc => by cases hc
  | d :: t, f, h, c, hc => by
    unfold plainAll at h
    rw [Bool.and_eq_true] at h
    rcases List.mem_cons.1 hc with rfl | hc
    · exact ⟨f, h.1⟩
    · exact plainAll_stands t false h.2 c hc
def wrL (t : List Nat) : List Nat := if decide (0 < t.length) && plainAll t true then t else quoteN t
theorem quoteN_lt {l : List Nat} (h : AllLt 256 l) : AllLt 256 (quoteN l) := by
  intro b hb
  unfold quoteN at hb
  rw [List.cons_append] at hb
  rcases List.mem_cons.1 hb with rfl | hb
  · omega
  · rcases List.mem_append.1 hb with hb | hb
    · obtain ⟨c, hc, hcb⟩ := List.mem_flatMap.1 hb
      exact escN_lt (h c hc) b hcb
    · simp at hb; omega
theorem putS_bytes (s : ByteArray) : bsN (putS s) = wrL (bsN s) := by
  unfold putS wrL plainT
  rw [bsN_len]
  split
  · rfl
  · rw [bsN_mkS (quoteN_lt (bsN_lt s))]
theorem wrL_cases (t : List Nat) : (t ≠ [] ∧ plainAll t true = true ∧ wrL t = t) ∨ (wrL t = quoteN t ∧ (t = [] ∨ plainAll t true = false)) := by
  unfold wrL
  by_cases h : (decide (0 < t.length) && plainAll t true) = true
  · rw [if_pos h]
    rw [Bool.and_eq_true, decide_eq_true_eq] at h
    exact .inl ⟨fun e => by rw [e] at h; simp at h, h.2, rfl⟩
  · rw [if_neg h]
    refine .inr ⟨rfl, ?_⟩
    by_cases ht : t = []
    · exact .inl ht
    · right
      have : 0 < t.length := List.length_pos_iff.2 ht
      simpa [this] using h
theorem wrL_ends (t : List Nat) : ∃ a m, wrL t = a :: m ∧ a ≠ 32 ∧ ∃ m' b, wrL t = m' ++ [b] ∧ b ≠ 32 := by
  rcases wrL_cases t with ⟨h1, h2, h3⟩ | ⟨h3, _⟩
  · rw [h3]
    have hs := plainAll_stands t true h2
    cases t with
    | nil => exact absurd rfl h1
    | cons a m =>
      obtain ⟨g, hg⟩ := hs a (by simp)
      obtain ⟨g', hg'⟩ := hs ((a :: m).getLast (by simp)) (List.getLast_mem _)
      exact ⟨a, m, rfl, (stands_not hg).2.2.1, _, _, (List.dropLast_concat_getLast (by simp)).symm, (stands_not hg').2.2.1⟩
  · rw [h3]
    exact ⟨34, t.flatMap escN ++ [34], rfl, by decide, 34 :: t.flatMap escN, 34, rfl, by decide⟩
theorem wrL_ne (t : List Nat) : wrL t ≠ [] := by
  obtain ⟨a, m, h, _⟩ := wrL_ends t
  rw [h]; simp
theorem cutN_put (t rest : List Nat) (pb : Bool) : cutN false false pb (wrL t ++ rest) = (wrL t).length + cutN false false false rest := by
  rcases wrL_cases t with ⟨h1, h2, h3⟩ | ⟨h3, _⟩
  · rw [h3]
    have hs := plainAll_stands t true h2
    rw [cutN_plain t rest pb (fun c hc => by obtain ⟨g, hg⟩ := hs c hc; exact ⟨(stands_not hg).1, (stands_not hg).2.1⟩), if_neg h1]
    have : decide (t.getLast? = some 32) = false := by
      refine decide_eq_false fun h => ?_
      obtain ⟨g, hg⟩ := hs 32 (List.mem_of_getLast? h)
      exact (stands_not hg).2.2.1 rfl
    rw [this]
  · rw [h3]; exact cutN_quote t rest pb
/-! ### Which bytes a text as it stands has -/
theorem escN_even {c : Nat} (hc : c < 256) : ∀ b ∈ escN c, evenB b = true := by
  have h1 : ∀ c : Fin 256, ∀ b ∈ escN c.val, evenB b = true := by decide +kernel
  exact h1 ⟨c, hc⟩
theorem quoteN_even {l : List Nat} (h : AllLt 256 l) : ∀ b ∈ quoteN l, evenB b = true := by
  intro b hb
  unfold quoteN at hb
  rw [List.cons_append] at hb
  rcases List.mem_cons.1 hb with rfl | hb
  · rfl
  · rcases List.mem_append.1 hb with hb | hb
    · obtain ⟨c, hc, hcb⟩ := List.mem_flatMap.1 hb
      exact escN_even (h c hc) b hcb
    · simp at hb; subst hb; rfl
theorem wrL_even {l : List Nat} (h : AllLt 256 l) : ∀ b ∈ wrL l, evenB b = true := by
  rcases wrL_cases l with ⟨_, h2, h3⟩ | ⟨h3, _⟩
  · rw [h3]
    intro b hb
    obtain ⟨g, hg⟩ := plainAll_stands l true h2 b hb
    have := stands_not hg
    unfold evenB
    simp; omega
  · rw [h3]; exact quoteN_even h
theorem wrL_lt {l : List Nat} (h : AllLt 256 l) : AllLt 256 (wrL l) := by
  rcases wrL_cases l with ⟨_, _, h3⟩ | ⟨h3, _⟩
  · rw [h3]; exact h
  · rw [h3]; exact quoteN_lt h
theorem quoteN_len (l : List Nat) : (quoteN l).length ≤ 4 * l.length + 2 := by
  have : ∀ l : List Nat, (l.flatMap escN).length ≤ 4 * l.length := by
    intro l
    induction l with
    | nil => simp
    | cons c l ih => rw [List.flatMap_cons, List.length_append, List.length_cons]; have := escN_len c; omega
  have := this l
  unfold quoteN
  simp only [List.length_append, List.length_cons, List.length_nil]; omega
theorem wrL_len (l : List Nat) : (wrL l).length ≤ 4 * l.length + 2 := by
  rcases wrL_cases l with ⟨_, _, h3⟩ | ⟨h3, _⟩
  · rw [h3]; omega
  · rw [h3]; exact quoteN_len l
theorem even_ne {c : Nat} (h : evenB c = true) : c ≠ 10 := fun e => by subst e; exact absurd h (by decide)

/-! ### Runes -/
def Utf (l : List Nat) : Prop := ∃ rs, ValidAll rs ∧ l = textN rs
theorem Utf.nil : Utf [] := ⟨[], (fun _ h => by cases h), rfl⟩
theorem Utf.append {a b : List Nat} (h : Utf a) (k : Utf b) : Utf (a ++ b) := by
  obtain ⟨r, hr, rfl⟩ := h
  obtain ⟨s, hs, rfl⟩ := k
  exact ⟨r ++ s, fun c hc => (List.mem_append.1 hc).elim (hr c) (hs c), by simp [textN]⟩
theorem Utf.ascii {l : List Nat} (h : ∀ c ∈ l, c < 128) : Utf l := by
  refine ⟨l, fun c hc => .inl (by have := h c hc; omega), ?_⟩
  unfold textN
  induction l with
  | nil => rfl
  | cons c l ih => rw [List.flatMap_cons, ← ih (fun c hc => h c (by simp [hc]))]; unfold encN; rw [if_pos (h c (by simp))]; rfl
theorem Utf.flat {α : Type} {f : α → List Nat} : ∀ {l : List α}, (∀ x ∈ l, Utf (f x)) → Utf (l.flatMap f)
  | [], _ => Utf.nil
  | x :: l, h => by
    rw [List.flatMap_cons]
    exact (h x (by simp)).append (Utf.flat (fun x hx => h x (by simp [hx])))
theorem utf_first {l : List Nat} (h : Utf l) : firstX 0 l = -1 := by
  obtain ⟨rs, hr, rfl⟩ := h
  exact first_ok hr 0
theorem first_utf {l : List Nat} (hb : AllLt 256 l) (h : firstX 0 l < 0) : Utf l := by
  obtain ⟨h1, h2⟩ := text_runes _ l 0 rfl hb h
  exact ⟨runesX l, h2, h1.symm⟩
theorem escN_ascii {c : Nat} (hc : c < 128) : ∀ b ∈ escN c, b < 128 := by
  have h1 : ∀ c : Fin 128, ∀ b ∈ escN c.val, b < 128 := by decide +kernel
  exact h1 ⟨c, hc⟩
theorem escN_high {c : Nat} (hc : 128 ≤ c) : escN c = [c] := by
  have : wordL c = [] := by
    unfold wordL
    rw [if_neg (by omega), if_neg (by omega), if_neg (by omega), if_neg (by omega)]
  unfold escN
  rw [if_pos this]
theorem esc_enc {c : Nat} (h : validN c) : Utf ((encN c).flatMap escN) := by
  by_cases hc : c < 128
  · have : encN c = [c] := by unfold encN; rw [if_pos hc]
    rw [this]
    refine Utf.ascii fun b hb => escN_ascii hc b (by simpa using hb)
  · have : (encN c).flatMap escN = encN c := by
      have hh : ∀ b ∈ encN c, 128 ≤ b := by
        intro b hb
        unfold encN at hb
        rw [if_neg hc] at hb
        split at hb
        · simp at hb; omega
        · split at hb
          · simp at hb; omega
          · simp at hb; omega
      generalize encN c = l at hh
      induction l with
      | nil => rfl
      | cons b l ih => rw [List.flatMap_cons, escN_high (hh b (by simp)), ih (fun b hb => hh b (by simp [hb]))]; rfl
    rw [this]
    exact ⟨[c], fun d hd => by simp at hd; subst hd; exact h, by simp [textN]⟩
theorem utf_quote {l : List Nat} (h : Utf l) : Utf (quoteN l) := by
  obtain ⟨rs, hr, rfl⟩ := h
  have h0 : quoteN (textN rs) = ([34] ++ (textN rs).flatMap escN) ++ [34] := rfl
  rw [h0]
  refine Utf.append (Utf.append (Utf.ascii (by simp)) ?_) (Utf.ascii (by simp))
  have : (textN rs).flatMap escN = rs.flatMap fun c => (encN c).flatMap escN := by
    unfold textN
    rw [List.flatMap_assoc]
  rw [this]
  exact Utf.flat fun c hc => esc_enc (hr c hc)
theorem utf_put {l : List Nat} (h : Utf l) : Utf (wrL l) := by
  rcases wrL_cases l with ⟨_, _, h3⟩ | ⟨h3, _⟩
  · rw [h3]; exact h
  · rw [h3]; exact utf_quote h
end Go.Proofs.YtdhgcgejdoedbaaGreatDoor
