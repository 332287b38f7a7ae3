/-
  The reference's Put, Digits, Text: contracts.
-/
import Derived.Deep.WholeRow
import Derived.Test.YtbnggfhofdpdcaaBq62
namespace Go.Proofs.Ytbnggfhofdpdcaa
open Go Go.RowKit Go.WideShapes

set_option maxRecDepth 100000 in
theorem rPut_any (s : ByteArray) (w : World) (hs : s.size ≤ 1000000) :
    Calls Try.prog 113 #[.string s] w fun e w' => e = .returned (.string (putS s)) ∧ Below w.heap.size w w' := by
  cases hp : plainT s with
  | true =>
    have HE : Hid (putS s = s) := Lib.hid (by unfold putS; rw [hp]; rfl)
    go_enter Try.func113, Try.ntmps113
    go_wp2_with fail
    refine (rPlain_any s w (by omega)).mono ?_
    rintro e w1 ⟨rfl, rfl⟩
    rw [hp]
    go_wp2_with fail
    go_ret
    rw [HE.out]
    exact ⟨rfl, Below.refl _ _⟩
  | false =>
    have HE : Hid (putS s = mkS (quoteN (bsN s))) := Lib.hid (by unfold putS; rw [hp]; rfl)
    go_enter Try.func113, Try.ntmps113
    go_wp2_with fail
    refine (rPlain_any s w (by omega)).mono ?_
    rintro e w1 ⟨rfl, rfl⟩
    rw [hp]
    go_wp2_with fail
    refine (rQuote_any s _ hs).mono ?_
    rintro e w2 ⟨rfl, hb⟩
    rw [← HE.out]
    go_wp2_with fail
    go_ret
    exact ⟨rfl, hb⟩
set_option maxRecDepth 100000 in
set_option maxHeartbeats 2000000 in
theorem rDigits_pos : ∀ (k : Nat) (n : Nat) (w : World), n < 10 ^ (k + 1) → n ≤ 999999999 →
    Calls Try.prog 112 #[.int .i64 (n : Int)] w fun e w' => e = .returned (.string (mkS (digN n))) ∧ w = w' := by
  intro k
  induction k with
  | zero =>
    intro n w h h9
    have h10 : n < 10 := by simpa using h
    have d2 : decide ((n : Int) < 0) = false := decide_eq_false (by omega)
    have d3 : decide (999999999 < (n : Int)) = false := decide_eq_false (by omega)
    have d1 : decide ((n : Int) < 10) = true := by simp; omega
    have HF := Lib.hid (digN_small h10)
    have HD := Lib.hid (digit_sub n h10)
    clear h
    go_enter Try.func112, Try.ntmps112
    go_wp2
    go_ret
    exact ⟨by rw [HF.out, ← HD.out]; rfl, rfl⟩
  | succ k ih =>
    intro n w h h9
    have d2 : decide ((n : Int) < 0) = false := decide_eq_false (by omega)
    have d3 : decide (999999999 < (n : Int)) = false := decide_eq_false (by omega)
    by_cases h10 : n < 10
    · have d1 : decide ((n : Int) < 10) = true := by simp; omega
      have HF := Lib.hid (digN_small h10)
      have HD := Lib.hid (digit_sub n h10)
      clear h
      go_enter Try.func112, Try.ntmps112
      go_wp2
      go_ret
      exact ⟨by rw [HF.out, ← HD.out]; rfl, rfl⟩
    · have d1 : decide ((n : Int) < 10) = false := by simp; omega
      have hq : n / 10 < 10 ^ (k + 1) := by rw [Nat.div_lt_iff_lt_mul (by decide)]; rw [Nat.pow_succ] at h; exact h
      have hr : n % 10 < 10 ^ (k + 1) := Nat.lt_of_lt_of_le (Nat.mod_lt _ (by decide)) (by rw [Nat.pow_succ]; have := Nat.one_le_pow k 10 (by decide); omega)
      have H1 := Lib.hid (fun W => ih (n / 10) W hq (by omega))
      have H2 := Lib.hid (fun W => ih (n % 10) W hr (by omega))
      rw [show ((n / 10 : Nat) : Int) = (n : Int) / 10 by omega] at H1
      rw [show ((n % 10 : Nat) : Int) = (n : Int) % 10 by omega] at H2
      have HF : Hid (mkS (digN n) = mkS (digN (n / 10)) ++ mkS (digN (n % 10))) := Lib.hid (by rw [mkS_append, digN_more (by omega), digN_small (n := n % 10) (by omega)])
      have hs1 : (mkS (digN (n / 10))).size ≤ 1000 := by have := (digN_len (n / 10) 8 (by omega)).2; rw [mkS_size]; omega
      have hs2 : (mkS (digN (n % 10))).size ≤ 1000 := by have := (digN_len (n % 10) 8 (by omega)).2; rw [mkS_size]; omega
      clear h hq hr
      generalize mkS (digN (n / 10)) = sa at *
      generalize mkS (digN (n % 10)) = sb at *
      go_enter Try.func112, Try.ntmps112
      go_wp2_with fail
      refine (H1.out _).mono ?_
      rintro e w1 ⟨rfl, rfl⟩
      go_wp2_with fail
      refine (H2.out _).mono ?_
      rintro e w1 ⟨rfl, rfl⟩
      go_wp2
      go_ret
      exact ⟨by rw [HF.out]; rfl, rfl⟩

set_option maxRecDepth 100000 in
theorem rDigits_any (n : Int) (w : World) (h0 : 0 ≤ n) : Calls Try.prog 112 #[.int .i64 n] w fun e w' => e = .returned (.string (digS n)) ∧ w = w' := by
  by_cases h9 : n ≤ 999999999
  · obtain ⟨k, rfl⟩ : ∃ k : Nat, n = (k : Int) := ⟨n.toNat, by omega⟩
    have hE : digS (k : Int) = mkS (digN k) := by unfold digS; rw [if_pos ⟨h0, h9⟩]; rfl
    rw [hE]
    exact rDigits_pos 8 k w (by omega) (by omega)
  · have hE : Hid (digS n = { data := #[] }) := Lib.hid (by unfold digS; rw [if_neg (by omega)])
    have d2 : decide (n < 0) = false := decide_eq_false (by omega)
    have d3 : decide (999999999 < n) = true := decide_eq_true (by omega)
    go_enter Try.func112, Try.ntmps112
    go_wp2_with fail
    go_ret
    exact ⟨by rw [hE.out]; rfl, rfl⟩
theorem wordsA_at : ∀ n : Nat, n < 21 → wordsA[n]? = some (.string (wordD (n : Int)))
  | 0, _ => by kernel_rfl
  | 1, _ => by kernel_rfl
  | 2, _ => by kernel_rfl
  | 3, _ => by kernel_rfl
  | 4, _ => by kernel_rfl
  | 5, _ => by kernel_rfl
  | 6, _ => by kernel_rfl
  | 7, _ => by kernel_rfl
  | 8, _ => by kernel_rfl
  | 9, _ => by kernel_rfl
  | 10, _ => by kernel_rfl
  | 11, _ => by kernel_rfl
  | 12, _ => by kernel_rfl
  | 13, _ => by kernel_rfl
  | 14, _ => by kernel_rfl
  | 15, _ => by kernel_rfl
  | 16, _ => by kernel_rfl
  | 17, _ => by kernel_rfl
  | 18, _ => by kernel_rfl
  | 19, _ => by kernel_rfl
  | 20, _ => by kernel_rfl
  | n + 21, h => absurd h (by omega)
set_option maxRecDepth 100000 in
set_option maxHeartbeats 8000000 in
theorem rText_any (x : DiagD) (p : ByteArray) (w : World) (hp : p.size ≤ 900000000) (hput : x.2.2.toList.isEmpty = false → ∀ W, Calls Try.prog 113 #[.string x.2.2] W fun e w' => e = .returned (.string p) ∧ Below W.heap.size W w') :
    Calls Try.prog 46 #[.agg #[.int .i64 x.1, .int .i64 x.2.1, .string x.2.2]] w fun e w' => e = .returned (.string (textG x p)) ∧ Below w.heap.size w w' := by
  have HP := Lib.hid hput
  have g0 := World.alloc_heap_new w (.cells #[.int .i64 x.1, .int .i64 x.2.1, .string x.2.2] 61)
  have hb0 := (Below.refl w.heap.size w).alloc (Nat.le_refl _) (.cells #[.int .i64 x.1, .int .i64 x.2.1, .string x.2.2] 61)
  have HSD : Hid (stD x.1 = if 0 ≤ x.1 then digS x.1 else { data := #[45] }) := Lib.hid rfl
  have hz1' := stD_size x.1
  have hz2' := wordD_size x.2.1
  have HTX : Hid (textG x p = if x.2.2.toList.isEmpty then stD x.1 ++ { data := #[32] } ++ wordD x.2.1 else stD x.1 ++ { data := #[32] } ++ wordD x.2.1 ++ { data := #[32] } ++ p) := Lib.hid rfl
  clear hput
  go_enter Try.func46, Try.ntmps46
  go_upto_region 2 with fail
  generalize (w.alloc (.cells #[.int .i64 x.1, .int .i64 x.2.1, .string x.2.2] 61)) = w0 at *
  have HB0 := Lib.hid hb0
  have HG0 := Lib.hid g0
  obtain ⟨p0, p1, p2, -, -, -⟩ := cells3h g0
  clear hb0 g0
  have HT1 : Hid (decide (0 ≤ x.1) = true → digS x.1 = stD x.1) := Lib.hid (fun h => by rw [HSD.out, if_pos (of_decide_eq_true h)])
  have HT0 : Hid (decide (0 ≤ x.1) = false → { data := #[45] } = stD x.1) := Lib.hid (fun h => by rw [HSD.out, if_neg (of_decide_eq_false h)])
  have HT2 : Hid (decide (0 ≤ x.1) = true → 0 ≤ x.1) := Lib.hid (fun h => of_decide_eq_true h)
  clear HSD
  generalize hst : stD x.1 = st at *
  generalize hbd : decide (0 ≤ x.1) = bd at *
  go_upto_if 8 with fail
  go_cut [3] (fun s3 wx => s3 = .string st ∧ wx = w0)
  case first =>
    cases bd with
    | true =>
      have HE := Lib.hid (HT1.out rfl)
      go_wp2_with fail
      refine (rDigits_any x.1 _ (HT2.out (by first | trivial | rfl))).mono ?_
      rintro e w1 ⟨rfl, rfl⟩
      rw [HE.out]
      go_wp2_with fail
      go_meet
      exact ⟨rfl, rfl⟩
    | false =>
      have HE := Lib.hid (HT0.out rfl)
      go_wp2_with fail
      go_meet
      exact ⟨by rw [HE.out], rfl⟩
  case rest =>
  obtain ⟨rfl, rfl⟩ := hcut
  go_wp2_with fail
  refine (rWords_any _).mono ?_
  rintro e w2 ⟨rfl, hb2⟩
  have HB2 := Lib.hid (bthen HB0.out (Nat.le_refl _) hb2)
  have HG2 := Lib.hid ((hb2.block _ (Array.getElem?_eq_some_iff.1 HG0.out).1).trans HG0.out)
  clear p0 p1 p2 hb2
  unfold wordsV
  have hst1 := run_storeAt_new (P := Try.prog) w2 68 #[.string { data := #[] }, .string { data := #[] }, .string { data := #[] }, .string { data := #[] }, .string { data := #[] }, .string { data := #[] }, .string { data := #[] }, .string { data := #[] }, .string { data := #[] }, .string { data := #[] }, .string { data := #[] }, .string { data := #[] }, .string { data := #[] }, .string { data := #[] }, .string { data := #[] }, .string { data := #[] }, .string { data := #[] }, .string { data := #[] }, .string { data := #[] }, .string { data := #[] }, .string { data := #[] }] wordsA (by kernel_rfl) (by kernel_rfl) (by kernel_rfl)
  have hst2 := run_storeVar_new (P := Try.prog) w2 68 #[.string { data := #[] }, .string { data := #[] }, .string { data := #[] }, .string { data := #[] }, .string { data := #[] }, .string { data := #[] }, .string { data := #[] }, .string { data := #[] }, .string { data := #[] }, .string { data := #[] }, .string { data := #[] }, .string { data := #[] }, .string { data := #[] }, .string { data := #[] }, .string { data := #[] }, .string { data := #[] }, .string { data := #[] }, .string { data := #[] }, .string { data := #[] }, .string { data := #[] }, .string { data := #[] }] wordsA (by kernel_rfl) (by kernel_rfl) (by kernel_rfl)
  have hst3 := run_storeCells_new (P := Try.prog) w2 68 #[.string { data := #[] }, .string { data := #[] }, .string { data := #[] }, .string { data := #[] }, .string { data := #[] }, .string { data := #[] }, .string { data := #[] }, .string { data := #[] }, .string { data := #[] }, .string { data := #[] }, .string { data := #[] }, .string { data := #[] }, .string { data := #[] }, .string { data := #[] }, .string { data := #[] }, .string { data := #[] }, .string { data := #[] }, .string { data := #[] }, .string { data := #[] }, .string { data := #[] }, .string { data := #[] }] wordsA (by kernel_rfl) (by kernel_rfl) (by kernel_rfl)
  have hg3 := heap_alloc_last w2 (.cells wordsA 68)
  have hs2 := HB2.out.size
  go_upto_region 6 with fail
  have hb3 : Below w2.heap.size w2 (w2.alloc (.cells wordsA 68)) := (Below.refl _ _).alloc (Nat.le_refl _) _
  have HB3 := Lib.hid (bthen HB2.out (Nat.le_refl _) hb3)
  have HG3 := Lib.hid ((hb3.block _ (Array.getElem?_eq_some_iff.1 HG2.out).1).trans HG2.out)
  have HW3 := Lib.hid hg3
  clear hst1 hst2 hst3 hb3 hg3
  generalize (w2.alloc (.cells wordsA 68)) = w3 at *
  generalize w2.heap.size = G at *
  obtain ⟨p0, p1, p2, -, -, -⟩ := cells3h HG3.out
  obtain ⟨bi, hbi⟩ : ∃ bi, bi = decide (0 ≤ x.2.1 ∧ x.2.1 ≤ 20) := ⟨_, rfl⟩
  have HBI := Lib.hid hbi
  clear hbi
  go_cut [20] (fun s20 wx => s20 = .bool bi ∧ wx = w3)
  case first =>
    by_cases h1 : 0 ≤ x.2.1
    · have d1 : decide (0 ≤ x.2.1) = true := decide_eq_true h1
      have d2 : decide (x.2.1 < 21) = bi := by rw [HBI.out]; by_cases h2 : x.2.1 < 21 <;> simp [h2] <;> omega
      go_wp2_with fail
      go_meet
      exact ⟨rfl, rfl⟩
    · have d1 : decide (0 ≤ x.2.1) = false := decide_eq_false h1
      have d2 : bi = false := by rw [HBI.out]; exact decide_eq_false (by omega)
      subst d2
      go_wp2_with fail
      go_meet
      exact ⟨rfl, rfl⟩
  case rest =>
  obtain ⟨rfl, rfl⟩ := hcut
  go_upto_if 20 with fail
  go_cut [4] (fun s4 wx => s4 = .string (wordD x.2.1) ∧ wx = wc)
  case first =>
    cases bi with
    | true =>
      have hin : 0 ≤ x.2.1 ∧ x.2.1 ≤ 20 := of_decide_eq_true HBI.out.symm
      obtain ⟨n, hn⟩ : ∃ n : Nat, x.2.1 = (n : Int) := ⟨x.2.1.toNat, by omega⟩
      have hn21 : n < 21 := by omega
      have hcell : wc.cell? ⟨G, x.2.1.toNat, none⟩ = some (.string (wordD x.2.1)) := by
        rw [hn]
        exact (cell_of_row _ _ n _ _ _ HW3.out).trans (wordsA_at n hn21)
      clear hn hn21
      have hlt : x.2.1 < 21 := by omega
      have h0n : 0 ≤ x.2.1 := hin.1
      go_wp2_with fail
      go_meet
      exact ⟨rfl, rfl⟩
    | false =>
      have hE : wordD x.2.1 = { data := #[] } := by
        unfold wordD
        rw [if_neg (fun h => absurd HBI.out (by rw [decide_eq_true h]; decide))]
      go_wp2_with fail
      go_meet
      exact ⟨by rw [hE], rfl⟩
  case rest =>
  obtain ⟨rfl, rfl⟩ := hcut
  generalize hwd : wordD x.2.1 = wd at *
  have hb1 : ¬ 9223372036854775807 < st.size + 1 := by omega
  have hb2 : ¬ 9223372036854775807 < st.size + 1 + wd.size := by omega
  have hb3 : ¬ 9223372036854775807 < st.size + 1 + wd.size + 1 := by omega
  have hb4 : ¬ 9223372036854775807 < st.size + 1 + wd.size + 1 + p.size := by omega
  generalize hue : x.2.2.toList.isEmpty = ue at *
  cases ue with
  | true =>
    go_wp2_with fail
    go_ret
    rw [HTX.out]
    exact ⟨rfl, HB3.out⟩
  | false =>
    go_wp2_with fail
    refine (HP.out (by trivial) _).mono ?_
    rintro e w4 ⟨rfl, hb4⟩
    have HB4 := Lib.hid (bthen HB3.out (Nat.le_refl _) hb4)
    go_wp2_with fail
    go_ret
    rw [HTX.out]
    exact ⟨rfl, HB4.out⟩
end Go.Proofs.Ytbnggfhofdpdcaa
