/-
  utf: the laws UtfTexts, UtfBack: their walks.
-/
import Derived.Test.YtigeedaihbpjiaaUf
namespace Go.Proofs.Ytigeedaihbpjiaa
open Go.RowKit

theorem i32s_cell {w w' : World} {a : Option Addr} {l : List Int} {cap : Nat} (h : RdS w (.slice a l.length cap) 1 l.length (ints .i32 l)) (hb : Below w.heap.size w w') {k : Nat} (hk : k < l.length) :
    ∃ g off, a = some ⟨g, off, none⟩ ∧ l.length ≤ cap ∧ cap ≤ 9223372036854775807 ∧ w'.cell? ⟨g, off + k, none⟩ = some (.int .i32 (l[k]?.getD 0)) := by
  rcases (h.below hb).cases (by decide) with ⟨h0, _⟩ | ⟨hn, _, g, off, cap', hq, h1, h2, h3⟩
  · omega
  · injection hq with q1 q2 q3
    subst q1 q3
    exact ⟨g, off, rfl, h1, h2, h3 k _ (ints_get' .i32 l k hk)⟩
theorem take_snocI (l : List Int) (k : Nat) (h : k < l.length) : l.take (k + 1) = l.take k ++ [l[k]?.getD 0] := by
  rw [List.take_succ_eq_append_getElem h]; simp [h]
theorem valid_get {l : List Int} (h : ∀ n ∈ l, validI n = true) (k : Nat) (hk : k < l.length) : validI (l[k]?.getD 0) = true := by
  simpa [hk] using h l[k] (List.getElem_mem hk)

set_option maxRecDepth 100000 in
theorem UtfTexts_big (l : List Int) (v : Value) (w : World) (hr : RdS w v 1 l.length (ints .i32 l)) (hbig : 500 < l.length) :
    Calls Try.prog 6 #[v] w fun e w' => e = .returned (.bool true) ∧ Below w.heap.size w w' := by
  obtain ⟨a, cap, rfl⟩ := hr.form
  clear hr
  go_enter Try.func6, Try.ntmps6
  go_wp2_with fail
  refine (live03_any _).mono ?_
  rintro e w1 ⟨rfl, hb1⟩
  have hdd : decide ((500 : Int) < l.length) = true := by simp; omega
  go_wp2
  go_ret
  exact ⟨rfl, hb1⟩

set_option maxRecDepth 100000 in
set_option maxHeartbeats 1000000 in
theorem UtfTexts_ok (l : List Int) (v : Value) (w : World) (hw : ∀ n ∈ l, -2147483648 ≤ n ∧ n ≤ 2147483647) (hr : RdS w v 1 l.length (ints .i32 l)) (hbig : l.length ≤ 500)
    (hv : ∀ n ∈ l, validI n = true) :
    Calls Try.prog 6 #[v] w fun e w' => e = .returned (.bool true) ∧ Below w.heap.size w w' := by
  have HR := Lib.hid hr
  have hdd : decide ((500 : Int) < l.length) = false := by simp; omega
  obtain ⟨a, cap, rfl⟩ := hr.form
  have HT := Lib.hid (fun w' h => Text_ok l (.slice a l.length cap) w' hv (by omega) h)
  have HV := Lib.hid (valid_get hv)
  clear hr hw hv
  go_enter Try.func6, Try.ntmps6
  go_wp2_with fail
  refine (live03_any _).mono ?_
  rintro e w1 ⟨rfl, hb1⟩
  go_wp2_with fail
  refine (HT.out _ (HR.out.below hb1)).mono ?_
  rintro e w2 ⟨s2, rfl, hs2, hb2⟩
  have hA : Below w2.heap.size w2 (w2.alloc (Obj.cells #[.int .i64 0, .int .i64 0] 34)) := (Below.refl _ _).alloc (Nat.le_refl _) _
  have HD := Lib.hid (World.alloc_heap_new w2 (Obj.cells #[.int .i64 0, .int .i64 0] 34))
  have hsA : w2.heap.size < (w2.alloc (Obj.cells #[.int .i64 0, .int .i64 0] 34)).heap.size := by simp
  have hbw := bthen (bthen hb1 (Nat.le_refl _) hb2) (Nat.le_refl _) hA
  have HS2 := Lib.hid hs2; clear hs2
  clear hb1 hb2 hA HT
  go_wp2
  generalize w2.alloc (Obj.cells #[.int .i64 0, .int .i64 0] 34) = wA at *
  go_loopw [5, 6] (fun want i wr => ∃ (k : Nat) (acc : ByteArray), k ≤ l.length ∧ i = .int .i64 k ∧ want = .string acc ∧ acc.size ≤ 4 * k ∧ Hid (bsN acc = textI (l.take k)) ∧ Below w.heap.size w wr ∧ Below wA.heap.size wA wr) (fun _ i _ => l.length - (intOf i).toNat)
  case atStart => exact ⟨0, ⟨#[]⟩, by omega, rfl, rfl, by decide, Lib.hid rfl, hbw, Below.refl _ _⟩
  case round =>
    obtain ⟨k, acc, hk, rfl, rfl, hac, HA, hb, hbA⟩ := hrel
    have hD : wr.heap[w2.heap.size]? = some (.cells #[.int .i64 0, .int .i64 0] 34 (0, 0)) := (hbA.block _ hsA).trans HD.out
    obtain ⟨q0, q1, _, _⟩ := cells2 hD
    have hsr := hbA.size
    clear hD
    by_cases hlt : k < l.length
    · obtain ⟨g, off, rfl, h1, h2, hcell⟩ := i32s_cell HR.out hb (show k < l.length by omega)
      have HV1 := Lib.hid (HV.out k hlt)
      have HTK := Lib.hid (take_snocI l k (by omega))
      generalize l[k]?.getD 0 = n at *
      have hlt' : (k : Int) < l.length := by omega
      go_wp2_with fail
      refine (Rune_any _ _).mono ?_
      rintro e w' ⟨rfl, rfl⟩
      rw [HV1.out]
      go_wp2_with fail
      refine (rBytes_any n _ HV1.out).mono ?_
      rintro e w3 ⟨s3, rfl, hs3, hb3⟩
      have HS3 := Lib.hid hs3
      have hz3 : s3.size ≤ 4 := by rw [← bsN_len, hs3]; exact (encN_len _).2
      clear hs3 q0 q1
      go_wp2
      go_roundw
      case rel => exact ⟨k + 1, acc ++ s3, by omega, by go_num, rfl, by rw [ByteArray.size_append]; omega, Lib.hid (by rw [bsN_append, HA.out, HS3.out, HTK.out, textI_snoc]), bthen hb (Nat.le_refl _) hb3, bthen hbA (Nat.le_refl _) hb3⟩
      case measure => simp [intOf]; omega
    · have hkl : l.take k = l := List.take_of_length_le (by omega)
      have hse : s2 = acc := bsN_inj (by rw [HS2.out, HA.out, hkl])
      subst hse
      clear hkl
      go_wp2
      go_ret
      exact ⟨by simp, hb⟩

set_option maxRecDepth 100000 in
set_option maxHeartbeats 1000000 in
theorem UtfTexts_bad (l : List Int) (v : Value) (w : World) (hw : ∀ n ∈ l, -2147483648 ≤ n ∧ n ≤ 2147483647) (hr : RdS w v 1 l.length (ints .i32 l)) (hbig : l.length ≤ 500)
    (i0 : Nat) (hi0 : i0 < l.length) (hf0 : validI (l[i0]?.getD 0) = false) (hj0 : ∀ j, j < i0 → validI (l[j]?.getD 0) = true) :
    Calls Try.prog 6 #[v] w fun e w' => e = .returned (.bool true) ∧ Below w.heap.size w w' := by
  have HR := Lib.hid hr
  have hdd : decide ((500 : Int) < l.length) = false := by simp; omega
  obtain ⟨a, cap, rfl⟩ := hr.form
  have HT := Lib.hid (fun w' h => Text_bad l (.slice a l.length cap) w' i0 hi0 hw hf0 hj0 (by omega) h)
  have HV := Lib.hid hj0; have HF := Lib.hid hf0
  clear hr hw hf0 hj0
  go_enter Try.func6, Try.ntmps6
  go_wp2_with fail
  refine (live03_any _).mono ?_
  rintro e w1 ⟨rfl, hb1⟩
  go_wp2_with fail
  refine (HT.out _ (HR.out.below hb1)).mono ?_
  rintro e w2 ⟨rfl, hb2⟩
  have hA : Below w2.heap.size w2 (w2.alloc (Obj.cells #[.int .i64 1, .int .i64 i0] 34)) := (Below.refl _ _).alloc (Nat.le_refl _) _
  have HD := Lib.hid (World.alloc_heap_new w2 (Obj.cells #[.int .i64 1, .int .i64 i0] 34))
  have hsA : w2.heap.size < (w2.alloc (Obj.cells #[.int .i64 1, .int .i64 i0] 34)).heap.size := by simp
  have hbw := bthen (bthen hb1 (Nat.le_refl _) hb2) (Nat.le_refl _) hA
  skip
  clear hb1 hb2 hA HT
  go_wp2
  generalize w2.alloc (Obj.cells #[.int .i64 1, .int .i64 i0] 34) = wA at *
  go_loopw [5, 6] (fun want i wr => ∃ (k : Nat) (acc : ByteArray), k ≤ i0 ∧ i = .int .i64 k ∧ want = .string acc ∧ acc.size ≤ 4 * k ∧ Hid (bsN acc = textI (l.take k)) ∧ Below w.heap.size w wr ∧ Below wA.heap.size wA wr) (fun _ i _ => l.length - (intOf i).toNat)
  case atStart => exact ⟨0, ⟨#[]⟩, by omega, rfl, rfl, by decide, Lib.hid rfl, hbw, Below.refl _ _⟩
  case round =>
    obtain ⟨k, acc, hk, rfl, rfl, hac, HA, hb, hbA⟩ := hrel
    have hD : wr.heap[w2.heap.size]? = some (.cells #[.int .i64 1, .int .i64 i0] 34 (0, 0)) := (hbA.block _ hsA).trans HD.out
    obtain ⟨q0, q1, _, _⟩ := cells2 hD
    have hsr := hbA.size
    clear hD
    by_cases hlt : k < i0
    · obtain ⟨g, off, rfl, h1, h2, hcell⟩ := i32s_cell HR.out hb (show k < l.length by omega)
      have HV1 := Lib.hid (HV.out k hlt)
      have HTK := Lib.hid (take_snocI l k (by omega))
      generalize l[k]?.getD 0 = n at *
      have hlt' : (k : Int) < l.length := by omega
      go_wp2_with fail
      refine (Rune_any _ _).mono ?_
      rintro e w' ⟨rfl, rfl⟩
      rw [HV1.out]
      go_wp2_with fail
      refine (rBytes_any n _ HV1.out).mono ?_
      rintro e w3 ⟨s3, rfl, hs3, hb3⟩
      have HS3 := Lib.hid hs3
      have hz3 : s3.size ≤ 4 := by rw [← bsN_len, hs3]; exact (encN_len _).2
      clear hs3 q0 q1
      go_wp2
      go_roundw
      case rel => exact ⟨k + 1, acc ++ s3, by omega, by go_num, rfl, by rw [ByteArray.size_append]; omega, Lib.hid (by rw [bsN_append, HA.out, HS3.out, HTK.out, textI_snoc]), bthen hb (Nat.le_refl _) hb3, bthen hbA (Nat.le_refl _) hb3⟩
      case measure => simp [intOf]; omega
    · obtain rfl : k = i0 := by omega
      obtain ⟨g, off, rfl, h1, h2, hcell⟩ := i32s_cell HR.out hb hi0
      generalize l[k]?.getD 0 = n at *
      have hlt' : (k : Int) < l.length := by omega
      go_wp2_with fail
      refine (Rune_any _ _).mono ?_
      rintro e w' ⟨rfl, rfl⟩
      rw [HF.out]
      go_wp2
      go_ret
      exact ⟨by simp, hb⟩

theorem UtfTexts_any (l : List Int) (v : Value) (w : World) (hw : ∀ n ∈ l, -2147483648 ≤ n ∧ n ≤ 2147483647) (hr : RdS w v 1 l.length (ints .i32 l)) :
    Calls Try.prog 6 #[v] w fun e w' => e = .returned (.bool true) ∧ Below w.heap.size w w' := by
  by_cases hbig : 500 < l.length
  · exact UtfTexts_big l v w hr hbig
  · rcases valid_or l with hv | ⟨i0, h1, h2, h3⟩
    · exact UtfTexts_ok l v w hw hr (by omega) hv
    · exact UtfTexts_bad l v w hw hr (by omega) i0 h1 h2 h3

theorem back_first {s more : ByteArray} (h : firstX 0 (bsN s) < 0) : firstX 0 (bsN (s ++ more)) = if firstX 0 (bsN more) < 0 then -1 else (s.size : Int) + firstX 0 (bsN more) := by
  obtain ⟨h1, h2⟩ := text_runes _ (bsN s) 0 rfl (bsN_lt s) h
  have := first_text h2 0 (bsN more)
  rw [h1] at this
  rw [bsN_append, this, Nat.zero_add, bsN_len, firstX_shift _ (bsN more) s.size rfl]
theorem natsI_valid {rs : List Nat} (h : ValidAll rs) : ∀ n ∈ natsI rs, validI n = true := by
  intro n hn
  obtain ⟨c, hc, rfl⟩ := List.mem_map.1 hn
  exact (validI_nat c).2 (h c hc)
theorem natsI_toNat (rs : List Nat) : (natsI rs).map Int.toNat = rs := by
  unfold natsI; rw [List.map_map]
  conv => rhs; rw [← List.map_id rs]
  exact List.map_congr_left fun c _ => by simp
theorem ints_of_valid {l : List Int} (h : ∀ n ∈ l, validI n = true) : natsI (l.map Int.toNat) = l ∧ ValidAll (l.map Int.toNat) := by
  constructor
  · unfold natsI; rw [List.map_map]
    conv => rhs; rw [← List.map_id l]
    refine List.map_congr_left fun n hn => ?_
    have := h n hn; unfold validI at this; simp at this; simp; omega
  · intro c hc
    obtain ⟨n, hn, rfl⟩ := List.mem_map.1 hc
    have := h n hn; unfold validI at this; simp at this; unfold validN; omega

set_option maxRecDepth 100000 in
set_option maxHeartbeats 2000000 in
theorem UtfBack_ok1 (l : List Int) (v : Value) (s more : ByteArray) (w : World) (hw : ∀ n ∈ l, -2147483648 ≤ n ∧ n ≤ 2147483647) (hr : RdS w v 1 l.length (ints .i32 l)) (hbig : l.length ≤ 500) (hs : s.size ≤ 1000) (hm : more.size ≤ 1000)
    (hv : ∀ n ∈ l, validI n = true) (hfs : firstX 0 (bsN s) < 0) :
    Calls Try.prog 7 #[v, .string s, .string more] w fun e w' => e = .returned (.bool true) ∧ Below w.heap.size w w' := by
  have HR := Lib.hid hr
  have hd1 : decide ((500 : Int) < l.length) = false := by simp; omega
  have hd2 : decide ((1000 : Int) < s.size) = false := by simp; omega
  have hd3 : decide ((1000 : Int) < more.size) = false := by simp; omega
  obtain ⟨a, cap, rfl⟩ := hr.form
  have HT := Lib.hid (fun w' h => Text_ok l (.slice a l.length cap) w' hv (by omega) h)
  obtain ⟨hnl, hvl⟩ := ints_of_valid hv
  have HRT : Hid (runesR (textI l) = (l, 0, 0)) := Lib.hid (by
    unfold runesR
    have h1 := first_ok hvl 0
    have h2 := runes_text hvl
    unfold textI
    rw [h1, h2, hnl]; rfl)
  have HFT : Hid (firstX 0 (textI l) = -1) := Lib.hid (first_ok hvl 0)
  have HSZ : Hid ((textI l).length ≤ 2000) := Lib.hid (by have := textI_len l; omega)
  clear hnl hvl
  have HRS := Lib.hid (fun w => Runes_any s w (by omega))
  obtain ⟨htr, hva⟩ := text_runes _ (bsN s) 0 rfl (bsN_lt s) hfs
  have hrr : runesR (bsN s) = (natsI (runesX (bsN s)), 0, 0) := by unfold runesR; rw [if_pos hfs]
  have hlen : (natsI (runesX (bsN s))).length ≤ 1000 := by rw [natsI_len]; have := runesX_len _ (bsN s) rfl; rw [bsN_len] at this; omega
  have HTS := Lib.hid (fun v' w' h => Text_ok (natsI (runesX (bsN s))) v' w' (natsI_valid hva) (by omega) h)
  have HTX : Hid (textI (natsI (runesX (bsN s))) = bsN s) := Lib.hid (by unfold textI; rw [natsI_toNat, htr])
  have HBF := Lib.hid (fun w => First_any (s ++ more) w (by simp; omega))
  have HMF := Lib.hid (fun w => First_any more w (by omega))
  have hbf := back_first (more := more) hfs
  have hrng := firstX_range _ (bsN more) 0 rfl
  rw [hrr] at HRS
  rw [hbf] at HBF
  generalize natsI (runesX (bsN s)) = rs at *
  generalize firstX 0 (bsN more) = fm at *
  rw [bsN_len] at hrng
  obtain ⟨fb, hfb⟩ : ∃ fb : Int, fb = if fm < 0 then -1 else (s.size : Int) + fm := ⟨_, rfl⟩
  rw [← hfb] at HBF
  have hfm : (fm = -1 ∧ fb = -1) ∨ (0 ≤ fm ∧ fm < 1000 ∧ fb = (s.size : Int) + fm) := by
    by_cases h0 : fm < 0
    · rw [if_pos h0] at hfb; left; omega
    · rw [if_neg h0] at hfb; right; omega
  have HFM := Lib.hid hfm
  dsimp only at HRS
  clear hfm hfb
  clear htr hva hrr hfs hbf hrng
  clear hr hw hv
  go_enter Try.func7, Try.ntmps7
  go_wp2_with fail
  refine (live03_any _).mono ?_
  rintro e w1 ⟨rfl, hb1⟩
  go_wp2_with fail
  refine (HT.out _ (HR.out.below hb1)).mono ?_
  rintro e w2 ⟨s2, rfl, hs2, hb2⟩
  have hA : Below w2.heap.size w2 (w2.alloc (Obj.cells #[.int .i64 0, .int .i64 0] 34)) := (Below.refl _ _).alloc (Nat.le_refl _) _
  have hD := World.alloc_heap_new w2 (Obj.cells #[.int .i64 0, .int .i64 0] 34)
  have hbw := bthen (bthen hb1 (Nat.le_refl _) hb2) (Nat.le_refl _) hA
  obtain ⟨q0, q1, _, _⟩ := cells2 hD
  clear hb1 hb2 hA HT hD
  have HS2 := Lib.hid hs2
  have hsz2 : s2.size ≤ 2000 := by rw [← bsN_len, hs2]; exact HSZ.out
  clear hs2
  go_wp2_with fail
  refine (Runes_any s2 _ (by omega)).mono ?_
  rintro e w3 ⟨v3, rfl, ho3, hb3⟩
  rw [HS2.out, HRT.out] at ho3 ⊢
  dsimp only at ho3 ⊢
  have hA3 : Below w3.heap.size w3 (w3.alloc (Obj.cells #[.int .i64 0, .int .i64 0] 34)) := (Below.refl _ _).alloc (Nat.le_refl _) _
  have HO3 := Lib.hid ((RdS.of_owns ho3).below hA3)
  obtain ⟨a3, c3, rfl⟩ := (RdS.of_owns ho3).form
  have hbw3 := bthen (bthen hbw (Nat.le_refl _) hb3) (Nat.le_refl _) hA3
  have hD3 := World.alloc_heap_new w3 (Obj.cells #[.int .i64 0, .int .i64 0] 34)
  obtain ⟨p0, p1, _, _⟩ := cells2 hD3
  clear ho3 hA3 hD3 hb3 hbw q0 q1
  go_wp2_with fail
  refine (rSame_true _ _ l _ HO3.out (HR.out.below hbw3)).mono ?_
  rintro e w4 ⟨rfl, hb4⟩
  have hbw4 := bthen hbw3 (Nat.le_refl _) hb4
  clear hb4 hbw3 p0 p1
  go_wp2_with fail
  refine (First_any s2 _ (by omega)).mono ?_
  rintro e w5 ⟨rfl, hb5⟩
  rw [HS2.out, HFT.out]
  have hbw5 := bthen hbw4 (Nat.le_refl _) hb5
  clear hb5 hbw4
  go_wp2_with fail
  refine (HRS.out _).mono ?_
  rintro e w6 ⟨v6, rfl, ho6, hb6⟩
  have hA6 : Below w6.heap.size w6 (w6.alloc (Obj.cells #[.int .i64 0, .int .i64 0] 34)) := (Below.refl _ _).alloc (Nat.le_refl _) _
  have HO6 := Lib.hid ((RdS.of_owns ho6).below hA6)
  obtain ⟨a6, c6, hv6⟩ := (RdS.of_owns ho6).form
  have hbw6 := bthen (bthen hbw5 (Nat.le_refl _) hb6) (Nat.le_refl _) hA6
  have hD6 := World.alloc_heap_new w6 (Obj.cells #[.int .i64 0, .int .i64 0] 34)
  obtain ⟨r0, r1, _, _⟩ := cells2 hD6
  subst hv6
  clear ho6 hA6 hD6 hb6 hbw5
  go_wp2_with fail
  refine (HTS.out _ _ HO6.out).mono ?_
  rintro e w7 ⟨s7, rfl, hs7, hb7⟩
  rw [HTX.out] at hs7
  obtain rfl := bsN_inj hs7
  have hA7 : Below w7.heap.size w7 (w7.alloc (Obj.cells #[.int .i64 0, .int .i64 0] 34)) := (Below.refl _ _).alloc (Nat.le_refl _) _
  have hbw7 := bthen (bthen hbw6 (Nat.le_refl _) hb7) (Nat.le_refl _) hA7
  have hD7 := World.alloc_heap_new w7 (Obj.cells #[.int .i64 0, .int .i64 0] 34)
  obtain ⟨t0, t1, _, _⟩ := cells2 hD7
  clear hA7 hD7 hb7 hbw6 hs7 r0 r1
  go_wp2_with fail
  refine (HBF.out _).mono ?_
  rintro e w8 ⟨rfl, hb8⟩
  have hbw8 := bthen hbw7 (Nat.le_refl _) hb8
  clear hb8 hbw7 t0 t1
  go_wp2_with fail
  refine (HMF.out _).mono ?_
  rintro e w9 ⟨rfl, hb9⟩
  have hbw9 := bthen hbw8 (Nat.le_refl _) hb9
  clear hb9 hbw8
  rcases HFM.out with ⟨rfl, rfl⟩ | ⟨hf1, hf2, rfl⟩
  · go_wp2
    go_ret
    exact ⟨by simp, hbw9⟩
  · have e1 : decide (fm < 0) = false := by simp; omega
    have e2 : decide (0 ≤ fm) = true := by simp; omega
    have e3 : decide ((s7.size : Int) + fm < 0) = false := by simp; omega
    go_wp2
    go_ret
    exact ⟨by simp, hbw9⟩

set_option maxRecDepth 100000 in
set_option maxHeartbeats 2000000 in
theorem UtfBack_ok0 (l : List Int) (v : Value) (s more : ByteArray) (w : World) (hw : ∀ n ∈ l, -2147483648 ≤ n ∧ n ≤ 2147483647) (hr : RdS w v 1 l.length (ints .i32 l)) (hbig : l.length ≤ 500) (hs : s.size ≤ 1000) (hm : more.size ≤ 1000)
    (hv : ∀ n ∈ l, validI n = true) (hfs : ¬ firstX 0 (bsN s) < 0) :
    Calls Try.prog 7 #[v, .string s, .string more] w fun e w' => e = .returned (.bool true) ∧ Below w.heap.size w w' := by
  have HR := Lib.hid hr
  have hd1 : decide ((500 : Int) < l.length) = false := by simp; omega
  have hd2 : decide ((1000 : Int) < s.size) = false := by simp; omega
  have hd3 : decide ((1000 : Int) < more.size) = false := by simp; omega
  obtain ⟨a, cap, rfl⟩ := hr.form
  have HT := Lib.hid (fun w' h => Text_ok l (.slice a l.length cap) w' hv (by omega) h)
  obtain ⟨hnl, hvl⟩ := ints_of_valid hv
  have HRT : Hid (runesR (textI l) = (l, 0, 0)) := Lib.hid (by
    unfold runesR
    have h1 := first_ok hvl 0
    have h2 := runes_text hvl
    unfold textI
    rw [h1, h2, hnl]; rfl)
  have HFT : Hid (firstX 0 (textI l) = -1) := Lib.hid (first_ok hvl 0)
  have HSZ : Hid ((textI l).length ≤ 2000) := Lib.hid (by have := textI_len l; omega)
  clear hnl hvl
  have HRS := Lib.hid (fun w => Runes_any s w (by omega))
  have hrr : runesR (bsN s) = ([], 9, firstX 0 (bsN s)) := by unfold runesR; rw [if_neg hfs]
  rw [hrr] at HRS
  generalize firstX 0 (bsN s) = fs at *
  dsimp only at HRS
  clear hrr hfs
  clear hr hw hv
  go_enter Try.func7, Try.ntmps7
  go_wp2_with fail
  refine (live03_any _).mono ?_
  rintro e w1 ⟨rfl, hb1⟩
  go_wp2_with fail
  refine (HT.out _ (HR.out.below hb1)).mono ?_
  rintro e w2 ⟨s2, rfl, hs2, hb2⟩
  have hA : Below w2.heap.size w2 (w2.alloc (Obj.cells #[.int .i64 0, .int .i64 0] 34)) := (Below.refl _ _).alloc (Nat.le_refl _) _
  have hD := World.alloc_heap_new w2 (Obj.cells #[.int .i64 0, .int .i64 0] 34)
  have hbw := bthen (bthen hb1 (Nat.le_refl _) hb2) (Nat.le_refl _) hA
  obtain ⟨q0, q1, _, _⟩ := cells2 hD
  clear hb1 hb2 hA HT hD
  have HS2 := Lib.hid hs2
  have hsz2 : s2.size ≤ 2000 := by rw [← bsN_len, hs2]; exact HSZ.out
  clear hs2
  go_wp2_with fail
  refine (Runes_any s2 _ (by omega)).mono ?_
  rintro e w3 ⟨v3, rfl, ho3, hb3⟩
  rw [HS2.out, HRT.out] at ho3 ⊢
  dsimp only at ho3 ⊢
  have hA3 : Below w3.heap.size w3 (w3.alloc (Obj.cells #[.int .i64 0, .int .i64 0] 34)) := (Below.refl _ _).alloc (Nat.le_refl _) _
  have HO3 := Lib.hid ((RdS.of_owns ho3).below hA3)
  obtain ⟨a3, c3, rfl⟩ := (RdS.of_owns ho3).form
  have hbw3 := bthen (bthen hbw (Nat.le_refl _) hb3) (Nat.le_refl _) hA3
  have hD3 := World.alloc_heap_new w3 (Obj.cells #[.int .i64 0, .int .i64 0] 34)
  obtain ⟨p0, p1, _, _⟩ := cells2 hD3
  clear ho3 hA3 hD3 hb3 hbw q0 q1
  go_wp2_with fail
  refine (rSame_true _ _ l _ HO3.out (HR.out.below hbw3)).mono ?_
  rintro e w4 ⟨rfl, hb4⟩
  have hbw4 := bthen hbw3 (Nat.le_refl _) hb4
  clear hb4 hbw3 p0 p1
  go_wp2_with fail
  refine (First_any s2 _ (by omega)).mono ?_
  rintro e w5 ⟨rfl, hb5⟩
  rw [HS2.out, HFT.out]
  have hbw5 := bthen hbw4 (Nat.le_refl _) hb5
  clear hb5 hbw4
  go_wp2_with fail
  refine (HRS.out _).mono ?_
  rintro e w6 ⟨v6, rfl, ho6, hb6⟩
  have hA6 : Below w6.heap.size w6 (w6.alloc (Obj.cells #[.int .i64 9, .int .i64 fs] 34)) := (Below.refl _ _).alloc (Nat.le_refl _) _
  have HO6 := Lib.hid ((RdS.of_owns ho6).below hA6)
  obtain ⟨a6, c6, hv6⟩ := (RdS.of_owns ho6).form
  have hbw6 := bthen (bthen hbw5 (Nat.le_refl _) hb6) (Nat.le_refl _) hA6
  have hD6 := World.alloc_heap_new w6 (Obj.cells #[.int .i64 9, .int .i64 fs] 34)
  obtain ⟨r0, r1, _, _⟩ := cells2 hD6
  subst hv6
  clear ho6 hA6 hD6 hb6 hbw5
  go_wp2
  go_ret
  exact ⟨rfl, hbw6⟩

set_option maxRecDepth 100000 in
set_option maxHeartbeats 2000000 in
theorem UtfBack_bad1 (l : List Int) (v : Value) (s more : ByteArray) (w : World) (hw : ∀ n ∈ l, -2147483648 ≤ n ∧ n ≤ 2147483647) (hr : RdS w v 1 l.length (ints .i32 l)) (hbig : l.length ≤ 500) (hs : s.size ≤ 1000) (hm : more.size ≤ 1000)
    (i0 : Nat) (hi0 : i0 < l.length) (hf0 : validI (l[i0]?.getD 0) = false) (hj0 : ∀ j, j < i0 → validI (l[j]?.getD 0) = true) (hfs : firstX 0 (bsN s) < 0) :
    Calls Try.prog 7 #[v, .string s, .string more] w fun e w' => e = .returned (.bool true) ∧ Below w.heap.size w w' := by
  have HR := Lib.hid hr
  have hd1 : decide ((500 : Int) < l.length) = false := by simp; omega
  have hd2 : decide ((1000 : Int) < s.size) = false := by simp; omega
  have hd3 : decide ((1000 : Int) < more.size) = false := by simp; omega
  obtain ⟨a, cap, rfl⟩ := hr.form
  have HT := Lib.hid (fun w' h => Text_bad l (.slice a l.length cap) w' i0 hi0 hw hf0 hj0 (by omega) h)
  have HRS := Lib.hid (fun w => Runes_any s w (by omega))
  obtain ⟨htr, hva⟩ := text_runes _ (bsN s) 0 rfl (bsN_lt s) hfs
  have hrr : runesR (bsN s) = (natsI (runesX (bsN s)), 0, 0) := by unfold runesR; rw [if_pos hfs]
  have hlen : (natsI (runesX (bsN s))).length ≤ 1000 := by rw [natsI_len]; have := runesX_len _ (bsN s) rfl; rw [bsN_len] at this; omega
  have HTS := Lib.hid (fun v' w' h => Text_ok (natsI (runesX (bsN s))) v' w' (natsI_valid hva) (by omega) h)
  have HTX : Hid (textI (natsI (runesX (bsN s))) = bsN s) := Lib.hid (by unfold textI; rw [natsI_toNat, htr])
  have HBF := Lib.hid (fun w => First_any (s ++ more) w (by simp; omega))
  have HMF := Lib.hid (fun w => First_any more w (by omega))
  have hbf := back_first (more := more) hfs
  have hrng := firstX_range _ (bsN more) 0 rfl
  rw [hrr] at HRS
  rw [hbf] at HBF
  generalize natsI (runesX (bsN s)) = rs at *
  generalize firstX 0 (bsN more) = fm at *
  rw [bsN_len] at hrng
  obtain ⟨fb, hfb⟩ : ∃ fb : Int, fb = if fm < 0 then -1 else (s.size : Int) + fm := ⟨_, rfl⟩
  rw [← hfb] at HBF
  have hfm : (fm = -1 ∧ fb = -1) ∨ (0 ≤ fm ∧ fm < 1000 ∧ fb = (s.size : Int) + fm) := by
    by_cases h0 : fm < 0
    · rw [if_pos h0] at hfb; left; omega
    · rw [if_neg h0] at hfb; right; omega
  have HFM := Lib.hid hfm
  dsimp only at HRS
  clear hfm hfb
  clear htr hva hrr hfs hbf hrng
  clear hr hw hf0 hj0 hi0
  go_enter Try.func7, Try.ntmps7
  go_wp2_with fail
  refine (live03_any _).mono ?_
  rintro e w1 ⟨rfl, hb1⟩
  go_wp2_with fail
  refine (HT.out _ (HR.out.below hb1)).mono ?_
  rintro e w2 ⟨rfl, hb2⟩
  have hA : Below w2.heap.size w2 (w2.alloc (Obj.cells #[.int .i64 1, .int .i64 i0] 34)) := (Below.refl _ _).alloc (Nat.le_refl _) _
  have hD := World.alloc_heap_new w2 (Obj.cells #[.int .i64 1, .int .i64 i0] 34)
  have hbw := bthen (bthen hb1 (Nat.le_refl _) hb2) (Nat.le_refl _) hA
  obtain ⟨q0, q1, _, _⟩ := cells2 hD
  clear hb1 hb2 hA HT hD
  go_wp2_with fail
  refine (HRS.out _).mono ?_
  rintro e w6 ⟨v6, rfl, ho6, hb6⟩
  have hA6 : Below w6.heap.size w6 (w6.alloc (Obj.cells #[.int .i64 0, .int .i64 0] 34)) := (Below.refl _ _).alloc (Nat.le_refl _) _
  have HO6 := Lib.hid ((RdS.of_owns ho6).below hA6)
  obtain ⟨a6, c6, hv6⟩ := (RdS.of_owns ho6).form
  have hbw6 := bthen (bthen hbw (Nat.le_refl _) hb6) (Nat.le_refl _) hA6
  have hD6 := World.alloc_heap_new w6 (Obj.cells #[.int .i64 0, .int .i64 0] 34)
  obtain ⟨r0, r1, _, _⟩ := cells2 hD6
  subst hv6
  clear ho6 hA6 hD6 hb6 hbw
  go_wp2_with fail
  refine (HTS.out _ _ HO6.out).mono ?_
  rintro e w7 ⟨s7, rfl, hs7, hb7⟩
  rw [HTX.out] at hs7
  obtain rfl := bsN_inj hs7
  have hA7 : Below w7.heap.size w7 (w7.alloc (Obj.cells #[.int .i64 0, .int .i64 0] 34)) := (Below.refl _ _).alloc (Nat.le_refl _) _
  have hbw7 := bthen (bthen hbw6 (Nat.le_refl _) hb7) (Nat.le_refl _) hA7
  have hD7 := World.alloc_heap_new w7 (Obj.cells #[.int .i64 0, .int .i64 0] 34)
  obtain ⟨t0, t1, _, _⟩ := cells2 hD7
  clear hA7 hD7 hb7 hbw6 hs7 r0 r1
  go_wp2_with fail
  refine (HBF.out _).mono ?_
  rintro e w8 ⟨rfl, hb8⟩
  have hbw8 := bthen hbw7 (Nat.le_refl _) hb8
  clear hb8 hbw7 t0 t1
  go_wp2_with fail
  refine (HMF.out _).mono ?_
  rintro e w9 ⟨rfl, hb9⟩
  have hbw9 := bthen hbw8 (Nat.le_refl _) hb9
  clear hb9 hbw8
  rcases HFM.out with ⟨rfl, rfl⟩ | ⟨hf1, hf2, rfl⟩
  · go_wp2
    go_ret
    exact ⟨by simp, hbw9⟩
  · have e1 : decide (fm < 0) = false := by simp; omega
    have e2 : decide (0 ≤ fm) = true := by simp; omega
    have e3 : decide ((s7.size : Int) + fm < 0) = false := by simp; omega
    go_wp2
    go_ret
    exact ⟨by simp, hbw9⟩

set_option maxRecDepth 100000 in
set_option maxHeartbeats 2000000 in
theorem UtfBack_bad0 (l : List Int) (v : Value) (s more : ByteArray) (w : World) (hw : ∀ n ∈ l, -2147483648 ≤ n ∧ n ≤ 2147483647) (hr : RdS w v 1 l.length (ints .i32 l)) (hbig : l.length ≤ 500) (hs : s.size ≤ 1000) (hm : more.size ≤ 1000)
    (i0 : Nat) (hi0 : i0 < l.length) (hf0 : validI (l[i0]?.getD 0) = false) (hj0 : ∀ j, j < i0 → validI (l[j]?.getD 0) = true) (hfs : ¬ firstX 0 (bsN s) < 0) :
    Calls Try.prog 7 #[v, .string s, .string more] w fun e w' => e = .returned (.bool true) ∧ Below w.heap.size w w' := by
  have HR := Lib.hid hr
  have hd1 : decide ((500 : Int) < l.length) = false := by simp; omega
  have hd2 : decide ((1000 : Int) < s.size) = false := by simp; omega
  have hd3 : decide ((1000 : Int) < more.size) = false := by simp; omega
  obtain ⟨a, cap, rfl⟩ := hr.form
  have HT := Lib.hid (fun w' h => Text_bad l (.slice a l.length cap) w' i0 hi0 hw hf0 hj0 (by omega) h)
  have HRS := Lib.hid (fun w => Runes_any s w (by omega))
  have hrr : runesR (bsN s) = ([], 9, firstX 0 (bsN s)) := by unfold runesR; rw [if_neg hfs]
  rw [hrr] at HRS
  generalize firstX 0 (bsN s) = fs at *
  dsimp only at HRS
  clear hrr hfs
  clear hr hw hf0 hj0 hi0
  go_enter Try.func7, Try.ntmps7
  go_wp2_with fail
  refine (live03_any _).mono ?_
  rintro e w1 ⟨rfl, hb1⟩
  go_wp2_with fail
  refine (HT.out _ (HR.out.below hb1)).mono ?_
  rintro e w2 ⟨rfl, hb2⟩
  have hA : Below w2.heap.size w2 (w2.alloc (Obj.cells #[.int .i64 1, .int .i64 i0] 34)) := (Below.refl _ _).alloc (Nat.le_refl _) _
  have hD := World.alloc_heap_new w2 (Obj.cells #[.int .i64 1, .int .i64 i0] 34)
  have hbw := bthen (bthen hb1 (Nat.le_refl _) hb2) (Nat.le_refl _) hA
  obtain ⟨q0, q1, _, _⟩ := cells2 hD
  clear hb1 hb2 hA HT hD
  go_wp2_with fail
  refine (HRS.out _).mono ?_
  rintro e w6 ⟨v6, rfl, ho6, hb6⟩
  have hA6 : Below w6.heap.size w6 (w6.alloc (Obj.cells #[.int .i64 9, .int .i64 fs] 34)) := (Below.refl _ _).alloc (Nat.le_refl _) _
  have HO6 := Lib.hid ((RdS.of_owns ho6).below hA6)
  obtain ⟨a6, c6, hv6⟩ := (RdS.of_owns ho6).form
  have hbw6 := bthen (bthen hbw (Nat.le_refl _) hb6) (Nat.le_refl _) hA6
  have hD6 := World.alloc_heap_new w6 (Obj.cells #[.int .i64 9, .int .i64 fs] 34)
  obtain ⟨r0, r1, _, _⟩ := cells2 hD6
  subst hv6
  clear ho6 hA6 hD6 hb6 hbw
  go_wp2
  go_ret
  exact ⟨rfl, hbw6⟩

set_option maxRecDepth 100000 in
theorem UtfBack_big (l : List Int) (v : Value) (s more : ByteArray) (w : World) (hr : RdS w v 1 l.length (ints .i32 l)) (hs : s.size ≤ 9223372036854775807) (hm : more.size ≤ 9223372036854775807) (h : 500 < l.length ∨ 1000 < s.size ∨ 1000 < more.size) :
    Calls Try.prog 7 #[v, .string s, .string more] w fun e w' => e = .returned (.bool true) ∧ Below w.heap.size w w' := by
  obtain ⟨a, cap, rfl⟩ := hr.form
  clear hr
  by_cases h1 : 500 < l.length
  · have hd1 : decide ((500 : Int) < l.length) = true := by simp; omega
    clear h
    go_enter Try.func7, Try.ntmps7
    go_wp2_with fail
    refine (live03_any _).mono ?_
    rintro e w1 ⟨rfl, hb1⟩
    go_wp2
    go_ret
    exact ⟨rfl, hb1⟩
  · have hd1 : decide ((500 : Int) < l.length) = false := by simp; omega
    by_cases h2 : 1000 < s.size
    · have hd2 : decide ((1000 : Int) < s.size) = true := by simp; omega
      clear h
      go_enter Try.func7, Try.ntmps7
      go_wp2_with fail
      refine (live03_any _).mono ?_
      rintro e w1 ⟨rfl, hb1⟩
      go_wp2
      go_ret
      exact ⟨rfl, hb1⟩
    · have hd2 : decide ((1000 : Int) < s.size) = false := by simp; omega
      have hd3 : decide ((1000 : Int) < more.size) = true := by simp; omega
      clear h
      go_enter Try.func7, Try.ntmps7
      go_wp2_with fail
      refine (live03_any _).mono ?_
      rintro e w1 ⟨rfl, hb1⟩
      go_wp2
      go_ret
      exact ⟨rfl, hb1⟩
theorem UtfBack_any (l : List Int) (v : Value) (s more : ByteArray) (w : World) (hw : ∀ n ∈ l, -2147483648 ≤ n ∧ n ≤ 2147483647) (hr : RdS w v 1 l.length (ints .i32 l)) (hs : s.size ≤ 9223372036854775807) (hm : more.size ≤ 9223372036854775807) :
    Calls Try.prog 7 #[v, .string s, .string more] w fun e w' => e = .returned (.bool true) ∧ Below w.heap.size w w' := by
  by_cases h : 500 < l.length ∨ 1000 < s.size ∨ 1000 < more.size
  · exact UtfBack_big l v s more w hr hs hm h
  · rcases valid_or l with hv | ⟨i0, h1, h2, h3⟩
    · by_cases hf : firstX 0 (bsN s) < 0
      · exact UtfBack_ok1 l v s more w hw hr (by omega) (by omega) (by omega) hv hf
      · exact UtfBack_ok0 l v s more w hw hr (by omega) (by omega) (by omega) hv hf
    · by_cases hf : firstX 0 (bsN s) < 0
      · exact UtfBack_bad1 l v s more w hw hr (by omega) (by omega) (by omega) i0 h1 h2 h3 hf
      · exact UtfBack_bad0 l v s more w hw hr (by omega) (by omega) (by omega) i0 h1 h2 h3 hf
end Go.Proofs.Ytigeedaihbpjiaa
