/-
  utf: the reference's Rune and One: contracts.
-/
import Derived.Test.YtigeedaihbpjiaaUb
namespace Go.Proofs.Ytigeedaihbpjiaa
open Go.RowKit

instance (c : Nat) : Decidable (validN c) := by unfold validN; infer_instance
def validI (n : Int) : Bool := decide ((0 ≤ n ∧ n < 55296) ∨ (57344 ≤ n ∧ n ≤ 1114111))
theorem validI_nat (c : Nat) : validI (c : Int) = true ↔ validN c := by unfold validI validN; simp; omega
set_option maxRecDepth 100000 in
theorem Rune_any (n : Int) (w : World) :
    Calls Try.prog 38 #[.int .i32 n] w fun e w' => e = .returned (.bool (validI n)) ∧ w = w' := by
  have hc : (n < 0 ∧ validI n = false) ∨ (0 ≤ n ∧ n < 55296 ∧ validI n = true) ∨ (55296 ≤ n ∧ n ≤ 57343 ∧ validI n = false) ∨ (57344 ≤ n ∧ n ≤ 1114111 ∧ validI n = true) ∨ (1114112 ≤ n ∧ validI n = false) := by
    unfold validI; simp; omega
  rcases hc with ⟨h1, h⟩ | ⟨h1, h2, h⟩ | ⟨h1, h2, h⟩ | ⟨h1, h2, h⟩ | ⟨h1, h⟩
  · rw [h]; clear h
    have d1 : decide (0 ≤ n) = false := by simp; omega
    go_enter Try.func38, Try.ntmps38
    go_wp2
    go_ret
    exact ⟨rfl, rfl⟩
  · rw [h]; clear h
    have d1 : decide (0 ≤ n) = true := by simp; omega
    have d2 : decide (n ≤ 1114111) = true := by simp; omega
    have d3 : decide (n < 55296) = true := by simp; omega
    go_enter Try.func38, Try.ntmps38
    go_wp2
    go_ret
    exact ⟨rfl, rfl⟩
  · rw [h]; clear h
    have d1 : decide (0 ≤ n) = true := by simp; omega
    have d2 : decide (n ≤ 1114111) = true := by simp; omega
    have d3 : decide (n < 55296) = false := by simp; omega
    have d4 : decide (57343 < n) = false := by simp; omega
    go_enter Try.func38, Try.ntmps38
    go_wp2
    go_ret
    exact ⟨rfl, rfl⟩
  · rw [h]; clear h
    have d1 : decide (0 ≤ n) = true := by simp; omega
    have d2 : decide (n ≤ 1114111) = true := by simp; omega
    have d3 : decide (n < 55296) = false := by simp; omega
    have d4 : decide (57343 < n) = true := by simp; omega
    go_enter Try.func38, Try.ntmps38
    go_wp2
    go_ret
    exact ⟨rfl, rfl⟩
  · rw [h]; clear h
    have d1 : decide (0 ≤ n) = true := by simp; omega
    have d2 : decide (n ≤ 1114111) = false := by simp; omega
    go_enter Try.func38, Try.ntmps38
    go_wp2
    go_ret
    exact ⟨rfl, rfl⟩

/-- The rune with which bytes begin, as the reference tells it. -/
def oneN (l : List Nat) : Nat × Nat := if badL l then (0, 0) else ((decH l).2, (decH l).1)
/-- The number of the bytes up to a place, of a first byte of so much. -/
def accN (l : List Nat) (base : Nat) : Nat → Nat
  | 0 => 0
  | 1 => l[0]?.getD 0 - base
  | j + 2 => accN l base (j + 1) * 64 + (l[j + 1]?.getD 0 - 128)
def contN (l : List Nat) (m : Nat) : Prop := 128 ≤ l[m]?.getD 0 ∧ l[m]?.getD 0 < 192
theorem accN_succ (l : List Nat) (base j : Nat) (h : 1 ≤ j) : accN l base (j + 1) = accN l base j * 64 + (l[j]?.getD 0 - 128) := by
  cases j with
  | zero => omega
  | succ j => rfl
theorem one_low {l : List Nat} (h : l[0]?.getD 0 < 128) : oneN l = (1, l[0]?.getD 0) := by
  have e : decH l = (l[0]?.getD 0, 1) := by unfold decH Lib.decodeN; rw [if_pos h]
  unfold oneN badL
  rw [e, if_neg (by simp; omega)]
theorem one_odd {l : List Nat} (h : (128 ≤ l[0]?.getD 0 ∧ l[0]?.getD 0 < 192) ∨ 248 ≤ l[0]?.getD 0) : oneN l = (0, 0) := by
  have e : decH l = (65533, 1) := by
    unfold decH Lib.decodeN
    rw [if_neg (by omega), if_neg (by omega), if_neg (by omega), if_neg (by omega)]
  unfold oneN badL
  rw [e]; rfl

set_option maxRecDepth 100000 in
theorem one_k1 {l : List Nat} (hb : AllLt 256 l) (h : 192 ≤ l[0]?.getD 0 ∧ l[0]?.getD 0 < 224) (hl : 1 < l.length) (hc : contN l 1) :
    oneN l = if accN l 192 2 < 128 ∨ validI (accN l 192 2 : Nat) = false then (0, 0) else (2, accN l 192 2) := by
  unfold contN at hc
  have ha : accN l 192 2 = ((l[0]?.getD 0 - 192) * 64 + (l[1]?.getD 0 - 128)) := rfl
  have hv : validI (accN l 192 2 : Nat) = false ↔ ¬ validN (accN l 192 2) := by
    rw [← validI_nat]; simp
  have e : decH l = if accN l 192 2 < 128 ∨ ¬ validN (accN l 192 2) then (65533, 1) else (accN l 192 2, 2) := by
    unfold decH Lib.decodeN validN
    rw [ha]
    generalize l[0]?.getD 0 = b0 at *
    generalize l[1]?.getD 0 = b1 at *
    generalize l[2]?.getD 0 = b2 at *
    generalize l[3]?.getD 0 = b3 at *
    repeat' split
    all_goals first
      | (exfalso; omega)
      | rfl
      | (refine Prod.ext ?_ rfl; dsimp only; omega)
  unfold oneN badL
  rw [e]
  by_cases hh : accN l 192 2 < 128 ∨ ¬ validN (accN l 192 2)
  · rw [if_pos hh, if_pos (hh.imp id hv.2)]; rfl
  · rw [if_neg hh, if_neg (by intro hq; have := of_decide_eq_true hq; injection this with _ h2; omega), if_neg (fun hq => hh (hq.imp id hv.1))]
set_option maxRecDepth 100000 in
theorem one_k1_bad {l : List Nat} (h : 192 ≤ l[0]?.getD 0 ∧ l[0]?.getD 0 < 224) (hn : l.length ≤ 1 ∨ ∃ m, 1 ≤ m ∧ m ≤ 1 ∧ ¬ contN l m) (hb : AllLt 256 l) : oneN l = (0, 0) := by
  have h1 := getD_lt hb 1
  have h2 := getD_lt hb 2
  have h3 := getD_lt hb 3
  have hn2 : l.length ≤ 1 ∨ ¬ contN l 1 := by
    rcases hn with hn | ⟨m, m1, m2, hm⟩
    · exact .inl hn
    · have : m = 1 := by omega
      rcases this with rfl
      all_goals simp [hm]
  unfold contN at hn2
  have e : decH l = (65533, 1) := by
    unfold decH Lib.decodeN
    generalize l[0]?.getD 0 = b0 at *
    generalize l[1]?.getD 0 = b1 at *
    generalize l[2]?.getD 0 = b2 at *
    generalize l[3]?.getD 0 = b3 at *
    repeat' split
    all_goals first
      | rfl
      | (exfalso; omega)
  unfold oneN badL
  rw [e]; rfl

set_option maxRecDepth 100000 in
theorem one_k2 {l : List Nat} (hb : AllLt 256 l) (h : 224 ≤ l[0]?.getD 0 ∧ l[0]?.getD 0 < 240) (hl : 2 < l.length) (hc : contN l 1 ∧ contN l 2) :
    oneN l = if accN l 224 3 < 2048 ∨ validI (accN l 224 3 : Nat) = false then (0, 0) else (3, accN l 224 3) := by
  unfold contN at hc
  have ha : accN l 224 3 = (((l[0]?.getD 0 - 224) * 64 + (l[1]?.getD 0 - 128)) * 64 + (l[2]?.getD 0 - 128)) := rfl
  have hv : validI (accN l 224 3 : Nat) = false ↔ ¬ validN (accN l 224 3) := by
    rw [← validI_nat]; simp
  have e : decH l = if accN l 224 3 < 2048 ∨ ¬ validN (accN l 224 3) then (65533, 1) else (accN l 224 3, 3) := by
    unfold decH Lib.decodeN validN
    rw [ha]
    generalize l[0]?.getD 0 = b0 at *
    generalize l[1]?.getD 0 = b1 at *
    generalize l[2]?.getD 0 = b2 at *
    generalize l[3]?.getD 0 = b3 at *
    repeat' split
    all_goals first
      | (exfalso; omega)
      | rfl
      | (refine Prod.ext ?_ rfl; dsimp only; omega)
  unfold oneN badL
  rw [e]
  by_cases hh : accN l 224 3 < 2048 ∨ ¬ validN (accN l 224 3)
  · rw [if_pos hh, if_pos (hh.imp id hv.2)]; rfl
  · rw [if_neg hh, if_neg (by intro hq; have := of_decide_eq_true hq; injection this with _ h2; omega), if_neg (fun hq => hh (hq.imp id hv.1))]
set_option maxRecDepth 100000 in
theorem one_k2_bad {l : List Nat} (h : 224 ≤ l[0]?.getD 0 ∧ l[0]?.getD 0 < 240) (hn : l.length ≤ 2 ∨ ∃ m, 1 ≤ m ∧ m ≤ 2 ∧ ¬ contN l m) (hb : AllLt 256 l) : oneN l = (0, 0) := by
  have h1 := getD_lt hb 1
  have h2 := getD_lt hb 2
  have h3 := getD_lt hb 3
  have hn2 : l.length ≤ 2 ∨ ¬ contN l 1 ∨ ¬ contN l 2 := by
    rcases hn with hn | ⟨m, m1, m2, hm⟩
    · exact .inl hn
    · have : m = 1 ∨ m = 2 := by omega
      rcases this with rfl | rfl
      all_goals simp [hm]
  unfold contN at hn2
  have e : decH l = (65533, 1) := by
    unfold decH Lib.decodeN
    generalize l[0]?.getD 0 = b0 at *
    generalize l[1]?.getD 0 = b1 at *
    generalize l[2]?.getD 0 = b2 at *
    generalize l[3]?.getD 0 = b3 at *
    repeat' split
    all_goals first
      | rfl
      | (exfalso; omega)
  unfold oneN badL
  rw [e]; rfl

set_option maxRecDepth 100000 in
theorem one_k3 {l : List Nat} (hb : AllLt 256 l) (h : 240 ≤ l[0]?.getD 0 ∧ l[0]?.getD 0 < 248) (hl : 3 < l.length) (hc : contN l 1 ∧ contN l 2 ∧ contN l 3) :
    oneN l = if accN l 240 4 < 65536 ∨ validI (accN l 240 4 : Nat) = false then (0, 0) else (4, accN l 240 4) := by
  unfold contN at hc
  have ha : accN l 240 4 = ((((l[0]?.getD 0 - 240) * 64 + (l[1]?.getD 0 - 128)) * 64 + (l[2]?.getD 0 - 128)) * 64 + (l[3]?.getD 0 - 128)) := rfl
  have hv : validI (accN l 240 4 : Nat) = false ↔ ¬ validN (accN l 240 4) := by
    rw [← validI_nat]; simp
  have e : decH l = if accN l 240 4 < 65536 ∨ ¬ validN (accN l 240 4) then (65533, 1) else (accN l 240 4, 4) := by
    unfold decH Lib.decodeN validN
    rw [ha]
    generalize l[0]?.getD 0 = b0 at *
    generalize l[1]?.getD 0 = b1 at *
    generalize l[2]?.getD 0 = b2 at *
    generalize l[3]?.getD 0 = b3 at *
    repeat' split
    all_goals first
      | (exfalso; omega)
      | rfl
      | (refine Prod.ext ?_ rfl; dsimp only; omega)
  unfold oneN badL
  rw [e]
  by_cases hh : accN l 240 4 < 65536 ∨ ¬ validN (accN l 240 4)
  · rw [if_pos hh, if_pos (hh.imp id hv.2)]; rfl
  · rw [if_neg hh, if_neg (by intro hq; have := of_decide_eq_true hq; injection this with _ h2; omega), if_neg (fun hq => hh (hq.imp id hv.1))]
set_option maxRecDepth 100000 in
theorem one_k3_bad {l : List Nat} (h : 240 ≤ l[0]?.getD 0 ∧ l[0]?.getD 0 < 248) (hn : l.length ≤ 3 ∨ ∃ m, 1 ≤ m ∧ m ≤ 3 ∧ ¬ contN l m) (hb : AllLt 256 l) : oneN l = (0, 0) := by
  have h1 := getD_lt hb 1
  have h2 := getD_lt hb 2
  have h3 := getD_lt hb 3
  have hn2 : l.length ≤ 3 ∨ ¬ contN l 1 ∨ ¬ contN l 2 ∨ ¬ contN l 3 := by
    rcases hn with hn | ⟨m, m1, m2, hm⟩
    · exact .inl hn
    · have : m = 1 ∨ m = 2 ∨ m = 3 := by omega
      rcases this with rfl | rfl | rfl
      all_goals simp [hm]
  unfold contN at hn2
  have e : decH l = (65533, 1) := by
    unfold decH Lib.decodeN
    generalize l[0]?.getD 0 = b0 at *
    generalize l[1]?.getD 0 = b1 at *
    generalize l[2]?.getD 0 = b2 at *
    generalize l[3]?.getD 0 = b3 at *
    repeat' split
    all_goals first
      | rfl
      | (exfalso; omega)
  unfold oneN badL
  rw [e]; rfl

theorem byte_drop (s : ByteArray) (p j : Nat) (h : p + j < s.size) : s[p + j].toNat = ((bsN s).drop p)[j]?.getD 0 := by
  rw [byte_at s (p + j) h, List.getElem?_drop]
def tupO (x : Nat × Nat) : Value := .tuple #[.int .i64 x.1, .int .i32 x.2]
set_option maxRecDepth 100000 in
theorem One_low (s : ByteArray) (p : Nat) (w : World) (hp : p < s.size) (hs : s.size ≤ 9223372036854775807) (h : s[p].toNat < 128) :
    Calls Try.prog 77 #[.string s, .int .i64 p] w fun e w' => e = .returned (tupO (oneN ((bsN s).drop p))) ∧ w = w' := by
  have hb : s[p].toNat = ((bsN s).drop p)[0]?.getD 0 := byte_drop s p 0 hp
  have h256 : s[p].toNat < 256 := s[p].toNat_lt
  have h1 := one_low (l := (bsN s).drop p) (by rw [← hb]; exact h)
  rw [h1, ← hb]
  clear h1 hb
  go_enter Try.func77, Try.ntmps77
  go_wp2
  go_ret2
  exact ⟨rfl, rfl⟩
set_option maxRecDepth 100000 in
theorem One_odd (s : ByteArray) (p : Nat) (w : World) (hp : p < s.size) (hs : s.size ≤ 9223372036854775807) (h : (128 ≤ s[p].toNat ∧ s[p].toNat < 192) ∨ 248 ≤ s[p].toNat) :
    Calls Try.prog 77 #[.string s, .int .i64 p] w fun e w' => e = .returned (tupO (oneN ((bsN s).drop p))) ∧ w = w' := by
  have hb : s[p].toNat = ((bsN s).drop p)[0]?.getD 0 := byte_drop s p 0 hp
  have h256 : s[p].toNat < 256 := s[p].toNat_lt
  have h1 := one_odd (l := (bsN s).drop p) (by rw [← hb]; exact h)
  rw [h1]
  clear h1 hb
  rcases h with ⟨h1, h2⟩ | h1
  all_goals
    go_enter Try.func77, Try.ntmps77
    go_wp2
    go_ret2
    exact ⟨rfl, rfl⟩

set_option maxRecDepth 100000 in
set_option maxHeartbeats 1000000 in
theorem One_k1 (s : ByteArray) (p : Nat) (w : World) (hp : p < s.size) (hs : s.size ≤ 9223372036854775807) (h1 : 192 ≤ s[p].toNat) (h2 : s[p].toNat < 224) :
    Calls Try.prog 77 #[.string s, .int .i64 p] w fun e w' => e = .returned (tupO (oneN ((bsN s).drop p))) ∧ w = w' := by
  have hb0 : s[p].toNat = ((bsN s).drop p)[0]?.getD 0 := byte_drop s p 0 hp
  have hbl : AllLt 256 ((bsN s).drop p) := fun b hb => bsN_lt s b (List.mem_of_mem_drop hb)
  have hll : ((bsN s).drop p).length = s.size - p := by rw [List.length_drop, bsN_len]
  have hcl : 192 ≤ ((bsN s).drop p)[0]?.getD 0 ∧ ((bsN s).drop p)[0]?.getD 0 < 224 := by rw [← hb0]; exact ⟨h1, h2⟩
  have HBAD := Lib.hid (fun hn => one_k1_bad hcl hn hbl)
  have HOK := Lib.hid (fun hl hc => one_k1 hbl hcl hl hc)
  have HA1 : Hid (accN ((bsN s).drop p) 192 1 = s[p].toNat - 192) := Lib.hid (by rw [hb0]; rfl)
  have HLL := Lib.hid hll
  clear hb0 hbl hll hcl
  have ec : ((s[p].toNat : Int) - 192) = ((s[p].toNat - 192 : Nat) : Int) := by omega
  have t1 : decide ((s[p].toNat : Int) < 128) = false := by simp; omega
  have t1a : decide ((192 : Int) ≤ (s[p].toNat : Int)) = true := by simp; omega
  have t1b : decide ((s[p].toNat : Int) < 224) = true := by simp; omega
  by_cases hk : s.size ≤ p + 1
  · have HB := Lib.hid (HBAD.out (.inl (by rw [HLL.out]; omega)))
    clear ec
    go_enter Try.func77, Try.ntmps77
    go_wp2
    go_ret2
    exact ⟨by rw [HB.out]; rfl, rfl⟩
  · have EC := Lib.hid ec
    have tk : decide ((s.size : Int) - (p : Int) ≤ 1) = false := by simp; omega
    clear ec
    go_enter Try.func77, Try.ntmps77
    go_wp2
    go_loop [8, 10] (fun n i => ∃ j acc : Nat, 1 ≤ j ∧ j ≤ 2 ∧ i = .int .i64 j ∧ n = .int .i32 acc ∧ Hid (acc = accN ((bsN s).drop p) 192 j) ∧ Hid (acc < 32 * 64 ^ (j - 1)) ∧ Hid (∀ m, 1 ≤ m → m < j → contN ((bsN s).drop p) m)) (fun _ i => 2 - (intOf i).toNat)
    case atStart => exact ⟨1, s[p].toNat - 192, by omega, by omega, rfl, by rw [← EC.out], Lib.hid HA1.out.symm, Lib.hid (by simp; omega), Lib.hid (fun m h1 h2 => by omega)⟩
    case round =>
      obtain ⟨j, acc, hj1, hj2, rfl, rfl, HA, HB, HC⟩ := hrel
      by_cases hlt : j ≤ 1
      · have hbd : acc < 131072 := by
          have := HB.out
          have e : (64 : Nat) ^ (j - 1) ≤ 64 ^ 2 := Nat.pow_le_pow_right (by decide) (by omega)
          omega
        have hpj : p + j < s.size := by omega
        have hby := byte_drop s p j hpj
        have HBY := Lib.hid hby
        have hi0 : (0 : Int) ≤ (p : Int) + (j : Int) := by omega
        have hi1 : (p : Int) + (j : Int) < (s.size : Int) := by omega
        have h256 : s[p + j].toNat < 256 := s[p + j].toNat_lt
        clear hby
        by_cases hc1 : s[p + j].toNat < 128
        · have HN := Lib.hid (HBAD.out (.inr ⟨j, hj1, hlt, fun hc => by have := hc.1; rw [← HBY.out] at this; omega⟩))
          go_wp2
          go_ret2
          exact ⟨by rw [HN.out]; rfl, rfl⟩
        · by_cases hc2 : 192 ≤ s[p + j].toNat
          · have HN := Lib.hid (HBAD.out (.inr ⟨j, hj1, hlt, fun hc => by have := hc.2; rw [← HBY.out] at this; omega⟩))
            go_wp2
            go_ret2
            exact ⟨by rw [HN.out]; rfl, rfl⟩
          · have HN : Hid (contN ((bsN s).drop p) j) := Lib.hid (by unfold contN; rw [← HBY.out]; omega)
            have HS : Hid (acc * 64 + (s[p + j].toNat - 128) = accN ((bsN s).drop p) 192 (j + 1)) := Lib.hid (by rw [accN_succ _ _ _ hj1, ← HA.out, ← HBY.out])
            have HP : Hid (acc * 64 + (s[p + j].toNat - 128) < 32 * 64 ^ (j + 1 - 1)) := Lib.hid (by
              have := HB.out
              rw [show j + 1 - 1 = (j - 1) + 1 by omega, Nat.pow_succ]; omega)
            go_wp2
            go_round
            case rel => exact ⟨j + 1, acc * 64 + (s[p + j].toNat - 128), by omega, by omega, by go_num, by go_num, HS, HP, Lib.hid (fun m m1 m2 => by
              rcases Nat.lt_or_ge m j with h | h
              · exact HC.out m m1 h
              · rw [show m = j by omega]; exact HN.out)⟩
            case measure => simp [intOf]; omega
      · obtain rfl : j = 2 := by omega
        have HR := Lib.hid (HOK.out (by rw [HLL.out]; omega) (by exact HC.out 1 (by omega) (by omega)))
        rw [← HA.out] at HR
        have hbd : acc < 2048 := HB.out
        by_cases hl : acc < 128
        · go_wp2
          go_ret2
          exact ⟨by rw [HR.out, if_pos (.inl hl)]; rfl, rfl⟩
        · have dl : decide ((acc : Int) < 128) = false := by simp; omega
          have HLT := Lib.hid hl
          clear hl
          cases hv : validI (acc : Int) with
          | false =>
            have HV := Lib.hid hv
            clear hv
            go_wp2_with fail
            refine (Rune_any _ _).mono ?_
            rintro e w' ⟨rfl, rfl⟩
            rw [HV.out]
            go_wp2
            go_ret2
            exact ⟨by rw [HR.out, if_pos (.inr HV.out)]; rfl, rfl⟩
          | true =>
            have HV := Lib.hid hv
            clear hv
            go_wp2_with fail
            refine (Rune_any _ _).mono ?_
            rintro e w' ⟨rfl, rfl⟩
            rw [HV.out]
            go_wp2
            go_ret2
            exact ⟨by rw [HR.out, if_neg (by have := HLT.out; rw [HV.out]; simp; omega)]; rfl, rfl⟩

set_option maxRecDepth 100000 in
set_option maxHeartbeats 1000000 in
theorem One_k2 (s : ByteArray) (p : Nat) (w : World) (hp : p < s.size) (hs : s.size ≤ 9223372036854775807) (h1 : 224 ≤ s[p].toNat) (h2 : s[p].toNat < 240) :
    Calls Try.prog 77 #[.string s, .int .i64 p] w fun e w' => e = .returned (tupO (oneN ((bsN s).drop p))) ∧ w = w' := by
  have hb0 : s[p].toNat = ((bsN s).drop p)[0]?.getD 0 := byte_drop s p 0 hp
  have hbl : AllLt 256 ((bsN s).drop p) := fun b hb => bsN_lt s b (List.mem_of_mem_drop hb)
  have hll : ((bsN s).drop p).length = s.size - p := by rw [List.length_drop, bsN_len]
  have hcl : 224 ≤ ((bsN s).drop p)[0]?.getD 0 ∧ ((bsN s).drop p)[0]?.getD 0 < 240 := by rw [← hb0]; exact ⟨h1, h2⟩
  have HBAD := Lib.hid (fun hn => one_k2_bad hcl hn hbl)
  have HOK := Lib.hid (fun hl hc => one_k2 hbl hcl hl hc)
  have HA1 : Hid (accN ((bsN s).drop p) 224 1 = s[p].toNat - 224) := Lib.hid (by rw [hb0]; rfl)
  have HLL := Lib.hid hll
  clear hb0 hbl hll hcl
  have ec : ((s[p].toNat : Int) - 224) = ((s[p].toNat - 224 : Nat) : Int) := by omega
  have t1 : decide ((s[p].toNat : Int) < 128) = false := by simp; omega
  have t1a : decide ((192 : Int) ≤ (s[p].toNat : Int)) = true := by simp; omega
  have t1b : decide ((s[p].toNat : Int) < 224) = false := by simp; omega
  have t2a : decide ((224 : Int) ≤ (s[p].toNat : Int)) = true := by simp; omega
  have t2b : decide ((s[p].toNat : Int) < 240) = true := by simp; omega
  by_cases hk : s.size ≤ p + 2
  · have HB := Lib.hid (HBAD.out (.inl (by rw [HLL.out]; omega)))
    clear ec
    go_enter Try.func77, Try.ntmps77
    go_wp2
    go_ret2
    exact ⟨by rw [HB.out]; rfl, rfl⟩
  · have EC := Lib.hid ec
    have tk : decide ((s.size : Int) - (p : Int) ≤ 2) = false := by simp; omega
    clear ec
    go_enter Try.func77, Try.ntmps77
    go_wp2
    go_loop [8, 10] (fun n i => ∃ j acc : Nat, 1 ≤ j ∧ j ≤ 3 ∧ i = .int .i64 j ∧ n = .int .i32 acc ∧ Hid (acc = accN ((bsN s).drop p) 224 j) ∧ Hid (acc < 32 * 64 ^ (j - 1)) ∧ Hid (∀ m, 1 ≤ m → m < j → contN ((bsN s).drop p) m)) (fun _ i => 3 - (intOf i).toNat)
    case atStart => exact ⟨1, s[p].toNat - 224, by omega, by omega, rfl, by rw [← EC.out], Lib.hid HA1.out.symm, Lib.hid (by simp; omega), Lib.hid (fun m h1 h2 => by omega)⟩
    case round =>
      obtain ⟨j, acc, hj1, hj2, rfl, rfl, HA, HB, HC⟩ := hrel
      by_cases hlt : j ≤ 2
      · have hbd : acc < 131072 := by
          have := HB.out
          have e : (64 : Nat) ^ (j - 1) ≤ 64 ^ 2 := Nat.pow_le_pow_right (by decide) (by omega)
          omega
        have hpj : p + j < s.size := by omega
        have hby := byte_drop s p j hpj
        have HBY := Lib.hid hby
        have hi0 : (0 : Int) ≤ (p : Int) + (j : Int) := by omega
        have hi1 : (p : Int) + (j : Int) < (s.size : Int) := by omega
        have h256 : s[p + j].toNat < 256 := s[p + j].toNat_lt
        clear hby
        by_cases hc1 : s[p + j].toNat < 128
        · have HN := Lib.hid (HBAD.out (.inr ⟨j, hj1, hlt, fun hc => by have := hc.1; rw [← HBY.out] at this; omega⟩))
          go_wp2
          go_ret2
          exact ⟨by rw [HN.out]; rfl, rfl⟩
        · by_cases hc2 : 192 ≤ s[p + j].toNat
          · have HN := Lib.hid (HBAD.out (.inr ⟨j, hj1, hlt, fun hc => by have := hc.2; rw [← HBY.out] at this; omega⟩))
            go_wp2
            go_ret2
            exact ⟨by rw [HN.out]; rfl, rfl⟩
          · have HN : Hid (contN ((bsN s).drop p) j) := Lib.hid (by unfold contN; rw [← HBY.out]; omega)
            have HS : Hid (acc * 64 + (s[p + j].toNat - 128) = accN ((bsN s).drop p) 224 (j + 1)) := Lib.hid (by rw [accN_succ _ _ _ hj1, ← HA.out, ← HBY.out])
            have HP : Hid (acc * 64 + (s[p + j].toNat - 128) < 32 * 64 ^ (j + 1 - 1)) := Lib.hid (by
              have := HB.out
              rw [show j + 1 - 1 = (j - 1) + 1 by omega, Nat.pow_succ]; omega)
            go_wp2
            go_round
            case rel => exact ⟨j + 1, acc * 64 + (s[p + j].toNat - 128), by omega, by omega, by go_num, by go_num, HS, HP, Lib.hid (fun m m1 m2 => by
              rcases Nat.lt_or_ge m j with h | h
              · exact HC.out m m1 h
              · rw [show m = j by omega]; exact HN.out)⟩
            case measure => simp [intOf]; omega
      · obtain rfl : j = 3 := by omega
        have HR := Lib.hid (HOK.out (by rw [HLL.out]; omega) (by exact ⟨HC.out 1 (by omega) (by omega), HC.out 2 (by omega) (by omega)⟩))
        rw [← HA.out] at HR
        have hbd : acc < 131072 := HB.out
        by_cases hl : acc < 2048
        · go_wp2
          go_ret2
          exact ⟨by rw [HR.out, if_pos (.inl hl)]; rfl, rfl⟩
        · have dl : decide ((acc : Int) < 2048) = false := by simp; omega
          have HLT := Lib.hid hl
          clear hl
          cases hv : validI (acc : Int) with
          | false =>
            have HV := Lib.hid hv
            clear hv
            go_wp2_with fail
            refine (Rune_any _ _).mono ?_
            rintro e w' ⟨rfl, rfl⟩
            rw [HV.out]
            go_wp2
            go_ret2
            exact ⟨by rw [HR.out, if_pos (.inr HV.out)]; rfl, rfl⟩
          | true =>
            have HV := Lib.hid hv
            clear hv
            go_wp2_with fail
            refine (Rune_any _ _).mono ?_
            rintro e w' ⟨rfl, rfl⟩
            rw [HV.out]
            go_wp2
            go_ret2
            exact ⟨by rw [HR.out, if_neg (by have := HLT.out; rw [HV.out]; simp; omega)]; rfl, rfl⟩

set_option maxRecDepth 100000 in
set_option maxHeartbeats 1000000 in
theorem One_k3 (s : ByteArray) (p : Nat) (w : World) (hp : p < s.size) (hs : s.size ≤ 9223372036854775807) (h1 : 240 ≤ s[p].toNat) (h2 : s[p].toNat < 248) :
    Calls Try.prog 77 #[.string s, .int .i64 p] w fun e w' => e = .returned (tupO (oneN ((bsN s).drop p))) ∧ w = w' := by
  have hb0 : s[p].toNat = ((bsN s).drop p)[0]?.getD 0 := byte_drop s p 0 hp
  have hbl : AllLt 256 ((bsN s).drop p) := fun b hb => bsN_lt s b (List.mem_of_mem_drop hb)
  have hll : ((bsN s).drop p).length = s.size - p := by rw [List.length_drop, bsN_len]
  have hcl : 240 ≤ ((bsN s).drop p)[0]?.getD 0 ∧ ((bsN s).drop p)[0]?.getD 0 < 248 := by rw [← hb0]; exact ⟨h1, h2⟩
  have HBAD := Lib.hid (fun hn => one_k3_bad hcl hn hbl)
  have HOK := Lib.hid (fun hl hc => one_k3 hbl hcl hl hc)
  have HA1 : Hid (accN ((bsN s).drop p) 240 1 = s[p].toNat - 240) := Lib.hid (by rw [hb0]; rfl)
  have HLL := Lib.hid hll
  clear hb0 hbl hll hcl
  have ec : ((s[p].toNat : Int) - 240) = ((s[p].toNat - 240 : Nat) : Int) := by omega
  have t1 : decide ((s[p].toNat : Int) < 128) = false := by simp; omega
  have t1a : decide ((192 : Int) ≤ (s[p].toNat : Int)) = true := by simp; omega
  have t1b : decide ((s[p].toNat : Int) < 224) = false := by simp; omega
  have t2a : decide ((224 : Int) ≤ (s[p].toNat : Int)) = true := by simp; omega
  have t2b : decide ((s[p].toNat : Int) < 240) = false := by simp; omega
  have t3a : decide ((240 : Int) ≤ (s[p].toNat : Int)) = true := by simp; omega
  have t3b : decide ((s[p].toNat : Int) < 248) = true := by simp; omega
  by_cases hk : s.size ≤ p + 3
  · have HB := Lib.hid (HBAD.out (.inl (by rw [HLL.out]; omega)))
    clear ec
    go_enter Try.func77, Try.ntmps77
    go_wp2
    go_ret2
    exact ⟨by rw [HB.out]; rfl, rfl⟩
  · have EC := Lib.hid ec
    have tk : decide ((s.size : Int) - (p : Int) ≤ 3) = false := by simp; omega
    clear ec
    go_enter Try.func77, Try.ntmps77
    go_wp2
    go_loop [8, 10] (fun n i => ∃ j acc : Nat, 1 ≤ j ∧ j ≤ 4 ∧ i = .int .i64 j ∧ n = .int .i32 acc ∧ Hid (acc = accN ((bsN s).drop p) 240 j) ∧ Hid (acc < 32 * 64 ^ (j - 1)) ∧ Hid (∀ m, 1 ≤ m → m < j → contN ((bsN s).drop p) m)) (fun _ i => 4 - (intOf i).toNat)
    case atStart => exact ⟨1, s[p].toNat - 240, by omega, by omega, rfl, by rw [← EC.out], Lib.hid HA1.out.symm, Lib.hid (by simp; omega), Lib.hid (fun m h1 h2 => by omega)⟩
    case round =>
      obtain ⟨j, acc, hj1, hj2, rfl, rfl, HA, HB, HC⟩ := hrel
      by_cases hlt : j ≤ 3
      · have hbd : acc < 131072 := by
          have := HB.out
          have e : (64 : Nat) ^ (j - 1) ≤ 64 ^ 2 := Nat.pow_le_pow_right (by decide) (by omega)
          omega
        have hpj : p + j < s.size := by omega
        have hby := byte_drop s p j hpj
        have HBY := Lib.hid hby
        have hi0 : (0 : Int) ≤ (p : Int) + (j : Int) := by omega
        have hi1 : (p : Int) + (j : Int) < (s.size : Int) := by omega
        have h256 : s[p + j].toNat < 256 := s[p + j].toNat_lt
        clear hby
        by_cases hc1 : s[p + j].toNat < 128
        · have HN := Lib.hid (HBAD.out (.inr ⟨j, hj1, hlt, fun hc => by have := hc.1; rw [← HBY.out] at this; omega⟩))
          go_wp2
          go_ret2
          exact ⟨by rw [HN.out]; rfl, rfl⟩
        · by_cases hc2 : 192 ≤ s[p + j].toNat
          · have HN := Lib.hid (HBAD.out (.inr ⟨j, hj1, hlt, fun hc => by have := hc.2; rw [← HBY.out] at this; omega⟩))
            go_wp2
            go_ret2
            exact ⟨by rw [HN.out]; rfl, rfl⟩
          · have HN : Hid (contN ((bsN s).drop p) j) := Lib.hid (by unfold contN; rw [← HBY.out]; omega)
            have HS : Hid (acc * 64 + (s[p + j].toNat - 128) = accN ((bsN s).drop p) 240 (j + 1)) := Lib.hid (by rw [accN_succ _ _ _ hj1, ← HA.out, ← HBY.out])
            have HP : Hid (acc * 64 + (s[p + j].toNat - 128) < 32 * 64 ^ (j + 1 - 1)) := Lib.hid (by
              have := HB.out
              rw [show j + 1 - 1 = (j - 1) + 1 by omega, Nat.pow_succ]; omega)
            go_wp2
            go_round
            case rel => exact ⟨j + 1, acc * 64 + (s[p + j].toNat - 128), by omega, by omega, by go_num, by go_num, HS, HP, Lib.hid (fun m m1 m2 => by
              rcases Nat.lt_or_ge m j with h | h
              · exact HC.out m m1 h
              · rw [show m = j by omega]; exact HN.out)⟩
            case measure => simp [intOf]; omega
      · obtain rfl : j = 4 := by omega
        have HR := Lib.hid (HOK.out (by rw [HLL.out]; omega) (by exact ⟨HC.out 1 (by omega) (by omega), HC.out 2 (by omega) (by omega), HC.out 3 (by omega) (by omega)⟩))
        rw [← HA.out] at HR
        have hbd : acc < 8388608 := HB.out
        by_cases hl : acc < 65536
        · go_wp2
          go_ret2
          exact ⟨by rw [HR.out, if_pos (.inl hl)]; rfl, rfl⟩
        · have dl : decide ((acc : Int) < 65536) = false := by simp; omega
          have HLT := Lib.hid hl
          clear hl
          cases hv : validI (acc : Int) with
          | false =>
            have HV := Lib.hid hv
            clear hv
            go_wp2_with fail
            refine (Rune_any _ _).mono ?_
            rintro e w' ⟨rfl, rfl⟩
            rw [HV.out]
            go_wp2
            go_ret2
            exact ⟨by rw [HR.out, if_pos (.inr HV.out)]; rfl, rfl⟩
          | true =>
            have HV := Lib.hid hv
            clear hv
            go_wp2_with fail
            refine (Rune_any _ _).mono ?_
            rintro e w' ⟨rfl, rfl⟩
            rw [HV.out]
            go_wp2
            go_ret2
            exact ⟨by rw [HR.out, if_neg (by have := HLT.out; rw [HV.out]; simp; omega)]; rfl, rfl⟩

theorem One_any (s : ByteArray) (p : Nat) (w : World) (hp : p < s.size) (hs : s.size ≤ 9223372036854775807) :
    Calls Try.prog 77 #[.string s, .int .i64 p] w fun e w' => e = .returned (tupO (oneN ((bsN s).drop p))) ∧ w = w' := by
  have hb : s[p].toNat < 256 := s[p].toNat_lt
  have hc : s[p].toNat < 128 ∨ ((128 ≤ s[p].toNat ∧ s[p].toNat < 192) ∨ 248 ≤ s[p].toNat) ∨ (192 ≤ s[p].toNat ∧ s[p].toNat < 224) ∨ (224 ≤ s[p].toNat ∧ s[p].toNat < 240) ∨ (240 ≤ s[p].toNat ∧ s[p].toNat < 248) := by omega
  rcases hc with h | h | ⟨h1, h2⟩ | ⟨h1, h2⟩ | ⟨h1, h2⟩
  · exact One_low s p w hp hs h
  · exact One_odd s p w hp hs h
  · exact One_k1 s p w hp hs h1 h2
  · exact One_k2 s p w hp hs h1 h2
  · exact One_k3 s p w hp hs h1 h2
end Go.Proofs.Ytigeedaihbpjiaa
