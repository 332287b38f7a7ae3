/-
  utf: bytes and runes. Nothing of the program.
-/
import Derived.Lib.DecodeN
import Derived.Test.YtdhgcgejdoedbaaGreatDoorBw1
namespace Go.Proofs.YtdhgcgejdoedbaaGreatDoor
open Go

def bsN (s : ByteArray) : List Nat := s.data.toList.map UInt8.toNat
theorem bsN_len (s : ByteArray) : (bsN s).length = s.size := by simp [bsN]
theorem bsN_lt (s : ByteArray) : AllLt 256 (bsN s) := by
  intro b hb
  obtain ⟨u, _, rfl⟩ := List.mem_map.1 hb
  exact u.toNat_lt
theorem bsN_get (s : ByteArray) (i : Nat) : (s.get! i).toNat = (bsN s)[i]?.getD 0 := by
  unfold bsN
  rw [List.getElem?_map]
  show (s.data[i]!).toNat = _
  rw [Array.getElem!_eq_getD, Array.getD_eq_getD_getElem?]
  rw [← Array.getElem?_toList]
  cases s.data.toList[i]? <;> rfl

def validN (c : Nat) : Prop := c < 55296 ∨ (57344 ≤ c ∧ c ≤ 1114111)
def encN (c : Nat) : List Nat :=
  if c < 128 then [c] else if c < 2048 then [192 + c / 64, 128 + c % 64]
  else if c < 65536 then [224 + c / 4096, 128 + c / 64 % 64, 128 + c % 64]
  else [240 + c / 262144, 128 + c / 4096 % 64, 128 + c / 64 % 64, 128 + c % 64]
theorem encN_len (c : Nat) : 1 ≤ (encN c).length ∧ (encN c).length ≤ 4 := by
  unfold encN; repeat' split
  all_goals simp
def decH (l : List Nat) : Nat × Nat := Lib.decodeN l.length (l[0]?.getD 0) (l[1]?.getD 0) (l[2]?.getD 0) (l[3]?.getD 0)
def badL (l : List Nat) : Bool := decide (decH l = (65533, 1))
theorem decode_list (s : ByteArray) (i : Nat) : Utf8.decode s i = decH ((bsN s).drop i) := by
  rw [Lib.decode_at]
  unfold decH
  simp only [bsN_get, List.length_drop, bsN_len, List.getElem?_drop, Nat.add_zero]

theorem decodeN_facts (n b0 b1 b2 b3 : Nat) (hn : 1 ≤ n) : 1 ≤ (Lib.decodeN n b0 b1 b2 b3).2 ∧ (Lib.decodeN n b0 b1 b2 b3).2 ≤ 4 ∧ (Lib.decodeN n b0 b1 b2 b3).2 ≤ n ∧ validN (Lib.decodeN n b0 b1 b2 b3).1 := by
  unfold Lib.decodeN validN
  repeat' split
  all_goals
    simp only []
    omega
theorem decH_facts {l : List Nat} (h : l ≠ []) : 1 ≤ (decH l).2 ∧ (decH l).2 ≤ 4 ∧ (decH l).2 ≤ l.length ∧ validN (decH l).1 :=
  decodeN_facts _ _ _ _ _ (by cases l with | nil => exact absurd rfl h | cons a l => simp)

set_option maxHeartbeats 1000000 in
theorem decodeN_enc (n b0 b1 b2 b3 : Nat) (h1 : b1 < 256) (h2 : b2 < 256) (hne : Lib.decodeN n b0 b1 b2 b3 ≠ (65533, 1)) :
    encN (Lib.decodeN n b0 b1 b2 b3).1 = [b0, b1, b2, b3].take (Lib.decodeN n b0 b1 b2 b3).2 := by
  unfold Lib.decodeN at hne ⊢
  repeat' split
  all_goals first
    | (exfalso; simp_all; done)
    | (simp only [encN]
       first
         | (rw [if_pos (by omega)]; simp; done)
         | (rw [if_neg (by omega), if_pos (by omega)]; simp; omega)
         | (rw [if_neg (by omega), if_neg (by omega), if_pos (by omega)]; simp; omega)
         | (rw [if_neg (by omega), if_neg (by omega), if_neg (by omega)]; simp; omega))

theorem take4 (l : List Nat) (k : Nat) (hk : k ≤ 4) (hl : k ≤ l.length) : [l[0]?.getD 0, l[1]?.getD 0, l[2]?.getD 0, l[3]?.getD 0].take k = l.take k := by
  apply List.ext_getElem?
  intro i
  by_cases hi : i < k
  · rw [List.getElem?_take_of_lt hi, List.getElem?_take_of_lt hi]
    have : i < l.length := by omega
    have hi4 : i = 0 ∨ i = 1 ∨ i = 2 ∨ i = 3 := by omega
    rcases hi4 with rfl | rfl | rfl | rfl
    all_goals simp [List.getElem?_eq_getElem this]
  · rw [List.getElem?_eq_none (by simp; omega), List.getElem?_eq_none (by simp; omega)]

theorem getD_lt {l : List Nat} (h : AllLt 256 l) (i : Nat) : l[i]?.getD 0 < 256 := h.get i (by decide)
theorem decH_enc {l : List Nat} (h : l ≠ []) (hb : AllLt 256 l) (hg : badL l = false) : encN (decH l).1 = l.take (decH l).2 := by
  have hf := decH_facts h
  unfold badL at hg
  have hne : decH l ≠ (65533, 1) := by simpa using hg
  have := decodeN_enc l.length (l[0]?.getD 0) (l[1]?.getD 0) (l[2]?.getD 0) (l[3]?.getD 0) (getD_lt hb 1) (getD_lt hb 2) hne
  have t := take4 l (decH l).2 hf.2.1 hf.2.2.1
  exact this.trans t

theorem enc_decH {c : Nat} (h : validN c) (rest : List Nat) : decH (encN c ++ rest) = (c, (encN c).length) ∧ badL (encN c ++ rest) = false := by
  have key : decH (encN c ++ rest) = (c, (encN c).length) := by
    unfold validN at h
    unfold decH encN
    split
    · simp [Lib.decodeN]; omega
    · split
      · simp [Lib.decodeN]
        rw [if_neg (by omega), if_pos (by omega), if_pos (by omega)]
        simp; omega
      · split
        · simp [Lib.decodeN]
          rw [if_neg (by omega), if_neg (by omega), if_pos (by omega), if_pos (by omega)]
          simp; omega
        · simp [Lib.decodeN]
          rw [if_neg (by omega), if_neg (by omega), if_neg (by omega), if_pos (by omega), if_pos (by omega)]
          simp; omega
  refine ⟨key, ?_⟩
  unfold badL
  rw [key]
  unfold encN
  simp
  intro h1
  subst h1
  decide

def firstGo : Nat → Nat → List Nat → Int
  | 0, _, _ => -1
  | f + 1, p, l => if l = [] then -1 else if badL l then p else firstGo f (p + (decH l).2) (l.drop (decH l).2)
def firstX (p : Nat) (l : List Nat) : Int := firstGo l.length p l
def runesGo : Nat → List Nat → List Nat
  | 0, _ => []
  | f + 1, l => if l = [] then [] else if badL l then [] else (decH l).1 :: runesGo f (l.drop (decH l).2)
def runesX (l : List Nat) : List Nat := runesGo l.length l
theorem firstGo_fuel : ∀ (f p : Nat) (l : List Nat), l.length ≤ f → firstGo f p l = firstGo l.length p l := by
  intro f
  induction f using Nat.strongRecOn with
  | _ f ih =>
    intro p l hl
    cases f with
    | zero => rw [Nat.le_zero.1 hl]
    | succ f =>
      cases hL : l with
      | nil => rfl
      | cons a t =>
        rw [← hL]
        have hne : l ≠ [] := by rw [hL]; simp
        have hf := decH_facts hne
        have hlen : l.length = t.length + 1 := by rw [hL]; rfl
        rw [hlen, firstGo, firstGo, if_neg hne]
        split
        · rfl
        · have hd : (l.drop (decH l).2).length ≤ t.length := by simp; omega
          rw [ih f (by omega) _ _ (by omega)]
          by_cases ht : t.length < f + 1
          · rw [ih t.length ht _ _ hd]
          · omega
theorem runesGo_fuel : ∀ (f : Nat) (l : List Nat), l.length ≤ f → runesGo f l = runesGo l.length l := by
  intro f
  induction f using Nat.strongRecOn with
  | _ f ih =>
    intro l hl
    cases f with
    | zero => rw [Nat.le_zero.1 hl]
    | succ f =>
      cases hL : l with
      | nil => rfl
      | cons a t =>
        rw [← hL]
        have hne : l ≠ [] := by rw [hL]; simp
        have hf := decH_facts hne
        have hlen : l.length = t.length + 1 := by rw [hL]; rfl
        rw [hlen, runesGo, runesGo, if_neg hne]
        split
        · rfl
        · have hd : (l.drop (decH l).2).length ≤ t.length := by simp; omega
          rw [ih f (by omega) _ (by omega)]
          rw [ih t.length (by omega) _ hd]
theorem firstX_nil (p : Nat) : firstX p [] = -1 := rfl
theorem firstX_bad {p : Nat} {l : List Nat} (h : l ≠ []) (hb : badL l = true) : firstX p l = p := by
  unfold firstX
  obtain ⟨n, hn⟩ : ∃ n, l.length = n + 1 := ⟨l.length - 1, by have := List.length_pos_iff.2 h; omega⟩
  rw [hn, firstGo, if_neg h, if_pos hb]
theorem firstX_step {p : Nat} {l : List Nat} (h : l ≠ []) (hb : badL l = false) : firstX p l = firstX (p + (decH l).2) (l.drop (decH l).2) := by
  have hf := decH_facts h
  unfold firstX
  obtain ⟨n, hn⟩ : ∃ n, l.length = n + 1 := ⟨l.length - 1, by have := List.length_pos_iff.2 h; omega⟩
  rw [hn, firstGo, if_neg h, hb, if_neg (by simp), firstGo_fuel n _ _ (by simp; omega)]
theorem runesX_step {l : List Nat} (h : l ≠ []) (hb : badL l = false) : runesX l = (decH l).1 :: runesX (l.drop (decH l).2) := by
  have hf := decH_facts h
  unfold runesX
  obtain ⟨n, hn⟩ : ∃ n, l.length = n + 1 := ⟨l.length - 1, by have := List.length_pos_iff.2 h; omega⟩
  rw [hn, runesGo, if_neg h, hb, if_neg (by simp), runesGo_fuel n _ (by simp; omega)]

def textN (rs : List Nat) : List Nat := rs.flatMap encN
def ValidAll (rs : List Nat) : Prop := ∀ c ∈ rs, validN c
theorem textN_cons (c : Nat) (rs : List Nat) : textN (c :: rs) = encN c ++ textN rs := rfl
theorem encN_ne (c : Nat) (rest : List Nat) : encN c ++ rest ≠ [] := by
  have := encN_len c
  intro h
  have h2 := congrArg List.length h
  simp at h2
  rw [h2.1] at this; simp at this
theorem first_text {rs : List Nat} (h : ValidAll rs) (p : Nat) (more : List Nat) : firstX p (textN rs ++ more) = firstX (p + (textN rs).length) more := by
  induction rs generalizing p with
  | nil => simp [textN]
  | cons c rs ih =>
    rw [textN_cons, List.append_assoc]
    obtain ⟨e1, e2⟩ := enc_decH (h c (by simp)) (textN rs ++ more)
    rw [firstX_step (encN_ne _ _) e2, e1]
    simp only [List.drop_left, List.length_append]
    rw [ih (fun c hc => h c (by simp [hc])), Nat.add_assoc]
theorem first_ok {rs : List Nat} (h : ValidAll rs) (p : Nat) : firstX p (textN rs) = -1 := by
  have := first_text h p []
  rw [List.append_nil] at this
  rw [this, firstX_nil]
theorem text_runes : ∀ (n : Nat) (l : List Nat) (p : Nat), l.length = n → AllLt 256 l → firstX p l < 0 → textN (runesX l) = l ∧ ValidAll (runesX l) := by
  intro n
  induction n using Nat.strongRecOn with
  | _ n ih =>
    intro l p hn hb hf
    by_cases hl : l = []
    · subst hl; exact ⟨rfl, fun c hc => by cases hc⟩
    · cases hg : badL l with
      | true => rw [firstX_bad hl hg] at hf; omega
      | false =>
        have hfa := decH_facts hl
        rw [firstX_step hl hg] at hf
        obtain ⟨h1, h2⟩ := ih (l.drop (decH l).2).length (by simp; omega) _ _ rfl (fun b hb' => hb b (List.mem_of_mem_drop hb')) hf
        rw [runesX_step hl hg, textN_cons, h1, decH_enc hl hb hg, List.take_append_drop]
        refine ⟨rfl, fun c hc => ?_⟩
        rcases List.mem_cons.1 hc with rfl | hc
        · exact hfa.2.2.2
        · exact h2 c hc
end Go.Proofs.YtdhgcgejdoedbaaGreatDoor
