/-
  scalar.Number, block.At: contracts.
-/
import Derived.Lib.ConvBytes
import Derived.Test.YtdhgcgejdoedbaaGreatDoorBw16
import Derived.Test.YtdhgcgejdoedbaaGreatDoorBw21
namespace Go.Proofs.YtdhgcgejdoedbaaGreatDoor
open Go.RowKit Go.WideShapes

def isDig (b : Nat) : Bool := decide (48 ≤ b) && decide (b ≤ 57)
def valN (l : List Nat) : Nat := l.foldl (fun n b => n * 10 + (b - 48)) 0
def numOk (l : List Nat) : Bool := decide (0 < l.length) && decide (l.length ≤ 9) && !(decide (1 < l.length) && decide (l.head?.getD 0 = 48)) && l.all isDig
def numN (l : List Nat) : Nat × Int := if numOk l then (valN l, 0) else (0, 3)
theorem valN_snoc (l : List Nat) (b : Nat) : valN (l ++ [b]) = valN l * 10 + (b - 48) := by simp [valN]
theorem valN_lt : ∀ (n : Nat) (l : List Nat), l.length = n → l.all isDig = true → valN l < 10 ^ n := by
  intro n
  induction n with
  | zero => intro l hl _; simp [List.length_eq_zero_iff.1 hl, valN]
  | succ n ih =>
    intro l hl h
    have hne : l ≠ [] := by intro e; simp [e] at hl
    obtain ⟨m, b, rfl⟩ : ∃ m b, l = m ++ [b] := ⟨l.dropLast, l.getLast hne, (List.dropLast_concat_getLast hne).symm⟩
    rw [List.all_append, Bool.and_eq_true] at h
    have h1 := ih m (by simpa using hl) h.1
    have h2 := h.2
    simp [isDig] at h2
    rw [valN_snoc, Nat.pow_succ]
    omega
theorem valN_9 {l : List Nat} (hl : l.length ≤ 9) (h : l.all isDig = true) : valN l < 1000000000 := by
  have h1 := valN_lt l.length l rfl h
  have h2 : 10 ^ l.length ≤ 10 ^ 9 := Nat.pow_le_pow_right (by omega) hl
  omega
theorem str_empty {s : ByteArray} : s.toList.isEmpty = decide (s.size = 0) := by
  rw [Lib.toList_data, Bool.eq_iff_iff, decide_eq_true_eq, List.isEmpty_iff, Array.toList_eq_nil_iff, ← Array.size_eq_zero_iff]; rfl
theorem numN_no {l : List Nat} (h : numOk l = false) : numN l = (0, 3) := by unfold numN; rw [h]; rfl
theorem numN_go {l : List Nat} (h0 : 0 < l.length) (h9 : l.length ≤ 9) (hz : ¬ (1 < l.length ∧ l.head?.getD 0 = 48)) : numN l = if l.all isDig then (valN l, 0) else (0, 3) := by
  have : numOk l = l.all isDig := by
    unfold numOk
    have : (decide (1 < l.length) && decide (l.head?.getD 0 = 48)) = false := by rw [Bool.eq_false_iff]; intro h; simp at h; exact hz (by simpa using h)
    rw [decide_eq_true h0, decide_eq_true h9, this]; simp
  unfold numN; rw [this]
theorem digs_no {l : List Nat} {k : Nat} (hk : k < l.length) (h : isDig (l[k]?.getD 0) = false) : l.all isDig = false := by
  rw [Bool.eq_false_iff]; intro ha
  rw [List.all_eq_true] at ha
  have := ha l[k] (List.getElem_mem hk)
  simp [hk] at h
  rw [this] at h; cases h
theorem digs_go {l : List Nat} {k : Nat} (hk : k < l.length) (h0 : (l.take k).all isDig = true) (h : isDig (l[k]?.getD 0) = true) : (l.take (k + 1)).all isDig = true ∧ valN (l.take (k + 1)) = valN (l.take k) * 10 + (l[k]?.getD 0 - 48) := by
  rw [List.take_succ_eq_append_getElem hk, List.all_append, valN_snoc]
  simp [hk] at h
  simp [h0, h, hk]

set_option maxRecDepth 100000 in
set_option maxHeartbeats 1000000 in
theorem Number_any (s : ByteArray) (w : World) (hs : s.size ≤ 9223372036854775807) :
    Calls Tryz.prog 29 #[.string s] w fun e w' => e = .returned (.tuple #[.int .i64 ((numN (bsN s)).1 : Int), .int .i64 (numN (bsN s)).2]) ∧ Below w.heap.size w w' := by
  have hcv : ∀ (w : World) (s : ByteArray), (convert 9 42 (.string s)).run Tryz.prog w = .ok (.slice (some ⟨w.heap.size, 0, none⟩) s.size (grownCap w s.size 0 5)) (Lib.bytesWorld w 5 s) := fun w s => Lib.run_convert_string_bytes w _ _ _ s Tryz.underlying9 Tryz.underlying42 Tryz.underlying5
  have hlen := bsN_len s
  by_cases h0 : s.size = 0
  · have he : s.toList.isEmpty = true := by rw [str_empty]; simp [h0]
    have F : Hid (numN (bsN s) = (0, 3)) := Lib.hid (numN_no (by unfold numOk; rw [decide_eq_false (p := 0 < (bsN s).length) (by omega)]; rfl))
    rw [F.out]
    go_enter Tryz.func29, Tryz.ntmps29
    go_wp2
    go_ret2
    exact ⟨rfl, Below.refl _ _⟩
  have he : s.toList.isEmpty = false := by rw [str_empty]; simp [h0]
  by_cases h9 : 9 < s.size
  · have F : Hid (numN (bsN s) = (0, 3)) := Lib.hid (numN_no (by unfold numOk; rw [decide_eq_false (p := (bsN s).length ≤ 9) (by omega)]; simp))
    rw [F.out]
    have hd : decide ((9 : Int) < (s.size : Int)) = true := by simp; omega
    go_enter Tryz.func29, Tryz.ntmps29
    go_wp2
    go_ret2
    exact ⟨rfl, Below.refl _ _⟩
  have hd : decide ((9 : Int) < (s.size : Int)) = false := by simp; omega
  have hb0 := byte_at s 0 (by omega)
  have hh : (bsN s).head?.getD 0 = s[0].toNat := by rw [hb0]; cases bsN s <;> rfl
  by_cases hz : 1 < s.size ∧ s[0].toNat = 48
  · have F : Hid (numN (bsN s) = (0, 3)) := Lib.hid (numN_no (by unfold numOk; rw [hh, hlen, decide_eq_true hz.1, decide_eq_true hz.2]; simp))
    rw [F.out]
    have hd1 : decide ((1 : Int) < (s.size : Int)) = true := by simp; omega
    have hd2 : ((s[0].toNat : Int) == 48) = true := by simp; omega
    go_enter Tryz.func29, Tryz.ntmps29
    go_wp2
    go_ret2
    exact ⟨rfl, Below.refl _ _⟩
  have HF := Lib.hid (numN_go (l := bsN s) (by omega) (by omega) (by rw [hh, hlen]; exact hz))
  have HALL := Lib.hid (bsN_lt s)
  have HHH := Lib.hid hb0
  have hne : ¬ s.toList = [] := by intro h; rw [h] at he; cases he
  clear hh hb0
  have HW : Hid (∀ j, j < s.size → (Lib.bytesWorld w 5 s).cell? ⟨w.heap.size, j, none⟩ = some (.int .u8 (((bsN s)[j]?.getD 0 : Nat) : Int))) := Lib.hid (fun j hj => by
    rw [Lib.bytesWorld_cell w 5 s j hj]
    simp [bsN, hj, List.getD])
  have hbw : Below w.heap.size w (Lib.bytesWorld w 5 s) := ⟨rfl, rfl, rfl, by rw [Lib.bytesWorld_size]; omega, fun j hj => Lib.bytesWorld_at_old w _ s j hj⟩
  generalize hcc : grownCap w s.size 0 5 = gc at *
  generalize hWW : Lib.bytesWorld w 5 s = W1 at *
  have hsz1 := hbw.size
  by_cases h1 : 1 < s.size
  case' pos =>
    have hd1 : decide ((1 : Int) < (s.size : Int)) = true := by simp; omega
    have hd2 : ((s[0].toNat : Int) == 48) = false := by simp; omega
  case' neg =>
    have hd1 : decide ((1 : Int) < (s.size : Int)) = false := by simp; omega
  all_goals
    go_enter Tryz.func29, Tryz.ntmps29
    go_wp2
    go_loop [27, 4] (fun i n => ∃ k : Nat, k ≤ s.size ∧ i = .int .i64 k ∧ n = .int .i64 (valN ((bsN s).take k) : Nat) ∧ Hid (((bsN s).take k).all isDig = true)) (fun i _ => s.size - (intOf i).toNat)
    case atStart => exact ⟨0, by omega, rfl, rfl, Lib.hid rfl⟩
    case round =>
      obtain ⟨k, hk, rfl, rfl, HK⟩ := hrel
      by_cases hlt : k < s.size
      · have hw := HW.out k hlt
        have hv := valN_9 (l := (bsN s).take k) (by simp; omega) HK.out
        have HGO := Lib.hid (digs_go (l := bsN s) (k := k) (by omega) HK.out)
        have HNO := Lib.hid (digs_no (l := bsN s) (k := k) (by omega))
        have hb : (bsN s)[k]?.getD 0 < 256 := by rw [List.getElem?_eq_getElem (by omega)]; exact HALL.out _ (List.getElem_mem (by omega))
        have hk0 : (0 : Int) ≤ (k : Int) := by omega
        have hk1 : (k : Int) < (s.size : Int) := by omega
        generalize (bsN s)[k]?.getD 0 = b at *
        generalize valN ((bsN s).take k) = v at *
        by_cases e1 : b < 48
        · have HN := Lib.hid (HNO.out (by simp [isDig]; omega))
          have q1 : decide ((b : Int) < 48) = true := by simp; omega
          go_wp2
          go_ret2
          exact ⟨by rw [HF.out, HN.out]; rfl, hbw⟩
        by_cases e2 : 57 < b
        · have HN := Lib.hid (HNO.out (by simp [isDig]; omega))
          have q1 : decide ((b : Int) < 48) = false := by simp; omega
          have q2 : decide ((57 : Int) < (b : Int)) = true := by simp; omega
          go_wp2
          go_ret2
          exact ⟨by rw [HF.out, HN.out]; rfl, hbw⟩
        have HN := Lib.hid (HGO.out (by simp [isDig]; omega))
        have q1 : decide ((b : Int) < 48) = false := by simp; omega
        have q2 : decide ((57 : Int) < (b : Int)) = false := by simp; omega
        go_wp2
        go_round
        case rel => exact ⟨k + 1, by omega, by go_num, by rw [HN.out.2]; congr 1; omega, Lib.hid HN.out.1⟩
        case measure => simp [intOf]; omega
      · have HE : Hid ((bsN s).take k = bsN s) := Lib.hid (List.take_of_length_le (by omega))
        go_wp2
        go_ret2
        exact ⟨by rw [HE.out] at HK; rw [HF.out, HK.out, HE.out]; rfl, hbw⟩
end Go.Proofs.YtdhgcgejdoedbaaGreatDoor
