/-
  scalar.Plain: contract (La without names.Right: for a seat that lacks strings.Compare).
-/
import Derived.Shelf.Small.Strs
import Derived.Shelf.Lay
import Derived.Ground.NamesProg
import Derived.Test.YtdhgcgejdoedbaaGreatDoorBw22
namespace Go.Proofs.YtdhgcgejdoedbaaGreatDoor
open Go.Shelf Go.RowKit Go.Lib
def Tryz.strIdx_ren : Go.Shelf.Ren := ⟨fun | 137 => 83 | 217 => 103 | 266 => 115 | n => n, fun | 9 => 9 | 5 => 5 | 3 => 3 | n => n, fun | n => n⟩
theorem Tryz.strIdx : Go.Proofs.Lays.n137 Tryz.prog Tryz.strIdx_ren where
  mixed := by kernel_rfl
  f137 := Tryz.func83.trans (congrArg some (by kernel_rfl))
  f217 := Tryz.func103.trans (congrArg some (by kernel_rfl))
  f266 := Tryz.func115.trans (congrArg some (by kernel_rfl))
  t3 := Tryz.underlying3
  a3 := Tryz.isAgg3
  z3 := Tryz.sizeOf3
  v3 := Tryz.zeroValue3
  t5 := Tryz.underlying5
  a5 := Tryz.isAgg5
  z5 := Tryz.sizeOf5
  v5 := Tryz.zeroValue5
  t9 := Tryz.underlying9
  a9 := Tryz.isAgg9
  z9 := Tryz.sizeOf9
  v9 := Tryz.zeroValue9

theorem strIdx_any (a : ByteArray) (c : Int) (w : World) : Calls Tryz.prog 83 #[.string a, .int .u8 c] w fun e w' => e = .returned (.int .i64 (Lib.indexByte a.data.toList c.toNat.toUInt8)) ∧ w' = w := Any.strings_IndexByte Tryz.strIdx a c w

def standsB (c : Nat) (first : Bool) : Bool :=
  (decide (97 ≤ c) && decide (c ≤ 122)) || (decide (65 ≤ c) && decide (c ≤ 90)) || (decide (48 ≤ c) && decide (c ≤ 57)) || decide (c = 46) || decide (c = 95) || decide (c = 47) || decide (c = 43) || decide (c = 64) || (decide (c = 45) && !first)
def lowN (c : Nat) : Nat := c ||| 32
theorem low_or (c : Nat) (h : c < 256) : bits .or .u8 (c : Int) 32 = (lowN c : Nat) := by
  have h1 : ∀ c : Fin 256, bits .or .u8 ((c.val : Nat) : Int) 32 = (lowN c.val : Nat) := by decide +kernel
  exact h1 ⟨c, h⟩
def idxMay (c : Nat) : Int := if c = 46 then 0 else if c = 95 then 1 else if c = 47 then 2 else if c = 43 then 3 else if c = 64 then 4 else if c = 45 then 5 else -1
theorem idx_may (c : Nat) (h : c < 256) : Lib.indexByte [46, 95, 47, 43, 64, 45] (c : Int).toNat.toUInt8 = idxMay c := by
  have h1 : ∀ c : Fin 256, Lib.indexByte [46, 95, 47, 43, 64, 45] ((c.val : Nat) : Int).toNat.toUInt8 = idxMay c.val := by decide +kernel
  exact h1 ⟨c, h⟩
theorem stands_say (c : Nat) (h : c < 256) : ∀ f : Bool, standsB c f = ((decide (97 ≤ lowN c) && decide (lowN c ≤ 122) && decide (65 ≤ c)) || ((decide (48 ≤ c) && decide (c ≤ 57)) || (decide (0 ≤ idxMay c) && (decide (idxMay c < 5) || !f)))) := by
  have h1 : ∀ c : Fin 256, ∀ f : Bool, standsB c.val f = ((decide (97 ≤ lowN c.val) && decide (lowN c.val ≤ 122) && decide (65 ≤ c.val)) || ((decide (48 ≤ c.val) && decide (c.val ≤ 57)) || (decide (0 ≤ idxMay c.val) && (decide (idxMay c.val < 5) || !f)))) := by decide +kernel
  exact h1 ⟨c, h⟩

set_option maxRecDepth 100000 in
theorem stands_any (c n : Nat) (hc : c < 256) (hn : n ≤ 9223372036854775807) (w : World) :
    Calls Tryz.prog 100 #[.int .u8 (c : Int), .int .i64 (n : Int)] w fun e w' => e = .returned (.bool (standsB c (decide (n = 0)))) ∧ w' = w := by
  have hlo := low_or c hc
  have hs := Lib.hid (stands_say c hc (decide (n = 0)))
  have hI : Calls Tryz.prog 83 #[.string { data := #[46, 95, 47, 43, 64, 45] }, .int .u8 (c : Int)] w fun e w' => e = .returned (.int .i64 (idxMay c)) ∧ w' = w := by
    rw [← idx_may c hc]
    exact strIdx_any _ _ _
  have HI := Lib.hid hI
  clear hI
  generalize lowN c = m at *
  generalize idxMay c = q at *
  go_enter Tryz.func100, Tryz.ntmps100
  go_wp2_with fail
  all_goals (first | (refine HI.out.mono ?_; rintro e w' ⟨rfl, rfl⟩; go_wp2_with fail) | skip)
  all_goals go_ret
  all_goals refine ⟨?_, rfl⟩
  all_goals rw [hs.out]
  all_goals (by_cases h0 : n = 0)
  all_goals simp_all
  all_goals (first | omega | (rw [Bool.eq_iff_iff]; simp only [Bool.or_eq_true, Bool.and_eq_true, decide_eq_true_eq]; omega))

def plainK : List Nat → Bool → Nat
  | [], _ => 0
  | c :: l, f => if standsB c f then plainK l false + 1 else 0
def plainAll : List Nat → Bool → Bool
  | [], _ => true
  | c :: l, f => standsB c f && plainAll l false
theorem plainK_le : ∀ (l : List Nat) (f : Bool), plainK l f ≤ l.length
  | [], _ => Nat.le_refl _
  | c :: l, f => by
    unfold plainK
    have := plainK_le l false
    split <;> simp <;> omega
theorem plainK_all : ∀ (l : List Nat) (f : Bool), (decide (plainK l f = l.length)) = plainAll l f
  | [], _ => rfl
  | c :: l, f => by
    unfold plainK plainAll
    rw [← plainK_all l false]
    cases standsB c f <;> simp
theorem plainK_step : ∀ (l : List Nat) (f : Bool) (k : Nat), k ≤ plainK l f → (∀ h : k < l.length, standsB l[k] (f && decide (k = 0)) = true → k < plainK l f)
  | [], _, k, _ => fun h => absurd h (by simp)
  | c :: l, f, 0, h1 => fun _ h2 => by
    unfold plainK
    simp at h2
    rw [if_pos h2]; omega
  | c :: l, f, k + 1, h1 => fun h h2 => by
    unfold plainK at h1 ⊢
    split
    · rename_i h3
      rw [if_pos h3] at h1
      have := plainK_step l false k (by omega) (by simpa using h) (by simpa using h2)
      omega
    · rename_i h3
      rw [if_neg h3] at h1
      omega
theorem plainK_stop : ∀ (l : List Nat) (f : Bool) (k : Nat), k ≤ plainK l f → (∀ h : k < l.length, standsB l[k] (f && decide (k = 0)) = false → k = plainK l f)
  | [], _, k, _ => fun h => absurd h (by simp)
  | c :: l, f, 0, h1 => fun _ h2 => by
    unfold plainK
    simp at h2
    rw [if_neg (by simp [h2])]
  | c :: l, f, k + 1, h1 => fun h h2 => by
    unfold plainK at h1 ⊢
    split
    · rename_i h3
      rw [if_pos h3] at h1
      have := plainK_stop l false k (by omega) (by simpa using h) (by simpa using h2)
      omega
    · rename_i h3
      rw [if_neg h3] at h1
      omega
def plainT (s : ByteArray) : Bool := decide (0 < s.size) && plainAll (bsN s) true
theorem bsN_at {s : ByteArray} {k : Nat} (h : k < s.size) : (bsN s)[k]'(by rw [bsN_len]; exact h) = s[k].toNat := by simp [bsN]; rfl
set_option maxRecDepth 100000 in
theorem splain_any (s : ByteArray) (w : World) (hs : s.size ≤ 9223372036854775806) :
    Calls Tryz.prog 75 #[.string s] w fun e w' => e = .returned (.int .i64 (plainK (bsN s) true : Nat)) ∧ w' = w := by
  have hlen := bsN_len s
  have hle := plainK_le (bsN s) true
  have HST := Lib.hid (plainK_step (bsN s) true)
  have HSP := Lib.hid (plainK_stop (bsN s) true)
  have HAT := Lib.hid (fun k (h : k < s.size) => bsN_at (s := s) h)
  go_enter Tryz.func75, Tryz.ntmps75
  go_wp2_with fail
  go_loopg [3] (s.size + 1) (fun gk i wr => ∃ (k : Nat), k + gk = s.size + 1 ∧ k ≤ plainK (bsN s) true ∧ i = .int .i64 k ∧ wr = w)
  case atStart => exact ⟨0, by omega, by omega, rfl, rfl⟩
  case round =>
    obtain ⟨k, hgk, hk, rfl, rfl⟩ := hrel
    have hg : gk = s.size + 1 - k := by omega
    subst hg
    by_cases hks : k < s.size
    · have hk1 : (k : Int) < (s.size : Int) := by omega
      have d1 : decide ((k : Int) < (s.size : Int)) = true := decide_eq_true (by omega)
      have hat := HAT.out k hks
      have h256 : s[k].toNat < 256 := s[k].toNat_lt
      have q1 := HST.out k hk (by omega)
      have q2 := HSP.out k hk (by omega)
      rw [hat] at q1 q2
      rw [Bool.true_and] at q1 q2
      have HS := Lib.hid (fun w => stands_any s[k].toNat k h256 (by omega) w)
      have Q1 := Lib.hid q1
      have Q2 := Lib.hid q2
      clear q1 q2 hat
      generalize hb : standsB s[k].toNat (decide (k = 0)) = b at *
      clear hb
      go_wp2_with fail
      refine (HS.out _).mono ?_
      rintro e w' ⟨rfl, rfl⟩
      cases b with
      | true =>
        go_wp2_with fail
        have := Q1.out (by trivial)
        go_roundg (s.size + 1 - (k + 1))
        case measure => omega
        case rel => exact ⟨k + 1, by omega, by omega, by go_num, rfl⟩
      | false =>
        go_wp2_with fail
        go_ret
        rw [← Q2.out (by trivial)]
        exact ⟨rfl, rfl⟩
    · have hk1 : ¬ (k : Int) < (s.size : Int) := by omega
      have d1 : decide ((k : Int) < (s.size : Int)) = false := decide_eq_false (by omega)
      go_wp2_with fail
      go_ret
      rw [show plainK (bsN s) true = k by omega]
      exact ⟨rfl, rfl⟩

set_option maxRecDepth 100000 in
theorem sPlain_any (s : ByteArray) (w : World) (hs : s.size ≤ 9223372036854775806) :
    Calls Tryz.prog 53 #[.string s] w fun e w' => e = .returned (.bool (plainT s)) ∧ w' = w := by
  have hlen := bsN_len s
  by_cases h0 : s.size = 0
  · have he : s.toList.isEmpty = true := by rw [str_empty]; simp [h0]
    have F : Hid (plainT s = false) := Lib.hid (by unfold plainT; rw [decide_eq_false (by omega)]; rfl)
    rw [F.out]
    go_enter Tryz.func53, Tryz.ntmps53
    go_wp2
    go_ret
    exact ⟨rfl, rfl⟩
  · have he : s.toList.isEmpty = false := by rw [str_empty]; simp [h0]
    have F : Hid (plainT s = decide (plainK (bsN s) true = s.size)) := Lib.hid (by unfold plainT; rw [decide_eq_true (show 0 < s.size by omega), Bool.true_and, ← hlen, plainK_all])
    have HS := Lib.hid (splain_any s w hs)
    rw [F.out]
    go_enter Tryz.func53, Tryz.ntmps53
    go_wp2_with fail
    refine HS.out.mono ?_
    rintro e w' ⟨rfl, rfl⟩
    go_wp2_with fail
    go_ret
    refine ⟨congrArg (fun b => Ending.returned (Value.bool b)) ?_, rfl⟩
    rw [Bool.eq_iff_iff]
    simp
    omega

end Go.Proofs.YtdhgcgejdoedbaaGreatDoor
