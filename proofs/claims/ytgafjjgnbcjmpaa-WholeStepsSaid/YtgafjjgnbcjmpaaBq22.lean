/-
  scalar.Number, block.At: contracts.
-/
import Derived.Lib.ConvBytes
import Derived.Test.YtgafjjgnbcjmpaaBq13
import Derived.Test.YtgafjjgnbcjmpaaBq19
import Derived.Test.YtgafjjgnbcjmpaaBq20
namespace Go.Proofs.Ytgafjjgnbcjmpaa
open Go.RowKit Go.WideShapes

/-- The number that digits are. -/
def isDig (b : Nat) : Bool := decide (48 ≤ b) && decide (b ≤ 57)
def valN (l : List Nat) : Nat := l.foldl (fun n b => n * 10 + (b - 48)) 0
def numOk (l : List Nat) : Bool := decide (0 < l.length) && decide (l.length ≤ 9) && !(decide (1 < l.length) && decide (l.head?.getD 0 = 48)) && l.all isDig
def numN (l : List Nat) : Nat × Int := if numOk l then (valN l, 0) else (0, 3)
theorem valN_snoc (l : List Nat) (b : Nat) : valN (l ++ [b]) = valN l * 10 + (b - 48) := by simp [valN]
theorem valN_lt : ∀ (n : Nat) (l : List Nat), l.length = n → l.all isDig = true → valN l < 10 ^ n := by
  intro n
  induction n with
  | zero => intro l hl _; simp [List.length_eq_zero_iff.1 hl, valN]
  | succ n ih =>
    intro l hl h
    have hne : l ≠ [] := by intro e; simp [e] at hl
    obtain ⟨m, b, rfl⟩ : ∃ m b, l = m ++ [b] := ⟨l.dropLast, l.getLast hne, (List.dropLast_concat_getLast hne).symm⟩
    rw [List.all_append, Bool.and_eq_true] at h
    have h1 := ih m (by simpa using hl) h.1
    have h2 := h.2
    simp [isDig] at h2
    rw [valN_snoc, Nat.pow_succ]
    omega
theorem valN_9 {l : List Nat} (hl : l.length ≤ 9) (h : l.all isDig = true) : valN l < 1000000000 := by
  have h1 := valN_lt l.length l rfl h
  have h2 : 10 ^ l.length ≤ 10 ^ 9 := Nat.pow_le_pow_right (by omega) hl
  omega
theorem str_empty {s : ByteArray} : s.toList.isEmpty = decide (s.size = 0) := by
  rw [Lib.toList_data, Bool.eq_iff_iff, decide_eq_true_eq, List.isEmpty_iff, Array.toList_eq_nil_iff, ← Array.size_eq_zero_iff]; rfl
theorem numN_no {l : List Nat} (h : numOk l = false) : numN l = (0, 3) := by unfold numN; rw [h]; rfl
theorem numN_go {l : List Nat} (h0 : 0 < l.length) (h9 : l.length ≤ 9) (hz : ¬ (1 < l.length ∧ l.head?.getD 0 = 48)) : numN l = if l.all isDig then (valN l, 0) else (0, 3) := by
  have : numOk l = l.all isDig := by
    unfold numOk
    have : (decide (1 < l.length) && decide (l.head?.getD 0 = 48)) = false := by rw [Bool.eq_false_iff]; intro h; simp at h; exact hz (by simpa using h)
    rw [decide_eq_true h0, decide_eq_true h9, this]; simp
  unfold numN; rw [this]
theorem digs_no {l : List Nat} {k : Nat} (hk : k < l.length) (h : isDig (l[k]?.getD 0) = false) : l.all isDig = false := by
  rw [Bool.eq_false_iff]; intro ha
  rw [List.all_eq_true] at ha
  have := ha l[k] (List.getElem_mem hk)
  simp [hk] at h
  rw [this] at h; cases h
theorem digs_go {l : List Nat} {k : Nat} (hk : k < l.length) (h0 : (l.take k).all isDig = true) (h : isDig (l[k]?.getD 0) = true) : (l.take (k + 1)).all isDig = true ∧ valN (l.take (k + 1)) = valN (l.take k) * 10 + (l[k]?.getD 0 - 48) := by
  rw [List.take_succ_eq_append_getElem hk, List.all_append, valN_snoc]
  simp [hk] at h
  simp [h0, h, hk]

set_option maxRecDepth 100000 in
set_option maxHeartbeats 1000000 in
theorem Number_any (s : ByteArray) (w : World) (hs : s.size ≤ 9223372036854775807) :
    Calls Try.prog 66 #[.string s] w fun e w' => e = .returned (.tuple #[.int .i64 ((numN (bsN s)).1 : Int), .int .i64 (numN (bsN s)).2]) ∧ Below w.heap.size w w' := by
  have hcv : ∀ (w : World) (s : ByteArray), (convert 9 107 (.string s)).run Try.prog w = .ok (.slice (some ⟨w.heap.size, 0, none⟩) s.size (grownCap w s.size 0 5)) (Lib.bytesWorld w 5 s) := fun w s => Lib.run_convert_string_bytes w _ _ _ s Try.underlying9 Try.underlying107 Try.underlying5
  have hlen := bsN_len s
  by_cases h0 : s.size = 0
  · have he : s.toList.isEmpty = true := by rw [str_empty]; simp [h0]
    have F : Hid (numN (bsN s) = (0, 3)) := Lib.hid (numN_no (by unfold numOk; rw [decide_eq_false (p := 0 < (bsN s).length) (by omega)]; rfl))
    rw [F.out]
    go_enter Try.func66, Try.ntmps66
    go_wp2
    go_ret2
    exact ⟨rfl, Below.refl _ _⟩
  have he : s.toList.isEmpty = false := by rw [str_empty]; simp [h0]
  by_cases h9 : 9 < s.size
  · have F : Hid (numN (bsN s) = (0, 3)) := Lib.hid (numN_no (by unfold numOk; rw [decide_eq_false (p := (bsN s).length ≤ 9) (by omega)]; simp))
    rw [F.out]
    have hd : decide ((9 : Int) < (s.size : Int)) = true := by simp; omega
    go_enter Try.func66, Try.ntmps66
    go_wp2
    go_ret2
    exact ⟨rfl, Below.refl _ _⟩
  have hd : decide ((9 : Int) < (s.size : Int)) = false := by simp; omega
  have hb0 := byte_at s 0 (by omega)
  have hh : (bsN s).head?.getD 0 = s[0].toNat := by rw [hb0]; cases bsN s <;> rfl
  by_cases hz : 1 < s.size ∧ s[0].toNat = 48
  · have F : Hid (numN (bsN s) = (0, 3)) := Lib.hid (numN_no (by unfold numOk; rw [hh, hlen, decide_eq_true hz.1, decide_eq_true hz.2]; simp))
    rw [F.out]
    have hd1 : decide ((1 : Int) < (s.size : Int)) = true := by simp; omega
    have hd2 : ((s[0].toNat : Int) == 48) = true := by simp; omega
    go_enter Try.func66, Try.ntmps66
    go_wp2
    go_ret2
    exact ⟨rfl, Below.refl _ _⟩
  have HF := Lib.hid (numN_go (l := bsN s) (by omega) (by omega) (by rw [hh, hlen]; exact hz))
  have HALL := Lib.hid (bsN_lt s)
  have HHH := Lib.hid hb0
  have hne : ¬ s.toList = [] := by intro h; rw [h] at he; cases he
  clear hh hb0
  have HW : Hid (∀ j, j < s.size → (Lib.bytesWorld w 5 s).cell? ⟨w.heap.size, j, none⟩ = some (.int .u8 (((bsN s)[j]?.getD 0 : Nat) : Int))) := Lib.hid (fun j hj => by
    rw [Lib.bytesWorld_cell w 5 s j hj]
    simp [bsN, hj, List.getD])
  have hbw : Below w.heap.size w (Lib.bytesWorld w 5 s) := ⟨rfl, rfl, rfl, by rw [Lib.bytesWorld_size]; omega, fun j hj => Lib.bytesWorld_at_old w _ s j hj⟩
  generalize hcc : grownCap w s.size 0 5 = gc at *
  generalize hWW : Lib.bytesWorld w 5 s = W1 at *
  have hsz1 := hbw.size
  by_cases h1 : 1 < s.size
  case' pos =>
    have hd1 : decide ((1 : Int) < (s.size : Int)) = true := by simp; omega
    have hd2 : ((s[0].toNat : Int) == 48) = false := by simp; omega
  case' neg =>
    have hd1 : decide ((1 : Int) < (s.size : Int)) = false := by simp; omega
  all_goals
    go_enter Try.func66, Try.ntmps66
    go_wp2
    go_loop [27, 4] (fun i n => ∃ k : Nat, k ≤ s.size ∧ i = .int .i64 k ∧ n = .int .i64 (valN ((bsN s).take k) : Nat) ∧ Hid (((bsN s).take k).all isDig = true)) (fun i _ => s.size - (intOf i).toNat)
    case atStart => exact ⟨0, by omega, rfl, rfl, Lib.hid rfl⟩
    case round =>
      obtain ⟨k, hk, rfl, rfl, HK⟩ := hrel
      by_cases hlt : k < s.size
      · have hw := HW.out k hlt
        have hv := valN_9 (l := (bsN s).take k) (by simp; omega) HK.out
        have HGO := Lib.hid (digs_go (l := bsN s) (k := k) (by omega) HK.out)
        have HNO := Lib.hid (digs_no (l := bsN s) (k := k) (by omega))
        have hb : (bsN s)[k]?.getD 0 < 256 := by rw [List.getElem?_eq_getElem (by omega)]; exact HALL.out _ (List.getElem_mem (by omega))
        have hk0 : (0 : Int) ≤ (k : Int) := by omega
        have hk1 : (k : Int) < (s.size : Int) := by omega
        generalize (bsN s)[k]?.getD 0 = b at *
        generalize valN ((bsN s).take k) = v at *
        by_cases e1 : b < 48
        · have HN := Lib.hid (HNO.out (by simp [isDig]; omega))
          have q1 : decide ((b : Int) < 48) = true := by simp; omega
          go_wp2
          go_ret2
          exact ⟨by rw [HF.out, HN.out]; rfl, hbw⟩
        by_cases e2 : 57 < b
        · have HN := Lib.hid (HNO.out (by simp [isDig]; omega))
          have q1 : decide ((b : Int) < 48) = false := by simp; omega
          have q2 : decide ((57 : Int) < (b : Int)) = true := by simp; omega
          go_wp2
          go_ret2
          exact ⟨by rw [HF.out, HN.out]; rfl, hbw⟩
        have HN := Lib.hid (HGO.out (by simp [isDig]; omega))
        have q1 : decide ((b : Int) < 48) = false := by simp; omega
        have q2 : decide ((57 : Int) < (b : Int)) = false := by simp; omega
        go_wp2
        go_round
        case rel => exact ⟨k + 1, by omega, by go_num, by rw [HN.out.2]; congr 1; omega, Lib.hid HN.out.1⟩
        case measure => simp [intOf]; omega
      · have HE : Hid ((bsN s).take k = bsN s) := Lib.hid (List.take_of_length_le (by omega))
        go_wp2
        go_ret2
        exact ⟨by rw [HE.out] at HK; rw [HF.out, HK.out, HE.out]; rfl, hbw⟩
end Go.Proofs.Ytgafjjgnbcjmpaa

/-
  slices.IndexFunc on steps, def.Index; scalar.Number, block.At: contracts.
-/
namespace Go.Proofs.Ytgafjjgnbcjmpaa
open Go.RowKit Go.WideShapes

/-- Which step has a name: the first. -/
def idxStep : List StepD → ByteArray → Nat → Int
  | [], _, _ => -1
  | a :: l, n, i => if a.name = n then (i : Int) else idxStep l n (i + 1)
theorem idxStep_go {l : List StepD} {n : ByteArray} {k : Nat} : ∀ {i : Nat}, (∀ s ∈ l.take k, s.name ≠ n) → idxStep l n i = idxStep (l.drop k) n (i + min k l.length) := by
  induction k generalizing l with
  | zero => intro i _; simp
  | succ k ih =>
    intro i h
    cases l with
    | nil => simp [idxStep]
    | cons a l =>
      rw [idxStep, if_neg (h a (by simp)), List.drop_succ_cons, ih (fun s hs => h s (by simp [hs]))]
      congr 1; simp; omega
theorem idxStep_stop {l : List StepD} {n : ByteArray} {k : Nat} (hk : k < l.length) (h : ∀ s ∈ l.take k, s.name ≠ n) (h1 : l[k].name = n) : idxStep l n 0 = (k : Int) := by
  rw [idxStep_go (k := k) h, List.drop_eq_getElem_cons hk, idxStep, if_pos h1]; simp; omega
theorem idxStep_all {l : List StepD} {n : ByteArray} (h : ∀ s ∈ l, s.name ≠ n) : idxStep l n 0 = -1 := by
  rw [idxStep_go (k := l.length) (by simpa using h)]; simp [idxStep]

set_option maxRecDepth 100000 in
set_option maxHeartbeats 1000000 in
theorem dIndex1_any (s : StepD) (cs : List Value) (n : ByteArray) (B : Nat) (w : World) (h : StepX w cs s) (hB : w.heap[B]? = some (.cells #[.string n] 9 (0, 0))) :
    Calls Try.prog 35 #[.agg cs.toArray, .pointer (some ⟨B, 0, none⟩)] w fun e w' => e = .returned (.bool (decide (s.name = n))) ∧ Below w.heap.size w w' := by
  obtain ⟨a1, c1, k1, d1, b1, e1, h⟩ := h
  obtain ⟨rfl, -, hva, hna⟩ := h
  have hlt := (Array.getElem?_eq_some_iff.1 hB).1
  have hb0 := (Below.refl w.heap.size w).alloc (Nat.le_refl _) (.cells #[.string s.name, .string s.action, .string s.undo, .slice a1 s.after.length c1, .int .i64 s.most, .int .i64 s.first, .int .i64 s.factor, .int .i64 s.limit, .int .u8 (s.note.kind : Int), .string s.note.text, .slice k1 s.note.keys.length d1, .slice b1 s.note.kids.length e1, .int .i64 s.note.line] 45)
  have hq := (hb0.block _ hlt).trans hB
  have q0 : (w.alloc (.cells #[.string s.name, .string s.action, .string s.undo, .slice a1 s.after.length c1, .int .i64 s.most, .int .i64 s.first, .int .i64 s.factor, .int .i64 s.limit, .int .u8 (s.note.kind : Int), .string s.note.text, .slice k1 s.note.keys.length d1, .slice b1 s.note.kids.length e1, .int .i64 s.note.line] 45)).cell? ⟨B, 0, none⟩ = some (.string n) := by simp [World.cell?, hq]
  clear hq hB hva hna
  rcases hs : decide (s.name = n) with _ | _
  · have hd : (s.name.toList == n.toList) = false := beqS_no (by simpa using hs)
    clear hs
    go_enter Try.func35, Try.ntmps35
    go_wp2
    go_ret
    exact ⟨rfl, hb0⟩
  · have hd : (s.name.toList == n.toList) = true := beqS_yes (by simpa using hs)
    clear hs
    go_enter Try.func35, Try.ntmps35
    go_wp2
    go_ret
    exact ⟨rfl, hb0⟩

set_option maxRecDepth 100000 in
set_option maxHeartbeats 1000000 in
theorem IndexFuncD_any (l : List StepD) (v : Value) (n : ByteArray) (B : Nat) (w : World) (h : StepsR w v l) (hB : w.heap[B]? = some (.cells #[.string n] 9 (0, 0))) :
    Calls Try.prog 34 #[v, .func (.func 35) #[] #[.pointer (some ⟨B, 0, none⟩)]] w fun e w' => e = .returned (.int .i64 (idxStep l n 0)) ∧ Below w.heap.size w w' := by
  have HC := Lib.hid h
  have HBB := Lib.hid hB
  have hlt0 := (Array.getElem?_eq_some_iff.1 hB).1
  obtain ⟨va, vc, rfl, hv1, hv2⟩ := h.form
  clear h hB
  go_enter Try.func34, Try.ntmps34
  go_wp2
  go_loopw [8] (fun i wr => ∃ j : Nat, j ≤ l.length ∧ i = .int .i64 j ∧ Hid (∀ s ∈ l.take j, s.name ≠ n) ∧ Hid (Below w.heap.size w wr)) (fun i _ => l.length - (intOf i).toNat)
  case atStart => exact ⟨0, by omega, rfl, Lib.hid (by simp), Lib.hid (Below.refl _ _)⟩
  case round =>
    obtain ⟨j, hj, rfl, HE, HB⟩ := hrel
    have hbr := HB.out
    by_cases hlt : j < l.length
    · obtain ⟨g, off, cap, aa1, ac1, ka1, kc1, ba1, bc1, he, q1, q2, hn, z0, z1, z2, z3, z4, z5, z6, z7, z8, z9, z10, z11, z12⟩ := (HC.out.below hbr).at hlt
      cases he
      have HIH := Lib.hid (dIndex1_any l[j] _ n B wr ⟨_, _, _, _, _, _, hn⟩ ((hbr.block _ hlt0).trans HBB.out))
      have HGO := Lib.hid (fun h1 => take_all (p := fun s : StepD => s.name ≠ n) hlt HE.out h1)
      have HNO := Lib.hid (fun h1 => idxStep_stop hlt HE.out h1)
      have hj0 : (0 : Int) ≤ (j : Int) := by omega
      have hj1 : (j : Int) < (l.length : Int) := by omega
      clear hn
      generalize l[j] = s at *
      go_wp2_with fail
      refine HIH.out.mono ?_
      rintro e w4 ⟨rfl, hb4⟩
      have hbw4 := bthen hbr (Nat.le_refl _) hb4
      clear z0 z1 z2 z3 z4 z5 z6 z7 z8 z9 z10 z11 z12
      rcases hs : decide (s.name = n) with _ | _
      · have HS2 := Lib.hid (HGO.out (by simpa using hs))
        clear hs
        go_wp2
        go_roundw
        case rel => exact ⟨j + 1, by omega, by go_num, HS2, Lib.hid hbw4⟩
        case measure => simp [intOf]; omega
      · have HS2 := Lib.hid (HNO.out (by simpa using hs))
        clear hs
        go_wp2
        go_ret
        exact ⟨by rw [HS2.out]; rfl, hbw4⟩
    · have HS2 : Hid (idxStep l n 0 = -1) := Lib.hid (idxStep_all (by have := HE.out; rwa [List.take_of_length_le (by omega)] at this))
      go_wp2
      go_ret
      exact ⟨by rw [HS2.out]; rfl, hbr⟩

set_option maxRecDepth 100000 in
set_option maxHeartbeats 1000000 in
theorem dIndex_any (d : DefD) (n : ByteArray) (cs : List Value) (sa : Option Addr) (sc : Nat) (w : World) (h : DefR w cs d sa sc) :
    Calls Try.prog 12 #[.agg cs.toArray, .string n] w fun e w' => e = .returned (.int .i64 (idxStep d.steps n 0)) ∧ Below w.heap.size w w' := by
  obtain ⟨rfl, -, -, hva⟩ := h
  have hb0 : Below w.heap.size w ((w.alloc (.cells #[.string d.name, .string d.text, .slice sa d.steps.length sc] 24)).alloc (.cells #[.string n] 9)) := ((Below.refl _ w).alloc (Nat.le_refl _) _).alloc (by simp) _
  have HVA := Lib.hid (hva.below hb0)
  have g1 : ((w.alloc (.cells #[.string d.name, .string d.text, .slice sa d.steps.length sc] 24)).alloc (.cells #[.string n] 9)).heap[w.heap.size]? = some (.cells #[.string d.name, .string d.text, .slice sa d.steps.length sc] 24 (0, 0)) := (Below.heap_alloc _ _ _ (by simp)).trans (World.alloc_heap_new w _)
  have g2 : ((w.alloc (.cells #[.string d.name, .string d.text, .slice sa d.steps.length sc] 24)).alloc (.cells #[.string n] 9)).heap[w.heap.size + 1]? = some (.cells #[.string n] 9 (0, 0)) := by
    have := World.alloc_heap_new (w.alloc (.cells #[.string d.name, .string d.text, .slice sa d.steps.length sc] 24)) (.cells #[.string n] 9)
    rwa [World.size_alloc] at this
  clear hva
  generalize hwz : (w.alloc (.cells #[.string d.name, .string d.text, .slice sa d.steps.length sc] 24)).alloc (.cells #[.string n] 9) = wz at *
  obtain ⟨p0, p1, p2, -, -, -⟩ := cells3h g1
  have G2 := Lib.hid g2
  clear g1 g2
  go_enter Try.func12, Try.ntmps12
  go_wp2_with fail
  refine (IndexFuncD_any _ _ _ _ _ HVA.out G2.out).mono ?_
  rintro e w1 ⟨rfl, hb1⟩
  have hbw1 := bthen hb0 (Nat.le_refl _) hb1
  go_wp2
  go_ret
  exact ⟨rfl, hbw1⟩
end Go.Proofs.Ytgafjjgnbcjmpaa
