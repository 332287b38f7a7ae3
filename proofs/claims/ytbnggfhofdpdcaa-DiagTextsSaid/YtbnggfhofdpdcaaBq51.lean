/-
  strings.Builder.WriteByte, strings.Join at two and at three texts and a blank: contracts.
-/
import Derived.Test.YtbnggfhofdpdcaaBq19
import Derived.Test.YtbnggfhofdpdcaaBq23
import Derived.Test.YtbnggfhofdpdcaaBq47
namespace Go.Proofs.Ytbnggfhofdpdcaa
open Go.RowKit Go.Shelf

set_option maxHeartbeats 1000000 in
set_option maxRecDepth 100000 in
theorem WriteByte_any (B b : Nat) (bs : List Value) (c : Int) (w : World) (h : Lib.IsBuilder 144 5 B b bs w) (hlen : bs.length + 1 ≤ 140737488355328) (hBw : B ≤ w.heap.size) :
    Calls Try.prog 116 #[.pointer (some ⟨b, 0, none⟩), .int .u8 c] w fun e w' => e = .returned .nilIface ∧ Lib.IsBuilder 144 5 B b (bs ++ [.int .u8 c]) w' ∧ Below B w w' := by
  obtain ⟨i0, hi, hz0, hz1, hz2⟩ := info_parts Try.info5
  go_enter Try.func116, Try.ntmps116
  go_wp2_with fail
  refine (copyCheck_any B b bs _ h).mono ?_
  rintro e w1 ⟨rfl, h1, hb1⟩
  obtain ⟨hB, v, hbk, hown, hne⟩ := h1
  have HBK := Lib.hid hbk
  obtain ⟨c0, c1, f0, f1⟩ := cells2 hbk
  have hsz := hb1.size
  go_wp2_with (at_builtin; go_must (refine wpList_push rfl _ _ 142 rfl B 5 i0 (.int .u8 0) 1 1 Try.underlying142 hi hz0 hz1 hz2 rfl (by decide) _ _ _ rfl (hown.alloc _) ⟨w1.heap.size, 0, none⟩ 1 1 [_] rfl rfl (cell_one_new _ _ _) (by simp [Value.oneCell']) (by unfold maxLen; omega) (by omega) (by simp; omega) ?_; intro v' w2 hown' hgrow hfr; have hb2 := kept_push HBK.out hgrow hne; obtain ⟨d0, d1, g0, g1⟩ := cells2 hb2; obtain ⟨a', c', rfl⟩ := (RdS.of_owns hown').form; have HOW := Lib.hid hown'; have HGB := Lib.hid (below_push hb1 (by omega) hown (Nat.le_refl _) hgrow); have HB2 := Lib.hid hb2; clear hown' hgrow hfr hb2))
  go_ret
  refine ⟨rfl, .inr ?_, ?_⟩
  · exact Lib.BuilderAt.put (T := 144) (e := 5) hB HB2.out (bs' := bs ++ [.int .u8 c]) (by simpa using HOW.out) (by decide)
  · exact HGB.out.setCell (p := ⟨b, 1, none⟩) hB _

def sepB : ByteArray := { data := #[32] }
/-- Texts, a blank between. -/
def joinB : List ByteArray → ByteArray
  | [] => { data := #[] }
  | a :: l => l.foldl (fun r x => r ++ sepB ++ x) a
theorem joinB_step : ∀ (xs : List ByteArray) (q : Nat) (h : q + 1 < xs.length), joinB (xs.take (q + 1 + 1)) = joinB (xs.take (q + 1)) ++ sepB ++ xs[q + 1]
  | [], q, h => absurd h (by simp)
  | a :: l, q, h => by
    have h' : q < l.length := by simpa using h
    rw [List.take_succ_cons, List.take_succ_cons, joinB, joinB, List.take_add_one, List.getElem?_eq_getElem h', Option.toList_some, List.foldl_append]
    rfl
theorem joinB_size (xs : List ByteArray) (m : Nat) (h : ∀ x ∈ xs, x.size ≤ m) : ∀ k : Nat, (joinB (xs.take k)).size ≤ k * (m + 1)
  | 0 => by simp [joinB, ByteArray.size]
  | 1 => by
    cases xs with
    | nil => simp [joinB, ByteArray.size]
    | cons a l => have := h a (by simp); simp [joinB]; omega
  | k + 2 => by
    by_cases hk : k + 1 < xs.length
    · have ih := joinB_size xs m h (k + 1)
      have hx := h _ (List.getElem_mem hk)
      rw [joinB_step xs k hk]
      rw [ByteArray.size_append, ByteArray.size_append, show sepB.size = 1 from rfl]
      have e1 : (k + 2) * (m + 1) = (k + 1) * (m + 1) + (m + 1) := Nat.succ_mul (k + 1) (m + 1)
      omega
    · have ih := joinB_size xs m h (k + 1)
      rw [List.take_of_length_le (by omega)] at ih ⊢
      have e1 : (k + 2) * (m + 1) = (k + 1) * (m + 1) + (m + 1) := Nat.succ_mul (k + 1) (m + 1)
      omega
theorem strCells_add (a b : ByteArray) : Lib.strCells (a ++ b) = Lib.strCells a ++ Lib.strCells b := by simp [Lib.strCells]
set_option maxRecDepth 100000 in
set_option maxHeartbeats 8000000 in
theorem Join2_any (a b : ByteArray) (bk o cap : Nat) (w : World) (h : RdS w (.slice (some ⟨bk, o, none⟩) 2 cap) 1 2 (strsV [a, b])) (hs : a.size + b.size ≤ 1000000000) :
    Calls Try.prog 111 #[.slice (some ⟨bk, o, none⟩) 2 cap, .string { data := #[32] }] w fun e w' => e = .returned (.string (joinB [a, b])) ∧ Below w.heap.size w w' := by
  have HR := Lib.hid h
  have HSZ : Hid (∀ (k : Nat) (hk : k < 2), ([a, b][k]'hk).size ≤ 1000000000) := Lib.hid (fun k hk => by
    match k, hk with
    | 0, _ => show (a : ByteArray).size ≤ 1000000000; omega
    | 1, _ => show (b : ByteArray).size ≤ 1000000000; omega)
  have HAT : Hid (∀ (W : World), Below w.heap.size w W → ∀ (k : Nat) (hk : k < 2), W.cell? ⟨bk, o + k, none⟩ = some (.string ([a, b][k]'hk))) := Lib.hid (fun W hb k hk => by
    obtain ⟨g, off, he, -, -, y⟩ := strs_at (l := [a, b]) (HR.out.below hb) (i := k) hk
    cases he
    exact y)
  obtain ⟨_, _, _, hva, hcp1, hcp2, -⟩ := h
  cases hva
  unfold maxLen at hcp2
  go_enter Try.func111, Try.ntmps111
  go_wp2_with fail
  go_loopg [41, 5] (2 + 1) (fun gk s41 s5 wr => ∃ (k n : Nat), k + gk = 2 + 1 ∧ k ≤ 2 ∧ s41 = .int .i64 k ∧ s5 = .int .i64 n ∧ 1 ≤ n ∧ n ≤ 1 + k * 1000000000 ∧ wr = w)
  case atStart => exact ⟨0, 1, by omega, by omega, rfl, rfl, by omega, by omega, rfl⟩
  case round =>
    obtain ⟨k, n, hgk, hk, rfl, rfl, hn1, hn2, rfl⟩ := hrel
    have hg : gk = 2 + 1 - k := by omega
    subst hg
    by_cases hkl : k < 2
    · have d1 : decide ((k : Int) < 2) = true := decide_eq_true (by omega)
      have hk1 : (k : Int) < 2 := by omega
      have y0 := HAT.out wr (Below.refl _ _) k hkl
      have hxz := HSZ.out k hkl
      generalize [a, b][k] = x at *
      have hw1 : IntKind.i64.wrap (9223372036854775807 - (n : Int)) = 9223372036854775807 - (n : Int) := IntWalk.i64_in _ (by omega)
      have d2 : decide (9223372036854775807 - (n : Int) < (x.size : Int)) = false := decide_eq_false (by omega)
      have hw2 : IntKind.i64.wrap ((n : Int) + (x.size : Int)) = ((n + x.size : Nat) : Int) := by rw [IntWalk.i64_in _ (by omega)]; omega
      go_wp2_with fail
      go_roundg (2 + 1 - (k + 1))
      case measure => omega
      case rel => exact ⟨k + 1, n + x.size, by omega, by omega, by go_num, by go_num, by omega, by omega, rfl⟩
    · have d1 : decide ((k : Int) < 2) = false := decide_eq_false (by omega)
      have hk1 : ¬ (k : Int) < 2 := by omega
      clear hgk
      have hbk := World.alloc_heap_new wr (.cells #[.pointer none, .slice none 0 0] 144)
      have hb0 : Below wr.heap.size wr (wr.alloc (.cells #[.pointer none, .slice none 0 0] 144)) := (Below.refl _ _).alloc (Nat.le_refl _) _
      have HBK := Lib.hid hbk
      have HB0 := Lib.hid hb0
      clear hbk hb0
      go_upto_region 19 with fail
      generalize (wr.alloc (.cells #[.pointer none, .slice none 0 0] 144)) = w1 at *
      have hs1 := (Array.getElem?_eq_some_iff.1 HBK.out).1
      go_wp2_with fail
      refine (Grow_any wr.heap.size wr.heap.size n w1 (Nat.le_refl _) HBK.out (by omega) (by omega) (by omega)).mono ?_
      rintro e w2 ⟨rfl, hI2, hb2⟩
      have HI2 : Hid (Lib.IsBuilder 144 5 wr.heap.size wr.heap.size [] w2) := Lib.hid (.inr hI2)
      have HB2 := Lib.hid (HB0.out.trans hb2)
      clear hI2 hb2
      have y0 := HAT.out w2 HB2.out 0 (by omega)
      simp only [List.getElem_cons_zero, Nat.add_zero] at y0
      go_wp2_with fail
      refine (WriteString_any wr.heap.size wr.heap.size [] a w2 HI2.out (by simp; omega) HB2.out.size).mono ?_
      rintro e w3 ⟨rfl, hI3, hb3⟩
      have HI3 : Hid (Lib.IsBuilder 144 5 wr.heap.size wr.heap.size (Lib.strCells (joinB ([a, b].take 1))) w3) := Lib.hid (by simpa [joinB] using hI3)
      have HB3 := Lib.hid (HB2.out.trans hb3)
      clear hI3 hb3 y0
      go_wp2_with fail
      go_loopg [65] (1 + 1) (fun gk s65 wi => ∃ (k : Nat), k + gk = 1 + 1 ∧ k ≤ 1 ∧ s65 = .int .i64 k ∧ Hid (Lib.IsBuilder 144 5 wr.heap.size wr.heap.size (Lib.strCells (joinB ([a, b].take (k + 1)))) wi) ∧ Hid (Below wr.heap.size wr wi))
      case atStart => exact ⟨0, by omega, by omega, rfl, HI3, HB3⟩
      case round =>
        obtain ⟨q, hgq, hq, rfl, HI, HB⟩ := hrel
        rename World => wi
        have hg : gk = 1 + 1 - q := by omega
        subst hg
        by_cases hql : q < 1
        · have d3 : decide ((q : Int) < 1) = true := decide_eq_true (by omega)
          have hq1 : (q : Int) < 1 := by omega
          have y0 := HAT.out wi HB.out (q + 1) (by omega)
          rw [show o + (q + 1) = o + 1 + q by omega] at y0
          have HJ := Lib.hid (joinB_step [a, b] q (by show q + 1 < 2; omega))
          have HZ := Lib.hid (joinB_size [a, b] 1000000000 (fun x hx => by obtain ⟨k, hk, rfl⟩ := List.getElem_of_mem hx; exact HSZ.out k hk) (q + 1))
          have hxz := HSZ.out (q + 1) (by omega)
          have HJ2 : Hid (joinB ([a, b].take (q + 1 + 1)) = joinB ([a, b].take (q + 1)) ++ sepB ++ ([a, b][q + 1]'(by show q + 1 < 2; omega))) := HJ
          generalize hxx : ([a, b][q + 1]'(by show q + 1 < 2; omega)) = x at *
          go_wp2_with fail
          refine (WriteString_any wr.heap.size wr.heap.size _ sepB wi HI.out (by have := HZ.out; rw [Lib.strCells_length]; have : sepB.size = 1 := rfl; omega) HB.out.size).mono ?_
          rintro e w5 ⟨rfl, hI5, hb5⟩
          have HI5 := Lib.hid hI5
          have HB5 := Lib.hid (HB.out.trans hb5)
          clear hI5 hb5
          go_wp2_with fail
          refine (WriteString_any wr.heap.size wr.heap.size _ x w5 HI5.out (by have := HZ.out; rw [List.length_append, Lib.strCells_length, Lib.strCells_length]; have : sepB.size = 1 := rfl; omega) HB5.out.size).mono ?_
          rintro e w6 ⟨rfl, hI6, hb6⟩
          have HI6 : Hid (Lib.IsBuilder 144 5 wr.heap.size wr.heap.size (Lib.strCells (joinB ([a, b].take (q + 1 + 1)))) w6) := Lib.hid (by rw [HJ2.out, strCells_add, strCells_add]; exact hI6)
          have HB6 := Lib.hid (HB5.out.trans hb6)
          clear hI6 hb6 y0
          go_wp2_with fail
          go_roundg (1 + 1 - (q + 1))
          case measure => omega
          case rel => exact ⟨q + 1, by omega, by omega, by go_num, HI6, HB6⟩
        · have d3 : decide ((q : Int) < 1) = false := decide_eq_false (by omega)
          have hq1 : ¬ (q : Int) < 1 := by omega
          have hqe : q = 1 := by omega
          subst hqe
          have hI := HI.out
          rw [show ([a, b].take (1 + 1)) = [a, b] from rfl, Lib.strCells_eq] at hI
          have HIF := Lib.hid hI
          clear hI
          go_wp2_with fail
          refine (BString_any wr.heap.size wr.heap.size _ wi HIF.out HB.out.size).mono ?_
          rintro e w7 ⟨rfl, hb7⟩
          have HB7 := Lib.hid (HB.out.trans hb7)
          clear hb7
          go_wp2_with fail
          go_ret
          exact ⟨rfl, HB7.out⟩
set_option maxRecDepth 100000 in
set_option maxHeartbeats 8000000 in
theorem Join3_any (a b c : ByteArray) (bk o cap : Nat) (w : World) (h : RdS w (.slice (some ⟨bk, o, none⟩) 3 cap) 1 3 (strsV [a, b, c])) (hs : a.size + b.size + c.size ≤ 1000000000) :
    Calls Try.prog 111 #[.slice (some ⟨bk, o, none⟩) 3 cap, .string { data := #[32] }] w fun e w' => e = .returned (.string (joinB [a, b, c])) ∧ Below w.heap.size w w' := by
  have HR := Lib.hid h
  have HSZ : Hid (∀ (k : Nat) (hk : k < 3), ([a, b, c][k]'hk).size ≤ 1000000000) := Lib.hid (fun k hk => by
    match k, hk with
    | 0, _ => show (a : ByteArray).size ≤ 1000000000; omega
    | 1, _ => show (b : ByteArray).size ≤ 1000000000; omega
    | 2, _ => show (c : ByteArray).size ≤ 1000000000; omega)
  have HAT : Hid (∀ (W : World), Below w.heap.size w W → ∀ (k : Nat) (hk : k < 3), W.cell? ⟨bk, o + k, none⟩ = some (.string ([a, b, c][k]'hk))) := Lib.hid (fun W hb k hk => by
    obtain ⟨g, off, he, -, -, y⟩ := strs_at (l := [a, b, c]) (HR.out.below hb) (i := k) hk
    cases he
    exact y)
  obtain ⟨_, _, _, hva, hcp1, hcp2, -⟩ := h
  cases hva
  unfold maxLen at hcp2
  go_enter Try.func111, Try.ntmps111
  go_wp2_with fail
  go_loopg [41, 5] (3 + 1) (fun gk s41 s5 wr => ∃ (k n : Nat), k + gk = 3 + 1 ∧ k ≤ 3 ∧ s41 = .int .i64 k ∧ s5 = .int .i64 n ∧ 2 ≤ n ∧ n ≤ 2 + k * 1000000000 ∧ wr = w)
  case atStart => exact ⟨0, 2, by omega, by omega, rfl, rfl, by omega, by omega, rfl⟩
  case round =>
    obtain ⟨k, n, hgk, hk, rfl, rfl, hn1, hn2, rfl⟩ := hrel
    have hg : gk = 3 + 1 - k := by omega
    subst hg
    by_cases hkl : k < 3
    · have d1 : decide ((k : Int) < 3) = true := decide_eq_true (by omega)
      have hk1 : (k : Int) < 3 := by omega
      have y0 := HAT.out wr (Below.refl _ _) k hkl
      have hxz := HSZ.out k hkl
      generalize [a, b, c][k] = x at *
      have hw1 : IntKind.i64.wrap (9223372036854775807 - (n : Int)) = 9223372036854775807 - (n : Int) := IntWalk.i64_in _ (by omega)
      have d2 : decide (9223372036854775807 - (n : Int) < (x.size : Int)) = false := decide_eq_false (by omega)
      have hw2 : IntKind.i64.wrap ((n : Int) + (x.size : Int)) = ((n + x.size : Nat) : Int) := by rw [IntWalk.i64_in _ (by omega)]; omega
      go_wp2_with fail
      go_roundg (3 + 1 - (k + 1))
      case measure => omega
      case rel => exact ⟨k + 1, n + x.size, by omega, by omega, by go_num, by go_num, by omega, by omega, rfl⟩
    · have d1 : decide ((k : Int) < 3) = false := decide_eq_false (by omega)
      have hk1 : ¬ (k : Int) < 3 := by omega
      clear hgk
      have hbk := World.alloc_heap_new wr (.cells #[.pointer none, .slice none 0 0] 144)
      have hb0 : Below wr.heap.size wr (wr.alloc (.cells #[.pointer none, .slice none 0 0] 144)) := (Below.refl _ _).alloc (Nat.le_refl _) _
      have HBK := Lib.hid hbk
      have HB0 := Lib.hid hb0
      clear hbk hb0
      go_upto_region 19 with fail
      generalize (wr.alloc (.cells #[.pointer none, .slice none 0 0] 144)) = w1 at *
      have hs1 := (Array.getElem?_eq_some_iff.1 HBK.out).1
      go_wp2_with fail
      refine (Grow_any wr.heap.size wr.heap.size n w1 (Nat.le_refl _) HBK.out (by omega) (by omega) (by omega)).mono ?_
      rintro e w2 ⟨rfl, hI2, hb2⟩
      have HI2 : Hid (Lib.IsBuilder 144 5 wr.heap.size wr.heap.size [] w2) := Lib.hid (.inr hI2)
      have HB2 := Lib.hid (HB0.out.trans hb2)
      clear hI2 hb2
      have y0 := HAT.out w2 HB2.out 0 (by omega)
      simp only [List.getElem_cons_zero, Nat.add_zero] at y0
      go_wp2_with fail
      refine (WriteString_any wr.heap.size wr.heap.size [] a w2 HI2.out (by simp; omega) HB2.out.size).mono ?_
      rintro e w3 ⟨rfl, hI3, hb3⟩
      have HI3 : Hid (Lib.IsBuilder 144 5 wr.heap.size wr.heap.size (Lib.strCells (joinB ([a, b, c].take 1))) w3) := Lib.hid (by simpa [joinB] using hI3)
      have HB3 := Lib.hid (HB2.out.trans hb3)
      clear hI3 hb3 y0
      go_wp2_with fail
      go_loopg [65] (2 + 1) (fun gk s65 wi => ∃ (k : Nat), k + gk = 2 + 1 ∧ k ≤ 2 ∧ s65 = .int .i64 k ∧ Hid (Lib.IsBuilder 144 5 wr.heap.size wr.heap.size (Lib.strCells (joinB ([a, b, c].take (k + 1)))) wi) ∧ Hid (Below wr.heap.size wr wi))
      case atStart => exact ⟨0, by omega, by omega, rfl, HI3, HB3⟩
      case round =>
        obtain ⟨q, hgq, hq, rfl, HI, HB⟩ := hrel
        rename World => wi
        have hg : gk = 2 + 1 - q := by omega
        subst hg
        by_cases hql : q < 2
        · have d3 : decide ((q : Int) < 2) = true := decide_eq_true (by omega)
          have hq1 : (q : Int) < 2 := by omega
          have y0 := HAT.out wi HB.out (q + 1) (by omega)
          rw [show o + (q + 1) = o + 1 + q by omega] at y0
          have HJ := Lib.hid (joinB_step [a, b, c] q (by show q + 1 < 3; omega))
          have HZ := Lib.hid (joinB_size [a, b, c] 1000000000 (fun x hx => by obtain ⟨k, hk, rfl⟩ := List.getElem_of_mem hx; exact HSZ.out k hk) (q + 1))
          have hxz := HSZ.out (q + 1) (by omega)
          have HJ2 : Hid (joinB ([a, b, c].take (q + 1 + 1)) = joinB ([a, b, c].take (q + 1)) ++ sepB ++ ([a, b, c][q + 1]'(by show q + 1 < 3; omega))) := HJ
          generalize hxx : ([a, b, c][q + 1]'(by show q + 1 < 3; omega)) = x at *
          go_wp2_with fail
          refine (WriteString_any wr.heap.size wr.heap.size _ sepB wi HI.out (by have := HZ.out; rw [Lib.strCells_length]; have : sepB.size = 1 := rfl; omega) HB.out.size).mono ?_
          rintro e w5 ⟨rfl, hI5, hb5⟩
          have HI5 := Lib.hid hI5
          have HB5 := Lib.hid (HB.out.trans hb5)
          clear hI5 hb5
          go_wp2_with fail
          refine (WriteString_any wr.heap.size wr.heap.size _ x w5 HI5.out (by have := HZ.out; rw [List.length_append, Lib.strCells_length, Lib.strCells_length]; have : sepB.size = 1 := rfl; omega) HB5.out.size).mono ?_
          rintro e w6 ⟨rfl, hI6, hb6⟩
          have HI6 : Hid (Lib.IsBuilder 144 5 wr.heap.size wr.heap.size (Lib.strCells (joinB ([a, b, c].take (q + 1 + 1)))) w6) := Lib.hid (by rw [HJ2.out, strCells_add, strCells_add]; exact hI6)
          have HB6 := Lib.hid (HB5.out.trans hb6)
          clear hI6 hb6 y0
          go_wp2_with fail
          go_roundg (2 + 1 - (q + 1))
          case measure => omega
          case rel => exact ⟨q + 1, by omega, by omega, by go_num, HI6, HB6⟩
        · have d3 : decide ((q : Int) < 2) = false := decide_eq_false (by omega)
          have hq1 : ¬ (q : Int) < 2 := by omega
          have hqe : q = 2 := by omega
          subst hqe
          have hI := HI.out
          rw [show ([a, b, c].take (2 + 1)) = [a, b, c] from rfl, Lib.strCells_eq] at hI
          have HIF := Lib.hid hI
          clear hI
          go_wp2_with fail
          refine (BString_any wr.heap.size wr.heap.size _ wi HIF.out HB.out.size).mono ?_
          rintro e w7 ⟨rfl, hb7⟩
          have HB7 := Lib.hid (HB.out.trans hb7)
          clear hb7
          go_wp2_with fail
          go_ret
          exact ⟨rfl, HB7.out⟩
end Go.Proofs.Ytbnggfhofdpdcaa
