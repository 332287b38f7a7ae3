/-
  scalar.Put at a plain text, diag.Text, diag.Lines: contracts.
-/
import Derived.Test.YtbnggfhofdpdcaaBq26
import Derived.Test.YtbnggfhofdpdcaaBq30
import Derived.Test.YtbnggfhofdpdcaaBq39
import Derived.Test.YtbnggfhofdpdcaaBq42
import Derived.Test.YtbnggfhofdpdcaaBq47
import Derived.Test.YtbnggfhofdpdcaaBq50
import Derived.Test.YtbnggfhofdpdcaaBq51
import Derived.Test.YtbnggfhofdpdcaaBq52
namespace Go.Proofs.Ytbnggfhofdpdcaa
open Go Go.RowKit Go.WideShapes

set_option maxRecDepth 100000 in
theorem Put_plain (s : ByteArray) (w : World) (hp : plainT s = true) (hs : s.size ≤ 9223372036854775806) :
    Calls Try.prog 110 #[.string s] w fun e w' => e = .returned (.string s) ∧ Below w.heap.size w w' := by
  go_enter Try.func110, Try.ntmps110
  go_wp2_with fail
  refine (sPlain_any s w hs).mono ?_
  rintro e w1 ⟨rfl, rfl⟩
  rw [hp]
  go_wp2_with fail
  go_ret
  exact ⟨rfl, Below.refl _ _⟩
/-- A step's number in a line. -/
def stD (n : Int) : ByteArray := if 0 ≤ n then digS n else { data := #[45] }
theorem stD_size (n : Int) : (stD n).size ≤ 9 := by
  unfold stD
  split
  · unfold digS
    split
    · rename_i h
      rw [mkS_size]
      exact (digN_len n.toNat 8 (by omega)).2
    · exact Nat.zero_le _
  · decide
theorem wordD_size (e : Int) : (wordD e).size ≤ 7 := by
  unfold wordD
  split
  · have h : ∀ k : Nat, (wordsL[k]?.getD { data := #[] }).size ≤ 7 := fun k => by
      cases hk : wordsL[k]? with
      | none => exact Nat.zero_le _
      | some x =>
        have := List.mem_of_getElem? hk
        have hall : ∀ x ∈ wordsL, x.size ≤ 7 := by decide +kernel
        exact hall x this
    exact h _
  · exact Nat.zero_le _
/-- A line about it; p: its text as it stands in a definition's text. -/
def textG (x : DiagD) (p : ByteArray) : ByteArray := if x.2.2.toList.isEmpty then joinB [stD x.1, wordD x.2.1] else joinB [stD x.1, wordD x.2.1, p]
theorem owns_two (w : World) (t : TypeId) (x y : Value) : (w.alloc (.cells #[x, y] t)).ownsRow w.heap.size t 1 (.slice (some ⟨w.heap.size, 0, none⟩) 2 2) 2 [x, y] :=
  ⟨rfl, .inr ⟨w.heap.size, 2, #[x, y], rfl, Nat.le_refl _, World.alloc_heap_new w _, by omega, by unfold maxLen; omega, rfl, rfl⟩⟩

set_option maxRecDepth 100000 in
set_option maxHeartbeats 4000000 in
theorem dText_any (x : DiagD) (p : ByteArray) (w : World) (hp : p.size ≤ 900000000) (hput : x.2.2.toList.isEmpty = false → ∀ W, Calls Try.prog 110 #[.string x.2.2] W fun e w' => e = .returned (.string p) ∧ Below W.heap.size W w') :
    Calls Try.prog 45 #[.agg #[.int .i64 x.1, .int .i64 x.2.1, .string x.2.2]] w fun e w' => e = .returned (.string (textG x p)) ∧ Below w.heap.size w w' := by
  obtain ⟨i0, hi, hz0, hz1, hz2⟩ := info_parts Try.info_str
  have HP := Lib.hid hput
  have g0 := World.alloc_heap_new w (.cells #[.int .i64 x.1, .int .i64 x.2.1, .string x.2.2] 61)
  have hb0 := (Below.refl w.heap.size w).alloc (Nat.le_refl _) (.cells #[.int .i64 x.1, .int .i64 x.2.1, .string x.2.2] 61)
  have HSD : Hid (stD x.1 = if 0 ≤ x.1 then digS x.1 else { data := #[45] }) := Lib.hid rfl
  have hz1' := stD_size x.1
  have hz2' := wordD_size x.2.1
  have HW := Lib.hid (dWord_any x.2.1)
  have HTX : Hid (textG x p = if x.2.2.toList.isEmpty then joinB [stD x.1, wordD x.2.1] else joinB [stD x.1, wordD x.2.1, p]) := Lib.hid rfl
  clear hput
  go_enter Try.func45, Try.ntmps45
  go_upto_region 2 with fail
  generalize (w.alloc (.cells #[.int .i64 x.1, .int .i64 x.2.1, .string x.2.2] 61)) = w0 at *
  have HB0 := Lib.hid hb0
  have HG0 := Lib.hid g0
  obtain ⟨p0, p1, p2, -, -, -⟩ := cells3h g0
  clear hb0 g0
  have HT1 : Hid (decide (0 ≤ x.1) = true → digS x.1 = stD x.1) := Lib.hid (fun h => by rw [HSD.out, if_pos (of_decide_eq_true h)])
  have HT0 : Hid (decide (0 ≤ x.1) = false → { data := #[45] } = stD x.1) := Lib.hid (fun h => by rw [HSD.out, if_neg (of_decide_eq_false h)])
  clear HSD
  generalize hst : stD x.1 = st at *
  generalize hwd : wordD x.2.1 = wd at *
  generalize hbd : decide (0 ≤ x.1) = bd at *
  go_upto_if 7 with fail
  go_cut [3] (fun s3 wx => s3 = .string st ∧ Below w0.heap.size w0 wx)
  case first =>
    cases bd with
    | true =>
      have HE := Lib.hid (HT1.out rfl)
      go_wp2_with fail
      refine (Digits_any x.1 _).mono ?_
      rintro e w1 ⟨rfl, hb1⟩
      rw [HE.out]
      go_wp2_with fail
      go_meet
      exact ⟨rfl, hb1⟩
    | false =>
      have HE := Lib.hid (HT0.out rfl)
      go_wp2_with fail
      go_meet
      exact ⟨by rw [HE.out], Below.refl _ _⟩
  case rest =>
  obtain ⟨rfl, hb1⟩ := hcut
  generalize wc = w1 at *
  have HB1 := Lib.hid (bthen HB0.out (Nat.le_refl _) hb1)
  have HG1 := Lib.hid ((hb1.block _ (Array.getElem?_eq_some_iff.1 HG0.out).1).trans HG0.out)
  clear p0 p1 p2 hb1
  obtain ⟨p0, p1, p2, -, -, -⟩ := cells3h HG1.out
  go_wp2_with fail
  refine (HW.out _).mono ?_
  rintro e w2 ⟨rfl, hb2⟩
  have HB2 := Lib.hid (bthen HB1.out (Nat.le_refl _) hb2)
  have HG2 := Lib.hid ((hb2.block _ (Array.getElem?_eq_some_iff.1 HG1.out).1).trans HG1.out)
  clear p0 p1 p2 hb2
  obtain ⟨p0, p1, p2, -, -, -⟩ := cells3h HG2.out
  go_upto_region 5 with fail
  have hx := owns_two w2 9 (.string st) (.string wd)
  have hbx : Below w2.heap.size w2 (w2.alloc (.cells #[.string st, .string wd] 9)) := (Below.refl _ _).alloc (Nat.le_refl _) _
  have HB3 := Lib.hid (bthen HB2.out (Nat.le_refl _) hbx)
  have HO3 : Hid ((w2.alloc (.cells #[.string st, .string wd] 9)).ownsRow w2.heap.size 9 1 (.slice (some ⟨w2.heap.size, 0, none⟩) 2 2) 2 (strsV [st, wd])) := Lib.hid hx
  have HG3 := Lib.hid ((hbx.block _ (Array.getElem?_eq_some_iff.1 HG2.out).1).trans HG2.out)
  have hlt2 : w2.heap.size < (w2.alloc (.cells #[.string st, .string wd] 9)).heap.size := by simp
  have HL2 := Lib.hid (HB2.out.size)
  generalize (w2.alloc (.cells #[.string st, .string wd] 9)) = w3 at *
  generalize w2.heap.size = G at *
  clear p0 p1 p2 hbx hx
  obtain ⟨p0, p1, p2, -, -, -⟩ := cells3h HG3.out
  generalize hue : x.2.2.toList.isEmpty = ue at *
  cases ue with
  | true =>
    have HR := Lib.hid (RdS.of_owns HO3.out)
    go_wp2_with fail
    refine (Join2_any st wd G 0 2 w3 HR.out (by omega)).mono ?_
    rintro e w4 ⟨rfl, hb4⟩
    have HB4 := Lib.hid (bthen HB3.out (Nat.le_refl _) hb4)
    clear hb4 p0 p1 p2
    go_wp2_with fail
    go_ret
    rw [HTX.out]
    exact ⟨rfl, HB4.out⟩
  | false =>
    go_wp2_with fail
    refine (HP.out (by trivial) _).mono ?_
    rintro e w4 ⟨rfl, hb4⟩
    have HB4 := Lib.hid (bthen HB3.out (Nat.le_refl _) hb4)
    have HO4 := Lib.hid (ownsB HO3.out hb4)
    have hs4 := hb4.size
    clear hb4 p0 p1 p2
    go_wp2_with (at_builtin; go_must (refine wpList_push rfl _ _ 31 rfl G 9 i0 (.string ByteArray.empty) 1 16 Try.underlying31 hi hz0 hz1 hz2 rfl (by decide) _ _ _ rfl (HO4.out.alloc _) ⟨w4.heap.size, 0, none⟩ 1 1 [_] rfl rfl (cell_one_new _ _ _) (by simp [Value.oneCell']) (by unfold maxLen; omega) (by omega) (by simp; omega) ?_; intro v' w5 hown' hgrow hfr; have HB5 := Lib.hid (below_push HB4.out HB4.out.size HO4.out HL2.out hgrow); have HO5 := Lib.hid (show w5.ownsRow G 9 1 v' 3 (strsV [st, wd, p]) from hown'); clear hown' hgrow hfr))
    obtain ⟨va, vc, rfl⟩ := (RdS.of_owns HO5.out).form
    obtain ⟨g5, hva⟩ : ∃ g5, va = some ⟨g5, 0, none⟩ := by
      rcases HO5.out.2 with ⟨h1, _⟩ | ⟨g', cap, cur, hv, _⟩
      · cases h1
      · injection hv with h1 h2 h3; exact ⟨g', h1⟩
    subst hva
    have HR := Lib.hid (RdS.of_owns HO5.out)
    go_wp2_with fail
    refine (Join3_any st wd p g5 0 vc w5 HR.out (by omega)).mono ?_
    rintro e w6 ⟨rfl, hb6⟩
    have HB6 := Lib.hid (bthen HB5.out (by have := HB5.out.size; exact Nat.le_refl _) hb6)
    clear hb6
    go_wp2_with fail
    go_ret
    rw [HTX.out]
    exact ⟨rfl, HB6.out⟩
/-- A line about each. -/
def linesG (tx : DiagD → ByteArray) (l : List DiagD) : ByteArray := l.foldl (fun r x => r ++ tx x ++ { data := #[10] }) { data := #[] }
theorem linesG_snoc (tx : DiagD → ByteArray) (l : List DiagD) (x : DiagD) : linesG tx (l ++ [x]) = linesG tx l ++ tx x ++ { data := #[10] } := by
  unfold linesG; rw [List.foldl_append]; rfl
theorem linesG_size (tx : DiagD → ByteArray) (m : Nat) (l : List DiagD) (h : ∀ x ∈ l, (tx x).size ≤ m) : (linesG tx l).size ≤ l.length * (m + 1) := by
  induction l using snocRec with
  | h0 => simp [linesG, ByteArray.size]
  | h1 l x ih =>
    have h1 := ih fun y hy => h y (by simp [hy])
    have h2 := h x (by simp)
    rw [linesG_snoc, ByteArray.size_append, ByteArray.size_append, List.length_append, List.length_singleton, Nat.add_mul]
    have : ({ data := #[10] } : ByteArray).size = 1 := rfl
    omega

set_option maxRecDepth 100000 in
set_option maxHeartbeats 4000000 in
theorem Lines_any (l : List DiagD) (tx : DiagD → ByteArray) (v : Value) (w : World) (hv : DgR w v l) (hl : l.length ≤ 1000) (hsz : ∀ x ∈ l, (tx x).size ≤ 1000000) (htx : ∀ x ∈ l, ∀ W, Calls Try.prog 45 #[.agg #[.int .i64 x.1, .int .i64 x.2.1, .string x.2.2]] W fun e w' => e = .returned (.string (tx x)) ∧ Below W.heap.size W w') :
    Calls Try.prog 49 #[v] w fun e w' => e = .returned (.string (linesG tx l)) ∧ Below w.heap.size w w' := by
  have HV := Lib.hid hv
  have HTX := Lib.hid htx
  have HSZ := Lib.hid hsz
  obtain ⟨va, vc, rfl, hc1, hc2⟩ := hv.form
  have hb0 : Below w.heap.size w (w.alloc (.cells #[.pointer none, .slice none 0 0] 144)) := (Below.refl _ _).alloc (Nat.le_refl _) _
  have hfr := Lib.fresh_isBuilder 144 5 w
  have HB0 := Lib.hid hb0
  have HI0 := Lib.hid hfr
  clear hv htx hsz hb0 hfr
  go_enter Try.func49, Try.ntmps49
  go_wp2_with fail
  generalize (w.alloc (.cells #[.pointer none, .slice none 0 0] 144)) = w0 at *
  go_loopg [8] (l.length + 1) (fun gk i wr => ∃ k : Nat, k + gk = l.length + 1 ∧ k ≤ l.length ∧ i = .int .i64 k ∧ Hid (Lib.IsBuilder 144 5 w.heap.size w.heap.size (Lib.strCells (linesG tx (l.take k))) wr) ∧ Hid (Below w.heap.size w wr))
  case atStart => exact ⟨0, by omega, by omega, rfl, Lib.hid (by simpa [linesG, Lib.strCells] using HI0.out), HB0⟩
  case round =>
    obtain ⟨k, hgk, hk, rfl, HI, HB⟩ := hrel
    have hg : gk = l.length + 1 - k := by omega
    subst hg
    by_cases hkl : k < l.length
    · have d1 : decide ((k : Int) < (l.length : Int)) = true := decide_eq_true (by omega)
      have hk1 : (k : Int) < (l.length : Int) := by omega
      obtain ⟨g, off, cap, he, -, -, z0, z1, z2⟩ := (HV.out.below HB.out).at hkl
      cases he
      have HT := Lib.hid (HTX.out l[k] (List.getElem_mem hkl))
      have hxz := HSZ.out l[k] (List.getElem_mem hkl)
      have hlz := linesG_size tx 1000000 (l.take k) (fun y hy => HSZ.out y (List.mem_of_mem_take hy))
      rw [List.length_take] at hlz
      have hlz2 : min k l.length * (1000000 + 1) ≤ 1000 * (1000000 + 1) := Nat.mul_le_mul_right _ (by omega)
      have HN : Hid (linesG tx (l.take (k + 1)) = linesG tx (l.take k) ++ tx l[k] ++ { data := #[10] }) := Lib.hid (by rw [take_succ_get hkl, linesG_snoc])
      generalize l[k] = x at *
      generalize linesG tx (l.take k) = r at *
      go_upto_region 5 with fail
      have hx := World.alloc_heap_new wr (.cells #[.int .i64 x.1, .int .i64 x.2.1, .string x.2.2] 61)
      have hbx : Below wr.heap.size wr (wr.alloc (.cells #[.int .i64 x.1, .int .i64 x.2.1, .string x.2.2] 61)) := (Below.refl _ _).alloc (Nat.le_refl _) _
      have HIX := Lib.hid (builder_below HI.out hbx)
      have HBX := Lib.hid (bthen HB.out (Nat.le_refl _) hbx)
      generalize (wr.alloc (.cells #[.int .i64 x.1, .int .i64 x.2.1, .string x.2.2] 61)) = wx at *
      obtain ⟨p0, p1, p2, -, -, -⟩ := cells3h hx
      clear z0 z1 z2 hbx hx
      go_wp2_with fail
      refine (HT.out _).mono ?_
      rintro e w4 ⟨rfl, hb4⟩
      have HI4 := Lib.hid (builder_below HIX.out hb4)
      have HB4 := Lib.hid (bthen HBX.out (Nat.le_refl _) hb4)
      clear p0 p1 p2 hb4
      generalize tx x = t at *
      go_wp2_with fail
      refine (WriteString_any w.heap.size w.heap.size _ t w4 HI4.out (by rw [Lib.strCells_length]; omega) HB4.out.size).mono ?_
      rintro e w5 ⟨rfl, hi5, hb5⟩
      have HI5 := Lib.hid hi5
      have HB5 := Lib.hid (HB4.out.trans hb5)
      clear hi5 hb5
      go_wp2_with fail
      refine (WriteByte_any w.heap.size w.heap.size _ 10 w5 HI5.out (by rw [List.length_append, Lib.strCells_length, Lib.strCells_length]; omega) HB5.out.size).mono ?_
      rintro e w6 ⟨rfl, hi6, hb6⟩
      have HI6 : Hid (Lib.IsBuilder 144 5 w.heap.size w.heap.size (Lib.strCells (linesG tx (l.take (k + 1)))) w6) := Lib.hid (by rw [HN.out, strCells_add, strCells_add]; exact hi6)
      have HB6 := Lib.hid (HB5.out.trans hb6)
      clear hi6 hb6
      go_wp2_with fail
      go_roundg (l.length + 1 - (k + 1))
      case measure => omega
      case rel => exact ⟨k + 1, by omega, by omega, by go_num, HI6, HB6⟩
    · have d1 : decide ((k : Int) < (l.length : Int)) = false := decide_eq_false (by omega)
      have hk1 : ¬ (k : Int) < (l.length : Int) := by omega
      have hI := HI.out
      rw [List.take_of_length_le (by omega), Lib.strCells_eq] at hI
      have HIF := Lib.hid hI
      clear hI
      go_wp2_with fail
      refine (BString_any w.heap.size w.heap.size _ wr HIF.out HB.out.size).mono ?_
      rintro e w7 ⟨rfl, hb7⟩
      have HB7 := Lib.hid (HB.out.trans hb7)
      clear hb7
      go_wp2_with fail
      go_ret
      exact ⟨rfl, HB7.out⟩
end Go.Proofs.Ytbnggfhofdpdcaa

/-
  What layer 24's laws ask whatever is asked.
-/
namespace Go.Proofs.Ytbnggfhofdpdcaa
open Go Go.RowKit Go.WideShapes

def l24 : List DiagD := [(2, 6, { data := #[97] }), (-1, 17, { data := #[] }), (2, 6, { data := #[97] })]
def s24 : List DiagD := [(-1, 17, { data := #[] }), (2, 6, { data := #[97] })]
theorem l24_sort : sortD l24 = s24 := by decide +kernel
theorem l24_ok : ∀ x ∈ l24, OkG x := by
  intro x hx
  simp only [l24, List.mem_cons, List.not_mem_nil, or_false] at hx
  rcases hx with rfl | rfl | rfl
  · exact ⟨by unfold I64w; decide, by unfold I64w; decide, by decide⟩
  · exact ⟨by unfold I64w; decide, by unfold I64w; decide, by decide⟩
  · exact ⟨by unfold I64w; decide, by unfold I64w; decide, by decide⟩
theorem s24_ok : ∀ x ∈ s24, OkG x := fun x hx => l24_ok x (by simp only [s24, List.mem_cons, List.not_mem_nil, or_false] at hx; simp only [l24, List.mem_cons, List.not_mem_nil, or_false]; rcases hx with rfl | rfl <;> simp)
theorem tx24a : textG (2, 6, { data := #[97] }) { data := #[97] } = { data := #[50, 32, 116, 119, 105, 99, 101, 32, 97] } := by decide +kernel
theorem tx24b : textG (-1, 17, { data := #[] }) { data := #[] } = { data := #[45, 32, 101, 109, 112, 116, 121] } := by decide +kernel
theorem tx24z : ∀ x ∈ s24, (textG x x.2.2).size ≤ 1000000 := by decide +kernel
theorem tx24c : ∀ x ∈ s24, ∀ W, Calls Try.prog 45 #[.agg #[.int .i64 x.1, .int .i64 x.2.1, .string x.2.2]] W fun e w' => e = .returned (.string (textG x x.2.2)) ∧ Below W.heap.size W w' := by
  intro x hx W
  simp only [s24, List.mem_cons, List.not_mem_nil, or_false] at hx
  rcases hx with rfl | rfl
  · exact dText_any (-1, 17, { data := #[] }) { data := #[] } W (by decide) (fun h => absurd h (by decide +kernel))
  · exact dText_any (2, 6, { data := #[97] }) { data := #[97] } W (by decide) (fun _ W => Put_plain _ W (by decide +kernel) (by decide))
theorem ln24 : linesG (fun x => textG x x.2.2) s24 = { data := #[45, 32, 101, 109, 112, 116, 121, 10, 50, 32, 116, 119, 105, 99, 101, 32, 97, 10] } := by decide +kernel
theorem wd24 : wordD 19 = { data := #[117, 110, 100, 111] } := by decide +kernel
theorem kp24 : (keepG 2 s24).length = 1 := by decide +kernel
theorem ls24 : decide (cmpD (-1, 17, { data := #[] }) (2, 6, { data := #[97] }) < 0) = true := by decide +kernel
theorem er24 : errD { data := #[99, 121, 99, 108, 101] } = 16 ∧ isErr { data := #[99, 121, 99, 108, 101] } = true := by decide +kernel
set_option maxRecDepth 100000 in
set_option maxHeartbeats 8000000 in
theorem live24_any (w : World) : Calls Try.prog 38 #[] w fun e w' => e = .returned (.bool true) ∧ Below w.heap.size w w' := by
  go_enter Try.func38, Try.ntmps38
  go_upto_region 1 with fail
  go_cut [1, 2] (fun s1 s2 wx => ∃ A B : Nat, s1 = .pointer (some ⟨A, 0, none⟩) ∧ s2 = .pointer (some ⟨B, 0, none⟩) ∧ wx.heap[A]? = some (.cells #[.int .i64 2, .int .i64 6, .string { data := #[97] }] 61 (0, 0)) ∧ wx.heap[B]? = some (.cells #[.int .i64 (-1), .int .i64 17, .string { data := #[] }] 61 (0, 0)) ∧ Below w.heap.size w wx)
  case first =>
    go_wp2_with fail
    go_meet
    obtain ⟨hb, g0, g1, hsz⟩ := alloc2 w 61 61 #[.int .i64 2, .int .i64 6, .string { data := #[97] }] #[.int .i64 (-1), .int .i64 17, .string { data := #[] }]
    exact ⟨_, _, rfl, rfl, g0, g1, hb⟩
  case rest =>
  obtain ⟨A, B, rfl, rfl, hA, hB, hb0⟩ := hcut
  generalize wc = w0 at *
  have HB0 := Lib.hid hb0
  have HA0 := Lib.hid hA
  have HBB0 := Lib.hid hB
  obtain ⟨p0, p1, p2, -, -, -⟩ := cells3h hA
  obtain ⟨r0, r1, r2, -, -, -⟩ := cells3h hB
  clear hA hB hb0
  go_wp2_with fail
  have hx := World.alloc_heap_new w0 (.cells [.int .i64 2, .int .i64 6, .string { data := #[97] }, .int .i64 (-1), .int .i64 17, .string { data := #[] }, .int .i64 2, .int .i64 6, .string { data := #[97] }].toArray 61)
  have hbx : Below w0.heap.size w0 (w0.alloc (.cells [.int .i64 2, .int .i64 6, .string { data := #[97] }, .int .i64 (-1), .int .i64 17, .string { data := #[] }, .int .i64 2, .int .i64 6, .string { data := #[97] }].toArray 61)) := (Below.refl _ _).alloc (Nat.le_refl _) _
  have hdg : DgR (w0.alloc (.cells [.int .i64 2, .int .i64 6, .string { data := #[97] }, .int .i64 (-1), .int .i64 17, .string { data := #[] }, .int .i64 2, .int .i64 6, .string { data := #[97] }].toArray 61)) (.slice (some ⟨w0.heap.size, 0, none⟩) 3 3) l24 := ⟨rds_row 3 3 hx rfl (by decide), l24_ok⟩
  have hlA := (Array.getElem?_eq_some_iff.1 HA0.out).1
  have hlB := (Array.getElem?_eq_some_iff.1 HBB0.out).1
  have HA1 := Lib.hid ((hbx.block _ hlA).trans HA0.out)
  have HBB1 := Lib.hid ((hbx.block _ hlB).trans HBB0.out)
  have HB1 := Lib.hid (bthen HB0.out (Nat.le_refl _) hbx)
  refine (dSort_any l24 _ _ hdg (by decide)).mono ?_
  clear hx hbx hdg
  rintro e w2 ⟨va, vc, rfl, ho, hb2⟩
  rw [l24_sort] at ho ⊢
  have HA2 := Lib.hid ((hb2.block _ (Array.getElem?_eq_some_iff.1 HA1.out).1).trans HA1.out)
  have HBB2 := Lib.hid ((hb2.block _ (Array.getElem?_eq_some_iff.1 HBB1.out).1).trans HBB1.out)
  have HB2 := Lib.hid (bthen HB1.out (Nat.le_refl _) hb2)
  have HDG2 := Lib.hid (ho.read s24_ok)
  clear hb2 ho p0 p1 p2 r0 r1 r2 HA1 HBB1
  go_wp2_with fail
  refine (dErrno_any { data := #[99, 121, 99, 108, 101] } w2).mono ?_
  rintro e w4 ⟨rfl, hb4⟩
  rw [er24.1, er24.2]
  have HA4 := Lib.hid ((hb4.block _ (Array.getElem?_eq_some_iff.1 HA2.out).1).trans HA2.out)
  have HBB4 := Lib.hid ((hb4.block _ (Array.getElem?_eq_some_iff.1 HBB2.out).1).trans HBB2.out)
  have HB4 := Lib.hid (bthen HB2.out (Nat.le_refl _) hb4)
  have HDG := Lib.hid (HDG2.out.below hb4)
  clear hb4
  obtain ⟨p0, p1, p2, -, -, -⟩ := cells3h HA4.out
  obtain ⟨r0, r1, r2, -, -, -⟩ := cells3h HBB4.out
  obtain ⟨g, off, cap, he, -, hcap, y0, y1, y2⟩ := HDG.out.at (i := 0) (by decide)
  obtain ⟨_, _, _, he2, -, -, x0, x1, x2⟩ := HDG.out.at (i := 1) (by decide)
  cases he
  cases he2
  simp only [s24, Nat.zero_mul, Nat.add_zero, Nat.one_mul, List.getElem_cons_zero, List.getElem_cons_succ] at y0 y1 y2 x0 x1 x2
  have hls : s24.length = 2 := rfl
  rw [hls] at *
  clear hls
  have HX0 : Hid (Below w4.heap.size w4 w4.drew) := Lib.hid ((Below.refl _ _).drew)
  go_upto_region 4 with fail
  refine E_region (S := (fun W => W.cell? ⟨A, 0, none⟩ = some (.int .i64 2) ∧ W.cell? ⟨A, 1, none⟩ = some (.int .i64 6) ∧ W.cell? ⟨A, 2, none⟩ = some (.string { data := #[97] }) ∧ W.cell? ⟨B, 0, none⟩ = some (.int .i64 (-1)) ∧ W.cell? ⟨B, 1, none⟩ = some (.int .i64 17) ∧ W.cell? ⟨B, 2, none⟩ = some (.string { data := #[] }) ∧ W.cell? ⟨g, off, none⟩ = some (.int .i64 (-1)) ∧ W.cell? ⟨g, off + 1, none⟩ = some (.int .i64 17) ∧ W.cell? ⟨g, off + 2, none⟩ = some (.string { data := #[] }) ∧ W.cell? ⟨g, off + 3, none⟩ = some (.int .i64 2) ∧ W.cell? ⟨g, off + 3 + 1, none⟩ = some (.int .i64 6) ∧ W.cell? ⟨g, off + 3 + 2, none⟩ = some (.string { data := #[97] }))) 52 (by kernel_rfl) ⟨p0, p1, p2, r0, r1, r2, y0, y1, y2, x0, x1, x2⟩ (fun _ _ _ _ _ h => h) (fun Q' hQ hK' hHeld => ?_)
  refine E_take0 hQ (fun _ => hHeld) 0 (v := ?lv1) rfl rfl (by kernel_rfl) (by kernel_rfl) (by kernel_rfl) (by decide) (by rfl) ?ly1 ?lr1
  case ly1 => (intro w; go_simp; (try with_reducible rfl))
  (try simp only [Act.put, List.setIfInBounds_toArray, List.set_cons_zero, List.set_cons_succ])
  refine E_take0 hQ (fun _ => hHeld) 1 (v := ?lv2) rfl rfl (by kernel_rfl) (by kernel_rfl) (by kernel_rfl) (by decide) (by rfl) ?ly2 ?lr2
  case ly2 => (intro w; go_simp; (try with_reducible rfl))
  (try simp only [Act.put, List.setIfInBounds_toArray, List.set_cons_zero, List.set_cons_succ])
  refine E_take0 hQ (fun _ => hHeld) 2 (v := ?lv3) rfl rfl (by kernel_rfl) (by kernel_rfl) (by kernel_rfl) (by decide) (by rfl) ?ly3 ?lr3
  case ly3 => (intro w; go_simp; (try with_reducible rfl))
  (try simp only [Act.put, List.setIfInBounds_toArray, List.set_cons_zero, List.set_cons_succ])
  refine E_take0 hQ (fun _ => hHeld) 3 (v := ?lv4) rfl rfl (by kernel_rfl) (by kernel_rfl) (by kernel_rfl) (by decide) (by rfl) ?ly4 ?lr4
  case ly4 => (intro w; go_simp; (try with_reducible rfl))
  (try simp only [Act.put, List.setIfInBounds_toArray, List.set_cons_zero, List.set_cons_succ])
  refine E_take0 hQ (fun _ => hHeld) 4 (v := ?lv5) rfl rfl (by kernel_rfl) (by kernel_rfl) (by kernel_rfl) (by decide) (by rfl) ?ly5 ?lr5
  case ly5 => (intro w; go_simp; (try with_reducible rfl))
  (try simp only [Act.put, List.setIfInBounds_toArray, List.set_cons_zero, List.set_cons_succ])
  refine E_take0 hQ (fun _ => hHeld) 5 (v := ?lv6) rfl rfl (by kernel_rfl) (by kernel_rfl) (by kernel_rfl) (by decide) (by rfl) ?ly6 ?lr6
  case ly6 => (intro w; go_simp; (try with_reducible rfl))
  (try simp only [Act.put, List.setIfInBounds_toArray, List.set_cons_zero, List.set_cons_succ])
  refine E_takeP hQ hHeld [49, 45, 43, 40, 36, 33, 32, 29, 27, 24, 22, 19, 17, 10, 9, 8] 6 (v := ?lv7) rfl rfl (by kernel_rfl) (by kernel_rfl) (by kernel_rfl) (by kernel_rfl) (by kernel_rfl) (by rfl) ?ly7 ?lr7
  case ly7 => (intro w hSw; (try dsimp only at hSw); go_simp; (try with_reducible rfl))
  (try simp only [Act.put, List.setIfInBounds_toArray, List.set_cons_zero, List.set_cons_succ])
  refine E_takeP hQ hHeld [49, 45, 43, 40, 36, 33, 32, 29, 27, 24, 22, 19, 17, 10, 9, 8] 7 (v := ?lv8) rfl rfl (by kernel_rfl) (by kernel_rfl) (by kernel_rfl) (by kernel_rfl) (by kernel_rfl) (by rfl) ?ly8 ?lr8
  case ly8 => (intro w hSw; (try dsimp only at hSw); go_simp; (try with_reducible rfl))
  (try simp only [Act.put, List.setIfInBounds_toArray, List.set_cons_zero, List.set_cons_succ])
  refine E_take0 hQ (fun _ => hHeld) 8 (v := ?lv9) rfl rfl (by kernel_rfl) (by kernel_rfl) (by kernel_rfl) (by decide) (by rfl) ?ly9 ?lr9
  case ly9 => (intro w; go_simp; (try with_reducible rfl))
  (try simp only [Act.put, List.setIfInBounds_toArray, List.set_cons_zero, List.set_cons_succ])
  refine E_take0 hQ (fun _ => hHeld) 9 (v := ?lv10) rfl rfl (by kernel_rfl) (by kernel_rfl) (by kernel_rfl) (by decide) (by rfl) ?ly10 ?lr10
  case ly10 => (intro w; go_simp; (try with_reducible rfl))
  (try simp only [Act.put, List.setIfInBounds_toArray, List.set_cons_zero, List.set_cons_succ])
  refine E_take0 hQ (fun _ => hHeld) 10 (v := ?lv11) rfl rfl (by kernel_rfl) (by kernel_rfl) (by kernel_rfl) (by decide) (by rfl) ?ly11 ?lr11
  case ly11 => (intro w; go_simp; (try with_reducible rfl))
  (try simp only [Act.put, List.setIfInBounds_toArray, List.set_cons_zero, List.set_cons_succ])
  refine E_take0 hQ (fun _ => hHeld) 11 (v := ?lv12) rfl rfl (by kernel_rfl) (by kernel_rfl) (by kernel_rfl) (by decide) (by rfl) ?ly12 ?lr12
  case ly12 => (intro w; go_simp; (try with_reducible rfl))
  (try simp only [Act.put, List.setIfInBounds_toArray, List.set_cons_zero, List.set_cons_succ])
  refine E_take0 hQ (fun _ => hHeld) 12 (v := ?lv13) rfl rfl (by kernel_rfl) (by kernel_rfl) (by kernel_rfl) (by decide) (by rfl) ?ly13 ?lr13
  case ly13 => (intro w; go_simp; (try with_reducible rfl))
  (try simp only [Act.put, List.setIfInBounds_toArray, List.set_cons_zero, List.set_cons_succ])
  refine E_takeP hQ hHeld [49, 45, 43, 40, 36, 33, 32, 29, 27, 24, 22, 19, 17, 16, 15] 13 (v := ?lv14) rfl rfl (by kernel_rfl) (by kernel_rfl) (by kernel_rfl) (by kernel_rfl) (by kernel_rfl) (by rfl) ?ly14 ?lr14
  case ly14 => (intro w hSw; (try dsimp only at hSw); go_simp; (try with_reducible rfl))
  (try simp only [Act.put, List.setIfInBounds_toArray, List.set_cons_zero, List.set_cons_succ])
  refine E_takeP hQ hHeld [49, 45, 43, 40, 36, 33, 32, 29, 27, 24, 22, 19, 17, 16, 15] 14 (v := ?lv15) rfl rfl (by kernel_rfl) (by kernel_rfl) (by kernel_rfl) (by kernel_rfl) (by kernel_rfl) (by rfl) ?ly15 ?lr15
  case ly15 => (intro w hSw; (try dsimp only at hSw); go_simp; (try with_reducible rfl))
  (try simp only [Act.put, List.setIfInBounds_toArray, List.set_cons_zero, List.set_cons_succ])
  refine E_take0 hQ (fun _ => hHeld) 15 (v := ?lv16) rfl rfl (by kernel_rfl) (by kernel_rfl) (by kernel_rfl) (by decide) (by rfl) ?ly16 ?lr16
  case ly16 => (intro w; go_simp; (try with_reducible rfl))
  (try simp only [Act.put, List.setIfInBounds_toArray, List.set_cons_zero, List.set_cons_succ])
  refine E_take0 hQ (fun _ => hHeld) 16 (v := ?lv17) rfl rfl (by kernel_rfl) (by kernel_rfl) (by kernel_rfl) (by decide) (by rfl) ?ly17 ?lr17
  case ly17 => (intro w; go_simp; (try with_reducible rfl))
  (try simp only [Act.put, List.setIfInBounds_toArray, List.set_cons_zero, List.set_cons_succ])
  refine E_take0 hQ (fun _ => hHeld) 17 (v := ?lv18) rfl rfl (by kernel_rfl) (by kernel_rfl) (by kernel_rfl) (by decide) (by rfl) ?ly18 ?lr18
  case ly18 => (intro w; go_simp; (try with_reducible rfl))
  (try simp only [Act.put, List.setIfInBounds_toArray, List.set_cons_zero, List.set_cons_succ])
  refine E_takeP hQ hHeld [49, 45, 43, 40, 36, 33, 32, 29, 27, 24, 22, 19] 18 (v := ?lv19) rfl rfl (by kernel_rfl) (by kernel_rfl) (by kernel_rfl) (by kernel_rfl) (by kernel_rfl) (by rfl) ?ly19 ?lr19
  case ly19 => (intro w hSw; (try dsimp only at hSw); go_simp; (try with_reducible rfl))
  (try simp only [Act.put, List.setIfInBounds_toArray, List.set_cons_zero, List.set_cons_succ])
  refine E_one 19 (by kernel_rfl) rfl (by rfl) (fun K hK => ?_)
  go_simp
  refine (dText_any (2, 6, { data := #[97] }) { data := #[97] } _ (by decide) (fun _ W => Put_plain _ W (by decide +kernel) (by decide))).mono ?_
  rintro e X1 ⟨rfl, hb⟩
  have HY1 := Lib.hid hb
  have HX1 : Hid (Below w4.heap.size w4 X1) := Lib.hid (bthen HX0.out (by have := HX0.out.size; exact Nat.le_refl _) hb)
  clear hb
  rw [tx24a]
  (skip)
  refine hK.out _ _ (fun _ _ => ⟨cellB HY1.out hHeld.1, cellB HY1.out hHeld.2.1, cellB HY1.out hHeld.2.2.1, cellB HY1.out hHeld.2.2.2.1, cellB HY1.out hHeld.2.2.2.2.1, cellB HY1.out hHeld.2.2.2.2.2.1, cellB HY1.out hHeld.2.2.2.2.2.2.1, cellB HY1.out hHeld.2.2.2.2.2.2.2.1, cellB HY1.out hHeld.2.2.2.2.2.2.2.2.1, cellB HY1.out hHeld.2.2.2.2.2.2.2.2.2.1, cellB HY1.out hHeld.2.2.2.2.2.2.2.2.2.2.1, cellB HY1.out hHeld.2.2.2.2.2.2.2.2.2.2.2⟩) (fun hHeld' => ?_)
  replace hHeld := hHeld' (by rfl) (by decide)
  clear hK hHeld'
  (try simp only [Act.put, List.setIfInBounds_toArray, List.set_cons_zero, List.set_cons_succ])
  refine E_take0 hQ (fun _ => hHeld) 20 (v := ?lv20) rfl rfl (by kernel_rfl) (by kernel_rfl) (by kernel_rfl) (by decide) (by rfl) ?ly20 ?lr20
  case ly20 => (intro w; go_simp; (try with_reducible rfl))
  (try simp only [Act.put, List.setIfInBounds_toArray, List.set_cons_zero, List.set_cons_succ])
  refine E_take0 hQ (fun _ => hHeld) 21 (v := ?lv21) rfl rfl (by kernel_rfl) (by kernel_rfl) (by kernel_rfl) (by decide) (by rfl) ?ly21 ?lr21
  case ly21 => (intro w; go_simp; (try with_reducible rfl))
  (try simp only [Act.put, List.setIfInBounds_toArray, List.set_cons_zero, List.set_cons_succ])
  refine E_take0 hQ (fun _ => hHeld) 22 (v := ?lv22) rfl rfl (by kernel_rfl) (by kernel_rfl) (by kernel_rfl) (by decide) (by rfl) ?ly22 ?lr22
  case ly22 => (intro w; go_simp; (try with_reducible rfl))
  (try simp only [Act.put, List.setIfInBounds_toArray, List.set_cons_zero, List.set_cons_succ])
  refine E_takeP hQ hHeld [49, 45, 43, 40, 36, 33, 32, 29, 27, 24] 23 (v := ?lv23) rfl rfl (by kernel_rfl) (by kernel_rfl) (by kernel_rfl) (by kernel_rfl) (by kernel_rfl) (by rfl) ?ly23 ?lr23
  case ly23 => (intro w hSw; (try dsimp only at hSw); go_simp; (try with_reducible rfl))
  (try simp only [Act.put, List.setIfInBounds_toArray, List.set_cons_zero, List.set_cons_succ])
  refine E_one 24 (by kernel_rfl) rfl (by rfl) (fun K hK => ?_)
  go_simp
  refine (dText_any (-1, 17, { data := #[] }) { data := #[] } _ (by decide) (fun h => absurd h (by decide +kernel))).mono ?_
  rintro e X2 ⟨rfl, hb⟩
  have HY2 := Lib.hid hb
  have HX2 : Hid (Below w4.heap.size w4 X2) := Lib.hid (bthen HX1.out (by have := HX1.out.size; exact Nat.le_refl _) hb)
  clear hb
  rw [tx24b]
  (skip)
  refine hK.out _ _ (fun _ _ => ⟨cellB HY2.out hHeld.1, cellB HY2.out hHeld.2.1, cellB HY2.out hHeld.2.2.1, cellB HY2.out hHeld.2.2.2.1, cellB HY2.out hHeld.2.2.2.2.1, cellB HY2.out hHeld.2.2.2.2.2.1, cellB HY2.out hHeld.2.2.2.2.2.2.1, cellB HY2.out hHeld.2.2.2.2.2.2.2.1, cellB HY2.out hHeld.2.2.2.2.2.2.2.2.1, cellB HY2.out hHeld.2.2.2.2.2.2.2.2.2.1, cellB HY2.out hHeld.2.2.2.2.2.2.2.2.2.2.1, cellB HY2.out hHeld.2.2.2.2.2.2.2.2.2.2.2⟩) (fun hHeld' => ?_)
  replace hHeld := hHeld' (by rfl) (by decide)
  clear hK hHeld'
  (try simp only [Act.put, List.setIfInBounds_toArray, List.set_cons_zero, List.set_cons_succ])
  refine E_take0 hQ (fun _ => hHeld) 25 (v := ?lv24) rfl rfl (by kernel_rfl) (by kernel_rfl) (by kernel_rfl) (by decide) (by rfl) ?ly24 ?lr24
  case ly24 => (intro w; go_simp; (try with_reducible rfl))
  (try simp only [Act.put, List.setIfInBounds_toArray, List.set_cons_zero, List.set_cons_succ])
  refine E_take0 hQ (fun _ => hHeld) 26 (v := ?lv25) rfl rfl (by kernel_rfl) (by kernel_rfl) (by kernel_rfl) (by decide) (by rfl) ?ly25 ?lr25
  case ly25 => (intro w; go_simp; (try with_reducible rfl))
  (try simp only [Act.put, List.setIfInBounds_toArray, List.set_cons_zero, List.set_cons_succ])
  refine E_take0 hQ (fun _ => hHeld) 27 (v := ?lv26) rfl rfl (by kernel_rfl) (by kernel_rfl) (by kernel_rfl) (by decide) (by rfl) ?ly26 ?lr26
  case ly26 => (intro w; go_simp; (try with_reducible rfl))
  (try simp only [Act.put, List.setIfInBounds_toArray, List.set_cons_zero, List.set_cons_succ])
  refine E_take0 hQ (fun _ => hHeld) 28 (v := ?lv27) rfl rfl (by kernel_rfl) (by kernel_rfl) (by kernel_rfl) (by decide) (by rfl) ?ly27 ?lr27
  case ly27 => (intro w; go_simp; (try with_reducible rfl))
  (try simp only [Act.put, List.setIfInBounds_toArray, List.set_cons_zero, List.set_cons_succ])
  refine E_one 29 (by kernel_rfl) rfl (by rfl) (fun K hK => ?_)
  go_simp
  refine (Lines_any _ (fun x => textG x x.2.2) _ _ (HDG.out.below HX2.out) (by decide) tx24z tx24c).mono ?_
  rintro e X3 ⟨rfl, hb⟩
  have HY3 := Lib.hid hb
  have HX3 : Hid (Below w4.heap.size w4 X3) := Lib.hid (bthen HX2.out (by have := HX2.out.size; exact Nat.le_refl _) hb)
  clear hb
  rw [ln24]
  (skip)
  refine hK.out _ _ (fun _ _ => ⟨cellB HY3.out hHeld.1, cellB HY3.out hHeld.2.1, cellB HY3.out hHeld.2.2.1, cellB HY3.out hHeld.2.2.2.1, cellB HY3.out hHeld.2.2.2.2.1, cellB HY3.out hHeld.2.2.2.2.2.1, cellB HY3.out hHeld.2.2.2.2.2.2.1, cellB HY3.out hHeld.2.2.2.2.2.2.2.1, cellB HY3.out hHeld.2.2.2.2.2.2.2.2.1, cellB HY3.out hHeld.2.2.2.2.2.2.2.2.2.1, cellB HY3.out hHeld.2.2.2.2.2.2.2.2.2.2.1, cellB HY3.out hHeld.2.2.2.2.2.2.2.2.2.2.2⟩) (fun hHeld' => ?_)
  replace hHeld := hHeld' (by rfl) (by decide)
  clear hK hHeld'
  (try simp only [Act.put, List.setIfInBounds_toArray, List.set_cons_zero, List.set_cons_succ])
  refine E_take0 hQ (fun _ => hHeld) 30 (v := ?lv28) rfl rfl (by kernel_rfl) (by kernel_rfl) (by kernel_rfl) (by decide) (by rfl) ?ly28 ?lr28
  case ly28 => (intro w; go_simp; (try with_reducible rfl))
  (try simp only [Act.put, List.setIfInBounds_toArray, List.set_cons_zero, List.set_cons_succ])
  refine E_take0 hQ (fun _ => hHeld) 31 (v := ?lv29) rfl rfl (by kernel_rfl) (by kernel_rfl) (by kernel_rfl) (by decide) (by rfl) ?ly29 ?lr29
  case ly29 => (intro w; go_simp; (try with_reducible rfl))
  (try simp only [Act.put, List.setIfInBounds_toArray, List.set_cons_zero, List.set_cons_succ])
  refine E_take0 hQ (fun _ => hHeld) 32 (v := ?lv30) rfl rfl (by kernel_rfl) (by kernel_rfl) (by kernel_rfl) (by decide) (by rfl) ?ly30 ?lr30
  case ly30 => (intro w; go_simp; (try with_reducible rfl))
  (try simp only [Act.put, List.setIfInBounds_toArray, List.set_cons_zero, List.set_cons_succ])
  refine E_one 33 (by kernel_rfl) rfl (by rfl) (fun K hK => ?_)
  go_simp
  refine (dWord_any 19 _).mono ?_
  rintro e X4 ⟨rfl, hb⟩
  have HY4 := Lib.hid hb
  have HX4 : Hid (Below w4.heap.size w4 X4) := Lib.hid (bthen HX3.out (by have := HX3.out.size; exact Nat.le_refl _) hb)
  clear hb
  rw [wd24]
  (skip)
  refine hK.out _ _ (fun _ _ => ⟨cellB HY4.out hHeld.1, cellB HY4.out hHeld.2.1, cellB HY4.out hHeld.2.2.1, cellB HY4.out hHeld.2.2.2.1, cellB HY4.out hHeld.2.2.2.2.1, cellB HY4.out hHeld.2.2.2.2.2.1, cellB HY4.out hHeld.2.2.2.2.2.2.1, cellB HY4.out hHeld.2.2.2.2.2.2.2.1, cellB HY4.out hHeld.2.2.2.2.2.2.2.2.1, cellB HY4.out hHeld.2.2.2.2.2.2.2.2.2.1, cellB HY4.out hHeld.2.2.2.2.2.2.2.2.2.2.1, cellB HY4.out hHeld.2.2.2.2.2.2.2.2.2.2.2⟩) (fun hHeld' => ?_)
  replace hHeld := hHeld' (by rfl) (by decide)
  clear hK hHeld'
  (try simp only [Act.put, List.setIfInBounds_toArray, List.set_cons_zero, List.set_cons_succ])
  refine E_take0 hQ (fun _ => hHeld) 34 (v := ?lv31) rfl rfl (by kernel_rfl) (by kernel_rfl) (by kernel_rfl) (by decide) (by rfl) ?ly31 ?lr31
  case ly31 => (intro w; go_simp; (try with_reducible rfl))
  (try simp only [Act.put, List.setIfInBounds_toArray, List.set_cons_zero, List.set_cons_succ])
  refine E_take0 hQ (fun _ => hHeld) 35 (v := ?lv32) rfl rfl (by kernel_rfl) (by kernel_rfl) (by kernel_rfl) (by decide) (by rfl) ?ly32 ?lr32
  case ly32 => (intro w; go_simp; (try with_reducible rfl))
  (try simp only [Act.put, List.setIfInBounds_toArray, List.set_cons_zero, List.set_cons_succ])
  refine E_take0 hQ (fun _ => hHeld) 36 (v := ?lv33) rfl rfl (by kernel_rfl) (by kernel_rfl) (by kernel_rfl) (by decide) (by rfl) ?ly33 ?lr33
  case ly33 => (intro w; go_simp; (try with_reducible rfl))
  (try simp only [Act.put, List.setIfInBounds_toArray, List.set_cons_zero, List.set_cons_succ])
  refine E_take0 hQ (fun _ => hHeld) 37 (v := ?lv34) rfl rfl (by kernel_rfl) (by kernel_rfl) (by kernel_rfl) (by decide) (by rfl) ?ly34 ?lr34
  case ly34 => (intro w; go_simp; (try with_reducible rfl))
  (try simp only [Act.put, List.setIfInBounds_toArray, List.set_cons_zero, List.set_cons_succ])
  refine E_take0 hQ (fun _ => hHeld) 38 (v := ?lv35) rfl rfl (by kernel_rfl) (by kernel_rfl) (by kernel_rfl) (by decide) (by rfl) ?ly35 ?lr35
  case ly35 => (intro w; go_simp; (try with_reducible rfl))
  (try simp only [Act.put, List.setIfInBounds_toArray, List.set_cons_zero, List.set_cons_succ])
  refine E_take0 hQ (fun _ => hHeld) 39 (v := ?lv36) rfl rfl (by kernel_rfl) (by kernel_rfl) (by kernel_rfl) (by decide) (by rfl) ?ly36 ?lr36
  case ly36 => (intro w; go_simp; (try with_reducible rfl))
  (try simp only [Act.put, List.setIfInBounds_toArray, List.set_cons_zero, List.set_cons_succ])
  refine E_take0 hQ (fun _ => hHeld) 40 (v := ?lv37) rfl rfl (by kernel_rfl) (by kernel_rfl) (by kernel_rfl) (by decide) (by rfl) ?ly37 ?lr37
  case ly37 => (intro w; go_simp; (try with_reducible rfl))
  (try simp only [Act.put, List.setIfInBounds_toArray, List.set_cons_zero, List.set_cons_succ])
  refine E_take0 hQ (fun _ => hHeld) 41 (v := ?lv38) rfl rfl (by kernel_rfl) (by kernel_rfl) (by kernel_rfl) (by decide) (by rfl) ?ly38 ?lr38
  case ly38 => (intro w; go_simp; (try with_reducible rfl))
  (try simp only [Act.put, List.setIfInBounds_toArray, List.set_cons_zero, List.set_cons_succ])
  refine E_take0 hQ (fun _ => hHeld) 42 (v := ?lv39) rfl rfl (by kernel_rfl) (by kernel_rfl) (by kernel_rfl) (by decide) (by rfl) ?ly39 ?lr39
  case ly39 => (intro w; go_simp; (try with_reducible rfl))
  (try simp only [Act.put, List.setIfInBounds_toArray, List.set_cons_zero, List.set_cons_succ])
  refine E_take0 hQ (fun _ => hHeld) 43 (v := ?lv40) rfl rfl (by kernel_rfl) (by kernel_rfl) (by kernel_rfl) (by decide) (by rfl) ?ly40 ?lr40
  case ly40 => (intro w; go_simp; (try with_reducible rfl))
  (try simp only [Act.put, List.setIfInBounds_toArray, List.set_cons_zero, List.set_cons_succ])
  refine E_take0 hQ (fun _ => hHeld) 44 (v := ?lv41) rfl rfl (by kernel_rfl) (by kernel_rfl) (by kernel_rfl) (by decide) (by rfl) ?ly41 ?lr41
  case ly41 => (intro w; go_simp; (try with_reducible rfl))
  (try simp only [Act.put, List.setIfInBounds_toArray, List.set_cons_zero, List.set_cons_succ])
  refine E_one 45 (by kernel_rfl) rfl (by rfl) (fun K hK => ?_)
  go_simp
  refine (dOf_any _ _ 2 _ (HDG.out.below HX4.out) (by decide)).mono ?_
  rintro e X5 ⟨oa, oc, rfl, -, hb⟩
  have HY5 := Lib.hid hb
  have HX5 : Hid (Below w4.heap.size w4 X5) := Lib.hid (bthen HX4.out (by have := HX4.out.size; exact Nat.le_refl _) hb)
  clear hb
  rw [kp24]
  (skip)
  refine hK.out _ _ (fun _ _ => ⟨cellB HY5.out hHeld.1, cellB HY5.out hHeld.2.1, cellB HY5.out hHeld.2.2.1, cellB HY5.out hHeld.2.2.2.1, cellB HY5.out hHeld.2.2.2.2.1, cellB HY5.out hHeld.2.2.2.2.2.1, cellB HY5.out hHeld.2.2.2.2.2.2.1, cellB HY5.out hHeld.2.2.2.2.2.2.2.1, cellB HY5.out hHeld.2.2.2.2.2.2.2.2.1, cellB HY5.out hHeld.2.2.2.2.2.2.2.2.2.1, cellB HY5.out hHeld.2.2.2.2.2.2.2.2.2.2.1, cellB HY5.out hHeld.2.2.2.2.2.2.2.2.2.2.2⟩) (fun hHeld' => ?_)
  replace hHeld := hHeld' (by rfl) (by decide)
  clear hK hHeld'
  (try simp only [Act.put, List.setIfInBounds_toArray, List.set_cons_zero, List.set_cons_succ])
  refine E_take0 hQ (fun _ => hHeld) 46 (v := ?lv42) rfl rfl (by kernel_rfl) (by kernel_rfl) (by kernel_rfl) (by decide) (by rfl) ?ly42 ?lr42
  case ly42 => (intro w; go_simp; (try with_reducible rfl))
  (try simp only [Act.put, List.setIfInBounds_toArray, List.set_cons_zero, List.set_cons_succ])
  refine E_take0 hQ (fun _ => hHeld) 47 (v := ?lv43) rfl rfl (by kernel_rfl) (by kernel_rfl) (by kernel_rfl) (by decide) (by rfl) ?ly43 ?lr43
  case ly43 => (intro w; go_simp; (try with_reducible rfl))
  (try simp only [Act.put, List.setIfInBounds_toArray, List.set_cons_zero, List.set_cons_succ])
  refine E_take0 hQ (fun _ => hHeld) 48 (v := ?lv44) rfl rfl (by kernel_rfl) (by kernel_rfl) (by kernel_rfl) (by decide) (by rfl) ?ly44 ?lr44
  case ly44 => (intro w; go_simp; (try with_reducible rfl))
  (try simp only [Act.put, List.setIfInBounds_toArray, List.set_cons_zero, List.set_cons_succ])
  refine E_take0 hQ (fun _ => hHeld) 49 (v := ?lv45) rfl rfl (by kernel_rfl) (by kernel_rfl) (by kernel_rfl) (by decide) (by rfl) ?ly45 ?lr45
  case ly45 => (intro w; go_simp; (try with_reducible rfl))
  (try simp only [Act.put, List.setIfInBounds_toArray, List.set_cons_zero, List.set_cons_succ])
  refine E_take hQ hHeld 50 (v := ?lv46) rfl rfl (by kernel_rfl) (by kernel_rfl) (by kernel_rfl) (by kernel_rfl) (by kernel_rfl) (by rfl) ?ly46 ?lr46
  case ly46 => (intro w hSw; (try dsimp only at hSw); go_simp; (try with_reducible rfl))
  (try simp only [Act.put, List.setIfInBounds_toArray, List.set_cons_zero, List.set_cons_succ])
  refine E_take hQ hHeld 51 (v := ?lv47) rfl rfl (by kernel_rfl) (by kernel_rfl) (by kernel_rfl) (by kernel_rfl) (by kernel_rfl) (by rfl) ?ly47 ?lr47
  case ly47 => (intro w hSw; (try dsimp only at hSw); go_simp; (try with_reducible rfl))
  (try simp only [Act.put, List.setIfInBounds_toArray, List.set_cons_zero, List.set_cons_succ])
  refine E_one 52 (by kernel_rfl) rfl (by rfl) (fun K hK => ?_)
  go_simp
  refine (dLess_any (-1, 17, { data := #[] }) (2, 6, { data := #[97] }) _).mono ?_
  rintro e X6 ⟨rfl, hb⟩
  have HY6 := Lib.hid hb
  have HX6 : Hid (Below w4.heap.size w4 X6) := Lib.hid (bthen HX5.out (by have := HX5.out.size; exact Nat.le_refl _) hb)
  clear hb
  rw [ls24]
  (skip)
  refine hK.out _ _ (fun _ h => absurd rfl h) (fun _ => ?_)
  clear hK hHeld
  (try simp only [Act.put, List.setIfInBounds_toArray, List.set_cons_zero, List.set_cons_succ])
  refine E_take0 hQ (fun h => absurd h (by decide)) 53 (v := ?lv48) rfl rfl (by kernel_rfl) (by kernel_rfl) (by kernel_rfl) (by decide) (by rfl) ?ly48 ?lr48
  case ly48 => (intro w; go_simp; (try with_reducible rfl))
  (try simp only [Act.put, List.setIfInBounds_toArray, List.set_cons_zero, List.set_cons_succ])
  refine E_take0 hQ (fun h => absurd h (by decide)) 54 (v := ?lv49) rfl rfl (by kernel_rfl) (by kernel_rfl) (by kernel_rfl) (by decide) (by rfl) ?ly49 ?lr49
  case ly49 => (intro w; go_simp; (try with_reducible rfl))
  (try simp only [Act.put, List.setIfInBounds_toArray, List.set_cons_zero])
  refine E_done (by kernel_rfl) ?_ _
  refine hK'.out _ _ ?_
  go_wp2_with fail
  go_ret
  exact ⟨rfl, bthen HB4.out (Nat.le_refl _) HX6.out⟩
end Go.Proofs.Ytbnggfhofdpdcaa
