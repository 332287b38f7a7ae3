/-
  The law DefTells: walk.
-/
import Derived.StillTailTactics
import Derived.Deep.QuietTactic
import Derived.BigQuiet
import Derived.Test.YtlakmfhpinljjaaBc32
import Derived.Test.YtlakmfhpinljjaaBc33
namespace Go.Proofs.Ytlakmfhpinljjaa
open Go Go.RowKit Go.WideShapes

theorem idx_down {l : List StepD} {n : ByteArray} {i : Nat} (hi : i < l.length) : idxStep (l.drop i) n i = if l[i].name = n then (i : Int) else idxStep (l.drop (i + 1)) n (i + 1) := by
  rw [List.drop_eq_getElem_cons hi, idxStep]
theorem idx_ge {l : List StepD} {n : ByteArray} : ∀ {i : Nat}, -1 ≤ idxStep l n i ∧ idxStep l n i < (i : Int) + l.length := by
  induction l with
  | nil => intro i; simp [idxStep]; omega
  | cons a l ih =>
    intro i
    rw [idxStep]
    split
    · simp; omega
    · have := ih (i := i + 1); simp; omega
theorem owns_block {w : World} {base size n g cap : Nat} {e : TypeId} {xs : List Value} (h : w.ownsRow base e size (.slice (some ⟨g, 0, none⟩) n cap) n xs) : ∃ cur, w.heap[g]? = some (.cells cur e (0, 0)) := by
  rcases h.2 with ⟨h1, _⟩ | ⟨g', cap', cur, hv, _, hg, _⟩
  · cases h1
  · simp only [Value.slice.injEq, Option.some.injEq, Addr.mk.injEq, and_true, true_and] at hv
    obtain ⟨rfl, rfl⟩ := hv
    exact ⟨cur, hg⟩
theorem owns_ne {w : World} {base size n g cap k : Nat} {e t : TypeId} {xs : List Value} {c : Array Value} {fr : Nat × Nat} (h : w.ownsRow base e size (.slice (some ⟨g, 0, none⟩) n cap) n xs) (hk : w.heap[k]? = some (.cells c t fr)) (ht : t ≠ e) : k ≠ g := by
  obtain ⟨cur, hg⟩ := owns_block h
  intro e2
  subst e2
  rw [hk] at hg
  cases hg
  exact ht rfl
theorem cell_set11 {w : World} {g : Nat} {v x : Value} (h : w.cell? ⟨g, 0, none⟩ = some v) : (w.setCell ⟨g, 0, none⟩ x).cell? ⟨g, 0, none⟩ = some x := World.cell?_setCell_same _ _ _ h
theorem y_ne (s : ByteArray) : ¬ s = ({ data := #[121] } : ByteArray) ++ s := by
  intro h
  have := congrArg ByteArray.size h
  rw [ByteArray.size_append] at this
  have h1 : ({ data := #[121] } : ByteArray).size = 1 := rfl
  omega
theorem copy_R {w : World} {base : Nat} {a : DefD} {va : Option Addr} {vc : Nat} {rows : List (List Value)} (hn : a.name.size ≤ maxLen) (ht : a.text.size ≤ maxLen) (h1 : rows.length = a.steps.length) (h2 : w.ownsRow base 45 13 (.slice va a.steps.length vc) a.steps.length rows.flatten) {N : Nat} (h3 : ∀ (i : Nat) (r : List Value) (s : StepD), rows[i]? = some r → a.steps[i]? = some s → StepF w N r s) : DefR w [.string a.name, .string a.text, .slice va a.steps.length vc] a va vc :=
  ⟨rfl, hn, ht, rows, h1, RdS.of_owns h2, fun i r s hr hs => (h3 i r s hr hs).toX⟩

set_option maxRecDepth 100000 in
set_option maxHeartbeats 8000000 in
theorem DefTells_any (a : DefD) (sa : Option Addr) (sc : Nat) (b : DefD) (sb : Option Addr) (sd : Nat) (nm : ByteArray) (w : World) (h : DefR w [.string a.name, .string a.text, .slice sa a.steps.length sc] a sa sc) (h' : DefR w [.string b.name, .string b.text, .slice sb b.steps.length sd] b sb sd) (hnm : nm.size ≤ 9223372036854775807) :
    Calls Try.prog 6 #[.agg #[.string a.name, .string a.text, .slice sa a.steps.length sc], .agg #[.string b.name, .string b.text, .slice sb b.steps.length sd], .string nm] w fun e w' => e = .returned (.bool true) ∧ Below w.heap.size w w' := by
  have hff := field_fault0
  have hb0 : Below w.heap.size w ((w.alloc (.cells #[.string a.name, .string a.text, .slice sa a.steps.length sc] 24)).alloc (.cells #[.string b.name, .string b.text, .slice sb b.steps.length sd] 24)) := ((Below.refl _ w).alloc (Nat.le_refl _) _).alloc (by simp) _
  have HD := Lib.hid (h.below hb0)
  have HF := Lib.hid (h'.below hb0)
  obtain ⟨_, _, he1, hl1, hl2⟩ := h.steps.form
  cases he1
  have hg1 : ((w.alloc (.cells #[.string a.name, .string a.text, .slice sa a.steps.length sc] 24)).alloc (.cells #[.string b.name, .string b.text, .slice sb b.steps.length sd] 24)).heap[w.heap.size]? = some (.cells #[.string a.name, .string a.text, .slice sa a.steps.length sc] 24 (0, 0)) := (Below.heap_alloc _ _ _ (by simp)).trans (World.alloc_heap_new w _)
  have hg2 : ((w.alloc (.cells #[.string a.name, .string a.text, .slice sa a.steps.length sc] 24)).alloc (.cells #[.string b.name, .string b.text, .slice sb b.steps.length sd] 24)).heap[w.heap.size + 1]? = some (.cells #[.string b.name, .string b.text, .slice sb b.steps.length sd] 24 (0, 0)) := by
    have := World.alloc_heap_new (w.alloc (.cells #[.string a.name, .string a.text, .slice sa a.steps.length sc] 24)) (.cells #[.string b.name, .string b.text, .slice sb b.steps.length sd] 24)
    rwa [World.size_alloc] at this
  have hsz : ((w.alloc (.cells #[.string a.name, .string a.text, .slice sa a.steps.length sc] 24)).alloc (.cells #[.string b.name, .string b.text, .slice sb b.steps.length sd] 24)).heap.size = w.heap.size + 2 := by simp
  have H := Lib.hid h
  clear h h'
  go_enter Try.func6, Try.ntmps6
  go_upto_region 1 with fail
  generalize ((w.alloc (.cells #[.string a.name, .string a.text, .slice sa a.steps.length sc] 24)).alloc (.cells #[.string b.name, .string b.text, .slice sb b.steps.length sd] 24)) = w0 at *
  have HB0 := Lib.hid hb0
  have HA0 := Lib.hid hg1
  have HE0 := Lib.hid hg2
  have HSZ := Lib.hid hsz
  clear hb0 hg1 hg2 hsz
  go_wp2_with fail
  refine (live21_any _).mono ?_
  rintro e w1 ⟨rfl, hb1⟩
  have HB1 := Lib.hid (bthen HB0.out (Nat.le_refl _) hb1)
  have HA1 := Lib.hid ((hb1.block _ (Array.getElem?_eq_some_iff.1 HA0.out).1).trans HA0.out)
  have HE1 := Lib.hid ((hb1.block _ (Array.getElem?_eq_some_iff.1 HE0.out).1).trans HE0.out)
  have HD1 := Lib.hid (HD.out.below hb1)
  have HF1 := Lib.hid (HF.out.below hb1)
  clear hb1
  obtain ⟨p0, p1, p2, -, -, -⟩ := cells3h HA1.out
  obtain ⟨r0, r1, r2, -, -, -⟩ := cells3h HE1.out
  go_wp2_with fail
  refine (rdSmall_any a _ _ _ w1 HD1.out).mono ?_
  rintro e w2 ⟨rfl, hb2⟩
  clear p0 p1 p2 r0 r1 r2
  have HB2 := Lib.hid (bthen HB1.out (Nat.le_refl _) hb2)
  have HA2 := Lib.hid ((hb2.block _ (Array.getElem?_eq_some_iff.1 HA1.out).1).trans HA1.out)
  have HE2 := Lib.hid ((hb2.block _ (Array.getElem?_eq_some_iff.1 HE1.out).1).trans HE1.out)
  have HD2 := Lib.hid (HD1.out.below hb2)
  have HF2 := Lib.hid (HF1.out.below hb2)
  clear hb2
  obtain ⟨p0, p1, p2, -, -, -⟩ := cells3h HA2.out
  obtain ⟨r0, r1, r2, -, -, -⟩ := cells3h HE2.out
  rcases hsm : smallDef a with _ | _
  · clear hsm
    go_wp2
    go_ret
    exact ⟨rfl, HB2.out⟩
  have HSA := Lib.hid (smallDef_of hsm)
  clear hsm
  go_wp2_with fail
  refine (rdSmall_any b _ _ _ w2 HF2.out).mono ?_
  rintro e w3 ⟨rfl, hb3⟩
  clear p0 p1 p2 r0 r1 r2
  have HB3 := Lib.hid (bthen HB2.out (Nat.le_refl _) hb3)
  have HA3 := Lib.hid ((hb3.block _ (Array.getElem?_eq_some_iff.1 HA2.out).1).trans HA2.out)
  have HE3 := Lib.hid ((hb3.block _ (Array.getElem?_eq_some_iff.1 HE2.out).1).trans HE2.out)
  have HD3 := Lib.hid (HD2.out.below hb3)
  have HF3 := Lib.hid (HF2.out.below hb3)
  clear hb3
  obtain ⟨p0, p1, p2, -, -, -⟩ := cells3h HA3.out
  obtain ⟨r0, r1, r2, -, -, -⟩ := cells3h HE3.out
  rcases hsm : smallDef b with _ | _
  · clear hsm
    go_wp2
    go_ret
    exact ⟨rfl, HB3.out⟩
  have HSB := Lib.hid (smallDef_of hsm)
  clear hsm
  by_cases hn2 : 200 < nm.size
  · have hd : decide ((200 : Int) < (nm.size : Int)) = true := by simp; omega
    go_wp2
    go_ret
    exact ⟨rfl, HB3.out⟩
  have hd : decide ((200 : Int) < (nm.size : Int)) = false := by simp; omega
  go_wp2
  go_loop [8, 7] (fun i k => ∃ j : Nat, j ≤ a.steps.length ∧ i = .int .i64 ((j : Int) - 1) ∧ k = .int .i64 (idxStep (a.steps.drop j) nm j)) (fun i _ => (intOf i + 1).toNat)
  case atStart =>
    refine ⟨a.steps.length, Nat.le_refl _, rfl, ?_⟩
    rw [List.drop_length]; rfl
  case round =>
    obtain ⟨j, hj, rfl, rfl⟩ := hrel
    have hix := idx_ge (l := a.steps.drop j) (n := nm) (i := j)
    by_cases hj0 : 0 < j
    · obtain ⟨i, rfl⟩ : ∃ i, j = i + 1 := ⟨j - 1, by omega⟩
      have hlt : i < a.steps.length := by omega
      have e1 : ((i + 1 : Nat) : Int) - 1 = (i : Int) := by omega
      rw [e1]
      obtain ⟨g, off, cap, aa, ac, ka, kc, ba, bc, he, q1, q2, -, z0, -⟩ := HD3.out.steps.at hlt
      cases he
      have HDN := Lib.hid (idx_down (l := a.steps) (n := nm) hlt)
      have hi0 : (0 : Int) ≤ (i : Int) := by omega
      have hi1 : (i : Int) < (a.steps.length : Int) := by omega
      generalize a.steps[i] = s at *
      generalize idxStep (a.steps.drop (i + 1)) nm (i + 1) = x at *
      by_cases hs : s.name = nm
      · have hd2 : (s.name.toList == nm.toList) = true := beqS_yes hs
        rw [if_pos hs] at HDN
        clear hs
        go_wp2
        go_round
        case rel => exact ⟨i, by omega, by go_num, by rw [HDN.out]⟩
        case measure => simp [intOf] <;> omega
      · have hd2 : (s.name.toList == nm.toList) = false := beqS_no hs
        rw [if_neg hs] at HDN
        clear hs
        go_wp2
        go_round
        case rel => exact ⟨i, by omega, by go_num, by rw [HDN.out]⟩
        case measure => simp [intOf] <;> omega
    · obtain rfl : j = 0 := by omega
      have e1 : (((0 : Nat) : Int) - 1) = -1 := rfl
      rw [e1]
      have hd0 : a.steps.drop 0 = a.steps := rfl
      rw [hd0]
      rw [hd0] at hix
      generalize hK : idxStep a.steps nm 0 = K at *
      go_wp2_with fail
      refine (rdSame_any a b _ _ _ _ _ _ w3 HD3.out HF3.out).mono ?_
      rintro e w4 ⟨rfl, hb4⟩
      clear p0 p1 p2 r0 r1 r2
      have HB4 := Lib.hid (bthen HB3.out (Nat.le_refl _) hb4)
      have HA4 := Lib.hid ((hb4.block _ (Array.getElem?_eq_some_iff.1 HA3.out).1).trans HA3.out)
      have HE4 := Lib.hid ((hb4.block _ (Array.getElem?_eq_some_iff.1 HE3.out).1).trans HE3.out)
      have HD4 := Lib.hid (HD3.out.below hb4)
      have HF4 := Lib.hid (HF3.out.below hb4)
      clear hb4
      obtain ⟨p0, p1, p2, -, -, -⟩ := cells3h HA4.out
      obtain ⟨r0, r1, r2, -, -, -⟩ := cells3h HE4.out
      go_wp2_with fail
      refine (dCopy_any a _ _ _ w4 HD4.out HSA.out).mono ?_
      rintro e w5 ⟨va, vc, rows, rfl, hr1, hr2, hr3, hb5⟩
      clear p0 p1 p2 r0 r1 r2
      go_upto_region 13 with fail
      have hbx := (Below.refl w5.heap.size w5).alloc (Nat.le_refl _) (.cells #[.string a.name, .string a.text, .slice va a.steps.length vc] 24)
      have hb56 := bthen hb5 (Nat.le_refl _) hbx
      have HG6 := Lib.hid (World.alloc_heap_new w5 (.cells #[.string a.name, .string a.text, .slice va a.steps.length vc] 24))
      have HR1 := Lib.hid hr1
      have HR2 := Lib.hid (ownsB hr2 hbx)
      have HR3 := Lib.hid (fun (i : Nat) (r : List Value) (s : StepD) h1 h2 => (hr3 i r s h1 h2).keep (fun b _ hl => hbx.block b hl))
      generalize w5.alloc (.cells #[.string a.name, .string a.text, .slice va a.steps.length vc] 24) = w6 at *
      have hT5 : w4.heap.size ≤ w5.heap.size := hb5.size
      generalize w5.heap.size = T at *
      have HB6 := Lib.hid (bthen HB4.out (Nat.le_refl _) hb56)
      have HA6 := Lib.hid ((hb56.block _ (Array.getElem?_eq_some_iff.1 HA4.out).1).trans HA4.out)
      have HE6 := Lib.hid ((hb56.block _ (Array.getElem?_eq_some_iff.1 HE4.out).1).trans HE4.out)
      have HD6 := Lib.hid (HD4.out.below hb56)
      have HF6 := Lib.hid (HF4.out.below hb56)
      have HC6 := Lib.hid (copy_R HD6.out.name HD6.out.text HR1.out HR2.out HR3.out)
      have hlo := HB4.out.size
      clear hr1 hr2 hr3 hbx hb5 hb56
      obtain ⟨p0, p1, p2, -, -, -⟩ := cells3h HA6.out
      obtain ⟨r0, r1, r2, -, -, -⟩ := cells3h HE6.out
      go_wp2_with fail
      refine (dSame_any a b _ _ _ _ _ _ w6 HD6.out HF6.out).mono ?_
      rintro e w7 ⟨rfl, hb7⟩
      clear p0 p1 p2 r0 r1 r2
      have HB7 := Lib.hid (bthen HB6.out (Nat.le_refl _) hb7)
      have HA7 := Lib.hid ((hb7.block _ (Array.getElem?_eq_some_iff.1 HA6.out).1).trans HA6.out)
      have HE7 := Lib.hid ((hb7.block _ (Array.getElem?_eq_some_iff.1 HE6.out).1).trans HE6.out)
      have HD7 := Lib.hid (HD6.out.below hb7)
      have HF7 := Lib.hid (HF6.out.below hb7)
      have HC7 := Lib.hid (HC6.out.below hb7)
      have HG7 := Lib.hid ((hb7.block _ (Array.getElem?_eq_some_iff.1 HG6.out).1).trans HG6.out)
      have HX7 := Lib.hid hb7
      clear hb7
      obtain ⟨p0, p1, p2, -, -, -⟩ := cells3h HA7.out
      obtain ⟨r0, r1, r2, -, -, -⟩ := cells3h HE7.out
      obtain ⟨c0, c1, c2, -, -, -⟩ := cells3h HG7.out
      have hdd : (sameD a b != sameD a b) = false := by simp
      go_wp2_with fail
      refine (rdSame_any a a _ _ _ _ _ _ w7 HC7.out HD7.out).mono ?_
      rintro e w8 ⟨rfl, hb8⟩
      rw [sameD_refl a]
      clear c0 c1 c2
      clear p0 p1 p2 r0 r1 r2
      have HB8 := Lib.hid (bthen HB7.out (Nat.le_refl _) hb8)
      have HA8 := Lib.hid ((hb8.block _ (Array.getElem?_eq_some_iff.1 HA7.out).1).trans HA7.out)
      have HE8 := Lib.hid ((hb8.block _ (Array.getElem?_eq_some_iff.1 HE7.out).1).trans HE7.out)
      have HD8 := Lib.hid (HD7.out.below hb8)
      have HF8 := Lib.hid (HF7.out.below hb8)
      have HG8 := Lib.hid ((hb8.block _ (Array.getElem?_eq_some_iff.1 HG7.out).1).trans HG7.out)
      have HX8 := Lib.hid (bthen HX7.out (Nat.le_refl _) hb8)
      clear hb8
      obtain ⟨p0, p1, p2, -, -, -⟩ := cells3h HA8.out
      obtain ⟨r0, r1, r2, -, -, -⟩ := cells3h HE8.out
      go_wp2_with fail
      refine (dIndex_any a nm _ _ _ w8 HD8.out).mono ?_
      rintro e w9 ⟨rfl, hb9⟩
      rw [hK]
      clear p0 p1 p2 r0 r1 r2
      have HB9 := Lib.hid (bthen HB8.out (Nat.le_refl _) hb9)
      have HA9 := Lib.hid ((hb9.block _ (Array.getElem?_eq_some_iff.1 HA8.out).1).trans HA8.out)
      have HE9 := Lib.hid ((hb9.block _ (Array.getElem?_eq_some_iff.1 HE8.out).1).trans HE8.out)
      have HD9 := Lib.hid (HD8.out.below hb9)
      have HF9 := Lib.hid (HF8.out.below hb9)
      have HG9 := Lib.hid ((hb9.block _ (Array.getElem?_eq_some_iff.1 HG8.out).1).trans HG8.out)
      have HX9 := Lib.hid (bthen HX8.out (Nat.le_refl _) hb9)
      clear hb9
      obtain ⟨p0, p1, p2, -, -, -⟩ := cells3h HA9.out
      obtain ⟨r0, r1, r2, -, -, -⟩ := cells3h HE9.out
      go_upto_region 15 with fail
      go_cut [9, 46, 51, 52, 81] (fun s9 s46 s51 s52 s wx => s9 = .bool (sameD a b) ∧ s46 = .bool (sameD a b) ∧ s51 = .bool (sameD a b) ∧ s52 = .bool (sameD a b) ∧ s = .bool false ∧ Below w9.heap.size w9 wx)
      case first =>
        have HZ0 : Hid (Below w9.heap.size w9 w9.drew) := Lib.hid ((Below.refl _ _).drew)
        rcases hsb : sameD a b with _ | _
        · have HSQ := Lib.hid (congrArg Value.bool hsb.symm)
          clear hsb
          go_wp2_with fail
          refine E_region (S := (fun W => W.cell? ⟨w.heap.size, 0, none⟩ = some (.string a.name) ∧ W.cell? ⟨w.heap.size, 1, none⟩ = some (.string a.text) ∧ W.cell? ⟨w.heap.size, 2, none⟩ = some (.slice sa a.steps.length sc) ∧ W.cell? ⟨w.heap.size + 1, 0, none⟩ = some (.string b.name) ∧ W.cell? ⟨w.heap.size + 1, 1, none⟩ = some (.string b.text) ∧ W.cell? ⟨w.heap.size + 1, 2, none⟩ = some (.slice sb b.steps.length sd))) 99 (by kernel_rfl) ⟨p0, p1, p2, r0, r1, r2⟩ (fun _ _ _ _ _ h => h) (fun Q' hQ hK' hHeld => ?_)
          refine E_take0 hQ (fun _ => hHeld) 0 (v := ?sv1) rfl rfl (by kernel_rfl) (by kernel_rfl) (by kernel_rfl) (by decide) (by rfl) ?sy1 ?sr1
          case sy1 => (intro w; go_simp; (try with_reducible rfl))
          (try simp only [Act.put, List.setIfInBounds_toArray, List.set_cons_zero, List.set_cons_succ])
          refine E_take0 hQ (fun _ => hHeld) 1 (v := ?sv2) rfl rfl (by kernel_rfl) (by kernel_rfl) (by kernel_rfl) (by decide) (by rfl) ?sy2 ?sr2
          case sy2 => (intro w; go_simp; (try with_reducible rfl))
          (try simp only [Act.put, List.setIfInBounds_toArray, List.set_cons_zero, List.set_cons_succ])
          refine E_off hQ (fun _ => hHeld) 2 rfl rfl (by kernel_rfl) (by kernel_rfl) (by kernel_rfl) (by decide) (by rfl) ?_
          (try simp only [Act.put, List.setIfInBounds_toArray, List.set_cons_zero, List.set_cons_succ])
          refine E_off hQ (fun _ => hHeld) 3 rfl rfl (by kernel_rfl) (by kernel_rfl) (by kernel_rfl) (by decide) (by rfl) ?_
          (try simp only [Act.put, List.setIfInBounds_toArray, List.set_cons_zero, List.set_cons_succ])
          refine E_off hQ (fun _ => hHeld) 4 rfl rfl (by kernel_rfl) (by kernel_rfl) (by kernel_rfl) (by decide) (by rfl) ?_
          (try simp only [Act.put, List.setIfInBounds_toArray, List.set_cons_zero, List.set_cons_succ])
          refine E_off hQ (fun _ => hHeld) 5 rfl rfl (by kernel_rfl) (by kernel_rfl) (by kernel_rfl) (by decide) (by rfl) ?_
          (try simp only [Act.put, List.setIfInBounds_toArray, List.set_cons_zero, List.set_cons_succ])
          refine E_take0 hQ (fun _ => hHeld) 6 (v := ?sv7) rfl rfl (by kernel_rfl) (by kernel_rfl) (by kernel_rfl) (by decide) (by rfl) ?sy7 ?sr7
          case sy7 => (intro w; go_simp; (try with_reducible rfl))
          (try simp only [Act.put, List.setIfInBounds_toArray, List.set_cons_zero, List.set_cons_succ])
          refine E_take0 hQ (fun _ => hHeld) 7 (v := ?sv8) rfl rfl (by kernel_rfl) (by kernel_rfl) (by kernel_rfl) (by decide) (by rfl) ?sy8 ?sr8
          case sy8 => (intro w; go_simp; (try with_reducible rfl))
          (try simp only [Act.put, List.setIfInBounds_toArray, List.set_cons_zero, List.set_cons_succ])
          refine E_off hQ (fun _ => hHeld) 8 rfl rfl (by kernel_rfl) (by kernel_rfl) (by kernel_rfl) (by decide) (by rfl) ?_
          (try simp only [Act.put, List.setIfInBounds_toArray, List.set_cons_zero, List.set_cons_succ])
          refine E_off hQ (fun _ => hHeld) 9 rfl rfl (by kernel_rfl) (by kernel_rfl) (by kernel_rfl) (by decide) (by rfl) ?_
          (try simp only [Act.put, List.setIfInBounds_toArray, List.set_cons_zero, List.set_cons_succ])
          refine E_off hQ (fun _ => hHeld) 10 rfl rfl (by kernel_rfl) (by kernel_rfl) (by kernel_rfl) (by decide) (by rfl) ?_
          (try simp only [Act.put, List.setIfInBounds_toArray, List.set_cons_zero, List.set_cons_succ])
          refine E_off hQ (fun _ => hHeld) 11 rfl rfl (by kernel_rfl) (by kernel_rfl) (by kernel_rfl) (by decide) (by rfl) ?_
          (try simp only [Act.put, List.setIfInBounds_toArray, List.set_cons_zero, List.set_cons_succ])
          refine E_off hQ (fun _ => hHeld) 12 rfl rfl (by kernel_rfl) (by kernel_rfl) (by kernel_rfl) (by decide) (by rfl) ?_
          (try simp only [Act.put, List.setIfInBounds_toArray, List.set_cons_zero, List.set_cons_succ])
          refine E_off hQ (fun _ => hHeld) 13 rfl rfl (by kernel_rfl) (by kernel_rfl) (by kernel_rfl) (by decide) (by rfl) ?_
          (try simp only [Act.put, List.setIfInBounds_toArray, List.set_cons_zero, List.set_cons_succ])
          refine E_take0 hQ (fun _ => hHeld) 14 (v := ?sv15) rfl rfl (by kernel_rfl) (by kernel_rfl) (by kernel_rfl) (by decide) (by rfl) ?sy15 ?sr15
          case sy15 => (intro w; go_simp; (try with_reducible rfl))
          (try simp only [Act.put, List.setIfInBounds_toArray, List.set_cons_zero, List.set_cons_succ])
          refine E_done (by kernel_rfl) ?_ _
          refine hK'.out _ _ ?_
          go_wp2_with fail
          go_meet
          exact ⟨HSQ.out, HSQ.out, HSQ.out, HSQ.out, rfl, HZ0.out⟩
        have HST := Lib.hid (sameD_trees hsb)
        have HSQ := Lib.hid (congrArg Value.bool hsb.symm)
        clear hsb
        by_cases hc : (defC a).1 = 0
        case neg =>
          have hd0 : ((defC a).1 == 0) = false := by simpa using hc
          clear hc
          go_wp2_with fail
          refine E_region (S := (fun W => W.cell? ⟨w.heap.size, 0, none⟩ = some (.string a.name) ∧ W.cell? ⟨w.heap.size, 1, none⟩ = some (.string a.text) ∧ W.cell? ⟨w.heap.size, 2, none⟩ = some (.slice sa a.steps.length sc) ∧ W.cell? ⟨w.heap.size + 1, 0, none⟩ = some (.string b.name) ∧ W.cell? ⟨w.heap.size + 1, 1, none⟩ = some (.string b.text) ∧ W.cell? ⟨w.heap.size + 1, 2, none⟩ = some (.slice sb b.steps.length sd))) 3 (by kernel_rfl) ⟨p0, p1, p2, r0, r1, r2⟩ (fun _ _ _ _ _ h => h) (fun Q' hQ hK' hHeld => ?_)
          refine E_take0 hQ (fun _ => hHeld) 0 (v := ?tv1) rfl rfl (by kernel_rfl) (by kernel_rfl) (by kernel_rfl) (by decide) (by rfl) ?ty1 ?tr1
          case ty1 => (intro w; go_simp; (try with_reducible rfl))
          (try simp only [Act.put, List.setIfInBounds_toArray, List.set_cons_zero, List.set_cons_succ])
          refine E_take0 hQ (fun _ => hHeld) 1 (v := ?tv2) rfl rfl (by kernel_rfl) (by kernel_rfl) (by kernel_rfl) (by decide) (by rfl) ?ty2 ?tr2
          case ty2 => (intro w; go_simp; (try with_reducible rfl))
          (try simp only [Act.put, List.setIfInBounds_toArray, List.set_cons_zero, List.set_cons_succ])
          refine E_take hQ hHeld 2 (v := ?tv3) rfl rfl (by kernel_rfl) (by kernel_rfl) (by kernel_rfl) (by kernel_rfl) (by kernel_rfl) (by rfl) ?ty3 ?tr3
          case ty3 => (intro w hSw; (try dsimp only at hSw); go_simp; (try with_reducible rfl))
          (try simp only [Act.put, List.setIfInBounds_toArray, List.set_cons_zero, List.set_cons_succ])
          refine E_one 3 (by kernel_rfl) rfl (by rfl) (fun K hK => ?_)
          go_simp
          refine (rdCheck_any a _ _ _ _ (HD9.out.below HZ0.out) HSA.out).mono ?_
          rintro e V3 ⟨rfl, hb⟩
          have HY3 := Lib.hid hb
          have HZ3 : Hid (Below w9.heap.size w9 V3) := Lib.hid (bthen HZ0.out (Nat.le_refl _) hb)
          clear hb
          unfold faultV
          refine hK.out _ _ (fun _ h => absurd rfl h) (fun _ => ?_)
          clear hK hHeld
          (try simp only [Act.put, List.setIfInBounds_toArray, List.set_cons_zero, List.set_cons_succ])
          refine E_take0 hQ (fun h => absurd h (by decide)) 4 (v := ?tv4) rfl rfl (by kernel_rfl) (by kernel_rfl) (by kernel_rfl) (by decide) (by rfl) ?ty4 ?tr4
          case ty4 => (intro w; go_simp; (try with_reducible rfl))
          (try simp only [Act.put, List.setIfInBounds_toArray, List.set_cons_zero, List.set_cons_succ])
          refine E_take0 hQ (fun h => absurd h (by decide)) 5 (v := ?tv5) rfl rfl (by kernel_rfl) (by kernel_rfl) (by kernel_rfl) (by decide) (by rfl) ?ty5 ?tr5
          case ty5 => (intro w; go_simp; (try with_reducible rfl))
          (try simp only [Act.put, List.setIfInBounds_toArray, List.set_cons_zero, List.set_cons_succ])
          refine E_take0 hQ (fun h => absurd h (by decide)) 6 (v := ?tv6) rfl rfl (by kernel_rfl) (by kernel_rfl) (by kernel_rfl) (by decide) (by rfl) ?ty6 ?tr6
          case ty6 => (intro w; go_simp; (try with_reducible rfl))
          (try simp only [Act.put, List.setIfInBounds_toArray, List.set_cons_zero, List.set_cons_succ])
          refine E_take0 hQ (fun h => absurd h (by decide)) 7 (v := ?tv7) rfl rfl (by kernel_rfl) (by kernel_rfl) (by kernel_rfl) (by decide) (by rfl) ?ty7 ?tr7
          case ty7 => (intro w; go_simp; (try with_reducible rfl))
          (try simp only [Act.put, List.setIfInBounds_toArray, List.set_cons_zero, List.set_cons_succ])
          refine E_off hQ (fun h => absurd h (by decide)) 8 rfl rfl (by kernel_rfl) (by kernel_rfl) (by kernel_rfl) (by decide) (by rfl) ?_
          (try simp only [Act.put, List.setIfInBounds_toArray, List.set_cons_zero, List.set_cons_succ])
          refine E_off hQ (fun h => absurd h (by decide)) 9 rfl rfl (by kernel_rfl) (by kernel_rfl) (by kernel_rfl) (by decide) (by rfl) ?_
          (try simp only [Act.put, List.setIfInBounds_toArray, List.set_cons_zero, List.set_cons_succ])
          refine E_off hQ (fun h => absurd h (by decide)) 10 rfl rfl (by kernel_rfl) (by kernel_rfl) (by kernel_rfl) (by decide) (by rfl) ?_
          (try simp only [Act.put, List.setIfInBounds_toArray, List.set_cons_zero, List.set_cons_succ])
          refine E_off hQ (fun h => absurd h (by decide)) 11 rfl rfl (by kernel_rfl) (by kernel_rfl) (by kernel_rfl) (by decide) (by rfl) ?_
          (try simp only [Act.put, List.setIfInBounds_toArray, List.set_cons_zero, List.set_cons_succ])
          refine E_off hQ (fun h => absurd h (by decide)) 12 rfl rfl (by kernel_rfl) (by kernel_rfl) (by kernel_rfl) (by decide) (by rfl) ?_
          (try simp only [Act.put, List.setIfInBounds_toArray, List.set_cons_zero, List.set_cons_succ])
          refine E_off hQ (fun h => absurd h (by decide)) 13 rfl rfl (by kernel_rfl) (by kernel_rfl) (by kernel_rfl) (by decide) (by rfl) ?_
          (try simp only [Act.put, List.setIfInBounds_toArray, List.set_cons_zero, List.set_cons_succ])
          refine E_take0 hQ (fun h => absurd h (by decide)) 14 (v := ?tv14) rfl rfl (by kernel_rfl) (by kernel_rfl) (by kernel_rfl) (by decide) (by rfl) ?ty14 ?tr14
          case ty14 => (intro w; go_simp; (try with_reducible rfl))
          (try simp only [Act.put, List.setIfInBounds_toArray, List.set_cons_zero, List.set_cons_succ])
          refine E_done (by kernel_rfl) ?_ _
          refine hK'.out _ _ ?_
          go_wp2_with fail
          go_meet
          exact ⟨HSQ.out, HSQ.out, HSQ.out, HSQ.out, rfl, HZ3.out⟩
        have hd0 : ((defC a).1 == 0) = true := by simpa using hc
        clear hc
        go_wp2_with fail
        refine E_region (S := (fun W => W.cell? ⟨w.heap.size, 0, none⟩ = some (.string a.name) ∧ W.cell? ⟨w.heap.size, 1, none⟩ = some (.string a.text) ∧ W.cell? ⟨w.heap.size, 2, none⟩ = some (.slice sa a.steps.length sc) ∧ W.cell? ⟨w.heap.size + 1, 0, none⟩ = some (.string b.name) ∧ W.cell? ⟨w.heap.size + 1, 1, none⟩ = some (.string b.text) ∧ W.cell? ⟨w.heap.size + 1, 2, none⟩ = some (.slice sb b.steps.length sd))) 12 (by kernel_rfl) ⟨p0, p1, p2, r0, r1, r2⟩ (fun _ _ _ _ _ h => h) (fun Q' hQ hK' hHeld => ?_)
        refine E_take0 hQ (fun _ => hHeld) 0 (v := ?uv1) rfl rfl (by kernel_rfl) (by kernel_rfl) (by kernel_rfl) (by decide) (by rfl) ?uy1 ?ur1
        case uy1 => (intro w; go_simp; (try with_reducible rfl))
        (try simp only [Act.put, List.setIfInBounds_toArray, List.set_cons_zero, List.set_cons_succ])
        refine E_take0 hQ (fun _ => hHeld) 1 (v := ?uv2) rfl rfl (by kernel_rfl) (by kernel_rfl) (by kernel_rfl) (by decide) (by rfl) ?uy2 ?ur2
        case uy2 => (intro w; go_simp; (try with_reducible rfl))
        (try simp only [Act.put, List.setIfInBounds_toArray, List.set_cons_zero, List.set_cons_succ])
        refine E_take hQ hHeld 2 (v := ?uv3) rfl rfl (by kernel_rfl) (by kernel_rfl) (by kernel_rfl) (by kernel_rfl) (by kernel_rfl) (by rfl) ?uy3 ?ur3
        case uy3 => (intro w hSw; (try dsimp only at hSw); go_simp; (try with_reducible rfl))
        (try simp only [Act.put, List.setIfInBounds_toArray, List.set_cons_zero, List.set_cons_succ])
        refine E_one 3 (by kernel_rfl) rfl (by rfl) (fun K hK => ?_)
        go_simp
        refine (rdCheck_any a _ _ _ _ (HD9.out.below HZ0.out) HSA.out).mono ?_
        rintro e V3 ⟨rfl, hb⟩
        have HY3 := Lib.hid hb
        have HZ3 : Hid (Below w9.heap.size w9 V3) := Lib.hid (bthen HZ0.out (Nat.le_refl _) hb)
        clear hb
        unfold faultV
        refine hK.out _ _ (fun _ _ => ⟨cellB HY3.out hHeld.1, cellB HY3.out hHeld.2.1, cellB HY3.out hHeld.2.2.1, cellB HY3.out hHeld.2.2.2.1, cellB HY3.out hHeld.2.2.2.2.1, cellB HY3.out hHeld.2.2.2.2.2⟩) (fun hHeld' => ?_)
        replace hHeld := hHeld' (by rfl) (by decide)
        clear hK hHeld'
        (try simp only [Act.put, List.setIfInBounds_toArray, List.set_cons_zero, List.set_cons_succ])
        refine E_take0 hQ (fun _ => hHeld) 4 (v := ?uv4) rfl rfl (by kernel_rfl) (by kernel_rfl) (by kernel_rfl) (by decide) (by rfl) ?uy4 ?ur4
        case uy4 => (intro w; go_simp; (try with_reducible rfl))
        (try simp only [Act.put, List.setIfInBounds_toArray, List.set_cons_zero, List.set_cons_succ])
        refine E_take0 hQ (fun _ => hHeld) 5 (v := ?uv5) rfl rfl (by kernel_rfl) (by kernel_rfl) (by kernel_rfl) (by decide) (by rfl) ?uy5 ?ur5
        case uy5 => (intro w; go_simp; (try with_reducible rfl))
        (try simp only [Act.put, List.setIfInBounds_toArray, List.set_cons_zero, List.set_cons_succ])
        refine E_take0 hQ (fun _ => hHeld) 6 (v := ?uv6) rfl rfl (by kernel_rfl) (by kernel_rfl) (by kernel_rfl) (by decide) (by rfl) ?uy6 ?ur6
        case uy6 => (intro w; go_simp; (try with_reducible rfl))
        (try simp only [Act.put, List.setIfInBounds_toArray, List.set_cons_zero, List.set_cons_succ])
        refine E_take0 hQ (fun _ => hHeld) 7 (v := ?uv7) rfl rfl (by kernel_rfl) (by kernel_rfl) (by kernel_rfl) (by decide) (by rfl) ?uy7 ?ur7
        case uy7 => (intro w; go_simp; (try with_reducible rfl))
        (try simp only [Act.put, List.setIfInBounds_toArray, List.set_cons_zero, List.set_cons_succ])
        refine E_take hQ hHeld 8 (v := ?uv8) rfl rfl (by kernel_rfl) (by kernel_rfl) (by kernel_rfl) (by kernel_rfl) (by kernel_rfl) (by rfl) ?uy8 ?ur8
        case uy8 => (intro w hSw; (try dsimp only at hSw); go_simp; (try with_reducible rfl))
        (try simp only [Act.put, List.setIfInBounds_toArray, List.set_cons_zero, List.set_cons_succ])
        refine E_take hQ hHeld 10 (v := ?uv9) rfl rfl (by kernel_rfl) (by kernel_rfl) (by kernel_rfl) (by kernel_rfl) (by kernel_rfl) (by rfl) ?uy9 ?ur9
        case uy9 => (intro w hSw; (try dsimp only at hSw); go_simp; (try with_reducible rfl))
        (try simp only [Act.put, List.setIfInBounds_toArray, List.set_cons_zero, List.set_cons_succ])
        refine E_one 9 (by kernel_rfl) rfl (by rfl) (fun K hK => ?_)
        go_simp
        refine (dTree_any a _ _ _ _ (HD9.out.below HZ3.out) HSA.out).mono ?_
        rintro e V9 ⟨cs9, rfl, hn9, hb⟩
        have HY9 := Lib.hid hb
        have HZ9 : Hid (Below w9.heap.size w9 V9) := Lib.hid (bthen HZ3.out (Nat.le_refl _) hb)
        clear hb
        have HN9 := Lib.hid hn9.toR
        clear hn9
        refine hK.out _ _ (fun _ _ => ⟨cellB HY9.out hHeld.1, cellB HY9.out hHeld.2.1, cellB HY9.out hHeld.2.2.1, cellB HY9.out hHeld.2.2.2.1, cellB HY9.out hHeld.2.2.2.2.1, cellB HY9.out hHeld.2.2.2.2.2⟩) (fun hHeld' => ?_)
        replace hHeld := hHeld' (by rfl) (by decide)
        clear hK hHeld'
        (try simp only [Act.put, List.setIfInBounds_toArray, List.set_cons_zero, List.set_cons_succ])
        refine E_one 11 (by kernel_rfl) rfl (by rfl) (fun K hK => ?_)
        go_simp
        refine (dTree_any b _ _ _ _ (HF9.out.below HZ9.out) HSB.out).mono ?_
        rintro e V11 ⟨cs11, rfl, hn11, hb⟩
        have HY11 := Lib.hid hb
        have HZ11 : Hid (Below w9.heap.size w9 V11) := Lib.hid (bthen HZ9.out (Nat.le_refl _) hb)
        clear hb
        have HN11 := Lib.hid hn11.toR
        have HN10 := Lib.hid (HN9.out.belowW HY11.out)
        clear hn11
        refine hK.out _ _ (fun _ _ => ⟨cellB HY11.out hHeld.1, cellB HY11.out hHeld.2.1, cellB HY11.out hHeld.2.2.1, cellB HY11.out hHeld.2.2.2.1, cellB HY11.out hHeld.2.2.2.2.1, cellB HY11.out hHeld.2.2.2.2.2⟩) (fun hHeld' => ?_)
        replace hHeld := hHeld' (by rfl) (by decide)
        clear hK hHeld'
        (try simp only [Act.put, List.setIfInBounds_toArray, List.set_cons_zero, List.set_cons_succ])
        refine E_one 12 (by kernel_rfl) rfl (by rfl) (fun K hK => ?_)
        go_simp
        refine (rSameT_any _ _ _ _ _ HN10.out HN11.out).mono ?_
        rintro e V12 ⟨rfl, hb⟩
        have HY12 := Lib.hid hb
        have HZ12 : Hid (Below w9.heap.size w9 V12) := Lib.hid (bthen HZ11.out (Nat.le_refl _) hb)
        clear hb
        rw [HST.out]
        refine hK.out _ _ (fun _ h => absurd rfl h) (fun _ => ?_)
        clear hK hHeld
        (try simp only [Act.put, List.setIfInBounds_toArray, List.set_cons_zero, List.set_cons_succ])
        refine E_take0 hQ (fun h => absurd h (by decide)) 13 (v := ?uv10) rfl rfl (by kernel_rfl) (by kernel_rfl) (by kernel_rfl) (by decide) (by rfl) ?uy10 ?ur10
        case uy10 => (intro w; go_simp; (try with_reducible rfl))
        (try simp only [Act.put, List.setIfInBounds_toArray, List.set_cons_zero, List.set_cons_succ])
        refine E_take0 hQ (fun h => absurd h (by decide)) 14 (v := ?uv11) rfl rfl (by kernel_rfl) (by kernel_rfl) (by kernel_rfl) (by decide) (by rfl) ?uy11 ?ur11
        case uy11 => (intro w; go_simp; (try with_reducible rfl))
        (try simp only [Act.put, List.setIfInBounds_toArray, List.set_cons_zero, List.set_cons_succ])
        refine E_done (by kernel_rfl) ?_ _
        refine hK'.out _ _ ?_
        go_wp2_with fail
        go_meet
        exact ⟨HSQ.out, HSQ.out, HSQ.out, HSQ.out, rfl, HZ12.out⟩
      case rest =>
      obtain ⟨rfl, rfl, rfl, rfl, rfl, hbc⟩ := hcut
      generalize wc = w10 at *
      clear p0 p1 p2 r0 r1 r2
      have HB10 := Lib.hid (bthen HB9.out (Nat.le_refl _) hbc)
      have HA10 := Lib.hid ((hbc.block _ (Array.getElem?_eq_some_iff.1 HA9.out).1).trans HA9.out)
      have HE10 := Lib.hid ((hbc.block _ (Array.getElem?_eq_some_iff.1 HE9.out).1).trans HE9.out)
      have HD10 := Lib.hid (HD9.out.below hbc)
      have HG10 := Lib.hid ((hbc.block _ (Array.getElem?_eq_some_iff.1 HG9.out).1).trans HG9.out)
      have HX10 := Lib.hid (bthen HX9.out (Nat.le_refl _) hbc)
      clear hbc
      have HR2X := Lib.hid (ownsB HR2.out HX10.out)
      have HR3X := Lib.hid (fun (i : Nat) (r : List Value) (s : StepD) h1 h2 => (HR3.out i r s h1 h2).keep (fun b _ hl => HX10.out.block b hl))
      have hE4 := (Array.getElem?_eq_some_iff.1 HE4.out).1
      obtain ⟨_, _, hev, hv1, hv2⟩ := (copy_R HD10.out.name HD10.out.text HR1.out HR2X.out HR3X.out).steps.form
      cases hev
      obtain ⟨p0, p1, p2, -, -, -⟩ := cells3h HA10.out
      obtain ⟨c0, c1, c2, -, -, -⟩ := cells3h HG10.out
      by_cases hn0 : a.steps.length = 0
      · have hd1 : decide ((0 : Int) < (a.steps.length : Int)) = false := decide_eq_false (by omega)
        go_wp2
        go_ret
        exact ⟨rfl, HB10.out⟩
      have hd1 : decide ((0 : Int) < (a.steps.length : Int)) = true := decide_eq_true (by omega)
      have hlt : 0 < a.steps.length := by omega
      have hrl : 0 < rows.length := by have := HR1.out; omega
      obtain ⟨G, cap, hva, hG1, hG2⟩ := HR2X.out.form hlt
      cases hva
      have hlen : ∀ r ∈ rows, r.length = 13 := by
        intro r hr
        obtain ⟨j, hj, rfl⟩ := List.getElem_of_mem hr
        exact (HR3X.out j _ _ (List.getElem?_eq_getElem hj) (List.getElem?_eq_getElem (by have := HR1.out; omega))).toX.len
      have hfl := flatten_get hlen
      obtain ⟨aa1, ac1, ka1, kc1, ba1, bc1, he1, -, hown1, -⟩ := HR3X.out 0 _ _ (List.getElem?_eq_getElem hrl) (List.getElem?_eq_getElem hlt)
      have k0 : w10.cell? ⟨G, 0, none⟩ = some (.string a.steps[0].name) := by
        rw [HR2X.out.cellAt 0 (by omega)]
        have := hfl.2 0 _ (List.getElem?_eq_getElem hrl) 0 (by omega)
        simp only [Nat.zero_mul, Nat.zero_add] at this
        rw [this, he1]; rfl
      have k3 : w10.cell? ⟨G, 3, none⟩ = some (.slice aa1 a.steps[0].after.length ac1) := by
        rw [HR2X.out.cellAt 3 (by omega)]
        have := hfl.2 0 _ (List.getElem?_eq_getElem hrl) 3 (by omega)
        simp only [Nat.zero_mul, Nat.zero_add] at this
        rw [this, he1]; rfl
      have kf := HR2X.out.frozenAt 0
      have hGT : T ≠ G := owns_ne HR2X.out HG10.out (by decide)
      obtain ⟨g, off, cap', aa, ac, ka, kc, ba, bc, he, q1, q2, hsr, hat⟩ := H.out.steps.at hlt
      cases he
      have z0 := hat.q0
      have z3 := hat.q3
      rw [Nat.zero_mul, Nat.add_zero] at z0 z3
      have HSRA := Lib.hid hsr.after
      have hss := HSA.out.each _ (List.getElem_mem hlt)
      have hsn := hss.name
      have hsa := hss.aft
      clear hat hsr hfl hlen he1 hss
      generalize a.steps[0] = s at *
      by_cases hm : s.after.length = 0
      · have hd2 : decide ((0 : Int) < (s.after.length : Int)) = false := decide_eq_false (by omega)
        go_wp2
        go_ret
        exact ⟨rfl, HB10.out⟩
      have hd2 : decide ((0 : Int) < (s.after.length : Int)) = true := decide_eq_true (by omega)
      have hmlt : 0 < s.after.length := by omega
      obtain ⟨GA, capA, hvb, hA1, hA2⟩ := hown1.form hmlt
      cases hvb
      have j0 : w10.cell? ⟨GA, 0, none⟩ = some (.string s.after[0]) := by
        rw [hown1.cellAt 0 (by omega)]; exact strsV_get hmlt
      have jf := hown1.frozenAt 0
      have hAT : T ≠ GA := owns_ne hown1 HG10.out (by decide)
      have hAG : G ≠ GA := by
        obtain ⟨cur, hcur⟩ := owns_block HR2X.out
        exact owns_ne hown1 hcur (by decide)
      have hmc : s.after.length ≤ ac1 ∧ ac1 ≤ 9223372036854775807 := by
        obtain ⟨_, _, _, he2, h3, h4, _⟩ := RdS.of_owns hown1
        injection he2 with _ _ e3; subst e3; unfold maxLen at h4; exact ⟨h3, h4⟩
      obtain ⟨ga, offa, hvc, hm1, hm2, zs⟩ := strs_at HSRA.out hmlt
      cases hvc
      rw [Nat.add_zero] at zs
      have hql : (s.name.toList == (({ data := #[121] } : ByteArray) ++ s.name).toList) = false := beqS_no (y_ne s.name)
      have ha0 := hsa _ (List.getElem_mem hmlt)
      clear hown1 hsa
      generalize s.after[0] = a0 at *
      have z0a := cellB HB10.out z0
      have z3a := cellB HB10.out z3
      have zsa := cellB HB10.out zs
      go_upto_region 20 with fail
      have hO := fun k (hk : k ≠ GA) => Below.heap_setCell w10 ⟨GA, 0, none⟩ (.string (a0 ++ { data := #[120] })) k hk
      have HBW := Lib.hid (HB10.out.setCell (p := ⟨GA, 0, none⟩) (by show w.heap.size ≤ GA; omega) (.string (a0 ++ { data := #[120] })))
      have k0b : (w10.setCell ⟨GA, 0, none⟩ (.string (a0 ++ { data := #[120] }))).cell? ⟨G, 0, none⟩ = some (.string s.name) := by
        rw [← k0]; simp only [World.cell?, hO G hAG]
      have kfb : (w10.setCell ⟨GA, 0, none⟩ (.string (a0 ++ { data := #[120] }))).frozen? ⟨G, 0, none⟩ = false := by
        rw [← kf]; simp only [World.frozen?, hO G hAG]
      have HA11 := Lib.hid ((hO _ (by omega)).trans HA10.out)
      have HG11 := Lib.hid ((hO _ hAT).trans HG10.out)
      clear p0 p1 p2 c0 c1 c2 k0 k3 kf j0 jf z0a z3a zsa hO
      generalize w10.setCell ⟨GA, 0, none⟩ (.string (a0 ++ { data := #[120] })) = w11 at *
      obtain ⟨p0, p1, p2, -, -, -⟩ := cells3h HA11.out
      obtain ⟨c0, c1, c2, -, -, -⟩ := cells3h HG11.out
      have z0b := cellB HBW.out z0
      have hcat : ¬ 9223372036854775807 < 1 + s.name.size := by omega
      refine E_region (S := (fun W => W.cell? ⟨T, 2, none⟩ = some (.slice (some ⟨G, 0, none⟩) a.steps.length vc) ∧ W.cell? ⟨w.heap.size, 2, none⟩ = some (.slice (some ⟨g, off, none⟩) a.steps.length sc) ∧ W.cell? ⟨g, off, none⟩ = some (.string s.name))) 10 (by kernel_rfl) ⟨c2, p2, z0b⟩ (fun _ _ _ _ _ h => h) (fun Q' hQ hK' hHeld => ?_)
      refine E_take0 hQ (fun _ => hHeld) 0 (v := ?vv1) rfl rfl (by kernel_rfl) (by kernel_rfl) (by kernel_rfl) (by decide) (by rfl) ?vy1 ?vr1
      case vy1 => (intro w; go_simp; (try with_reducible rfl))
      (try simp only [Act.put, List.setIfInBounds_toArray, List.set_cons_zero, List.set_cons_succ])
      refine E_take hQ hHeld 1 (v := ?vv2) rfl rfl (by kernel_rfl) (by kernel_rfl) (by kernel_rfl) (by kernel_rfl) (by kernel_rfl) (by rfl) ?vy2 ?vr2
      case vy2 => (intro w hSw; (try dsimp only at hSw); go_simp; (try with_reducible rfl))
      (try simp only [Act.put, List.setIfInBounds_toArray, List.set_cons_zero, List.set_cons_succ])
      refine E_take0 hQ (fun _ => hHeld) 2 (v := ?vv3) rfl rfl (by kernel_rfl) (by kernel_rfl) (by kernel_rfl) (by decide) (by rfl) ?vy3 ?vr3
      case vy3 => (intro w; go_simp; (try with_reducible rfl))
      (try simp only [Act.put, List.setIfInBounds_toArray, List.set_cons_zero, List.set_cons_succ])
      refine E_take hQ hHeld 3 (v := ?vv4) rfl rfl (by kernel_rfl) (by kernel_rfl) (by kernel_rfl) (by kernel_rfl) (by kernel_rfl) (by rfl) ?vy4 ?vr4
      case vy4 => (intro w hSw; (try dsimp only at hSw); go_simp; (try with_reducible rfl))
      (try simp only [Act.put, List.setIfInBounds_toArray, List.set_cons_zero, List.set_cons_succ])
      refine E_take0 hQ (fun _ => hHeld) 4 (v := ?vv5) rfl rfl (by kernel_rfl) (by kernel_rfl) (by kernel_rfl) (by decide) (by rfl) ?vy5 ?vr5
      case vy5 => (intro w; go_simp; (try with_reducible rfl))
      (try simp only [Act.put, List.setIfInBounds_toArray, List.set_cons_zero, List.set_cons_succ])
      refine E_take0 hQ (fun _ => hHeld) 5 (v := ?vv6) rfl rfl (by kernel_rfl) (by kernel_rfl) (by kernel_rfl) (by decide) (by rfl) ?vy6 ?vr6
      case vy6 => (intro w; go_simp; (try with_reducible rfl))
      (try simp only [Act.put, List.setIfInBounds_toArray, List.set_cons_zero, List.set_cons_succ])
      refine E_take hQ hHeld 6 (v := ?vv7) rfl rfl (by kernel_rfl) (by kernel_rfl) (by kernel_rfl) (by kernel_rfl) (by kernel_rfl) (by rfl) ?vy7 ?vr7
      case vy7 => (intro w hSw; (try dsimp only at hSw); go_simp; (try with_reducible rfl))
      (try simp only [Act.put, List.setIfInBounds_toArray, List.set_cons_zero, List.set_cons_succ])
      refine E_take0 hQ (fun _ => hHeld) 7 (v := ?vv8) rfl rfl (by kernel_rfl) (by kernel_rfl) (by kernel_rfl) (by decide) (by rfl) ?vy8 ?vr8
      case vy8 => (intro w; go_simp; (try with_reducible rfl))
      (try simp only [Act.put, List.setIfInBounds_toArray, List.set_cons_zero, List.set_cons_succ])
      refine E_take0 hQ (fun _ => hHeld) 8 (v := ?vv9) rfl rfl (by kernel_rfl) (by kernel_rfl) (by kernel_rfl) (by decide) (by rfl) ?vy9 ?vr9
      case vy9 => (intro w; go_simp; (try with_reducible rfl))
      (try simp only [Act.put, List.setIfInBounds_toArray, List.set_cons_zero, List.set_cons_succ])
      refine E_take0 hQ (fun _ => hHeld) 9 (v := ?vv10) rfl rfl (by kernel_rfl) (by kernel_rfl) (by kernel_rfl) (by decide) (by rfl) ?vy10 ?vr10
      case vy10 => (intro w; go_simp; (try with_reducible rfl))
      (try simp only [Act.put, List.setIfInBounds_toArray, List.set_cons_zero, List.set_cons_succ])
      refine E_one 10 (by kernel_rfl) rfl (by rfl) (fun K hK => ?_)
      go_simp
      (try simp only [Act.put, List.setIfInBounds_toArray, List.set_cons_zero, List.set_cons_succ])
      refine hK.out _ _ (fun _ h => absurd rfl h) (fun _ => ?_)
      clear hK hHeld
      (try simp only [Act.put, List.setIfInBounds_toArray, List.set_cons_zero, List.set_cons_succ])
      refine E_done (by kernel_rfl) ?_ _
      refine hK'.out _ _ ?_
      have hBG : w.heap.size ≤ G := by omega
      have hO := fun k (hk : k ≠ G) => Below.heap_setCell w11 ⟨G, 0, none⟩ (.string (({ data := #[121] } : ByteArray) ++ s.name)) k hk
      have HB12 := Lib.hid (HBW.out.setCell (p := ⟨G, 0, none⟩) hBG (.string (({ data := #[121] } : ByteArray) ++ s.name)))
      have HA12 := Lib.hid ((hO _ (by omega)).trans HA11.out)
      have HG12 := Lib.hid ((hO _ hGT).trans HG11.out)
      have kG : (w11.setCell ⟨G, 0, none⟩ (.string (({ data := #[121] } : ByteArray) ++ s.name))).cell? ⟨G, 0, none⟩ = some (.string (({ data := #[121] } : ByteArray) ++ s.name)) := cell_set11 k0b
      clear p0 p1 p2 c0 c1 c2 z0b k0b kfb hO
      generalize w11.setCell ⟨G, 0, none⟩ (.string (({ data := #[121] } : ByteArray) ++ s.name)) = w12 at *
      obtain ⟨p0, p1, p2, -, -, -⟩ := cells3h HA12.out
      obtain ⟨c0, c1, c2, -, -, -⟩ := cells3h HG12.out
      have z0c := cellB HB12.out z0
      have z3c := cellB HB12.out z3
      have zsc := cellB HB12.out zs
      go_wp2_with fail
      refine E_region (S := (fun W => W.cell? ⟨w.heap.size, 2, none⟩ = some (.slice (some ⟨g, off, none⟩) a.steps.length sc) ∧ W.cell? ⟨g, off + 3, none⟩ = some (.slice (some ⟨ga, offa, none⟩) s.after.length ac) ∧ W.cell? ⟨ga, offa, none⟩ = some (.string a0) ∧ W.cell? ⟨g, off, none⟩ = some (.string s.name) ∧ W.cell? ⟨T, 2, none⟩ = some (.slice (some ⟨G, 0, none⟩) a.steps.length vc) ∧ W.cell? ⟨G, 0, none⟩ = some (.string (({ data := #[121] } : ByteArray) ++ s.name)))) 22 (by kernel_rfl) ⟨p2, z3c, zsc, z0c, c2, kG⟩ (fun _ _ _ _ _ h => h) (fun Q' hQ hK' hHeld => ?_)
      refine E_take0 hQ (fun _ => hHeld) 0 (v := ?xv1) rfl rfl (by kernel_rfl) (by kernel_rfl) (by kernel_rfl) (by decide) (by rfl) ?xy1 ?xr1
      case xy1 => (intro w; go_simp; (try with_reducible rfl))
      (try simp only [Act.put, List.setIfInBounds_toArray, List.set_cons_zero, List.set_cons_succ])
      refine E_takeP hQ hHeld [9, 8, 6, 5, 4, 3, 2] 1 (v := ?xv2) rfl rfl (by kernel_rfl) (by kernel_rfl) (by kernel_rfl) (by kernel_rfl) (by kernel_rfl) (by rfl) ?xy2 ?xr2
      case xy2 => (intro w hSw; (try dsimp only at hSw); go_simp; (try with_reducible rfl))
      (try simp only [Act.put, List.setIfInBounds_toArray, List.set_cons_zero, List.set_cons_succ])
      refine E_take0 hQ (fun _ => hHeld) 2 (v := ?xv3) rfl rfl (by kernel_rfl) (by kernel_rfl) (by kernel_rfl) (by decide) (by rfl) ?xy3 ?xr3
      case xy3 => (intro w; go_simp; (try with_reducible rfl))
      (try simp only [Act.put, List.setIfInBounds_toArray, List.set_cons_zero, List.set_cons_succ])
      refine E_take0 hQ (fun _ => hHeld) 3 (v := ?xv4) rfl rfl (by kernel_rfl) (by kernel_rfl) (by kernel_rfl) (by decide) (by rfl) ?xy4 ?xr4
      case xy4 => (intro w; go_simp; (try with_reducible rfl))
      (try simp only [Act.put, List.setIfInBounds_toArray, List.set_cons_zero, List.set_cons_succ])
      refine E_take hQ hHeld 4 (v := ?xv5) rfl rfl (by kernel_rfl) (by kernel_rfl) (by kernel_rfl) (by kernel_rfl) (by kernel_rfl) (by rfl) ?xy5 ?xr5
      case xy5 => (intro w hSw; (try dsimp only at hSw); go_simp; (try with_reducible rfl))
      (try simp only [Act.put, List.setIfInBounds_toArray, List.set_cons_zero, List.set_cons_succ])
      refine E_take0 hQ (fun _ => hHeld) 5 (v := ?xv6) rfl rfl (by kernel_rfl) (by kernel_rfl) (by kernel_rfl) (by decide) (by rfl) ?xy6 ?xr6
      case xy6 => (intro w; go_simp; (try with_reducible rfl))
      (try simp only [Act.put, List.setIfInBounds_toArray, List.set_cons_zero, List.set_cons_succ])
      refine E_take hQ hHeld 6 (v := ?xv7) rfl rfl (by kernel_rfl) (by kernel_rfl) (by kernel_rfl) (by kernel_rfl) (by kernel_rfl) (by rfl) ?xy7 ?xr7
      case xy7 => (intro w hSw; (try dsimp only at hSw); go_simp; (try with_reducible rfl))
      (try simp only [Act.put, List.setIfInBounds_toArray, List.set_cons_zero, List.set_cons_succ])
      refine E_take0 hQ (fun _ => hHeld) 7 (v := ?xv8) rfl rfl (by kernel_rfl) (by kernel_rfl) (by kernel_rfl) (by decide) (by rfl) ?xy8 ?xr8
      case xy8 => (intro w; go_simp; (try with_reducible rfl))
      (try simp only [Act.put, List.setIfInBounds_toArray, List.set_cons_zero, List.set_cons_succ])
      refine E_take0 hQ (fun _ => hHeld) 8 (v := ?xv9) rfl rfl (by kernel_rfl) (by kernel_rfl) (by kernel_rfl) (by decide) (by rfl) ?xy9 ?xr9
      case xy9 => (intro w; go_simp; (try with_reducible rfl))
      (try simp only [Act.put, List.setIfInBounds_toArray, List.set_cons_zero, List.set_cons_succ])
      refine E_take0 hQ (fun _ => hHeld) 9 (v := ?xv10) rfl rfl (by kernel_rfl) (by kernel_rfl) (by kernel_rfl) (by decide) (by rfl) ?xy10 ?xr10
      case xy10 => (intro w; go_simp; (try with_reducible rfl))
      (try simp only [Act.put, List.setIfInBounds_toArray, List.set_cons_zero, List.set_cons_succ])
      refine E_take0 hQ (fun _ => hHeld) 10 (v := ?xv11) rfl rfl (by kernel_rfl) (by kernel_rfl) (by kernel_rfl) (by decide) (by rfl) ?xy11 ?xr11
      case xy11 => (intro w; go_simp; (try with_reducible rfl))
      (try simp only [Act.put, List.setIfInBounds_toArray, List.set_cons_zero, List.set_cons_succ])
      refine E_take hQ hHeld 11 (v := ?xv12) rfl rfl (by kernel_rfl) (by kernel_rfl) (by kernel_rfl) (by kernel_rfl) (by kernel_rfl) (by rfl) ?xy12 ?xr12
      case xy12 => (intro w hSw; (try dsimp only at hSw); go_simp; (try with_reducible rfl))
      (try simp only [Act.put, List.setIfInBounds_toArray, List.set_cons_zero, List.set_cons_succ])
      refine E_take0 hQ (fun _ => hHeld) 12 (v := ?xv13) rfl rfl (by kernel_rfl) (by kernel_rfl) (by kernel_rfl) (by decide) (by rfl) ?xy13 ?xr13
      case xy13 => (intro w; go_simp; (try with_reducible rfl))
      (try simp only [Act.put, List.setIfInBounds_toArray, List.set_cons_zero, List.set_cons_succ])
      refine E_take0 hQ (fun _ => hHeld) 13 (v := ?xv14) rfl rfl (by kernel_rfl) (by kernel_rfl) (by kernel_rfl) (by decide) (by rfl) ?xy14 ?xr14
      case xy14 => (intro w; go_simp; (try with_reducible rfl))
      (try simp only [Act.put, List.setIfInBounds_toArray, List.set_cons_zero, List.set_cons_succ])
      refine E_take hQ hHeld 14 (v := ?xv15) rfl rfl (by kernel_rfl) (by kernel_rfl) (by kernel_rfl) (by kernel_rfl) (by kernel_rfl) (by rfl) ?xy15 ?xr15
      case xy15 => (intro w hSw; (try dsimp only at hSw); go_simp; (try with_reducible rfl))
      (try simp only [Act.put, List.setIfInBounds_toArray, List.set_cons_zero, List.set_cons_succ])
      refine E_take0 hQ (fun _ => hHeld) 15 (v := ?xv16) rfl rfl (by kernel_rfl) (by kernel_rfl) (by kernel_rfl) (by decide) (by rfl) ?xy16 ?xr16
      case xy16 => (intro w; go_simp; (try with_reducible rfl))
      (try simp only [Act.put, List.setIfInBounds_toArray, List.set_cons_zero, List.set_cons_succ])
      refine E_take hQ hHeld 16 (v := ?xv17) rfl rfl (by kernel_rfl) (by kernel_rfl) (by kernel_rfl) (by kernel_rfl) (by kernel_rfl) (by rfl) ?xy17 ?xr17
      case xy17 => (intro w hSw; (try dsimp only at hSw); go_simp; (try with_reducible rfl))
      (try simp only [Act.put, List.setIfInBounds_toArray, List.set_cons_zero, List.set_cons_succ])
      refine E_take0 hQ (fun _ => hHeld) 17 (v := ?xv18) rfl rfl (by kernel_rfl) (by kernel_rfl) (by kernel_rfl) (by decide) (by rfl) ?xy18 ?xr18
      case xy18 => (intro w; go_simp; (try with_reducible rfl))
      (try simp only [Act.put, List.setIfInBounds_toArray, List.set_cons_zero, List.set_cons_succ])
      refine E_take0 hQ (fun _ => hHeld) 18 (v := ?xv19) rfl rfl (by kernel_rfl) (by kernel_rfl) (by kernel_rfl) (by decide) (by rfl) ?xy19 ?xr19
      case xy19 => (intro w; go_simp; (try with_reducible rfl))
      (try simp only [Act.put, List.setIfInBounds_toArray, List.set_cons_zero, List.set_cons_succ])
      refine E_take hQ hHeld 19 (v := ?xv20) rfl rfl (by kernel_rfl) (by kernel_rfl) (by kernel_rfl) (by kernel_rfl) (by kernel_rfl) (by rfl) ?xy20 ?xr20
      case xy20 => (intro w hSw; (try dsimp only at hSw); go_simp; (try with_reducible rfl))
      (try simp only [Act.put, List.setIfInBounds_toArray, List.set_cons_zero, List.set_cons_succ])
      refine E_take0 hQ (fun _ => hHeld) 20 (v := ?xv21) rfl rfl (by kernel_rfl) (by kernel_rfl) (by kernel_rfl) (by decide) (by rfl) ?xy21 ?xr21
      case xy21 => (intro w; go_simp; (try with_reducible rfl))
      (try simp only [Act.put, List.setIfInBounds_toArray, List.set_cons_zero, List.set_cons_succ])
      refine E_take0 hQ (fun _ => hHeld) 21 (v := ?xv22) rfl rfl (by kernel_rfl) (by kernel_rfl) (by kernel_rfl) (by decide) (by rfl) ?xy22 ?xr22
      case xy22 => (intro w; go_simp; (try with_reducible rfl))
      (try simp only [Act.put, List.setIfInBounds_toArray, List.set_cons_zero, List.set_cons_succ])
      refine E_one 22 (by kernel_rfl) rfl (by rfl) (fun K hK => ?_)
      go_simp
      (try simp only [Act.put, List.setIfInBounds_toArray, List.set_cons_zero, List.set_cons_succ])
      refine hK.out _ _ (fun _ h => absurd rfl h) (fun _ => ?_)
      clear hK hHeld
      (try simp only [Act.put, List.setIfInBounds_toArray, List.set_cons_zero, List.set_cons_succ])
      refine E_done (by kernel_rfl) ?_ _
      refine hK'.out _ _ ?_
      go_wp2
      go_ret
      exact ⟨rfl, HB12.out.drew.drew⟩
end Go.Proofs.Ytlakmfhpinljjaa
