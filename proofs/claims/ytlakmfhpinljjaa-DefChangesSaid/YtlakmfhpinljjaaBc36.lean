/-
  The law DefChanges: walk.
-/
import Derived.Test.YtlakmfhpinljjaaBc28
import Derived.Test.YtlakmfhpinljjaaBc34
import Derived.Test.YtlakmfhpinljjaaBc35
namespace Go.Proofs.Ytlakmfhpinljjaa
open Go Go.RowKit Go.WideShapes

theorem c_texts (l : List ByteArray) (v u : Value) (w : World) (hv : RdS w v 1 l.length (strsV l)) (hu : RdS w u 1 l.length (strsV l)) :
    Calls Try.prog 31 #[v, u] w fun e w' => e = .returned (.bool true) ∧ Below w.heap.size w w' := by
  have := Texts_any l l v u w hv hu
  rw [decide_eq_true rfl] at this
  exact this
theorem c_chg {a b : DefD} {n : Nat} (hn : (changesD a b).length = n) {ca cb : List Value} {sa sb : Option Addr} {sc sd : Nat} {w : World} (h : DefR w ca a sa sc) (h' : DefR w cb b sb sd) (hla : a.steps.length ≤ 30) (hlb : b.steps.length ≤ 30) :
    Calls Try.prog 30 #[.agg ca.toArray, .agg cb.toArray] w fun e w' => ∃ va vc, e = .returned (.slice va n vc) ∧ Below w.heap.size w w' := by
  refine (dChanges_any a b ca cb sa sb sc sd w h h' hla hlb).mono ?_
  rintro e w' ⟨v, rfl, hr, hb⟩
  obtain ⟨va, vc, rfl⟩ := hr.form
  exact ⟨va, vc, by rw [hn], hb⟩

set_option maxRecDepth 100000 in
set_option maxHeartbeats 8000000 in
theorem DefChanges_any (a : DefD) (sa : Option Addr) (sc : Nat) (b : DefD) (sb : Option Addr) (sd : Nat) (w : World) (h : DefR w [.string a.name, .string a.text, .slice sa a.steps.length sc] a sa sc) (h' : DefR w [.string b.name, .string b.text, .slice sb b.steps.length sd] b sb sd) :
    Calls Try.prog 7 #[.agg #[.string a.name, .string a.text, .slice sa a.steps.length sc], .agg #[.string b.name, .string b.text, .slice sb b.steps.length sd]] w fun e w' => e = .returned (.bool true) ∧ Below w.heap.size w w' := by
  have hb0 : Below w.heap.size w ((w.alloc (.cells #[.string a.name, .string a.text, .slice sa a.steps.length sc] 24)).alloc (.cells #[.string b.name, .string b.text, .slice sb b.steps.length sd] 24)) := ((Below.refl _ w).alloc (Nat.le_refl _) _).alloc (by simp) _
  have HD0 := Lib.hid (h.below hb0)
  have HF0 := Lib.hid (h'.below hb0)
  have hg1 : ((w.alloc (.cells #[.string a.name, .string a.text, .slice sa a.steps.length sc] 24)).alloc (.cells #[.string b.name, .string b.text, .slice sb b.steps.length sd] 24)).heap[w.heap.size]? = some (.cells #[.string a.name, .string a.text, .slice sa a.steps.length sc] 24 (0, 0)) := (Below.heap_alloc _ _ _ (by simp)).trans (World.alloc_heap_new w _)
  have hg2 : ((w.alloc (.cells #[.string a.name, .string a.text, .slice sa a.steps.length sc] 24)).alloc (.cells #[.string b.name, .string b.text, .slice sb b.steps.length sd] 24)).heap[w.heap.size + 1]? = some (.cells #[.string b.name, .string b.text, .slice sb b.steps.length sd] 24 (0, 0)) := by
    have := World.alloc_heap_new (w.alloc (.cells #[.string a.name, .string a.text, .slice sa a.steps.length sc] 24)) (.cells #[.string b.name, .string b.text, .slice sb b.steps.length sd] 24)
    rwa [World.size_alloc] at this
  clear h h'
  go_enter Try.func7, Try.ntmps7
  go_upto_region 1 with fail
  generalize ((w.alloc (.cells #[.string a.name, .string a.text, .slice sa a.steps.length sc] 24)).alloc (.cells #[.string b.name, .string b.text, .slice sb b.steps.length sd] 24)) = w0 at *
  have HB0 := Lib.hid hb0
  have HA0 := Lib.hid hg1
  have HE0 := Lib.hid hg2
  clear hb0 hg1 hg2
  go_wp2_with fail
  refine (live21_any _).mono ?_
  rintro e w1 ⟨rfl, hb1⟩
  have HB1 := Lib.hid (bthen HB0.out (Nat.le_refl _) hb1)
  have HA1 := Lib.hid ((hb1.block _ (Array.getElem?_eq_some_iff.1 HA0.out).1).trans HA0.out)
  have HE1 := Lib.hid ((hb1.block _ (Array.getElem?_eq_some_iff.1 HE0.out).1).trans HE0.out)
  have HD1 := Lib.hid (HD0.out.below hb1)
  have HF1 := Lib.hid (HF0.out.below hb1)
  clear hb1
  obtain ⟨p0, p1, p2, -, -, -⟩ := cells3h HA1.out
  obtain ⟨r0, r1, r2, -, -, -⟩ := cells3h HE1.out
  go_wp2_with fail
  refine (rdSmall_any a _ _ _ w1 HD1.out).mono ?_
  rintro e w2 ⟨rfl, hb2⟩
  clear p0 p1 p2 r0 r1 r2
  have HB2 := Lib.hid (bthen HB1.out (Nat.le_refl _) hb2)
  have HA2 := Lib.hid ((hb2.block _ (Array.getElem?_eq_some_iff.1 HA1.out).1).trans HA1.out)
  have HE2 := Lib.hid ((hb2.block _ (Array.getElem?_eq_some_iff.1 HE1.out).1).trans HE1.out)
  have HD2 := Lib.hid (HD1.out.below hb2)
  have HF2 := Lib.hid (HF1.out.below hb2)
  clear hb2
  obtain ⟨p0, p1, p2, -, -, -⟩ := cells3h HA2.out
  obtain ⟨r0, r1, r2, -, -, -⟩ := cells3h HE2.out
  rcases hsm : smallDef a with _ | _
  · clear hsm
    go_wp2
    go_ret
    exact ⟨rfl, HB2.out⟩
  have HSA := Lib.hid (smallDef_of hsm)
  clear hsm
  go_wp2_with fail
  refine (rdSmall_any b _ _ _ w2 HF2.out).mono ?_
  rintro e w3 ⟨rfl, hb3⟩
  clear p0 p1 p2 r0 r1 r2
  have HB3 := Lib.hid (bthen HB2.out (Nat.le_refl _) hb3)
  have HA3 := Lib.hid ((hb3.block _ (Array.getElem?_eq_some_iff.1 HA2.out).1).trans HA2.out)
  have HE3 := Lib.hid ((hb3.block _ (Array.getElem?_eq_some_iff.1 HE2.out).1).trans HE2.out)
  have HD3 := Lib.hid (HD2.out.below hb3)
  have HF3 := Lib.hid (HF2.out.below hb3)
  clear hb3
  obtain ⟨p0, p1, p2, -, -, -⟩ := cells3h HA3.out
  obtain ⟨r0, r1, r2, -, -, -⟩ := cells3h HE3.out
  rcases hsm : smallDef b with _ | _
  · clear hsm
    go_wp2
    go_ret
    exact ⟨rfl, HB3.out⟩
  have HSB := Lib.hid (smallDef_of hsm)
  clear hsm
  go_wp2_with fail
  refine (dChanges_any a b _ _ _ _ _ _ w3 HD3.out HF3.out HSA.out.steps HSB.out.steps).mono ?_
  rintro e w4 ⟨v, rfl, hr, hb4⟩
  obtain ⟨va, vc, rfl⟩ := hr.form
  have HR := Lib.hid hr
  clear hr
  clear p0 p1 p2 r0 r1 r2
  have HB4 := Lib.hid (bthen HB3.out (Nat.le_refl _) hb4)
  have HA4 := Lib.hid ((hb4.block _ (Array.getElem?_eq_some_iff.1 HA3.out).1).trans HA3.out)
  have HE4 := Lib.hid ((hb4.block _ (Array.getElem?_eq_some_iff.1 HE3.out).1).trans HE3.out)
  have HD4 := Lib.hid (HD3.out.below hb4)
  have HF4 := Lib.hid (HF3.out.below hb4)
  clear hb4
  obtain ⟨p0, p1, p2, -, -, -⟩ := cells3h HA4.out
  obtain ⟨r0, r1, r2, -, -, -⟩ := cells3h HE4.out
  have hN0 : (((changesD a b).length : Int) == 0) = sameD a b := by
    rw [Bool.eq_iff_iff, ← changesD_nil]
    simp
  have HSY := Lib.hid (changesD_symm a b)
  have HAA : Hid ((changesD a a).length = 0) := Lib.hid (by rw [(changesD_nil a a).2 (sameD_refl a)]; rfl)
  generalize hsbe : sameD a b = sbv at *
  have HSBE := Lib.hid hsbe
  clear hsbe
  go_wp2_with fail
  have HZ0 : Hid (Below w4.heap.size w4 w4.drew) := Lib.hid ((Below.refl _ _).drew)
  refine E_region (S := (fun W => W.cell? ⟨w.heap.size, 0, none⟩ = some (.string a.name) ∧ W.cell? ⟨w.heap.size, 1, none⟩ = some (.string a.text) ∧ W.cell? ⟨w.heap.size, 2, none⟩ = some (.slice sa a.steps.length sc) ∧ W.cell? ⟨w.heap.size + 1, 0, none⟩ = some (.string b.name) ∧ W.cell? ⟨w.heap.size + 1, 1, none⟩ = some (.string b.text) ∧ W.cell? ⟨w.heap.size + 1, 2, none⟩ = some (.slice sb b.steps.length sd))) 27 (by kernel_rfl) ⟨p0, p1, p2, r0, r1, r2⟩ (fun _ _ _ _ _ h => h) (fun Q' hQ hK' hHeld => ?_)
  refine E_take0 hQ (fun _ => hHeld) 0 (v := ?zv1) rfl rfl (by kernel_rfl) (by kernel_rfl) (by kernel_rfl) (by decide) (by rfl) ?zy1 ?zr1
  case zy1 => (intro w; go_simp; (try with_reducible rfl))
  (try simp only [Act.put, List.setIfInBounds_toArray, List.set_cons_zero, List.set_cons_succ])
  refine E_takeP hQ hHeld [23, 17, 14, 11, 5, 4, 3] 1 (v := ?zv2) rfl rfl (by kernel_rfl) (by kernel_rfl) (by kernel_rfl) (by kernel_rfl) (by kernel_rfl) (by rfl) ?zy2 ?zr2
  case zy2 => (intro w hSw; (try dsimp only at hSw); go_simp; (try with_reducible rfl))
  (try simp only [Act.put, List.setIfInBounds_toArray, List.set_cons_zero, List.set_cons_succ])
  refine E_takeP hQ hHeld [23, 17, 14, 11, 5, 4, 3] 2 (v := ?zv3) rfl rfl (by kernel_rfl) (by kernel_rfl) (by kernel_rfl) (by kernel_rfl) (by kernel_rfl) (by rfl) ?zy3 ?zr3
  case zy3 => (intro w hSw; (try dsimp only at hSw); go_simp; (try with_reducible rfl))
  (try simp only [Act.put, List.setIfInBounds_toArray, List.set_cons_zero, List.set_cons_succ])
  refine E_one 3 (by kernel_rfl) rfl (by rfl) (fun K hK => ?_)
  go_simp
  refine (rdChanges_any a b _ _ _ _ _ _ _ (HD4.out.below HZ0.out) (HF4.out.below HZ0.out) HSA.out.steps HSB.out.steps).mono ?_
  rintro e V3 ⟨v3, rfl, hr, hb⟩
  have HY3 := Lib.hid hb
  have HZ3 : Hid (Below w4.heap.size w4 V3) := Lib.hid (bthen HZ0.out (Nat.le_refl _) hb)
  clear hb
  have HR3 := Lib.hid hr
  clear hr
  (try simp only [Act.put, List.setIfInBounds_toArray, List.set_cons_zero, List.set_cons_succ])
  refine hK.out _ _ (fun _ _ => ⟨cellB HY3.out hHeld.1, cellB HY3.out hHeld.2.1, cellB HY3.out hHeld.2.2.1, cellB HY3.out hHeld.2.2.2.1, cellB HY3.out hHeld.2.2.2.2.1, cellB HY3.out hHeld.2.2.2.2.2⟩) (fun hHeld' => ?_)
  replace hHeld := hHeld' (by rfl) (by decide)
  clear hK hHeld'
  (try simp only [Act.put, List.setIfInBounds_toArray, List.set_cons_zero, List.set_cons_succ])
  refine E_one 4 (by kernel_rfl) rfl (by rfl) (fun K hK => ?_)
  go_simp
  refine (c_texts _ _ _ _ (HR.out.below HZ3.out) HR3.out).mono ?_
  rintro e V4 ⟨rfl, hb⟩
  have HY4 := Lib.hid hb
  have HZ4 : Hid (Below w4.heap.size w4 V4) := Lib.hid (bthen HZ3.out (Nat.le_refl _) hb)
  clear hb
  (try simp only [Act.put, List.setIfInBounds_toArray, List.set_cons_zero, List.set_cons_succ])
  refine hK.out _ _ (fun _ _ => ⟨cellB HY4.out hHeld.1, cellB HY4.out hHeld.2.1, cellB HY4.out hHeld.2.2.1, cellB HY4.out hHeld.2.2.2.1, cellB HY4.out hHeld.2.2.2.2.1, cellB HY4.out hHeld.2.2.2.2.2⟩) (fun hHeld' => ?_)
  replace hHeld := hHeld' (by rfl) (by decide)
  clear hK hHeld'
  (try simp only [Act.put, List.setIfInBounds_toArray, List.set_cons_zero, List.set_cons_succ])
  refine E_take0 hQ (fun _ => hHeld) 5 (v := ?zv4) rfl rfl (by kernel_rfl) (by kernel_rfl) (by kernel_rfl) (by decide) (by rfl) ?zy4 ?zr4
  case zy4 => (intro w; go_simp; (try with_reducible rfl))
  (try simp only [Act.put, List.setIfInBounds_toArray, List.set_cons_zero, List.set_cons_succ])
  refine E_take0 hQ (fun _ => hHeld) 6 (v := ?zv5) rfl rfl (by kernel_rfl) (by kernel_rfl) (by kernel_rfl) (by decide) (by rfl) ?zy5 ?zr5
  case zy5 => (intro w; go_simp; (try with_reducible rfl))
  (try simp only [Act.put, List.setIfInBounds_toArray, List.set_cons_zero, List.set_cons_succ])
  refine E_take0 hQ (fun _ => hHeld) 7 (v := ?zv6) rfl rfl (by kernel_rfl) (by kernel_rfl) (by kernel_rfl) (by decide) (by rfl) ?zy6 ?zr6
  case zy6 => (intro w; go_simp; (try with_reducible rfl))
  (try simp only [Act.put, List.setIfInBounds_toArray, List.set_cons_zero, List.set_cons_succ])
  refine E_take0 hQ (fun _ => hHeld) 8 (v := ?zv7) rfl rfl (by kernel_rfl) (by kernel_rfl) (by kernel_rfl) (by decide) (by rfl) ?zy7 ?zr7
  case zy7 => (intro w; go_simp; (try with_reducible rfl))
  (try simp only [Act.put, List.setIfInBounds_toArray, List.set_cons_zero, List.set_cons_succ])
  refine E_take hQ hHeld 9 (v := ?zv8) rfl rfl (by kernel_rfl) (by kernel_rfl) (by kernel_rfl) (by kernel_rfl) (by kernel_rfl) (by rfl) ?zy8 ?zr8
  case zy8 => (intro w hSw; (try dsimp only at hSw); go_simp; (try with_reducible rfl))
  (try simp only [Act.put, List.setIfInBounds_toArray, List.set_cons_zero, List.set_cons_succ])
  refine E_take hQ hHeld 10 (v := ?zv9) rfl rfl (by kernel_rfl) (by kernel_rfl) (by kernel_rfl) (by kernel_rfl) (by kernel_rfl) (by rfl) ?zy9 ?zr9
  case zy9 => (intro w hSw; (try dsimp only at hSw); go_simp; (try with_reducible rfl))
  (try simp only [Act.put, List.setIfInBounds_toArray, List.set_cons_zero, List.set_cons_succ])
  refine E_one 11 (by kernel_rfl) rfl (by rfl) (fun K hK => ?_)
  go_simp
  refine (dSame_any a b _ _ _ _ _ _ _ (HD4.out.below HZ4.out) (HF4.out.below HZ4.out)).mono ?_
  rintro e V11 ⟨rfl, hb⟩
  have HY11 := Lib.hid hb
  have HZ11 : Hid (Below w4.heap.size w4 V11) := Lib.hid (bthen HZ4.out (Nat.le_refl _) hb)
  clear hb
  rw [HSBE.out]
  (try simp only [Act.put, List.setIfInBounds_toArray, List.set_cons_zero, List.set_cons_succ])
  refine hK.out _ _ (fun _ _ => ⟨cellB HY11.out hHeld.1, cellB HY11.out hHeld.2.1, cellB HY11.out hHeld.2.2.1, cellB HY11.out hHeld.2.2.2.1, cellB HY11.out hHeld.2.2.2.2.1, cellB HY11.out hHeld.2.2.2.2.2⟩) (fun hHeld' => ?_)
  replace hHeld := hHeld' (by rfl) (by decide)
  clear hK hHeld'
  (try simp only [Act.put, List.setIfInBounds_toArray, List.set_cons_zero, List.set_cons_succ])
  refine E_take0 hQ (fun _ => hHeld) 12 (v := ?zv10) rfl rfl (by kernel_rfl) (by kernel_rfl) (by kernel_rfl) (by decide) (by rfl) ?zy10 ?zr10
  case zy10 => (intro w; go_simp; (try with_reducible rfl))
  (try simp only [Act.put, List.setIfInBounds_toArray, List.set_cons_zero, List.set_cons_succ])
  refine E_take0 hQ (fun _ => hHeld) 13 (v := ?zv11) rfl rfl (by kernel_rfl) (by kernel_rfl) (by kernel_rfl) (by decide) (by rfl) ?zy11 ?zr11
  case zy11 => (intro w; go_simp; (try with_reducible rfl))
  (try simp only [Act.put, List.setIfInBounds_toArray, List.set_cons_zero, List.set_cons_succ])
  refine E_take0 hQ (fun _ => hHeld) 14 (v := ?zv12) rfl rfl (by kernel_rfl) (by kernel_rfl) (by kernel_rfl) (by decide) (by rfl) ?zy12 ?zr12
  case zy12 => (intro w; go_simp; (try with_reducible rfl))
  (try simp only [Act.put, List.setIfInBounds_toArray, List.set_cons_zero, List.set_cons_succ])
  refine E_take hQ hHeld 15 (v := ?zv13) rfl rfl (by kernel_rfl) (by kernel_rfl) (by kernel_rfl) (by kernel_rfl) (by kernel_rfl) (by rfl) ?zy13 ?zr13
  case zy13 => (intro w hSw; (try dsimp only at hSw); go_simp; (try with_reducible rfl))
  (try simp only [Act.put, List.setIfInBounds_toArray, List.set_cons_zero, List.set_cons_succ])
  refine E_take hQ hHeld 16 (v := ?zv14) rfl rfl (by kernel_rfl) (by kernel_rfl) (by kernel_rfl) (by kernel_rfl) (by kernel_rfl) (by rfl) ?zy14 ?zr14
  case zy14 => (intro w hSw; (try dsimp only at hSw); go_simp; (try with_reducible rfl))
  (try simp only [Act.put, List.setIfInBounds_toArray, List.set_cons_zero, List.set_cons_succ])
  refine E_take0 hQ (fun _ => hHeld) 19 (v := ?zv15) rfl rfl (by kernel_rfl) (by kernel_rfl) (by kernel_rfl) (by decide) (by rfl) ?zy15 ?zr15
  case zy15 => (intro w; go_simp; (try with_reducible rfl))
  (try simp only [Act.put, List.setIfInBounds_toArray, List.set_cons_zero, List.set_cons_succ])
  refine E_take0 hQ (fun _ => hHeld) 20 (v := ?zv16) rfl rfl (by kernel_rfl) (by kernel_rfl) (by kernel_rfl) (by decide) (by rfl) ?zy16 ?zr16
  case zy16 => (intro w; go_simp; (try with_reducible rfl))
  (try simp only [Act.put, List.setIfInBounds_toArray, List.set_cons_zero, List.set_cons_succ])
  refine E_one 17 (by kernel_rfl) rfl (by rfl) (fun K hK => ?_)
  go_simp
  refine (c_chg HSY.out (HF4.out.below HZ11.out) (HD4.out.below HZ11.out) HSB.out.steps HSA.out.steps).mono ?_
  rintro e V17 ⟨va7, vc7, rfl, hb⟩
  have HY17 := Lib.hid hb
  have HZ17 : Hid (Below w4.heap.size w4 V17) := Lib.hid (bthen HZ11.out (Nat.le_refl _) hb)
  clear hb
  (try simp only [Act.put, List.setIfInBounds_toArray, List.set_cons_zero, List.set_cons_succ])
  refine hK.out _ _ (fun _ _ => ⟨cellB HY17.out hHeld.1, cellB HY17.out hHeld.2.1, cellB HY17.out hHeld.2.2.1, cellB HY17.out hHeld.2.2.2.1, cellB HY17.out hHeld.2.2.2.2.1, cellB HY17.out hHeld.2.2.2.2.2⟩) (fun hHeld' => ?_)
  replace hHeld := hHeld' (by rfl) (by decide)
  clear hK hHeld'
  (try simp only [Act.put, List.setIfInBounds_toArray, List.set_cons_zero, List.set_cons_succ])
  refine E_take0 hQ (fun _ => hHeld) 18 (v := ?zv17) rfl rfl (by kernel_rfl) (by kernel_rfl) (by kernel_rfl) (by decide) (by rfl) ?zy17 ?zr17
  case zy17 => (intro w; go_simp; (try with_reducible rfl))
  (try simp only [Act.put, List.setIfInBounds_toArray, List.set_cons_zero, List.set_cons_succ])
  refine E_take0 hQ (fun _ => hHeld) 21 (v := ?zv18) rfl rfl (by kernel_rfl) (by kernel_rfl) (by kernel_rfl) (by decide) (by rfl) ?zy18 ?zr18
  case zy18 => (intro w; go_simp; (try with_reducible rfl))
  (try simp only [Act.put, List.setIfInBounds_toArray, List.set_cons_zero, List.set_cons_succ])
  refine E_take0 hQ (fun _ => hHeld) 22 (v := ?zv19) rfl rfl (by kernel_rfl) (by kernel_rfl) (by kernel_rfl) (by decide) (by rfl) ?zy19 ?zr19
  case zy19 => (intro w; go_simp; (try with_reducible rfl))
  (try simp only [Act.put, List.setIfInBounds_toArray, List.set_cons_zero, List.set_cons_succ])
  refine E_take0 hQ (fun _ => hHeld) 23 (v := ?zv20) rfl rfl (by kernel_rfl) (by kernel_rfl) (by kernel_rfl) (by decide) (by rfl) ?zy20 ?zr20
  case zy20 => (intro w; go_simp; (try with_reducible rfl))
  (try simp only [Act.put, List.setIfInBounds_toArray, List.set_cons_zero, List.set_cons_succ])
  refine E_take hQ hHeld 24 (v := ?zv21) rfl rfl (by kernel_rfl) (by kernel_rfl) (by kernel_rfl) (by kernel_rfl) (by kernel_rfl) (by rfl) ?zy21 ?zr21
  case zy21 => (intro w hSw; (try dsimp only at hSw); go_simp; (try with_reducible rfl))
  (try simp only [Act.put, List.setIfInBounds_toArray, List.set_cons_zero, List.set_cons_succ])
  refine E_take hQ hHeld 25 (v := ?zv22) rfl rfl (by kernel_rfl) (by kernel_rfl) (by kernel_rfl) (by kernel_rfl) (by kernel_rfl) (by rfl) ?zy22 ?zr22
  case zy22 => (intro w hSw; (try dsimp only at hSw); go_simp; (try with_reducible rfl))
  (try simp only [Act.put, List.setIfInBounds_toArray, List.set_cons_zero, List.set_cons_succ])
  refine E_one 26 (by kernel_rfl) rfl (by rfl) (fun K hK => ?_)
  go_simp
  refine (dCopy_any a _ _ _ _ (HD4.out.below HZ17.out) HSA.out).mono ?_
  rintro e V26 ⟨va5, vc5, rows, rfl, hr1, hr2, hr3, hb⟩
  have HY26 := Lib.hid hb
  have HZ26 : Hid (Below w4.heap.size w4 V26) := Lib.hid (bthen HZ17.out (Nat.le_refl _) hb)
  clear hb
  have HCR := Lib.hid (copy_R HD4.out.name HD4.out.text hr1 hr2 hr3)
  clear hr1 hr2 hr3
  (try simp only [Act.put, List.setIfInBounds_toArray, List.set_cons_zero, List.set_cons_succ])
  refine hK.out _ _ (fun _ _ => ⟨cellB HY26.out hHeld.1, cellB HY26.out hHeld.2.1, cellB HY26.out hHeld.2.2.1, cellB HY26.out hHeld.2.2.2.1, cellB HY26.out hHeld.2.2.2.2.1, cellB HY26.out hHeld.2.2.2.2.2⟩) (fun hHeld' => ?_)
  replace hHeld := hHeld' (by rfl) (by decide)
  clear hK hHeld'
  (try simp only [Act.put, List.setIfInBounds_toArray, List.set_cons_zero, List.set_cons_succ])
  refine E_one 27 (by kernel_rfl) rfl (by rfl) (fun K hK => ?_)
  go_simp
  refine (c_chg HAA.out (HD4.out.below HZ26.out) HCR.out HSA.out.steps HSA.out.steps).mono ?_
  rintro e V27 ⟨va6, vc6, rfl, hb⟩
  have HY27 := Lib.hid hb
  have HZ27 : Hid (Below w4.heap.size w4 V27) := Lib.hid (bthen HZ26.out (Nat.le_refl _) hb)
  clear hb
  (try simp only [Act.put, List.setIfInBounds_toArray, List.set_cons_zero, List.set_cons_succ])
  refine hK.out _ _ (fun _ h => absurd rfl h) (fun _ => ?_)
  clear hK hHeld
  (try simp only [Act.put, List.setIfInBounds_toArray, List.set_cons_zero, List.set_cons_succ])
  refine E_take0 hQ (fun h => absurd h (by decide)) 28 (v := ?zv23) rfl rfl (by kernel_rfl) (by kernel_rfl) (by kernel_rfl) (by decide) (by rfl) ?zy23 ?zr23
  case zy23 => (intro w; go_simp; (try with_reducible rfl))
  (try simp only [Act.put, List.setIfInBounds_toArray, List.set_cons_zero, List.set_cons_succ])
  refine E_take0 hQ (fun h => absurd h (by decide)) 29 (v := ?zv24) rfl rfl (by kernel_rfl) (by kernel_rfl) (by kernel_rfl) (by decide) (by rfl) ?zy24 ?zr24
  case zy24 => (intro w; go_simp; (try with_reducible rfl))
  (try simp only [Act.put, List.setIfInBounds_toArray, List.set_cons_zero, List.set_cons_succ])
  refine E_take0 hQ (fun h => absurd h (by decide)) 30 (v := ?zv25) rfl rfl (by kernel_rfl) (by kernel_rfl) (by kernel_rfl) (by decide) (by rfl) ?zy25 ?zr25
  case zy25 => (intro w; go_simp; (try with_reducible rfl))
  (try simp only [Act.put, List.setIfInBounds_toArray, List.set_cons_zero, List.set_cons_succ])
  refine E_take0 hQ (fun h => absurd h (by decide)) 31 (v := ?zv26) rfl rfl (by kernel_rfl) (by kernel_rfl) (by kernel_rfl) (by decide) (by rfl) ?zy26 ?zr26
  case zy26 => (intro w; go_simp; (try with_reducible rfl))
  (try simp only [Act.put, List.setIfInBounds_toArray, List.set_cons_zero, List.set_cons_succ])
  refine E_done (by kernel_rfl) ?_ _
  refine hK'.out _ _ ?_
  go_wp2
  go_ret
  exact ⟨rfl, bthen HB4.out (Nat.le_refl _) HZ27.out⟩
end Go.Proofs.Ytlakmfhpinljjaa
