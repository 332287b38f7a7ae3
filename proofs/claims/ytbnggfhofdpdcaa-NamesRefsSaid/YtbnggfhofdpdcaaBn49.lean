/-
  What layer 25's laws ask whatever is asked.
-/
import Derived.Test.YtbnggfhofdpdcaaBn35
import Derived.Test.YtbnggfhofdpdcaaBn46
import Derived.Test.YtbnggfhofdpdcaaBn48
namespace Go.Proofs.Ytbnggfhofdpdcaa
open Go Go.RowKit Go.WideShapes

def s25a : StepD := ⟨{ data := #[97] }, { data := #[120] }, { data := #[] }, [], 0, 0, 0, 0, .mk 0 { data := #[] } [] [] 0⟩
def s25b : StepD := ⟨{ data := #[97] }, { data := #[121] }, { data := #[] }, [{ data := #[97] }, { data := #[98] }], 0, 0, 0, 0, .mk 0 { data := #[] } [] [] 0⟩
def d25 : DefD := ⟨{ data := #[115] }, { data := #[] }, [s25a, s25b]⟩
structure At25 (W : World) (g1 g2 : Nat) : Prop where
  b1 : W.heap[g1]? = some (.cells #[.string { data := #[97] }, .string { data := #[98] }] 9 (0, 0))
  b2 : W.heap[g2]? = some (.cells #[.string { data := #[97] }, .string { data := #[120] }, .string { data := #[] }, .slice none 0 0, .int .i64 0, .int .i64 0, .int .i64 0, .int .i64 0, .int .u8 0, .string { data := #[] }, .slice none 0 0, .slice none 0 0, .int .i64 0, .string { data := #[97] }, .string { data := #[121] }, .string { data := #[] }, .slice (some ⟨g1, 0, none⟩) 2 2, .int .i64 0, .int .i64 0, .int .i64 0, .int .i64 0, .int .u8 0, .string { data := #[] }, .slice none 0 0, .slice none 0 0, .int .i64 0] 45 (0, 0))
theorem At25.below {W W' : World} {g1 g2 : Nat} (h : At25 W g1 g2) (hb : Below W.heap.size W W') : At25 W' g1 g2 :=
  ⟨(hb.block _ (Array.getElem?_eq_some_iff.1 h.b1).1).trans h.b1, (hb.block _ (Array.getElem?_eq_some_iff.1 h.b2).1).trans h.b2⟩
theorem At25.toR {W : World} {g1 g2 : Nat} (h : At25 W g1 g2) : DefR W [.string { data := #[115] }, .string { data := #[] }, .slice (some ⟨g2, 0, none⟩) 2 2] d25 (some ⟨g2, 0, none⟩) 2 := by
  refine ⟨rfl, by decide, by decide, [[.string { data := #[97] }, .string { data := #[120] }, .string { data := #[] }, .slice none 0 0, .int .i64 0, .int .i64 0, .int .i64 0, .int .i64 0, .int .u8 0, .string { data := #[] }, .slice none 0 0, .slice none 0 0, .int .i64 0], [.string { data := #[97] }, .string { data := #[121] }, .string { data := #[] }, .slice (some ⟨g1, 0, none⟩) 2 2, .int .i64 0, .int .i64 0, .int .i64 0, .int .i64 0, .int .u8 0, .string { data := #[] }, .slice none 0 0, .slice none 0 0, .int .i64 0]], rfl, rds_row 2 13 h.b2 rfl (by decide), fun i r s hr hs => ?_⟩
  rcases i with _ | _ | i
  · cases hr
    cases hs
    exact ⟨none, 0, none, 0, none, 0, rfl, ⟨by decide, by decide, by decide, (fun a ha => by cases ha), by unfold I64w; decide, by unfold I64w; decide, by unfold I64w; decide, by unfold I64w; decide⟩, ⟨rfl, none, 0, rfl, Nat.le_refl _, Nat.zero_le _, .inl rfl⟩, node_none W⟩
  · cases hr
    cases hs
    exact ⟨some ⟨g1, 0, none⟩, 2, none, 0, none, 0, rfl, ⟨by decide, by decide, by decide, fun a ha => by simp only [s25b, List.mem_cons, List.not_mem_nil, or_false] at ha; rcases ha with rfl | rfl <;> decide, by unfold I64w; decide, by unfold I64w; decide, by unfold I64w; decide, by unfold I64w; decide⟩, rds_row 2 1 h.b1 rfl (by decide), node_none W⟩
  · simp at hr
theorem d25_chk : chkN d25 = [(1, 6, { data := #[97] }), (1, 8, { data := #[97] }), (1, 5, { data := #[98] })] := by decide +kernel
theorem d25_sort : sortD (chkN d25) = [(1, 5, { data := #[98] }), (1, 6, { data := #[97] }), (1, 8, { data := #[97] })] := by rw [d25_chk]; decide +kernel
theorem d25_refs : (refsF d25.steps 0 d25.steps).length ≤ 10000 := by decide +kernel
theorem d25_deps : depsA d25.steps 0 d25.steps = [[], [0]] := by decide +kernel
theorem d25_miss : missL (refsF d25.steps 0 d25.steps) = [{ data := #[98] }] := by decide +kernel
theorem c25_check {W0 W : World} {g1 g2 : Nat} (h : At25 W0 g1 g2) (hb : Below W0.heap.size W0 W) : Calls Try.prog 29 #[.agg #[.string { data := #[115] }, .string { data := #[] }, .slice (some ⟨g2, 0, none⟩) 2 2]] W fun e w' => ∃ va vc, e = .returned (.slice va 3 vc) ∧ DgR w' (.slice va 3 vc) [(1, 5, { data := #[98] }), (1, 6, { data := #[97] }), (1, 8, { data := #[97] })] ∧ Below W.heap.size W w' := by
  have := nCheck_any d25 _ _ _ W (h.below hb).toR (smallDef_of (by decide +kernel)) d25_refs (by
    rw [d25_chk]
    intro x hx
    simp at hx
    rcases hx with rfl | rfl | rfl
    · exact ⟨by unfold I64w; decide, by unfold I64w; decide, by decide⟩
    · exact ⟨by unfold I64w; decide, by unfold I64w; decide, by decide⟩
    · exact ⟨by unfold I64w; decide, by unfold I64w; decide, by decide⟩)
  rw [d25_sort] at this
  exact this
theorem c25_refs {W0 W : World} {g1 g2 : Nat} (h : At25 W0 g1 g2) (hb : Below W0.heap.size W0 W) : Calls Try.prog 33 #[.agg #[.string { data := #[115] }, .string { data := #[] }, .slice (some ⟨g2, 0, none⟩) 2 2]] W fun e w' => ∃ v, e = .returned v ∧ Rows2 w' v [[], [0]] ∧ Below W.heap.size W w' := by
  have := nRefs_any d25 _ _ _ W (h.below hb).toR (by decide) (Nat.le_trans d25_refs (by decide))
  rw [d25_deps] at this
  exact this
theorem c25_miss {W0 W : World} {g1 g2 : Nat} (h : At25 W0 g1 g2) (hb : Below W0.heap.size W0 W) : Calls Try.prog 36 #[.agg #[.string { data := #[115] }, .string { data := #[] }, .slice (some ⟨g2, 0, none⟩) 2 2]] W fun e w' => ∃ v, e = .returned v ∧ RdS w' v 1 1 (strsV [{ data := #[98] }]) ∧ Below W.heap.size W w' := by
  have := nMissing_any d25 _ _ _ W (h.below hb).toR (by decide) (Nat.le_trans d25_refs (by decide))
  rw [d25_miss] at this
  exact this
set_option maxRecDepth 100000 in
set_option maxHeartbeats 4000000 in
theorem live25_any (w : World) : Calls Try.prog 27 #[] w fun e w' => e = .returned (.bool true) ∧ Below w.heap.size w w' := by
  have hr1 : rightB { data := #[97, 45, 98] } = true := by decide +kernel
  have hr2 : rightB { data := #[97, 32, 98] } = false := by decide +kernel
  go_enter Try.func27, Try.ntmps27
  go_wp2_with fail
  obtain ⟨h1, h2, h3, h4, h5⟩ := alloc3 w 9 45 24 #[.string { data := #[97] }, .string { data := #[98] }] #[.string { data := #[97] }, .string { data := #[120] }, .string { data := #[] }, .slice none 0 0, .int .i64 0, .int .i64 0, .int .i64 0, .int .i64 0, .int .u8 0, .string { data := #[] }, .slice none 0 0, .slice none 0 0, .int .i64 0, .string { data := #[97] }, .string { data := #[121] }, .string { data := #[] }, .slice (some ⟨w.heap.size, 0, none⟩) 2 2, .int .i64 0, .int .i64 0, .int .i64 0, .int .i64 0, .int .u8 0, .string { data := #[] }, .slice none 0 0, .slice none 0 0, .int .i64 0] #[.string { data := #[115] }, .string { data := #[] }, .slice (some ⟨w.heap.size + 1, 0, none⟩) 2 2]
  generalize (((w.alloc (.cells #[.string { data := #[97] }, .string { data := #[98] }] 9)).alloc (.cells #[.string { data := #[97] }, .string { data := #[120] }, .string { data := #[] }, .slice none 0 0, .int .i64 0, .int .i64 0, .int .i64 0, .int .i64 0, .int .u8 0, .string { data := #[] }, .slice none 0 0, .slice none 0 0, .int .i64 0, .string { data := #[97] }, .string { data := #[121] }, .string { data := #[] }, .slice (some ⟨w.heap.size, 0, none⟩) 2 2, .int .i64 0, .int .i64 0, .int .i64 0, .int .i64 0, .int .u8 0, .string { data := #[] }, .slice none 0 0, .slice none 0 0, .int .i64 0] 45)).alloc (.cells #[.string { data := #[115] }, .string { data := #[] }, .slice (some ⟨w.heap.size + 1, 0, none⟩) 2 2] 24)) = w1 at *
  have H25 : Hid (At25 w1 w.heap.size (w.heap.size + 1)) := Lib.hid ⟨h2, h3⟩
  have HB1 := Lib.hid h1
  have HD1 := Lib.hid h4
  have hs1 : w.heap.size + 2 < w1.heap.size := (Array.getElem?_eq_some_iff.1 h4).1
  clear h1 h2 h3 h4 h5
  refine (c25_check H25.out (Below.refl _ _)).mono ?_
  rintro e w2 ⟨va, vc, rfl, hdg, hb2⟩
  have HDG := Lib.hid hdg
  have HB2 := Lib.hid hb2
  clear hdg hb2
  obtain ⟨p0, p1, p2, -, -, -⟩ := cells3h ((HB2.out.block _ (by omega)).trans HD1.out)
  go_wp2_with fail
  refine (c25_refs H25.out HB2.out).mono ?_
  rintro e w3 ⟨rv, rfl, hr3, hb3⟩
  obtain ⟨ra, rc, rfl⟩ := hr3.form
  have HR3 := Lib.hid hr3
  have HB3 := Lib.hid (bthen HB2.out (Nat.le_refl _) hb3)
  have HDG3 := Lib.hid (HDG.out.below hb3)
  clear hr3 hb3 p0 p1 p2
  obtain ⟨p0, p1, p2, -, -, -⟩ := cells3h ((HB3.out.block _ (by omega)).trans HD1.out)
  go_wp2_with fail
  refine (c25_miss H25.out HB3.out).mono ?_
  rintro e w4 ⟨mv, rfl, hrd, hb4⟩
  obtain ⟨ma, mc, rfl⟩ := hrd.form
  have HB4 := Lib.hid (bthen HB3.out (by have := HB3.out.size; exact Nat.le_refl _) hb4)
  have hr4 := HR3.out.below hb4
  have hdg4 := HDG3.out.below hb4
  obtain ⟨g, off, cap, he, -, hcap, y0, y1, y2⟩ := hdg4.at (i := 0) (by decide)
  obtain ⟨_, _, _, he2, -, -, x0, x1, x2⟩ := hdg4.at (i := 1) (by decide)
  obtain ⟨_, _, _, he3, -, -, v0, v1, v2⟩ := hdg4.at (i := 2) (by decide)
  cases he
  cases he2
  cases he3
  obtain ⟨rg, ro, ra2, rc2, rfl, -, -, t0, -⟩ := hr4.at (i := 1) (by decide)
  obtain ⟨mg, mo, rfl, -, -, u0⟩ := strs_at (l := [{ data := #[98] }]) hrd (i := 0) (by decide)
  simp only [Nat.zero_mul, Nat.add_zero, Nat.one_mul, List.getElem_cons_zero, List.getElem_cons_succ, List.length_cons, List.length_nil, Nat.zero_add] at y0 y1 y2 x0 x1 x2 v0 v1 v2 u0 t0
  have HBF := Lib.hid (HB1.out.trans (HB4.out.mono (by omega)))
  clear p0 p1 p2 hdg4 hrd hr4 hb4
  go_wp2_with fail
  refine (nRight_any { data := #[97, 45, 98] } _ (by decide)).mono ?_
  rintro e w5 ⟨rfl, rfl⟩
  rw [hr1]
  go_wp2_with fail
  refine (nRight_any { data := #[97, 32, 98] } _ (by decide)).mono ?_
  rintro e w6 ⟨rfl, rfl⟩
  rw [hr2]
  go_wp2_with fail
  go_ret
  exact ⟨rfl, HBF.out⟩
end Go.Proofs.Ytbnggfhofdpdcaa

/-
  The law NamesRefs: walk; definitions' lists are right.
-/
namespace Go.Proofs.Ytbnggfhofdpdcaa
open Go Go.RowKit Go.WideShapes

theorem names_ok {d : DefD} (hs : SmallD d) : ∀ x ∈ rChkN d.steps 0 d.steps (headN d), OkG x := by
  have hn : ∀ (l : List DiagD) (b : Bool) (x : DiagD), (∀ y ∈ l, OkG y) → OkG x → ∀ y ∈ noteL l b x, OkG y := fun l b x h1 h2 y hy => by
    rcases (noteL_mem l b x y).1 hy with h | ⟨-, rfl⟩
    · exact h1 y h
    · exact h2
  have ok : ∀ (st er : Int) (tx : ByteArray), I64w st → I64w er → tx.size ≤ 200 → OkG (st, er, tx) := fun st er tx h1 h2 h3 => ⟨h1, h2, by show tx.size ≤ maxLen; unfold maxLen; omega⟩
  have hrows : ∀ (i : Nat) (s : StepD), i ≤ 30 → s.name.size ≤ 200 → ∀ (r seen : List ByteArray) (l : List DiagD), (∀ a ∈ r, a.size ≤ 200) → (∀ y ∈ l, OkG y) → ∀ y ∈ rowsN d.steps i s seen r l, OkG y := by
    intro i s hi hn1 r
    induction r with
    | nil => intro seen l _ h; exact h
    | cons a r ih =>
      intro seen l ha h
      have ha0 := ha a (by simp)
      refine ih _ _ (fun b hb => ha b (by simp [hb])) ?_
      unfold rowN
      exact hn _ _ _ (hn _ _ _ (hn _ _ _ h (ok _ _ _ (by unfold I64w; omega) (by unfold I64w; omega) ha0)) (ok _ _ _ (by unfold I64w; omega) (by unfold I64w; omega) hn1)) (ok _ _ _ (by unfold I64w; omega) (by unfold I64w; omega) ha0)
  have hall : ∀ (r : List StepD) (i : Nat) (l : List DiagD), i + r.length ≤ 30 → (∀ s ∈ r, SmallS s) → (∀ y ∈ l, OkG y) → ∀ y ∈ rChkN d.steps i r l, OkG y := by
    intro r
    induction r with
    | nil => intro i l _ _ h; exact h
    | cons s r ih =>
      intro i l hi hs h
      rw [List.length_cons] at hi
      have hs0 := hs s (by simp)
      refine ih _ _ (by omega) (fun t ht => hs t (by simp [ht])) (hrows i s (by omega) hs0.name _ _ _ hs0.aft ?_)
      unfold stepN
      exact hn _ _ _ (hn _ _ _ (hn _ _ _ (hn _ _ _ h (ok _ _ _ (by unfold I64w; omega) (by unfold I64w; omega) hs0.name)) (ok _ _ _ (by unfold I64w; omega) (by unfold I64w; omega) hs0.action)) (ok _ _ _ (by unfold I64w; omega) (by unfold I64w; omega) hs0.undo)) (ok _ _ _ (by unfold I64w; omega) (by unfold I64w; omega) hs0.name)
  refine hall d.steps 0 _ (by have := hs.steps; omega) hs.each ?_
  unfold headN
  exact hn _ _ _ (hn _ _ _ (fun y hy => by cases hy) (ok _ _ _ (by unfold I64w; omega) (by unfold I64w; omega) (by decide))) (ok _ _ _ (by unfold I64w; omega) (by unfold I64w; omega) hs.name)
theorem chkN_ok {d : DefD} (hs : SmallD d) : ∀ x ∈ chkN d, OkG x := by
  intro x hx
  have := (sortD_mem _ x).2 hx
  rw [← names_alike] at this
  exact names_ok hs x ((sortD_mem _ x).1 this)
theorem refs_few {d : DefD} (hs : SmallD d) : (refsF d.steps 0 d.steps).length ≤ 10000 := by
  have h1 := refsF_len d.steps (m := 70) d.steps 0 (fun s h => (hs.each s h).after)
  have h2 : d.steps.length * 70 ≤ 30 * 70 := Nat.mul_le_mul_right _ hs.steps
  omega
theorem chkN_few {d : DefD} (hs : SmallD d) : (chkN d).length ≤ 100000 := by
  unfold chkN
  have h1 := refsN_len d.steps (refsF d.steps 0 d.steps) [] (stepsN d.steps 0 d.steps (headN d))
  have h2 := stepsN_len d.steps d.steps 0 (headN d)
  have h3 := headN_len d
  have h4 := refs_few hs
  have h5 := hs.steps
  omega

set_option maxRecDepth 100000 in
set_option maxHeartbeats 8000000 in
theorem NamesRefs_any (d : DefD) (sa : Option Addr) (sc : Nat) (w : World) (h : DefR w [.string d.name, .string d.text, .slice sa d.steps.length sc] d sa sc) :
    Calls Try.prog 6 #[.agg #[.string d.name, .string d.text, .slice sa d.steps.length sc]] w fun e w' => e = .returned (.bool true) ∧ Below w.heap.size w w' := by
  have hb0 := (Below.refl w.heap.size w).alloc (Nat.le_refl _) (.cells #[.string d.name, .string d.text, .slice sa d.steps.length sc] 24)
  have HD := Lib.hid (h.below hb0)
  have HG := Lib.hid (World.alloc_heap_new w (.cells #[.string d.name, .string d.text, .slice sa d.steps.length sc] 24))
  clear h
  go_enter Try.func6, Try.ntmps6
  go_upto_region 1 with fail
  generalize w.alloc (.cells #[.string d.name, .string d.text, .slice sa d.steps.length sc] 24) = w0 at *
  have HB0 := Lib.hid hb0
  have hlt := (Array.getElem?_eq_some_iff.1 HG.out).1
  clear hb0
  go_wp2_with fail
  refine (live25_any _).mono ?_
  rintro e w1 ⟨rfl, hb1⟩
  have HB1 := Lib.hid (bthen HB0.out (Nat.le_refl _) hb1)
  have HD1 := Lib.hid (HD.out.below hb1)
  have HG1 := Lib.hid ((hb1.block _ hlt).trans HG.out)
  obtain ⟨q0, q1, q2, -, -, -⟩ := cells3h HG1.out
  clear hb1
  go_wp2_with fail
  refine (rdSmall_any d _ _ _ w1 HD1.out).mono ?_
  rintro e w2 ⟨rfl, hb2⟩
  clear q0 q1 q2
  have HB2 := Lib.hid (bthen HB1.out (Nat.le_refl _) hb2)
  have HD2 := Lib.hid (HD1.out.below hb2)
  have hlt1 := (Array.getElem?_eq_some_iff.1 HG1.out).1
  have HG2 := Lib.hid ((hb2.block _ hlt1).trans HG1.out)
  obtain ⟨q0, q1, q2, -, -, -⟩ := cells3h HG2.out
  clear hb2
  rcases hsm : smallDef d with _ | _
  · clear hsm
    go_wp2
    go_ret
    exact ⟨rfl, HB2.out⟩
  have HSM := Lib.hid (smallDef_of hsm)
  clear hsm
  have hst : d.steps.length ≤ 30 := HSM.out.steps
  have haf : ∀ s ∈ d.steps, s.after.length ≤ 1000000 := fun s hs => Nat.le_trans (HSM.out.each s hs).after (by decide)
  have hrf : (refsF d.steps 0 d.steps).length ≤ 1000000 := Nat.le_trans (refs_few HSM.out) (by decide)
  have hdl := depsA_len d.steps d.steps 0
  go_wp2_with fail
  have HX0 : Hid (Below w2.heap.size w2 w2.drew) := Lib.hid ((Below.refl _ _).drew)
  refine E_region (S := (fun W => W.cell? ⟨w.heap.size, 0, none⟩ = some (.string d.name) ∧ W.cell? ⟨w.heap.size, 1, none⟩ = some (.string d.text) ∧ W.cell? ⟨w.heap.size, 2, none⟩ = some (.slice sa d.steps.length sc))) 3 (by kernel_rfl) ⟨q0, q1, q2⟩ (fun _ _ _ _ _ h => h) (fun Q' hQ hK' hHeld => ?_)
  refine E_take hQ hHeld 0 (v := ?yav1) rfl rfl (by kernel_rfl) (by kernel_rfl) (by kernel_rfl) (by kernel_rfl) (by kernel_rfl) (by rfl) ?yay1 ?yar1
  case yay1 => (intro w hSw; (try dsimp only at hSw); go_simp; (try with_reducible rfl))
  (try simp only [Act.put, List.setIfInBounds_toArray, List.set_cons_zero, List.set_cons_succ])
  refine E_take hQ hHeld 2 (v := ?yav2) rfl rfl (by kernel_rfl) (by kernel_rfl) (by kernel_rfl) (by kernel_rfl) (by kernel_rfl) (by rfl) ?yay2 ?yar2
  case yay2 => (intro w hSw; (try dsimp only at hSw); go_simp; (try with_reducible rfl))
  (try simp only [Act.put, List.setIfInBounds_toArray, List.set_cons_zero, List.set_cons_succ])
  refine E_one 1 (by kernel_rfl) rfl (by rfl) (fun K hK => ?_)
  go_simp
  refine (nRefs_any d _ _ _ _ (HD2.out.below HX0.out) (by omega) hrf).mono ?_
  rintro e V1 ⟨v1, rfl, hr1, hb⟩
  obtain ⟨ra, rc, rfl⟩ := hr1.form
  have HR1 := Lib.hid hr1
  have HY1 := Lib.hid hb
  have HX1 : Hid (Below w2.heap.size w2 V1) := Lib.hid (bthen HX0.out (Nat.le_refl _) hb)
  clear hb hr1
  (try simp only [Act.put, List.setIfInBounds_toArray, List.set_cons_zero, List.set_cons_succ])
  refine hK.out _ _ (fun _ _ => ⟨cellB HY1.out hHeld.1, cellB HY1.out hHeld.2.1, cellB HY1.out hHeld.2.2⟩) (fun hHeld' => ?_)
  replace hHeld := hHeld' (by rfl) (by decide)
  clear hK hHeld'
  (try simp only [Act.put, List.setIfInBounds_toArray, List.set_cons_zero, List.set_cons_succ])
  refine E_one 3 (by kernel_rfl) rfl (by rfl) (fun K hK => ?_)
  go_simp
  refine (rRefs_any d _ _ _ _ (HD2.out.below HX1.out) (by omega) haf).mono ?_
  rintro e V3 ⟨v3, rfl, hr3, hb⟩
  obtain ⟨rb, rd, rfl⟩ := hr3.form
  have HR3 := Lib.hid hr3
  have HR2 := Lib.hid (HR1.out.below hb)
  have HX3 : Hid (Below w2.heap.size w2 V3) := Lib.hid (bthen HX1.out (by have := HX1.out.size; exact Nat.le_refl _) hb)
  clear hb hr3
  (try simp only [Act.put, List.setIfInBounds_toArray, List.set_cons_zero, List.set_cons_succ])
  refine hK.out _ _ (fun _ h => absurd rfl h) (fun _ => ?_)
  clear hK hHeld
  (try simp only [Act.put, List.setIfInBounds_toArray, List.set_cons_zero, List.set_cons_succ])
  refine E_take0 hQ (fun h => absurd h (by decide)) 4 (v := ?yav3) rfl rfl (by kernel_rfl) (by kernel_rfl) (by kernel_rfl) (by decide) (by rfl) ?yay3 ?yar3
  case yay3 => (intro w; go_simp; (try with_reducible rfl))
  (try simp only [Act.put, List.setIfInBounds_toArray, List.set_cons_zero, List.set_cons_succ])
  refine E_take0 hQ (fun h => absurd h (by decide)) 5 (v := ?yav4) rfl rfl (by kernel_rfl) (by kernel_rfl) (by kernel_rfl) (by decide) (by rfl) ?yay4 ?yar4
  case yay4 => (intro w; go_simp; (try with_reducible rfl))
  (try simp only [Act.put, List.setIfInBounds_toArray, List.set_cons_zero, List.set_cons_succ])
  refine E_done (by kernel_rfl) ?_ _
  refine hK'.out _ _ ?_
  rw [hdl]
  have HD3 := Lib.hid (HD2.out.below HX3.out)
  have hlt2 := (Array.getElem?_eq_some_iff.1 HG2.out).1
  clear q0 q1 q2 hK' hQ
  obtain ⟨q0, q1, q2, -, -, -⟩ := cells3h ((HX3.out.block _ hlt2).trans HG2.out)
  have hne : ((d.steps.length : Int) != (d.steps.length : Int)) = false := by simp
  go_upto_region 6 with fail
  refine E_region (S := (fun W => W.cell? ⟨w.heap.size, 0, none⟩ = some (.string d.name) ∧ W.cell? ⟨w.heap.size, 1, none⟩ = some (.string d.text) ∧ W.cell? ⟨w.heap.size, 2, none⟩ = some (.slice sa d.steps.length sc))) 9 (by kernel_rfl) ⟨q0, q1, q2⟩ (fun _ _ _ _ _ h => h) (fun Q' hQ hK' hHeld => ?_)
  refine E_take0 hQ (fun _ => hHeld) 0 (v := ?ybv1) rfl rfl (by kernel_rfl) (by kernel_rfl) (by kernel_rfl) (by decide) (by rfl) ?yby1 ?ybr1
  case yby1 => (intro w; go_simp; (try with_reducible rfl))
  (try simp only [Act.put, List.setIfInBounds_toArray, List.set_cons_zero, List.set_cons_succ])
  refine E_take0 hQ (fun _ => hHeld) 1 (v := ?ybv2) rfl rfl (by kernel_rfl) (by kernel_rfl) (by kernel_rfl) (by decide) (by rfl) ?yby2 ?ybr2
  case yby2 => (intro w; go_simp; (try with_reducible rfl))
  (try simp only [Act.put, List.setIfInBounds_toArray, List.set_cons_zero, List.set_cons_succ])
  refine E_take0 hQ (fun _ => hHeld) 2 (v := ?ybv3) rfl rfl (by kernel_rfl) (by kernel_rfl) (by kernel_rfl) (by decide) (by rfl) ?yby3 ?ybr3
  case yby3 => (intro w; go_simp; (try with_reducible rfl))
  (try simp only [Act.put, List.setIfInBounds_toArray, List.set_cons_zero, List.set_cons_succ])
  refine E_take0 hQ (fun _ => hHeld) 3 (v := ?ybv4) rfl rfl (by kernel_rfl) (by kernel_rfl) (by kernel_rfl) (by decide) (by rfl) ?yby4 ?ybr4
  case yby4 => (intro w; go_simp; (try with_reducible rfl))
  (try simp only [Act.put, List.setIfInBounds_toArray, List.set_cons_zero, List.set_cons_succ])
  refine E_take0 hQ (fun _ => hHeld) 4 (v := ?ybv5) rfl rfl (by kernel_rfl) (by kernel_rfl) (by kernel_rfl) (by decide) (by rfl) ?yby5 ?ybr5
  case yby5 => (intro w; go_simp; (try with_reducible rfl))
  (try simp only [Act.put, List.setIfInBounds_toArray, List.set_cons_zero, List.set_cons_succ])
  refine E_take0 hQ (fun _ => hHeld) 5 (v := ?ybv6) rfl rfl (by kernel_rfl) (by kernel_rfl) (by kernel_rfl) (by decide) (by rfl) ?yby6 ?ybr6
  case yby6 => (intro w; go_simp; (try with_reducible rfl))
  (try simp only [Act.put, List.setIfInBounds_toArray, List.set_cons_zero, List.set_cons_succ])
  refine E_take hQ hHeld 6 (v := ?ybv7) rfl rfl (by kernel_rfl) (by kernel_rfl) (by kernel_rfl) (by kernel_rfl) (by kernel_rfl) (by rfl) ?yby7 ?ybr7
  case yby7 => (intro w hSw; (try dsimp only at hSw); go_simp; (try with_reducible rfl))
  (try simp only [Act.put, List.setIfInBounds_toArray, List.set_cons_zero, List.set_cons_succ])
  refine E_take hQ hHeld 8 (v := ?ybv8) rfl rfl (by kernel_rfl) (by kernel_rfl) (by kernel_rfl) (by kernel_rfl) (by kernel_rfl) (by rfl) ?yby8 ?ybr8
  case yby8 => (intro w hSw; (try dsimp only at hSw); go_simp; (try with_reducible rfl))
  (try simp only [Act.put, List.setIfInBounds_toArray, List.set_cons_zero, List.set_cons_succ])
  refine E_one 7 (by kernel_rfl) rfl (by rfl) (fun K hK => ?_)
  go_simp
  refine (nMissing_any d _ _ _ _ (HD3.out.below (Below.refl _ _).drew) (by omega) hrf).mono ?_
  rintro e V7 ⟨v7, rfl, hm7, hb⟩
  have HM7 := Lib.hid hm7
  have HY1 := Lib.hid hb
  have HD7 := Lib.hid ((HD3.out.below (Below.refl _ _).drew).below hb)
  have HX7 : Hid (Below V3.heap.size V3 V7) := Lib.hid (((Below.refl _ V3).drew).trans hb)
  clear hb hm7
  (try simp only [Act.put, List.setIfInBounds_toArray, List.set_cons_zero, List.set_cons_succ])
  refine hK.out _ _ (fun _ _ => ⟨cellB HY1.out hHeld.1, cellB HY1.out hHeld.2.1, cellB HY1.out hHeld.2.2⟩) (fun hHeld' => ?_)
  replace hHeld := hHeld' (by rfl) (by decide)
  clear hK hHeld'
  (try simp only [Act.put, List.setIfInBounds_toArray, List.set_cons_zero, List.set_cons_succ])
  refine E_one 9 (by kernel_rfl) rfl (by rfl) (fun K hK => ?_)
  go_simp
  refine (rMissing_any d _ _ _ _ HD7.out hrf).mono ?_
  rintro e V9 ⟨v9, rfl, hm9, hb⟩
  have HM9 := Lib.hid hm9
  have HM8 := Lib.hid (HM7.out.below hb)
  have HX9 : Hid (Below V3.heap.size V3 V9) := Lib.hid (bthen HX7.out (Nat.le_refl _) hb)
  clear hb hm9
  (try simp only [Act.put, List.setIfInBounds_toArray, List.set_cons_zero, List.set_cons_succ])
  refine hK.out _ _ (fun _ h => absurd rfl h) (fun _ => ?_)
  clear hK hHeld
  (try simp only [Act.put, List.setIfInBounds_toArray, List.set_cons_zero, List.set_cons_succ])
  refine E_one 10 (by kernel_rfl) rfl (by rfl) (fun K hK => ?_)
  go_simp
  refine (Texts_any _ _ _ _ _ HM8.out HM9.out).mono ?_
  rintro e V10 ⟨rfl, hb⟩
  have HX10 : Hid (Below V3.heap.size V3 V10) := Lib.hid (bthen HX9.out (Nat.le_refl _) hb)
  rw [show decide (missL (refsF d.steps 0 d.steps) = missL (refsF d.steps 0 d.steps)) = true from decide_eq_true rfl]
  clear hb
  (try simp only [Act.put, List.setIfInBounds_toArray, List.set_cons_zero, List.set_cons_succ])
  refine hK.out _ _ (fun h => absurd h (by decide)) (fun _ => ?_)
  clear hK
  (try simp only [Act.put, List.setIfInBounds_toArray, List.set_cons_zero, List.set_cons_succ])
  refine E_take0 hQ (fun h => absurd h (by decide)) 11 (v := ?ybv9) rfl rfl (by kernel_rfl) (by kernel_rfl) (by kernel_rfl) (by decide) (by rfl) ?yby9 ?ybr9
  case yby9 => (intro w; go_simp; (try with_reducible rfl))
  (try simp only [Act.put, List.setIfInBounds_toArray, List.set_cons_zero, List.set_cons_succ])
  refine E_take0 hQ (fun h => absurd h (by decide)) 12 (v := ?ybv10) rfl rfl (by kernel_rfl) (by kernel_rfl) (by kernel_rfl) (by decide) (by rfl) ?yby10 ?ybr10
  case yby10 => (intro w; go_simp; (try with_reducible rfl))
  (try simp only [Act.put, List.setIfInBounds_toArray, List.set_cons_zero, List.set_cons_succ])
  refine E_done (by kernel_rfl) ?_ _
  refine hK'.out _ _ ?_
  have HRA := Lib.hid (HR2.out.below HX10.out)
  have HRB := Lib.hid (HR3.out.below HX10.out)
  have HB10 := Lib.hid (bthen HB2.out (Nat.le_refl _) (HX3.out.trans (HX10.out.mono HX3.out.size)))
  clear HR1 HR2 HR3 HX10 HX9 HX7 HX3 HX1 HM7 HM8 HM9 q0 q1 q2 hne hK' hQ
  generalize hrows : depsA d.steps 0 d.steps = rows at *
  have HDL := Lib.hid hdl
  clear hdl hrows
  go_wp2_with fail
  go_loopg [5] (d.steps.length + 1) (fun gk i wi => ∃ k : Nat, k + gk = d.steps.length + 1 ∧ k ≤ d.steps.length ∧ i = .int .i64 k ∧ Hid (Below V10.heap.size V10 wi))
  case atStart => exact ⟨0, by omega, by omega, rfl, Lib.hid (Below.refl _ _)⟩
  case round =>
    obtain ⟨k, hgk, hk, rfl, HBI⟩ := hrel
    rename World => wi
    have hg : gk = d.steps.length + 1 - k := by omega
    subst hg
    by_cases hkl : k < d.steps.length
    · have d1 : decide ((k : Int) < (d.steps.length : Int)) = true := decide_eq_true (by omega)
      have hk1 : (k : Int) < (d.steps.length : Int) := by omega
      have hkr : k < rows.length := by rw [HDL.out]; exact hkl
      obtain ⟨rg, ro, ra2, rc2, rfl, e1, e2, y0, hrow⟩ := HRA.out.at hkr
      obtain ⟨sg, so, rb2, rd2, rfl, e3, e4, x0, hrow2⟩ := HRB.out.at hkr
      have HROW := Lib.hid hrow
      have HROW2 := Lib.hid hrow2
      have Y0 := Lib.hid y0
      have X0 := Lib.hid x0
      have hrl : rows[k].length ≤ 9223372036854775807 := rds_len2 hrow
      have y0 := cellB HBI.out Y0.out
      have x0 := cellB HBI.out X0.out
      clear hrow hrow2
      clear e1 e2 e3 e4
      generalize rows[k] = row at *
      have hne : ((row.length : Int) != (row.length : Int)) = false := by simp
      go_upto_region 11 with fail
      go_quiet (fail)
      have HBQ := Lib.hid (belowN HBI.out nq)
      clear y0 x0
      go_wp2_with fail
      go_loopg [6] (row.length + 1) (fun gk i wj => ∃ j : Nat, j + gk = row.length + 1 ∧ j ≤ row.length ∧ i = .int .i64 j ∧ Hid (Below V10.heap.size V10 wj))
      case atStart => exact ⟨0, by omega, by omega, rfl, HBQ⟩
      case round =>
        obtain ⟨j, hgj, hj, rfl, HBJ⟩ := hrel
        rename World => wj
        have hg : gk = row.length + 1 - j := by omega
        subst hg
        have y0 := cellB HBJ.out Y0.out
        have x0 := cellB HBJ.out X0.out
        by_cases hjl : j < row.length
        · have d2 : decide ((j : Int) < (row.length : Int)) = true := decide_eq_true (by omega)
          have hj1 : (j : Int) < (row.length : Int) := by omega
          obtain ⟨ag, ao, rfl, -, -, t0⟩ := ints_at (HROW.out.below HBJ.out) hjl
          obtain ⟨bg, bo, rfl, -, -, u0⟩ := ints_at (HROW2.out.below HBJ.out) hjl
          generalize row[j] = x at *
          have hne2 : (x != x) = false := by simp
          go_upto_region 16 with fail
          go_quiet (fail)
          have HBQ := Lib.hid (belowN HBJ.out nq)
          clear y0 x0 t0 u0
          go_wp2_with fail
          go_roundg (row.length + 1 - (j + 1))
          case measure => omega
          case rel => exact ⟨j + 1, by omega, by omega, by go_num, HBQ⟩
        · have d2 : decide ((j : Int) < (row.length : Int)) = false := decide_eq_false (by omega)
          have hj1 : ¬ (j : Int) < (row.length : Int) := by omega
          go_wp2_with fail
          go_roundg (d.steps.length + 1 - (k + 1))
          case measure => omega
          case rel => exact ⟨k + 1, by omega, by omega, by go_num, HBJ⟩
    · have d1 : decide ((k : Int) < (d.steps.length : Int)) = false := decide_eq_false (by omega)
      have hk1 : ¬ (k : Int) < (d.steps.length : Int) := by omega
      have HBF := Lib.hid (bthen HB10.out (Nat.le_refl _) HBI.out)
      go_wp2_with fail
      go_ret
      exact ⟨rfl, HBF.out⟩
end Go.Proofs.Ytbnggfhofdpdcaa
