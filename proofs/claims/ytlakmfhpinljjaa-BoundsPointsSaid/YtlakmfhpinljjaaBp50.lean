/-
  rescriptref27.Check: contract; it finds what bounds.Check finds.
-/
import Derived.Test.YtlakmfhpinljjaaBp38
import Derived.Test.YtlakmfhpinljjaaBp49
namespace Go.Proofs.Ytlakmfhpinljjaa
open Go Go.RowKit Go.WideShapes

theorem noteL_mem (l : List DiagD) (b : Bool) (x y : DiagD) : y ∈ noteL l b x ↔ y ∈ l ∨ (b = true ∧ y = x) := by
  unfold noteL
  cases b <;> simp
theorem rangeL_mem (i : Nat) (s : StepD) (l : List DiagD) (y : DiagD) : y ∈ rangeL i s l ↔ y ∈ l ∨ y ∈ rangeL i s [] := by
  unfold rangeL
  simp only [noteL_mem, List.not_mem_nil, false_or, or_assoc]
/-- The reference's walk over those behind which one comes. -/
def refU (all : List StepD) (i : Nat) (s : StepD) : Nat → List DiagD → List DiagD
  | 0, l => l
  | k + 1, l => match all[k]? with
    | some t => noteL (refU all i s k l) (decide ((i : Int) ∈ depsD all k t) && !emp t) ((i : Int), 19, s.name)
    | none => refU all i s k l
def refV (all : List StepD) (i : Nat) (s : StepD) (l : List DiagD) : List DiagD := if emp s then refU all i s all.length l else l
def refC (all : List StepD) : Nat → List DiagD
  | 0 => []
  | i + 1 => match all[i]? with
    | some s => refV all i s (rangeL i s (refC all i))
    | none => refC all i
theorem refU_len (all : List StepD) (i : Nat) (s : StepD) : ∀ (k : Nat) (l : List DiagD), (refU all i s k l).length ≤ l.length + k
  | 0, l => Nat.le_refl _
  | k + 1, l => by
    have := refU_len all i s k l
    unfold refU
    split
    · have := noteL_len (refU all i s k l) (decide ((i : Int) ∈ depsD all k ‹StepD›) && !emp ‹StepD›) ((i : Int), 19, s.name)
      omega
    · omega
theorem refC_len (all : List StepD) : ∀ i : Nat, (refC all i).length ≤ i * (4 + all.length)
  | 0 => by simp [refC]
  | i + 1 => by
    have ih := refC_len all i
    rw [Nat.add_mul, Nat.one_mul]
    unfold refC
    split
    · rename_i s hs
      have h1 := rangeL_len i s (refC all i)
      unfold refV
      split
      · have := refU_len all i s all.length (rangeL i s (refC all i))
        omega
      · omega
    · omega
theorem refC_succ (all : List StepD) {k : Nat} (hk : k < all.length) : refC all (k + 1) = refV all k all[k] (rangeL k all[k] (refC all k)) := by
  rw [refC, List.getElem?_eq_getElem hk]
theorem refU_mem (all : List StepD) (i : Nat) (s : StepD) (y : DiagD) : ∀ (k : Nat) (l : List DiagD), y ∈ refU all i s k l ↔ y ∈ l ∨ (y = ((i : Int), 19, s.name) ∧ ∃ (q : Nat) (t : StepD), q < k ∧ all[q]? = some t ∧ (i : Int) ∈ depsD all q t ∧ emp t = false)
  | 0, l => by simp [refU]
  | k + 1, l => by
    unfold refU
    split
    · rename_i t ht
      rw [noteL_mem, refU_mem all i s y k l]
      simp only [Bool.and_eq_true, decide_eq_true_eq, Bool.not_eq_true']
      constructor
      · rintro ((h | ⟨h, q, u, hq, hr⟩) | ⟨h1, h2⟩)
        · exact .inl h
        · exact .inr ⟨h, q, u, by omega, hr⟩
        · exact .inr ⟨h2, k, t, by omega, ht, h1.1, h1.2⟩
      · rintro (h | ⟨h, q, u, hq, hr, h1, h2⟩)
        · exact .inl (.inl h)
        · by_cases hqk : q = k
          · subst hqk
            rw [ht] at hr
            cases hr
            exact .inr ⟨⟨h1, h2⟩, h⟩
          · exact .inl (.inr ⟨h, q, u, by omega, hr, h1, h2⟩)
    · rename_i ht
      rw [refU_mem all i s y k l]
      constructor
      · rintro (h | ⟨h, q, u, hq, hr⟩)
        · exact .inl h
        · exact .inr ⟨h, q, u, by omega, hr⟩
      · rintro (h | ⟨h, q, u, hq, hr, h1⟩)
        · exact .inl h
        · by_cases hqk : q = k
          · subst hqk
            rw [ht] at hr
            cases hr
          · exact .inr ⟨h, q, u, by omega, hr, h1⟩
theorem refC_mem (all : List StepD) (y : DiagD) : ∀ n : Nat, y ∈ refC all n ↔ ∃ (i : Nat) (s : StepD), i < n ∧ all[i]? = some s ∧ (y ∈ rangeL i s [] ∨ (emp s = true ∧ y = ((i : Int), 19, s.name) ∧ ∃ (q : Nat) (t : StepD), all[q]? = some t ∧ (i : Int) ∈ depsD all q t ∧ emp t = false))
  | 0 => by simp [refC]
  | n + 1 => by
    have ih := refC_mem all y n
    have hin : ∀ (q : Nat) (t : StepD), all[q]? = some t → q < all.length := fun q t h => (List.getElem?_eq_some_iff.1 h).1
    unfold refC
    split
    · rename_i s hs
      unfold refV
      constructor
      · intro h
        have h' : y ∈ rangeL n s (refC all n) ∨ (emp s = true ∧ y = ((n : Int), 19, s.name) ∧ ∃ (q : Nat) (t : StepD), all[q]? = some t ∧ (n : Int) ∈ depsD all q t ∧ emp t = false) := by
          split at h
          · rename_i he
            rcases (refU_mem all n s y _ _).1 h with h | ⟨h, q, t, hq, hr, h1, h2⟩
            · exact .inl h
            · exact .inr ⟨he, h, q, t, hr, h1, h2⟩
          · exact .inl h
        rcases h' with h | h
        · rcases (rangeL_mem n s _ y).1 h with h | h
          · obtain ⟨i, t, hi, hr⟩ := ih.1 h
            exact ⟨i, t, by omega, hr⟩
          · exact ⟨n, s, by omega, hs, .inl h⟩
        · exact ⟨n, s, by omega, hs, .inr h⟩
      · rintro ⟨i, t, hi, ht, hr⟩
        by_cases hin' : i = n
        · subst hin'
          rw [hs] at ht
          cases ht
          rcases hr with hr | ⟨he, hy, q, u, hq, h1, h2⟩
          · have : y ∈ rangeL i s (refC all i) := (rangeL_mem i s _ y).2 (.inr hr)
            split
            · exact (refU_mem all i s y _ _).2 (.inl this)
            · exact this
          · rw [if_pos he]
            exact (refU_mem all i s y _ _).2 (.inr ⟨hy, q, u, hin q u hq, hq, h1, h2⟩)
        · have : y ∈ rangeL n s (refC all n) := (rangeL_mem n s _ y).2 (.inl (ih.2 ⟨i, t, by omega, ht, hr⟩))
          split
          · exact (refU_mem all n s y _ _).2 (.inl this)
          · exact this
    · rename_i hs
      rw [ih]
      constructor
      · rintro ⟨i, t, hi, hr⟩
        exact ⟨i, t, by omega, hr⟩
      · rintro ⟨i, t, hi, ht, hr⟩
        refine ⟨i, t, ?_, ht, hr⟩
        have : i ≠ n := by rintro rfl; rw [hs] at ht; cases ht
        omega
theorem chkR_mem (y : DiagD) : ∀ (r : List StepD) (i : Nat) (l : List DiagD), y ∈ chkR i r l ↔ y ∈ l ∨ ∃ (q : Nat) (s : StepD), r[q]? = some s ∧ y ∈ rangeL (i + q) s []
  | [], i, l => by simp [chkR]
  | s :: r, i, l => by
    rw [chkR, chkR_mem y r (i + 1), rangeL_mem]
    constructor
    · rintro ((h | h) | ⟨q, t, hq, h⟩)
      · exact .inl h
      · exact .inr ⟨0, s, rfl, by simpa using h⟩
      · exact .inr ⟨q + 1, t, by simpa using hq, by rw [show i + (q + 1) = i + 1 + q by omega]; exact h⟩
    · rintro (h | ⟨q, t, hq, h⟩)
      · exact .inl (.inl h)
      · cases q with
        | zero => simp at hq; subst hq; exact .inl (.inr (by simpa using h))
        | succ q => exact .inr ⟨q, t, by simpa using hq, by rw [show i + 1 + q = i + (q + 1) by omega]; exact h⟩
theorem undoR_mem (all : List StepD) (y : DiagD) : ∀ (row : List Int) (l : List DiagD), y ∈ undoR all row l ↔ y ∈ l ∨ ∃ (t : Int) (s : StepD), t ∈ row ∧ all[t.toNat]? = some s ∧ emp s = true ∧ y = (t, 19, s.name)
  | [], l => by simp [undoR]
  | t :: row, l => by
    have ih := undoR_mem all y row (undoL all l t)
    have e : undoR all (t :: row) l = undoR all row (undoL all l t) := rfl
    rw [e, ih]
    have hu : y ∈ undoL all l t ↔ y ∈ l ∨ ∃ s : StepD, all[t.toNat]? = some s ∧ emp s = true ∧ y = (t, 19, s.name) := by
      unfold undoL
      split
      · rename_i s hs
        rw [noteL_mem, hs]
        simp
      · rename_i hs
        rw [hs]; simp
    rw [hu]
    constructor
    · rintro ((h | ⟨s, h1, h2, h3⟩) | ⟨u, s, h0, h1⟩)
      · exact .inl h
      · exact .inr ⟨t, s, by simp, h1, h2, h3⟩
      · exact .inr ⟨u, s, by simp [h0], h1⟩
    · rintro (h | ⟨u, s, h0, h1, h2, h3⟩)
      · exact .inl (.inl h)
      · rcases List.mem_cons.1 h0 with rfl | h0
        · exact .inl (.inr ⟨s, h1, h2, h3⟩)
        · exact .inr ⟨u, s, h0, h1, h2, h3⟩
theorem chkU_mem (all : List StepD) (y : DiagD) : ∀ (k : Nat) (l : List DiagD), y ∈ chkU all k l ↔ y ∈ l ∨ ∃ (q : Nat) (u : StepD) (t : Int) (s : StepD), q < k ∧ all[q]? = some u ∧ emp u = false ∧ t ∈ depsD all q u ∧ all[t.toNat]? = some s ∧ emp s = true ∧ y = (t, 19, s.name)
  | 0, l => by simp [chkU]
  | k + 1, l => by
    have ih := chkU_mem all y k l
    unfold chkU
    split
    · rename_i u hu
      split
      · rename_i he
        rw [ih]
        constructor
        · rintro (h | ⟨q, v, t, s, hq, hr⟩)
          · exact .inl h
          · exact .inr ⟨q, v, t, s, by omega, hr⟩
        · rintro (h | ⟨q, v, t, s, hq, hr, h1, h2⟩)
          · exact .inl h
          · refine .inr ⟨q, v, t, s, ?_, hr, h1, h2⟩
            have : q ≠ k := by rintro rfl; rw [hu] at hr; cases hr; rw [he] at h1; cases h1
            omega
      · rename_i he
        rw [undoR_mem, ih]
        constructor
        · rintro ((h | ⟨q, v, t, s, hq, hr⟩) | ⟨t, s, h1, h2, h3, h4⟩)
          · exact .inl h
          · exact .inr ⟨q, v, t, s, by omega, hr⟩
          · exact .inr ⟨k, u, t, s, by omega, hu, by simpa using he, h1, h2, h3, h4⟩
        · rintro (h | ⟨q, v, t, s, hq, hr, h1, h2, h3⟩)
          · exact .inl (.inl h)
          · by_cases hqk : q = k
            · subst hqk
              rw [hu] at hr
              cases hr
              exact .inr ⟨t, s, h2, h3⟩
            · exact .inl (.inr ⟨q, v, t, s, by omega, hr, h1, h2, h3⟩)
    · rename_i hu
      rw [ih]
      constructor
      · rintro (h | ⟨q, v, t, s, hq, hr⟩)
        · exact .inl h
        · exact .inr ⟨q, v, t, s, by omega, hr⟩
      · rintro (h | ⟨q, v, t, s, hq, hr, h1, h2⟩)
        · exact .inl h
        · refine .inr ⟨q, v, t, s, ?_, hr, h1, h2⟩
          have : q ≠ k := by rintro rfl; rw [hu] at hr; cases hr
          omega
/-- Both find the same. -/
theorem checks_alike (all : List StepD) : sortD (refC all all.length) = sortD (chkU all all.length (chkR 0 all [])) := by
  refine sortD_congr fun y => ?_
  rw [refC_mem, chkU_mem, chkR_mem]
  have hin : ∀ (q : Nat) (t : StepD), all[q]? = some t → q < all.length := fun q t h => (List.getElem?_eq_some_iff.1 h).1
  constructor
  · rintro ⟨i, s, hi, hs, h | ⟨he, hy, q, t, hq, h1, h2⟩⟩
    · exact .inl (.inr ⟨i, s, hs, by rwa [Nat.zero_add]⟩)
    · exact .inr ⟨q, t, (i : Int), s, hin q t hq, hq, h2, h1, by simpa using hs, he, hy⟩
  · rintro ((h | ⟨i, s, hs, h⟩) | ⟨q, u, t, s, hq, hu, h1, h2, h3, h4, h5⟩)
    · cases h
    · rw [Nat.zero_add] at h
      exact ⟨i, s, hin i s hs, hs, .inl h⟩
    · obtain ⟨n, rfl, hn⟩ := depsD_in all q u t h2
      rw [Int.toNat_natCast] at h3
      exact ⟨n, s, hn, h3, .inr ⟨h4, h5, q, u, hu, h2, h1⟩⟩
set_option maxRecDepth 100000 in
set_option maxHeartbeats 8000000 in
theorem rbCheck_any (d : DefD) (cs : List Value) (sa : Option Addr) (sc : Nat) (w : World) (h : DefR w cs d sa sc) (hlen : d.steps.length ≤ 100) (hal : ∀ s ∈ d.steps, s.after.length ≤ 100) (hok : ∀ x ∈ refC d.steps d.steps.length, OkG x) :
    Calls Try.prog 36 #[.agg cs.toArray] w fun e w' => ∃ va vc, e = .returned (.slice va (sortD (refC d.steps d.steps.length)).length vc) ∧ DgR w' (.slice va (sortD (refC d.steps d.steps.length)).length vc) (sortD (refC d.steps d.steps.length)) ∧ Below w.heap.size w w' := by
  obtain ⟨i0, hi, hz0, hz1, hz2⟩ := info_parts Try.info_diag
  obtain ⟨rfl, hna, hta, hva⟩ := h
  obtain ⟨_, _, he1, hl1, hl2⟩ := hva.form
  cases he1
  have e0 := World.alloc_heap_new w (.cells #[.string d.name, .string d.text, .slice sa d.steps.length sc] 24)
  have hb0 : Below w.heap.size w (w.alloc (.cells #[.string d.name, .string d.text, .slice sa d.steps.length sc] 24)) := (Below.refl _ _).alloc (Nat.le_refl _) _
  have hs0 : (w.alloc (.cells #[.string d.name, .string d.text, .slice sa d.steps.length sc] 24)).heap.size = w.heap.size + 1 := by simp
  have HV0 := Lib.hid hva
  have HALL := Lib.hid hal
  have HOKK := Lib.hid hok
  obtain ⟨p0, p1, p2, -, -, -⟩ := cells3h e0
  clear hva hal hok
  go_enter Try.func36, Try.ntmps36
  go_wp2_with fail
  generalize (w.alloc (.cells #[.string d.name, .string d.text, .slice sa d.steps.length sc] 24)) = w1 at *
  refine (rRefs_any d _ sa sc _ ⟨rfl, hna, hta, HV0.out.below hb0⟩ (by omega) (fun s hs => Nat.le_trans (HALL.out s hs) (by omega))).mono ?_
  rintro e w4 ⟨rv, rfl, hr4, hb4⟩
  have hdl := depsA_len d.steps d.steps 0
  obtain ⟨ra, rc, rfl⟩ := hr4.form
  have HR4 := Lib.hid hr4
  have HBw0 := Lib.hid (hb0.trans (hb4.mono (by omega)))
  have G0 := Lib.hid ((hb4.block w.heap.size (by omega)).trans e0)
  have hR4 : w.heap.size < w4.heap.size := by have := hb4.size; omega
  obtain ⟨R, hR⟩ : ∃ R, w4.heap.size = R := ⟨_, rfl⟩
  rw [hdl]
  clear hb0 hb4 hr4 e0 hs0 p0 p1 p2
  go_wp2_with fail
  go_loopg [5, 3] (d.steps.length + 1) (fun gk i v wr => ∃ (k : Nat) (va : Option Addr) (vc n : Nat), k + gk = d.steps.length + 1 ∧ k ≤ d.steps.length ∧ i = .int .i64 k ∧ v = .slice va n vc ∧ Hid (n = (refC d.steps k).length) ∧ Hid (OwnG wr R va vc (refC d.steps k)) ∧ Hid (Below R w4 wr))
  case atStart => exact ⟨0, _, _, _, by omega, by omega, rfl, rfl, Lib.hid rfl, Lib.hid (OwnG.nil _ _), Lib.hid (Below.refl _ _)⟩
  case round =>
    obtain ⟨k, va0, vc0, n0, hgk, hk, rfl, rfl, HNL, HOR, HBR⟩ := hrel
    have hg : gk = d.steps.length + 1 - k := by omega
    subst hg
    have hsr := HBR.out.size
    have hrl := refC_len d.steps k
    have hrl2 : (refC d.steps k).length ≤ 10400 := by
      have : k * (4 + d.steps.length) ≤ 100 * 104 := Nat.mul_le_mul (by omega) (by omega)
      omega
    have hnl := HNL.out
    have HBW := Lib.hid (HBw0.out.trans (HBR.out.mono (by omega)))
    obtain ⟨p0, p1, p2, -, -, -⟩ := cells3h ((HBR.out.block w.heap.size (by omega)).trans G0.out)
    clear hrl HNL
    by_cases hkl : k < d.steps.length
    · have d1 : decide ((k : Int) < (d.steps.length : Int)) = true := decide_eq_true (by omega)
      have hk1 : (k : Int) < (d.steps.length : Int) := by omega
      obtain ⟨g, off, cap, aa1, ac1, ka1, kc1, ba1, bc1, he, q1, q2, hns0, z0, z1, z2, z3, z4, z5, z6, z7, z8, z9, z10, z11, z12⟩ := (HV0.out.below HBW.out).at hkl
      cases he
      have HCS : Hid (refC d.steps (k + 1) = refV d.steps k d.steps[k] (rangeL k d.steps[k] (refC d.steps k))) := Lib.hid (refC_succ d.steps hkl)
      clear hns0
      generalize hss : d.steps[k] = s at *
      generalize refC d.steps k = l0 at *
      subst hnl
      have hR := rReal_any s.name s.action s.undo aa1 s.after.length ac1 s.most s.first s.factor s.limit (s.note.kind : Int) s.note.text ka1 s.note.keys.length kc1 ba1 s.note.kids.length bc1 s.note.line wr
      unfold stepV at hR
      have HRL := Lib.hid hR
      clear hR
      go_wp2_with fail
      refine HRL.out.mono ?_
      rintro e w5 ⟨rfl, hb5⟩
      have ho5 := HOR.out.below hb5
      have hb5' := bthen HBR.out (by omega) hb5
      have hne5 : (Value.slice va0 l0.length vc0).ownBlock ≠ some w5.heap.size := fun e => by have := (HOR.out.heap _ e).2; have := hb5.size; omega
      have h5s := hb5.size
      unfold rangeL at HCS
      generalize or0 s.most 1 = m at *
      generalize or0 s.factor 1 = fa at *
      generalize or0 s.limit 100 = lm at *
      generalize s.first = fi at *
      clear z0 z1 z2 z3 z4 z5 z6 z7 z8 z9 z10 z11 z12 p0 p1 p2 hb5
      go_upto_region 7 with fail
      have hx := World.alloc_heap_new w5 (.cells #[.string s.name, .string s.action, .string s.undo, .slice aa1 s.after.length ac1, .int .i64 m, .int .i64 fi, .int .i64 fa, .int .i64 lm, .int .u8 (s.note.kind : Int), .string s.note.text, .slice ka1 s.note.keys.length kc1, .slice ba1 s.note.kids.length bc1, .int .i64 s.note.line] 45)
      have hbx : Below w5.heap.size w5 (w5.alloc (.cells #[.string s.name, .string s.action, .string s.undo, .slice aa1 s.after.length ac1, .int .i64 m, .int .i64 fi, .int .i64 fa, .int .i64 lm, .int .u8 (s.note.kind : Int), .string s.note.text, .slice ka1 s.note.keys.length kc1, .slice ba1 s.note.kids.length bc1, .int .i64 s.note.line] 45)) := (Below.refl _ _).alloc (Nat.le_refl _) _
      have HO0 := Lib.hid (ho5.below hbx)
      have HB0 := Lib.hid (bthen hb5' (by omega) hbx)
      have HN0 := Lib.hid hne5
      generalize (w5.alloc (.cells #[.string s.name, .string s.action, .string s.undo, .slice aa1 s.after.length ac1, .int .i64 m, .int .i64 fi, .int .i64 fa, .int .i64 lm, .int .u8 (s.note.kind : Int), .string s.note.text, .slice ka1 s.note.keys.length kc1, .slice ba1 s.note.kids.length bc1, .int .i64 s.note.line] 45)) = V0 at *
      generalize w5.heap.size = T at *
      have HT0 := Lib.hid hx
      have HL0 : Hid (l0.length ≤ l0.length + 0) := Lib.hid (Nat.le_refl _)
      clear hbx ho5 hb5' hne5
      obtain ⟨-, -, z2, -, z4, z5, z6, z7, -⟩ := cells13q hx
      clear hx
      have hl0 := HL0.out
      go_upto_region 7 with fail
      generalize hbb1 : (!(decide (1 ≤ m) && decide (m ≤ 10))) = b1 at *
      go_cut [32] (fun s wx => s = .bool b1 ∧ wx = V0)
      case first =>
        by_cases c1 : m < 1
        · have d3 : decide (m < 1) = true := decide_eq_true c1
          have hb : b1 = true := by rw [← hbb1]; simp; omega
          go_wp2_with fail
          go_meet
          exact ⟨by rw [hb], rfl⟩
        have d3 : decide (m < 1) = false := decide_eq_false c1
        by_cases c2 : 10 < m
        · have d4 : decide (10 < m) = true := decide_eq_true c2
          have hb : b1 = true := by rw [← hbb1]; simp; omega
          go_wp2_with fail
          go_meet
          exact ⟨by rw [hb], rfl⟩
        · have d4 : decide (10 < m) = false := decide_eq_false c2
          have hb : b1 = false := by rw [← hbb1]; simp; omega
          go_wp2_with fail
          go_meet
          exact ⟨by rw [hb], rfl⟩
      case rest =>
      obtain ⟨rfl, rfl⟩ := hcut
      clear hbb1
      go_upto_if 32 with fail
      go_cut [3] (fun s3 wx => ∃ (va : Option Addr) (vc : Nat), s3 = .slice va (noteL l0 b1 ((k : Int), 1, { data := #[109, 111, 115, 116] })).length vc ∧ OwnG wx R va vc (noteL l0 b1 ((k : Int), 1, { data := #[109, 111, 115, 116] })) ∧ wx.heap[T]? = some (.cells #[.string s.name, .string s.action, .string s.undo, .slice aa1 s.after.length ac1, .int .i64 m, .int .i64 fi, .int .i64 fa, .int .i64 lm, .int .u8 (s.note.kind : Int), .string s.note.text, .slice ka1 s.note.keys.length kc1, .slice ba1 s.note.kids.length bc1, .int .i64 s.note.line] 45 (0, 0)) ∧ Below R w4 wx ∧ (Value.slice va (noteL l0 b1 ((k : Int), 1, { data := #[109, 111, 115, 116] })).length vc).ownBlock ≠ some T)
      case first =>
        cases b1 with
        | true =>
          have HN : Hid (noteL l0 true ((k : Int), 1, { data := #[109, 111, 115, 116] }) = l0 ++ [((k : Int), 1, { data := #[109, 111, 115, 116] })]) := Lib.hid rfl
          go_wp2_with (at_builtin; go_must (refine wpList_push rfl _ _ 53 rfl R 105 i0 (.agg #[.int .i64 0, .int .i64 0, .string { data := #[] }]) 3 32 Try.underlying53 hi hz0 hz1 hz2 rfl (by decide) _ _ _ rfl (HO0.out.alloc _) ⟨wc.heap.size, 0, none⟩ 1 1 (encG ((k : Int), 1, { data := #[109, 111, 115, 116] })) rfl rfl cells3_new (encG_one ((k : Int), 1, { data := #[109, 111, 115, 116] })) (by unfold maxLen; omega) (by omega) (by have := HB0.out.size; simp; omega) ?_; intro v' w2 hown' hgrow hfr; obtain ⟨va', vc', rfl, kb1, kb2, kb3⟩ := ownG_pushed HO0.out (by have := HB0.out.size; omega) hown' hgrow; have KB1 := Lib.hid kb1; have KB2 := Lib.hid kb2; have KB3 := Lib.hid kb3; clear hown' hgrow hfr kb1 kb2 kb3))
          go_meet
          have kT := KB3.out _ _ HT0.out (HN0.out)
          exact ⟨va', vc', by rw [HN.out, List.length_append]; rfl, by rw [HN.out]; exact KB1.out, kT, HB0.out.trans KB2.out, by rw [HN.out]; exact KB1.out.ne kT (by decide)⟩
        | false =>
          have HN : Hid (noteL l0 false ((k : Int), 1, { data := #[109, 111, 115, 116] }) = l0) := Lib.hid rfl
          go_wp2_with fail
          go_meet
          exact ⟨_, _, by rw [HN.out], by rw [HN.out]; exact HO0.out, HT0.out, HB0.out, by rw [HN.out]; exact HN0.out⟩
      case rest =>
      obtain ⟨va1, vc1, rfl, ho1, ht1, hb1, hn1⟩ := hcut
      generalize wc = V1 at *
      have HO1 := Lib.hid ho1
      have HT1 := Lib.hid ht1
      have HB1 := Lib.hid hb1
      have HN1 := Lib.hid hn1
      have HL1 : Hid ((noteL l0 b1 ((k : Int), 1, { data := #[109, 111, 115, 116] })).length ≤ l0.length + 1) := Lib.hid (Nat.le_trans (noteL_len _ _ _) (by have := HL0.out; omega))
      clear z2 z4 z5 z6 z7 ho1 hb1 hn1 hl0
      obtain ⟨-, -, z2, -, z4, z5, z6, z7, -⟩ := cells13q ht1
      clear ht1
      generalize hl1 : noteL l0 b1 ((k : Int), 1, { data := #[109, 111, 115, 116] }) = l1 at *
      have hl1 := HL1.out
      go_upto_region 9 with fail
      generalize hbb2 : (!(decide (0 ≤ fi) && decide (fi ≤ 1000))) = b2 at *
      go_cut [47] (fun s wx => s = .bool b2 ∧ wx = V1)
      case first =>
        by_cases c1 : fi < 0
        · have d3 : decide (fi < 0) = true := decide_eq_true c1
          have hb : b2 = true := by rw [← hbb2]; simp; omega
          go_wp2_with fail
          go_meet
          exact ⟨by rw [hb], rfl⟩
        have d3 : decide (fi < 0) = false := decide_eq_false c1
        by_cases c2 : 1000 < fi
        · have d4 : decide (1000 < fi) = true := decide_eq_true c2
          have hb : b2 = true := by rw [← hbb2]; simp; omega
          go_wp2_with fail
          go_meet
          exact ⟨by rw [hb], rfl⟩
        · have d4 : decide (1000 < fi) = false := decide_eq_false c2
          have hb : b2 = false := by rw [← hbb2]; simp; omega
          go_wp2_with fail
          go_meet
          exact ⟨by rw [hb], rfl⟩
      case rest =>
      obtain ⟨rfl, rfl⟩ := hcut
      clear hbb2
      go_upto_if 47 with fail
      go_cut [3] (fun s3 wx => ∃ (va : Option Addr) (vc : Nat), s3 = .slice va (noteL l1 b2 ((k : Int), 1, { data := #[102, 105, 114, 115, 116] })).length vc ∧ OwnG wx R va vc (noteL l1 b2 ((k : Int), 1, { data := #[102, 105, 114, 115, 116] })) ∧ wx.heap[T]? = some (.cells #[.string s.name, .string s.action, .string s.undo, .slice aa1 s.after.length ac1, .int .i64 m, .int .i64 fi, .int .i64 fa, .int .i64 lm, .int .u8 (s.note.kind : Int), .string s.note.text, .slice ka1 s.note.keys.length kc1, .slice ba1 s.note.kids.length bc1, .int .i64 s.note.line] 45 (0, 0)) ∧ Below R w4 wx ∧ (Value.slice va (noteL l1 b2 ((k : Int), 1, { data := #[102, 105, 114, 115, 116] })).length vc).ownBlock ≠ some T)
      case first =>
        cases b2 with
        | true =>
          have HN : Hid (noteL l1 true ((k : Int), 1, { data := #[102, 105, 114, 115, 116] }) = l1 ++ [((k : Int), 1, { data := #[102, 105, 114, 115, 116] })]) := Lib.hid rfl
          go_wp2_with (at_builtin; go_must (refine wpList_push rfl _ _ 53 rfl R 105 i0 (.agg #[.int .i64 0, .int .i64 0, .string { data := #[] }]) 3 32 Try.underlying53 hi hz0 hz1 hz2 rfl (by decide) _ _ _ rfl (HO1.out.alloc _) ⟨wc.heap.size, 0, none⟩ 1 1 (encG ((k : Int), 1, { data := #[102, 105, 114, 115, 116] })) rfl rfl cells3_new (encG_one ((k : Int), 1, { data := #[102, 105, 114, 115, 116] })) (by unfold maxLen; omega) (by omega) (by have := HB1.out.size; simp; omega) ?_; intro v' w2 hown' hgrow hfr; obtain ⟨va', vc', rfl, kb1, kb2, kb3⟩ := ownG_pushed HO1.out (by have := HB1.out.size; omega) hown' hgrow; have KB1 := Lib.hid kb1; have KB2 := Lib.hid kb2; have KB3 := Lib.hid kb3; clear hown' hgrow hfr kb1 kb2 kb3))
          go_meet
          have kT := KB3.out _ _ HT1.out (HN1.out)
          exact ⟨va', vc', by rw [HN.out, List.length_append]; rfl, by rw [HN.out]; exact KB1.out, kT, HB1.out.trans KB2.out, by rw [HN.out]; exact KB1.out.ne kT (by decide)⟩
        | false =>
          have HN : Hid (noteL l1 false ((k : Int), 1, { data := #[102, 105, 114, 115, 116] }) = l1) := Lib.hid rfl
          go_wp2_with fail
          go_meet
          exact ⟨_, _, by rw [HN.out], by rw [HN.out]; exact HO1.out, HT1.out, HB1.out, by rw [HN.out]; exact HN1.out⟩
      case rest =>
      obtain ⟨va2, vc2, rfl, ho2, ht2, hb2, hn2⟩ := hcut
      generalize wc = V2 at *
      have HO2 := Lib.hid ho2
      have HT2 := Lib.hid ht2
      have HB2 := Lib.hid hb2
      have HN2 := Lib.hid hn2
      have HL2 : Hid ((noteL l1 b2 ((k : Int), 1, { data := #[102, 105, 114, 115, 116] })).length ≤ l0.length + 2) := Lib.hid (Nat.le_trans (noteL_len _ _ _) (by have := HL1.out; omega))
      clear z2 z4 z5 z6 z7 ho2 hb2 hn2 hl1
      obtain ⟨-, -, z2, -, z4, z5, z6, z7, -⟩ := cells13q ht2
      clear ht2
      generalize hl2 : noteL l1 b2 ((k : Int), 1, { data := #[102, 105, 114, 115, 116] }) = l2 at *
      have hl2 := HL2.out
      go_upto_region 11 with fail
      generalize hbb3 : (!(decide (1 ≤ fa) && decide (fa ≤ 10))) = b3 at *
      go_cut [62] (fun s wx => s = .bool b3 ∧ wx = V2)
      case first =>
        by_cases c1 : fa < 1
        · have d3 : decide (fa < 1) = true := decide_eq_true c1
          have hb : b3 = true := by rw [← hbb3]; simp; omega
          go_wp2_with fail
          go_meet
          exact ⟨by rw [hb], rfl⟩
        have d3 : decide (fa < 1) = false := decide_eq_false c1
        by_cases c2 : 10 < fa
        · have d4 : decide (10 < fa) = true := decide_eq_true c2
          have hb : b3 = true := by rw [← hbb3]; simp; omega
          go_wp2_with fail
          go_meet
          exact ⟨by rw [hb], rfl⟩
        · have d4 : decide (10 < fa) = false := decide_eq_false c2
          have hb : b3 = false := by rw [← hbb3]; simp; omega
          go_wp2_with fail
          go_meet
          exact ⟨by rw [hb], rfl⟩
      case rest =>
      obtain ⟨rfl, rfl⟩ := hcut
      clear hbb3
      go_upto_if 62 with fail
      go_cut [3] (fun s3 wx => ∃ (va : Option Addr) (vc : Nat), s3 = .slice va (noteL l2 b3 ((k : Int), 1, { data := #[102, 97, 99, 116, 111, 114] })).length vc ∧ OwnG wx R va vc (noteL l2 b3 ((k : Int), 1, { data := #[102, 97, 99, 116, 111, 114] })) ∧ wx.heap[T]? = some (.cells #[.string s.name, .string s.action, .string s.undo, .slice aa1 s.after.length ac1, .int .i64 m, .int .i64 fi, .int .i64 fa, .int .i64 lm, .int .u8 (s.note.kind : Int), .string s.note.text, .slice ka1 s.note.keys.length kc1, .slice ba1 s.note.kids.length bc1, .int .i64 s.note.line] 45 (0, 0)) ∧ Below R w4 wx ∧ (Value.slice va (noteL l2 b3 ((k : Int), 1, { data := #[102, 97, 99, 116, 111, 114] })).length vc).ownBlock ≠ some T)
      case first =>
        cases b3 with
        | true =>
          have HN : Hid (noteL l2 true ((k : Int), 1, { data := #[102, 97, 99, 116, 111, 114] }) = l2 ++ [((k : Int), 1, { data := #[102, 97, 99, 116, 111, 114] })]) := Lib.hid rfl
          go_wp2_with (at_builtin; go_must (refine wpList_push rfl _ _ 53 rfl R 105 i0 (.agg #[.int .i64 0, .int .i64 0, .string { data := #[] }]) 3 32 Try.underlying53 hi hz0 hz1 hz2 rfl (by decide) _ _ _ rfl (HO2.out.alloc _) ⟨wc.heap.size, 0, none⟩ 1 1 (encG ((k : Int), 1, { data := #[102, 97, 99, 116, 111, 114] })) rfl rfl cells3_new (encG_one ((k : Int), 1, { data := #[102, 97, 99, 116, 111, 114] })) (by unfold maxLen; omega) (by omega) (by have := HB2.out.size; simp; omega) ?_; intro v' w2 hown' hgrow hfr; obtain ⟨va', vc', rfl, kb1, kb2, kb3⟩ := ownG_pushed HO2.out (by have := HB2.out.size; omega) hown' hgrow; have KB1 := Lib.hid kb1; have KB2 := Lib.hid kb2; have KB3 := Lib.hid kb3; clear hown' hgrow hfr kb1 kb2 kb3))
          go_meet
          have kT := KB3.out _ _ HT2.out (HN2.out)
          exact ⟨va', vc', by rw [HN.out, List.length_append]; rfl, by rw [HN.out]; exact KB1.out, kT, HB2.out.trans KB2.out, by rw [HN.out]; exact KB1.out.ne kT (by decide)⟩
        | false =>
          have HN : Hid (noteL l2 false ((k : Int), 1, { data := #[102, 97, 99, 116, 111, 114] }) = l2) := Lib.hid rfl
          go_wp2_with fail
          go_meet
          exact ⟨_, _, by rw [HN.out], by rw [HN.out]; exact HO2.out, HT2.out, HB2.out, by rw [HN.out]; exact HN2.out⟩
      case rest =>
      obtain ⟨va3, vc3, rfl, ho3, ht3, hb3, hn3⟩ := hcut
      generalize wc = V3 at *
      have HO3 := Lib.hid ho3
      have HT3 := Lib.hid ht3
      have HB3 := Lib.hid hb3
      have HN3 := Lib.hid hn3
      have HL3 : Hid ((noteL l2 b3 ((k : Int), 1, { data := #[102, 97, 99, 116, 111, 114] })).length ≤ l0.length + 3) := Lib.hid (Nat.le_trans (noteL_len _ _ _) (by have := HL2.out; omega))
      clear z2 z4 z5 z6 z7 ho3 hb3 hn3 hl2
      obtain ⟨-, -, z2, -, z4, z5, z6, z7, -⟩ := cells13q ht3
      clear ht3
      generalize hl3 : noteL l2 b3 ((k : Int), 1, { data := #[102, 97, 99, 116, 111, 114] }) = l3 at *
      have hl3 := HL3.out
      go_upto_region 13 with fail
      generalize hbb4 : (!(decide (1 ≤ lm) && decide (lm ≤ 10000))) = b4 at *
      go_cut [75] (fun s wx => s = .bool b4 ∧ wx = V3)
      case first =>
        by_cases c1 : lm < 1
        · have d3 : decide (lm < 1) = true := decide_eq_true c1
          have hb : b4 = true := by rw [← hbb4]; simp; omega
          go_wp2_with fail
          go_meet
          exact ⟨by rw [hb], rfl⟩
        have d3 : decide (lm < 1) = false := decide_eq_false c1
        by_cases c2 : 10000 < lm
        · have d4 : decide (10000 < lm) = true := decide_eq_true c2
          have hb : b4 = true := by rw [← hbb4]; simp; omega
          go_wp2_with fail
          go_meet
          exact ⟨by rw [hb], rfl⟩
        · have d4 : decide (10000 < lm) = false := decide_eq_false c2
          have hb : b4 = false := by rw [← hbb4]; simp; omega
          go_wp2_with fail
          go_meet
          exact ⟨by rw [hb], rfl⟩
      case rest =>
      obtain ⟨rfl, rfl⟩ := hcut
      clear hbb4
      go_upto_if 75 with fail
      go_cut [3] (fun s3 wx => ∃ (va : Option Addr) (vc : Nat), s3 = .slice va (noteL l3 b4 ((k : Int), 1, { data := #[108, 105, 109, 105, 116] })).length vc ∧ OwnG wx R va vc (noteL l3 b4 ((k : Int), 1, { data := #[108, 105, 109, 105, 116] })) ∧ wx.heap[T]? = some (.cells #[.string s.name, .string s.action, .string s.undo, .slice aa1 s.after.length ac1, .int .i64 m, .int .i64 fi, .int .i64 fa, .int .i64 lm, .int .u8 (s.note.kind : Int), .string s.note.text, .slice ka1 s.note.keys.length kc1, .slice ba1 s.note.kids.length bc1, .int .i64 s.note.line] 45 (0, 0)) ∧ Below R w4 wx ∧ (Value.slice va (noteL l3 b4 ((k : Int), 1, { data := #[108, 105, 109, 105, 116] })).length vc).ownBlock ≠ some T)
      case first =>
        cases b4 with
        | true =>
          have HN : Hid (noteL l3 true ((k : Int), 1, { data := #[108, 105, 109, 105, 116] }) = l3 ++ [((k : Int), 1, { data := #[108, 105, 109, 105, 116] })]) := Lib.hid rfl
          go_wp2_with (at_builtin; go_must (refine wpList_push rfl _ _ 53 rfl R 105 i0 (.agg #[.int .i64 0, .int .i64 0, .string { data := #[] }]) 3 32 Try.underlying53 hi hz0 hz1 hz2 rfl (by decide) _ _ _ rfl (HO3.out.alloc _) ⟨wc.heap.size, 0, none⟩ 1 1 (encG ((k : Int), 1, { data := #[108, 105, 109, 105, 116] })) rfl rfl cells3_new (encG_one ((k : Int), 1, { data := #[108, 105, 109, 105, 116] })) (by unfold maxLen; omega) (by omega) (by have := HB3.out.size; simp; omega) ?_; intro v' w2 hown' hgrow hfr; obtain ⟨va', vc', rfl, kb1, kb2, kb3⟩ := ownG_pushed HO3.out (by have := HB3.out.size; omega) hown' hgrow; have KB1 := Lib.hid kb1; have KB2 := Lib.hid kb2; have KB3 := Lib.hid kb3; clear hown' hgrow hfr kb1 kb2 kb3))
          go_meet
          have kT := KB3.out _ _ HT3.out (HN3.out)
          exact ⟨va', vc', by rw [HN.out, List.length_append]; rfl, by rw [HN.out]; exact KB1.out, kT, HB3.out.trans KB2.out, by rw [HN.out]; exact KB1.out.ne kT (by decide)⟩
        | false =>
          have HN : Hid (noteL l3 false ((k : Int), 1, { data := #[108, 105, 109, 105, 116] }) = l3) := Lib.hid rfl
          go_wp2_with fail
          go_meet
          exact ⟨_, _, by rw [HN.out], by rw [HN.out]; exact HO3.out, HT3.out, HB3.out, by rw [HN.out]; exact HN3.out⟩
      case rest =>
      obtain ⟨va4, vc4, rfl, ho4, ht4, hb4, hn4⟩ := hcut
      generalize wc = V4 at *
      have HO4 := Lib.hid ho4
      have HT4 := Lib.hid ht4
      have HB4 := Lib.hid hb4
      have HN4 := Lib.hid hn4
      have HL4 : Hid ((noteL l3 b4 ((k : Int), 1, { data := #[108, 105, 109, 105, 116] })).length ≤ l0.length + 4) := Lib.hid (Nat.le_trans (noteL_len _ _ _) (by have := HL3.out; omega))
      clear z2 z4 z5 z6 z7 ho4 hb4 hn4 hl3
      obtain ⟨-, -, z2, -, z4, z5, z6, z7, -⟩ := cells13q ht4
      clear ht4
      generalize hl4 : noteL l3 b4 ((k : Int), 1, { data := #[108, 105, 109, 105, 116] }) = l4 at *
      have hl4 := HL4.out
      clear z4 z5 z6 z7
      have HEB : Hid (emp s = s.undo.toList.isEmpty) := Lib.hid rfl
      go_wp2_with fail
      clear z2
      go_loopg [7, 3] (d.steps.length + 1) (fun gk i v wi => ∃ (q : Nat) (va : Option Addr) (vc n : Nat), q + gk = d.steps.length + 1 ∧ q ≤ d.steps.length ∧ i = .int .i64 q ∧ v = .slice va n vc ∧ Hid (n = (refU d.steps k s q l4).length) ∧ Hid (OwnG wi R va vc (refU d.steps k s q l4)) ∧ Hid (wi.heap[T]? = some (.cells #[.string s.name, .string s.action, .string s.undo, .slice aa1 s.after.length ac1, .int .i64 m, .int .i64 fi, .int .i64 fa, .int .i64 lm, .int .u8 (s.note.kind : Int), .string s.note.text, .slice ka1 s.note.keys.length kc1, .slice ba1 s.note.kids.length bc1, .int .i64 s.note.line] 45 (0, 0))) ∧ Hid (Below R w4 wi) ∧ Hid ((Value.slice va n vc).ownBlock ≠ some T) ∧ Hid (emp s = false → q = 0))
      case atStart => exact ⟨0, _, _, _, by omega, by omega, rfl, rfl, Lib.hid rfl, HO4, HT4, HB4, HN4, Lib.hid (fun _ => rfl)⟩
      case round =>
        obtain ⟨q, va, vc, n, hgq, hq, rfl, rfl, HNQ, HOI, HTI, HBI, HNI, HEI⟩ := hrel
        rename World => wi
        have hg : gk = d.steps.length + 1 - q := by omega
        subst hg
        have hn := HNQ.out
        have hsi := HBI.out.size
        have hul := refU_len d.steps k s q l4
        obtain ⟨-, -, z2, -⟩ := cells13q HTI.out
        obtain ⟨p0, p1, p2, -, -, -⟩ := cells3h ((HBI.out.block w.heap.size (by omega)).trans G0.out)
        have HFIN : Hid ((emp s = false ∨ q = d.steps.length) → refC d.steps (k + 1) = refU d.steps k s q l4) := Lib.hid (fun h => by
          rw [HCS.out]
          unfold refV
          cases hes : emp s with
          | true =>
            rcases h with h | h
            · rw [hes] at h; cases h
            · rw [if_pos rfl, h]
          | false => rw [if_neg (by simp), HEI.out hes]; rfl)
        by_cases hql : q < d.steps.length
        · have d5 : decide ((q : Int) < (d.steps.length : Int)) = true := decide_eq_true (by omega)
          have hq1 : (q : Int) < (d.steps.length : Int) := by omega
          by_cases hes : emp s = true
          case neg =>
            have hes2 : emp s = false := by simpa using hes
            have heb : s.undo.toList.isEmpty = false := by rw [← HEB.out]; exact hes2
            have HFE := Lib.hid (HFIN.out (.inl hes2))
            clear hes hes2
            go_wp2_with fail
            go_roundg (d.steps.length + 1 - (k + 1))
            case measure => omega
            case rel => exact ⟨k + 1, va, vc, n, by omega, by omega, by go_num, (by first | rfl | rw [hn]), Lib.hid (by rw [HFE.out]; exact hn), Lib.hid (by rw [HFE.out]; exact HOI.out), HBI⟩
          have hebt : emp s = true := hes
          have heb : s.undo.toList.isEmpty = true := by rw [← HEB.out]; exact hes
          have hri : q < (depsA d.steps 0 d.steps).length := by rw [hdl]; exact hql
          have hrk : (depsA d.steps 0 d.steps)[q] = depsD d.steps q d.steps[q] := by have := depsA_get d.steps d.steps 0 q hql; rw [List.getElem?_eq_getElem hri] at this; simpa using this
          obtain ⟨rg, ro, ra2, rc2, rfl, -, -, y0, hrow⟩ := (HR4.out.below (by rw [hR]; exact HBI.out)).at hri
          rw [hrk] at y0 hrow
          obtain ⟨g3, off3, cap3, aa3, ac3, ka3, kc3, ba3, bc3, he, -, -, hns0, -, -, u2, -⟩ := (HV0.out.below (HBw0.out.trans (HBI.out.mono (by omega)))).at hql
          cases he
          have HEQ0 : Hid (refU d.steps k s (q + 1) l4 = noteL (refU d.steps k s q l4) (decide ((k : Int) ∈ depsD d.steps q d.steps[q]) && !emp d.steps[q]) ((k : Int), 19, s.name)) := Lib.hid (by rw [refU, List.getElem?_eq_getElem hql])
          have HEM : Hid (emp d.steps[q] = d.steps[q].undo.toList.isEmpty) := Lib.hid rfl
          have HHAS := Lib.hid (rHas_any _ (k : Int) _ _ hrow)
          clear hns0 hes hrow hrk
          generalize depsD d.steps q d.steps[q] = row at *
          generalize d.steps[q] = t at *
          generalize hd : decide ((k : Int) ∈ row) = bk at *
          clear hd
          cases bk with
          | false =>
            have HEQ : Hid (refU d.steps k s (q + 1) l4 = refU d.steps k s q l4) := Lib.hid (by rw [HEQ0.out]; rfl)
            go_wp2_with fail
            refine HHAS.out.mono ?_
            rintro e w' ⟨rfl, rfl⟩
            go_wp2_with fail
            go_roundg (d.steps.length + 1 - (q + 1))
            case measure => omega
            case rel => exact ⟨q + 1, va, vc, n, by omega, by omega, by go_num, (by first | rfl | rw [hn]), Lib.hid (by rw [HEQ.out]; exact hn), Lib.hid (by rw [HEQ.out]; exact HOI.out), HTI, HBI, HNI, Lib.hid (fun h => by rw [h] at hebt; cases hebt)⟩
          | true =>
            cases het : t.undo.toList.isEmpty with
            | true =>
              have HEQ : Hid (refU d.steps k s (q + 1) l4 = refU d.steps k s q l4) := Lib.hid (by rw [HEQ0.out, HEM.out, het]; rfl)
              go_wp2_with fail
              refine HHAS.out.mono ?_
              rintro e w' ⟨rfl, rfl⟩
              go_wp2_with fail
              go_roundg (d.steps.length + 1 - (q + 1))
              case measure => omega
              case rel => exact ⟨q + 1, va, vc, n, by omega, by omega, by go_num, (by first | rfl | rw [hn]), Lib.hid (by rw [HEQ.out]; exact hn), Lib.hid (by rw [HEQ.out]; exact HOI.out), HTI, HBI, HNI, Lib.hid (fun h => by rw [h] at hebt; cases hebt)⟩
            | false =>
              have HEQ : Hid (refU d.steps k s (q + 1) l4 = refU d.steps k s q l4 ++ [((k : Int), 19, s.name)]) := Lib.hid (by rw [HEQ0.out, HEM.out, het]; rfl)
              have z0 := (cells13q HTI.out).1
              have hul2 : (refU d.steps k s q l4).length ≤ 20000 := by omega
              generalize refU d.steps k s q l4 = lq at *
              subst hn
              go_wp2_with fail
              refine HHAS.out.mono ?_
              rintro e w' ⟨rfl, rfl⟩
              go_wp2_with (at_builtin; go_must (refine wpList_push rfl _ _ 53 rfl R 105 i0 (.agg #[.int .i64 0, .int .i64 0, .string { data := #[] }]) 3 32 Try.underlying53 hi hz0 hz1 hz2 rfl (by decide) _ _ _ rfl (HOI.out.alloc _) ⟨w'.heap.size, 0, none⟩ 1 1 (encG ((k : Int), 19, s.name)) rfl rfl cells3_new (encG_one ((k : Int), 19, s.name)) (by unfold maxLen; omega) (by omega) (by have := HBI.out.size; simp; omega) ?_; intro v' w2 hown' hgrow hfr; obtain ⟨va', vc', rfl, kb1, kb2, kb3⟩ := ownG_pushed HOI.out (by have := HBI.out.size; omega) hown' hgrow; have KB1 := Lib.hid kb1; have KB2 := Lib.hid kb2; have KB3 := Lib.hid kb3; clear hown' hgrow hfr kb1 kb2 kb3))
              have kT := KB3.out _ _ HTI.out HNI.out
              go_roundg (d.steps.length + 1 - (q + 1))
              case measure => omega
              case rel => exact ⟨q + 1, va', vc', _, by omega, by omega, by go_num, rfl, Lib.hid (by rw [HEQ.out, List.length_append]; rfl), Lib.hid (by rw [HEQ.out]; exact KB1.out), Lib.hid kT, Lib.hid (HBI.out.trans KB2.out), Lib.hid (by have := KB1.out.ne kT (by decide); simpa using this), Lib.hid (fun h => by rw [h] at hebt; cases hebt)⟩
        · have d5 : decide ((q : Int) < (d.steps.length : Int)) = false := decide_eq_false (by omega)
          have hq1 : ¬ (q : Int) < (d.steps.length : Int) := by omega
          have HFE := Lib.hid (HFIN.out (.inr (by omega)))
          go_wp2_with fail
          go_roundg (d.steps.length + 1 - (k + 1))
          case measure => omega
          case rel => exact ⟨k + 1, va, vc, n, by omega, by omega, by go_num, (by first | rfl | rw [hn]), Lib.hid (by rw [HFE.out]; exact hn), Lib.hid (by rw [HFE.out]; exact HOI.out), HBI⟩
    · have d1 : decide ((k : Int) < (d.steps.length : Int)) = false := decide_eq_false (by omega)
      have hk1 : ¬ (k : Int) < (d.steps.length : Int) := by omega
      have hke : k = d.steps.length := by omega
      subst hke
      subst hnl
      have HDG := Lib.hid (HOR.out.read HOKK.out)
      have HOKS := Lib.hid (fun x (hx : x ∈ sortD (refC d.steps d.steps.length)) => HOKK.out x ((sortD_mem _ x).1 hx))
      go_wp2_with fail
      refine (rSort_any _ _ _ HDG.out (by omega)).mono ?_
      rintro e w6 ⟨ua, uc, rfl, ho6, hb6⟩
      have HDF := Lib.hid (ho6.read HOKS.out)
      have HBF := Lib.hid (HBW.out.trans (hb6.mono (by omega)))
      clear ho6 hb6
      go_wp2_with fail
      go_ret
      exact ⟨_, _, rfl, HDF.out, HBF.out⟩
end Go.Proofs.Ytlakmfhpinljjaa

/-
  bounds.Points, Steps; what layer 27's laws ask whatever is asked.
-/
namespace Go.Proofs.Ytlakmfhpinljjaa
open Go Go.RowKit Go.WideShapes

/-- The steps that nothing undoes. -/
def ptsK (all : List StepD) : Nat → List Int
  | 0 => []
  | k + 1 => match all[k]? with
    | some s => if emp s then ptsK all k ++ [(k : Int)] else ptsK all k
    | none => ptsK all k
theorem ptsK_succ (all : List StepD) {k : Nat} (hk : k < all.length) : ptsK all (k + 1) = if emp all[k] then ptsK all k ++ [(k : Int)] else ptsK all k := by
  rw [ptsK, List.getElem?_eq_getElem hk]
theorem ptsK_len (all : List StepD) : ∀ k : Nat, (ptsK all k).length ≤ k
  | 0 => Nat.le_refl _
  | k + 1 => by
    have := ptsK_len all k
    unfold ptsK
    split
    · split
      · simp; omega
      · omega
    · omega

set_option maxRecDepth 100000 in
set_option maxHeartbeats 4000000 in
theorem Points_any (d : DefD) (cs : List Value) (sa : Option Addr) (sc : Nat) (w : World) (h : DefR w cs d sa sc) (hlen : d.steps.length ≤ 1000000) :
    Calls Try.prog 40 #[.agg cs.toArray] w fun e w' => ∃ v, e = .returned v ∧ RdS w' v 1 (ptsK d.steps d.steps.length).length (ints .i64 (ptsK d.steps d.steps.length)) ∧ Below w.heap.size w w' := by
  obtain ⟨i0, hi, hz0, hz1, hz2⟩ := info_parts Try.info_int
  obtain ⟨rfl, hna, hta, hva⟩ := h
  obtain ⟨_, _, he1, hl1, hl2⟩ := hva.form
  cases he1
  have g0 := World.alloc_heap_new w (.cells #[.string d.name, .string d.text, .slice sa d.steps.length sc] 24)
  have hb0 : Below w.heap.size w (w.alloc (.cells #[.string d.name, .string d.text, .slice sa d.steps.length sc] 24)) := (Below.refl _ _).alloc (Nat.le_refl _) _
  obtain ⟨p0, p1, p2, -, -, -⟩ := cells3h g0
  have HVA := Lib.hid hva
  clear hva g0
  go_enter Try.func40, Try.ntmps40
  go_wp2_with fail
  generalize (w.alloc (.cells #[.string d.name, .string d.text, .slice sa d.steps.length sc] 24)) = w1 at *
  have HB0 := Lib.hid hb0
  clear hb0 p0 p1 p2
  go_loopg [9, 3] (d.steps.length + 1) (fun gk i v wr => ∃ (k : Nat) (va : Option Addr) (vc n : Nat), k + gk = d.steps.length + 1 ∧ k ≤ d.steps.length ∧ i = .int .i64 k ∧ v = .slice va n vc ∧ Hid (n = (ptsK d.steps k).length) ∧ Hid (wr.ownsRow w.heap.size 3 1 (.slice va n vc) n (ints .i64 (ptsK d.steps k))) ∧ Hid (Below w.heap.size w wr))
  case atStart => exact ⟨0, _, _, _, by omega, by omega, rfl, rfl, Lib.hid rfl, Lib.hid (World.ownsRow_nil _ _ _ _), HB0⟩
  case round =>
    obtain ⟨k, va, vc, n, hgk, hk, rfl, rfl, HNL, HO, HB⟩ := hrel
    have hg : gk = d.steps.length + 1 - k := by omega
    subst hg
    have hpl := ptsK_len d.steps k
    by_cases hkl : k < d.steps.length
    · have d1 : decide ((k : Int) < (d.steps.length : Int)) = true := decide_eq_true (by omega)
      have hk1 : (k : Int) < (d.steps.length : Int) := by omega
      obtain ⟨g, off, cap, aa1, ac1, ka1, kc1, ba1, bc1, he, q1, q2, hn1, z0, z1, z2, z3, z4, z5, z6, z7, z8, z9, z10, z11, z12⟩ := (HVA.out.below HB.out).at hkl
      cases he
      have HS := ptsK_succ d.steps hkl
      have HEM : Hid (emp d.steps[k] = d.steps[k].undo.toList.isEmpty) := Lib.hid rfl
      rw [HEM.out] at HS
      have HSS := Lib.hid HS
      clear hn1 HS HEM
      have hnl := HNL.out
      generalize d.steps[k] = s at *
      generalize ptsK d.steps k = ol at *
      subst hnl
      go_upto_region 5 with fail
      have hx := World.alloc_heap_new wr (.cells #[.string s.name, .string s.action, .string s.undo, .slice aa1 s.after.length ac1, .int .i64 s.most, .int .i64 s.first, .int .i64 s.factor, .int .i64 s.limit, .int .u8 (s.note.kind : Int), .string s.note.text, .slice ka1 s.note.keys.length kc1, .slice ba1 s.note.kids.length bc1, .int .i64 s.note.line] 45)
      have hbx : Below wr.heap.size wr (wr.alloc (.cells #[.string s.name, .string s.action, .string s.undo, .slice aa1 s.after.length ac1, .int .i64 s.most, .int .i64 s.first, .int .i64 s.factor, .int .i64 s.limit, .int .u8 (s.note.kind : Int), .string s.note.text, .slice ka1 s.note.keys.length kc1, .slice ba1 s.note.kids.length bc1, .int .i64 s.note.line] 45)) := (Below.refl _ _).alloc (Nat.le_refl _) _
      have HOX := Lib.hid (ownsB HO.out hbx)
      have HBX := Lib.hid (HB.out.trans (hbx.mono HB.out.size))
      generalize (wr.alloc (.cells #[.string s.name, .string s.action, .string s.undo, .slice aa1 s.after.length ac1, .int .i64 s.most, .int .i64 s.first, .int .i64 s.factor, .int .i64 s.limit, .int .u8 (s.note.kind : Int), .string s.note.text, .slice ka1 s.note.keys.length kc1, .slice ba1 s.note.kids.length bc1, .int .i64 s.note.line] 45)) = wx at *
      clear z0 z1 z2 z3 z4 z5 z6 z7 z8 z9 z10 z11 z12
      obtain ⟨-, -, z2, -⟩ := cells13q hx
      clear hx hbx
      generalize heb : s.undo.toList.isEmpty = eb at *
      cases eb with
      | false =>
        have HE : Hid (ptsK d.steps (k + 1) = ol) := Lib.hid (by rw [HSS.out]; rfl)
        go_wp2_with fail
        go_roundg (d.steps.length + 1 - (k + 1))
        case measure => omega
        case rel => exact ⟨k + 1, va, vc, _, by omega, by omega, by go_num, rfl, Lib.hid (by rw [HE.out]), Lib.hid (by rw [HE.out]; exact HOX.out), HBX⟩
      | true =>
        have HE : Hid (ptsK d.steps (k + 1) = ol ++ [(k : Int)]) := Lib.hid (by rw [HSS.out]; rfl)
        go_wp2_with (at_builtin; go_must (refine wpList_push rfl _ _ 58 rfl w.heap.size 3 i0 (.int .i64 0) 1 8 Try.underlying58 hi hz0 hz1 hz2 rfl (by decide) _ _ _ rfl (HOX.out.alloc _) ⟨wx.heap.size, 0, none⟩ 1 1 [_] rfl rfl (cell_one_new _ _ _) (by simp [Value.oneCell']) (by unfold maxLen; omega) (by omega) (by have := HBX.out.size; simp; omega) ?_; intro v' w2 hown' hgrow hfr; have HOWN := Lib.hid hown'; have HBG := Lib.hid (below_push HBX.out HBX.out.size HOX.out (Nat.le_refl _) hgrow); clear hown' hgrow hfr))
        obtain ⟨ua', uc', rfl⟩ := (RdS.of_owns HOWN.out).form
        go_roundg (d.steps.length + 1 - (k + 1))
        case measure => omega
        case rel => exact ⟨k + 1, ua', uc', _, by omega, by omega, by go_num, rfl, Lib.hid (by rw [HE.out, List.length_append]; rfl), Lib.hid (by rw [HE.out]; simpa [ints] using HOWN.out), HBG⟩
    · have d1 : decide ((k : Int) < (d.steps.length : Int)) = false := decide_eq_false (by omega)
      have hk1 : ¬ (k : Int) < (d.steps.length : Int) := by omega
      have hke : k = d.steps.length := by omega
      subst hke
      have hnl := HNL.out
      have HR := Lib.hid (RdS.of_owns HO.out)
      go_wp2_with fail
      go_ret
      refine ⟨_, rfl, ?_, HB.out⟩
      have := HR.out
      rw [hnl] at this
      exact this
set_option maxRecDepth 100000 in
set_option maxHeartbeats 4000000 in
theorem Steps_any (d : DefD) (cs : List Value) (sa : Option Addr) (sc : Nat) (w : World) (h : DefR w cs d sa sc) (hlen : d.steps.length ≤ 1000000) :
    Calls Try.prog 41 #[.agg cs.toArray] w fun e w' => e = .returned (.int .i64 ((d.steps.length : Int) - ((ptsK d.steps d.steps.length).length : Int))) ∧ Below w.heap.size w w' := by
  obtain ⟨rfl, hna, hta, hva⟩ := h
  obtain ⟨_, _, he1, hl1, hl2⟩ := hva.form
  cases he1
  have hpl := ptsK_len d.steps d.steps.length
  have g0 := World.alloc_heap_new w (.cells #[.string d.name, .string d.text, .slice sa d.steps.length sc] 24)
  have hb0 : Below w.heap.size w (w.alloc (.cells #[.string d.name, .string d.text, .slice sa d.steps.length sc] 24)) := (Below.refl _ _).alloc (Nat.le_refl _) _
  obtain ⟨p0, p1, p2, -, -, -⟩ := cells3h g0
  have HVA := Lib.hid (hva.below hb0)
  have hwr : IntKind.i64.wrap ((d.steps.length : Int) - ((ptsK d.steps d.steps.length).length : Int)) = (d.steps.length : Int) - ((ptsK d.steps d.steps.length).length : Int) := IntWalk.i64_in _ (by omega)
  clear hva g0
  go_enter Try.func41, Try.ntmps41
  go_wp2_with fail
  generalize (w.alloc (.cells #[.string d.name, .string d.text, .slice sa d.steps.length sc] 24)) = w1 at *
  have HB0 := Lib.hid hb0
  clear hb0
  refine E_region (S := (fun W => W.cell? ⟨w.heap.size, 0, none⟩ = some (.string d.name) ∧ W.cell? ⟨w.heap.size, 1, none⟩ = some (.string d.text) ∧ W.cell? ⟨w.heap.size, 2, none⟩ = some (.slice sa d.steps.length sc))) 6 (by kernel_rfl) ⟨p0, p1, p2⟩ (fun _ _ _ _ _ h => h) (fun Q' hQ hK' hHeld => ?_)
  refine E_take0 hQ (fun _ => hHeld) 0 (v := ?ev1) rfl rfl (by kernel_rfl) (by kernel_rfl) (by kernel_rfl) (by decide) (by rfl) ?ey1 ?er1
  case ey1 => (intro w; go_simp; (try with_reducible rfl))
  (try simp only [Act.put, List.setIfInBounds_toArray, List.set_cons_zero, List.set_cons_succ])
  refine E_take hQ hHeld 1 (v := ?ev2) rfl rfl (by kernel_rfl) (by kernel_rfl) (by kernel_rfl) (by kernel_rfl) (by kernel_rfl) (by rfl) ?ey2 ?er2
  case ey2 => (intro w hSw; (try dsimp only at hSw); go_simp; (try with_reducible rfl))
  (try simp only [Act.put, List.setIfInBounds_toArray, List.set_cons_zero, List.set_cons_succ])
  refine E_take0 hQ (fun _ => hHeld) 2 (v := ?ev3) rfl rfl (by kernel_rfl) (by kernel_rfl) (by kernel_rfl) (by decide) (by rfl) ?ey3 ?er3
  case ey3 => (intro w; go_simp; (try with_reducible rfl))
  (try simp only [Act.put, List.setIfInBounds_toArray, List.set_cons_zero, List.set_cons_succ])
  refine E_take hQ hHeld 3 (v := ?ev4) rfl rfl (by kernel_rfl) (by kernel_rfl) (by kernel_rfl) (by kernel_rfl) (by kernel_rfl) (by rfl) ?ey4 ?er4
  case ey4 => (intro w hSw; (try dsimp only at hSw); go_simp; (try with_reducible rfl))
  (try simp only [Act.put, List.setIfInBounds_toArray, List.set_cons_zero, List.set_cons_succ])
  refine E_one 4 (by kernel_rfl) rfl (by rfl) (fun K hK => ?_)
  go_simp
  refine (Points_any d _ _ _ _ ⟨rfl, hna, hta, HVA.out.below ((Below.refl _ _).drew)⟩ hlen).mono ?_
  rintro e W4 ⟨pv, rfl, hrd, hbl⟩
  obtain ⟨pa, pc, rfl⟩ := hrd.form
  have HBL := Lib.hid hbl
  clear hbl hrd
  refine hK.out _ _ (fun _ _ => ⟨cellB HBL.out hHeld.1, cellB HBL.out hHeld.2.1, cellB HBL.out hHeld.2.2⟩) (fun hHeld' => ?_)
  replace hHeld := hHeld' (by rfl) (by decide)
  clear hK hHeld'
  (try simp only [Act.put, List.setIfInBounds_toArray, List.set_cons_zero, List.set_cons_succ])
  refine E_take0 hQ (fun _ => hHeld) 5 (v := ?ev5) rfl rfl (by kernel_rfl) (by kernel_rfl) (by kernel_rfl) (by decide) (by rfl) ?ey5 ?er5
  case ey5 => (intro w; go_simp; (try with_reducible rfl))
  (try simp only [Act.put, List.setIfInBounds_toArray, List.set_cons_zero, List.set_cons_succ])
  refine E_one 6 (by kernel_rfl) rfl (by rfl) (fun K hK => ?_)
  go_simp
  (try simp only [Act.put, List.setIfInBounds_toArray, List.set_cons_zero, List.set_cons_succ])
  refine hK.out _ _ (fun _ h => absurd rfl h) (fun _ => ?_)
  clear hK hHeld
  (try simp only [Act.put, List.setIfInBounds_toArray, List.set_cons_zero, List.set_cons_succ])
  refine E_take0 hQ (fun h => absurd h (by decide)) 7 (v := ?ev6) rfl rfl (by kernel_rfl) (by kernel_rfl) (by kernel_rfl) (by decide) (by rfl) ?ey6 ?er6
  case ey6 => (intro w; go_simp; (try with_reducible rfl))
  (try simp only [Act.put, List.setIfInBounds_toArray, List.set_cons_zero, List.set_cons_succ])
  refine E_done (by kernel_rfl) ?_ _
  refine hK'.out _ _ ?_
  go_wp2
  go_ret
  exact ⟨rfl, bthen HB0.out.drew (Nat.le_refl _) (HBL.out.mono (by have := HB0.out.size; exact Nat.le_refl _))⟩

def s27a : StepD := ⟨{ data := #[97] }, { data := #[] }, { data := #[] }, [], 11, 0, 0, 0, .mk 0 { data := #[] } [] [] 0⟩
def s27b : StepD := ⟨{ data := #[98] }, { data := #[] }, { data := #[117] }, [{ data := #[97] }], 0, 0, 0, 0, .mk 0 { data := #[] } [] [] 0⟩
def d27 : DefD := ⟨{ data := #[] }, { data := #[] }, [s27a, s27b]⟩
structure At27 (W : World) (g1 g2 : Nat) : Prop where
  b1 : W.heap[g1]? = some (.cells #[.string { data := #[97] }] 9 (0, 0))
  b2 : W.heap[g2]? = some (.cells #[.string { data := #[97] }, .string { data := #[] }, .string { data := #[] }, .slice none 0 0, .int .i64 11, .int .i64 0, .int .i64 0, .int .i64 0, .int .u8 0, .string { data := #[] }, .slice none 0 0, .slice none 0 0, .int .i64 0, .string { data := #[98] }, .string { data := #[] }, .string { data := #[117] }, .slice (some ⟨g1, 0, none⟩) 1 1, .int .i64 0, .int .i64 0, .int .i64 0, .int .i64 0, .int .u8 0, .string { data := #[] }, .slice none 0 0, .slice none 0 0, .int .i64 0] 45 (0, 0))
theorem At27.below {W W' : World} {g1 g2 : Nat} (h : At27 W g1 g2) (hb : Below W.heap.size W W') : At27 W' g1 g2 :=
  ⟨(hb.block _ (Array.getElem?_eq_some_iff.1 h.b1).1).trans h.b1, (hb.block _ (Array.getElem?_eq_some_iff.1 h.b2).1).trans h.b2⟩
theorem At27.toR {W : World} {g1 g2 : Nat} (h : At27 W g1 g2) : DefR W [.string { data := #[] }, .string { data := #[] }, .slice (some ⟨g2, 0, none⟩) 2 2] d27 (some ⟨g2, 0, none⟩) 2 := by
  refine ⟨rfl, by decide, by decide, [[.string { data := #[97] }, .string { data := #[] }, .string { data := #[] }, .slice none 0 0, .int .i64 11, .int .i64 0, .int .i64 0, .int .i64 0, .int .u8 0, .string { data := #[] }, .slice none 0 0, .slice none 0 0, .int .i64 0], [.string { data := #[98] }, .string { data := #[] }, .string { data := #[117] }, .slice (some ⟨g1, 0, none⟩) 1 1, .int .i64 0, .int .i64 0, .int .i64 0, .int .i64 0, .int .u8 0, .string { data := #[] }, .slice none 0 0, .slice none 0 0, .int .i64 0]], rfl, rds_row 2 13 h.b2 rfl (by decide), fun i r s hr hs => ?_⟩
  rcases i with _ | _ | i
  · cases hr
    cases hs
    exact ⟨none, 0, none, 0, none, 0, rfl, ⟨by decide, by decide, by decide, (fun a ha => by cases ha), by unfold I64w; decide, by unfold I64w; decide, by unfold I64w; decide, by unfold I64w; decide⟩, ⟨rfl, none, 0, rfl, Nat.le_refl _, Nat.zero_le _, .inl rfl⟩, node_none W⟩
  · cases hr
    cases hs
    exact ⟨some ⟨g1, 0, none⟩, 1, none, 0, none, 0, rfl, ⟨by decide, by decide, by decide, fun a ha => by simp only [s27b, List.mem_singleton] at ha; subst ha; decide, by unfold I64w; decide, by unfold I64w; decide, by unfold I64w; decide, by unfold I64w; decide⟩, rds_row 1 1 h.b1 rfl (by decide), node_none W⟩
  · simp at hr
theorem d27_chk : chkU d27.steps d27.steps.length (chkR 0 d27.steps []) = [(0, 1, { data := #[109, 111, 115, 116] }), (0, 19, { data := #[97] })] := by decide +kernel
theorem d27_sort : sortD (chkU d27.steps d27.steps.length (chkR 0 d27.steps [])) = [(0, 1, { data := #[109, 111, 115, 116] }), (0, 19, { data := #[97] })] := by rw [d27_chk]; decide +kernel
theorem d27_pts : ptsK d27.steps d27.steps.length = [0] := by decide +kernel
theorem d27_refs : (refsF d27.steps 0 d27.steps).length ≤ 1000000 := by decide +kernel
theorem c27_check {W0 W : World} {g1 g2 : Nat} (h : At27 W0 g1 g2) (hb : Below W0.heap.size W0 W) : Calls Try.prog 35 #[.agg #[.string { data := #[] }, .string { data := #[] }, .slice (some ⟨g2, 0, none⟩) 2 2]] W fun e w' => ∃ va vc, e = .returned (.slice va 2 vc) ∧ DgR w' (.slice va 2 vc) [(0, 1, { data := #[109, 111, 115, 116] }), (0, 19, { data := #[97] })] ∧ Below W.heap.size W w' := by
  have := bCheck_any d27 _ _ _ W (h.below hb).toR (by decide) (by decide +kernel) d27_refs (by
    rw [d27_chk]
    intro x hx
    simp at hx
    rcases hx with rfl | rfl
    · exact ⟨by unfold I64w; decide, by unfold I64w; decide, by decide⟩
    · exact ⟨by unfold I64w; decide, by unfold I64w; decide, by decide⟩)
  rw [d27_sort] at this
  exact this
theorem c27_points {W0 W : World} {g1 g2 : Nat} (h : At27 W0 g1 g2) (hb : Below W0.heap.size W0 W) : Calls Try.prog 40 #[.agg #[.string { data := #[] }, .string { data := #[] }, .slice (some ⟨g2, 0, none⟩) 2 2]] W fun e w' => ∃ v, e = .returned v ∧ RdS w' v 1 1 (ints .i64 [0]) ∧ Below W.heap.size W w' := by
  have := Points_any d27 _ _ _ W (h.below hb).toR (by decide)
  rw [d27_pts] at this
  exact this
theorem c27_steps {W0 W : World} {g1 g2 : Nat} (h : At27 W0 g1 g2) (hb : Below W0.heap.size W0 W) : Calls Try.prog 41 #[.agg #[.string { data := #[] }, .string { data := #[] }, .slice (some ⟨g2, 0, none⟩) 2 2]] W fun e w' => e = .returned (.int .i64 1) ∧ Below W.heap.size W w' := by
  have := Steps_any d27 _ _ _ W (h.below hb).toR (by decide)
  rw [d27_pts] at this
  exact this
theorem c27_real (W : World) : Calls Try.prog 38 #[.agg #[.string { data := #[] }, .string { data := #[] }, .string { data := #[] }, .slice none 0 0, .int .i64 0, .int .i64 0, .int .i64 0, .int .i64 0, .int .u8 0, .string { data := #[] }, .slice none 0 0, .slice none 0 0, .int .i64 0]] W fun e w' => e = .returned (.agg #[.string { data := #[] }, .string { data := #[] }, .string { data := #[] }, .slice none 0 0, .int .i64 1, .int .i64 0, .int .i64 1, .int .i64 100, .int .u8 0, .string { data := #[] }, .slice none 0 0, .slice none 0 0, .int .i64 0]) ∧ Below W.heap.size W w' :=
  Real_any { data := #[] } { data := #[] } { data := #[] } none 0 0 0 0 0 0 0 { data := #[] } none 0 0 none 0 0 0 W
set_option maxRecDepth 100000 in
set_option maxHeartbeats 4000000 in
theorem live27_any (w : World) : Calls Try.prog 33 #[] w fun e w' => e = .returned (.bool true) ∧ Below w.heap.size w w' := by
  go_enter Try.func33, Try.ntmps33
  go_wp2_with fail
  obtain ⟨h1, h2, h3, h4, h5⟩ := alloc3 w 9 45 24 #[.string { data := #[97] }] #[.string { data := #[97] }, .string { data := #[] }, .string { data := #[] }, .slice none 0 0, .int .i64 11, .int .i64 0, .int .i64 0, .int .i64 0, .int .u8 0, .string { data := #[] }, .slice none 0 0, .slice none 0 0, .int .i64 0, .string { data := #[98] }, .string { data := #[] }, .string { data := #[117] }, .slice (some ⟨w.heap.size, 0, none⟩) 1 1, .int .i64 0, .int .i64 0, .int .i64 0, .int .i64 0, .int .u8 0, .string { data := #[] }, .slice none 0 0, .slice none 0 0, .int .i64 0] #[.string { data := #[] }, .string { data := #[] }, .slice (some ⟨w.heap.size + 1, 0, none⟩) 2 2]
  generalize (((w.alloc (.cells #[.string { data := #[97] }] 9)).alloc (.cells #[.string { data := #[97] }, .string { data := #[] }, .string { data := #[] }, .slice none 0 0, .int .i64 11, .int .i64 0, .int .i64 0, .int .i64 0, .int .u8 0, .string { data := #[] }, .slice none 0 0, .slice none 0 0, .int .i64 0, .string { data := #[98] }, .string { data := #[] }, .string { data := #[117] }, .slice (some ⟨w.heap.size, 0, none⟩) 1 1, .int .i64 0, .int .i64 0, .int .i64 0, .int .i64 0, .int .u8 0, .string { data := #[] }, .slice none 0 0, .slice none 0 0, .int .i64 0] 45)).alloc (.cells #[.string { data := #[] }, .string { data := #[] }, .slice (some ⟨w.heap.size + 1, 0, none⟩) 2 2] 24)) = w1 at *
  have H27 : Hid (At27 w1 w.heap.size (w.heap.size + 1)) := Lib.hid ⟨h2, h3⟩
  have HB1 := Lib.hid h1
  have HD1 := Lib.hid h4
  have hs1 : w.heap.size + 2 < w1.heap.size := (Array.getElem?_eq_some_iff.1 h4).1
  clear h1 h2 h3 h4 h5
  refine (c27_check H27.out (Below.refl _ _)).mono ?_
  rintro e w2 ⟨va, vc, rfl, hdg, hb2⟩
  have HDG := Lib.hid hdg
  have HB2 := Lib.hid hb2
  clear hdg hb2
  go_wp2_with fail
  refine (c27_real _).mono ?_
  rintro e w3 ⟨rfl, hb3⟩
  have HB3 := Lib.hid (bthen HB2.out (Nat.le_refl _) hb3)
  have HDG3 := Lib.hid (HDG.out.below hb3)
  clear hb3
  go_upto_region 4 with fail
  have hx := World.alloc_heap_new w3 (.cells #[.string { data := #[] }, .string { data := #[] }, .string { data := #[] }, .slice none 0 0, .int .i64 1, .int .i64 0, .int .i64 1, .int .i64 100, .int .u8 0, .string { data := #[] }, .slice none 0 0, .slice none 0 0, .int .i64 0] 45)
  have hbx : Below w3.heap.size w3 (w3.alloc (.cells #[.string { data := #[] }, .string { data := #[] }, .string { data := #[] }, .slice none 0 0, .int .i64 1, .int .i64 0, .int .i64 1, .int .i64 100, .int .u8 0, .string { data := #[] }, .slice none 0 0, .slice none 0 0, .int .i64 0] 45)) := (Below.refl _ _).alloc (Nat.le_refl _) _
  have HB4 := Lib.hid (bthen HB3.out (by have := HB3.out.size; exact Nat.le_refl _) hbx)
  have HDG4 := Lib.hid (HDG3.out.below hbx)
  generalize (w3.alloc (.cells #[.string { data := #[] }, .string { data := #[] }, .string { data := #[] }, .slice none 0 0, .int .i64 1, .int .i64 0, .int .i64 1, .int .i64 100, .int .u8 0, .string { data := #[] }, .slice none 0 0, .slice none 0 0, .int .i64 0] 45)) = w4 at *
  have hTl := (Array.getElem?_eq_some_iff.1 hx).1
  generalize w3.heap.size = T at *
  obtain ⟨p0, p1, p2, -, -, -⟩ := cells3h ((HB4.out.block _ (by omega)).trans HD1.out)
  clear hbx
  go_wp2_with fail
  refine (c27_points H27.out HB4.out).mono ?_
  rintro e w5 ⟨v5, rfl, hrd, hb5⟩
  have HB5 := Lib.hid (bthen HB4.out (by have := HB4.out.size; exact Nat.le_refl _) hb5)
  clear p0 p1 p2
  obtain ⟨p0, p1, p2, -, -, -⟩ := cells3h ((HB5.out.block _ (by omega)).trans HD1.out)
  obtain ⟨r0, r1, r2, r3, r4, r5, r6, r7, -⟩ := cells13q ((hb5.block T hTl).trans hx)
  have hdg5 := HDG4.out.below hb5
  obtain ⟨g, off, cap, he, -, hcap, y0, y1, y2⟩ := hdg5.at (i := 0) (by decide)
  obtain ⟨_, _, _, he2, -, -, x0, x1, x2⟩ := hdg5.at (i := 1) (by decide)
  cases he
  cases he2
  obtain ⟨a5, c5, rfl⟩ := hrd.form
  obtain ⟨g5, o5, rfl, -, -, u0⟩ := ints_at (l := [0]) hrd (i := 0) (by decide)
  simp only [Nat.zero_mul, Nat.add_zero, Nat.one_mul, List.getElem_cons_zero, List.getElem_cons_succ] at y0 y1 y2 x0 x1 x2 u0
  clear hdg5 hrd hx hb5
  go_wp2_with fail
  refine (c27_steps H27.out HB5.out).mono ?_
  rintro e w6 ⟨rfl, hb6⟩
  have HBF := Lib.hid (HB1.out.trans ((bthen HB5.out (by have := HB5.out.size; exact Nat.le_refl _) hb6).mono (by have := HB1.out.size; omega)))
  clear p0 p1 p2 r0 r1 r2 r3 r4 r5 r6 r7 y0 y1 y2 x0 x1 x2 u0 hb6
  go_wp2_with fail
  go_ret
  exact ⟨rfl, HBF.out⟩
end Go.Proofs.Ytlakmfhpinljjaa

/-
  The law BoundsChecks: walk.
-/
namespace Go.Proofs.Ytlakmfhpinljjaa
open Go Go.RowKit Go.WideShapes

theorem refsF_len (all : List StepD) {m : Nat} : ∀ (l : List StepD) (i : Nat), (∀ s ∈ l, s.after.length ≤ m) → (refsF all i l).length ≤ l.length * m
  | [], i, _ => by simp [refsF]
  | s :: l, i, h => by
    rw [refsF, List.length_append, List.length_cons, Nat.add_mul, Nat.one_mul]
    have h1 := refsF_len all l (i + 1) (fun t ht => h t (by simp [ht]))
    have h2 := h s (by simp)
    unfold rowRf
    rw [List.length_map]
    omega
theorem chk_ok {d : DefD} (hs : SmallD d) : ∀ x ∈ chkU d.steps d.steps.length (chkR 0 d.steps []), OkG x := by
  intro x hx
  have hl := hs.steps
  rw [chkU_mem, chkR_mem] at hx
  rcases hx with (h | ⟨i, s, hi, h⟩) | ⟨q, u, t, s, hq, hu, h1, h2, h3, h4, rfl⟩
  · cases h
  · have hil : i < d.steps.length := (List.getElem?_eq_some_iff.1 hi).1
    unfold rangeL at h
    simp only [noteL_mem, List.not_mem_nil, false_or] at h
    rcases h with ((⟨-, rfl⟩ | ⟨-, rfl⟩) | ⟨-, rfl⟩) | ⟨-, rfl⟩
    all_goals exact ⟨by unfold I64w; simp only; omega, by unfold I64w; simp only; omega, by simp only; decide⟩
  · obtain ⟨n, rfl, hn⟩ := depsD_in d.steps q u t h2
    have := (hs.each s (List.mem_of_getElem? h3)).name
    exact ⟨by unfold I64w; simp only; omega, by unfold I64w; simp only; omega, by unfold maxLen; simp only; omega⟩
theorem ref_ok {d : DefD} (hs : SmallD d) : ∀ x ∈ refC d.steps d.steps.length, OkG x := by
  intro x hx
  have := (sortD_mem _ x).2 hx
  rw [checks_alike] at this
  exact chk_ok hs x ((sortD_mem _ x).1 this)

set_option maxRecDepth 100000 in
set_option maxHeartbeats 8000000 in
theorem BoundsChecks_any (d : DefD) (sa : Option Addr) (sc : Nat) (w : World) (h : DefR w [.string d.name, .string d.text, .slice sa d.steps.length sc] d sa sc) :
    Calls Try.prog 8 #[.agg #[.string d.name, .string d.text, .slice sa d.steps.length sc]] w fun e w' => e = .returned (.bool true) ∧ Below w.heap.size w w' := by
  have hb0 := (Below.refl w.heap.size w).alloc (Nat.le_refl _) (.cells #[.string d.name, .string d.text, .slice sa d.steps.length sc] 24)
  have HD := Lib.hid (h.below hb0)
  have HG := Lib.hid (World.alloc_heap_new w (.cells #[.string d.name, .string d.text, .slice sa d.steps.length sc] 24))
  clear h
  go_enter Try.func8, Try.ntmps8
  go_upto_region 1 with fail
  generalize w.alloc (.cells #[.string d.name, .string d.text, .slice sa d.steps.length sc] 24) = w0 at *
  have HB0 := Lib.hid hb0
  have hlt := (Array.getElem?_eq_some_iff.1 HG.out).1
  clear hb0
  go_wp2_with fail
  refine (live27_any _).mono ?_
  rintro e w1 ⟨rfl, hb1⟩
  have HB1 := Lib.hid (bthen HB0.out (Nat.le_refl _) hb1)
  have HD1 := Lib.hid (HD.out.below hb1)
  have HG1 := Lib.hid ((hb1.block _ hlt).trans HG.out)
  obtain ⟨q0, q1, q2, -, -, -⟩ := cells3h HG1.out
  clear hb1
  go_wp2_with fail
  refine (rdSmall_any d _ _ _ w1 HD1.out).mono ?_
  rintro e w2 ⟨rfl, hb2⟩
  clear q0 q1 q2
  have HB2 := Lib.hid (bthen HB1.out (Nat.le_refl _) hb2)
  have HD2 := Lib.hid (HD1.out.below hb2)
  have hlt1 := (Array.getElem?_eq_some_iff.1 HG1.out).1
  have HG2 := Lib.hid ((hb2.block _ hlt1).trans HG1.out)
  obtain ⟨q0, q1, q2, -, -, -⟩ := cells3h HG2.out
  clear hb2
  rcases hsm : smallDef d with _ | _
  · clear hsm
    go_wp2
    go_ret
    exact ⟨rfl, HB2.out⟩
  have HSM := Lib.hid (smallDef_of hsm)
  clear hsm
  have hst : d.steps.length ≤ 100 := Nat.le_trans HSM.out.steps (by decide)
  have haf : ∀ s ∈ d.steps, s.after.length ≤ 100 := fun s hs => Nat.le_trans (HSM.out.each s hs).after (by decide)
  have hrf : (refsF d.steps 0 d.steps).length ≤ 1000000 := by
    have := refsF_len d.steps d.steps 0 haf
    have : d.steps.length * 100 ≤ 100 * 100 := Nat.mul_le_mul_right _ hst
    omega
  have HOK := Lib.hid (chk_ok HSM.out)
  have HOR := Lib.hid (ref_ok HSM.out)
  have hsl : (sortD (chkU d.steps d.steps.length (chkR 0 d.steps []))).length ≤ 1000000 := by
    have h1 := sortD_len (chkU d.steps d.steps.length (chkR 0 d.steps []))
    have h2 := chkU_len d.steps haf d.steps.length (chkR 0 d.steps [])
    have h3 := chkR_len d.steps 0 []
    have : d.steps.length * 100 ≤ 100 * 100 := Nat.mul_le_mul_right _ hst
    simp only [List.length_nil] at h3
    omega
  have HEQ : Hid (decide (sortD (chkU d.steps d.steps.length (chkR 0 d.steps [])) = sortD (refC d.steps d.steps.length)) = true) := Lib.hid (decide_eq_true (checks_alike d.steps).symm)
  go_wp2_with fail
  have HX0 : Hid (Below w2.heap.size w2 w2.drew) := Lib.hid ((Below.refl _ _).drew)
  refine E_region (S := (fun W => W.cell? ⟨w.heap.size, 0, none⟩ = some (.string d.name) ∧ W.cell? ⟨w.heap.size, 1, none⟩ = some (.string d.text) ∧ W.cell? ⟨w.heap.size, 2, none⟩ = some (.slice sa d.steps.length sc))) 3 (by kernel_rfl) ⟨q0, q1, q2⟩ (fun _ _ _ _ _ h => h) (fun Q' hQ hK' hHeld => ?_)
  refine E_take hQ hHeld 0 (v := ?zv1) rfl rfl (by kernel_rfl) (by kernel_rfl) (by kernel_rfl) (by kernel_rfl) (by kernel_rfl) (by rfl) ?zy1 ?zr1
  case zy1 => (intro w hSw; (try dsimp only at hSw); go_simp; (try with_reducible rfl))
  (try simp only [Act.put, List.setIfInBounds_toArray, List.set_cons_zero, List.set_cons_succ])
  refine E_take hQ hHeld 2 (v := ?zv2) rfl rfl (by kernel_rfl) (by kernel_rfl) (by kernel_rfl) (by kernel_rfl) (by kernel_rfl) (by rfl) ?zy2 ?zr2
  case zy2 => (intro w hSw; (try dsimp only at hSw); go_simp; (try with_reducible rfl))
  (try simp only [Act.put, List.setIfInBounds_toArray, List.set_cons_zero, List.set_cons_succ])
  refine E_one 1 (by kernel_rfl) rfl (by rfl) (fun K hK => ?_)
  go_simp
  refine (bCheck_any d _ _ _ _ (HD2.out.below HX0.out) hst haf hrf HOK.out).mono ?_
  rintro e V1 ⟨ua, uc, rfl, hdg, hb⟩
  have HDG1 := Lib.hid hdg
  have HY1 := Lib.hid hb
  have HX1 : Hid (Below w2.heap.size w2 V1) := Lib.hid (bthen HX0.out (Nat.le_refl _) hb)
  clear hb hdg
  refine hK.out _ _ (fun _ _ => ⟨cellB HY1.out hHeld.1, cellB HY1.out hHeld.2.1, cellB HY1.out hHeld.2.2⟩) (fun hHeld' => ?_)
  replace hHeld := hHeld' (by rfl) (by decide)
  clear hK hHeld'
  (try simp only [Act.put, List.setIfInBounds_toArray, List.set_cons_zero, List.set_cons_succ])
  refine E_one 3 (by kernel_rfl) rfl (by rfl) (fun K hK => ?_)
  go_simp
  refine (rbCheck_any d _ _ _ _ (HD2.out.below HX1.out) hst haf HOR.out).mono ?_
  rintro e V3 ⟨ta, tc, rfl, hdg, hb⟩
  have HDG3 := Lib.hid hdg
  have HDG2 := Lib.hid (HDG1.out.below hb)
  have HX3 : Hid (Below w2.heap.size w2 V3) := Lib.hid (bthen HX1.out (by have := HX1.out.size; exact Nat.le_refl _) hb)
  clear hb hdg
  refine hK.out _ _ (fun _ h => absurd rfl h) (fun _ => ?_)
  clear hK hHeld
  (try simp only [Act.put, List.setIfInBounds_toArray, List.set_cons_zero, List.set_cons_succ])
  refine E_one 4 (by kernel_rfl) rfl (by rfl) (fun K hK => ?_)
  go_simp
  refine (rSameG_any _ _ _ _ _ HDG2.out HDG3.out hsl).mono ?_
  rintro e V4 hq
  obtain ⟨nq, rfl, rfl⟩ := hq
  rw [HEQ.out]
  refine hK.out _ _ (fun h => absurd h (by decide)) (fun _ => ?_)
  clear hK
  (try simp only [Act.put, List.setIfInBounds_toArray, List.set_cons_zero, List.set_cons_succ])
  refine E_take0 hQ (fun h => absurd h (by decide)) 5 (v := ?zv3) rfl rfl (by kernel_rfl) (by kernel_rfl) (by kernel_rfl) (by decide) (by rfl) ?zy3 ?zr3
  case zy3 => (intro w; go_simp; (try with_reducible rfl))
  (try simp only [Act.put, List.setIfInBounds_toArray, List.set_cons_zero, List.set_cons_succ])
  refine E_done (by kernel_rfl) ?_ _
  refine hK'.out _ _ ?_
  go_wp2
  go_ret
  exact ⟨rfl, bthen HB2.out (Nat.le_refl _) (belowN HX3.out nq)⟩
end Go.Proofs.Ytlakmfhpinljjaa
