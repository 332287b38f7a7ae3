/-
  Plain: steps whose names (and wherever they are named) a text is put ahead of come behind one another as before.
-/
import Derived.Test.YtkgcpbhlbfjcoaaBq9
import Derived.Test.YtkgcpbhlbfjcoaaBq35
import Derived.Test.YtkgcpbhlbfjcoaaBq45
namespace Go.Proofs.Ytkgcpbhlbfjcoaa
open Go

theorem ahead_inj {p a b : ByteArray} : p ++ a = p ++ b ↔ a = b := by
  constructor
  · intro h
    have h1 : (p ++ a).data = (p ++ b).data := by rw [h]
    rw [ByteArray.data_append, ByteArray.data_append] at h1
    have h2 : (p.data ++ a.data).toList = (p.data ++ b.data).toList := by rw [h1]
    rw [Array.toList_append, Array.toList_append] at h2
    exact ByteArray.ext (Array.toList_inj.1 (List.append_cancel_left h2))
  · rintro rfl
    rfl
/-- A text ahead of a step's name, and of each that it comes behind. -/
def renS (p : ByteArray) (s : StepD) : StepD := { s with name := p ++ s.name, after := s.after.map (p ++ ·) }
theorem idxStep_ren (p n : ByteArray) : ∀ (l : List StepD) (i : Nat), idxStep (l.map (renS p)) (p ++ n) i = idxStep l n i
  | [], _ => rfl
  | a :: l, i => by
    rw [List.map_cons, idxStep, idxStep, idxStep_ren p n l (i + 1)]
    show (if p ++ a.name = p ++ n then _ else _) = _
    by_cases h : a.name = n
    · rw [if_pos h, if_pos (by rw [h])]
    · rw [if_neg h, if_neg (fun e => h (ahead_inj.1 e))]
theorem depsD_ren (p : ByteArray) (all : List StepD) (i : Nat) (s : StepD) : depsD (all.map (renS p)) i (renS p s) = depsD all i s := by
  unfold depsD
  show (((s.after.map (p ++ ·)).map fun a => idxStep (all.map (renS p)) a 0).foldl (addRf i) []) = _
  rw [List.map_map]
  congr 1
  exact List.map_congr_left fun a _ => idxStep_ren p a all 0
theorem depsA_ren (p : ByteArray) (all : List StepD) : ∀ (l : List StepD) (i : Nat), depsA (all.map (renS p)) i (l.map (renS p)) = depsA all i l
  | [], _ => rfl
  | s :: l, i => by rw [List.map_cons, depsA, depsA, depsD_ren, depsA_ren p all l (i + 1)]
/-- A reference, renamed. -/
def renR (p : ByteArray) (r : RefD) : RefD := (r.1, p ++ r.2.1, r.2.2)
theorem rowRf_ren (p : ByteArray) (all : List StepD) (i : Nat) (s : StepD) : rowRf (all.map (renS p)) i (renS p s) = (rowRf all i s).map (renR p) := by
  unfold rowRf
  show ((s.after.map (p ++ ·)).map fun a => ((i, a, idxStep (all.map (renS p)) a 0) : RefD)) = _
  rw [List.map_map, List.map_map]
  refine List.map_congr_left fun a _ => ?_
  show ((i, p ++ a, idxStep (all.map (renS p)) (p ++ a) 0) : RefD) = (i, p ++ a, idxStep all a 0)
  rw [idxStep_ren]
theorem refsF_ren (p : ByteArray) (all : List StepD) : ∀ (l : List StepD) (i : Nat), refsF (all.map (renS p)) i (l.map (renS p)) = (refsF all i l).map (renR p)
  | [], _ => rfl
  | s :: l, i => by rw [List.map_cons, refsF, refsF, rowRf_ren, refsF_ren p all l (i + 1), List.map_append]
theorem missL_ren (p : ByteArray) (l : List RefD) : missL (l.map (renR p)) = (missL l).map (p ++ ·) := by
  induction l using snocRec with
  | h0 => rfl
  | h1 l r ih =>
    rw [List.map_append, List.map_singleton, missL_snoc, missL_snoc, ih]
    unfold addM
    have hm : hasS ((missL l).map (p ++ ·)) (p ++ r.2.1) = hasS (missL l) r.2.1 := by
      rw [Bool.eq_iff_iff]
      unfold hasS
      simp only [List.mem_map, List.contains_iff_mem]
      constructor
      · rintro ⟨x, hx, e⟩
        rw [← ahead_inj.1 e]
        exact hx
      · exact fun h => ⟨_, h, rfl⟩
    show (if r.2.2 < 0 ∧ hasS ((missL l).map (p ++ ·)) (p ++ r.2.1) = false then (missL l).map (p ++ ·) ++ [p ++ r.2.1] else (missL l).map (p ++ ·)) = _
    rw [hm]
    by_cases h : r.2.2 < 0 ∧ hasS (missL l) r.2.1 = false
    · rw [if_pos h, if_pos h, List.map_append, List.map_singleton]
    · rw [if_neg h, if_neg h]
end Go.Proofs.Ytkgcpbhlbfjcoaa

/-
  rescriptref25: among, Missing: contracts.
-/
namespace Go.Proofs.Ytkgcpbhlbfjcoaa
open Go Go.RowKit Go.WideShapes

/-- A list of texts that the call owns. -/
def OwnT (W : World) (B : Nat) (va : Option Addr) (vc : Nat) (l : List ByteArray) : Prop := W.ownsRow B 9 1 (.slice va l.length vc) l.length (strsV l)
theorem OwnT.alloc {W : World} {B vc : Nat} {va : Option Addr} {l : List ByteArray} (h : OwnT W B va vc l) (ob : Obj) : (W.alloc ob).ownsRow B 9 1 (.slice va l.length vc) l.length (strsV l) := World.ownsRow.alloc h ob
theorem texts_pushed {W w1 : World} {B vc : Nat} {va : Option Addr} {l : List ByteArray} {x : ByteArray} {v' : Value} {tmp : Obj} (h : OwnT W B va vc l) (hB : B ≤ W.heap.size) (hown' : w1.ownsRow B 9 1 v' (l.length + 1) (strsV l ++ [.string x])) (hgrow : (W.alloc tmp).grownBy w1 (Value.slice va l.length vc).ownBlock) :
    ∃ va' vc', v' = .slice va' (l.length + 1) vc' ∧ OwnT w1 B va' vc' (l ++ [x]) ∧ Below B W w1 := by
  obtain ⟨va', vc', rfl⟩ := (RdS.of_owns hown').form
  refine ⟨va', vc', rfl, ?_, ((Below.refl B W).alloc hB tmp).grown hgrow (by simp; omega) (fun j ej => (World.ownsRow.lt h j ej).1)⟩
  have e : strsV l ++ [.string x] = strsV (l ++ [x]) := by simp [strsV]
  rw [e] at hown'
  unfold OwnT
  simpa using hown'
theorem hasS_mem {l : List ByteArray} {n : ByteArray} : hasS l n = decide (n ∈ l) := by
  unfold hasS
  rw [Bool.eq_iff_iff]
  simp
end Go.Proofs.Ytkgcpbhlbfjcoaa

/-
  rescriptref27.Check: contract; it finds what bounds.Check finds.
-/
namespace Go.Proofs.Ytkgcpbhlbfjcoaa
open Go Go.RowKit Go.WideShapes

theorem noteL_mem (l : List DiagD) (b : Bool) (x y : DiagD) : y ∈ noteL l b x ↔ y ∈ l ∨ (b = true ∧ y = x) := by
  unfold noteL
  cases b <;> simp
theorem rangeL_mem (i : Nat) (s : StepD) (l : List DiagD) (y : DiagD) : y ∈ rangeL i s l ↔ y ∈ l ∨ y ∈ rangeL i s [] := by
  unfold rangeL
  simp only [noteL_mem, List.not_mem_nil, false_or, or_assoc]
/-- The reference's walk over those behind which one comes. -/
def refU (all : List StepD) (i : Nat) (s : StepD) : Nat → List DiagD → List DiagD
  | 0, l => l
  | k + 1, l => match all[k]? with
    | some t => noteL (refU all i s k l) (decide ((i : Int) ∈ depsD all k t) && !emp t) ((i : Int), 19, s.name)
    | none => refU all i s k l
def refV (all : List StepD) (i : Nat) (s : StepD) (l : List DiagD) : List DiagD := if emp s then refU all i s all.length l else l
def refC (all : List StepD) : Nat → List DiagD
  | 0 => []
  | i + 1 => match all[i]? with
    | some s => refV all i s (rangeL i s (refC all i))
    | none => refC all i
theorem refU_len (all : List StepD) (i : Nat) (s : StepD) : ∀ (k : Nat) (l : List DiagD), (refU all i s k l).length ≤ l.length + k
  | 0, l => Nat.le_refl _
  | k + 1, l => by
    have := refU_len all i s k l
    unfold refU
    split
    · have := noteL_len (refU all i s k l) (decide ((i : Int) ∈ depsD all k ‹StepD›) && !emp ‹StepD›) ((i : Int), 19, s.name)
      omega
    · omega
theorem refC_len (all : List StepD) : ∀ i : Nat, (refC all i).length ≤ i * (4 + all.length)
  | 0 => by simp [refC]
  | i + 1 => by
    have ih := refC_len all i
    rw [Nat.add_mul, Nat.one_mul]
    unfold refC
    split
    · rename_i s hs
      have h1 := rangeL_len i s (refC all i)
      unfold refV
      split
      · have := refU_len all i s all.length (rangeL i s (refC all i))
        omega
      · omega
    · omega
theorem refC_succ (all : List StepD) {k : Nat} (hk : k < all.length) : refC all (k + 1) = refV all k all[k] (rangeL k all[k] (refC all k)) := by
  rw [refC, List.getElem?_eq_getElem hk]
theorem refU_mem (all : List StepD) (i : Nat) (s : StepD) (y : DiagD) : ∀ (k : Nat) (l : List DiagD), y ∈ refU all i s k l ↔ y ∈ l ∨ (y = ((i : Int), 19, s.name) ∧ ∃ (q : Nat) (t : StepD), q < k ∧ all[q]? = some t ∧ (i : Int) ∈ depsD all q t ∧ emp t = false)
  | 0, l => by simp [refU]
  | k + 1, l => by
    unfold refU
    split
    · rename_i t ht
      rw [noteL_mem, refU_mem all i s y k l]
      simp only [Bool.and_eq_true, decide_eq_true_eq, Bool.not_eq_true']
      constructor
      · rintro ((h | ⟨h, q, u, hq, hr⟩) | ⟨h1, h2⟩)
        · exact .inl h
        · exact .inr ⟨h, q, u, by omega, hr⟩
        · exact .inr ⟨h2, k, t, by omega, ht, h1.1, h1.2⟩
      · rintro (h | ⟨h, q, u, hq, hr, h1, h2⟩)
        · exact .inl (.inl h)
        · by_cases hqk : q = k
          · subst hqk
            rw [ht] at hr
            cases hr
            exact .inr ⟨⟨h1, h2⟩, h⟩
          · exact .inl (.inr ⟨h, q, u, by omega, hr, h1, h2⟩)
    · rename_i ht
      rw [refU_mem all i s y k l]
      constructor
      · rintro (h | ⟨h, q, u, hq, hr⟩)
        · exact .inl h
        · exact .inr ⟨h, q, u, by omega, hr⟩
      · rintro (h | ⟨h, q, u, hq, hr, h1⟩)
        · exact .inl h
        · by_cases hqk : q = k
          · subst hqk
            rw [ht] at hr
            cases hr
          · exact .inr ⟨h, q, u, by omega, hr, h1⟩
theorem refC_mem (all : List StepD) (y : DiagD) : ∀ n : Nat, y ∈ refC all n ↔ ∃ (i : Nat) (s : StepD), i < n ∧ all[i]? = some s ∧ (y ∈ rangeL i s [] ∨ (emp s = true ∧ y = ((i : Int), 19, s.name) ∧ ∃ (q : Nat) (t : StepD), all[q]? = some t ∧ (i : Int) ∈ depsD all q t ∧ emp t = false))
  | 0 => by simp [refC]
  | n + 1 => by
    have ih := refC_mem all y n
    have hin : ∀ (q : Nat) (t : StepD), all[q]? = some t → q < all.length := fun q t h => (List.getElem?_eq_some_iff.1 h).1
    unfold refC
    split
    · rename_i s hs
      unfold refV
      constructor
      · intro h
        have h' : y ∈ rangeL n s (refC all n) ∨ (emp s = true ∧ y = ((n : Int), 19, s.name) ∧ ∃ (q : Nat) (t : StepD), all[q]? = some t ∧ (n : Int) ∈ depsD all q t ∧ emp t = false) := by
          split at h
          · rename_i he
            rcases (refU_mem all n s y _ _).1 h with h | ⟨h, q, t, hq, hr, h1, h2⟩
            · exact .inl h
            · exact .inr ⟨he, h, q, t, hr, h1, h2⟩
          · exact .inl h
        rcases h' with h | h
        · rcases (rangeL_mem n s _ y).1 h with h | h
          · obtain ⟨i, t, hi, hr⟩ := ih.1 h
            exact ⟨i, t, by omega, hr⟩
          · exact ⟨n, s, by omega, hs, .inl h⟩
        · exact ⟨n, s, by omega, hs, .inr h⟩
      · rintro ⟨i, t, hi, ht, hr⟩
        by_cases hin' : i = n
        · subst hin'
          rw [hs] at ht
          cases ht
          rcases hr with hr | ⟨he, hy, q, u, hq, h1, h2⟩
          · have : y ∈ rangeL i s (refC all i) := (rangeL_mem i s _ y).2 (.inr hr)
            split
            · exact (refU_mem all i s y _ _).2 (.inl this)
            · exact this
          · rw [if_pos he]
            exact (refU_mem all i s y _ _).2 (.inr ⟨hy, q, u, hin q u hq, hq, h1, h2⟩)
        · have : y ∈ rangeL n s (refC all n) := (rangeL_mem n s _ y).2 (.inl (ih.2 ⟨i, t, by omega, ht, hr⟩))
          split
          · exact (refU_mem all n s y _ _).2 (.inl this)
          · exact this
    · rename_i hs
      rw [ih]
      constructor
      · rintro ⟨i, t, hi, hr⟩
        exact ⟨i, t, by omega, hr⟩
      · rintro ⟨i, t, hi, ht, hr⟩
        refine ⟨i, t, ?_, ht, hr⟩
        have : i ≠ n := by rintro rfl; rw [hs] at ht; cases ht
        omega
theorem chkR_mem (y : DiagD) : ∀ (r : List StepD) (i : Nat) (l : List DiagD), y ∈ chkR i r l ↔ y ∈ l ∨ ∃ (q : Nat) (s : StepD), r[q]? = some s ∧ y ∈ rangeL (i + q) s []
  | [], i, l => by simp [chkR]
  | s :: r, i, l => by
    rw [chkR, chkR_mem y r (i + 1), rangeL_mem]
    constructor
    · rintro ((h | h) | ⟨q, t, hq, h⟩)
      · exact .inl h
      · exact .inr ⟨0, s, rfl, by simpa using h⟩
      · exact .inr ⟨q + 1, t, by simpa using hq, by rw [show i + (q + 1) = i + 1 + q by omega]; exact h⟩
    · rintro (h | ⟨q, t, hq, h⟩)
      · exact .inl (.inl h)
      · cases q with
        | zero => simp at hq; subst hq; exact .inl (.inr (by simpa using h))
        | succ q => exact .inr ⟨q, t, by simpa using hq, by rw [show i + 1 + q = i + (q + 1) by omega]; exact h⟩
theorem undoR_mem (all : List StepD) (y : DiagD) : ∀ (row : List Int) (l : List DiagD), y ∈ undoR all row l ↔ y ∈ l ∨ ∃ (t : Int) (s : StepD), t ∈ row ∧ all[t.toNat]? = some s ∧ emp s = true ∧ y = (t, 19, s.name)
  | [], l => by simp [undoR]
  | t :: row, l => by
    have ih := undoR_mem all y row (undoL all l t)
    have e : undoR all (t :: row) l = undoR all row (undoL all l t) := rfl
    rw [e, ih]
    have hu : y ∈ undoL all l t ↔ y ∈ l ∨ ∃ s : StepD, all[t.toNat]? = some s ∧ emp s = true ∧ y = (t, 19, s.name) := by
      unfold undoL
      split
      · rename_i s hs
        rw [noteL_mem, hs]
        simp
      · rename_i hs
        rw [hs]; simp
    rw [hu]
    constructor
    · rintro ((h | ⟨s, h1, h2, h3⟩) | ⟨u, s, h0, h1⟩)
      · exact .inl h
      · exact .inr ⟨t, s, by simp, h1, h2, h3⟩
      · exact .inr ⟨u, s, by simp [h0], h1⟩
    · rintro (h | ⟨u, s, h0, h1, h2, h3⟩)
      · exact .inl (.inl h)
      · rcases List.mem_cons.1 h0 with rfl | h0
        · exact .inl (.inr ⟨s, h1, h2, h3⟩)
        · exact .inr ⟨u, s, h0, h1, h2, h3⟩
theorem chkU_mem (all : List StepD) (y : DiagD) : ∀ (k : Nat) (l : List DiagD), y ∈ chkU all k l ↔ y ∈ l ∨ ∃ (q : Nat) (u : StepD) (t : Int) (s : StepD), q < k ∧ all[q]? = some u ∧ emp u = false ∧ t ∈ depsD all q u ∧ all[t.toNat]? = some s ∧ emp s = true ∧ y = (t, 19, s.name)
  | 0, l => by simp [chkU]
  | k + 1, l => by
    have ih := chkU_mem all y k l
    unfold chkU
    split
    · rename_i u hu
      split
      · rename_i he
        rw [ih]
        constructor
        · rintro (h | ⟨q, v, t, s, hq, hr⟩)
          · exact .inl h
          · exact .inr ⟨q, v, t, s, by omega, hr⟩
        · rintro (h | ⟨q, v, t, s, hq, hr, h1, h2⟩)
          · exact .inl h
          · refine .inr ⟨q, v, t, s, ?_, hr, h1, h2⟩
            have : q ≠ k := by rintro rfl; rw [hu] at hr; cases hr; rw [he] at h1; cases h1
            omega
      · rename_i he
        rw [undoR_mem, ih]
        constructor
        · rintro ((h | ⟨q, v, t, s, hq, hr⟩) | ⟨t, s, h1, h2, h3, h4⟩)
          · exact .inl h
          · exact .inr ⟨q, v, t, s, by omega, hr⟩
          · exact .inr ⟨k, u, t, s, by omega, hu, by simpa using he, h1, h2, h3, h4⟩
        · rintro (h | ⟨q, v, t, s, hq, hr, h1, h2, h3⟩)
          · exact .inl (.inl h)
          · by_cases hqk : q = k
            · subst hqk
              rw [hu] at hr
              cases hr
              exact .inr ⟨t, s, h2, h3⟩
            · exact .inl (.inr ⟨q, v, t, s, by omega, hr, h1, h2, h3⟩)
    · rename_i hu
      rw [ih]
      constructor
      · rintro (h | ⟨q, v, t, s, hq, hr⟩)
        · exact .inl h
        · exact .inr ⟨q, v, t, s, by omega, hr⟩
      · rintro (h | ⟨q, v, t, s, hq, hr, h1, h2⟩)
        · exact .inl h
        · refine .inr ⟨q, v, t, s, ?_, hr, h1, h2⟩
          have : q ≠ k := by rintro rfl; rw [hu] at hr; cases hr
          omega
/-- Both find the same. -/
theorem checks_alike (all : List StepD) : sortD (refC all all.length) = sortD (chkU all all.length (chkR 0 all [])) := by
  refine sortD_congr fun y => ?_
  rw [refC_mem, chkU_mem, chkR_mem]
  have hin : ∀ (q : Nat) (t : StepD), all[q]? = some t → q < all.length := fun q t h => (List.getElem?_eq_some_iff.1 h).1
  constructor
  · rintro ⟨i, s, hi, hs, h | ⟨he, hy, q, t, hq, h1, h2⟩⟩
    · exact .inl (.inr ⟨i, s, hs, by rwa [Nat.zero_add]⟩)
    · exact .inr ⟨q, t, (i : Int), s, hin q t hq, hq, h2, h1, by simpa using hs, he, hy⟩
  · rintro ((h | ⟨i, s, hs, h⟩) | ⟨q, u, t, s, hq, hu, h1, h2, h3, h4, h5⟩)
    · cases h
    · rw [Nat.zero_add] at h
      exact ⟨i, s, hin i s hs, hs, .inl h⟩
    · obtain ⟨n, rfl, hn⟩ := depsD_in all q u t h2
      rw [Int.toNat_natCast] at h3
      exact ⟨n, s, hn, h3, .inr ⟨h4, h5, q, u, hu, h2, h1⟩⟩
end Go.Proofs.Ytkgcpbhlbfjcoaa

/-
  Plain: what is wrong with names; the reference finds the same.
-/
namespace Go.Proofs.Ytkgcpbhlbfjcoaa
open Go Go.RowKit

/-- What is wrong with a definition as a whole. -/
def headN (d : DefD) : List DiagD := noteL (noteL [] (decide (d.steps.length = 0)) (-1, 17, ByteArray.empty)) (!rightB d.name) (-1, 18, d.name)
/-- What is wrong with a step's own names. -/
def stepN (all : List StepD) (i : Nat) (s : StepD) (l : List DiagD) : List DiagD :=
  noteL (noteL (noteL (noteL l (!rightB s.name) ((i : Int), 18, s.name)) (!rightB s.action) ((i : Int), 18, s.action)) (!emp s && !rightB s.undo) ((i : Int), 18, s.undo)) (decide (idxStep all s.name 0 < (i : Int))) ((i : Int), 6, s.name)
def stepsN (all : List StepD) : Nat → List StepD → List DiagD → List DiagD
  | _, [], l => l
  | i, s :: r, l => stepsN all (i + 1) r (stepN all i s l)
def keyR (r : RefD) : Nat × ByteArray := (r.1, r.2.1)
/-- What is wrong with a name in After, those ahead of it being pre. -/
def refN (all : List StepD) (pre : List RefD) (r : RefD) (l : List DiagD) : List DiagD :=
  noteL (noteL (noteL l (decide (r.2.2 < 0)) ((r.1 : Int), 5, r.2.1)) (decide (all[r.1]?.map StepD.name = some r.2.1)) ((r.1 : Int), 8, r.2.1)) (decide (0 < cntN (pre.map keyR) (keyR r))) ((r.1 : Int), 6, r.2.1)
def refsN (all : List StepD) : List RefD → List RefD → List DiagD → List DiagD
  | _, [], l => l
  | pre, r :: rs, l => refsN all (pre ++ [r]) rs (refN all pre r l)
theorem refsN_snoc (all : List StepD) (r : RefD) : ∀ (rs pre : List RefD) (l : List DiagD), refsN all pre (rs ++ [r]) l = refN all (pre ++ rs) r (refsN all pre rs l)
  | [], pre, l => by simp [refsN]
  | q :: rs, pre, l => by
    rw [List.cons_append, refsN, refsN_snoc all r rs, refsN, List.append_assoc]; rfl
theorem refsN_append (all : List StepD) : ∀ (us bs pre : List RefD) (l : List DiagD), refsN all pre (us ++ bs) l = refsN all (pre ++ us) bs (refsN all pre us l)
  | [], bs, pre, l => by simp [refsN]
  | q :: us, bs, pre, l => by
    rw [List.cons_append, refsN, refsN_append all us bs, refsN, List.append_assoc]; rfl
/-- names.Check's list. -/
def chkN (d : DefD) : List DiagD := refsN d.steps [] (refsF d.steps 0 d.steps) (stepsN d.steps 0 d.steps (headN d))
/-- The reference's list for one name in After. -/
def rowN (all : List StepD) (i : Nat) (s : StepD) (seen : List ByteArray) (a : ByteArray) (l : List DiagD) : List DiagD :=
  noteL (noteL (noteL l (decide (idxStep all a 0 < 0)) ((i : Int), 5, a)) (decide (a = s.name)) ((i : Int), 8, s.name)) (hasS seen a) ((i : Int), 6, a)
def rowsN (all : List StepD) (i : Nat) (s : StepD) : List ByteArray → List ByteArray → List DiagD → List DiagD
  | _, [], l => l
  | seen, a :: r, l => rowsN all i s (seen ++ [a]) r (rowN all i s seen a l)
def rChkN (all : List StepD) : Nat → List StepD → List DiagD → List DiagD
  | _, [], l => l
  | i, s :: r, l => rChkN all (i + 1) r (rowsN all i s [] s.after (stepN all i s l))
/-- It puts on what it puts on an empty list. -/
def Puts (f : List DiagD → List DiagD) : Prop := ∀ l y, y ∈ f l ↔ y ∈ l ∨ y ∈ f []
theorem Puts.id : Puts fun l => l := fun l y => by simp
theorem Puts.comp {f g : List DiagD → List DiagD} (hf : Puts f) (hg : Puts g) : Puts fun l => f (g l) := fun l y => by
  show y ∈ f (g l) ↔ y ∈ l ∨ y ∈ f (g [])
  rw [hf (g l), hg l, hf (g []), or_assoc]
theorem puts_note (b : Bool) (x : DiagD) : Puts fun l => noteL l b x := fun l y => by
  show y ∈ noteL l b x ↔ y ∈ l ∨ y ∈ noteL [] b x
  rw [noteL_mem, noteL_mem]
  simp
theorem puts_step (all : List StepD) (i : Nat) (s : StepD) : Puts (stepN all i s) :=
  (puts_note _ _).comp ((puts_note _ _).comp ((puts_note _ _).comp (puts_note _ _)))
theorem puts_row (all : List StepD) (i : Nat) (s : StepD) (seen : List ByteArray) (a : ByteArray) : Puts (rowN all i s seen a) :=
  (puts_note _ _).comp ((puts_note _ _).comp (puts_note _ _))
theorem puts_rows (all : List StepD) (i : Nat) (s : StepD) : ∀ (r seen : List ByteArray), Puts (rowsN all i s seen r)
  | [], _ => Puts.id
  | a :: r, seen => (puts_rows all i s r (seen ++ [a])).comp (puts_row all i s seen a)
theorem puts_steps (all : List StepD) : ∀ (r : List StepD) (i : Nat), Puts (stepsN all i r)
  | [], _ => Puts.id
  | s :: r, i => (puts_steps all r (i + 1)).comp (puts_step all i s)
/-- The rows alone. -/
def onlyN (all : List StepD) : Nat → List StepD → List DiagD → List DiagD
  | _, [], l => l
  | i, s :: r, l => onlyN all (i + 1) r (rowsN all i s [] s.after l)
theorem puts_only (all : List StepD) : ∀ (r : List StepD) (i : Nat), Puts (onlyN all i r)
  | [], _ => Puts.id
  | s :: r, i => (puts_only all r (i + 1)).comp (puts_rows all i s s.after [])
theorem puts_rchk (all : List StepD) : ∀ (r : List StepD) (i : Nat), Puts (rChkN all i r)
  | [], _ => Puts.id
  | s :: r, i => (puts_rchk all r (i + 1)).comp ((puts_rows all i s s.after []).comp (puts_step all i s))
/-- In whatever order. -/
theorem rchk_split (all : List StepD) (y : DiagD) : ∀ (r : List StepD) (i : Nat) (l : List DiagD), y ∈ rChkN all i r l ↔ y ∈ onlyN all i r (stepsN all i r l)
  | [], _, _ => Iff.rfl
  | s :: r, i, l => by
    have h1 : rChkN all i (s :: r) l = rChkN all (i + 1) r (rowsN all i s [] s.after (stepN all i s l)) := rfl
    have h2 : onlyN all i (s :: r) (stepsN all i (s :: r) l) = onlyN all (i + 1) r (rowsN all i s [] s.after (stepsN all (i + 1) r (stepN all i s l))) := rfl
    rw [h1, h2, puts_rchk all r (i + 1), rchk_split all y r (i + 1) [], puts_only all r (i + 1) (stepsN all (i + 1) r []), puts_only all r (i + 1) (rowsN all i s [] s.after (stepsN all (i + 1) r (stepN all i s l))), puts_rows all i s s.after [] (stepN all i s l), puts_rows all i s s.after [] (stepsN all (i + 1) r (stepN all i s l)), puts_steps all r (i + 1) (stepN all i s l)]
    constructor
    · rintro ((h | h) | h | h)
      · exact .inl (.inl (.inl h))
      · exact .inl (.inr h)
      · exact .inl (.inl (.inr h))
      · exact .inr h
    · rintro (((h | h) | h) | h)
      · exact .inl (.inl h)
      · exact .inr (.inl h)
      · exact .inl (.inr h)
      · exact .inr (.inr h)
theorem cnt_seen (all : List StepD) (i : Nat) (pre : List RefD) (hp : ∀ r ∈ pre, r.1 ≠ i) (seen : List ByteArray) (a : ByteArray) : decide (0 < cntN ((pre ++ seen.map fun b => ((i, b, idxStep all b 0) : RefD)).map keyR) (i, a)) = hasS seen a := by
  have h : ((i, a) ∈ (pre ++ seen.map fun b => ((i, b, idxStep all b 0) : RefD)).map keyR) ↔ a ∈ seen := by
    rw [List.map_append, List.mem_append, List.map_map]
    constructor
    · rintro (h | h)
      · obtain ⟨r, hr, he⟩ := List.mem_map.1 h
        exact absurd (congrArg Prod.fst he) (hp r hr)
      · obtain ⟨b, hb, he⟩ := List.mem_map.1 h
        have : b = a := congrArg Prod.snd he
        exact this ▸ hb
    · intro h
      exact .inr (List.mem_map.2 ⟨a, h, rfl⟩)
  have h0 := cntN_zero ((pre ++ seen.map fun b => ((i, b, idxStep all b 0) : RefD)).map keyR) (i, a)
  unfold hasS
  rw [Bool.eq_iff_iff, decide_eq_true_eq]
  simp only [List.contains_iff_mem]
  rw [← h]
  constructor
  · intro h1
    exact Decidable.byContradiction fun h2 => by rw [h0.2 h2] at h1; omega
  · intro h1
    exact Nat.pos_of_ne_zero fun h2 => h0.1 h2 h1
theorem refs_rows (all : List StepD) (i : Nat) (s : StepD) (hs : all[i]? = some s) (pre : List RefD) (hp : ∀ r ∈ pre, r.1 ≠ i) : ∀ (r seen : List ByteArray) (l : List DiagD),
    refsN all (pre ++ seen.map fun b => ((i, b, idxStep all b 0) : RefD)) (r.map fun b => ((i, b, idxStep all b 0) : RefD)) l = rowsN all i s seen r l
  | [], _, _ => rfl
  | a :: r, seen, l => by
    have h1 := cnt_seen all i pre hp seen a
    have h2 : refN all (pre ++ seen.map fun b => ((i, b, idxStep all b 0) : RefD)) (i, a, idxStep all a 0) l = rowN all i s seen a l := by
      unfold refN rowN
      have e : (decide (all[i]?.map StepD.name = some a)) = decide (a = s.name) := by
        rw [hs, Bool.eq_iff_iff, decide_eq_true_eq, decide_eq_true_eq]
        simp [eq_comm]
      show noteL (noteL (noteL l (decide (idxStep all a 0 < 0)) ((i : Int), 5, a)) (decide (all[i]?.map StepD.name = some a)) ((i : Int), 8, a)) (decide (0 < cntN _ (i, a))) ((i : Int), 6, a) = _
      rw [h1, e]
      by_cases ha : a = s.name
      · subst ha; rfl
      · rw [decide_eq_false ha]; rfl
    rw [List.map_cons, refsN, h2, rowsN, List.append_assoc]
    have := refs_rows all i s hs pre hp r (seen ++ [a]) (rowN all i s seen a l)
    rw [List.map_append] at this
    exact this
theorem refs_only (all : List StepD) : ∀ (r : List StepD) (i : Nat) (pre : List RefD) (l : List DiagD), (∀ q ∈ pre, q.1 < i) → (∀ (k : Nat) (s : StepD), r[k]? = some s → all[i + k]? = some s) → refsN all pre (refsF all i r) l = onlyN all i r l
  | [], _, _, _, _, _ => rfl
  | s :: r, i, pre, l, hp, ha => by
    have hs : all[i]? = some s := by simpa using ha 0 s rfl
    have h1 := refs_rows all i s hs pre (fun q hq => Nat.ne_of_lt (hp q hq)) s.after [] l
    rw [List.map_nil, List.append_nil] at h1
    rw [refsF, refsN_append, rowRf, h1, onlyN]
    refine refs_only all r (i + 1) _ _ (fun q hq => ?_) (fun k t hk => ?_)
    · rcases List.mem_append.1 hq with hq | hq
      · have := hp q hq; omega
      · obtain ⟨b, _, rfl⟩ := List.mem_map.1 hq
        exact Nat.lt_succ_self _
    · rw [show i + 1 + k = i + (k + 1) by omega]
      exact ha (k + 1) t (by simpa using hk)
/-- The reference finds the same. -/
theorem names_alike (d : DefD) : sortD (rChkN d.steps 0 d.steps (headN d)) = sortD (chkN d) := by
  refine sortD_congr fun y => ?_
  unfold chkN
  rw [rchk_split, refs_only d.steps d.steps 0 [] _ (fun _ h => by cases h) (fun k s h => by rwa [Nat.zero_add])]
end Go.Proofs.Ytkgcpbhlbfjcoaa

/-
  bounds.Points, Steps; what layer 27's laws ask whatever is asked.
-/
namespace Go.Proofs.Ytkgcpbhlbfjcoaa
open Go Go.RowKit Go.WideShapes

/-- The steps that nothing undoes. -/
def ptsK (all : List StepD) : Nat → List Int
  | 0 => []
  | k + 1 => match all[k]? with
    | some s => if emp s then ptsK all k ++ [(k : Int)] else ptsK all k
    | none => ptsK all k
theorem ptsK_succ (all : List StepD) {k : Nat} (hk : k < all.length) : ptsK all (k + 1) = if emp all[k] then ptsK all k ++ [(k : Int)] else ptsK all k := by
  rw [ptsK, List.getElem?_eq_getElem hk]
theorem ptsK_len (all : List StepD) : ∀ k : Nat, (ptsK all k).length ≤ k
  | 0 => Nat.le_refl _
  | k + 1 => by
    have := ptsK_len all k
    unfold ptsK
    split
    · split
      · simp; omega
      · omega
    · omega

def s27a : StepD := ⟨{ data := #[97] }, { data := #[] }, { data := #[] }, [], 11, 0, 0, 0, .mk 0 { data := #[] } [] [] 0⟩
def s27b : StepD := ⟨{ data := #[98] }, { data := #[] }, { data := #[117] }, [{ data := #[97] }], 0, 0, 0, 0, .mk 0 { data := #[] } [] [] 0⟩
def d27 : DefD := ⟨{ data := #[] }, { data := #[] }, [s27a, s27b]⟩
structure At27 (W : World) (g1 g2 : Nat) : Prop where
  b1 : W.heap[g1]? = some (.cells #[.string { data := #[97] }] 9 (0, 0))
  b2 : W.heap[g2]? = some (.cells #[.string { data := #[97] }, .string { data := #[] }, .string { data := #[] }, .slice none 0 0, .int .i64 11, .int .i64 0, .int .i64 0, .int .i64 0, .int .u8 0, .string { data := #[] }, .slice none 0 0, .slice none 0 0, .int .i64 0, .string { data := #[98] }, .string { data := #[] }, .string { data := #[117] }, .slice (some ⟨g1, 0, none⟩) 1 1, .int .i64 0, .int .i64 0, .int .i64 0, .int .i64 0, .int .u8 0, .string { data := #[] }, .slice none 0 0, .slice none 0 0, .int .i64 0] 45 (0, 0))
theorem At27.below {W W' : World} {g1 g2 : Nat} (h : At27 W g1 g2) (hb : Below W.heap.size W W') : At27 W' g1 g2 :=
  ⟨(hb.block _ (Array.getElem?_eq_some_iff.1 h.b1).1).trans h.b1, (hb.block _ (Array.getElem?_eq_some_iff.1 h.b2).1).trans h.b2⟩
theorem At27.toR {W : World} {g1 g2 : Nat} (h : At27 W g1 g2) : DefR W [.string { data := #[] }, .string { data := #[] }, .slice (some ⟨g2, 0, none⟩) 2 2] d27 (some ⟨g2, 0, none⟩) 2 := by
  refine ⟨rfl, by decide, by decide, [[.string { data := #[97] }, .string { data := #[] }, .string { data := #[] }, .slice none 0 0, .int .i64 11, .int .i64 0, .int .i64 0, .int .i64 0, .int .u8 0, .string { data := #[] }, .slice none 0 0, .slice none 0 0, .int .i64 0], [.string { data := #[98] }, .string { data := #[] }, .string { data := #[117] }, .slice (some ⟨g1, 0, none⟩) 1 1, .int .i64 0, .int .i64 0, .int .i64 0, .int .i64 0, .int .u8 0, .string { data := #[] }, .slice none 0 0, .slice none 0 0, .int .i64 0]], rfl, rds_row 2 13 h.b2 rfl (by decide), fun i r s hr hs => ?_⟩
  rcases i with _ | _ | i
  · cases hr
    cases hs
    exact ⟨none, 0, none, 0, none, 0, rfl, ⟨by decide, by decide, by decide, (fun a ha => by cases ha), by unfold I64w; decide, by unfold I64w; decide, by unfold I64w; decide, by unfold I64w; decide⟩, ⟨rfl, none, 0, rfl, Nat.le_refl _, Nat.zero_le _, .inl rfl⟩, node_none W⟩
  · cases hr
    cases hs
    exact ⟨some ⟨g1, 0, none⟩, 1, none, 0, none, 0, rfl, ⟨by decide, by decide, by decide, fun a ha => by simp only [s27b, List.mem_singleton] at ha; subst ha; decide, by unfold I64w; decide, by unfold I64w; decide, by unfold I64w; decide, by unfold I64w; decide⟩, rds_row 1 1 h.b1 rfl (by decide), node_none W⟩
  · simp at hr
theorem d27_chk : chkU d27.steps d27.steps.length (chkR 0 d27.steps []) = [(0, 1, { data := #[109, 111, 115, 116] }), (0, 19, { data := #[97] })] := by decide +kernel
theorem d27_sort : sortD (chkU d27.steps d27.steps.length (chkR 0 d27.steps [])) = [(0, 1, { data := #[109, 111, 115, 116] }), (0, 19, { data := #[97] })] := by rw [d27_chk]; decide +kernel
theorem d27_pts : ptsK d27.steps d27.steps.length = [0] := by decide +kernel
theorem d27_refs : (refsF d27.steps 0 d27.steps).length ≤ 1000000 := by decide +kernel
theorem c27_real (W : World) : Calls Try.prog 118 #[.agg #[.string { data := #[] }, .string { data := #[] }, .string { data := #[] }, .slice none 0 0, .int .i64 0, .int .i64 0, .int .i64 0, .int .i64 0, .int .u8 0, .string { data := #[] }, .slice none 0 0, .slice none 0 0, .int .i64 0]] W fun e w' => e = .returned (.agg #[.string { data := #[] }, .string { data := #[] }, .string { data := #[] }, .slice none 0 0, .int .i64 1, .int .i64 0, .int .i64 1, .int .i64 100, .int .u8 0, .string { data := #[] }, .slice none 0 0, .slice none 0 0, .int .i64 0]) ∧ Below W.heap.size W w' :=
  Real_any { data := #[] } { data := #[] } { data := #[] } none 0 0 0 0 0 0 0 { data := #[] } none 0 0 none 0 0 0 W
end Go.Proofs.Ytkgcpbhlbfjcoaa

/-
  names.Check: what its second loop keeps.
-/
namespace Go.Proofs.Ytkgcpbhlbfjcoaa
open Go.RowKit Go.WideShapes Go.Maps

theorem stepN_len (all : List StepD) (i : Nat) (s : StepD) (l : List DiagD) : (stepN all i s l).length ≤ l.length + 4 := by
  unfold stepN
  refine Nat.le_trans (noteL_len _ _ _) ?_
  refine Nat.succ_le_succ (Nat.le_trans (noteL_len _ _ _) ?_)
  refine Nat.succ_le_succ (Nat.le_trans (noteL_len _ _ _) ?_)
  exact Nat.succ_le_succ (noteL_len _ _ _)
theorem stepsN_len (all : List StepD) : ∀ (r : List StepD) (i : Nat) (l : List DiagD), (stepsN all i r l).length ≤ l.length + 4 * r.length
  | [], i, l => by simp [stepsN]
  | s :: r, i, l => by
    rw [stepsN, List.length_cons]
    have := stepsN_len all r (i + 1) (stepN all i s l)
    have := stepN_len all i s l
    omega
theorem stepsN_snoc (all : List StepD) (s : StepD) : ∀ (r : List StepD) (i : Nat) (l : List DiagD), stepsN all i (r ++ [s]) l = stepN all (i + r.length) s (stepsN all i r l)
  | [], i, l => rfl
  | t :: r, i, l => by
    rw [List.cons_append, stepsN, stepsN_snoc all s r (i + 1) _, stepsN, List.length_cons, show i + 1 + r.length = i + (r.length + 1) by omega]
theorem refN_len (all : List StepD) (pre : List RefD) (r : RefD) (l : List DiagD) : (refN all pre r l).length ≤ l.length + 3 := by
  unfold refN
  refine Nat.le_trans (noteL_len _ _ _) ?_
  refine Nat.succ_le_succ (Nat.le_trans (noteL_len _ _ _) ?_)
  exact Nat.succ_le_succ (noteL_len _ _ _)
theorem refsN_len (all : List StepD) : ∀ (r pre : List RefD) (l : List DiagD), (refsN all pre r l).length ≤ l.length + 3 * r.length
  | [], pre, l => by simp [refsN]
  | s :: r, pre, l => by
    rw [refsN, List.length_cons]
    have := refsN_len all r (pre ++ [s]) (refN all pre s l)
    have := refN_len all pre s l
    omega
theorem headN_len (d : DefD) : (headN d).length ≤ 2 := by
  unfold headN
  exact Nat.le_trans (noteL_len _ _ _) (Nat.succ_le_succ (noteL_len _ _ _))
theorem idxStep_get (n : ByteArray) : ∀ (l : List StepD) (i k : Nat) (hk : k < l.length), l[k].name = n → 0 ≤ idxStep l n i
  | a :: l, i, 0, _, h => by
    have h' : a.name = n := h
    rw [idxStep, if_pos h']; omega
  | a :: l, i, k + 1, hk, h => by
    rw [idxStep]
    split
    · omega
    · exact idxStep_get n l (i + 1) k (by simpa using hk) (by simpa using h)
theorem plN_get {l : List StepD} {k : Nat} (hk : k < l.length) : (plN l l[k].name).getD 0 = idxStep l l[k].name 0 := by
  unfold plN
  rw [if_pos (idxStep_get _ l 0 k hk rfl)]
  rfl
/-- What lies at names.Check: the list behind its box, the note's box, the definition's box. -/
structure StW (w0 W : World) (b : Nat) (dc : Array Value) (nf : Value) (va : Option Addr) (vc : Nat) (l : List DiagD) : Prop where
  out : OutG W (b + 1) va vc l
  note : W.heap[b + 1 + 1]? = some (.cells #[nf] 140 (0, 0))
  dfb : W.heap[b]? = some (.cells dc 24 (0, 0))
  low : Below b w0 W
theorem StW.drew {w0 W : World} {b vc : Nat} {dc : Array Value} {nf : Value} {va : Option Addr} {l : List DiagD} (h : StW w0 W b dc nf va vc l) : StW w0 W.drew b dc nf va vc l := ⟨h.out.below ((Below.refl _ _).drew), h.note, h.dfb, h.low.drew⟩
theorem StW.below {w0 W W' : World} {b vc : Nat} {dc : Array Value} {nf : Value} {va : Option Addr} {l : List DiagD} (h : StW w0 W b dc nf va vc l) (hb : Below W.heap.size W W') : StW w0 W' b dc nf va vc l :=
  ⟨h.out.below hb, (hb.block _ (Array.getElem?_eq_some_iff.1 h.note).1).trans h.note, (hb.block _ (Array.getElem?_eq_some_iff.1 h.dfb).1).trans h.dfb, h.low.trans (hb.mono (Nat.le_of_lt (Array.getElem?_eq_some_iff.1 h.dfb).1))⟩
theorem StW.nlt {w0 W : World} {b vc : Nat} {dc : Array Value} {nf : Value} {va : Option Addr} {l : List DiagD} (h : StW w0 W b dc nf va vc l) : b + 1 + 1 < W.heap.size := (Array.getElem?_eq_some_iff.1 h.note).1
theorem StW.ncell {w0 W : World} {b vc : Nat} {dc : Array Value} {nf : Value} {va : Option Addr} {l : List DiagD} (h : StW w0 W b dc nf va vc l) : W.cell? ⟨b + 1 + 1, 0, none⟩ = some nf := Boxed.cell (t := 140) h.note
/-- A note leaves all else. -/
theorem StW.noted {w0 W w' : World} {b vc : Nat} {dc : Array Value} {nf : Value} {va : Option Addr} {l l' : List DiagD} (h : StW w0 W b dc nf va vc l) (hn : Noted W w' (b + 1) va vc l' l) :
    ∃ va' vc', StW w0 w' b dc nf va' vc' l' ∧ Below (b + 1) W w' ∧ (∀ q, q < W.heap.size → (Value.slice va l.length vc).ownBlock ≠ some q → (Value.slice va' l'.length vc').ownBlock ≠ some q) ∧ (∀ q, q < W.heap.size → q ≠ b + 1 → (Value.slice va l.length vc).ownBlock ≠ some q → w'.heap[q]? = W.heap[q]?) ∧
      (∀ (q : Nat) (c : Array Value) (t : TypeId) (fr : Nat × Nat), W.heap[q]? = some (.cells c t fr) → t ≠ 139 → q ≠ b + 1 → w'.heap[q]? = some (.cells c t fr)) := by
  obtain ⟨va', vc', h1, h2, h3, h4⟩ := hn
  have key : ∀ (q : Nat) (c : Array Value) (t : TypeId) (fr : Nat × Nat), W.heap[q]? = some (.cells c t fr) → t ≠ 139 → q ≠ b + 1 → w'.heap[q]? = some (.cells c t fr) :=
    fun q c t fr hq ht hqb => h3 q _ hq hqb (h.out.own.ne hq ht)
  refine ⟨va', vc', ⟨h1, key _ _ _ _ h.note (by decide) (by omega), key _ _ _ _ h.dfb (by decide) (by omega), h.low.trans (h2.mono (by omega))⟩, h2, h4, fun q hq hqb hqo => ?_, key⟩
  have e := Array.getElem?_eq_getElem hq
  rw [h3 q _ e hqb hqo, e]
theorem StW.map {w0 W w' : World} {b vc : Nat} {dc : Array Value} {nf : Value} {va : Option Addr} {l : List DiagD} (h : StW w0 W b dc nf va vc l) (hs : ∀ q, q < W.heap.size → q ≠ b + 1 → (Value.slice va l.length vc).ownBlock ≠ some q → w'.heap[q]? = W.heap[q]?) {κ : Type} {enc : κ → Value} {P : Program} {k e n M : Nat} {g : κ → Option Int} (hm : MapO P k e enc W M n g) : MapO P k e enc w' M n g :=
  hm.block (hs M hm.lt (fun e => hm.ne (h.out.box) e.symm) (h.out.own.nemap hm))

/-- A step of an iterator's. -/
theorem MapO.step {n0 : Nat} {S S' : Nat → Prop} {W W' : World} {P : Program} {k e : TypeId} {κ : Type} {enc : κ → Value} {b n : Nat} {g : κ → Option Int} (h : Step n0 S S' W W') (hm : MapO P k e enc W b n g) (hS : ¬ S b) : MapO P k e enc W' b n g ∧ ¬ S' b :=
  ⟨hm.block (h.same b hm.lt hS), fun hs' => by rcases h.new b hs' with h1 | ⟨h1, _⟩; exact hS h1; have := hm.lt; omega⟩
/-- What lies between two rounds of the second loop. -/
structure NkJ (w0 : World) (b R : Nat) (dc : Array Value) (nf : Value) (all : List StepD) (l0 : List DiagD) (S : Nat → Prop) (pre : List RefD) (W : World) (va : Option Addr) (vc nM : Nat) : Prop where
  st : StW w0 W b dc nf va vc (refsN all [] pre l0)
  map : MapO Try.prog 146 3 aggO W R nM (cntI (pre.map keyR))
  few : nM ≤ pre.length
  mbox : Boxed W (R + 1) 144 (.map (some R))
  o1 : ¬ S (b + 1)
  o2 : ¬ S (b + 1 + 1)
  o3 : ¬ S R
  o4 : ¬ S (R + 1)
  o5 : ∀ g, (Value.slice va (refsN all [] pre l0).length vc).ownBlock = some g → ¬ S g
def nkJ (w0 : World) (b R : Nat) (dc : Array Value) (nf : Value) (all : List StepD) (l0 : List DiagD) : (Nat → Prop) → List RefD → World → Prop := fun S pre W => ∃ va vc nM, NkJ w0 b R dc nf all l0 S pre W va vc nM
theorem nkJ_step (w0 : World) (b R : Nat) (dc : Array Value) (nf : Value) (all : List StepD) (l0 : List DiagD) : Stable (b + 1) (nkJ w0 b R dc nf all l0) := by
  rintro S S' s W W' hS ⟨va, vc, nM, h⟩ hs
  obtain ⟨k1, k2⟩ := hs.boxed h.st.out.box h.o1
  obtain ⟨k3, k4⟩ := hs.owns h.st.out.own h.o5
  obtain ⟨k5, k6⟩ := hs.boxed (B := b + 1 + 1) h.st.note h.o2
  obtain ⟨k7, k8⟩ := MapO.step hs h.map h.o3
  obtain ⟨k9, k10⟩ := hs.boxed h.mbox h.o4
  exact ⟨va, vc, nM, ⟨⟨k1, k3⟩, k5, (hs.below.block b (Nat.lt_succ_self b)).trans h.st.dfb, h.st.low.trans (hs.below.mono (Nat.le_succ b))⟩, k7, h.few, k9, k2, k6, k8, k10, k4⟩
/-- A note behind a round's block: all that the loop keeps, and the iterator's blocks. -/
theorem NkN {w0 W w' : World} {b R T nM vc : Nat} {dc : Array Value} {nf : Value} {va : Option Addr} {l l' : List DiagD} {S : Nat → Prop} {g : Nat × ByteArray → Option Int} {tc : Array Value} {tt : TypeId} {n0 : Nat}
    (h : StW w0 W b dc nf va vc l) (hm : MapO Try.prog 146 3 aggO W R nM g) (hx : Boxed W (R + 1) 144 (.map (some R))) (hT : W.heap[T]? = some (.cells tc tt (0, 0))) (htt : tt ≠ 139) (hTb : T ≠ b + 1) (hRb : R + 1 ≠ b + 1)
    (hS : ∀ k, S k → n0 ≤ k ∧ k < W.heap.size) (h1 : ¬ S (b + 1)) (h5 : ∀ g, (Value.slice va l.length vc).ownBlock = some g → ¬ S g) (hn0 : n0 ≤ b + 1) (hn : Noted W w' (b + 1) va vc l' l) :
    ∃ va' vc', StW w0 w' b dc nf va' vc' l' ∧ MapO Try.prog 146 3 aggO w' R nM g ∧ Boxed w' (R + 1) 144 (.map (some R)) ∧ w'.heap[T]? = some (.cells tc tt (0, 0)) ∧ (∀ g, (Value.slice va' l'.length vc').ownBlock = some g → ¬ S g) ∧ Keep n0 S W w' ∧ Below (b + 1) W w' := by
  obtain ⟨va', vc', k1, k2, k3, k4, k5⟩ := h.noted hn
  refine ⟨va', vc', k1, h.map k4 hm, k5 _ _ _ _ hx (by decide) hRb, k5 _ _ _ _ hT htt hTb, fun g hg hs => ?_, ⟨k2.mono hn0, fun q hq => ?_⟩, k2⟩
  · have hlt := (hS g hs).2
    by_cases e : (Value.slice va l.length vc).ownBlock = some g
    · exact h5 g e hs
    · exact k3 g hlt e hg
  · exact k4 q (hS q hq).2 (fun e => h1 (e ▸ hq)) (fun e => h5 q e hq)
/-- A loop over a function whose variable lies in a box: the frame of a round is a function of the element and of the box. -/
theorem wpIn_rfB {P : Program} {α : Type} {g : Operand} {ps : Array Tmp} {assign body : Code} {Q : Exit → Act → World → Prop} {a : Act} {w : World}
    {gf : Nat} {lb : Array Value} (hg : a.eval g = .func (.func gf) #[] lb) (eg : ∀ args w, (callFunc gf args).run P w = .ok (.enter gf args) w)
    {encs : α → Array Value} {xs : List α} {n0 : Nat} {S0 : Nat → Prop} {fin : Prop} (hit : IterAt P n0 gf lb encs xs fin S0 w)
    (hn0 : n0 ≤ w.heap.size) (hS0 : ∀ k, S0 k → n0 ≤ k ∧ k < w.heap.size) (hps : ∀ x, (encs x).size = ps.size)
    (J : (Nat → Prop) → List α → World → Prop) (Jx : Code → (Nat → Prop) → List α → World → Prop) (hfin : ¬ fin → ∀ S W, ¬ J S xs W) (hJ : Stable n0 J) (hJx : ∀ c, Stable n0 (Jx c)) (h0 : J S0 [] w)
    (F : α → Nat → Act) (cs : α → Array Value) (t : TypeId)
    (hassign : ∀ (l : Nat) (S : Nat → Prop) (pre : List α) (x : α) (W : World) (K : Act → World → Prop), (∀ k, S k → n0 ≤ k ∧ k < W.heap.size) → w.heap.size ≤ W.heap.size → J S pre W → (∀ b W', Keep n0 S W W' → J S pre W' → W'.heap[b]? = some (.cells (cs x) t (0, 0)) → K (F x b) W') →
      assign.wpIn (Fence.wide.inRound l) 0 P (Exit.then K (fun _ _ _ => False)) { tmps := (ps.zip (encs x)).foldl (fun t (p, v) => t.setIfInBounds p v) a.tmps, defers := [] } W)
    (hbody : ∀ (l : Nat) (S : Nat → Prop) (pre : List α) (x : α) (b : Nat) (W : World), (∀ k, S k → n0 ≤ k ∧ k < W.heap.size) → w.heap.size ≤ W.heap.size → S l → (∃ r, W.heap[l]? = some (.loop r)) → J S pre W → W.heap[b]? = some (.cells (cs x) t (0, 0)) → pre ++ [x] <+: xs →
      body.wpIn (Fence.wide.inRound l) 0 P (rfPost n0 S J Jx (pre ++ [x]) W) (F x b) W)
    (hdone : ∀ (D : Nat) (S : Nat → Prop) (W : World), w.heap.size ≤ D → (∀ k, S k → n0 ≤ k ∧ k < W.heap.size) → S D → J S xs W → W.heap[D]? = some (.deferred (some [])) → Q .normal { a with defers := { target := .collected D, args := #[] } :: a.defers } W)
    (hstop : ∀ (D : Nat) (c : Code) (S : Nat → Prop) (pre : List α) (W : World), w.heap.size ≤ D → (∀ k, S k → n0 ≤ k ∧ k < W.heap.size) → S D → pre <+: xs → Jx c S pre W → W.heap[D]? = some (.deferred (some [])) → c.wpIn Fence.wide 0 P Q { a with defers := { target := .collected D, args := #[] } :: a.defers } W) :
    (Code.rangeFunc g ps assign body).wpIn Fence.wide 0 P Q a w := by
  refine wpIn_rf hg eg hit hn0 hS0 hps J Jx hfin hJ hJx h0 (fun x a' W => ∃ b, a' = F x b ∧ W.heap[b]? = some (.cells (cs x) t (0, 0))) ?_ ?_ ?_ hdone hstop
  · rintro x a' l W W' hl hlt ⟨b, rfl, hb⟩ hs ⟨r, hr⟩
    have hne : b ≠ l := by rintro rfl; rw [hr] at hb; cases hb
    exact ⟨b, rfl, (hs.same b (Array.getElem?_eq_some_iff.1 hb).1 hne).trans hb⟩
  · exact fun l S pre x W K h1 h2 h3 h4 hk => hassign l S pre x W K h1 h2 h3 fun b W' k1 k2 k3 => hk _ W' k1 k2 ⟨b, rfl, k3⟩
  · rintro l S pre x a' W h1 h2 h3 h4 h5 ⟨b, rfl, hb⟩ h7
    exact hbody l S pre x b W h1 h2 h3 h4 h5 hb h7
end Go.Proofs.Ytkgcpbhlbfjcoaa

/-
  The law BoundsChecks: walk.
-/
namespace Go.Proofs.Ytkgcpbhlbfjcoaa
open Go Go.RowKit Go.WideShapes

theorem refsF_len (all : List StepD) {m : Nat} : ∀ (l : List StepD) (i : Nat), (∀ s ∈ l, s.after.length ≤ m) → (refsF all i l).length ≤ l.length * m
  | [], i, _ => by simp [refsF]
  | s :: l, i, h => by
    rw [refsF, List.length_append, List.length_cons, Nat.add_mul, Nat.one_mul]
    have h1 := refsF_len all l (i + 1) (fun t ht => h t (by simp [ht]))
    have h2 := h s (by simp)
    unfold rowRf
    rw [List.length_map]
    omega
theorem chk_ok {d : DefD} (hs : SmallD d) : ∀ x ∈ chkU d.steps d.steps.length (chkR 0 d.steps []), OkG x := by
  intro x hx
  have hl := hs.steps
  rw [chkU_mem, chkR_mem] at hx
  rcases hx with (h | ⟨i, s, hi, h⟩) | ⟨q, u, t, s, hq, hu, h1, h2, h3, h4, rfl⟩
  · cases h
  · have hil : i < d.steps.length := (List.getElem?_eq_some_iff.1 hi).1
    unfold rangeL at h
    simp only [noteL_mem, List.not_mem_nil, false_or] at h
    rcases h with ((⟨-, rfl⟩ | ⟨-, rfl⟩) | ⟨-, rfl⟩) | ⟨-, rfl⟩
    all_goals exact ⟨by unfold I64w; simp only; omega, by unfold I64w; simp only; omega, by simp only; decide⟩
  · obtain ⟨n, rfl, hn⟩ := depsD_in d.steps q u t h2
    have := (hs.each s (List.mem_of_getElem? h3)).name
    exact ⟨by unfold I64w; simp only; omega, by unfold I64w; simp only; omega, by unfold maxLen; simp only; omega⟩
theorem ref_ok {d : DefD} (hs : SmallD d) : ∀ x ∈ refC d.steps d.steps.length, OkG x := by
  intro x hx
  have := (sortD_mem _ x).2 hx
  rw [checks_alike] at this
  exact chk_ok hs x ((sortD_mem _ x).1 this)

end Go.Proofs.Ytkgcpbhlbfjcoaa
