/-
  graph: plain laws of what is left without what follows from others.
-/
import Derived.Test.YtlpcagkknfajeaaGj
namespace Go.Proofs.Ytlpcagkknfajeaa
open Go.RowKit

/-- Each once. -/
def onceStep (out : List Int) (j : Int) : List Int := if out.contains j then out else out ++ [j]
def onceF (l : List Int) : List Int := l.foldl onceStep []
theorem onceF_snoc (l : List Int) (j : Int) : onceF (l ++ [j]) = onceStep (onceF l) j := by unfold onceF; rw [List.foldl_append]; rfl
theorem once_gen : ∀ (l out : List Int), out.Nodup → (l.foldl onceStep out).Nodup ∧ (∀ z, z ∈ l.foldl onceStep out ↔ z ∈ out ∨ z ∈ l) ∧ (l.foldl onceStep out).length ≤ out.length + l.length ∧ ((out ++ l).Nodup → l.foldl onceStep out = out ++ l) := by
  intro l
  induction l with
  | nil => intro out h; exact ⟨h, fun z => by simp, by simp, fun _ => by simp⟩
  | cons j l ih =>
    intro out h
    rw [List.foldl_cons]
    by_cases hj : out.contains j = true
    · have e : onceStep out j = out := by unfold onceStep; rw [if_pos hj]
      rw [e]
      obtain ⟨i1, i2, i3, i4⟩ := ih out h
      have hm : j ∈ out := by simpa using hj
      refine ⟨i1, fun z => ?_, by simp; omega, fun hn => ?_⟩
      · rw [i2, List.mem_cons]
        constructor
        · rintro (h | h); exact .inl h; exact .inr (.inr h)
        · rintro (h | rfl | h); exact .inl h; exact .inl hm; exact .inr h
      · rw [List.nodup_append] at hn
        exact absurd rfl (hn.2.2 j hm j List.mem_cons_self)
    · have e : onceStep out j = out ++ [j] := by unfold onceStep; rw [if_neg hj]
      rw [e]
      have hm : j ∉ out := fun h => hj (by simpa using h)
      obtain ⟨i1, i2, i3, i4⟩ := ih (out ++ [j]) (by
        rw [List.nodup_append]
        exact ⟨h, by simp, fun a ha b hb e' => by simp at hb; subst hb; subst e'; exact hm ha⟩)
      refine ⟨i1, fun z => ?_, by simp at i3 ⊢; omega, fun hn => ?_⟩
      · rw [i2, List.mem_append, List.mem_singleton, List.mem_cons, or_assoc]
      · rw [i4 (by simpa using hn)]; simp
theorem onceF_nodup (l : List Int) : (onceF l).Nodup := (once_gen l [] List.nodup_nil).1
theorem mem_onceF {l : List Int} {z : Int} : z ∈ onceF l ↔ z ∈ l := by have := (once_gen l [] List.nodup_nil).2.1 z; simpa [onceF] using this
theorem onceF_len (l : List Int) : (onceF l).length ≤ l.length := by have := (once_gen l [] List.nodup_nil).2.2.1; simpa [onceF] using this
theorem onceF_self {l : List Int} (h : l.Nodup) : onceF l = l := by have := (once_gen l [] List.nodup_nil).2.2.2 (by simpa using h); simpa [onceF] using this

def ownL (rows : List (List Int)) (i : Nat) : List Int := onceF (depL rows.length (rows[i]?.getD []))
theorem mem_ownL {rows : List (List Int)} {i : Nat} {z : Int} (hi : i < rows.length) : z ∈ ownL rows i ↔ ∃ y : Nat, z = y ∧ Edge rows i y := by
  unfold ownL
  rw [mem_onceF]
  constructor
  · intro h
    obtain ⟨y, rfl, hy⟩ := dep_nats rows i z h
    exact ⟨y, rfl, (edge_dep hi).2 h⟩
  · rintro ⟨y, rfl, he⟩
    exact (edge_dep hi).1 he
/-- Does one of a row's others come behind it? -/
def folB (rows : List (List Int)) (own : List Int) (j : Int) : Bool := own.any fun k => decide (k ≠ j) && hasB (befL rows k) j
def redR (rows : List (List Int)) (i : Nat) : List Int := (ownL rows i).filter fun j => !folB rows (ownL rows i) j
def redL (rows : List (List Int)) : List (List Int) := (List.range rows.length).map (redR rows)
theorem redL_len (rows : List (List Int)) : (redL rows).length = rows.length := by simp [redL]
theorem redL_get {rows : List (List Int)} {i : Nat} (hi : i < rows.length) : (redL rows)[i]?.getD [] = redR rows i := by simp [redL, hi]

theorem has_bef {rows : List (List Int)} {k j : Nat} (hk : k < rows.length) : hasB (befL rows k) j = true ↔ Rch rows k j := by
  rw [befL_in hk]
  unfold hasB
  rw [List.contains_iff_mem, mem_selL, befIn_iff hk]
  exact ⟨fun h => h.2, fun h => ⟨h.lt2, h⟩⟩
theorem fol_iff {rows : List (List Int)} {i j : Nat} (hi : i < rows.length) : folB rows (ownL rows i) j = true ↔ ∃ k : Nat, k ≠ j ∧ Edge rows i k ∧ Rch rows k j := by
  unfold folB
  rw [List.any_eq_true]
  constructor
  · rintro ⟨z, hz, h⟩
    obtain ⟨k, rfl, he⟩ := (mem_ownL hi).1 hz
    rw [Bool.and_eq_true, decide_eq_true_eq, has_bef he.2.1] at h
    exact ⟨k, fun e => h.1 (by rw [e]), he, h.2⟩
  · rintro ⟨k, hne, he, hr⟩
    refine ⟨k, (mem_ownL hi).2 ⟨k, rfl, he⟩, ?_⟩
    rw [Bool.and_eq_true, decide_eq_true_eq, has_bef he.2.1]
    exact ⟨fun e => hne (by omega), hr⟩
theorem red_edge {rows : List (List Int)} {x y : Nat} : Edge (redL rows) x y ↔ Edge rows x y ∧ ¬ ∃ k : Nat, k ≠ y ∧ Edge rows x k ∧ Rch rows k y := by
  constructor
  · rintro ⟨h1, h2, h3⟩
    rw [redL_len] at h1 h2
    rw [redL_get h1] at h3
    unfold redR at h3
    rw [List.mem_filter] at h3
    obtain ⟨y', e, he⟩ := (mem_ownL h1).1 h3.1
    have : y' = y := by omega
    subst this
    refine ⟨he, fun hc => ?_⟩
    have := (fol_iff h1).2 hc
    rw [this] at h3
    exact absurd h3.2 (by simp)
  · rintro ⟨he, hn⟩
    refine ⟨by rw [redL_len]; exact he.1, by rw [redL_len]; exact he.2.1, ?_⟩
    rw [redL_get he.1]
    unfold redR
    rw [List.mem_filter]
    refine ⟨(mem_ownL he.1).2 ⟨y, rfl, he⟩, ?_⟩
    cases hf : folB rows (ownL rows x) y with
    | false => rfl
    | true => exact absurd ((fol_iff he.1).1 hf) hn
theorem red_sub {rows : List (List Int)} {x y : Nat} (h : Rch (redL rows) x y) : Rch rows x y := by
  induction h with
  | one e => exact .one (red_edge.1 e).1
  | more e _ ih => exact .more (red_edge.1 e).1 ih

open Classical in
/-- How many come behind one. -/
noncomputable def cR (rows : List (List Int)) (x : Nat) : Nat := (List.range rows.length).countP fun a => decide (Rch rows x a)
theorem cR_le (rows : List (List Int)) (x : Nat) : cR rows x ≤ rows.length := by
  have := List.countP_le_length (p := fun a => @decide (Rch rows x a) (Classical.propDecidable _)) (l := List.range rows.length)
  rw [List.length_range] at this
  exact this
theorem cR_lt {rows : List (List Int)} (hac : ∀ x, ¬ Rch rows x x) {x y : Nat} (h : Rch rows x y) : cR rows y < cR rows x :=
  countP_lt (fun a _ ha => by simp at ha ⊢; exact h.trans ha) (x := y) (List.mem_range.2 h.lt2) (by simpa using hac y) (by simpa using h)
theorem red_kept {rows : List (List Int)} (hac : ∀ x, ¬ Rch rows x x) {x : Nat} : ∀ (m y : Nat), rows.length ≤ m + cR rows y → Edge rows x y → Edge (redL rows) x y ∨ ∃ k, Edge (redL rows) x k ∧ Rch rows k y := by
  intro m
  induction m with
  | zero =>
    intro y hm he
    by_cases hc : ∃ k : Nat, k ≠ y ∧ Edge rows x k ∧ Rch rows k y
    · obtain ⟨k, _, _, hr⟩ := hc
      have := cR_lt hac hr
      have := cR_le rows k
      omega
    · exact .inl (red_edge.2 ⟨he, hc⟩)
  | succ m ih =>
    intro y hm he
    by_cases hc : ∃ k : Nat, k ≠ y ∧ Edge rows x k ∧ Rch rows k y
    · obtain ⟨k, _, hek, hr⟩ := hc
      have := cR_lt hac hr
      rcases ih k (by omega) hek with h | ⟨k', h, hr'⟩
      · exact .inr ⟨k, h, hr⟩
      · exact .inr ⟨k', h, hr'.trans hr⟩
    · exact .inl (red_edge.2 ⟨he, hc⟩)
theorem red_first {rows : List (List Int)} (hac : ∀ x, ¬ Rch rows x x) {x y : Nat} (h : Rch rows x y) : ∃ k, Edge (redL rows) x k ∧ (k = y ∨ Rch rows k y) := by
  cases h with
  | one e =>
    rcases red_kept hac rows.length y (by omega) e with h | ⟨k, h, hr⟩
    · exact ⟨y, h, .inl rfl⟩
    · exact ⟨k, h, .inr hr⟩
  | @more _ z _ e hr =>
    rcases red_kept hac rows.length z (by omega) e with h | ⟨k, h, hr'⟩
    · exact ⟨z, h, .inr hr⟩
    · exact ⟨k, h, .inr (hr'.trans hr)⟩
theorem red_sup {rows : List (List Int)} (hac : ∀ x, ¬ Rch rows x x) : ∀ (m x y : Nat), cR rows x ≤ m → Rch rows x y → Rch (redL rows) x y := by
  intro m
  induction m with
  | zero =>
    intro x y hm hr
    have := cR_lt hac hr
    omega
  | succ m ih =>
    intro x y hm hr
    obtain ⟨k, he, hk⟩ := red_first hac hr
    rcases hk with rfl | hk
    · exact .one he
    · have := cR_lt hac (Rch.one (red_edge.1 he).1)
      exact .more he (ih k y (by omega) hk)
/-- THE SAME COME BEHIND. -/
theorem red_rch {rows : List (List Int)} (hac : ∀ x, ¬ Rch rows x x) {x y : Nat} : Rch (redL rows) x y ↔ Rch rows x y := ⟨red_sub, red_sup hac _ x y (Nat.le_refl _)⟩
theorem ok_acyc {rows : List (List Int)} (h : (ordO rows).length = rows.length) : ∀ x, ¬ Rch rows x x := fun x hx => ordO_nocyc ((ordO_all rows).1 h x hx.lt1) hx
theorem red_bef {rows : List (List Int)} (hac : ∀ x, ¬ Rch rows x x) (i : Int) : befL (redL rows) i = befL rows i := by
  by_cases hin : 0 ≤ i ∧ i < rows.length
  · obtain ⟨I, rfl⟩ : ∃ I : Nat, i = I := ⟨i.toNat, by omega⟩
    have hI : I < rows.length := by omega
    rw [befL_in hI, befL_in (by rw [redL_len]; exact hI), redL_len]
    exact selL_congr fun a => by rw [befIn_iff hI, befIn_iff (by rw [redL_len]; exact hI), red_rch hac]
  · rw [befL_out hin, befL_out (by rw [redL_len]; exact hin)]
theorem red_may {rows : List (List Int)} (hac : ∀ x, ¬ Rch rows x x) {th : List Bool} {out : List Nat} (h : OInv rows th out) {j : Nat} (hj : j < rows.length) : rdyB (redL rows) th j = rdyB rows th j := by
  have : mayB (redL rows) th j = mayB rows th j := by
    rw [Bool.eq_iff_iff, mayB_iff hj, mayB_iff (by rw [redL_len]; exact hj)]
    constructor
    · intro hm y he
      obtain ⟨k, hk, hky⟩ := red_first hac (Rch.one he)
      have hg := hm k hk
      rcases hky with rfl | hky
      · exact hg
      · obtain ⟨p, hp, hpe⟩ := List.getElem_of_mem ((h.mem k).1 hg)
        have gen : ∀ a b, Rch rows a b → ∀ (p : Nat) (hp : p < out.length), out[p] = a → b ∈ out := by
          intro a b hab
          induction hab with
          | one e => rintro p hp rfl; exact List.mem_of_mem_take (h.ord p hp _ e)
          | more e _ ih =>
            rintro p hp rfl
            obtain ⟨q, hq, he⟩ := List.getElem_of_mem (List.mem_of_mem_take (h.ord p hp _ e))
            exact ih q hq he
        exact (h.mem y).2 (gen k y hky p hp hpe)
    · exact fun hm y he => hm y (red_edge.1 he).1
  unfold rdyB
  rw [this]
theorem find_congr {p q : Nat → Bool} {n : Nat} (h : ∀ j, j < n → p j = q j) : (List.range n).find? p = (List.range n).find? q := by
  have gen : ∀ l : List Nat, (∀ j ∈ l, p j = q j) → l.find? p = l.find? q := by
    intro l
    induction l with
    | nil => intro _; rfl
    | cons a t ih =>
      intro h
      rw [List.find?_cons, List.find?_cons, h a List.mem_cons_self, ih fun j hj => h j (List.mem_cons_of_mem _ hj)]
  exact gen _ fun j hj => h j (List.mem_range.1 hj)
theorem red_ordF {rows : List (List Int)} (hac : ∀ x, ¬ Rch rows x x) : ∀ (f : Nat) (th : List Bool) (out : List Nat), OInv rows th out → ordF (redL rows) f (th, out) = ordF rows f (th, out) := by
  intro f
  induction f with
  | zero => intro th out _; rfl
  | succ f ih =>
    intro th out h
    have hf : (List.range (redL rows).length).find? (rdyB (redL rows) th) = (List.range rows.length).find? (rdyB rows th) := by
      rw [redL_len]; exact find_congr fun j hj => red_may hac h hj
    simp only [ordF]
    rw [hf]
    cases hk : (List.range rows.length).find? (rdyB rows th) with
    | none => rfl
    | some k =>
      simp only
      exact ih _ _ (h.step (List.mem_range.1 (List.mem_of_find?_eq_some hk)) (List.find?_some hk))
theorem red_ord {rows : List (List Int)} (hac : ∀ x, ¬ Rch rows x x) : ordO (redL rows) = ordO rows := by
  unfold ordO
  rw [redL_len, red_ordF hac _ _ _ (OInv.start rows)]
theorem red_own {rows : List (List Int)} {i : Nat} (hi : i < rows.length) : ownL (redL rows) i = redR rows i := by
  unfold ownL
  rw [redL_get hi, redL_len]
  have hd : depL rows.length (redR rows i) = redR rows i := by
    unfold depL
    rw [List.filter_eq_self]
    intro z hz
    unfold redR at hz
    obtain ⟨y, rfl, he⟩ := (mem_ownL hi).1 (List.mem_filter.1 hz).1
    unfold inB; have := he.2.1; simp; omega
  rw [hd]
  exact onceF_self (List.Nodup.sublist List.filter_sublist (onceF_nodup _))
theorem red_red {rows : List (List Int)} (hac : ∀ x, ¬ Rch rows x x) : redL (redL rows) = redL rows := by
  unfold redL
  rw [show ((List.range rows.length).map (redR rows)).length = rows.length by simp]
  refine List.map_congr_left fun i hi => ?_
  have hi := List.mem_range.1 hi
  show redR (redL rows) i = redR rows i
  have e : redR (redL rows) i = (redR rows i).filter fun j => !folB (redL rows) (redR rows i) j := by
    show (ownL (redL rows) i).filter _ = _
    rw [red_own hi]
  rw [e, List.filter_eq_self]
  intro z hz
  have hz' := hz
  unfold redR at hz'
  rw [List.mem_filter] at hz'
  cases hf : folB (redL rows) (redR rows i) z with
  | false => rfl
  | true =>
    exfalso
    have : folB rows (ownL rows i) z = true := by
      unfold folB at hf ⊢
      rw [List.any_eq_true] at hf ⊢
      obtain ⟨k, hk, h⟩ := hf
      rw [red_bef hac] at h
      unfold redR at hk
      exact ⟨k, (List.mem_filter.1 hk).1, h⟩
    rw [this] at hz'
    exact absurd hz'.2 (by simp)
theorem red_row_len (rows : List (List Int)) (i : Nat) : (redR rows i).length ≤ (rows[i]?.getD []).length := by
  unfold redR ownL depL
  exact Nat.le_trans (List.length_filter_le _ _) (Nat.le_trans (onceF_len _) (List.length_filter_le _ _))
end Go.Proofs.Ytlpcagkknfajeaa
