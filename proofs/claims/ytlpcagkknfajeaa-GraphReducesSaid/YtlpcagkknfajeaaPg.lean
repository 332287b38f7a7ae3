/-
  graph: plain laws of the order, of what comes behind what, and of circles.
-/
import Derived.Test.YtlpcagkknfajeaaGh
namespace Go.Proofs.Ytlpcagkknfajeaa
open Go.RowKit

/-- One comes right behind another; or by others. -/
def Edge (rows : List (List Int)) (x y : Nat) : Prop := x < rows.length ∧ y < rows.length ∧ (y : Int) ∈ rows[x]?.getD []
inductive Rch (rows : List (List Int)) : Nat → Nat → Prop
  | one {x y : Nat} : Edge rows x y → Rch rows x y
  | more {x y z : Nat} : Edge rows x y → Rch rows y z → Rch rows x z
theorem Rch.trans {rows : List (List Int)} {x y z : Nat} (h : Rch rows x y) (k : Rch rows y z) : Rch rows x z := by
  induction h with
  | one e => exact .more e k
  | more e _ ih => exact .more e (ih k)
theorem Rch.snoc {rows : List (List Int)} {x y z : Nat} (h : Rch rows x y) (k : Edge rows y z) : Rch rows x z := h.trans (.one k)
theorem Rch.lt1 {rows : List (List Int)} {x y : Nat} (h : Rch rows x y) : x < rows.length := by
  cases h with
  | one e => exact e.1
  | more e _ => exact e.1
theorem Rch.lt2 {rows : List (List Int)} {x y : Nat} (h : Rch rows x y) : y < rows.length := by
  induction h with
  | one e => exact e.2.1
  | more _ _ ih => exact ih

def gb (th : List Bool) (a : Nat) : Bool := th[a]?.getD false
theorem thereB_gb (th : List Bool) (a : Nat) : thereB th a = gb th a := by
  unfold thereB gb
  by_cases h : a < th.length
  · simp [h]
  · simp [h]
theorem gb_lt {th : List Bool} {a : Nat} (h : gb th a = true) : a < th.length := by
  unfold gb at h
  by_cases h' : a < th.length
  · exact h'
  · rw [List.getElem?_eq_none (by omega)] at h; cases h
theorem gb_set (th : List Bool) (k a : Nat) (hk : k < th.length) : gb (th.set k true) a = (decide (a = k) || gb th a) := by
  unfold gb
  by_cases h : a = k
  · subst h; simp [hk]
  · rw [List.getElem?_set_ne (fun e => h e.symm)]; simp [h]
theorem gb_replicate (n a : Nat) : gb (List.replicate n false) a = false := by
  unfold gb
  rw [List.getElem?_replicate]
  split <;> rfl

theorem mem_depL {n : Nat} {l : List Int} {y : Nat} : (y : Int) ∈ depL n l ↔ y < n ∧ (y : Int) ∈ l := by
  unfold depL inB
  rw [List.mem_filter]
  constructor
  · rintro ⟨h1, h2⟩; simp at h2; exact ⟨h2, h1⟩
  · rintro ⟨h1, h2⟩; exact ⟨h2, by simpa using h1⟩
theorem depL_nat {n : Nat} {l : List Int} {j : Int} (h : j ∈ depL n l) : ∃ y : Nat, j = y ∧ y < n ∧ (y : Int) ∈ l := by
  unfold depL inB at h
  rw [List.mem_filter] at h
  obtain ⟨h1, h2⟩ := h
  simp at h2
  refine ⟨j.toNat, by omega, by omega, ?_⟩
  rw [Int.toNat_of_nonneg h2.1]; exact h1
theorem edge_dep {rows : List (List Int)} {x y : Nat} (hx : x < rows.length) : Edge rows x y ↔ (y : Int) ∈ depL rows.length (rows[x]?.getD []) := by
  rw [mem_depL]; unfold Edge; simp [hx]

theorem mayB_iff {rows : List (List Int)} {th : List Bool} {i : Nat} (hi : i < rows.length) : mayB rows th i = true ↔ ∀ y, Edge rows i y → gb th y = true := by
  rw [mayB_dep rows th i hi, List.all_eq_true]
  constructor
  · intro h y he
    have := h (y : Int) (by have h1 := (edge_dep hi).1 he; simpa [hi] using h1)
    unfold okT at this
    rw [← thereB_gb]; unfold thereB; simpa using this
  · intro h j hj
    obtain ⟨y, rfl, hy, hm⟩ := depL_nat hj
    have := h y ⟨hi, hy, by simpa [hi] using hm⟩
    rw [← thereB_gb] at this
    unfold okT; unfold thereB at this; simpa using this

/-- What holds of the greedy order at all times. -/
structure OInv (rows : List (List Int)) (th : List Bool) (out : List Nat) : Prop where
  len : th.length = rows.length
  mem : ∀ j, gb th j = true ↔ j ∈ out
  nd : out.Nodup
  cnt : out.length = th.count true
  ord : ∀ (p : Nat) (hp : p < out.length) (y : Nat), Edge rows out[p] y → y ∈ out.take p

theorem count_set {th : List Bool} {k : Nat} (hk : k < th.length) (h : gb th k = false) : (th.set k true).count true = th.count true + 1 := by
  induction th generalizing k with
  | nil => simp at hk
  | cons b t ih =>
    cases k with
    | zero =>
      have : b = false := by simpa [gb] using h
      subst this
      simp
    | succ k =>
      have := ih (k := k) (by simpa using hk) (by simpa [gb] using h)
      simp only [List.set_cons_succ, List.count_cons, this]
      omega

theorem OInv.start (rows : List (List Int)) : OInv rows (List.replicate rows.length false) [] :=
  ⟨by simp, fun j => by rw [gb_replicate]; simp, List.nodup_nil, by simp [List.count_replicate], fun p hp => absurd hp (by simp)⟩

theorem OInv.step {rows : List (List Int)} {th : List Bool} {out : List Nat} (h : OInv rows th out) {k : Nat} (hk : k < rows.length) (hr : rdyB rows th k = true) : OInv rows (th.set k true) (out ++ [k]) := by
  unfold rdyB at hr
  rw [thereB_gb] at hr
  simp only [Bool.and_eq_true, Bool.not_eq_true'] at hr
  obtain ⟨h1, h2⟩ := hr
  have hkl : k < th.length := by rw [h.len]; exact hk
  have hno : k ∉ out := fun hm => by rw [(h.mem k).2 hm] at h1; cases h1
  refine ⟨by simpa using h.len, fun j => ?_, ?_, ?_, fun p hp y he => ?_⟩
  · rw [gb_set _ _ _ hkl, List.mem_append, List.mem_singleton, Bool.or_eq_true, h.mem]
    simp [or_comm]
  · rw [List.nodup_append]
    exact ⟨h.nd, by simp, fun a ha b hb e => by simp at hb; subst hb; subst e; exact hno ha⟩
  · rw [count_set hkl h1, List.length_append, h.cnt]; rfl
  · rw [List.length_append, List.length_singleton] at hp
    rcases Nat.lt_or_ge p out.length with hl | hl
    · rw [List.getElem_append_left hl] at he
      rw [List.take_append_of_le_length (by omega)]
      exact h.ord p hl y he
    · have hpe : p = out.length := by omega
      subst hpe
      simp only [List.getElem_append_right (Nat.le_refl _), Nat.sub_self, List.getElem_singleton] at he
      rw [List.take_left']
      · exact (h.mem y).1 ((mayB_iff hk).1 h2 y he)
      · rfl

theorem count_all {th : List Bool} (h : th.length ≤ th.count true) (j : Nat) (hj : j < th.length) : gb th j = true := by
  have := List.count_eq_length.1 (Nat.le_antisymm List.count_le_length h)
  unfold gb
  rw [List.getElem?_eq_getElem hj]
  exact (this _ (List.getElem_mem hj)).symm

theorem ordF_facts (rows : List (List Int)) : ∀ (f : Nat) (th : List Bool) (out : List Nat), OInv rows th out → rows.length ≤ f + out.length →
    OInv rows (ordF rows f (th, out)).1 (ordF rows f (th, out)).2 ∧ ∀ j, j < rows.length → rdyB rows (ordF rows f (th, out)).1 j = false := by
  intro f
  induction f with
  | zero =>
    intro th out h hl
    refine ⟨h, fun j hj => ?_⟩
    show rdyB rows th j = false
    unfold rdyB
    rw [thereB_gb, count_all (by rw [← h.cnt, h.len]; omega) j (by rw [h.len]; exact hj)]
    rfl
  | succ f ih =>
    intro th out h hl
    cases hf : (List.range rows.length).find? (rdyB rows th) with
    | none =>
      rw [ordF_none hf]
      refine ⟨h, fun j hj => ?_⟩
      have := List.find?_eq_none.1 hf j (List.mem_range.2 hj)
      simpa using this
    | some k =>
      have hk := List.mem_range.1 (List.mem_of_find?_eq_some hf)
      have hr := List.find?_some hf
      simp only [ordF, hf]
      exact ih _ _ (h.step hk hr) (by rw [List.length_append, List.length_singleton]; omega)

/-- THE ORDER's FACTS. -/
theorem ordO_facts (rows : List (List Int)) : ∃ th, OInv rows th (ordO rows) ∧ ∀ j, j < rows.length → rdyB rows th j = false :=
  ⟨_, (ordF_facts rows rows.length _ [] (OInv.start rows) (by simp)).1, (ordF_facts rows rows.length _ [] (OInv.start rows) (by simp)).2⟩
theorem ordO_nodup (rows : List (List Int)) : (ordO rows).Nodup := by obtain ⟨th, h, _⟩ := ordO_facts rows; exact h.nd
theorem ordO_lt {rows : List (List Int)} {j : Nat} (h : j ∈ ordO rows) : j < rows.length := by
  obtain ⟨th, hi, _⟩ := ordO_facts rows
  have := gb_lt ((hi.mem j).2 h)
  rwa [hi.len] at this
theorem ordO_rch {rows : List (List Int)} {x y : Nat} (h : Rch rows x y) : ∀ (p : Nat) (hp : p < (ordO rows).length), (ordO rows)[p] = x → y ∈ (ordO rows).take p := by
  obtain ⟨th, hi, _⟩ := ordO_facts rows
  induction h with
  | one e => rintro p hp rfl; exact hi.ord p hp _ e
  | more e _ ih =>
    rintro p hp rfl
    have hz := hi.ord p hp _ e
    obtain ⟨q, hq, he⟩ := List.getElem_of_mem hz
    rw [List.length_take] at hq
    rw [List.getElem_take] at he
    have := ih q (by omega) he
    exact List.mem_of_mem_take (l := (ordO rows).take p) (i := q) (by rw [List.take_take]; rwa [Nat.min_eq_left (by omega)])
theorem ordO_nocyc {rows : List (List Int)} {x : Nat} (hx : x ∈ ordO rows) : ¬ Rch rows x x := by
  intro h
  obtain ⟨p, hp, he⟩ := List.getElem_of_mem hx
  have := ordO_rch h p hp he
  obtain ⟨q, hq, he'⟩ := List.getElem_of_mem this
  rw [List.length_take] at hq
  rw [List.getElem_take] at he'
  exact List.pairwise_iff_getElem.1 (ordO_nodup rows) q p (by omega) hp (by omega) (he'.trans he.symm)
theorem ordO_stuck {rows : List (List Int)} {j : Nat} (hj : j < rows.length) (hno : j ∉ ordO rows) : ∃ y, Edge rows j y ∧ y ∉ ordO rows := by
  obtain ⟨th, hi, hs⟩ := ordO_facts rows
  have h := hs j hj
  unfold rdyB at h
  have h1 : thereB th j = false := by
    rw [thereB_gb]
    cases hg : gb th j with
    | false => rfl
    | true => exact absurd ((hi.mem j).1 hg) hno
  rw [h1] at h
  have hm : ¬ mayB rows th j = true := by simpa using h
  rw [mayB_iff hj] at hm
  refine Classical.byContradiction fun hc => hm fun y he => ?_
  refine (hi.mem y).2 (Classical.byContradiction fun hy => hc ⟨y, he, hy⟩)

theorem countP_lt {α : Type} {p q : α → Bool} {l : List α} (h : ∀ x ∈ l, p x = true → q x = true) {x : α} (hx : x ∈ l) (hp : p x = false) (hq : q x = true) : l.countP p < l.countP q := by
  induction l with
  | nil => cases hx
  | cons a t ih =>
    have hle : t.countP p ≤ t.countP q := List.countP_mono_left fun y hy => h y (List.mem_cons_of_mem _ hy)
    rw [List.countP_cons, List.countP_cons]
    rcases List.mem_cons.1 hx with rfl | hx
    · rw [hp, hq]; simp; omega
    · have := ih (fun y hy => h y (List.mem_cons_of_mem _ hy)) hx
      have ha := h a (List.mem_cons_self)
      by_cases hpa : p a = true
      · rw [hpa, ha hpa]; omega
      · rw [if_neg hpa]; omega

open Classical in
/-- WHO CAN'T COME comes behind one that waits for itself, or does so. -/
theorem ordO_cyc {rows : List (List Int)} : ∀ (m j : Nat), (List.range rows.length).countP (fun a => decide (Rch rows j a)) ≤ m → j < rows.length → j ∉ ordO rows → ∃ k, (k = j ∨ Rch rows j k) ∧ Rch rows k k := by
  intro m
  induction m with
  | zero =>
    intro j hm hj hno
    obtain ⟨y, he, _⟩ := ordO_stuck hj hno
    have := List.countP_eq_zero.1 (Nat.le_zero.1 hm) y (List.mem_range.2 he.2.1)
    simp at this
    exact absurd (Rch.one he) this
  | succ m ih =>
    intro j hm hj hno
    by_cases hc : Rch rows j j
    · exact ⟨j, .inl rfl, hc⟩
    obtain ⟨y, he, hy⟩ := ordO_stuck hj hno
    by_cases hcy : Rch rows y y
    · exact ⟨y, .inr (.one he), hcy⟩
    have hlt := countP_lt (p := fun a => decide (Rch rows y a)) (q := fun a => decide (Rch rows j a)) (l := List.range rows.length)
      (fun a _ h => by simp at h ⊢; exact .more he h) (x := y) (List.mem_range.2 he.2.1) (by simpa using hcy) (by simpa using Rch.one he)
    obtain ⟨k, hk, hkk⟩ := ih y (by omega) he.2.1 hy
    refine ⟨k, .inr ?_, hkk⟩
    rcases hk with rfl | hk
    · exact .one he
    · exact .more he hk
theorem ordO_waits {rows : List (List Int)} {j : Nat} (hj : j < rows.length) : j ∉ ordO rows ↔ ∃ k, (k = j ∨ Rch rows j k) ∧ Rch rows k k := by
  constructor
  · exact ordO_cyc _ j (Nat.le_refl _) hj
  · rintro ⟨k, hk, hc⟩ hm
    rcases hk with rfl | hk
    · exact ordO_nocyc hm hc
    · obtain ⟨p, hp, he⟩ := List.getElem_of_mem hm
      exact ordO_nocyc (List.mem_of_mem_take (ordO_rch hk p hp he)) hc
theorem ordO_all (rows : List (List Int)) : (ordO rows).length = rows.length ↔ ∀ j, j < rows.length → j ∈ ordO rows := by
  obtain ⟨th, hi, _⟩ := ordO_facts rows
  constructor
  · intro h j hj
    exact (hi.mem j).1 (count_all (by rw [← hi.cnt, hi.len]; omega) j (by rw [hi.len]; exact hj))
  · intro h
    rw [hi.cnt, ← hi.len, List.count_eq_length]
    intro b hb
    obtain ⟨j, hj, rfl⟩ := List.getElem_of_mem hb
    have := (hi.mem j).2 (h j (by rw [← hi.len]; exact hj))
    unfold gb at this
    rw [List.getElem?_eq_getElem hj] at this
    exact this.symm
end Go.Proofs.Ytlpcagkknfajeaa
