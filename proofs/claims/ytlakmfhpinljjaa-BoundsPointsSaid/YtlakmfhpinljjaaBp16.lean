/-
  graph.may: contract.
-/
import Derived.Shelf.Abstract
import Derived.Laws.MakeOwn
import Derived.Sort.LoopGhostIn
import Derived.Test.YtlakmfhpinljjaaBp4
import Derived.Test.YtlakmfhpinljjaaBp7
import Derived.Test.YtlakmfhpinljjaaBp15
namespace Go.Proofs.Ytlakmfhpinljjaa
open Go.RowKit
attribute [local go_sem] Oper.semAt_some wide_fn wide_depth wide_fn' wide_depth'

def okT (there : List Bool) (j : Int) : Bool := decide (j.toNat < there.length) && there[j.toNat]?.getD false
theorem mayB_dep (rows : List (List Int)) (there : List Bool) (i : Nat) (hi : i < rows.length) : mayB rows there i = (depL rows.length rows[i]).all (okT there) := by
  unfold mayB depL
  rw [List.all_filter]
  simp only [List.getElem?_eq_getElem hi, Option.getD_some]
  rfl

end Go.Proofs.Ytlakmfhpinljjaa

/-
  graph.Ready: contract.
-/
namespace Go.Proofs.Ytlakmfhpinljjaa
open Go.RowKit

/-- What may begin: not there, and all behind which it comes are. -/
def thereB (there : List Bool) (i : Nat) : Bool := decide (i < there.length) && there[i]?.getD false
def rdyB (rows : List (List Int)) (there : List Bool) (i : Nat) : Bool := !thereB there i && mayB rows there i
def rdyL (rows : List (List Int)) (there : List Bool) (k : Nat) : List Int := ((List.range k).filter (rdyB rows there)).map Int.ofNat
theorem rdyL_len (rows : List (List Int)) (there : List Bool) (k : Nat) : (rdyL rows there k).length ≤ k := by
  unfold rdyL
  rw [List.length_map]
  exact Nat.le_trans (List.length_filter_le _ _) (by simp)
theorem rdyL_yes {rows : List (List Int)} {there : List Bool} {k : Nat} (h : rdyB rows there k = true) : rdyL rows there (k + 1) = rdyL rows there k ++ [(k : Int)] := by
  unfold rdyL; rw [List.range_succ, List.filter_append]; simp [h]
theorem rdyL_no {rows : List (List Int)} {there : List Bool} {k : Nat} (h : rdyB rows there k = false) : rdyL rows there (k + 1) = rdyL rows there k := by
  unfold rdyL; rw [List.range_succ, List.filter_append]; simp [h]
theorem Try.info_i64g : (Try.prog.info? 3).map (fun i => (i.zero, i.size, i.bytes)) = some (some (.int .i64 0), 1, 8) := by kernel_rfl

end Go.Proofs.Ytlakmfhpinljjaa

/-
  graph.Order: contract.
-/
namespace Go.Proofs.Ytlakmfhpinljjaa
open Go.RowKit
attribute [local go_sem] Oper.semAt_some wide_fn wide_depth wide_fn' wide_depth'

/-- The greedy order: what is there, and the order so far. -/
def ordF (rows : List (List Int)) : Nat → List Bool × List Nat → List Bool × List Nat
  | 0, s => s
  | f + 1, (th, out) => match (List.range rows.length).find? (rdyB rows th) with
    | none => (th, out)
    | some i => ordF rows f (th.set i true, out ++ [i])
def ordO (rows : List (List Int)) : List Nat := (ordF rows rows.length (List.replicate rows.length false, [])).2
def natI (l : List Nat) : List Value := l.map fun (j : Nat) => Value.int .i64 (j : Int)

theorem ordF_none {rows : List (List Int)} {f : Nat} {th : List Bool} {out : List Nat} (h : (List.range rows.length).find? (rdyB rows th) = none) : ordF rows f (th, out) = (th, out) := by
  cases f with
  | zero => rfl
  | succ f => simp only [ordF, h]
theorem find_none {p : Nat → Bool} {n : Nat} (h : ∀ j, j < n → p j = false) : (List.range n).find? p = none := by
  rw [List.find?_eq_none]
  intro x hx
  rw [h x (List.mem_range.1 hx)]
  simp
theorem find_some {p : Nat → Bool} {n k : Nat} (hk : k < n) (h : ∀ j, j < k → p j = false) (hp : p k = true) : (List.range n).find? p = some k := by
  obtain ⟨m, rfl⟩ : ∃ m, n = k + (m + 1) := ⟨n - k - 1, by omega⟩
  rw [List.range_add, List.find?_append, find_none h, Option.none_or, List.range_succ_eq_map]
  simp [hp]

theorem madeFalse (n : Nat) : madeCells #[Value.bool false] n = (bls (List.replicate n false)).toArray := by
  apply Array.ext
  · simp [madeCells, bls]
  · intro i h1 h2
    simp [madeCells, bls, Nat.mod_one]

theorem Try.info_boolg : (Try.prog.info? 4).map (fun i => (i.zero, i.size, i.bytes)) = some (some (.bool false), 1, 1) := by kernel_rfl
theorem bools_rds {W : World} {g : Nat} {th : List Bool} {fr : Nat × Nat} (h : W.heap[g]? = some (.cells (bls th).toArray 4 fr)) (hl : th.length ≤ 1073741824) : RdS W (.slice (some ⟨g, 0, none⟩) th.length th.length) 1 th.length (bls th) := by
  refine ⟨by simp [bls], _, _, rfl, Nat.le_refl _, by unfold maxLen; omega, .inr ⟨g, 0, rfl, fun i c hi => ?_⟩⟩
  simp only [World.cell?, h, Nat.zero_add, Option.bind_some]
  simpa using hi

theorem own_set {W : World} {base : Nat} {e : TypeId} {size n : Nat} {v : Value} {xs : List Value} {B i : Nat} (x : Value) (h : W.ownsRow base e size v n xs) (hB : B < base) : (W.setCell ⟨B, i, none⟩ x).ownsRow base e size v n xs :=
  h.kept (row := some B) ⟨rfl, rfl, rfl, (KeepsWalks.setCell W _ x).size, fun k _ hk => Below.heap_setCell _ _ _ k (fun e => hk (by rw [e]))⟩ (.inr (fun e => by have := (h.lt B e).1; omega))

end Go.Proofs.Ytlakmfhpinljjaa

/-
  graph: the reference's Order: contract.
-/
namespace Go.Proofs.Ytlakmfhpinljjaa
open Go.RowKit

end Go.Proofs.Ytlakmfhpinljjaa

/-
  slices.Index and slices.Contains on numbers; graph.Round: contracts.
-/
namespace Go.Proofs.Ytlakmfhpinljjaa
open Go.RowKit

set_option maxRecDepth 100000 in
theorem Index_any (l : List Int) (x : Int) (v : Value) (w : World) (h : RdS w v 1 l.length (ints .i64 l)) :
    Calls Try.prog 131 #[v, .int .i64 x] w fun e w' => (∃ r : Int, e = .returned (.int .i64 r) ∧ (0 ≤ r ↔ x ∈ l)) ∧ w = w' := by
  have H := Lib.hid h
  have hl := rds_len h
  obtain ⟨a, cap, rfl⟩ := h.form
  clear h
  go_enter Try.func131, Try.ntmps131
  go_wp2
  go_loop [8] (fun i => ∃ k : Nat, k ≤ l.length ∧ i = .int .i64 k ∧ Hid (¬ x ∈ l.take k)) (fun i => l.length - (intOf i).toNat)
  case atStart => exact ⟨0, by omega, rfl, Lib.hid (by simp)⟩
  case round =>
    obtain ⟨k, hk, rfl, HA⟩ := hrel
    by_cases hlt : k < l.length
    · obtain ⟨g, off, rfl, h1, h2, hcell⟩ := ints_at H.out hlt
      have HT := Lib.hid (take_snocG l k hlt)
      have HM := Lib.hid (List.getElem_mem hlt)
      generalize l[k] = y at *
      have hlt' : (k : Int) < l.length := by omega
      by_cases hxy : x = y
      · subst hxy
        go_wp2
        go_ret
        exact ⟨⟨_, rfl, ⟨fun _ => HM.out, fun _ => by omega⟩⟩, rfl⟩
      · have hd : (x == y) = false := by simpa using hxy
        have HN : Hid (¬ x ∈ l.take (k + 1)) := Lib.hid (by rw [HT.out]; simp [HA.out, hxy])
        go_wp2
        go_round
        case rel => exact ⟨k + 1, by omega, by go_num, HN⟩
        case measure => simp [intOf]; omega
    · have HN : Hid (¬ x ∈ l) := Lib.hid (by have := HA.out; rwa [List.take_of_length_le (by omega)] at this)
      go_wp2
      go_ret
      exact ⟨⟨_, rfl, ⟨fun h => absurd h (by omega), fun h => absurd h HN.out⟩⟩, rfl⟩

set_option maxRecDepth 100000 in
theorem Contains_any (l : List Int) (x : Int) (v : Value) (w : World) (h : RdS w v 1 l.length (ints .i64 l)) :
    Calls Try.prog 94 #[v, .int .i64 x] w fun e w' => e = .returned (.bool (decide (x ∈ l))) ∧ w = w' := by
  have HI := Lib.hid (Index_any l x v w h)
  go_enter Try.func94, Try.ntmps94
  go_wp2_with fail
  refine HI.out.mono ?_
  rintro e w' ⟨⟨r, rfl, hr⟩, rfl⟩
  have HD : Hid (decide (0 ≤ r) = decide (x ∈ l)) := Lib.hid (by rw [decide_eq_decide]; exact hr)
  clear hr
  go_wp2
  go_ret
  exact ⟨by rw [← HD.out]; rfl, rfl⟩

/-- Those that no order reaches. -/
def rndB (rows : List (List Int)) (i : Nat) : Bool := !decide (i ∈ ordO rows)
def rndL (rows : List (List Int)) (k : Nat) : List Int := ((List.range k).filter (rndB rows)).map Int.ofNat
theorem rndL_len (rows : List (List Int)) (k : Nat) : (rndL rows k).length ≤ k := by
  unfold rndL
  rw [List.length_map]
  exact Nat.le_trans (List.length_filter_le _ _) (by simp)
theorem rndL_yes {rows : List (List Int)} {k : Nat} (h : rndB rows k = true) : rndL rows (k + 1) = rndL rows k ++ [(k : Int)] := by
  unfold rndL; rw [List.range_succ, List.filter_append]; simp [h]
theorem rndL_no {rows : List (List Int)} {k : Nat} (h : rndB rows k = false) : rndL rows (k + 1) = rndL rows k := by
  unfold rndL; rw [List.range_succ, List.filter_append]; simp [h]
theorem natI_ints (l : List Nat) : natI l = ints .i64 (l.map Int.ofNat) := by simp [natI, ints]
theorem mem_ofNat {l : List Nat} {k : Nat} : ((k : Int) ∈ l.map Int.ofNat) ↔ k ∈ l := by
  rw [List.mem_map]
  constructor
  · rintro ⟨a, h, e⟩
    have e' : (a : Int) = (k : Int) := e
    have : a = k := by omega
    subst this; exact h
  · intro h
    exact ⟨k, h, rfl⟩

end Go.Proofs.Ytlakmfhpinljjaa

/-
  graph: plain laws of the order, of what comes behind what, and of circles.
-/
namespace Go.Proofs.Ytlakmfhpinljjaa
open Go.RowKit

/-- One comes right behind another; or by others. -/
def Edge (rows : List (List Int)) (x y : Nat) : Prop := x < rows.length ∧ y < rows.length ∧ (y : Int) ∈ rows[x]?.getD []
inductive Rch (rows : List (List Int)) : Nat → Nat → Prop
  | one {x y : Nat} : Edge rows x y → Rch rows x y
  | more {x y z : Nat} : Edge rows x y → Rch rows y z → Rch rows x z
theorem Rch.trans {rows : List (List Int)} {x y z : Nat} (h : Rch rows x y) (k : Rch rows y z) : Rch rows x z := by
  induction h with
  | one e => exact .more e k
  | more e _ ih => exact .more e (ih k)
theorem Rch.snoc {rows : List (List Int)} {x y z : Nat} (h : Rch rows x y) (k : Edge rows y z) : Rch rows x z := h.trans (.one k)
theorem Rch.lt1 {rows : List (List Int)} {x y : Nat} (h : Rch rows x y) : x < rows.length := by
  cases h with
  | one e => exact e.1
  | more e _ => exact e.1
theorem Rch.lt2 {rows : List (List Int)} {x y : Nat} (h : Rch rows x y) : y < rows.length := by
  induction h with
  | one e => exact e.2.1
  | more _ _ ih => exact ih

def gb (th : List Bool) (a : Nat) : Bool := th[a]?.getD false
theorem thereB_gb (th : List Bool) (a : Nat) : thereB th a = gb th a := by
  unfold thereB gb
  by_cases h : a < th.length
  · simp [h]
  · simp [h]
theorem gb_lt {th : List Bool} {a : Nat} (h : gb th a = true) : a < th.length := by
  unfold gb at h
  by_cases h' : a < th.length
  · exact h'
  · rw [List.getElem?_eq_none (by omega)] at h; cases h
theorem gb_set (th : List Bool) (k a : Nat) (hk : k < th.length) : gb (th.set k true) a = (decide (a = k) || gb th a) := by
  unfold gb
  by_cases h : a = k
  · subst h; simp [hk]
  · rw [List.getElem?_set_ne (fun e => h e.symm)]; simp [h]
theorem gb_replicate (n a : Nat) : gb (List.replicate n false) a = false := by
  unfold gb
  rw [List.getElem?_replicate]
  split <;> rfl

theorem mem_depL {n : Nat} {l : List Int} {y : Nat} : (y : Int) ∈ depL n l ↔ y < n ∧ (y : Int) ∈ l := by
  unfold depL inB
  rw [List.mem_filter]
  constructor
  · rintro ⟨h1, h2⟩; simp at h2; exact ⟨h2, h1⟩
  · rintro ⟨h1, h2⟩; exact ⟨h2, by simpa using h1⟩
theorem depL_nat {n : Nat} {l : List Int} {j : Int} (h : j ∈ depL n l) : ∃ y : Nat, j = y ∧ y < n ∧ (y : Int) ∈ l := by
  unfold depL inB at h
  rw [List.mem_filter] at h
  obtain ⟨h1, h2⟩ := h
  simp at h2
  refine ⟨j.toNat, by omega, by omega, ?_⟩
  rw [Int.toNat_of_nonneg h2.1]; exact h1
theorem edge_dep {rows : List (List Int)} {x y : Nat} (hx : x < rows.length) : Edge rows x y ↔ (y : Int) ∈ depL rows.length (rows[x]?.getD []) := by
  rw [mem_depL]; unfold Edge; simp [hx]

theorem mayB_iff {rows : List (List Int)} {th : List Bool} {i : Nat} (hi : i < rows.length) : mayB rows th i = true ↔ ∀ y, Edge rows i y → gb th y = true := by
  rw [mayB_dep rows th i hi, List.all_eq_true]
  constructor
  · intro h y he
    have := h (y : Int) (by have h1 := (edge_dep hi).1 he; simpa [hi] using h1)
    unfold okT at this
    rw [← thereB_gb]; unfold thereB; simpa using this
  · intro h j hj
    obtain ⟨y, rfl, hy, hm⟩ := depL_nat hj
    have := h y ⟨hi, hy, by simpa [hi] using hm⟩
    rw [← thereB_gb] at this
    unfold okT; unfold thereB at this; simpa using this

/-- What holds of the greedy order at all times. -/
structure OInv (rows : List (List Int)) (th : List Bool) (out : List Nat) : Prop where
  len : th.length = rows.length
  mem : ∀ j, gb th j = true ↔ j ∈ out
  nd : out.Nodup
  cnt : out.length = th.count true
  ord : ∀ (p : Nat) (hp : p < out.length) (y : Nat), Edge rows out[p] y → y ∈ out.take p

theorem count_set {th : List Bool} {k : Nat} (hk : k < th.length) (h : gb th k = false) : (th.set k true).count true = th.count true + 1 := by
  induction th generalizing k with
  | nil => simp at hk
  | cons b t ih =>
    cases k with
    | zero =>
      have : b = false := by simpa [gb] using h
      subst this
      simp
    | succ k =>
      have := ih (k := k) (by simpa using hk) (by simpa [gb] using h)
      simp only [List.set_cons_succ, List.count_cons, this]
      omega

theorem OInv.start (rows : List (List Int)) : OInv rows (List.replicate rows.length false) [] :=
  ⟨by simp, fun j => by rw [gb_replicate]; simp, List.nodup_nil, by simp [List.count_replicate], fun p hp => absurd hp (by simp)⟩

theorem OInv.step {rows : List (List Int)} {th : List Bool} {out : List Nat} (h : OInv rows th out) {k : Nat} (hk : k < rows.length) (hr : rdyB rows th k = true) : OInv rows (th.set k true) (out ++ [k]) := by
  unfold rdyB at hr
  rw [thereB_gb] at hr
  simp only [Bool.and_eq_true, Bool.not_eq_true'] at hr
  obtain ⟨h1, h2⟩ := hr
  have hkl : k < th.length := by rw [h.len]; exact hk
  have hno : k ∉ out := fun hm => by rw [(h.mem k).2 hm] at h1; cases h1
  refine ⟨by simpa using h.len, fun j => ?_, ?_, ?_, fun p hp y he => ?_⟩
  · rw [gb_set _ _ _ hkl, List.mem_append, List.mem_singleton, Bool.or_eq_true, h.mem]
    simp [or_comm]
  · rw [List.nodup_append]
    exact ⟨h.nd, by simp, fun a ha b hb e => by simp at hb; subst hb; subst e; exact hno ha⟩
  · rw [count_set hkl h1, List.length_append, h.cnt]; rfl
  · rw [List.length_append, List.length_singleton] at hp
    rcases Nat.lt_or_ge p out.length with hl | hl
    · rw [List.getElem_append_left hl] at he
      rw [List.take_append_of_le_length (by omega)]
      exact h.ord p hl y he
    · have hpe : p = out.length := by omega
      subst hpe
      simp only [List.getElem_append_right (Nat.le_refl _), Nat.sub_self, List.getElem_singleton] at he
      rw [List.take_left']
      · exact (h.mem y).1 ((mayB_iff hk).1 h2 y he)
      · rfl

theorem count_all {th : List Bool} (h : th.length ≤ th.count true) (j : Nat) (hj : j < th.length) : gb th j = true := by
  have := List.count_eq_length.1 (Nat.le_antisymm List.count_le_length h)
  unfold gb
  rw [List.getElem?_eq_getElem hj]
  exact (this _ (List.getElem_mem hj)).symm

theorem ordF_facts (rows : List (List Int)) : ∀ (f : Nat) (th : List Bool) (out : List Nat), OInv rows th out → rows.length ≤ f + out.length →
    OInv rows (ordF rows f (th, out)).1 (ordF rows f (th, out)).2 ∧ ∀ j, j < rows.length → rdyB rows (ordF rows f (th, out)).1 j = false := by
  intro f
  induction f with
  | zero =>
    intro th out h hl
    refine ⟨h, fun j hj => ?_⟩
    show rdyB rows th j = false
    unfold rdyB
    rw [thereB_gb, count_all (by rw [← h.cnt, h.len]; omega) j (by rw [h.len]; exact hj)]
    rfl
  | succ f ih =>
    intro th out h hl
    cases hf : (List.range rows.length).find? (rdyB rows th) with
    | none =>
      rw [ordF_none hf]
      refine ⟨h, fun j hj => ?_⟩
      have := List.find?_eq_none.1 hf j (List.mem_range.2 hj)
      simpa using this
    | some k =>
      have hk := List.mem_range.1 (List.mem_of_find?_eq_some hf)
      have hr := List.find?_some hf
      simp only [ordF, hf]
      exact ih _ _ (h.step hk hr) (by rw [List.length_append, List.length_singleton]; omega)

/-- THE ORDER's FACTS. -/
theorem ordO_facts (rows : List (List Int)) : ∃ th, OInv rows th (ordO rows) ∧ ∀ j, j < rows.length → rdyB rows th j = false :=
  ⟨_, (ordF_facts rows rows.length _ [] (OInv.start rows) (by simp)).1, (ordF_facts rows rows.length _ [] (OInv.start rows) (by simp)).2⟩
theorem ordO_nodup (rows : List (List Int)) : (ordO rows).Nodup := by obtain ⟨th, h, _⟩ := ordO_facts rows; exact h.nd
theorem ordO_lt {rows : List (List Int)} {j : Nat} (h : j ∈ ordO rows) : j < rows.length := by
  obtain ⟨th, hi, _⟩ := ordO_facts rows
  have := gb_lt ((hi.mem j).2 h)
  rwa [hi.len] at this
theorem ordO_rch {rows : List (List Int)} {x y : Nat} (h : Rch rows x y) : ∀ (p : Nat) (hp : p < (ordO rows).length), (ordO rows)[p] = x → y ∈ (ordO rows).take p := by
  obtain ⟨th, hi, _⟩ := ordO_facts rows
  induction h with
  | one e => rintro p hp rfl; exact hi.ord p hp _ e
  | more e _ ih =>
    rintro p hp rfl
    have hz := hi.ord p hp _ e
    obtain ⟨q, hq, he⟩ := List.getElem_of_mem hz
    rw [List.length_take] at hq
    rw [List.getElem_take] at he
    have := ih q (by omega) he
    exact List.mem_of_mem_take (l := (ordO rows).take p) (i := q) (by rw [List.take_take]; rwa [Nat.min_eq_left (by omega)])
theorem ordO_nocyc {rows : List (List Int)} {x : Nat} (hx : x ∈ ordO rows) : ¬ Rch rows x x := by
  intro h
  obtain ⟨p, hp, he⟩ := List.getElem_of_mem hx
  have := ordO_rch h p hp he
  obtain ⟨q, hq, he'⟩ := List.getElem_of_mem this
  rw [List.length_take] at hq
  rw [List.getElem_take] at he'
  exact List.pairwise_iff_getElem.1 (ordO_nodup rows) q p (by omega) hp (by omega) (he'.trans he.symm)
theorem ordO_stuck {rows : List (List Int)} {j : Nat} (hj : j < rows.length) (hno : j ∉ ordO rows) : ∃ y, Edge rows j y ∧ y ∉ ordO rows := by
  obtain ⟨th, hi, hs⟩ := ordO_facts rows
  have h := hs j hj
  unfold rdyB at h
  have h1 : thereB th j = false := by
    rw [thereB_gb]
    cases hg : gb th j with
    | false => rfl
    | true => exact absurd ((hi.mem j).1 hg) hno
  rw [h1] at h
  have hm : ¬ mayB rows th j = true := by simpa using h
  rw [mayB_iff hj] at hm
  refine Classical.byContradiction fun hc => hm fun y he => ?_
  refine (hi.mem y).2 (Classical.byContradiction fun hy => hc ⟨y, he, hy⟩)

theorem countP_lt {α : Type} {p q : α → Bool} {l : List α} (h : ∀ x ∈ l, p x = true → q x = true) {x : α} (hx : x ∈ l) (hp : p x = false) (hq : q x = true) : l.countP p < l.countP q := by
  induction l with
  | nil => cases hx
  | cons a t ih =>
    have hle : t.countP p ≤ t.countP q := List.countP_mono_left fun y hy => h y (List.mem_cons_of_mem _ hy)
    rw [List.countP_cons, List.countP_cons]
    rcases List.mem_cons.1 hx with rfl | hx
    · rw [hp, hq]; simp; omega
    · have := ih (fun y hy => h y (List.mem_cons_of_mem _ hy)) hx
      have ha := h a (List.mem_cons_self)
      by_cases hpa : p a = true
      · rw [hpa, ha hpa]; omega
      · rw [if_neg hpa]; omega

open Classical in
/-- WHO CAN'T COME comes behind one that waits for itself, or does so. -/
theorem ordO_cyc {rows : List (List Int)} : ∀ (m j : Nat), (List.range rows.length).countP (fun a => decide (Rch rows j a)) ≤ m → j < rows.length → j ∉ ordO rows → ∃ k, (k = j ∨ Rch rows j k) ∧ Rch rows k k := by
  intro m
  induction m with
  | zero =>
    intro j hm hj hno
    obtain ⟨y, he, _⟩ := ordO_stuck hj hno
    have := List.countP_eq_zero.1 (Nat.le_zero.1 hm) y (List.mem_range.2 he.2.1)
    simp at this
    exact absurd (Rch.one he) this
  | succ m ih =>
    intro j hm hj hno
    by_cases hc : Rch rows j j
    · exact ⟨j, .inl rfl, hc⟩
    obtain ⟨y, he, hy⟩ := ordO_stuck hj hno
    by_cases hcy : Rch rows y y
    · exact ⟨y, .inr (.one he), hcy⟩
    have hlt := countP_lt (p := fun a => decide (Rch rows y a)) (q := fun a => decide (Rch rows j a)) (l := List.range rows.length)
      (fun a _ h => by simp at h ⊢; exact .more he h) (x := y) (List.mem_range.2 he.2.1) (by simpa using hcy) (by simpa using Rch.one he)
    obtain ⟨k, hk, hkk⟩ := ih y (by omega) he.2.1 hy
    refine ⟨k, .inr ?_, hkk⟩
    rcases hk with rfl | hk
    · exact .one he
    · exact .more he hk
theorem ordO_waits {rows : List (List Int)} {j : Nat} (hj : j < rows.length) : j ∉ ordO rows ↔ ∃ k, (k = j ∨ Rch rows j k) ∧ Rch rows k k := by
  constructor
  · exact ordO_cyc _ j (Nat.le_refl _) hj
  · rintro ⟨k, hk, hc⟩ hm
    rcases hk with rfl | hk
    · exact ordO_nocyc hm hc
    · obtain ⟨p, hp, he⟩ := List.getElem_of_mem hm
      exact ordO_nocyc (List.mem_of_mem_take (ordO_rch hk p hp he)) hc
theorem ordO_all (rows : List (List Int)) : (ordO rows).length = rows.length ↔ ∀ j, j < rows.length → j ∈ ordO rows := by
  obtain ⟨th, hi, _⟩ := ordO_facts rows
  constructor
  · intro h j hj
    exact (hi.mem j).1 (count_all (by rw [← hi.cnt, hi.len]; omega) j (by rw [hi.len]; exact hj))
  · intro h
    rw [hi.cnt, ← hi.len, List.count_eq_length]
    intro b hb
    obtain ⟨j, hj, rfl⟩ := List.getElem_of_mem hb
    have := (hi.mem j).2 (h j (by rw [← hi.len]; exact hj))
    unfold gb at this
    rw [List.getElem?_eq_getElem hj] at this
    exact this.symm
end Go.Proofs.Ytlakmfhpinljjaa

/-
  graph: plain laws of all behind which one comes: the depth-first set, the document's set; how deep each stands.
-/
namespace Go.Proofs.Ytlakmfhpinljjaa
open Go.RowKit

/-- The numbers at which a row of bools says yes. -/
def selL (th : List Bool) (k : Nat) : List Int := ((List.range k).filter (gb th)).map Int.ofNat
theorem selL_len (th : List Bool) (k : Nat) : (selL th k).length ≤ k := by
  unfold selL
  rw [List.length_map]
  exact Nat.le_trans (List.length_filter_le _ _) (by simp)
theorem selL_yes {th : List Bool} {k : Nat} (h : gb th k = true) : selL th (k + 1) = selL th k ++ [(k : Int)] := by
  unfold selL; rw [List.range_succ, List.filter_append]; simp [h]
theorem selL_no {th : List Bool} {k : Nat} (h : gb th k = false) : selL th (k + 1) = selL th k := by
  unfold selL; rw [List.range_succ, List.filter_append]; simp [h]
theorem selL_congr {th th' : List Bool} {k : Nat} (h : ∀ a, gb th a = true ↔ gb th' a = true) : selL th k = selL th' k := by
  have : gb th = gb th' := funext fun a => by rw [Bool.eq_iff_iff]; exact h a
  unfold selL; rw [this]
theorem mem_selL {th : List Bool} {k a : Nat} : (a : Int) ∈ selL th k ↔ a < k ∧ gb th a = true := by
  unfold selL; rw [mem_ofNat, List.mem_filter, List.mem_range]

/-- A round of the depth-first set: the last of those to do, and its row. -/
def dfsStep (s : List Bool × List Nat) (j : Int) : List Bool × List Nat := if gb s.1 j.toNat then s else (s.1.set j.toNat true, s.2 ++ [j.toNat])
def dfsRow (l : List Int) (s : List Bool × List Nat) : List Bool × List Nat := l.foldl dfsStep s
def dfsF (rows : List (List Int)) : Nat → List Bool × List Nat → List Bool × List Nat
  | 0, s => s
  | f + 1, s => match s.2.getLast? with
    | none => s
    | some x => dfsF rows f (dfsRow (depL rows.length (rows[x]?.getD [])) (s.1, s.2.dropLast))
def befIn (rows : List (List Int)) (i : Nat) : List Bool := (dfsF rows (rows.length + 1) (List.replicate rows.length false, [i])).1

theorem dfsRow_snoc (l : List Int) (j : Int) (s : List Bool × List Nat) : dfsRow (l ++ [j]) s = dfsStep (dfsRow l s) j := by
  unfold dfsRow; rw [List.foldl_append]; rfl

/-- What holds of the two of them at all times. -/
structure DInv (n : Nat) (s : List Bool × List Nat) : Prop where
  len : s.1.length = n
  lt : ∀ x ∈ s.2, x < n
theorem count_split (th : List Bool) : th.count true + th.count false = th.length := by
  induction th with
  | nil => rfl
  | cons b t ih => cases b <;> simp <;> omega
theorem DInv.step {n : Nat} {s : List Bool × List Nat} (h : DInv n s) {j : Nat} (hj : j < n) : DInv n (dfsStep s (j : Int)) ∧ (dfsStep s (j : Int)).1.count false + (dfsStep s (j : Int)).2.length = s.1.count false + s.2.length ∧
    (∀ a, gb (dfsStep s (j : Int)).1 a = true ↔ gb s.1 a = true ∨ a = j) ∧ (∀ x, x ∈ (dfsStep s (j : Int)).2 ↔ x ∈ s.2 ∨ (x = j ∧ gb s.1 j = false)) := by
  unfold dfsStep
  rw [Int.toNat_natCast]
  cases hg : gb s.1 j with
  | true =>
    simp only [if_true]
    refine ⟨h, trivial, fun a => ?_, fun x => by simp⟩
    constructor
    · exact .inl
    · rintro (h | rfl); exact h; exact hg
  | false =>
    have hjl : j < s.1.length := by rw [h.len]; exact hj
    have e1 := count_set hjl hg
    have e2 := count_split s.1
    have e3 := count_split (s.1.set j true)
    rw [List.length_set] at e3
    simp only [Bool.false_eq_true, if_false]
    refine ⟨⟨by simpa using h.len, fun x hx => ?_⟩, by simp; omega, fun a => ?_, fun x => by simp⟩
    · rcases List.mem_append.1 hx with hx | hx
      · exact h.lt x hx
      · simp at hx; omega
    · rw [gb_set _ _ _ hjl, Bool.or_eq_true]; simp [or_comm]
theorem DInv.row {n : Nat} : ∀ (l : List Int) (s : List Bool × List Nat), DInv n s → (∀ j ∈ l, ∃ y : Nat, j = y ∧ y < n) → DInv n (dfsRow l s) ∧ (dfsRow l s).1.count false + (dfsRow l s).2.length = s.1.count false + s.2.length ∧
    (∀ a, gb (dfsRow l s).1 a = true ↔ gb s.1 a = true ∨ (a : Int) ∈ l) ∧ (∀ x, x ∈ (dfsRow l s).2 ↔ x ∈ s.2 ∨ ((x : Int) ∈ l ∧ gb s.1 x = false)) := by
  intro l
  induction l with
  | nil => intro s h _; exact ⟨h, rfl, fun a => by simp [dfsRow], fun x => by simp [dfsRow]⟩
  | cons j l ih =>
    intro s h hl
    obtain ⟨y, rfl, hy⟩ := hl j (List.mem_cons_self)
    obtain ⟨s1, s2, s3, s4⟩ := h.step hy
    obtain ⟨r1, r2, r3, r4⟩ := ih (dfsStep s (y : Int)) s1 (fun z hz => hl z (List.mem_cons_of_mem _ hz))
    have e : dfsRow ((y : Int) :: l) s = dfsRow l (dfsStep s (y : Int)) := rfl
    rw [e]
    refine ⟨r1, by omega, fun a => ?_, fun x => ?_⟩
    · rw [r3, s3, List.mem_cons, or_assoc]
      simp only [Int.natCast_inj]
    · rw [r4, s4, List.mem_cons]
      simp only [Int.natCast_inj]
      constructor
      · rintro ((h | ⟨rfl, h⟩) | ⟨h, hg⟩)
        · exact .inl h
        · exact .inr ⟨.inl rfl, h⟩
        · refine .inr ⟨.inr h, ?_⟩
          cases hx : gb s.1 x with
          | false => rfl
          | true => rw [(s3 x).2 (.inl hx)] at hg; cases hg
      · rintro (h | ⟨rfl | h, hg⟩)
        · exact .inl (.inl h)
        · exact .inl (.inr ⟨rfl, hg⟩)
        · by_cases hxy : x = y
          · subst hxy; exact .inl (.inr ⟨rfl, hg⟩)
          · refine .inr ⟨h, ?_⟩
            cases hx : gb (dfsStep s (y : Int)).1 x with
            | false => rfl
            | true =>
              rcases (s3 x).1 hx with h' | h'
              · rw [h'] at hg; cases hg
              · exact absurd h' hxy

theorem dep_nats (rows : List (List Int)) (x : Nat) : ∀ j ∈ depL rows.length (rows[x]?.getD []), ∃ y : Nat, j = y ∧ y < rows.length := fun j hj => by
  obtain ⟨y, rfl, hy, _⟩ := depL_nat hj
  exact ⟨y, rfl, hy⟩

/-- The set is sound, and closed but for those to do. -/
structure BInv (rows : List (List Int)) (i : Nat) (s : List Bool × List Nat) : Prop where
  d : DInv rows.length s
  snd : ∀ a, gb s.1 a = true → Rch rows i a
  todo : ∀ x ∈ s.2, x = i ∨ gb s.1 x = true
  cl : ∀ x, x = i ∨ gb s.1 x = true → x ∈ s.2 ∨ ∀ y, Edge rows x y → gb s.1 y = true
theorem getLast?_split {α : Type} {l : List α} {x : α} (h : l.getLast? = some x) : l = l.dropLast ++ [x] := by
  have hne : l ≠ [] := by rintro rfl; simp at h
  rw [List.getLast?_eq_some_getLast hne] at h
  injection h with h
  rw [← h]; exact (List.dropLast_concat_getLast hne).symm
theorem BInv.step {rows : List (List Int)} {i : Nat} {s : List Bool × List Nat} (h : BInv rows i s) {x : Nat} (hx : s.2.getLast? = some x) :
    BInv rows i (dfsRow (depL rows.length (rows[x]?.getD [])) (s.1, s.2.dropLast)) := by
  have hs := getLast?_split hx
  have hxm : x ∈ s.2 := by rw [hs]; simp
  have hxn := h.d.lt x hxm
  have hd : DInv rows.length (s.1, s.2.dropLast) := ⟨h.d.len, fun y hy => h.d.lt y (List.dropLast_subset _ hy)⟩
  obtain ⟨r1, r2, r3, r4⟩ := DInv.row _ _ hd (dep_nats rows x)
  have hix : x = i ∨ Rch rows i x := by
    rcases h.todo x hxm with e | e
    · exact .inl e
    · exact .inr (h.snd x e)
  refine ⟨r1, fun a ha => ?_, fun y hy => ?_, fun y hy => ?_⟩
  · rcases (r3 a).1 ha with ha | ha
    · exact h.snd a ha
    · have he := (edge_dep hxn).2 ha
      rcases hix with rfl | hix
      · exact .one he
      · exact hix.snoc he
  · rcases (r4 y).1 hy with hy | ⟨hy, _⟩
    · rcases h.todo y (List.dropLast_subset _ hy) with e | e
      · exact .inl e
      · exact .inr ((r3 y).2 (.inl e))
    · exact .inr ((r3 y).2 (.inr hy))
  · by_cases hyx : y = x
    · subst hyx
      exact .inr fun z hz => (r3 z).2 (.inr ((edge_dep hxn).1 hz))
    · by_cases hold : y = i ∨ gb s.1 y = true
      · rcases h.cl y hold with hm | hm
        · rw [hs] at hm
          rcases List.mem_append.1 hm with hm | hm
          · exact .inl ((r4 y).2 (.inl hm))
          · simp at hm; exact absurd hm hyx
        · exact .inr fun z hz => (r3 z).2 (.inl (hm z hz))
      · have hno : gb s.1 y = false := by
          cases hg : gb s.1 y with
          | false => rfl
          | true => exact absurd (.inr hg) hold
        rcases hy with hy | hy
        · exact absurd (.inl hy) hold
        · rcases (r3 y).1 hy with h' | h'
          · exact absurd (.inr h') hold
          · exact .inl ((r4 y).2 (.inr ⟨h', hno⟩))
theorem dfsF_end {rows : List (List Int)} {f : Nat} {th : List Bool} : dfsF rows f (th, []) = (th, []) := by cases f <;> rfl
theorem dfsF_inv {rows : List (List Int)} {i : Nat} : ∀ (f : Nat) (s : List Bool × List Nat), BInv rows i s → s.1.count false + s.2.length ≤ f → BInv rows i (dfsF rows f s) ∧ (dfsF rows f s).2 = [] := by
  intro f
  induction f with
  | zero => intro s h hl; exact ⟨h, List.eq_nil_of_length_eq_zero (by show s.2.length = 0; omega)⟩
  | succ f ih =>
    intro s h hl
    cases hx : s.2.getLast? with
    | none => simp only [dfsF, hx]; exact ⟨h, List.getLast?_eq_none_iff.1 hx⟩
    | some x =>
      simp only [dfsF, hx]
      have hd : DInv rows.length (s.1, s.2.dropLast) := ⟨h.d.len, fun y hy => h.d.lt y (List.dropLast_subset _ hy)⟩
      have r2 := (DInv.row _ _ hd (dep_nats rows x)).2.1
      have hlen : s.2.length = s.2.dropLast.length + 1 := by have := congrArg List.length (getLast?_split hx); rwa [List.length_append] at this
      exact ih _ (h.step hx) (by rw [r2]; simp only; omega)
theorem closed_rch {rows : List (List Int)} {i : Nat} {th : List Bool} (h : ∀ x, x = i ∨ gb th x = true → ∀ y, Edge rows x y → gb th y = true) {a : Nat} (hr : Rch rows i a) : gb th a = true := by
  have gen : ∀ x y, Rch rows x y → (x = i ∨ gb th x = true) → gb th y = true := by
    intro x y hxy
    induction hxy with
    | one e => intro hx; exact h _ hx _ e
    | more e _ ih => intro hx; exact ih (.inr (h _ hx _ e))
  exact gen i a hr (.inl rfl)
theorem BInv.start (rows : List (List Int)) {i : Nat} (hi : i < rows.length) : BInv rows i (List.replicate rows.length false, [i]) :=
  ⟨⟨by simp, by simpa using hi⟩, fun a h => (by rw [gb_replicate] at h; cases h), fun x hx => .inl (by simpa using hx), fun x hx => by
    rcases hx with rfl | hx
    · left; simp
    · rw [gb_replicate] at hx; cases hx⟩
/-- THE DEPTH-FIRST SET is what one comes behind. -/
theorem befIn_iff {rows : List (List Int)} {i : Nat} (hi : i < rows.length) (a : Nat) : gb (befIn rows i) a = true ↔ Rch rows i a := by
  obtain ⟨h, he⟩ := dfsF_inv (rows.length + 1) _ (BInv.start rows hi) (by simp [List.count_replicate])
  constructor
  · exact h.snd a
  · intro hr
    refine closed_rch (fun x hx => ?_) hr
    rcases h.cl x hx with hm | hm
    · rw [he] at hm; cases hm
    · exact hm

/-- The document's: so many rounds over all rows. -/
def rbRow (l : List Int) (th : List Bool) : List Bool := l.foldl (fun t j => t.set j.toNat true) th
def rbStep (rows : List (List Int)) (i : Nat) (th : List Bool) (a : Nat) : List Bool := if a ≠ i ∧ gb th a = false then th else rbRow (depL rows.length (rows[a]?.getD [])) th
def rbPass (rows : List (List Int)) (i k : Nat) (th : List Bool) : List Bool := (List.range k).foldl (rbStep rows i) th
def rbF (rows : List (List Int)) (i : Nat) : Nat → List Bool → List Bool
  | 0, th => th
  | f + 1, th => rbF rows i f (rbPass rows i rows.length th)
def rbIn (rows : List (List Int)) (i : Nat) : List Bool := rbF rows i (rows.length + 1) (List.replicate rows.length false)
theorem rbRow_snoc (l : List Int) (j : Int) (th : List Bool) : rbRow (l ++ [j]) th = (rbRow l th).set j.toNat true := by unfold rbRow; rw [List.foldl_append]; rfl
theorem rbPass_succ (rows : List (List Int)) (i k : Nat) (th : List Bool) : rbPass rows i (k + 1) th = rbStep rows i (rbPass rows i k th) k := by unfold rbPass; rw [List.range_succ, List.foldl_append]; rfl

theorem rbRow_facts {n : Nat} : ∀ (l : List Int) (th : List Bool), th.length = n → (∀ j ∈ l, ∃ y : Nat, j = y ∧ y < n) → (rbRow l th).length = n ∧ ∀ a, gb (rbRow l th) a = true ↔ gb th a = true ∨ (a : Int) ∈ l := by
  intro l
  induction l with
  | nil => intro th h _; exact ⟨h, fun a => by simp [rbRow]⟩
  | cons j l ih =>
    intro th h hl
    obtain ⟨y, rfl, hy⟩ := hl j (List.mem_cons_self)
    obtain ⟨r1, r2⟩ := ih (th.set y true) (by simpa using h) (fun z hz => hl z (List.mem_cons_of_mem _ hz))
    have e : rbRow ((y : Int) :: l) th = rbRow l (th.set y true) := by unfold rbRow; simp
    rw [e]
    refine ⟨r1, fun a => ?_⟩
    rw [r2, gb_set _ _ _ (by omega), List.mem_cons, Bool.or_eq_true]
    simp only [Int.natCast_inj, decide_eq_true_eq]
    constructor
    · rintro ((h | h) | h); exact .inr (.inl h); exact .inl h; exact .inr (.inr h)
    · rintro (h | h | h); exact .inl (.inr h); exact .inl (.inl h); exact .inr h
theorem rbStep_facts {rows : List (List Int)} {i : Nat} {th : List Bool} {a : Nat} (h : th.length = rows.length) : (rbStep rows i th a).length = rows.length ∧ (∀ x, gb th x = true → gb (rbStep rows i th a) x = true) ∧
    (a < rows.length → (∀ x, gb th x = true → Rch rows i x) → ∀ x, gb (rbStep rows i th a) x = true → Rch rows i x) ∧ ((a = i ∨ gb th a = true) → ∀ y, Edge rows a y → gb (rbStep rows i th a) y = true) := by
  obtain ⟨r1, r2⟩ := rbRow_facts (depL rows.length (rows[a]?.getD [])) th h (dep_nats rows a)
  unfold rbStep
  by_cases hc : a ≠ i ∧ gb th a = false
  · rw [if_pos hc]
    refine ⟨h, fun x hx => hx, fun _ hs => hs, fun ha => ?_⟩
    rcases ha with ha | ha
    · exact absurd ha hc.1
    · rw [hc.2] at ha; cases ha
  · rw [if_neg hc]
    refine ⟨r1, fun x hx => (r2 x).2 (.inl hx), fun hal hs x hx => ?_, fun _ y hy => (r2 y).2 (.inr ((edge_dep hy.1).1 hy))⟩
    rcases (r2 x).1 hx with hx | hx
    · exact hs x hx
    · have he := (edge_dep hal).2 hx
      by_cases hai : a = i
      · subst hai; exact .one he
      · refine (hs a ?_).snoc he
        cases hg : gb th a with
        | true => rfl
        | false => exact absurd ⟨hai, hg⟩ hc
theorem rbPass_facts {rows : List (List Int)} {i : Nat} {th : List Bool} (h : th.length = rows.length) : ∀ k, k ≤ rows.length → (rbPass rows i k th).length = rows.length ∧ (∀ x, gb th x = true → gb (rbPass rows i k th) x = true) ∧
    ((∀ x, gb th x = true → Rch rows i x) → ∀ x, gb (rbPass rows i k th) x = true → Rch rows i x) ∧ (∀ a, a < k → (a = i ∨ gb th a = true) → ∀ y, Edge rows a y → gb (rbPass rows i k th) y = true) := by
  intro k
  induction k with
  | zero => intro _; exact ⟨h, fun _ hx => hx, fun hs => hs, fun a ha => by omega⟩
  | succ k ih =>
    intro hk
    obtain ⟨p1, p2, p3, p4⟩ := ih (by omega)
    rw [rbPass_succ]
    obtain ⟨s1, s2, s3, s4⟩ := rbStep_facts (rows := rows) (i := i) (a := k) p1
    refine ⟨s1, fun x hx => s2 x (p2 x hx), fun hs => s3 (by omega) (p3 hs), fun a ha hia y hy => ?_⟩
    rcases Nat.lt_or_ge a k with hak | hak
    · exact s2 y (p4 a hak hia y hy)
    · have : a = k := by omega
      subst this
      refine s4 ?_ y hy
      rcases hia with hia | hia
      · exact .inl hia
      · exact .inr (p2 _ hia)

def Closed (rows : List (List Int)) (i : Nat) (th : List Bool) : Prop := ∀ x, x = i ∨ gb th x = true → ∀ y, Edge rows x y → gb th y = true
theorem count_le {th th' : List Bool} (hl : th.length = th'.length) (h : ∀ x, gb th x = true → gb th' x = true) : th.count true ≤ th'.count true ∧ ((∃ x, gb th x = false ∧ gb th' x = true) → th.count true < th'.count true) := by
  induction th generalizing th' with
  | nil =>
    cases th' with
    | nil => exact ⟨Nat.le_refl _, fun ⟨x, _, hx⟩ => by simp [gb] at hx⟩
    | cons => simp at hl
  | cons b t ih =>
    cases th' with
    | nil => simp at hl
    | cons b' t' =>
      have hh := h 0
      obtain ⟨i1, i2⟩ := ih (th' := t') (by simpa using hl) (fun x hx => by have := h (x + 1); simpa [gb] using this (by simpa [gb] using hx))
      have hb : b = true → b' = true := by simpa [gb] using hh
      simp only [List.count_cons]
      refine ⟨?_, fun ⟨x, h1, h2⟩ => ?_⟩
      · cases b <;> cases b' <;> simp_all <;> omega
      · cases x with
        | zero =>
          have e1 : b = false := by simpa [gb] using h1
          have e2 : b' = true := by simpa [gb] using h2
          subst e1 e2; simp; omega
        | succ x =>
          have := i2 ⟨x, by simpa [gb] using h1, by simpa [gb] using h2⟩
          cases b <;> cases b' <;> simp_all <;> omega
theorem pass_same {rows : List (List Int)} {i : Nat} {th : List Bool} (h : th.length = rows.length) (hc : Closed rows i th) : ∀ k, k ≤ rows.length → ∀ x, gb (rbPass rows i k th) x = true → gb th x = true := by
  intro k
  induction k with
  | zero => intro _ x hx; exact hx
  | succ k ih =>
    intro hk x hx
    have ih := ih (by omega)
    obtain ⟨p1, _⟩ := rbPass_facts (i := i) h k (by omega)
    rw [rbPass_succ] at hx
    unfold rbStep at hx
    by_cases hcc : k ≠ i ∧ gb (rbPass rows i k th) k = false
    · rw [if_pos hcc] at hx; exact ih x hx
    · rw [if_neg hcc] at hx
      rcases ((rbRow_facts _ _ p1 (dep_nats rows k)).2 x).1 hx with hx | hx
      · exact ih x hx
      · refine hc k ?_ x ((edge_dep (by omega)).2 hx)
        by_cases hki : k = i
        · exact .inl hki
        · refine .inr (ih k ?_)
          cases hg : gb (rbPass rows i k th) k with
          | true => rfl
          | false => exact absurd ⟨hki, hg⟩ hcc
theorem pass_closed {rows : List (List Int)} {i : Nat} {th : List Bool} (h : th.length = rows.length) (_hi : i < rows.length) :
    Closed rows i (rbPass rows i rows.length th) ∨ th.count true < (rbPass rows i rows.length th).count true := by
  obtain ⟨p1, p2, p3, p4⟩ := rbPass_facts (i := i) h rows.length (Nat.le_refl _)
  by_cases hn : ∃ x, gb th x = false ∧ gb (rbPass rows i rows.length th) x = true
  · exact .inr ((count_le (by omega) p2).2 hn)
  · left
    intro x hx y hy
    refine p4 x hy.1 ?_ y hy
    rcases hx with hx | hx
    · exact .inl hx
    · right
      cases hg : gb th x with
      | true => rfl
      | false => exact absurd ⟨x, hg, hx⟩ hn
theorem closed_pass {rows : List (List Int)} {i : Nat} {th : List Bool} (h : th.length = rows.length) (hc : Closed rows i th) : Closed rows i (rbPass rows i rows.length th) := by
  obtain ⟨p1, p2, p3, p4⟩ := rbPass_facts (i := i) h rows.length (Nat.le_refl _)
  intro x hx y hy
  refine p2 y (hc x ?_ y hy)
  rcases hx with hx | hx
  · exact .inl hx
  · exact .inr (pass_same h hc _ (Nat.le_refl _) x hx)
theorem rbF_facts {rows : List (List Int)} {i : Nat} (hi : i < rows.length) : ∀ (f : Nat) (th : List Bool), th.length = rows.length → (∀ x, gb th x = true → Rch rows i x) → (Closed rows i th ∨ rows.length < f + th.count true) →
    (∀ x, gb (rbF rows i f th) x = true → Rch rows i x) ∧ Closed rows i (rbF rows i f th) := by
  intro f
  induction f with
  | zero =>
    intro th hl hs hc
    refine ⟨hs, ?_⟩
    rcases hc with hc | hc
    · exact hc
    · have : th.count true ≤ th.length := List.count_le_length
      omega
  | succ f ih =>
    intro th hl hs hc
    obtain ⟨p1, p2, p3, p4⟩ := rbPass_facts (i := i) hl rows.length (Nat.le_refl _)
    refine ih _ p1 (p3 hs) ?_
    rcases hc with hc | hc
    · exact .inl (closed_pass hl hc)
    · rcases pass_closed hl hi with h | h
      · exact .inl h
      · right; omega
/-- THE DOCUMENT's SET is what one comes behind. -/
theorem rbIn_iff {rows : List (List Int)} {i : Nat} (hi : i < rows.length) (a : Nat) : gb (rbIn rows i) a = true ↔ Rch rows i a := by
  obtain ⟨h1, h2⟩ := rbF_facts hi (rows.length + 1) (List.replicate rows.length false) (by simp) (fun x hx => by rw [gb_replicate] at hx; cases hx) (.inr (by omega))
  exact ⟨h1 a, closed_rch h2⟩
theorem bef_same {rows : List (List Int)} {i : Nat} (hi : i < rows.length) (k : Nat) : selL (befIn rows i) k = selL (rbIn rows i) k :=
  selL_congr fun a => by rw [befIn_iff hi, rbIn_iff hi]

/-- How deep one stands: one more than the deepest of those behind which it comes. -/
def dmax (deep : List Nat) (l : List Int) : Nat := l.foldl (fun m j => max m (deep[j.toNat]?.getD 0)) 0
theorem dmax_snoc (deep : List Nat) (l : List Int) (j : Int) : dmax deep (l ++ [j]) = max (dmax deep l) (deep[j.toNat]?.getD 0) := by unfold dmax; rw [List.foldl_append]; rfl
def lonStep (rows : List (List Int)) (s : List Nat × Nat) (i : Nat) : List Nat × Nat := (s.1.set i (dmax s.1 (depL rows.length (rows[i]?.getD [])) + 1), max s.2 (dmax s.1 (depL rows.length (rows[i]?.getD [])) + 1))
def lonF (rows : List (List Int)) (l : List Nat) : List Nat × Nat := l.foldl (lonStep rows) (List.replicate rows.length 0, 0)
def lonO (rows : List (List Int)) : Nat := (lonF rows (ordO rows)).2
theorem lonF_snoc (rows : List (List Int)) (l : List Nat) (i : Nat) : lonF rows (l ++ [i]) = lonStep rows (lonF rows l) i := by unfold lonF; rw [List.foldl_append]; rfl
theorem lonF_len (rows : List (List Int)) (l : List Nat) : (lonF rows l).1.length = rows.length := by
  have gen : ∀ (l : List Nat) (s : List Nat × Nat), (l.foldl (lonStep rows) s).1.length = s.1.length := by
    intro l
    induction l with
    | nil => intro s; rfl
    | cons a t ih => intro s; rw [List.foldl_cons, ih]; simp [lonStep]
  unfold lonF; rw [gen]; simp
theorem dmax_le {deep : List Nat} {l : List Int} {b : Nat} (h : ∀ x ∈ deep, x ≤ b) : dmax deep l ≤ b := by
  have gen : ∀ (l : List Int) (m : Nat), m ≤ b → l.foldl (fun m j => max m (deep[j.toNat]?.getD 0)) m ≤ b := by
    intro l
    induction l with
    | nil => intro m hm; exact hm
    | cons a t ih =>
      intro m hm
      rw [List.foldl_cons]
      refine ih _ (Nat.max_le.2 ⟨hm, ?_⟩)
      cases hg : deep[a.toNat]? with
      | none => simp
      | some v => exact h v (List.mem_of_getElem? hg)
  exact gen l 0 (Nat.zero_le _)
theorem lonF_bound (rows : List (List Int)) (l : List Nat) : (∀ x ∈ (lonF rows l).1, x ≤ l.length) ∧ (lonF rows l).2 ≤ l.length := by
  have gen : ∀ (l : List Nat) (s : List Nat × Nat) (b : Nat), (∀ x ∈ s.1, x ≤ b) → s.2 ≤ b → (∀ x ∈ (l.foldl (lonStep rows) s).1, x ≤ b + l.length) ∧ (l.foldl (lonStep rows) s).2 ≤ b + l.length := by
    intro l
    induction l with
    | nil => intro s b h1 h2; exact ⟨h1, h2⟩
    | cons a t ih =>
      intro s b h1 h2
      rw [List.foldl_cons]
      have hd := dmax_le (l := depL rows.length (rows[a]?.getD [])) h1
      obtain ⟨i1, i2⟩ := ih (lonStep rows s a) (b + 1) (fun x hx => by
        rcases List.mem_or_eq_of_mem_set hx with hx | rfl
        · have := h1 x hx; omega
        · omega) (by simp only [lonStep]; omega)
      refine ⟨fun x hx => ?_, ?_⟩
      · have := i1 x hx; simp; omega
      · simp; omega
  have := gen l (List.replicate rows.length 0, 0) 0 (fun x hx => by rw [(List.mem_replicate.1 hx).2]; exact Nat.le_refl _) (Nat.le_refl _)
  unfold lonF
  simpa using this
theorem lonF_zero {rows : List (List Int)} {a : Nat} : ∀ {l : List Nat}, a ∉ l → (lonF rows l).1[a]?.getD 0 = 0 := by
  intro l ha
  have gen : ∀ (l : List Nat) (s : List Nat × Nat), a ∉ l → s.1[a]?.getD 0 = 0 → (l.foldl (lonStep rows) s).1[a]?.getD 0 = 0 := by
    intro l
    induction l with
    | nil => intro s _ h; exact h
    | cons b t ih =>
      intro s hn h
      rw [List.foldl_cons]
      refine ih _ (fun hm => hn (List.mem_cons_of_mem _ hm)) ?_
      simp only [lonStep]
      rw [List.getElem?_set_ne (fun e => hn (by rw [e]; exact List.mem_cons_self))]
      exact h
  refine gen l _ ha ?_
  rw [List.getElem?_replicate]
  split <;> rfl
end Go.Proofs.Ytlakmfhpinljjaa

/-
  graph.Behind: contract.
-/
namespace Go.Proofs.Ytlakmfhpinljjaa
open Go.RowKit
attribute [local go_sem] Oper.semAt_some wide_fn wide_depth wide_fn' wide_depth'

/-- Those that come right behind one. -/
def behB (rows : List (List Int)) (i : Int) (a : Nat) : Bool := (depL rows.length (rows[a]?.getD [])).contains i
def behL (rows : List (List Int)) (i : Int) (k : Nat) : List Int := ((List.range k).filter (behB rows i)).map Int.ofNat
theorem behL_len (rows : List (List Int)) (i : Int) (k : Nat) : (behL rows i k).length ≤ k := by
  unfold behL
  rw [List.length_map]
  exact Nat.le_trans (List.length_filter_le _ _) (by simp)
theorem behL_yes {rows : List (List Int)} {i : Int} {k : Nat} (h : behB rows i k = true) : behL rows i (k + 1) = behL rows i k ++ [(k : Int)] := by
  unfold behL; rw [List.range_succ, List.filter_append]; simp [h]
theorem behL_no {rows : List (List Int)} {i : Int} {k : Nat} (h : behB rows i k = false) : behL rows i (k + 1) = behL rows i k := by
  unfold behL; rw [List.range_succ, List.filter_append]; simp [h]

end Go.Proofs.Ytlakmfhpinljjaa

/-
  graph.Before: contract.
-/
namespace Go.Proofs.Ytlakmfhpinljjaa
open Go.RowKit
attribute [local go_sem] Oper.semAt_some wide_fn wide_depth wide_fn' wide_depth'

/-- All behind which one comes. -/
def befL (rows : List (List Int)) (i : Int) : List Int := if 0 ≤ i ∧ i < rows.length then selL (befIn rows i.toNat) rows.length else []
theorem befL_in {rows : List (List Int)} {i : Nat} (h : i < rows.length) : befL rows i = selL (befIn rows i) rows.length := by
  unfold befL; rw [if_pos (by omega)]; simp
theorem befL_out {rows : List (List Int)} {i : Int} (h : ¬ (0 ≤ i ∧ i < rows.length)) : befL rows i = [] := by unfold befL; rw [if_neg h]

theorem owns_drop {W : World} {base : Nat} {e : TypeId} {g n cap : Nat} {xs : List Value} (h : W.ownsRow base e 1 (.slice (some ⟨g, 0, none⟩) (n + 1) cap) (n + 1) xs) : W.ownsRow base e 1 (.slice (some ⟨g, 0, none⟩) n cap) n xs.dropLast := by
  refine ⟨by rw [List.length_dropLast, h.1]; omega, ?_⟩
  rcases h.2 with ⟨h1, _⟩ | ⟨g', cap', cur, he, hb, hg, hn, hm, hs, ht⟩
  · cases h1
  · injection he with e1 e2 e3
    injection e1 with e1
    injection e1 with e1
    subst e1 e3
    refine .inr ⟨g, cap, cur, rfl, hb, hg, by omega, hm, hs, ?_⟩
    have hl : xs.length = n + 1 := by simpa using h.1
    rw [List.dropLast_eq_take, hl, ← ht, List.take_take]
    congr 1
    omega

end Go.Proofs.Ytlakmfhpinljjaa
