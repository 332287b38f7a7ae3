/-
  graph: plain laws of waves: as many as the greatest depth; all that come are in them.
-/
import Derived.Test.YtlpcagkknfajeaaPh
namespace Go.Proofs.Ytlpcagkknfajeaa
open Go.RowKit

def dp (deep : List Nat) (y : Nat) : Nat := deep[y]?.getD 0
theorem dmax_ge {deep : List Nat} {l : List Int} {j : Int} (h : j ∈ l) : dp deep j.toNat ≤ dmax deep l := by
  have gen : ∀ (l : List Int) (m : Nat), (m ≤ l.foldl (fun m j => max m (deep[j.toNat]?.getD 0)) m) ∧ (j ∈ l → dp deep j.toNat ≤ l.foldl (fun m j => max m (deep[j.toNat]?.getD 0)) m) := by
    intro l
    induction l with
    | nil => intro m; exact ⟨Nat.le_refl _, fun h => by cases h⟩
    | cons a t ih =>
      intro m
      rw [List.foldl_cons]
      refine ⟨Nat.le_trans (Nat.le_max_left _ _) (ih _).1, fun h => ?_⟩
      rcases List.mem_cons.1 h with rfl | h
      · exact Nat.le_trans (Nat.le_max_right _ _) (ih _).1
      · exact (ih _).2 h
  exact (gen l 0).2 h
theorem dmax_att (deep : List Nat) (l : List Int) : dmax deep l = 0 ∨ ∃ j ∈ l, dp deep j.toNat = dmax deep l := by
  have gen : ∀ (l : List Int) (m : Nat), l.foldl (fun m j => max m (deep[j.toNat]?.getD 0)) m = m ∨ ∃ j ∈ l, dp deep j.toNat = l.foldl (fun m j => max m (deep[j.toNat]?.getD 0)) m := by
    intro l
    induction l with
    | nil => intro m; exact .inl rfl
    | cons a t ih =>
      intro m
      rw [List.foldl_cons]
      rcases ih (max m (deep[a.toNat]?.getD 0)) with h | ⟨j, hj, h⟩
      · rcases Nat.le_total (deep[a.toNat]?.getD 0) m with hl | hl
        · left; rw [h]; exact Nat.max_eq_left hl
        · right; refine ⟨a, List.mem_cons_self, ?_⟩; rw [h, Nat.max_eq_right hl]; rfl
      · exact .inr ⟨j, List.mem_cons_of_mem _ hj, h⟩
  exact gen l 0
theorem dmax_congr {deep deep' : List Nat} {l : List Int} (h : ∀ j ∈ l, dp deep j.toNat = dp deep' j.toNat) : dmax deep l = dmax deep' l := by
  have gen : ∀ (l : List Int) (m : Nat), (∀ j ∈ l, dp deep j.toNat = dp deep' j.toNat) → l.foldl (fun m j => max m (deep[j.toNat]?.getD 0)) m = l.foldl (fun m j => max m (deep'[j.toNat]?.getD 0)) m := by
    intro l
    induction l with
    | nil => intro m _; rfl
    | cons a t ih =>
      intro m h
      rw [List.foldl_cons, List.foldl_cons]
      have := h a List.mem_cons_self
      unfold dp at this
      rw [this]
      exact ih _ fun j hj => h j (List.mem_cons_of_mem _ hj)
  exact gen l 0 h

def depsOf (rows : List (List Int)) (x : Nat) : List Int := depL rows.length (rows[x]?.getD [])
/-- What the depths are, at all times. -/
structure LInv (rows : List (List Int)) (o : List Nat) (s : List Nat × Nat) : Prop where
  eq : ∀ x ∈ o, dp s.1 x = dmax s.1 (depsOf rows x) + 1
  le : ∀ x ∈ o, dp s.1 x ≤ s.2
  att : s.2 = 0 ∨ ∃ x ∈ o, dp s.1 x = s.2
theorem ord_deps {rows : List (List Int)} {p : Nat} (hp : p < (ordO rows).length) {j : Int} (h : j ∈ depsOf rows (ordO rows)[p]) : ∃ y : Nat, j = y ∧ y ∈ (ordO rows).take p := by
  obtain ⟨y, rfl, hy⟩ := dep_nats rows _ j h
  have hx := ordO_lt (List.getElem_mem hp)
  exact ⟨y, rfl, ordO_rch (.one ((edge_dep hx).2 h)) p hp rfl⟩
theorem dp_set_ne {deep : List Nat} {x y v : Nat} (h : y ≠ x) : dp (deep.set x v) y = dp deep y := by
  unfold dp; rw [List.getElem?_set_ne (fun e => h e.symm)]
theorem LInv.all (rows : List (List Int)) : ∀ k, k ≤ (ordO rows).length → LInv rows ((ordO rows).take k) (lonF rows ((ordO rows).take k)) := by
  intro k
  induction k with
  | zero => intro _; exact ⟨fun x hx => by simp at hx, fun x hx => by simp at hx, .inl rfl⟩
  | succ k ih =>
    intro hk
    have ih := ih (by omega)
    have hkl : k < (ordO rows).length := by omega
    rw [List.take_succ_eq_append_getElem hkl, lonF_snoc]
    have hlen := lonF_len rows ((ordO rows).take k)
    generalize hs : lonF rows ((ordO rows).take k) = s at *
    have hx := ordO_lt (List.getElem_mem hkl)
    have hno : (ordO rows)[k] ∉ (ordO rows).take k := fun hm => by
      obtain ⟨q, hq, he⟩ := List.getElem_of_mem hm
      rw [List.length_take] at hq
      rw [List.getElem_take] at he
      exact List.pairwise_iff_getElem.1 (ordO_nodup rows) q k (by omega) hkl (by omega) he
    have hself : dp (lonStep rows s (ordO rows)[k]).1 (ordO rows)[k] = dmax s.1 (depsOf rows (ordO rows)[k]) + 1 := by
      unfold dp lonStep depsOf; rw [List.getElem?_set_self (by omega)]; rfl
    have hold : ∀ z, z ∈ (ordO rows).take k → dp (lonStep rows s (ordO rows)[k]).1 z = dp s.1 z := fun z hz => dp_set_ne (fun e => hno (e ▸ hz))
    have hdm : ∀ q, q ≤ k → ∀ (hq : q < (ordO rows).length), dmax (lonStep rows s (ordO rows)[k]).1 (depsOf rows (ordO rows)[q]) = dmax s.1 (depsOf rows (ordO rows)[q]) := fun q hqk hq => dmax_congr fun j hj => by
      obtain ⟨y, rfl, hy⟩ := ord_deps hq hj
      rw [Int.toNat_natCast]
      exact hold y (List.mem_of_mem_take (l := (ordO rows).take k) (i := q) (by rw [List.take_take, Nat.min_eq_left hqk]; exact hy))
    refine ⟨fun x hx => ?_, fun x hx => ?_, ?_⟩
    · rcases List.mem_append.1 hx with hx | hx
      · rw [hold x hx]
        obtain ⟨q, hq, he⟩ := List.getElem_of_mem hx
        rw [List.length_take] at hq
        rw [List.getElem_take] at he
        have h1 := ih.eq x hx
        have h2 := hdm q (by omega) (by omega)
        rw [he] at h2
        rw [h2, h1]
      · rw [List.mem_singleton] at hx
        subst hx
        rw [hself, hdm k (Nat.le_refl _) hkl]
    · have hm : (lonStep rows s (ordO rows)[k]).2 = max s.2 (dmax s.1 (depsOf rows (ordO rows)[k]) + 1) := rfl
      rw [hm]
      rcases List.mem_append.1 hx with hx | hx
      · rw [hold x hx]; exact Nat.le_trans (ih.le x hx) (Nat.le_max_left _ _)
      · rw [List.mem_singleton] at hx
        subst hx
        rw [hself]; exact Nat.le_max_right _ _
    · have hm : (lonStep rows s (ordO rows)[k]).2 = max s.2 (dmax s.1 (depsOf rows (ordO rows)[k]) + 1) := rfl
      rw [hm]
      right
      rcases Nat.le_total (dmax s.1 (depsOf rows (ordO rows)[k]) + 1) s.2 with hl | hl
      · rw [Nat.max_eq_left hl]
        rcases ih.att with h0 | ⟨x, hx, he⟩
        · omega
        · exact ⟨x, List.mem_append_left _ hx, by rw [hold x hx]; exact he⟩
      · rw [Nat.max_eq_right hl]
        exact ⟨_, List.mem_append_right _ (List.mem_singleton.2 rfl), hself⟩

/-- How deep each stands, of those that come. -/
def lonD (rows : List (List Int)) : List Nat := (lonF rows (ordO rows)).1
theorem lonD_inv (rows : List (List Int)) : LInv rows (ordO rows) (lonD rows, lonO rows) := by
  have := LInv.all rows (ordO rows).length (Nat.le_refl _)
  rw [List.take_length] at this
  exact this
theorem ord_dep {rows : List (List Int)} {x : Nat} (hx : x ∈ ordO rows) {j : Int} (h : j ∈ depsOf rows x) : ∃ y : Nat, j = y ∧ y ∈ ordO rows := by
  obtain ⟨p, hp, rfl⟩ := List.getElem_of_mem hx
  obtain ⟨y, e, hy⟩ := ord_deps hp h
  exact ⟨y, e, List.mem_of_mem_take hy⟩
/-- Each depth up to the greatest is one's. -/
theorem depth_all (rows : List (List Int)) : ∀ (m d : Nat), d + m = lonO rows → 1 ≤ d → ∃ x ∈ ordO rows, dp (lonD rows) x = d := by
  intro m
  induction m with
  | zero =>
    intro d hd h1
    rcases (lonD_inv rows).att with h | ⟨x, hx, he⟩
    · simp at h; omega
    · exact ⟨x, hx, by simp at he; omega⟩
  | succ m ih =>
    intro d hd h1
    obtain ⟨x, hx, he⟩ := ih (d + 1) (by omega) (by omega)
    have := (lonD_inv rows).eq x hx
    simp only at this
    have hd' : dmax (lonD rows) (depsOf rows x) = d := by omega
    rcases dmax_att (lonD rows) (depsOf rows x) with h | ⟨j, hj, h⟩
    · omega
    · obtain ⟨y, rfl, hy⟩ := ord_dep hx hj
      rw [Int.toNat_natCast] at h
      exact ⟨y, hy, by omega⟩

/-- Wave by wave. -/
def wavF (rows : List (List Int)) : Nat → List Bool × List (List Int) → List (List Int)
  | 0, s => s.2
  | f + 1, s => if rdyL rows s.1 rows.length = [] then s.2 else wavF rows f (rbRow (rdyL rows s.1 rows.length) s.1, s.2 ++ [rdyL rows s.1 rows.length])
theorem wavF_stop {rows : List (List Int)} {f : Nat} {th : List Bool} {out : List (List Int)} (h : rdyL rows th rows.length = []) : wavF rows (f + 1) (th, out) = out := by rw [wavF, if_pos h]
theorem wavF_go {rows : List (List Int)} {f : Nat} {th : List Bool} {out : List (List Int)} (h : ¬ rdyL rows th rows.length = []) : wavF rows (f + 1) (th, out) = wavF rows f (rbRow (rdyL rows th rows.length) th, out ++ [rdyL rows th rows.length]) := by rw [wavF, if_neg h]
def wavL (rows : List (List Int)) : List (List Int) := wavF rows rows.length (List.replicate rows.length false, [])

theorem mem_rdyL {rows : List (List Int)} {th : List Bool} {n : Nat} {z : Int} : z ∈ rdyL rows th n ↔ ∃ x : Nat, z = x ∧ x < n ∧ rdyB rows th x = true := by
  unfold rdyL
  rw [List.mem_map]
  constructor
  · rintro ⟨x, hx, rfl⟩
    rw [List.mem_filter, List.mem_range] at hx
    exact ⟨x, rfl, hx⟩
  · rintro ⟨x, rfl, hx⟩
    exact ⟨x, by rw [List.mem_filter, List.mem_range]; exact hx, rfl⟩
theorem rdyL_nodup (rows : List (List Int)) (th : List Bool) (n : Nat) : (rdyL rows th n).Nodup := by
  unfold rdyL
  have : ((List.range n).filter (rdyB rows th)).Nodup := List.Nodup.sublist List.filter_sublist List.nodup_range
  exact List.Pairwise.map _ (fun a b h e => h (by have e' : (a : Int) = (b : Int) := e; omega)) this
theorem rdyB_not {rows : List (List Int)} {th : List Bool} {x : Nat} (h : rdyB rows th x = true) : gb th x = false := by
  unfold rdyB at h
  rw [thereB_gb] at h
  simp at h
  exact h.1
theorem count_row {n : Nat} : ∀ (l : List Int) (th : List Bool), th.length = n → l.Nodup → (∀ j ∈ l, ∃ y : Nat, j = y ∧ y < n ∧ gb th y = false) → (rbRow l th).count true = th.count true + l.length := by
  intro l
  induction l with
  | nil => intro th _ _ _; rfl
  | cons j l ih =>
    intro th hl hnd h
    obtain ⟨y, rfl, hy, hg⟩ := h _ List.mem_cons_self
    have e : rbRow ((y : Int) :: l) th = rbRow l (th.set y true) := by unfold rbRow; simp
    rw [List.nodup_cons] at hnd
    rw [e, ih (th.set y true) (by simpa using hl) hnd.2 (fun z hz => ?_), count_set (by omega) hg, List.length_cons]
    · omega
    · obtain ⟨x, rfl, hx, hgx⟩ := h z (List.mem_cons_of_mem _ hz)
      refine ⟨x, rfl, hx, ?_⟩
      rw [gb_set _ _ _ (by omega), hgx]
      have : x ≠ y := fun e => hnd.1 (by rw [← e]; exact hz)
      simp [this]
theorem all_ready_nil {rows : List (List Int)} {th : List Bool} (hl : th.length = rows.length) (h : rows.length ≤ th.count true) : rdyL rows th rows.length = [] := by
  refine List.eq_nil_iff_forall_not_mem.2 fun z hz => ?_
  obtain ⟨x, rfl, hx, hr⟩ := mem_rdyL.1 hz
  have := count_all (th := th) (by omega) x (by omega)
  rw [rdyB_not hr] at this
  cases this
theorem wave_step {rows : List (List Int)} {th : List Bool} (hl : th.length = rows.length) : (rbRow (rdyL rows th rows.length) th).length = rows.length ∧ (rbRow (rdyL rows th rows.length) th).count true = th.count true + (rdyL rows th rows.length).length ∧
    ∀ a, gb (rbRow (rdyL rows th rows.length) th) a = true ↔ gb th a = true ∨ (a : Int) ∈ rdyL rows th rows.length := by
  have hm : ∀ j ∈ rdyL rows th rows.length, ∃ y : Nat, j = y ∧ y < rows.length ∧ gb th y = false := fun j hj => by
    obtain ⟨x, rfl, hx, hr⟩ := mem_rdyL.1 hj
    exact ⟨x, rfl, hx, rdyB_not hr⟩
  obtain ⟨h1, h2⟩ := rbRow_facts (n := rows.length) (rdyL rows th rows.length) th hl (fun j hj => by obtain ⟨y, e, hy, _⟩ := hm j hj; exact ⟨y, e, hy⟩)
  exact ⟨h1, count_row _ _ hl (rdyL_nodup _ _ _) hm, h2⟩
theorem wavF_more {rows : List (List Int)} : ∀ (f : Nat) (th : List Bool) (out : List (List Int)), th.length = rows.length → rows.length ≤ f + th.count true → wavF rows (f + 1) (th, out) = wavF rows f (th, out) := by
  intro f
  induction f with
  | zero =>
    intro th out hl h
    have := all_ready_nil hl (by omega)
    simp only [wavF, this, if_true]
  | succ f ih =>
    intro th out hl h
    by_cases he : rdyL rows th rows.length = []
    · simp only [wavF, he, if_true]
    · have hs := wave_step (rows := rows) hl
      have hpos : 0 < (rdyL rows th rows.length).length := List.length_pos_iff.2 he
      have := ih (rbRow (rdyL rows th rows.length) th) (out ++ [rdyL rows th rows.length]) hs.1 (by omega)
      rw [wavF, if_neg he, this]
      conv => rhs; rw [wavF, if_neg he]

theorem gb_ext {a b : List Bool} (hl : a.length = b.length) (h : ∀ x, gb a x = true ↔ gb b x = true) : a = b := by
  apply List.ext_getElem hl
  intro i h1 h2
  have := h i
  unfold gb at this
  rw [List.getElem?_eq_getElem h1, List.getElem?_eq_getElem h2, Option.getD_some, Option.getD_some] at this
  rw [Bool.eq_iff_iff]; exact this
theorem sum_snoc (out : List (List Int)) (l : List Int) : ((out ++ [l]).map List.length).sum = (out.map List.length).sum + l.length := by simp

theorem wavF_facts {rows : List (List Int)} : ∀ (f : Nat) (th : List Bool) (out : List (List Int)) (k : Nat), th.length = rows.length → (∀ x, gb th x = true ↔ x ∈ ordO rows ∧ dp (lonD rows) x ≤ k) → out.length = k → (out.map List.length).sum = th.count true → k ≤ lonO rows → rows.length ≤ f + th.count true →
    (wavF rows f (th, out)).length = lonO rows ∧ ((wavF rows f (th, out)).map List.length).sum = (ordO rows).length := by
  intro f
  have hend : ∀ (th : List Bool) (out : List (List Int)) (k : Nat), th.length = rows.length → (∀ x, gb th x = true ↔ x ∈ ordO rows ∧ dp (lonD rows) x ≤ k) → out.length = k → (out.map List.length).sum = th.count true → k ≤ lonO rows → rdyL rows th rows.length = [] →
      out.length = lonO rows ∧ (out.map List.length).sum = (ordO rows).length := by
    intro th out k hl hth ho hsum hk he
    have hno : ¬ ∃ x ∈ ordO rows, dp (lonD rows) x = k + 1 := by
      rintro ⟨x, hx, hd⟩
      have hxn := ordO_lt hx
      have hm : (x : Int) ∈ rdyL rows th rows.length := mem_rdyL.2 ⟨x, rfl, hxn, by
        unfold rdyB
        rw [thereB_gb, Bool.and_eq_true]
        constructor
        · cases hg : gb th x with
          | false => rfl
          | true => have := ((hth x).1 hg).2; omega
        · rw [mayB_iff hxn]
          intro y hy
          have hj : (y : Int) ∈ depsOf rows x := (edge_dep hxn).1 hy
          obtain ⟨y', e, hy'⟩ := ord_dep hx hj
          have : y' = y := by omega
          subst this
          have h1 := (lonD_inv rows).eq x hx
          have h2 := dmax_ge (deep := lonD rows) hj
          rw [Int.toNat_natCast] at h2
          simp only at h1
          exact (hth y').2 ⟨hy', by omega⟩⟩
      rw [he] at hm; cases hm
    have hkM : k = lonO rows := by
      rcases Nat.lt_or_ge k (lonO rows) with h | h
      · exact absurd (depth_all rows (lonO rows - (k + 1)) (k + 1) (by omega) (by omega)) hno
      · omega
    refine ⟨by omega, ?_⟩
    obtain ⟨th', hi, _⟩ := ordO_facts rows
    have : th = th' := gb_ext (by rw [hl, hi.len]) fun x => by
      rw [hth, hi.mem]
      exact ⟨fun h => h.1, fun h => ⟨h, by have := (lonD_inv rows).le x h; simp only at this; omega⟩⟩
    rw [hsum, this, hi.cnt]
  induction f with
  | zero =>
    intro th out k hl hth ho hsum hk hf
    exact hend th out k hl hth ho hsum hk (all_ready_nil hl (by omega))
  | succ f ih =>
    intro th out k hl hth ho hsum hk hf
    by_cases he : rdyL rows th rows.length = []
    · rw [wavF_stop he]
      exact hend th out k hl hth ho hsum hk he
    · rw [wavF_go he]
      obtain ⟨s1, s2, s3⟩ := wave_step (rows := rows) hl
      have hchar : ∀ x : Nat, (x : Int) ∈ rdyL rows th rows.length → x ∈ ordO rows ∧ dp (lonD rows) x = k + 1 := by
        intro x hx
        obtain ⟨x', e, hxn, hr⟩ := mem_rdyL.1 hx
        have : x' = x := by omega
        subst this
        have hng := rdyB_not hr
        have hmay : mayB rows th x' = true := by unfold rdyB at hr; simp at hr; exact hr.2
        rw [mayB_iff hxn] at hmay
        have hxo : x' ∈ ordO rows := Classical.byContradiction fun hc => by
          obtain ⟨y, hy, hyo⟩ := ordO_stuck hxn hc
          exact hyo ((hth y).1 (hmay y hy)).1
        refine ⟨hxo, ?_⟩
        have h1 := (lonD_inv rows).eq x' hxo
        simp only at h1
        have h2 : dmax (lonD rows) (depsOf rows x') ≤ k := by
          rcases dmax_att (lonD rows) (depsOf rows x') with h | ⟨j, hj, h⟩
          · omega
          · obtain ⟨y, rfl, _⟩ := ord_dep hxo hj
            rw [Int.toNat_natCast] at h
            have := ((hth y).1 (hmay y ((edge_dep hxn).2 hj))).2
            omega
        have h3 : ¬ dp (lonD rows) x' ≤ k := fun h => by rw [(hth x').2 ⟨hxo, h⟩] at hng; cases hng
        omega
      obtain ⟨z, hz⟩ := List.exists_mem_of_ne_nil _ he
      obtain ⟨x0, rfl, _, _⟩ := mem_rdyL.1 hz
      have hx0 := hchar x0 hz
      have hle := (lonD_inv rows).le x0 hx0.1
      simp only at hle
      refine ih _ _ (k + 1) s1 (fun x => ?_) (by simp [ho]) (by rw [sum_snoc, s2, hsum]) (by omega) (by have : 0 < (rdyL rows th rows.length).length := List.length_pos_iff.2 he; omega)
      rw [s3]
      constructor
      · rintro (h | h)
        · have := (hth x).1 h; exact ⟨this.1, by omega⟩
        · have := hchar x h; exact ⟨this.1, by omega⟩
      · rintro ⟨hxo, hd⟩
        by_cases hdk : dp (lonD rows) x ≤ k
        · exact .inl ((hth x).2 ⟨hxo, hdk⟩)
        · right
          have hxn := ordO_lt hxo
          refine mem_rdyL.2 ⟨x, rfl, hxn, ?_⟩
          unfold rdyB
          rw [thereB_gb, Bool.and_eq_true]
          constructor
          · cases hg : gb th x with
            | false => rfl
            | true => exact absurd ((hth x).1 hg).2 hdk
          · rw [mayB_iff hxn]
            intro y hy
            have hj : (y : Int) ∈ depsOf rows x := (edge_dep hxn).1 hy
            obtain ⟨y', e, hy'⟩ := ord_dep hxo hj
            have : y' = y := by omega
            subst this
            have h1 := (lonD_inv rows).eq x hxo
            have h2 := dmax_ge (deep := lonD rows) hj
            rw [Int.toNat_natCast] at h2
            simp only at h1
            exact (hth y').2 ⟨hy', by omega⟩
/-- AS MANY WAVES as the greatest depth; all that come. -/
theorem wavL_facts (rows : List (List Int)) : (wavL rows).length = lonO rows ∧ ((wavL rows).map List.length).sum = (ordO rows).length := by
  refine wavF_facts rows.length _ [] 0 (by simp) (fun x => ?_) rfl (by simp [List.count_replicate]) (Nat.zero_le _) (by omega)
  rw [gb_replicate]
  constructor
  · intro h; cases h
  · rintro ⟨hx, hd⟩
    have := (lonD_inv rows).eq x hx
    simp only at this; omega
theorem wavL_more (rows : List (List Int)) : wavF rows (rows.length + 1) (List.replicate rows.length false, []) = wavL rows := wavF_more _ _ _ (by simp) (by omega)
end Go.Proofs.Ytlpcagkknfajeaa
