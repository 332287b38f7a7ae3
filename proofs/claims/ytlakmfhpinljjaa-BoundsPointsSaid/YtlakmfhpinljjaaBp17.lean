/-
  graph.Longest: contract.
-/
import Derived.Laws.Small
import Derived.Test.YtlakmfhpinljjaaBp5
import Derived.Test.YtlakmfhpinljjaaBp16
namespace Go.Proofs.Ytlakmfhpinljjaa
open Go.RowKit
attribute [local go_sem] Oper.semAt_some wide_fn wide_depth wide_fn' wide_depth'

theorem madeZero (n : Nat) : madeCells #[Value.int .i64 0] n = (natI (List.replicate n 0)).toArray := by
  apply Array.ext
  · simp [madeCells, natI]
  · intro i h1 h2
    simp [madeCells, natI, Nat.mod_one]
theorem make_ints (n : Nat) (w : World) (h : n ≤ 1073741824) : (Instr.makeSlice 58 (.int .i64 n) (.int .i64 n)).run Try.prog w = .ok (.slice (some ⟨w.heap.size, 0, none⟩) n n) (w.alloc (.cells (natI (List.replicate n 0)).toArray 3)) := by
  obtain ⟨i0, hi, hz0, hz1, hz2⟩ := info_parts Try.info_i64g
  have := run_make (P := Try.prog) w 58 3 i0 (.int .i64 0) Try.underlying58 hi hz0 .i64 .i64 n n (by omega) (by omega) (by rw [hz2]; omega) (by omega)
  rw [this, hz1]
  simp only [Int.toNat_natCast, Nat.mul_one]
  rw [show (Value.int .i64 0).cells = #[.int .i64 0] from rfl, madeZero]
theorem gmax2 {P : Program} (ts : Array TypeId) (t : TypeId) (x y : Nat) (w : World) : (Builtin.max_ ts t #[.int .i64 (x : Int), .int .i64 (y : Int)]).run P w = .ok (.int .i64 ((max x y : Nat) : Int)) w := by
  have := run_max_int2 (P := P) (w := w) ts t .i64 .i64 x y
  rw [this]; congr 2; omega

theorem ordO_len (rows : List (List Int)) : (ordO rows).length ≤ rows.length := by
  obtain ⟨th, h, _⟩ := ordO_facts rows
  rw [h.cnt, ← h.len]; exact List.count_le_length
theorem set_same {l : List Nat} {i : Nat} (h : l[i]?.getD 0 = 0) : l.set i 0 = l := by
  apply List.ext_getElem?
  intro j
  rw [List.getElem?_set]
  by_cases hij : i = j
  · subst hij
    by_cases hl : i < l.length
    · simp [hl] at h ⊢; exact h.symm
    · simp [hl]
  · simp [hij]
theorem dmax_next {deep : List Nat} {x y : Nat} {pre : List Int} (hz : deep[x]?.getD 0 = 0) (hx : x < deep.length) : max (dmax deep pre) ((deep.set x (dmax deep pre))[y]?.getD 0) = dmax deep (pre ++ [(y : Int)]) := by
  rw [dmax_snoc, Int.toNat_natCast]
  by_cases hxy : x = y
  · subst hxy
    rw [hz, List.getElem?_set_self hx]; simp
  · rw [List.getElem?_set_ne hxy]

theorem nat_cell {W : World} {g : Nat} {l : List Nat} {fr : Nat × Nat} (h : W.heap[g]? = some (.cells (natI l).toArray 3 fr)) {i : Nat} (hi : i < l.length) : W.cell? ⟨g, i, none⟩ = some (.int .i64 (l[i] : Int)) := by
  simp only [World.cell?, h, Option.bind_some]
  simp [natI, hi]
theorem nat_set (l : List Nat) (i v : Nat) : (natI l).toArray.setIfInBounds i (.int .i64 (v : Int)) = (natI (l.set i v)).toArray := by simp [natI, List.map_set]

end Go.Proofs.Ytlakmfhpinljjaa

/-
  rescriptlaw26.live: contract.
-/
namespace Go.Proofs.Ytlakmfhpinljjaa
open Go.RowKit

theorem rds_lit {W : World} {g : Nat} {l : List Int} {t : TypeId} {fr : Nat × Nat} (h : W.heap[g]? = some (.cells (ints .i64 l).toArray t fr)) (hl : l.length ≤ 1073741824) : RdS W (.slice (some ⟨g, 0, none⟩) l.length l.length) 1 l.length (ints .i64 l) := by
  refine ⟨by simp [ints], _, _, rfl, Nat.le_refl _, by unfold maxLen; omega, .inr ⟨g, 0, rfl, fun i c hi => ?_⟩⟩
  simp only [World.cell?, h, Nat.zero_add, Option.bind_some]
  simpa using hi
theorem rds_none (W : World) : RdS W (.slice none 0 0) 1 ([] : List Int).length (ints .i64 []) := ⟨rfl, none, 0, rfl, Nat.le_refl _, Nat.zero_le _, .inl rfl⟩
theorem rows_lit {W : World} {g : Nat} {ss : List Value} {t : TypeId} {fr : Nat × Nat} (rows : List (List Int)) (h : W.heap[g]? = some (.cells ss.toArray t fr)) (hl : ss.length = rows.length) (hm : rows.length ≤ 1073741824)
    (hr : ∀ (i : Nat) (r : List Int), rows[i]? = some r → ∃ c : Value, ss[i]? = some c ∧ RdS W c 1 r.length (ints .i64 r)) : Rows2 W (.slice (some ⟨g, 0, none⟩) rows.length rows.length) rows := by
  refine ⟨ss, ⟨by omega, _, _, rfl, Nat.le_refl _, by unfold maxLen; omega, .inr ⟨g, 0, rfl, fun i c hi => ?_⟩⟩, hl, hr⟩
  simp only [World.cell?, h, Nat.zero_add, Option.bind_some]
  simpa using hi

/-- Three rows of which two were built: where each lies. -/
theorem lit_two (w : World) (l1 l2 : List Int) (o : Obj) (t1 t2 : TypeId) (h1 : l1.length ≤ 1073741824) (h2 : l2.length ≤ 1073741824) :
    RdS (((w.alloc (.cells (ints .i64 l1).toArray t1)).alloc (.cells (ints .i64 l2).toArray t2)).alloc o) (.slice (some ⟨w.heap.size, 0, none⟩) l1.length l1.length) 1 l1.length (ints .i64 l1) ∧
    RdS (((w.alloc (.cells (ints .i64 l1).toArray t1)).alloc (.cells (ints .i64 l2).toArray t2)).alloc o) (.slice (some ⟨w.heap.size + 1, 0, none⟩) l2.length l2.length) 1 l2.length (ints .i64 l2) := by
  refine ⟨rds_lit (t := t1) (fr := (0, 0)) ?_ h1, rds_lit (t := t2) (fr := (0, 0)) ?_ h2⟩
  · rw [Below.heap_alloc _ _ _ (by simp; omega), Below.heap_alloc _ _ _ (by simp)]
    exact World.alloc_heap_new w _
  · have := World.alloc_heap_new (w.alloc (.cells (ints .i64 l1).toArray t1)) (.cells (ints .i64 l2).toArray t2)
    rw [World.size_alloc] at this
    rw [Below.heap_alloc _ _ _ (by simp)]
    exact this
theorem two_new (w : World) (o1 o2 o3 : Obj) : (((w.alloc o1).alloc o2).alloc o3).heap[w.heap.size + 1 + 1]? = some o3 := by
  have := World.alloc_heap_new ((w.alloc o1).alloc o2) o3
  rw [World.size_alloc, World.size_alloc] at this
  exact this
theorem two_below (w : World) (o1 o2 o3 : Obj) : Below w.heap.size w (((w.alloc o1).alloc o2).alloc o3) := ((((Below.refl _ w).alloc (Nat.le_refl _) _).alloc (by simp) _).alloc (by simp; omega) _)

abbrev cI (l : List Int) : Obj := .cells (ints .i64 l).toArray 3
theorem litA (w : World) : Rows2 (((w.alloc (.cells #[.int .i64 1] 3)).alloc (.cells #[.int .i64 0, .int .i64 9] 3)).alloc (.cells #[.slice (some ⟨w.heap.size, 0, none⟩) 1 1, .slice none 0 0, .slice (some ⟨w.heap.size + 1, 0, none⟩) 2 2] 58)) (.slice (some ⟨w.heap.size + 1 + 1, 0, none⟩) 3 3) [[1], [], [0, 9]] := by
  have hl := lit_two w [1] [0, 9] (.cells #[.slice (some ⟨w.heap.size, 0, none⟩) 1 1, .slice none 0 0, .slice (some ⟨w.heap.size + 1, 0, none⟩) 2 2] 58) 3 3 (by decide) (by decide)
  refine rows_lit [[1], [], [0, 9]] (two_new w _ _ _) rfl (by decide) fun i r hi => ?_
  rcases i with _ | _ | _ | i
  · cases hi; exact ⟨_, rfl, hl.1⟩
  · cases hi; exact ⟨_, rfl, rds_none _⟩
  · cases hi; exact ⟨_, rfl, hl.2⟩
  · cases hi
theorem litB (w : World) : Rows2 (((w.alloc (.cells #[.int .i64 1] 3)).alloc (.cells #[.int .i64 0] 3)).alloc (.cells #[.slice (some ⟨w.heap.size, 0, none⟩) 1 1, .slice (some ⟨w.heap.size + 1, 0, none⟩) 1 1, .slice none 0 0] 58)) (.slice (some ⟨w.heap.size + 1 + 1, 0, none⟩) 3 3) [[1], [0], []] := by
  have hl := lit_two w [1] [0] (.cells #[.slice (some ⟨w.heap.size, 0, none⟩) 1 1, .slice (some ⟨w.heap.size + 1, 0, none⟩) 1 1, .slice none 0 0] 58) 3 3 (by decide) (by decide)
  refine rows_lit [[1], [0], []] (two_new w _ _ _) rfl (by decide) fun i r hi => ?_
  rcases i with _ | _ | _ | i
  · cases hi; exact ⟨_, rfl, hl.1⟩
  · cases hi; exact ⟨_, rfl, hl.2⟩
  · cases hi; exact ⟨_, rfl, rds_none _⟩
  · cases hi
theorem litC (w : World) : Rows2 (((w.alloc (.cells #[.int .i64 1] 3)).alloc (.cells #[.int .i64 0] 3)).alloc (.cells #[.slice (some ⟨w.heap.size, 0, none⟩) 1 1, .slice (some ⟨w.heap.size + 1, 0, none⟩) 1 1] 58)) (.slice (some ⟨w.heap.size + 1 + 1, 0, none⟩) 2 2) [[1], [0]] := by
  have hl := lit_two w [1] [0] (.cells #[.slice (some ⟨w.heap.size, 0, none⟩) 1 1, .slice (some ⟨w.heap.size + 1, 0, none⟩) 1 1] 58) 3 3 (by decide) (by decide)
  refine rows_lit [[1], [0]] (two_new w _ _ _) rfl (by decide) fun i r hi => ?_
  rcases i with _ | _ | i
  · cases hi; exact ⟨_, rfl, hl.1⟩
  · cases hi; exact ⟨_, rfl, hl.2⟩
  · cases hi
theorem litD (w : World) (z : Int) : Rows2 (((w.alloc (.cells #[.int .i64 1] 3)).alloc (.cells #[.int .i64 z] 3)).alloc (.cells #[.slice (some ⟨w.heap.size, 0, none⟩) 1 1, .slice none 0 0, .slice (some ⟨w.heap.size + 1, 0, none⟩) 1 1] 58)) (.slice (some ⟨w.heap.size + 1 + 1, 0, none⟩) 3 3) [[1], [], [z]] := by
  have hl := lit_two w [1] [z] (.cells #[.slice (some ⟨w.heap.size, 0, none⟩) 1 1, .slice none 0 0, .slice (some ⟨w.heap.size + 1, 0, none⟩) 1 1] 58) 3 3 (by decide) (by simp)
  refine rows_lit [[1], [], [z]] (two_new w _ _ _) rfl (by simp) fun i r hi => ?_
  rcases i with _ | _ | _ | i
  · cases hi; exact ⟨_, rfl, hl.1⟩
  · cases hi; exact ⟨_, rfl, rds_none _⟩
  · cases hi; exact ⟨_, rfl, hl.2⟩
  · cases hi
theorem litF (w : World) (o : Obj) : Rows2 (((w.alloc (.cells #[.int .i64 0] 3)).alloc (.cells #[.slice none 0 0, .slice (some ⟨w.heap.size, 0, none⟩) 1 1] 58)).alloc o) (.slice (some ⟨w.heap.size + 1, 0, none⟩) 2 2) [[], [0]] := by
  have h1 : RdS (((w.alloc (.cells #[.int .i64 0] 3)).alloc (.cells #[.slice none 0 0, .slice (some ⟨w.heap.size, 0, none⟩) 1 1] 58)).alloc o) (.slice (some ⟨w.heap.size, 0, none⟩) 1 1) 1 ([0] : List Int).length (ints .i64 [0]) := by
    refine rds_lit (l := [0]) (t := 3) (fr := (0, 0)) ?_ (by decide)
    rw [Below.heap_alloc _ _ _ (by simp; omega), Below.heap_alloc _ _ _ (by simp)]
    exact World.alloc_heap_new w _
  have h2 : (((w.alloc (.cells #[.int .i64 0] 3)).alloc (.cells #[.slice none 0 0, .slice (some ⟨w.heap.size, 0, none⟩) 1 1] 58)).alloc o).heap[w.heap.size + 1]? = some (.cells #[.slice none 0 0, .slice (some ⟨w.heap.size, 0, none⟩) 1 1] 58) := by
    have := World.alloc_heap_new (w.alloc (.cells #[.int .i64 0] 3)) (.cells #[.slice none 0 0, .slice (some ⟨w.heap.size, 0, none⟩) 1 1] 58)
    rw [World.size_alloc] at this
    rw [Below.heap_alloc _ _ _ (by simp)]
    exact this
  refine rows_lit [[], [0]] h2 rfl (by decide) fun i r hi => ?_
  rcases i with _ | _ | i
  · cases hi; exact ⟨_, rfl, rds_none _⟩
  · cases hi; exact ⟨_, rfl, h1⟩
  · cases hi

end Go.Proofs.Ytlakmfhpinljjaa
