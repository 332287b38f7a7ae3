/-
  What the walk is told of nodes, steps, definitions that came in. Conditions: none of the program's.
-/
import Derived.Test.YtdhgcgejdoedbaaGreatDoorBw9
import Derived.Test.YtdhgcgejdoedbaaGreatDoorBw11
import Derived.Test.YtdhgcgejdoedbaaGreatDoorBw16
namespace Go.Proofs.YtdhgcgejdoedbaaGreatDoor
open Go Go.RowKit Go.ChangeShapes Go.WideShapes Go.ChangeAt

theorem open_rowsF {H : Type} {enc : TypeId × Value → H} {P : Program} {W : World} {t e : TypeId} {m fuel : Nat} {cs : List Value} {y : DataW H × List MemPlace} (ht : P.underlying t = some (.slice e)) (hm : P.cellsOf e = m) (hm0 : 0 < m)
    (h : DataW.trod enc P W 0 (fun _ => true) true fuel t cs = some y) :
    ∃ (v : Value) (n : Nat) (C : Nat → List Value), cs = [v] ∧ (∀ i, i < n → (C i).length = m ∧ ∃ f y, f < fuel ∧ DataW.trod enc P W 0 (fun _ => true) true f e (C i) = some y) ∧ RdS W v m n ((List.range n).flatMap C) := by
  rcases DataW.trod_slice ht h with ⟨hcs, _⟩ | ⟨x, len, cap, elems, rest, n, hfu, hcs, _, _, hl, hc, hlen, hel, _, _⟩
  · exact ⟨_, 0, fun _ => [], hcs, fun i hi => by omega, by simp, none, 0, rfl, Nat.le_refl _, Nat.zero_le _, .inl rfl⟩
  · rw [hm] at hel
    have hx' : ∀ i, i < len → ∃ cs' : List Value, W.cells? 0 (x.add (i * m)) m = some cs' ∧ ∃ y, DataW.trod enc P W 0 (fun _ => true) true n e cs' = some y := fun i hi => by
      have h1 := hel i hi
      rw [List.getElem?_eq_getElem (by omega)] at h1
      cases hw : W.cells? 0 (x.add (i * m)) m with
      | none => rw [hw] at h1; cases h1
      | some cs' => rw [hw] at h1; exact ⟨cs', rfl, _, h1⟩
    obtain ⟨C, hC⟩ := Go.Deep.choose_lt hx'
    have hlen' : ∀ i, i < len → (C i).length = m := fun i hi => (World.cells?_some (hC i hi).1).2.1
    have hfl := flat_get hlen' hm0
    refine ⟨_, len, C, hcs, fun i hi => ⟨hlen' i hi, n, _, by omega, (hC i hi).2.choose_spec⟩, hfl.1, some x, _, rfl, hl, hc, ?_⟩
    by_cases h0 : len = 0
    · left; subst h0; rfl
    · right
      have hcell : ∀ i, i < len → ∀ j, j < m → W.cell? ((x.add (i * m)).add j) = (C i)[j]? := fun i hi j hj => by
        have := (World.cells?_some (hC i hi).1).2.2 j hj
        rw [this]
      have hx0 := hcell 0 (by omega) 0 hm0
      rw [Nat.zero_mul, show (x.add 0).add 0 = x from rfl] at hx0
      have hsp : x = ⟨x.block, x.off, none⟩ := by
        have hxs : x.spot = none := by
          have hsome : (C 0)[0]? ≠ none := by rw [List.getElem?_eq_getElem (by rw [hlen' 0 (by omega)]; exact hm0)]; simp
          cases hs : x.spot with
          | none => rfl
          | some s => rw [← hx0] at hsome; unfold World.cell? at hsome; split at hsome <;> simp [hs] at hsome
        cases x; simp at hxs; simp [hxs]
      refine ⟨x.block, x.off, by rw [← hsp], fun j c hj => ?_⟩
      have hjl : j < len * m := by
        rcases Nat.lt_or_ge j (len * m) with h | h
        · exact h
        · rw [List.getElem?_eq_none (by rw [hfl.1]; exact h)] at hj; cases hj
      rw [hfl.2 j hjl] at hj
      have hd : j / m < len := (Nat.div_lt_iff_lt_mul hm0).2 hjl
      have := hcell (j / m) hd (j % m) (Nat.mod_lt _ hm0)
      rw [hj, Go.Deep.add_add, Nat.mul_comm, Nat.div_add_mod] at this
      rw [← this]
      congr 1
      rw [hsp]; unfold Addr.add
      split
      · rename_i h0; subst h0; simp
      · rfl

theorem flat_rows (n : Nat) (C : Nat → List Value) : (List.range n).flatMap C = ((List.range n).map C).flatten := by rw [List.flatMap_def]
theorem rows_get {n : Nat} {C : Nat → List Value} {i : Nat} {r : List Value} (h : ((List.range n).map C)[i]? = some r) : i < n ∧ r = C i := by
  rw [List.getElem?_map] at h
  obtain ⟨j, hj, rfl⟩ := Option.map_eq_some_iff.1 h
  obtain ⟨h1, h2⟩ := List.getElem?_eq_some_iff.1 hj
  simp at h2 h1; subst h2; exact ⟨h1, rfl⟩

theorem open_strsF {H : Type} {enc : TypeId × Value → H} {W : World} {fuel : Nat} {cs : List Value} {y : DataW H × List MemPlace} (h : DataW.trod enc Tryz.prog W 0 (fun _ => true) true fuel 22 cs = some y) :
    ∃ (v : Value) (l : List ByteArray), cs = [v] ∧ (∀ s ∈ l, s.size ≤ maxLen) ∧ RdS W v 1 l.length (strsV l) := by
  obtain ⟨v, n, C, hcs, hC, hr⟩ := open_rowsF (m := 1) Tryz.underlying22 (by kernel_rfl) (by decide) h
  obtain ⟨l, hl, hp, hf⟩ := rows_of (f := fun s : ByteArray => [Value.string s]) (p := fun s => s.size ≤ maxLen) (C := C) (n := n) (fun i hi => by
    obtain ⟨_, f, y, _, hy⟩ := hC i hi
    obtain ⟨s, e, _, hs⟩ := DataW.trod_string Tryz.underlying9 hy
    exact ⟨s, hs, e⟩)
  refine ⟨v, l, hcs, hp, ?_⟩
  rw [hf, show l.flatMap (fun s => [Value.string s]) = strsV l from (List.map_eq_flatMap).symm] at hr
  rw [hl]; exact hr

theorem Tryz.struct_node : ∃ f0 f1 f2 f3 f4 : Field, Tryz.prog.underlying 25 = some (.struct #[f0, f1, f2, f3, f4]) ∧ (f0.offset = 0 ∧ f0.type = 5) ∧ (f1.offset = 1 ∧ f1.type = 9) ∧ (f2.offset = 2 ∧ f2.type = 22) ∧ (f3.offset = 3 ∧ f3.type = 23) ∧ (f4.offset = 4 ∧ f4.type = 3) := ⟨_, _, _, _, _, Tryz.underlying25, ⟨rfl, rfl⟩, ⟨rfl, rfl⟩, ⟨rfl, rfl⟩, ⟨rfl, rfl⟩, ⟨rfl, rfl⟩⟩

theorem nat_of_wf8 {n : Int} (h : (Lit.int .u8 n).wf = true) : ∃ k : Nat, n = (k : Int) ∧ k < 256 := ⟨n.toNat, by have := wf_u8 h; omega, by have := wf_u8 h; omega⟩

set_option maxRecDepth 100000 in
theorem open_nodeF {H : Type} {enc : TypeId × Value → H} {W : World} : ∀ (fuel : Nat) (cs : List Value) (y : DataW H × List MemPlace), DataW.trod enc Tryz.prog W 0 (fun _ => true) true fuel 25 cs = some y → ∃ x : Tree, NodeR W cs x := by
  have c0 : Tryz.prog.cellsOf 3 = 1 := by kernel_rfl
  have c1 : Tryz.prog.cellsOf 5 = 1 := by kernel_rfl
  have c2 : Tryz.prog.cellsOf 9 = 1 := by kernel_rfl
  have c3 : Tryz.prog.cellsOf 22 = 1 := by kernel_rfl
  have c4 : Tryz.prog.cellsOf 23 = 1 := by kernel_rfl
  have c5 : Tryz.prog.cellsOf 25 = 5 := by kernel_rfl
  obtain ⟨f0, f1, f2, f3, f4, hs, ⟨o0, t0⟩, ⟨o1, t1⟩, ⟨o2, t2⟩, ⟨o3, t3⟩, ⟨o4, t4⟩⟩ := Tryz.struct_node
  intro fuel
  induction fuel using Nat.strongRecOn with
  | _ fuel ih =>
    intro cs y hy
    obtain ⟨xs, k, hk, hxy, hcl, hxl, hf⟩ := DataW.trod_struct hs hy
    rw [c5] at hcl
    match cs, hcl, xs, hxl with
    | [v0, v1, v2, v3, v4], _, [y0, y1, y2, y3, y4], _ =>
      have g0 := hf 0 f0 rfl
      have g1 := hf 1 f1 rfl
      have g2 := hf 2 f2 rfl
      have g3 := hf 3 f3 rfl
      have g4 := hf 4 f4 rfl
      simp [o0, o1, o2, o3, o4, t0, t1, t2, t3, t4, c0, c1, c2, c3, c4] at g0 g1 g2 g3 g4
      obtain ⟨n0, e0, _, w0⟩ := DataW.trod_int Tryz.underlying5 g0
      obtain ⟨n1, e1, _, w1⟩ := DataW.trod_string Tryz.underlying9 g1
      obtain ⟨vk, ks, e2, hks, hkr⟩ := open_strsF g2
      obtain ⟨vc, n, C, e3, hC, hr⟩ := open_rowsF (m := 5) Tryz.underlying23 c5 (by decide) g3
      obtain ⟨n4, e4, _, w4⟩ := DataW.trod_int Tryz.underlying3 g4
      obtain ⟨k0, rfl, hk0⟩ := nat_of_wf8 w0
      simp at e0 e1 e2 e3 e4
      subst e0 e1 e2 e3 e4
      have hx : ∀ i, i < n → ∃ x : Tree, NodeR W (C i) x := fun i hi => by
        obtain ⟨_, f, y', hf', hy'⟩ := hC i hi
        exact ih f (by omega) (C i) y' hy'
      obtain ⟨g, hg⟩ := Go.Deep.choose_lt hx
      rw [flat_rows] at hr
      refine ⟨.mk k0 n1 ks ((List.range n).map g) n4, .mk ((List.range n).map C) hk0 w1 hks (wf_i64 w4) hkr (by simp) (by simpa using hr) ?_⟩
      intro i r x hri hxi
      obtain ⟨h1, rfl⟩ := rows_get hri
      rw [List.getElem?_map, List.getElem?_range h1] at hxi
      cases hxi
      exact hg i h1

end Go.Proofs.YtdhgcgejdoedbaaGreatDoor

/-
  A tree as an argument.
-/
namespace Go.Proofs.YtdhgcgejdoedbaaGreatDoor
open Go Go.RowKit Go.ChangeShapes Go.WideShapes Go.ChangeAt

set_option maxRecDepth 100000 in
theorem open_nodeR {H : Type} {enc : TypeId × Value → H} {W : World} {base : Nat} {v : Value} {d : DataW H} {ps : List MemPlace} (hv : Value.okWide Tryz.prog W .any base 25 v) (h : DataW.Trod enc Tryz.prog W 0 (fun _ => true) true 25 v d ps) :
    ∃ (x : Tree) (cs : List Value), v = .agg cs.toArray ∧ NodeR W cs x := by
  obtain ⟨cs, rfl, _, _⟩ := open_aggW (n := 5) Tryz.underlying25 (by kernel_rfl) (ts := [5, 9, 22, 23, 3]) (by kernel_rfl) rfl hv
  obtain ⟨fuel, hf⟩ := h
  obtain ⟨x, hx⟩ := open_nodeF _ _ _ hf
  exact ⟨x, cs.toList, by rw [Array.toArray_toList], by simpa [Value.cells] using hx⟩
end Go.Proofs.YtdhgcgejdoedbaaGreatDoor
