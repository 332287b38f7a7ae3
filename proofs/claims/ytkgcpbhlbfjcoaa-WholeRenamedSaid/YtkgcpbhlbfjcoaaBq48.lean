/-
  The renaming in place: the plain lists, and what rows of steps read as behind a store into one of them.
-/
import Derived.Test.YtkgcpbhlbfjcoaaBq16
import Derived.Test.YtkgcpbhlbfjcoaaBq17
import Derived.Test.YtkgcpbhlbfjcoaaBq34
import Derived.Test.YtkgcpbhlbfjcoaaBq45
import Derived.Test.YtkgcpbhlbfjcoaaBq47
namespace Go.Proofs.Ytkgcpbhlbfjcoaa
open Go Go.RowKit Go.WideShapes

/-- The first steps renamed. -/
def renL (p : ByteArray) : Nat → List StepD → List StepD
  | 0, l => l
  | _ + 1, [] => []
  | i + 1, s :: l => renS p s :: renL p i l
theorem renL_len (p : ByteArray) : ∀ (i : Nat) (l : List StepD), (renL p i l).length = l.length
  | 0, _ => by rw [renL]
  | _ + 1, [] => by rw [renL]
  | i + 1, s :: l => by rw [renL, List.length_cons, List.length_cons, renL_len p i l]
theorem renL_at (p : ByteArray) : ∀ (i : Nat) (l : List StepD), (renL p i l)[i]? = l[i]?
  | 0, _ => by rw [renL]
  | _ + 1, [] => by rw [renL]
  | i + 1, s :: l => by rw [renL, List.getElem?_cons_succ, List.getElem?_cons_succ, renL_at p i l]
theorem renL_succ (p : ByteArray) : ∀ (i : Nat) (l : List StepD) (s : StepD), l[i]? = some s → renL p (i + 1) l = (renL p i l).set i (renS p s)
  | 0, [], s, h => by cases h
  | 0, a :: l, s, h => by cases h; rfl
  | i + 1, [], s, h => by cases h
  | i + 1, a :: l, s, h => by
    rw [List.getElem?_cons_succ] at h
    rw [renL, renL, List.set_cons_succ, renL_succ p i l s h]
theorem renL_all (p : ByteArray) : ∀ (l : List StepD), renL p l.length l = l.map (renS p)
  | [] => rfl
  | a :: l => by rw [List.length_cons, renL, List.map_cons, renL_all p l]
/-- A step's own name, and the first of those that it comes behind. -/
def renP (p : ByteArray) (k : Nat) (s : StepD) : StepD := { s with name := p ++ s.name, after := (s.after.take k).map (p ++ ·) ++ s.after.drop k }
theorem renP_zero (p : ByteArray) (s : StepD) : renP p 0 s = { s with name := p ++ s.name } := rfl
theorem renP_all (p : ByteArray) (s : StepD) : renP p s.after.length s = renS p s := by
  unfold renP renS
  rw [List.take_length, List.drop_length, List.append_nil]
theorem renP_len (p : ByteArray) (k : Nat) (s : StepD) : (renP p k s).after.length = s.after.length := by
  show ((s.after.take k).map (p ++ ·) ++ s.after.drop k).length = _
  rw [List.length_append, List.length_map, ← List.length_append, List.take_append_drop]
theorem renP_at (p : ByteArray) (k : Nat) (s : StepD) : (renP p k s).after[k]? = s.after[k]? := by
  show ((s.after.take k).map (p ++ ·) ++ s.after.drop k)[k]? = _
  rw [List.getElem?_append]
  by_cases h : k < s.after.length
  · rw [if_neg (by rw [List.length_map, List.length_take]; omega), List.length_map, List.length_take, List.getElem?_drop]
    congr 1
    omega
  · rw [List.drop_eq_nil_of_le (by omega), List.getElem?_eq_none (l := s.after) (by omega)]
    split
    · rw [List.getElem?_eq_none (by rw [List.length_map, List.length_take]; omega)]
    · rfl
theorem renP_succ (p : ByteArray) (k : Nat) (s : StepD) (a : ByteArray) (h : s.after[k]? = some a) : { renP p k s with after := (renP p k s).after.set k (p ++ a) } = renP p (k + 1) s := by
  have hk : k < s.after.length := by
    rcases Nat.lt_or_ge k s.after.length with h1 | h1
    · exact h1
    · rw [List.getElem?_eq_none h1] at h
      cases h
  have h2 : ((s.after.take k).map (p ++ ·) ++ s.after.drop k).set k (p ++ a) = (s.after.take (k + 1)).map (p ++ ·) ++ s.after.drop (k + 1) := by
    have ha : s.after[k] = a := by rw [List.getElem?_eq_getElem hk] at h; cases h; rfl
    have hl : ((s.after.take k).map (p ++ ·)).length = k := by rw [List.length_map, List.length_take]; omega
    rw [List.set_append_right _ _ (by omega), hl, Nat.sub_self, List.take_succ_eq_append_getElem hk, List.map_append, List.map_singleton, List.append_assoc, List.drop_eq_getElem_cons hk, List.set_cons_zero, ha]
    rfl
  unfold renP
  simp only [h2]
/-- One cell of a row that lies in a row of rows. -/
theorem flatten_set1 {rows : List (List Value)} {m : Nat} (hm : ∀ r ∈ rows, r.length = m) {j k : Nat} (hj : j < rows.length) (hk : k < m) (x : Value) : rows.flatten.set (j * m + k) x = (rows.set j ((rows[j]).set k x)).flatten := by
  have hm2 : ∀ r ∈ rows.set j ((rows[j]).set k x), r.length = m := by
    intro r hr
    rcases List.mem_or_eq_of_mem_set hr with h | h
    · exact hm r h
    · rw [h, List.length_set]
      exact hm _ (List.getElem_mem hj)
  have h1 := flatten_get hm
  have h2 := flatten_get hm2
  apply List.ext_getElem?
  intro q
  by_cases hq : q < rows.length * m
  · have hm0 : 0 < m := by omega
    obtain ⟨i, c, hc, rfl⟩ : ∃ i c, c < m ∧ q = i * m + c := ⟨q / m, q % m, Nat.mod_lt _ hm0, by rw [Nat.mul_comm]; exact (Nat.div_add_mod q m).symm⟩
    have hi : i < rows.length := by
      rcases Nat.lt_or_ge i rows.length with h | h
      · exact h
      · have := Nat.mul_le_mul_right m h
        omega
    by_cases e : i = j
    · subst e
      rw [h2.2 i _ (by rw [List.getElem?_set_self hj]) c hc]
      by_cases e2 : c = k
      · subst e2
        rw [List.getElem?_set_self (by rw [h1.1]; exact hq), List.getElem?_set_self (by rw [hm _ (List.getElem_mem hj)]; exact hc)]
      · rw [List.getElem?_set_ne (by omega), List.getElem?_set_ne (by omega), h1.2 i rows[i] (List.getElem?_eq_getElem hi) c hc]
    · have hne : j * m + k ≠ i * m + c := by
        intro e3
        rcases Nat.lt_or_gt_of_ne e with h | h
        · have := Nat.mul_le_mul_right m (show i + 1 ≤ j by omega)
          rw [Nat.add_mul, Nat.one_mul] at this
          omega
        · have := Nat.mul_le_mul_right m (show j + 1 ≤ i by omega)
          rw [Nat.add_mul, Nat.one_mul] at this
          omega
      rw [h2.2 i rows[i] (by rw [List.getElem?_set_ne (by omega), List.getElem?_eq_getElem hi]) c hc, List.getElem?_set_ne hne, h1.2 i rows[i] (List.getElem?_eq_getElem hi) c hc]
  · rw [List.getElem?_eq_none (by rw [List.length_set, h1.1]; omega), List.getElem?_eq_none (by rw [h2.1, List.length_set]; omega)]
/-- All rows are the call's own: a step is taken out of them. -/
theorem rowsI.own {w wr : World} {N1 n : Nat} {rows : List (List Value)} {l : List StepD} (h : rowsI w wr N1 n rows l) (hn : n = l.length) {j : Nat} (hj : j < l.length) (hr : j < rows.length) : ∃ bnd : Nat → Nat, N1 ≤ bnd 0 ∧ (∀ i, i < n → bnd i ≤ bnd (i + 1)) ∧ bnd n ≤ wr.heap.size ∧ StepI wr (bnd j) (bnd (j + 1)) rows[j] l[j] := by
  obtain ⟨h1, bnd, h2, h3, h4, h5⟩ := h
  exact ⟨bnd, h2, h3, h4, (h5 j _ _ (List.getElem?_eq_getElem hr) (List.getElem?_eq_getElem hj)).1 (by omega)⟩
/-- A store of a name into a row's first cell, the row's blocks untouched. -/
theorem rowsI.name {w wr w' : World} {N1 n j : Nat} {rows : List (List Value)} {l : List StepD} {s : StepD} {r : List Value} (h : rowsI w wr N1 n rows l) (hn : n = l.length) (hs : l[j]? = some s) (hr : rows[j]? = some r) (nm : ByteArray) (hm : nm.size ≤ maxLen) (hk : ∀ b, N1 ≤ b → b < wr.heap.size → w'.heap[b]? = wr.heap[b]?) (hz : wr.heap.size ≤ w'.heap.size) : rowsI w w' N1 n (rows.set j (r.set 0 (.string nm))) (l.set j { s with name := nm }) := by
  obtain ⟨h1, bnd, h2, h3, h4, h5⟩ := h.keep hk hz
  refine ⟨by rw [List.length_set, List.length_set, h1], bnd, h2, h3, h4, fun i r' s' hr' hs' => ⟨fun hi => ?_, fun hi => ?_⟩⟩
  · by_cases e : i = j
    · subst e
      have hri : i < rows.length := (List.getElem?_eq_some_iff.1 hr).1
      have hsi : i < l.length := (List.getElem?_eq_some_iff.1 hs).1
      rw [List.getElem?_set_self hri] at hr'
      rw [List.getElem?_set_self hsi] at hs'
      cases hr'
      cases hs'
      obtain ⟨aa, ac, ka, kc, ba, bc, mid, e1, e2, e3, e4, e5, e6, e7⟩ := (h5 i r s hr hs).1 hi
      exact ⟨aa, ac, ka, kc, ba, bc, mid, by rw [e1]; rfl, ⟨hm, e2.action, e2.undo, e2.after, e2.most, e2.first, e2.factor, e2.limit⟩, e3, e4, e5, e6, e7⟩
    · rw [List.getElem?_set_ne (fun x => e x.symm)] at hr' hs'
      exact (h5 i r' s' hr' hs').1 hi
  · rw [hn] at hi
    have := (List.getElem?_eq_some_iff.1 hs').1
    rw [List.length_set] at this
    exact absurd this hi
/-- A store of a name into the slice of those that a step comes behind. -/
theorem rowsI.after {w wr : World} {N1 n j k : Nat} {rows : List (List Value)} {l : List StepD} {s : StepD} {r : List Value} {a : ByteArray} (h : rowsI w wr N1 n rows l) (hn : n = l.length) (hs : l[j]? = some s) (hr : rows[j]? = some r) (hk : s.after[k]? = some a) : ∃ g ac, r[3]? = some (.slice (some ⟨g, 0, none⟩) s.after.length ac) ∧ N1 ≤ g ∧ g < wr.heap.size ∧ (∃ cur, wr.heap[g]? = some (.cells cur 9 (0, 0))) ∧ s.after.length ≤ ac ∧ ac ≤ 9223372036854775807 ∧ wr.cell? ⟨g, k, none⟩ = some (.string a) ∧ wr.frozen? ⟨g, k, none⟩ = false ∧ ∀ x : ByteArray, x.size ≤ maxLen → rowsI w (wr.setCell ⟨g, k, none⟩ (.string x)) N1 n rows (l.set j { s with after := s.after.set k x }) := by
  obtain ⟨h1, bnd, h2, h3, h4, h5⟩ := h
  have hsi : j < l.length := (List.getElem?_eq_some_iff.1 hs).1
  have hkl : k < s.after.length := (List.getElem?_eq_some_iff.1 hk).1
  obtain ⟨aa, ac, ka, kc, ba, bc, mid, e1, e2, e3, e4, e5, e6, e7⟩ := (h5 j r s hr hs).1 (by omega)
  obtain ⟨g, cap, hv, hg1, hg2⟩ := e3.form (by omega)
  injection hv with q1 q2 q3
  subst q1 q3
  obtain ⟨_, _, _, q4, q5, q6, _⟩ := RdS.of_owns e3
  injection q4 with _ _ q7
  subst q7
  have hgm := e4 g rfl
  have hmono : ∀ (a b : Nat), a ≤ b → b ≤ n → bnd a ≤ bnd b := fun a b x y => bnd_mono h3 b a x y
  have hcur : ∃ cur, wr.heap[g]? = some (.cells cur 9 (0, 0)) := by
    rcases e3.2 with ⟨x1, _⟩ | ⟨g', cap', cur, hv, _, hg, _⟩
    · cases x1
    · simp only [Value.slice.injEq, Option.some.injEq, Addr.mk.injEq, and_true, true_and] at hv
      obtain ⟨rfl, rfl⟩ := hv
      exact ⟨cur, hg⟩
  refine ⟨g, ac, by rw [e1]; rfl, Nat.le_trans h2 (Nat.le_trans (hmono 0 j (Nat.zero_le _) (by omega)) hg1), hg2, hcur, q5, by unfold maxLen at q6; exact q6, ?_, e3.frozenAt k, fun x hx => ⟨by rw [List.length_set, h1], bnd, h2, h3, by simpa using h4, fun i r' s' hr' hs' => ⟨fun hi => ?_, fun hi => ?_⟩⟩⟩
  · rw [e3.cellAt k (by omega)]
    unfold strsV
    rw [List.getElem?_map, hk]
    rfl
  · by_cases e : i = j
    · subst e
      rw [hr] at hr'
      cases hr'
      rw [List.getElem?_set_self hsi] at hs'
      cases hs'
      have h3' := owns_set1 e3 (q := k) (by omega) (.string x)
      have hst : (strsV s.after).set k (.string x) = strsV (s.after.set k x) := by
        unfold strsV
        rw [List.map_set]
      rw [hst] at h3'
      refine ⟨some ⟨g, 0, none⟩, ac, ka, kc, ba, bc, mid, ?_, ⟨e2.name, e2.action, e2.undo, fun b hb => ?_, e2.most, e2.first, e2.factor, e2.limit⟩, ?_, ?_, e5, e6, e7.keep (fun b hb _ => Below.heap_setCell _ _ _ _ (by have := hb.1; show b ≠ g; omega)) (fun _ h => h)⟩
      · rw [e1]
        simp only [List.length_set]
      · rcases List.mem_or_eq_of_mem_set hb with h | h
        · exact e2.after b h
        · rw [h]; exact hx
      · simp only [List.length_set]
        exact h3'
      · simp only [List.length_set]
        exact e4
    · rw [List.getElem?_set_ne (fun x => e x.symm)] at hs'
      refine ((h5 i r' s' hr' hs').1 hi).keep fun b hb1 hb2 => Below.heap_setCell _ _ _ _ ?_
      show b ≠ g
      rcases Nat.lt_or_gt_of_ne e with h | h
      · have := hmono (i + 1) j (by omega) (by omega)
        omega
      · have := hmono (j + 1) i (by omega) (by omega)
        omega
  · rw [hn] at hi
    have := (List.getElem?_eq_some_iff.1 hs').1
    rw [List.length_set] at this
    exact absurd this hi
theorem rowsI.low {w wr : World} {N1 n : Nat} {rows : List (List Value)} {l : List StepD} (h : rowsI w wr N1 n rows l) : N1 ≤ wr.heap.size := by
  obtain ⟨h1, bnd, h2, h3, h4, h5⟩ := h
  exact Nat.le_trans h2 (Nat.le_trans (bnd_mono h3 n 0 (Nat.zero_le _) (Nat.le_refl _)) h4)
theorem rowsI.shape {w wr : World} {N1 n j : Nat} {rows : List (List Value)} {l : List StepD} {s : StepD} (h : rowsI w wr N1 n rows l) (hn : n = l.length) (hs : l[j]? = some s) : ∃ r aa ac ka kc ba bc, rows[j]? = some r ∧ r = [.string s.name, .string s.action, .string s.undo, .slice aa s.after.length ac, .int .i64 s.most, .int .i64 s.first, .int .i64 s.factor, .int .i64 s.limit, .int .u8 (s.note.kind : Int), .string s.note.text, .slice ka s.note.keys.length kc, .slice ba s.note.kids.length bc, .int .i64 s.note.line] := by
  obtain ⟨h1, bnd, h2, h3, h4, h5⟩ := h
  have hsi : j < l.length := (List.getElem?_eq_some_iff.1 hs).1
  have hr : rows[j]? = some (rows[j]'(by omega)) := List.getElem?_eq_getElem (by omega)
  obtain ⟨aa, ac, ka, kc, ba, bc, mid, e1, _⟩ := (h5 j _ s hr hs).1 (by omega)
  exact ⟨_, aa, ac, ka, kc, ba, bc, hr, e1⟩
/-- Rows that are all the call's own read as steps. -/
theorem rowsI.stepsR {w wr : World} {N1 n base : Nat} {rows : List (List Value)} {l : List StepD} {va : Option Addr} {vc : Nat} (h : rowsI w wr N1 n rows l) (hn : n = l.length) (ho : wr.ownsRow base 45 13 (.slice va n vc) n rows.flatten) : StepsR wr (.slice va n vc) l := by
  refine ⟨rows, h.1, by subst hn; exact RdS.of_owns ho, fun i r s hr hs => ?_⟩
  obtain ⟨h1, bnd, h2, h3, h4, h5⟩ := h
  exact ((h5 i r s hr hs).1 (by have := (List.getElem?_eq_some_iff.1 hs).1; omega)).toX
end Go.Proofs.Ytkgcpbhlbfjcoaa

/-
  The law WholeRenamed: walk.
-/
namespace Go.Proofs.Ytkgcpbhlbfjcoaa
open Go Go.RowKit Go.WideShapes

theorem defR_ren {W : World} {d : DefD} {p : ByteArray} {va : Option Addr} {vc : Nat} (hn : d.name.size ≤ maxLen) (ht : d.text.size ≤ maxLen) (h : StepsR W (.slice va d.steps.length vc) (d.steps.map (renS p))) : DefR W [.string d.name, .string d.text, .slice va d.steps.length vc] ⟨d.name, d.text, d.steps.map (renS p)⟩ va vc := by
  refine ⟨?_, hn, ht, ?_⟩
  · show _ = [Value.string d.name, .string d.text, .slice va (d.steps.map (renS p)).length vc]
    rw [List.length_map]
  · show StepsR W (.slice va (d.steps.map (renS p)).length vc) _
    rw [List.length_map]
    exact h
theorem c_refsE {W : World} {nm tx p : ByteArray} {l : List StepD} {cs : List Value} {va : Option Addr} {vc : Nat} (h : DefR W cs ⟨nm, tx, l.map (renS p)⟩ va vc) (hl : l.length ≤ 1000000) (hf : (refsF l 0 l).length ≤ 1000000) :
    Calls Try.prog 16 #[.agg cs.toArray] W fun e w' => ∃ v, e = .returned v ∧ Rows2 w' v (depsA l 0 l) ∧ Below W.heap.size W w' := by
  have := nRefs_any ⟨nm, tx, l.map (renS p)⟩ cs va vc W h (by show (l.map (renS p)).length ≤ _; rw [List.length_map]; exact hl) (by show (refsF (l.map (renS p)) 0 (l.map (renS p))).length ≤ _; rw [refsF_ren, List.length_map]; exact hf)
  have e : depsA (l.map (renS p)) 0 (l.map (renS p)) = depsA l 0 l := depsA_ren p l l 0
  dsimp only at this
  rw [e] at this
  exact this
theorem c_missE {W : World} {nm tx p : ByteArray} {l : List StepD} {cs : List Value} {va : Option Addr} {vc : Nat} (h : DefR W cs ⟨nm, tx, l.map (renS p)⟩ va vc) (hl : l.length ≤ 1000000) (hf : (refsF l 0 l).length ≤ 1000000) :
    Calls Try.prog 21 #[.agg cs.toArray] W fun e w' => ∃ va vc, e = .returned (.slice va (missL (refsF l 0 l)).length vc) ∧ Below W.heap.size W w' := by
  have := nMissing_any ⟨nm, tx, l.map (renS p)⟩ cs va vc W h (by show (l.map (renS p)).length ≤ _; rw [List.length_map]; exact hl) (by show (refsF (l.map (renS p)) 0 (l.map (renS p))).length ≤ _; rw [refsF_ren, List.length_map]; exact hf)
  have e : refsF (l.map (renS p)) 0 (l.map (renS p)) = (refsF l 0 l).map (renR p) := refsF_ren p l l 0
  dsimp only at this
  rw [e, missL_ren, List.length_map] at this
  refine this.mono ?_
  rintro e w' ⟨v, rfl, hr, hb⟩
  obtain ⟨a, c, rfl⟩ := hr.form
  exact ⟨a, c, rfl, hb⟩
theorem c_sameN (l : List Nat) (v u : Value) (w : World) (hv : RdS w v 1 l.length (natI l)) (hu : RdS w u 1 l.length (natI l)) :
    Calls Try.prog 18 #[v, u] w fun e w' => e = .returned (.bool true) ∧ Below w.heap.size w w' :=
  gSame_true v u (l.map Int.ofNat) w (by rw [← natI_ints, List.length_map]; exact hv) (by rw [← natI_ints, List.length_map]; exact hu)
theorem ren_small {d : DefD} {p : ByteArray} (hs : SmallD d) (hp : p.size ≤ 100) {k : Nat} {s : StepD} (h : d.steps[k]? = some s) : (p ++ s.name).size ≤ maxLen ∧ s.after.length ≤ 70 ∧ ∀ (m : Nat) (a : ByteArray), s.after[m]? = some a → (p ++ a).size ≤ maxLen := by
  obtain ⟨hk, rfl⟩ := List.getElem?_eq_some_iff.1 h
  have h1 := hs.each _ (List.getElem_mem hk)
  have hm : maxLen = 9223372036854775807 := rfl
  refine ⟨by rw [ByteArray.size_append]; have := h1.name; omega, h1.after, fun m a ha => ?_⟩
  obtain ⟨hq, rfl⟩ := List.getElem?_eq_some_iff.1 ha
  rw [ByteArray.size_append]
  have := h1.aft _ (List.getElem_mem hq)
  omega

set_option maxRecDepth 100000 in
set_option maxHeartbeats 8000000 in
theorem WholeRenamed_any (d : DefD) (sa : Option Addr) (sc : Nat) (ah : ByteArray) (w : World) (h : DefR w [.string d.name, .string d.text, .slice sa d.steps.length sc] d sa sc) (_hah : ah.size ≤ maxLen) :
    Calls Try.prog 4 #[.agg #[.string d.name, .string d.text, .slice sa d.steps.length sc], .string ah] w fun e w' => e = .returned (.bool true) ∧ Below w.heap.size w w' := by
  have hb0 := (Below.refl w.heap.size w).alloc (Nat.le_refl _) (.cells #[.string d.name, .string d.text, .slice sa d.steps.length sc] 24)
  have HD := Lib.hid (h.below hb0)
  have HG := Lib.hid (World.alloc_heap_new w (.cells #[.string d.name, .string d.text, .slice sa d.steps.length sc] 24))
  clear h
  go_enter Try.func4, Try.ntmps4
  go_upto_region 1 with fail
  generalize w.alloc (.cells #[.string d.name, .string d.text, .slice sa d.steps.length sc] 24) = w0 at *
  have HB0 := Lib.hid hb0
  have hlt := (Array.getElem?_eq_some_iff.1 HG.out).1
  clear hb0
  go_wp2_with fail
  refine (awakeNames_any _).mono ?_
  rintro e w1 ⟨rfl, hb1⟩
  have HB1 := Lib.hid (bthen HB0.out (Nat.le_refl _) hb1)
  have HD1 := Lib.hid (HD.out.below hb1)
  have HG1 := Lib.hid ((hb1.block _ hlt).trans HG.out)
  obtain ⟨q0, q1, q2, -, -, -⟩ := cells3h HG1.out
  clear hb1
  go_wp2_with fail
  refine (rdSmall_any d _ _ _ w1 HD1.out).mono ?_
  rintro e w2 ⟨rfl, hb2⟩
  clear q0 q1 q2
  have HB2 := Lib.hid (bthen HB1.out (Nat.le_refl _) hb2)
  have HD2 := Lib.hid (HD1.out.below hb2)
  have hlt1 := (Array.getElem?_eq_some_iff.1 HG1.out).1
  have HG2 := Lib.hid ((hb2.block _ hlt1).trans HG1.out)
  obtain ⟨q0, q1, q2, -, -, -⟩ := cells3h HG2.out
  clear hb2
  rcases hsm : smallDef d with _ | _
  · clear hsm
    go_wp2
    go_ret
    exact ⟨rfl, HB2.out⟩
  have HSM := Lib.hid (smallDef_of hsm)
  clear hsm
  by_cases hah : 100 < ah.size
  · have d1 : decide ((100 : Int) < (ah.size : Int)) = true := decide_eq_true (by omega)
    go_wp2_with fail
    go_ret
    exact ⟨rfl, HB2.out⟩
  have d1 : decide ((100 : Int) < (ah.size : Int)) = false := decide_eq_false (by omega)
  have HREN : Hid (∀ (k : Nat) (s : StepD), d.steps[k]? = some s → (ah ++ s.name).size ≤ maxLen ∧ s.after.length ≤ 70 ∧ ∀ (m : Nat) (a : ByteArray), s.after[m]? = some a → (ah ++ a).size ≤ maxLen) := Lib.hid fun k s hk => ren_small HSM.out (by omega) hk
  have hst : d.steps.length ≤ 30 := HSM.out.steps
  have hdn := HSM.out.name
  have hrf : (refsF d.steps 0 d.steps).length ≤ 10000 := refs_few HSM.out
  have HDN : Hid (d.name.size ≤ maxLen ∧ d.text.size ≤ maxLen) := Lib.hid ⟨HD2.out.name, HD2.out.text⟩
  go_wp2_with fail
  refine (dCopyI_any d _ _ _ w2 HD2.out HSM.out).mono ?_
  rintro e wc ⟨va, vc, rows, rfl, hrl, hown, ⟨N1, hN1, hG1, hro⟩, hbc⟩
  have HBC := Lib.hid (bthen HB2.out (Nat.le_refl _) hbc)
  have HDC := Lib.hid (HD2.out.below hbc)
  have hlt2 := (Array.getElem?_eq_some_iff.1 HG2.out).1
  have HGC := Lib.hid ((hbc.block _ hlt2).trans HG2.out)
  have HB2C := Lib.hid hbc
  have hle2 := hbc.size
  clear q0 q1 q2 d1
  go_upto_region 6 with fail
  have hN1c := hro.low
  have hs3 := World.alloc_heap_new wc (.cells #[.string d.name, .string d.text, .slice va d.steps.length vc] 24)
  have hbz : Below wc.heap.size wc (wc.alloc (.cells #[.string d.name, .string d.text, .slice va d.steps.length vc] 24)) := (Below.refl _ _).alloc (Nat.le_refl _) _
  generalize wc.alloc (.cells #[.string d.name, .string d.text, .slice va d.steps.length vc] 24) = wz at *
  generalize hEB : wc.heap.size = eB at *
  have hownz : wz.ownsRow w2.heap.size 45 13 (.slice va d.steps.length vc) d.steps.length rows.flatten := ownsRow_keepB hown (fun g hg => hbz.block g (by have := hG1 g hg; omega))
  have hroz : rowsI w2 wz N1 d.steps.length rows d.steps := hro.keep (fun b _ hb => hbz.block b (by omega)) (by have := hbz.size; omega)
  have HOZ := Lib.hid hownz
  have HRZ := Lib.hid hroz
  have HEZ := Lib.hid hs3
  have HBZ : Hid (Below w2.heap.size w2 wz) := Lib.hid (HB2C.out.trans (hbz.mono (by omega)))
  have HG1 := Lib.hid hG1
  have hvl : d.steps.length ≤ vc ∧ vc ≤ 9223372036854775807 := by
    obtain ⟨_, _, _, he, h3, h4, _⟩ := RdS.of_owns hownz
    injection he with _ _ e3; subst e3; unfold maxLen at h4; exact ⟨h3, h4⟩
  clear hown hownz hro hroz hs3 hG1 hbz
  clear HB2C HBC
  go_wp2_with fail
  go_loopg [6] (d.steps.length + 1) (fun gk i wi => ∃ (k : Nat) (rows : List (List Value)), k + gk = d.steps.length + 1 ∧ k ≤ d.steps.length ∧ i = .int .i64 k ∧ Hid (rowsI w2 wi N1 d.steps.length rows (renL ah k d.steps)) ∧ Hid (wi.ownsRow w2.heap.size 45 13 (.slice va d.steps.length vc) d.steps.length rows.flatten) ∧ Hid (wi.heap[eB]? = some (.cells #[.string d.name, .string d.text, .slice va d.steps.length vc] 24 (0, 0))) ∧ Hid (Below w2.heap.size w2 wi))
  case atStart => exact ⟨0, rows, by omega, by omega, rfl, HRZ, HOZ, HEZ, HBZ⟩
  case round =>
    obtain ⟨k, rows, hgk, hk, rfl, HRI, HOI, HEI, HBI⟩ := hrel
    rename World => wi
    have hg : gk = d.steps.length + 1 - k := by omega
    subst hg
    obtain ⟨q0, q1, q2, -, -, -⟩ := cells3h HEI.out
    by_cases hkl : k < d.steps.length
    · have d1 : decide ((k : Int) < (d.steps.length : Int)) = true := decide_eq_true (by omega)
      have hk1 : (k : Int) < (d.steps.length : Int) := by omega
      have hk0 : (0 : Int) ≤ (k : Int) := by omega
      obtain ⟨s, hs⟩ : ∃ s, d.steps[k]? = some s := ⟨_, List.getElem?_eq_getElem hkl⟩
      obtain ⟨hsz1, hsz2, hsz3⟩ := HREN.out k s hs
      have hcat : ¬ 9223372036854775807 < ah.size + s.name.size := by rw [ByteArray.size_append] at hsz1; unfold maxLen at hsz1; omega
      have hrs : (renL ah k d.steps)[k]? = some s := (renL_at ah k d.steps).trans hs
      have hln : d.steps.length = (renL ah k d.steps).length := (renL_len ah k d.steps).symm
      obtain ⟨r, aa, ac, ka, kc, ba, bc, hr, hre⟩ := HRI.out.shape hln hrs
      have hkr : k < rows.length := (List.getElem?_eq_some_iff.1 hr).1
      have hrk : rows[k] = r := (List.getElem?_eq_some_iff.1 hr).2
      have HLEN : Hid (∀ x ∈ rows, x.length = 13) := Lib.hid HRI.out.len
      obtain ⟨G, cap, hva, hGl, hGs⟩ := HOI.out.form (by omega)
      cases hva
      have hGN := HG1.out G rfl
      have z0 : wi.cell? ⟨G, k * 13, none⟩ = some (.string s.name) := by
        have := HOI.out.cellAt (k * 13) (by omega)
        have h2 := (flatten_get HLEN.out).2 k r hr 0 (by omega)
        rw [Nat.add_zero] at h2
        rw [this, h2, hre]
        rfl
      have f0 : wi.frozen? ⟨G, k * 13, none⟩ = false := HOI.out.frozenAt _
      have HR1 := Lib.hid (HRI.out.name hln hrs hr (ah ++ s.name) hsz1 (w' := (wi.setCell ⟨G, k * 13, none⟩ (.string (ah ++ s.name))).drew) (fun b hb _ => Below.heap_setCell _ _ _ _ (by show b ≠ G; omega)) (by simp))
      have HO1 : Hid (((wi.setCell ⟨G, k * 13, none⟩ (.string (ah ++ s.name))).drew).ownsRow w2.heap.size 45 13 (.slice (some ⟨G, 0, none⟩) d.steps.length vc) d.steps.length (rows.set k (r.set 0 (.string (ah ++ s.name)))).flatten) := Lib.hid (by
        have h1 := owns_set1 HOI.out (q := k * 13 + 0) (by omega) (.string (ah ++ s.name))
        rw [flatten_set1 HLEN.out hkr (by omega), hrk] at h1
        exact h1)
      have HE1 : Hid (((wi.setCell ⟨G, k * 13, none⟩ (.string (ah ++ s.name))).drew).heap[eB]? = some (.cells #[.string d.name, .string d.text, .slice (some ⟨G, 0, none⟩) d.steps.length vc] 24 (0, 0))) := Lib.hid ((Below.heap_setCell _ _ _ _ (by show eB ≠ G; omega)).trans HEI.out)
      have HB1' : Hid (Below w2.heap.size w2 ((wi.setCell ⟨G, k * 13, none⟩ (.string (ah ++ s.name))).drew)) := Lib.hid (HBI.out.setCell (p := ⟨G, k * 13, none⟩) hGl _).drew
      have HSK : Hid (d.steps[k]? = some s) := Lib.hid hs
      clear hs hrs hln hr hre hrk
      go_upto_region 9 with fail
      refine E_region (S := (fun W => W.cell? ⟨eB, 2, none⟩ = some (.slice (some ⟨G, 0, none⟩) d.steps.length vc) ∧ W.cell? ⟨G, k * 13, none⟩ = some (.string s.name))) 13 (by kernel_rfl) ⟨q2, z0⟩ (fun _ _ _ _ _ h => h) (fun Q' hQ hK' hHeld => ?_)
      refine E_take0 hQ (fun _ => hHeld) 0 (v := ?av1) rfl rfl (by kernel_rfl) (by kernel_rfl) (by kernel_rfl) (by decide) (by rfl) ?ay1 ?ar1
      case ay1 => (intro w; go_simp; (try with_reducible rfl))
      (try simp only [Act.put, List.setIfInBounds_toArray, List.set_cons_zero, List.set_cons_succ])
      refine E_take hQ hHeld 1 (v := ?av2) rfl rfl (by kernel_rfl) (by kernel_rfl) (by kernel_rfl) (by kernel_rfl) (by kernel_rfl) (by rfl) ?ay2 ?ar2
      case ay2 => (intro w hSw; (try dsimp only at hSw); go_simp; (try with_reducible rfl))
      (try simp only [Act.put, List.setIfInBounds_toArray, List.set_cons_zero, List.set_cons_succ])
      refine E_take0 hQ (fun _ => hHeld) 2 (v := ?av3) rfl rfl (by kernel_rfl) (by kernel_rfl) (by kernel_rfl) (by decide) (by rfl) ?ay3 ?ar3
      case ay3 => (intro w; go_simp; (try with_reducible rfl))
      (try simp only [Act.put, List.setIfInBounds_toArray, List.set_cons_zero, List.set_cons_succ])
      refine E_take0 hQ (fun _ => hHeld) 3 (v := ?av4) rfl rfl (by kernel_rfl) (by kernel_rfl) (by kernel_rfl) (by decide) (by rfl) ?ay4 ?ar4
      case ay4 => (intro w; go_simp; (try with_reducible rfl))
      (try simp only [Act.put, List.setIfInBounds_toArray, List.set_cons_zero, List.set_cons_succ])
      refine E_take0 hQ (fun _ => hHeld) 4 (v := ?av5) rfl rfl (by kernel_rfl) (by kernel_rfl) (by kernel_rfl) (by decide) (by rfl) ?ay5 ?ar5
      case ay5 => (intro w; go_simp; (try with_reducible rfl))
      (try simp only [Act.put, List.setIfInBounds_toArray, List.set_cons_zero, List.set_cons_succ])
      refine E_take hQ hHeld 5 (v := ?av6) rfl rfl (by kernel_rfl) (by kernel_rfl) (by kernel_rfl) (by kernel_rfl) (by kernel_rfl) (by rfl) ?ay6 ?ar6
      case ay6 => (intro w hSw; (try dsimp only at hSw); go_simp; (try with_reducible rfl))
      (try simp only [Act.put, List.setIfInBounds_toArray, List.set_cons_zero, List.set_cons_succ])
      refine E_take0 hQ (fun _ => hHeld) 6 (v := ?av7) rfl rfl (by kernel_rfl) (by kernel_rfl) (by kernel_rfl) (by decide) (by rfl) ?ay7 ?ar7
      case ay7 => (intro w; go_simp; (try with_reducible rfl))
      (try simp only [Act.put, List.setIfInBounds_toArray, List.set_cons_zero, List.set_cons_succ])
      refine E_take0 hQ (fun _ => hHeld) 7 (v := ?av8) rfl rfl (by kernel_rfl) (by kernel_rfl) (by kernel_rfl) (by decide) (by rfl) ?ay8 ?ar8
      case ay8 => (intro w; go_simp; (try with_reducible rfl))
      (try simp only [Act.put, List.setIfInBounds_toArray, List.set_cons_zero, List.set_cons_succ])
      refine E_take0 hQ (fun _ => hHeld) 8 (v := ?av9) rfl rfl (by kernel_rfl) (by kernel_rfl) (by kernel_rfl) (by decide) (by rfl) ?ay9 ?ar9
      case ay9 => (intro w; go_simp; (try with_reducible rfl))
      (try simp only [Act.put, List.setIfInBounds_toArray, List.set_cons_zero, List.set_cons_succ])
      refine E_take hQ hHeld 9 (v := ?av10) rfl rfl (by kernel_rfl) (by kernel_rfl) (by kernel_rfl) (by kernel_rfl) (by kernel_rfl) (by rfl) ?ay10 ?ar10
      case ay10 => (intro w hSw; (try dsimp only at hSw); go_simp; (try with_reducible rfl))
      (try simp only [Act.put, List.setIfInBounds_toArray, List.set_cons_zero, List.set_cons_succ])
      refine E_take0 hQ (fun _ => hHeld) 10 (v := ?av11) rfl rfl (by kernel_rfl) (by kernel_rfl) (by kernel_rfl) (by decide) (by rfl) ?ay11 ?ar11
      case ay11 => (intro w; go_simp; (try with_reducible rfl))
      (try simp only [Act.put, List.setIfInBounds_toArray, List.set_cons_zero, List.set_cons_succ])
      refine E_take0 hQ (fun _ => hHeld) 11 (v := ?av12) rfl rfl (by kernel_rfl) (by kernel_rfl) (by kernel_rfl) (by decide) (by rfl) ?ay12 ?ar12
      case ay12 => (intro w; go_simp; (try with_reducible rfl))
      (try simp only [Act.put, List.setIfInBounds_toArray, List.set_cons_zero, List.set_cons_succ])
      refine E_take0 hQ (fun _ => hHeld) 12 (v := ?av13) rfl rfl (by kernel_rfl) (by kernel_rfl) (by kernel_rfl) (by decide) (by rfl) ?ay13 ?ar13
      case ay13 => (intro w; go_simp; (try with_reducible rfl))
      (try simp only [Act.put, List.setIfInBounds_toArray, List.set_cons_zero, List.set_cons_succ])
      refine E_one 13 (by kernel_rfl) rfl (by rfl) (fun K hK => ?_)
      go_simp
      (try simp only [Act.put, List.setIfInBounds_toArray, List.set_cons_zero, List.set_cons_succ])
      refine hK.out _ _ (fun _ h => absurd rfl h) (fun _ => ?_)
      clear hK hHeld
      (try simp only [Act.put, List.setIfInBounds_toArray, List.set_cons_zero, List.set_cons_succ])
      refine E_done (by kernel_rfl) ?_ _
      refine hK'.out _ _ ?_
      clear z0 f0 q0 q1 q2 hK' hQ
      generalize (wi.setCell ⟨G, k * 13, none⟩ (.string (ah ++ s.name))).drew = w9 at *
      generalize rows.set k (r.set 0 (.string (ah ++ s.name))) = rows1 at *
      go_wp2_with fail
      go_loopg [7] (s.after.length + 1) (fun gm i wj => ∃ (m : Nat) (rows : List (List Value)), m + gm = s.after.length + 1 ∧ m ≤ s.after.length ∧ i = .int .i64 m ∧ Hid (rowsI w2 wj N1 d.steps.length rows ((renL ah k d.steps).set k (renP ah m s))) ∧ Hid (wj.ownsRow w2.heap.size 45 13 (.slice (some ⟨G, 0, none⟩) d.steps.length vc) d.steps.length rows.flatten) ∧ Hid (wj.heap[eB]? = some (.cells #[.string d.name, .string d.text, .slice (some ⟨G, 0, none⟩) d.steps.length vc] 24 (0, 0))) ∧ Hid (Below w2.heap.size w2 wj))
      case atStart => exact ⟨0, rows1, by omega, by omega, rfl, HR1, HO1, HE1, HB1'⟩
      case round =>
        obtain ⟨m, rows2, hgm, hm, rfl, HRJ, HOJ, HEJ, HBJ⟩ := hrel
        rename World => wj
        have hg : gk = s.after.length + 1 - m := by omega
        subst hg
        obtain ⟨q0, q1, q2, -, -, -⟩ := cells3h HEJ.out
        have hrl0 : k < (renL ah k d.steps).length := by rw [renL_len]; exact hkl
        have hrs : ((renL ah k d.steps).set k (renP ah m s))[k]? = some (renP ah m s) := List.getElem?_set_self hrl0
        have hln : d.steps.length = ((renL ah k d.steps).set k (renP ah m s)).length := by rw [List.length_set, renL_len]
        obtain ⟨r2, aa2, ac2, ka2, kc2, ba2, bc2, hr2, hre2⟩ := HRJ.out.shape hln hrs
        rw [renP_len] at hre2
        have HLEN2 : Hid (∀ x ∈ rows2, x.length = 13) := Lib.hid HRJ.out.len
        have z3 : wj.cell? ⟨G, k * 13 + 3, none⟩ = some (.slice aa2 s.after.length ac2) := by
          have := HOJ.out.cellAt (k * 13 + 3) (by omega)
          rw [this, (flatten_get HLEN2.out).2 k r2 hr2 3 (by omega), hre2]
          rfl
        by_cases hml : m < s.after.length
        · have d2 : decide ((m : Int) < (s.after.length : Int)) = true := decide_eq_true (by omega)
          have hm1 : (m : Int) < (s.after.length : Int) := by omega
          have hm0 : (0 : Int) ≤ (m : Int) := by omega
          obtain ⟨a, ha⟩ : ∃ a, s.after[m]? = some a := ⟨_, List.getElem?_eq_getElem hml⟩
          have hasz := hsz3 m a ha
          have hcat2 : ¬ 9223372036854775807 < ah.size + a.size := by rw [ByteArray.size_append] at hasz; unfold maxLen at hasz; omega
          obtain ⟨g, ac, hr3, hg1, hg2, ⟨cur, hcur⟩, hc1, hc2, y0, yf, hrw⟩ := HRJ.out.after hln hrs hr2 ((renP_at ah m s).trans ha)
          rw [hre2] at hr3
          simp only [List.getElem?_cons_succ, List.getElem?_cons_zero, Option.some.injEq, Value.slice.injEq] at hr3
          obtain ⟨rfl, -, rfl⟩ := hr3
          rw [renP_len] at hc1
          have hgE : eB ≠ g := by
            rintro rfl
            have := HEJ.out
            rw [hcur] at this
            injection this with this
            injection this with _ t2 _
            revert t2
            decide
          have HR2 : Hid (rowsI w2 ((wj.setCell ⟨g, m, none⟩ (.string (ah ++ a))).drew) N1 d.steps.length rows2 ((renL ah k d.steps).set k (renP ah (m + 1) s))) := Lib.hid (by
            have h1 := hrw (ah ++ a) hasz
            rw [List.set_set, renP_succ ah m s a ha] at h1
            exact h1.keep (fun b _ _ => rfl) (Nat.le_refl _))
          have HO2 : Hid (((wj.setCell ⟨g, m, none⟩ (.string (ah ++ a))).drew).ownsRow w2.heap.size 45 13 (.slice (some ⟨G, 0, none⟩) d.steps.length vc) d.steps.length rows2.flatten) := Lib.hid (ownsRow_keepB HOJ.out (fun g' hg' => Below.heap_setCell _ _ _ _ (by have := HG1.out g' hg'; show g' ≠ g; omega)))
          have HE2 : Hid (((wj.setCell ⟨g, m, none⟩ (.string (ah ++ a))).drew).heap[eB]? = some (.cells #[.string d.name, .string d.text, .slice (some ⟨G, 0, none⟩) d.steps.length vc] 24 (0, 0))) := Lib.hid ((Below.heap_setCell _ _ _ _ hgE).trans HEJ.out)
          have HB2' : Hid (Below w2.heap.size w2 ((wj.setCell ⟨g, m, none⟩ (.string (ah ++ a))).drew)) := Lib.hid (HBJ.out.setCell (p := ⟨g, m, none⟩) (by show w2.heap.size ≤ g; omega) _).drew
          clear hr2 hre2 hrs hln hrw hcur ha
          go_upto_region 13 with fail
          refine E_region (S := (fun W => W.cell? ⟨eB, 2, none⟩ = some (.slice (some ⟨G, 0, none⟩) d.steps.length vc) ∧ W.cell? ⟨G, k * 13 + 3, none⟩ = some (.slice (some ⟨g, 0, none⟩) s.after.length ac2) ∧ W.cell? ⟨g, m, none⟩ = some (.string a))) 19 (by kernel_rfl) ⟨q2, z3, y0⟩ (fun _ _ _ _ _ h => h) (fun Q' hQ hK' hHeld => ?_)
          refine E_take0 hQ (fun _ => hHeld) 0 (v := ?bv1) rfl rfl (by kernel_rfl) (by kernel_rfl) (by kernel_rfl) (by decide) (by rfl) ?by1 ?br1
          case by1 => (intro w; go_simp; (try with_reducible rfl))
          (try simp only [Act.put, List.setIfInBounds_toArray, List.set_cons_zero, List.set_cons_succ])
          refine E_take hQ hHeld 1 (v := ?bv2) rfl rfl (by kernel_rfl) (by kernel_rfl) (by kernel_rfl) (by kernel_rfl) (by kernel_rfl) (by rfl) ?by2 ?br2
          case by2 => (intro w hSw; (try dsimp only at hSw); go_simp; (try with_reducible rfl))
          (try simp only [Act.put, List.setIfInBounds_toArray, List.set_cons_zero, List.set_cons_succ])
          refine E_take0 hQ (fun _ => hHeld) 2 (v := ?bv3) rfl rfl (by kernel_rfl) (by kernel_rfl) (by kernel_rfl) (by decide) (by rfl) ?by3 ?br3
          case by3 => (intro w; go_simp; (try with_reducible rfl))
          (try simp only [Act.put, List.setIfInBounds_toArray, List.set_cons_zero, List.set_cons_succ])
          refine E_take0 hQ (fun _ => hHeld) 3 (v := ?bv4) rfl rfl (by kernel_rfl) (by kernel_rfl) (by kernel_rfl) (by decide) (by rfl) ?by4 ?br4
          case by4 => (intro w; go_simp; (try with_reducible rfl))
          (try simp only [Act.put, List.setIfInBounds_toArray, List.set_cons_zero, List.set_cons_succ])
          refine E_take0 hQ (fun _ => hHeld) 4 (v := ?bv5) rfl rfl (by kernel_rfl) (by kernel_rfl) (by kernel_rfl) (by decide) (by rfl) ?by5 ?br5
          case by5 => (intro w; go_simp; (try with_reducible rfl))
          (try simp only [Act.put, List.setIfInBounds_toArray, List.set_cons_zero, List.set_cons_succ])
          refine E_take hQ hHeld 5 (v := ?bv6) rfl rfl (by kernel_rfl) (by kernel_rfl) (by kernel_rfl) (by kernel_rfl) (by kernel_rfl) (by rfl) ?by6 ?br6
          case by6 => (intro w hSw; (try dsimp only at hSw); go_simp; (try with_reducible rfl))
          (try simp only [Act.put, List.setIfInBounds_toArray, List.set_cons_zero, List.set_cons_succ])
          refine E_take0 hQ (fun _ => hHeld) 6 (v := ?bv7) rfl rfl (by kernel_rfl) (by kernel_rfl) (by kernel_rfl) (by decide) (by rfl) ?by7 ?br7
          case by7 => (intro w; go_simp; (try with_reducible rfl))
          (try simp only [Act.put, List.setIfInBounds_toArray, List.set_cons_zero, List.set_cons_succ])
          refine E_take0 hQ (fun _ => hHeld) 7 (v := ?bv8) rfl rfl (by kernel_rfl) (by kernel_rfl) (by kernel_rfl) (by decide) (by rfl) ?by8 ?br8
          case by8 => (intro w; go_simp; (try with_reducible rfl))
          (try simp only [Act.put, List.setIfInBounds_toArray, List.set_cons_zero, List.set_cons_succ])
          refine E_take0 hQ (fun _ => hHeld) 8 (v := ?bv9) rfl rfl (by kernel_rfl) (by kernel_rfl) (by kernel_rfl) (by decide) (by rfl) ?by9 ?br9
          case by9 => (intro w; go_simp; (try with_reducible rfl))
          (try simp only [Act.put, List.setIfInBounds_toArray, List.set_cons_zero, List.set_cons_succ])
          refine E_take hQ hHeld 9 (v := ?bv10) rfl rfl (by kernel_rfl) (by kernel_rfl) (by kernel_rfl) (by kernel_rfl) (by kernel_rfl) (by rfl) ?by10 ?br10
          case by10 => (intro w hSw; (try dsimp only at hSw); go_simp; (try with_reducible rfl))
          (try simp only [Act.put, List.setIfInBounds_toArray, List.set_cons_zero, List.set_cons_succ])
          refine E_take0 hQ (fun _ => hHeld) 10 (v := ?bv11) rfl rfl (by kernel_rfl) (by kernel_rfl) (by kernel_rfl) (by decide) (by rfl) ?by11 ?br11
          case by11 => (intro w; go_simp; (try with_reducible rfl))
          (try simp only [Act.put, List.setIfInBounds_toArray, List.set_cons_zero, List.set_cons_succ])
          refine E_take0 hQ (fun _ => hHeld) 11 (v := ?bv12) rfl rfl (by kernel_rfl) (by kernel_rfl) (by kernel_rfl) (by decide) (by rfl) ?by12 ?br12
          case by12 => (intro w; go_simp; (try with_reducible rfl))
          (try simp only [Act.put, List.setIfInBounds_toArray, List.set_cons_zero, List.set_cons_succ])
          refine E_take0 hQ (fun _ => hHeld) 12 (v := ?bv13) rfl rfl (by kernel_rfl) (by kernel_rfl) (by kernel_rfl) (by decide) (by rfl) ?by13 ?br13
          case by13 => (intro w; go_simp; (try with_reducible rfl))
          (try simp only [Act.put, List.setIfInBounds_toArray, List.set_cons_zero, List.set_cons_succ])
          refine E_take hQ hHeld 13 (v := ?bv14) rfl rfl (by kernel_rfl) (by kernel_rfl) (by kernel_rfl) (by kernel_rfl) (by kernel_rfl) (by rfl) ?by14 ?br14
          case by14 => (intro w hSw; (try dsimp only at hSw); go_simp; (try with_reducible rfl))
          (try simp only [Act.put, List.setIfInBounds_toArray, List.set_cons_zero, List.set_cons_succ])
          refine E_take0 hQ (fun _ => hHeld) 14 (v := ?bv15) rfl rfl (by kernel_rfl) (by kernel_rfl) (by kernel_rfl) (by decide) (by rfl) ?by15 ?br15
          case by15 => (intro w; go_simp; (try with_reducible rfl))
          (try simp only [Act.put, List.setIfInBounds_toArray, List.set_cons_zero, List.set_cons_succ])
          refine E_take0 hQ (fun _ => hHeld) 15 (v := ?bv16) rfl rfl (by kernel_rfl) (by kernel_rfl) (by kernel_rfl) (by decide) (by rfl) ?by16 ?br16
          case by16 => (intro w; go_simp; (try with_reducible rfl))
          (try simp only [Act.put, List.setIfInBounds_toArray, List.set_cons_zero, List.set_cons_succ])
          refine E_take hQ hHeld 16 (v := ?bv17) rfl rfl (by kernel_rfl) (by kernel_rfl) (by kernel_rfl) (by kernel_rfl) (by kernel_rfl) (by rfl) ?by17 ?br17
          case by17 => (intro w hSw; (try dsimp only at hSw); go_simp; (try with_reducible rfl))
          (try simp only [Act.put, List.setIfInBounds_toArray, List.set_cons_zero, List.set_cons_succ])
          refine E_take0 hQ (fun _ => hHeld) 17 (v := ?bv18) rfl rfl (by kernel_rfl) (by kernel_rfl) (by kernel_rfl) (by decide) (by rfl) ?by18 ?br18
          case by18 => (intro w; go_simp; (try with_reducible rfl))
          (try simp only [Act.put, List.setIfInBounds_toArray, List.set_cons_zero, List.set_cons_succ])
          refine E_take0 hQ (fun _ => hHeld) 18 (v := ?bv19) rfl rfl (by kernel_rfl) (by kernel_rfl) (by kernel_rfl) (by decide) (by rfl) ?by19 ?br19
          case by19 => (intro w; go_simp; (try with_reducible rfl))
          (try simp only [Act.put, List.setIfInBounds_toArray, List.set_cons_zero, List.set_cons_succ])
          refine E_one 19 (by kernel_rfl) rfl (by rfl) (fun K hK => ?_)
          go_simp
          (try simp only [Act.put, List.setIfInBounds_toArray, List.set_cons_zero, List.set_cons_succ])
          refine hK.out _ _ (fun _ h => absurd rfl h) (fun _ => ?_)
          clear hK hHeld
          (try simp only [Act.put, List.setIfInBounds_toArray, List.set_cons_zero, List.set_cons_succ])
          refine E_done (by kernel_rfl) ?_ _
          refine hK'.out _ _ ?_
          clear z3 y0 yf q0 q1 q2 hK' hQ
          generalize (wj.setCell ⟨g, m, none⟩ (.string (ah ++ a))).drew = w13 at *
          go_wp2_with fail
          go_roundg (s.after.length + 1 - (m + 1))
          case measure => omega
          case rel => exact ⟨m + 1, rows2, by omega, by omega, by go_num, HR2, HO2, HE2, HB2'⟩
        · have d2 : decide ((m : Int) < (s.after.length : Int)) = false := decide_eq_false (by omega)
          have hm1 : ¬ (m : Int) < (s.after.length : Int) := by omega
          obtain rfl : m = s.after.length := by omega
          have HR3 : Hid (rowsI w2 wj N1 d.steps.length rows2 (renL ah (k + 1) d.steps)) := Lib.hid (by rw [renL_succ ah k d.steps s HSK.out, ← renP_all]; exact HRJ.out)
          clear hr2 hre2 hrs hln
          go_wp2_with fail
          go_roundg (d.steps.length + 1 - (k + 1))
          case measure => omega
          case rel => exact ⟨k + 1, rows2, by omega, by omega, by go_num, HR3, HOJ, HEJ, HBJ⟩
    · have d1 : decide ((k : Int) < (d.steps.length : Int)) = false := decide_eq_false (by omega)
      have hk1 : ¬ (k : Int) < (d.steps.length : Int) := by omega
      obtain rfl : k = d.steps.length := by omega
      have HEF : Hid (DefR wi [.string d.name, .string d.text, .slice va d.steps.length vc] ⟨d.name, d.text, d.steps.map (renS ah)⟩ va vc) := Lib.hid (defR_ren HDN.out.1 HDN.out.2 (by
        have h1 := HRI.out
        rw [renL_all] at h1
        exact h1.stepsR (by rw [List.length_map]) HOI.out))
      have HDF : Hid (DefR wi [.string d.name, .string d.text, .slice sa d.steps.length sc] d sa sc) := Lib.hid (HD2.out.below HBI.out)
      have HBF : Hid (Below w.heap.size w wi) := Lib.hid (bthen HB2.out (Nat.le_refl _) HBI.out)
      have HGF := Lib.hid ((HBI.out.block _ hlt2).trans HG2.out)
      obtain ⟨p0, p1, p2, -, -, -⟩ := cells3h HGF.out
      clear HRI HOI HREN HG1 HRZ HOZ HEZ HBZ HD2 HD1 HD HG2 HGC HDC
      have HZ0 : Hid (Below wi.heap.size wi wi.drew) := Lib.hid (Below.refl _ _).drew
      go_upto_region 14 with fail
      refine E_region (S := (fun W => W.cell? ⟨w.heap.size, 0, none⟩ = some (.string d.name) ∧ W.cell? ⟨w.heap.size, 1, none⟩ = some (.string d.text) ∧ W.cell? ⟨w.heap.size, 2, none⟩ = some (.slice sa d.steps.length sc) ∧ W.cell? ⟨eB, 0, none⟩ = some (.string d.name) ∧ W.cell? ⟨eB, 1, none⟩ = some (.string d.text) ∧ W.cell? ⟨eB, 2, none⟩ = some (.slice va d.steps.length vc))) 3 (by kernel_rfl) ⟨p0, p1, p2, q0, q1, q2⟩ (fun _ _ _ _ _ h => h) (fun Q' hQ hK' hHeld => ?_)
      refine E_take hQ hHeld 0 (v := ?cv1) rfl rfl (by kernel_rfl) (by kernel_rfl) (by kernel_rfl) (by kernel_rfl) (by kernel_rfl) (by rfl) ?cy1 ?cr1
      case cy1 => (intro w hSw; (try dsimp only at hSw); go_simp; (try with_reducible rfl))
      (try simp only [Act.put, List.setIfInBounds_toArray, List.set_cons_zero, List.set_cons_succ])
      refine E_take hQ hHeld 2 (v := ?cv2) rfl rfl (by kernel_rfl) (by kernel_rfl) (by kernel_rfl) (by kernel_rfl) (by kernel_rfl) (by rfl) ?cy2 ?cr2
      case cy2 => (intro w hSw; (try dsimp only at hSw); go_simp; (try with_reducible rfl))
      (try simp only [Act.put, List.setIfInBounds_toArray, List.set_cons_zero, List.set_cons_succ])
      refine E_one 1 (by kernel_rfl) rfl (by rfl) (fun K hK => ?_)
      go_simp
      refine (nRefs_any d _ _ _ _ (HDF.out.below HZ0.out) (by omega) (by omega)).mono ?_
      rintro e V1 ⟨va1, rfl, hr, hb⟩
      have HY1 := Lib.hid hb
      have HZ1 := Lib.hid (bthen HZ0.out (Nat.le_refl _) hb)
      clear hb
      have HRA := Lib.hid hr
      clear hr
      (skip)
      refine hK.out _ _ (fun _ _ => ⟨cellB HY1.out hHeld.1, cellB HY1.out hHeld.2.1, cellB HY1.out hHeld.2.2.1, cellB HY1.out hHeld.2.2.2.1, cellB HY1.out hHeld.2.2.2.2.1, cellB HY1.out hHeld.2.2.2.2.2⟩) (fun hHeld' => ?_)
      replace hHeld := hHeld' (by rfl) (by decide)
      clear hK hHeld'
      (try simp only [Act.put, List.setIfInBounds_toArray, List.set_cons_zero, List.set_cons_succ])
      refine E_one 3 (by kernel_rfl) rfl (by rfl) (fun K hK => ?_)
      go_simp
      refine (c_refsE (HEF.out.below HZ1.out) (by omega) (by omega)).mono ?_
      rintro e V3 ⟨vb3, rfl, hr, hb⟩
      have HY3 := Lib.hid hb
      have HZ3 := Lib.hid (bthen HZ1.out (Nat.le_refl _) hb)
      clear hb
      have HRB := Lib.hid hr
      have HRA3 := Lib.hid (HRA.out.below HY3.out)
      clear hr
      (skip)
      refine hK.out _ _ (fun _ h => absurd rfl h) (fun _ => ?_)
      clear hK hHeld
      (try simp only [Act.put, List.setIfInBounds_toArray, List.set_cons_zero, List.set_cons_succ])
      refine E_take0 hQ (fun h => absurd h (by decide)) 4 (v := ?cv3) rfl rfl (by kernel_rfl) (by kernel_rfl) (by kernel_rfl) (by decide) (by rfl) ?cy3 ?cr3
      case cy3 => (intro w; go_simp; (try with_reducible rfl))
      (try simp only [Act.put, List.setIfInBounds_toArray, List.set_cons_zero, List.set_cons_succ])
      refine E_take0 hQ (fun h => absurd h (by decide)) 5 (v := ?cv4) rfl rfl (by kernel_rfl) (by kernel_rfl) (by kernel_rfl) (by decide) (by rfl) ?cy4 ?cr4
      case cy4 => (intro w; go_simp; (try with_reducible rfl))
      (try simp only [Act.put, List.setIfInBounds_toArray, List.set_cons_zero, List.set_cons_succ])
      refine E_done (by kernel_rfl) ?_ _
      refine hK'.out _ _ ?_
      have HB14 := Lib.hid (bthen HBF.out (Nat.le_refl _) HZ3.out)
      have HGF4 := Lib.hid ((HZ3.out.block _ (Array.getElem?_eq_some_iff.1 HGF.out).1).trans HGF.out)
      have HEI4 := Lib.hid ((HZ3.out.block _ (Array.getElem?_eq_some_iff.1 HEI.out).1).trans HEI.out)
      have HDF4 := Lib.hid (HDF.out.below HZ3.out)
      have HEF4 := Lib.hid (HEF.out.below HZ3.out)
      have hRl : (depsA d.steps 0 d.steps).length = d.steps.length := depsA_len d.steps d.steps 0
      have hRl2 : (depsA d.steps 0 d.steps).length ≤ 30 := by omega
      clear p0 p1 p2 q0 q1 q2 HZ0 HZ1 HZ3 HY1 HY3 HRA HDF HEF hK' hQ HGF HEI
      clear hRl
      generalize depsA d.steps 0 d.steps = R at *
      have HRA := HRA3
      clear HRA3
      obtain ⟨ra, rc, rfl⟩ := HRA.out.form
      obtain ⟨rb, rd, rfl⟩ := HRB.out.form
      go_wp2_with fail
      refine (Order_any R _ _ HRA.out (by omega)).mono ?_
      rintro e w5 ⟨v5, rfl, ho5, hb5⟩
      go_wp2_with fail
      refine (Order_any R _ _ (HRB.out.below hb5) (by omega)).mono ?_
      rintro e w6 ⟨v6, rfl, ho6, hb6⟩
      have HO1 := Lib.hid (ownsB ho5 hb6)
      have HO2 := Lib.hid ho6
      have hb56 := bthen hb5 (Nat.le_refl _) hb6
      have HB6 := Lib.hid (bthen HB14.out (Nat.le_refl _) hb56)
      have HGF6 := Lib.hid ((hb56.block _ (Array.getElem?_eq_some_iff.1 HGF4.out).1).trans HGF4.out)
      have HEI6 := Lib.hid ((hb56.block _ (Array.getElem?_eq_some_iff.1 HEI4.out).1).trans HEI4.out)
      have HDF := Lib.hid (HDF4.out.below hb56)
      have HEF := Lib.hid (HEF4.out.below hb56)
      have HRA6 := Lib.hid (HRA.out.below hb56)
      have HRB6 := Lib.hid (HRB.out.below hb56)
      clear HRA HRB ho5 ho6 hb5 hb6 hb56 HGF4 HEI4 HDF4 HEF4 HB14
      have HRA := HRA6
      have HRB := HRB6
      clear HRA6 HRB6
      generalize decide ((ordO R).length = R.length) = oc at *
      obtain ⟨p0, p1, p2, -, -, -⟩ := cells3h HGF6.out
      obtain ⟨q0, q1, q2, -, -, -⟩ := cells3h HEI6.out
      have HZ0 : Hid (Below w6.heap.size w6 w6.drew) := Lib.hid (Below.refl _ _).drew
      go_upto_region 17 with fail
      refine E_region (S := (fun W => W.cell? ⟨w.heap.size, 0, none⟩ = some (.string d.name) ∧ W.cell? ⟨w.heap.size, 1, none⟩ = some (.string d.text) ∧ W.cell? ⟨w.heap.size, 2, none⟩ = some (.slice sa d.steps.length sc) ∧ W.cell? ⟨eB, 0, none⟩ = some (.string d.name) ∧ W.cell? ⟨eB, 1, none⟩ = some (.string d.text) ∧ W.cell? ⟨eB, 2, none⟩ = some (.slice va d.steps.length vc))) 36 (by kernel_rfl) ⟨p0, p1, p2, q0, q1, q2⟩ (fun _ _ _ _ _ h => h) (fun Q' hQ hK' hHeld => ?_)
      refine E_take0 hQ (fun _ => hHeld) 0 (v := ?fv1) rfl rfl (by kernel_rfl) (by kernel_rfl) (by kernel_rfl) (by decide) (by rfl) ?fy1 ?fr1
      case fy1 => (intro w; go_simp; (try with_reducible rfl))
      (try simp only [Act.put, List.setIfInBounds_toArray, List.set_cons_zero, List.set_cons_succ])
      refine E_take0 hQ (fun _ => hHeld) 1 (v := ?fv2) rfl rfl (by kernel_rfl) (by kernel_rfl) (by kernel_rfl) (by decide) (by rfl) ?fy2 ?fr2
      case fy2 => (intro w; go_simp; (try with_reducible rfl))
      (try simp only [Act.put, List.setIfInBounds_toArray, List.set_cons_zero, List.set_cons_succ])
      refine E_take0 hQ (fun _ => hHeld) 2 (v := ?fv3) rfl rfl (by kernel_rfl) (by kernel_rfl) (by kernel_rfl) (by decide) (by rfl) ?fy3 ?fr3
      case fy3 => (intro w; go_simp; (try with_reducible rfl))
      (try simp only [Act.put, List.setIfInBounds_toArray, List.set_cons_zero, List.set_cons_succ])
      refine E_take0 hQ (fun _ => hHeld) 3 (v := ?fv4) rfl rfl (by kernel_rfl) (by kernel_rfl) (by kernel_rfl) (by decide) (by rfl) ?fy4 ?fr4
      case fy4 => (intro w; go_simp; (try with_reducible rfl))
      (try simp only [Act.put, List.setIfInBounds_toArray, List.set_cons_zero, List.set_cons_succ])
      refine E_take0 hQ (fun _ => hHeld) 4 (v := ?fv5) rfl rfl (by kernel_rfl) (by kernel_rfl) (by kernel_rfl) (by decide) (by rfl) ?fy5 ?fr5
      case fy5 => (intro w; go_simp; (try with_reducible rfl))
      (try simp only [Act.put, List.setIfInBounds_toArray, List.set_cons_zero, List.set_cons_succ])
      refine E_take0 hQ (fun _ => hHeld) 5 (v := ?fv6) rfl rfl (by kernel_rfl) (by kernel_rfl) (by kernel_rfl) (by decide) (by rfl) ?fy6 ?fr6
      case fy6 => (intro w; go_simp; (try with_reducible rfl))
      (try simp only [Act.put, List.setIfInBounds_toArray, List.set_cons_zero, List.set_cons_succ])
      refine E_take0 hQ (fun _ => hHeld) 6 (v := ?fv7) rfl rfl (by kernel_rfl) (by kernel_rfl) (by kernel_rfl) (by decide) (by rfl) ?fy7 ?fr7
      case fy7 => (intro w; go_simp; (try with_reducible rfl))
      (try simp only [Act.put, List.setIfInBounds_toArray, List.set_cons_zero, List.set_cons_succ])
      refine E_take0 hQ (fun _ => hHeld) 7 (v := ?fv8) rfl rfl (by kernel_rfl) (by kernel_rfl) (by kernel_rfl) (by decide) (by rfl) ?fy8 ?fr8
      case fy8 => (intro w; go_simp; (try with_reducible rfl))
      (try simp only [Act.put, List.setIfInBounds_toArray, List.set_cons_zero, List.set_cons_succ])
      refine E_take0 hQ (fun _ => hHeld) 8 (v := ?fv9) rfl rfl (by kernel_rfl) (by kernel_rfl) (by kernel_rfl) (by decide) (by rfl) ?fy9 ?fr9
      case fy9 => (intro w; go_simp; (try with_reducible rfl))
      (try simp only [Act.put, List.setIfInBounds_toArray, List.set_cons_zero, List.set_cons_succ])
      refine E_take0 hQ (fun _ => hHeld) 9 (v := ?fv10) rfl rfl (by kernel_rfl) (by kernel_rfl) (by kernel_rfl) (by decide) (by rfl) ?fy10 ?fr10
      case fy10 => (intro w; go_simp; (try with_reducible rfl))
      (try simp only [Act.put, List.setIfInBounds_toArray, List.set_cons_zero, List.set_cons_succ])
      refine E_take0 hQ (fun _ => hHeld) 10 (v := ?fv11) rfl rfl (by kernel_rfl) (by kernel_rfl) (by kernel_rfl) (by decide) (by rfl) ?fy11 ?fr11
      case fy11 => (intro w; go_simp; (try with_reducible rfl))
      (try simp only [Act.put, List.setIfInBounds_toArray, List.set_cons_zero, List.set_cons_succ])
      refine E_take0 hQ (fun _ => hHeld) 11 (v := ?fv12) rfl rfl (by kernel_rfl) (by kernel_rfl) (by kernel_rfl) (by decide) (by rfl) ?fy12 ?fr12
      case fy12 => (intro w; go_simp; (try with_reducible rfl))
      (try simp only [Act.put, List.setIfInBounds_toArray, List.set_cons_zero, List.set_cons_succ])
      refine E_take0 hQ (fun _ => hHeld) 12 (v := ?fv13) rfl rfl (by kernel_rfl) (by kernel_rfl) (by kernel_rfl) (by decide) (by rfl) ?fy13 ?fr13
      case fy13 => (intro w; go_simp; (try with_reducible rfl))
      (try simp only [Act.put, List.setIfInBounds_toArray, List.set_cons_zero, List.set_cons_succ])
      refine E_one 13 (by kernel_rfl) rfl (by rfl) (fun K hK => ?_)
      go_simp
      refine (c_sameN _ _ _ _ ((RdS.of_owns HO1.out).below HZ0.out) ((RdS.of_owns HO2.out).below HZ0.out)).mono ?_
      rintro e V13 ⟨rfl, hb⟩
      have HY13 := Lib.hid hb
      have HZ13 := Lib.hid (bthen HZ0.out (Nat.le_refl _) hb)
      clear hb
      (skip)
      refine hK.out _ _ (fun _ _ => ⟨cellB HY13.out hHeld.1, cellB HY13.out hHeld.2.1, cellB HY13.out hHeld.2.2.1, cellB HY13.out hHeld.2.2.2.1, cellB HY13.out hHeld.2.2.2.2.1, cellB HY13.out hHeld.2.2.2.2.2⟩) (fun hHeld' => ?_)
      replace hHeld := hHeld' (by rfl) (by decide)
      clear hK hHeld'
      (try simp only [Act.put, List.setIfInBounds_toArray, List.set_cons_zero, List.set_cons_succ])
      refine E_take0 hQ (fun _ => hHeld) 14 (v := ?fv14) rfl rfl (by kernel_rfl) (by kernel_rfl) (by kernel_rfl) (by decide) (by rfl) ?fy14 ?fr14
      case fy14 => (intro w; go_simp; (try with_reducible rfl))
      (try simp only [Act.put, List.setIfInBounds_toArray, List.set_cons_zero, List.set_cons_succ])
      refine E_take0 hQ (fun _ => hHeld) 15 (v := ?fv15) rfl rfl (by kernel_rfl) (by kernel_rfl) (by kernel_rfl) (by decide) (by rfl) ?fy15 ?fr15
      case fy15 => (intro w; go_simp; (try with_reducible rfl))
      (try simp only [Act.put, List.setIfInBounds_toArray, List.set_cons_zero, List.set_cons_succ])
      refine E_take0 hQ (fun _ => hHeld) 16 (v := ?fv16) rfl rfl (by kernel_rfl) (by kernel_rfl) (by kernel_rfl) (by decide) (by rfl) ?fy16 ?fr16
      case fy16 => (intro w; go_simp; (try with_reducible rfl))
      (try simp only [Act.put, List.setIfInBounds_toArray, List.set_cons_zero, List.set_cons_succ])
      refine E_take0 hQ (fun _ => hHeld) 17 (v := ?fv17) rfl rfl (by kernel_rfl) (by kernel_rfl) (by kernel_rfl) (by decide) (by rfl) ?fy17 ?fr17
      case fy17 => (intro w; go_simp; (try with_reducible rfl))
      (try simp only [Act.put, List.setIfInBounds_toArray, List.set_cons_zero, List.set_cons_succ])
      refine E_take0 hQ (fun _ => hHeld) 19 (v := ?fv18) rfl rfl (by kernel_rfl) (by kernel_rfl) (by kernel_rfl) (by decide) (by rfl) ?fy18 ?fr18
      case fy18 => (intro w; go_simp; (try with_reducible rfl))
      (try simp only [Act.put, List.setIfInBounds_toArray, List.set_cons_zero, List.set_cons_succ])
      refine E_one 18 (by kernel_rfl) rfl (by rfl) (fun K hK => ?_)
      go_simp
      refine (Round_any R _ _ (HRA.out.below HZ13.out) (by omega)).mono ?_
      rintro e V18 ⟨v18, rfl, ho, hb⟩
      have HY18 := Lib.hid hb
      have HZ18 := Lib.hid (bthen HZ13.out (Nat.le_refl _) hb)
      clear hb
      have HP18 := Lib.hid (RdS.of_owns ho)
      clear ho
      (skip)
      refine hK.out _ _ (fun _ _ => ⟨cellB HY18.out hHeld.1, cellB HY18.out hHeld.2.1, cellB HY18.out hHeld.2.2.1, cellB HY18.out hHeld.2.2.2.1, cellB HY18.out hHeld.2.2.2.2.1, cellB HY18.out hHeld.2.2.2.2.2⟩) (fun hHeld' => ?_)
      replace hHeld := hHeld' (by rfl) (by decide)
      clear hK hHeld'
      (try simp only [Act.put, List.setIfInBounds_toArray, List.set_cons_zero, List.set_cons_succ])
      refine E_one 20 (by kernel_rfl) rfl (by rfl) (fun K hK => ?_)
      go_simp
      refine (Round_any R _ _ (HRB.out.below HZ18.out) (by omega)).mono ?_
      rintro e V20 ⟨v20, rfl, ho, hb⟩
      have HY20 := Lib.hid hb
      have HZ20 := Lib.hid (bthen HZ18.out (Nat.le_refl _) hb)
      clear hb
      have HP20 := Lib.hid (RdS.of_owns ho)
      have HQ18 := Lib.hid (HP18.out.below HY20.out)
      clear ho
      (skip)
      refine hK.out _ _ (fun _ _ => ⟨cellB HY20.out hHeld.1, cellB HY20.out hHeld.2.1, cellB HY20.out hHeld.2.2.1, cellB HY20.out hHeld.2.2.2.1, cellB HY20.out hHeld.2.2.2.2.1, cellB HY20.out hHeld.2.2.2.2.2⟩) (fun hHeld' => ?_)
      replace hHeld := hHeld' (by rfl) (by decide)
      clear hK hHeld'
      (try simp only [Act.put, List.setIfInBounds_toArray, List.set_cons_zero, List.set_cons_succ])
      refine E_one 21 (by kernel_rfl) rfl (by rfl) (fun K hK => ?_)
      go_simp
      refine (gSame_true _ _ _ _ HQ18.out HP20.out).mono ?_
      rintro e V21 ⟨rfl, hb⟩
      have HY21 := Lib.hid hb
      have HZ21 := Lib.hid (bthen HZ20.out (Nat.le_refl _) hb)
      clear hb
      (skip)
      refine hK.out _ _ (fun _ _ => ⟨cellB HY21.out hHeld.1, cellB HY21.out hHeld.2.1, cellB HY21.out hHeld.2.2.1, cellB HY21.out hHeld.2.2.2.1, cellB HY21.out hHeld.2.2.2.2.1, cellB HY21.out hHeld.2.2.2.2.2⟩) (fun hHeld' => ?_)
      replace hHeld := hHeld' (by rfl) (by decide)
      clear hK hHeld'
      (try simp only [Act.put, List.setIfInBounds_toArray, List.set_cons_zero, List.set_cons_succ])
      refine E_take0 hQ (fun _ => hHeld) 22 (v := ?fv19) rfl rfl (by kernel_rfl) (by kernel_rfl) (by kernel_rfl) (by decide) (by rfl) ?fy19 ?fr19
      case fy19 => (intro w; go_simp; (try with_reducible rfl))
      (try simp only [Act.put, List.setIfInBounds_toArray, List.set_cons_zero, List.set_cons_succ])
      refine E_take0 hQ (fun _ => hHeld) 23 (v := ?fv20) rfl rfl (by kernel_rfl) (by kernel_rfl) (by kernel_rfl) (by decide) (by rfl) ?fy20 ?fr20
      case fy20 => (intro w; go_simp; (try with_reducible rfl))
      (try simp only [Act.put, List.setIfInBounds_toArray, List.set_cons_zero, List.set_cons_succ])
      refine E_take0 hQ (fun _ => hHeld) 24 (v := ?fv21) rfl rfl (by kernel_rfl) (by kernel_rfl) (by kernel_rfl) (by decide) (by rfl) ?fy21 ?fr21
      case fy21 => (intro w; go_simp; (try with_reducible rfl))
      (try simp only [Act.put, List.setIfInBounds_toArray, List.set_cons_zero, List.set_cons_succ])
      refine E_take0 hQ (fun _ => hHeld) 25 (v := ?fv22) rfl rfl (by kernel_rfl) (by kernel_rfl) (by kernel_rfl) (by decide) (by rfl) ?fy22 ?fr22
      case fy22 => (intro w; go_simp; (try with_reducible rfl))
      (try simp only [Act.put, List.setIfInBounds_toArray, List.set_cons_zero, List.set_cons_succ])
      refine E_take0 hQ (fun _ => hHeld) 27 (v := ?fv23) rfl rfl (by kernel_rfl) (by kernel_rfl) (by kernel_rfl) (by decide) (by rfl) ?fy23 ?fr23
      case fy23 => (intro w; go_simp; (try with_reducible rfl))
      (try simp only [Act.put, List.setIfInBounds_toArray, List.set_cons_zero, List.set_cons_succ])
      refine E_one 26 (by kernel_rfl) rfl (by rfl) (fun K hK => ?_)
      go_simp
      refine (Longest_any R _ _ (HRA.out.below HZ21.out) (by omega)).mono ?_
      rintro e V26 ⟨rfl, hb⟩
      have HY26 := Lib.hid hb
      have HZ26 := Lib.hid (bthen HZ21.out (Nat.le_refl _) hb)
      clear hb
      (skip)
      refine hK.out _ _ (fun _ _ => ⟨cellB HY26.out hHeld.1, cellB HY26.out hHeld.2.1, cellB HY26.out hHeld.2.2.1, cellB HY26.out hHeld.2.2.2.1, cellB HY26.out hHeld.2.2.2.2.1, cellB HY26.out hHeld.2.2.2.2.2⟩) (fun hHeld' => ?_)
      replace hHeld := hHeld' (by rfl) (by decide)
      clear hK hHeld'
      (try simp only [Act.put, List.setIfInBounds_toArray, List.set_cons_zero, List.set_cons_succ])
      refine E_one 28 (by kernel_rfl) rfl (by rfl) (fun K hK => ?_)
      go_simp
      refine (Longest_any R _ _ (HRB.out.below HZ26.out) (by omega)).mono ?_
      rintro e V28 ⟨rfl, hb⟩
      have HY28 := Lib.hid hb
      have HZ28 := Lib.hid (bthen HZ26.out (Nat.le_refl _) hb)
      clear hb
      (skip)
      refine hK.out _ _ (fun _ _ => ⟨cellB HY28.out hHeld.1, cellB HY28.out hHeld.2.1, cellB HY28.out hHeld.2.2.1, cellB HY28.out hHeld.2.2.2.1, cellB HY28.out hHeld.2.2.2.2.1, cellB HY28.out hHeld.2.2.2.2.2⟩) (fun hHeld' => ?_)
      replace hHeld := hHeld' (by rfl) (by decide)
      clear hK hHeld'
      (try simp only [Act.put, List.setIfInBounds_toArray, List.set_cons_zero, List.set_cons_succ])
      refine E_take0 hQ (fun _ => hHeld) 29 (v := ?fv24) rfl rfl (by kernel_rfl) (by kernel_rfl) (by kernel_rfl) (by decide) (by rfl) ?fy24 ?fr24
      case fy24 => (intro w; go_simp; (try with_reducible rfl))
      (try simp only [Act.put, List.setIfInBounds_toArray, List.set_cons_zero, List.set_cons_succ])
      refine E_take0 hQ (fun _ => hHeld) 30 (v := ?fv25) rfl rfl (by kernel_rfl) (by kernel_rfl) (by kernel_rfl) (by decide) (by rfl) ?fy25 ?fr25
      case fy25 => (intro w; go_simp; (try with_reducible rfl))
      (try simp only [Act.put, List.setIfInBounds_toArray, List.set_cons_zero, List.set_cons_succ])
      refine E_take0 hQ (fun _ => hHeld) 31 (v := ?fv26) rfl rfl (by kernel_rfl) (by kernel_rfl) (by kernel_rfl) (by decide) (by rfl) ?fy26 ?fr26
      case fy26 => (intro w; go_simp; (try with_reducible rfl))
      (try simp only [Act.put, List.setIfInBounds_toArray, List.set_cons_zero, List.set_cons_succ])
      refine E_take hQ hHeld 32 (v := ?fv27) rfl rfl (by kernel_rfl) (by kernel_rfl) (by kernel_rfl) (by kernel_rfl) (by kernel_rfl) (by rfl) ?fy27 ?fr27
      case fy27 => (intro w hSw; (try dsimp only at hSw); go_simp; (try with_reducible rfl))
      (try simp only [Act.put, List.setIfInBounds_toArray, List.set_cons_zero, List.set_cons_succ])
      refine E_take hQ hHeld 35 (v := ?fv28) rfl rfl (by kernel_rfl) (by kernel_rfl) (by kernel_rfl) (by kernel_rfl) (by kernel_rfl) (by rfl) ?fy28 ?fr28
      case fy28 => (intro w hSw; (try dsimp only at hSw); go_simp; (try with_reducible rfl))
      (try simp only [Act.put, List.setIfInBounds_toArray, List.set_cons_zero, List.set_cons_succ])
      refine E_one 33 (by kernel_rfl) rfl (by rfl) (fun K hK => ?_)
      go_simp
      refine (nMissing_any d _ _ _ _ (HDF.out.below HZ28.out) (by omega) (by omega)).mono ?_
      rintro e V33 ⟨v33, rfl, ho, hb⟩
      have HY33 := Lib.hid hb
      have HZ33 := Lib.hid (bthen HZ28.out (Nat.le_refl _) hb)
      clear hb
      obtain ⟨ma, mc, rfl⟩ := ho.form
      clear ho
      (skip)
      refine hK.out _ _ (fun _ _ => ⟨cellB HY33.out hHeld.1, cellB HY33.out hHeld.2.1, cellB HY33.out hHeld.2.2.1, cellB HY33.out hHeld.2.2.2.1, cellB HY33.out hHeld.2.2.2.2.1, cellB HY33.out hHeld.2.2.2.2.2⟩) (fun hHeld' => ?_)
      replace hHeld := hHeld' (by rfl) (by decide)
      clear hK hHeld'
      (try simp only [Act.put, List.setIfInBounds_toArray, List.set_cons_zero, List.set_cons_succ])
      refine E_take0 hQ (fun _ => hHeld) 34 (v := ?fv29) rfl rfl (by kernel_rfl) (by kernel_rfl) (by kernel_rfl) (by decide) (by rfl) ?fy29 ?fr29
      case fy29 => (intro w; go_simp; (try with_reducible rfl))
      (try simp only [Act.put, List.setIfInBounds_toArray, List.set_cons_zero, List.set_cons_succ])
      refine E_one 36 (by kernel_rfl) rfl (by rfl) (fun K hK => ?_)
      go_simp
      refine (c_missE (HEF.out.below HZ33.out) (by omega) (by omega)).mono ?_
      rintro e V36 ⟨ma6, mc6, rfl, hb⟩
      have HY36 := Lib.hid hb
      have HZ36 := Lib.hid (bthen HZ33.out (Nat.le_refl _) hb)
      clear hb
      (skip)
      refine hK.out _ _ (fun _ h => absurd rfl h) (fun _ => ?_)
      clear hK hHeld
      (try simp only [Act.put, List.setIfInBounds_toArray, List.set_cons_zero, List.set_cons_succ])
      refine E_take0 hQ (fun h => absurd h (by decide)) 37 (v := ?fv30) rfl rfl (by kernel_rfl) (by kernel_rfl) (by kernel_rfl) (by decide) (by rfl) ?fy30 ?fr30
      case fy30 => (intro w; go_simp; (try with_reducible rfl))
      (try simp only [Act.put, List.setIfInBounds_toArray, List.set_cons_zero, List.set_cons_succ])
      refine E_take0 hQ (fun h => absurd h (by decide)) 38 (v := ?fv31) rfl rfl (by kernel_rfl) (by kernel_rfl) (by kernel_rfl) (by decide) (by rfl) ?fy31 ?fr31
      case fy31 => (intro w; go_simp; (try with_reducible rfl))
      (try simp only [Act.put, List.setIfInBounds_toArray, List.set_cons_zero, List.set_cons_succ])
      refine E_take0 hQ (fun h => absurd h (by decide)) 39 (v := ?fv32) rfl rfl (by kernel_rfl) (by kernel_rfl) (by kernel_rfl) (by decide) (by rfl) ?fy32 ?fr32
      case fy32 => (intro w; go_simp; (try with_reducible rfl))
      (try simp only [Act.put, List.setIfInBounds_toArray, List.set_cons_zero, List.set_cons_succ])
      refine E_done (by kernel_rfl) ?_ _
      refine hK'.out _ _ ?_
      have HB17 := Lib.hid (bthen HB6.out (Nat.le_refl _) HZ36.out)
      have HRA7 := Lib.hid (HRA.out.below HZ36.out)
      have HRB7 := Lib.hid (HRB.out.below HZ36.out)
      clear p0 p1 p2 q0 q1 q2 HZ0 HZ13 HZ18 HZ20 HZ21 HZ26 HZ28 HZ33 HZ36 HY13 HY18 HY20 HY21 HY26 HY28 HY33 HY36 HO1 HO2 HP18 HP20 HQ18 HRA HRB HDF HEF HGF6 HEI6 HB6 hK' hQ
      go_wp2_with fail
      go_loopg [14] (R.length + 1) (fun gk i wi => ∃ k : Nat, k + gk = R.length + 1 ∧ k ≤ R.length ∧ i = .int .i64 k ∧ Hid (Below V36.heap.size V36 wi))
      case atStart => exact ⟨0, by omega, by omega, rfl, Lib.hid (Below.refl _ _)⟩
      case round =>
        obtain ⟨k, hgk, hk, rfl, HBK⟩ := hrel
        rename World => wk
        have hg : gk = R.length + 1 - k := by omega
        subst hg
        by_cases hkl : k < R.length
        · have d1 : decide ((k : Int) < (R.length : Int)) = true := decide_eq_true (by omega)
          have hk1 : (k : Int) < (R.length : Int) := by omega
          have hk0 : (0 : Int) ≤ (k : Int) := by omega
          have HRA := Lib.hid (HRA7.out.below HBK.out)
          have HRB := Lib.hid (HRB7.out.below HBK.out)
          obtain ⟨ga, oa, xa, xc, rfl, -, -, u0, hxr⟩ := HRA.out.at hkl
          obtain ⟨gb, ob, ya, yc, rfl, -, -, u1, hyr⟩ := HRB.out.at hkl
          have HXR := Lib.hid hxr
          have HYR := Lib.hid hyr
          clear hxr hyr
          have HZ0 : Hid (Below wk.heap.size wk wk.drew) := Lib.hid (Below.refl _ _).drew
          go_upto_region 22 with fail
          refine E_region (S := (fun W => W.cell? ⟨ga, oa + k, none⟩ = some (.slice xa R[k].length xc) ∧ W.cell? ⟨gb, ob + k, none⟩ = some (.slice ya R[k].length yc))) 17 (by kernel_rfl) ⟨u0, u1⟩ (fun _ _ _ _ _ h => h) (fun Q' hQ hK' hHeld => ?_)
          refine E_take0 hQ (fun _ => hHeld) 0 (v := ?gv1) rfl rfl (by kernel_rfl) (by kernel_rfl) (by kernel_rfl) (by decide) (by rfl) ?gy1 ?gr1
          case gy1 => (intro w; go_simp; (try with_reducible rfl))
          (try simp only [Act.put, List.setIfInBounds_toArray, List.set_cons_zero, List.set_cons_succ])
          refine E_take0 hQ (fun _ => hHeld) 1 (v := ?gv2) rfl rfl (by kernel_rfl) (by kernel_rfl) (by kernel_rfl) (by decide) (by rfl) ?gy2 ?gr2
          case gy2 => (intro w; go_simp; (try with_reducible rfl))
          (try simp only [Act.put, List.setIfInBounds_toArray, List.set_cons_zero, List.set_cons_succ])
          refine E_take0 hQ (fun _ => hHeld) 2 (v := ?gv3) rfl rfl (by kernel_rfl) (by kernel_rfl) (by kernel_rfl) (by decide) (by rfl) ?gy3 ?gr3
          case gy3 => (intro w; go_simp; (try with_reducible rfl))
          (try simp only [Act.put, List.setIfInBounds_toArray, List.set_cons_zero, List.set_cons_succ])
          refine E_take hQ hHeld 3 (v := ?gv4) rfl rfl (by kernel_rfl) (by kernel_rfl) (by kernel_rfl) (by kernel_rfl) (by kernel_rfl) (by rfl) ?gy4 ?gr4
          case gy4 => (intro w hSw; (try dsimp only at hSw); go_simp; (try with_reducible rfl))
          (try simp only [Act.put, List.setIfInBounds_toArray, List.set_cons_zero, List.set_cons_succ])
          refine E_take0 hQ (fun _ => hHeld) 4 (v := ?gv5) rfl rfl (by kernel_rfl) (by kernel_rfl) (by kernel_rfl) (by decide) (by rfl) ?gy5 ?gr5
          case gy5 => (intro w; go_simp; (try with_reducible rfl))
          (try simp only [Act.put, List.setIfInBounds_toArray, List.set_cons_zero, List.set_cons_succ])
          refine E_take0 hQ (fun _ => hHeld) 5 (v := ?gv6) rfl rfl (by kernel_rfl) (by kernel_rfl) (by kernel_rfl) (by decide) (by rfl) ?gy6 ?gr6
          case gy6 => (intro w; go_simp; (try with_reducible rfl))
          (try simp only [Act.put, List.setIfInBounds_toArray, List.set_cons_zero, List.set_cons_succ])
          refine E_take0 hQ (fun _ => hHeld) 6 (v := ?gv7) rfl rfl (by kernel_rfl) (by kernel_rfl) (by kernel_rfl) (by decide) (by rfl) ?gy7 ?gr7
          case gy7 => (intro w; go_simp; (try with_reducible rfl))
          (try simp only [Act.put, List.setIfInBounds_toArray, List.set_cons_zero, List.set_cons_succ])
          refine E_take hQ hHeld 7 (v := ?gv8) rfl rfl (by kernel_rfl) (by kernel_rfl) (by kernel_rfl) (by kernel_rfl) (by kernel_rfl) (by rfl) ?gy8 ?gr8
          case gy8 => (intro w hSw; (try dsimp only at hSw); go_simp; (try with_reducible rfl))
          (try simp only [Act.put, List.setIfInBounds_toArray, List.set_cons_zero, List.set_cons_succ])
          refine E_one 8 (by kernel_rfl) rfl (by rfl) (fun K hK => ?_)
          go_simp
          refine (gSame_true _ _ _ _ (HXR.out.below HZ0.out) (HYR.out.below HZ0.out)).mono ?_
          rintro e V8 ⟨rfl, hb⟩
          have HY8 := Lib.hid hb
          have HZ8 := Lib.hid (bthen HZ0.out (Nat.le_refl _) hb)
          clear hb
          (skip)
          refine hK.out _ _ (fun _ _ => ⟨cellB HY8.out hHeld.1, cellB HY8.out hHeld.2⟩) (fun hHeld' => ?_)
          replace hHeld := hHeld' (by rfl) (by decide)
          clear hK hHeld'
          (try simp only [Act.put, List.setIfInBounds_toArray, List.set_cons_zero, List.set_cons_succ])
          refine E_take0 hQ (fun _ => hHeld) 9 (v := ?gv9) rfl rfl (by kernel_rfl) (by kernel_rfl) (by kernel_rfl) (by decide) (by rfl) ?gy9 ?gr9
          case gy9 => (intro w; go_simp; (try with_reducible rfl))
          (try simp only [Act.put, List.setIfInBounds_toArray, List.set_cons_zero, List.set_cons_succ])
          refine E_take0 hQ (fun _ => hHeld) 10 (v := ?gv10) rfl rfl (by kernel_rfl) (by kernel_rfl) (by kernel_rfl) (by decide) (by rfl) ?gy10 ?gr10
          case gy10 => (intro w; go_simp; (try with_reducible rfl))
          (try simp only [Act.put, List.setIfInBounds_toArray, List.set_cons_zero, List.set_cons_succ])
          refine E_take0 hQ (fun _ => hHeld) 11 (v := ?gv11) rfl rfl (by kernel_rfl) (by kernel_rfl) (by kernel_rfl) (by decide) (by rfl) ?gy11 ?gr11
          case gy11 => (intro w; go_simp; (try with_reducible rfl))
          (try simp only [Act.put, List.setIfInBounds_toArray, List.set_cons_zero, List.set_cons_succ])
          refine E_take0 hQ (fun _ => hHeld) 12 (v := ?gv12) rfl rfl (by kernel_rfl) (by kernel_rfl) (by kernel_rfl) (by decide) (by rfl) ?gy12 ?gr12
          case gy12 => (intro w; go_simp; (try with_reducible rfl))
          (try simp only [Act.put, List.setIfInBounds_toArray, List.set_cons_zero, List.set_cons_succ])
          refine E_take0 hQ (fun _ => hHeld) 14 (v := ?gv13) rfl rfl (by kernel_rfl) (by kernel_rfl) (by kernel_rfl) (by decide) (by rfl) ?gy13 ?gr13
          case gy13 => (intro w; go_simp; (try with_reducible rfl))
          (try simp only [Act.put, List.setIfInBounds_toArray, List.set_cons_zero, List.set_cons_succ])
          refine E_take0 hQ (fun _ => hHeld) 15 (v := ?gv14) rfl rfl (by kernel_rfl) (by kernel_rfl) (by kernel_rfl) (by decide) (by rfl) ?gy14 ?gr14
          case gy14 => (intro w; go_simp; (try with_reducible rfl))
          (try simp only [Act.put, List.setIfInBounds_toArray, List.set_cons_zero, List.set_cons_succ])
          refine E_one 13 (by kernel_rfl) rfl (by rfl) (fun K hK => ?_)
          go_simp
          refine (Behind_any R k _ _ (HRA.out.below HZ8.out) (by omega)).mono ?_
          rintro e V13 ⟨v13, rfl, ho, hb⟩
          have HY13 := Lib.hid hb
          have HZ13 := Lib.hid (bthen HZ8.out (Nat.le_refl _) hb)
          clear hb
          have HP13 := Lib.hid (RdS.of_owns ho)
          clear ho
          (skip)
          refine hK.out _ _ (fun _ _ => ⟨cellB HY13.out hHeld.1, cellB HY13.out hHeld.2⟩) (fun hHeld' => ?_)
          replace hHeld := hHeld' (by rfl) (by decide)
          clear hK hHeld'
          (try simp only [Act.put, List.setIfInBounds_toArray, List.set_cons_zero, List.set_cons_succ])
          refine E_one 16 (by kernel_rfl) rfl (by rfl) (fun K hK => ?_)
          go_simp
          refine (Behind_any R k _ _ (HRB.out.below HZ13.out) (by omega)).mono ?_
          rintro e V16 ⟨v16, rfl, ho, hb⟩
          have HY16 := Lib.hid hb
          have HZ16 := Lib.hid (bthen HZ13.out (Nat.le_refl _) hb)
          clear hb
          have HP16 := Lib.hid (RdS.of_owns ho)
          have HQ13 := Lib.hid (HP13.out.below HY16.out)
          clear ho
          (skip)
          refine hK.out _ _ (fun _ _ => ⟨cellB HY16.out hHeld.1, cellB HY16.out hHeld.2⟩) (fun hHeld' => ?_)
          replace hHeld := hHeld' (by rfl) (by decide)
          clear hK hHeld'
          (try simp only [Act.put, List.setIfInBounds_toArray, List.set_cons_zero, List.set_cons_succ])
          refine E_one 17 (by kernel_rfl) rfl (by rfl) (fun K hK => ?_)
          go_simp
          refine (gSame_true _ _ _ _ HQ13.out HP16.out).mono ?_
          rintro e V17 ⟨rfl, hb⟩
          have HY17 := Lib.hid hb
          have HZ17 := Lib.hid (bthen HZ16.out (Nat.le_refl _) hb)
          clear hb
          (skip)
          refine hK.out _ _ (fun _ h => absurd rfl h) (fun _ => ?_)
          clear hK hHeld
          (try simp only [Act.put, List.setIfInBounds_toArray, List.set_cons_zero, List.set_cons_succ])
          refine E_take0 hQ (fun h => absurd h (by decide)) 18 (v := ?gv15) rfl rfl (by kernel_rfl) (by kernel_rfl) (by kernel_rfl) (by decide) (by rfl) ?gy15 ?gr15
          case gy15 => (intro w; go_simp; (try with_reducible rfl))
          (try simp only [Act.put, List.setIfInBounds_toArray, List.set_cons_zero, List.set_cons_succ])
          refine E_take0 hQ (fun h => absurd h (by decide)) 19 (v := ?gv16) rfl rfl (by kernel_rfl) (by kernel_rfl) (by kernel_rfl) (by decide) (by rfl) ?gy16 ?gr16
          case gy16 => (intro w; go_simp; (try with_reducible rfl))
          (try simp only [Act.put, List.setIfInBounds_toArray, List.set_cons_zero, List.set_cons_succ])
          refine E_done (by kernel_rfl) ?_ _
          refine hK'.out _ _ ?_
          have HBN := Lib.hid (bthen HBK.out (Nat.le_refl _) HZ17.out)
          clear u0 u1 hK' hQ
          go_wp2_with fail
          go_roundg (R.length + 1 - (k + 1))
          case measure => omega
          case rel => exact ⟨k + 1, by omega, by omega, by go_num, HBN⟩
        · have d1 : decide ((k : Int) < (R.length : Int)) = false := decide_eq_false (by omega)
          have hk1 : ¬ (k : Int) < (R.length : Int) := by omega
          have HBF := Lib.hid (bthen HB17.out (Nat.le_refl _) HBK.out)
          go_wp2_with fail
          go_ret
          exact ⟨rfl, HBF.out⟩
end Go.Proofs.Ytkgcpbhlbfjcoaa
