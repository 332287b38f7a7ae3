/-
  Plain: behind which steps each one comes; rows that a call owns, behind an array of them; a drawn region in a round of a loop over a function.
-/
import Derived.Deep.AppendLies
import Derived.Test.YtkgcpbhlbfjcoaaBq9
import Derived.Test.YtkgcpbhlbfjcoaaBq14
import Derived.Test.YtkgcpbhlbfjcoaaBq16
import Derived.Test.YtkgcpbhlbfjcoaaBq22
import Derived.Test.YtkgcpbhlbfjcoaaBq33
import Derived.Test.YtkgcpbhlbfjcoaaBq34
import Derived.Test.YtkgcpbhlbfjcoaaBq42
import Derived.Test.YtkgcpbhlbfjcoaaBq44
namespace Go.Proofs.Ytkgcpbhlbfjcoaa
open Go Go.RowKit

def addRf (i : Nat) (row : List Int) (tt : Int) : List Int := if 0 ≤ tt ∧ tt ≠ i ∧ tt ∉ row then row ++ [tt] else row
def stepRf (rows : List (List Int)) (r : RefD) : List (List Int) := rows.set r.1 (addRf r.1 (rows[r.1]?.getD []) r.2.2)
def rowsRf (n : Nat) (pre : List RefD) : List (List Int) := pre.foldl stepRf (List.replicate n [])
theorem rowsRf_snoc (n : Nat) (pre : List RefD) (r : RefD) : rowsRf n (pre ++ [r]) = stepRf (rowsRf n pre) r := by
  unfold rowsRf; rw [List.foldl_append]; rfl
theorem rowsRf_len (n : Nat) (pre : List RefD) : (rowsRf n pre).length = n := by
  induction pre using snocRec with
  | h0 => simp [rowsRf]
  | h1 l r ih => rw [rowsRf_snoc, stepRf, List.length_set, ih]
theorem addRf_len (i : Nat) (row : List Int) (tt : Int) : (addRf i row tt).length ≤ row.length + 1 := by
  unfold addRf; split <;> simp
theorem rowsRf_row (n : Nat) (pre : List RefD) : ∀ r ∈ rowsRf n pre, r.length ≤ pre.length := by
  induction pre using snocRec with
  | h0 =>
    intro r hr
    have : r = [] := by simp [rowsRf] at hr; exact hr.2
    subst this; exact Nat.le_refl _
  | h1 l x ih =>
    intro r hr
    rw [rowsRf_snoc, stepRf] at hr
    rw [List.length_append, List.length_singleton]
    rcases List.mem_or_eq_of_mem_set hr with h | rfl
    · have := ih r h; omega
    · have h1 := addRf_len x.1 ((rowsRf n l)[x.1]?.getD []) x.2.2
      cases h2 : (rowsRf n l)[x.1]? with
      | none => rw [h2] at h1; simp at h1 ⊢; omega
      | some q => rw [h2] at h1; have := ih q (List.mem_of_getElem? h2); simp at h1 ⊢; omega
/-- Behind which steps one comes. -/
def depsD (all : List StepD) (i : Nat) (s : StepD) : List Int := (s.after.map fun a => idxStep all a 0).foldl (addRf i) []
def depsA (all : List StepD) : Nat → List StepD → List (List Int)
  | _, [] => []
  | i, s :: l => depsD all i s :: depsA all (i + 1) l
theorem depsA_len (all : List StepD) : ∀ (l : List StepD) (i : Nat), (depsA all i l).length = l.length
  | [], _ => rfl
  | s :: l, i => by rw [depsA, List.length_cons, depsA_len all l, List.length_cons]
theorem fold_row (all : List StepD) (i : Nat) : ∀ (ats : List ByteArray) (rows : List (List Int)) (hi : i < rows.length),
    (ats.map fun a => ((i, a, idxStep all a 0) : RefD)).foldl stepRf rows = rows.set i ((ats.map fun a => idxStep all a 0).foldl (addRf i) rows[i])
  | [], rows, hi => by simp
  | a :: ats, rows, hi => by
    rw [List.map_cons, List.foldl_cons, List.map_cons, List.foldl_cons]
    have e : stepRf rows (i, a, idxStep all a 0) = rows.set i (addRf i rows[i] (idxStep all a 0)) := by
      unfold stepRf
      simp [hi]
    rw [e, fold_row all i ats _ (by simpa using hi)]
    simp
theorem fold_all (all : List StepD) : ∀ (l : List StepD) (i : Nat) (pre : List (List Int)), pre.length = i → (refsF all i l).foldl stepRf (pre ++ List.replicate l.length []) = pre ++ depsA all i l
  | [], i, pre, _ => by simp [refsF, depsA]
  | s :: l, i, pre, h => by
    subst h
    rw [refsF, List.foldl_append, rowRf, fold_row all pre.length s.after _ (by simp), depsA]
    have e1 : (pre ++ List.replicate (s :: l).length []).set pre.length ((s.after.map fun a => idxStep all a 0).foldl (addRf pre.length) (pre ++ List.replicate (s :: l).length [])[pre.length]) = (pre ++ [depsD all pre.length s]) ++ List.replicate l.length [] := by
      simp [List.replicate_succ, depsD]
    rw [e1, fold_all all l (pre.length + 1) (pre ++ [depsD all pre.length s]) (by simp)]
    simp
theorem rowsRf_all (all : List StepD) : rowsRf all.length (refsF all 0 all) = depsA all 0 all := by
  have := fold_all all all 0 [] rfl
  simpa [rowsRf] using this
theorem refsF_mem (all : List StepD) : ∀ (l : List StepD) (i : Nat) (r : RefD), r ∈ refsF all i l → i ≤ r.1 ∧ r.1 < i + l.length ∧ r.2.2 = idxStep all r.2.1 0 ∧ ∃ s, l[r.1 - i]? = some s ∧ r.2.1 ∈ s.after
  | [], i, r, h => by simp [refsF] at h
  | s :: l, i, r, h => by
    rw [refsF, List.mem_append] at h
    rcases h with h | h
    · unfold rowRf at h
      obtain ⟨a, ha, rfl⟩ := List.mem_map.1 h
      exact ⟨Nat.le_refl _, by simp, rfl, s, by simp, ha⟩
    · obtain ⟨h1, h2, h3, t, h4, h5⟩ := refsF_mem all l (i + 1) r h
      refine ⟨by omega, by simp; omega, h3, t, ?_, h5⟩
      rw [show r.1 - i = (r.1 - (i + 1)) + 1 by omega]
      simpa using h4

/-- Rows that a call owns, behind an array of them in block B; S: blocks that hold none of it. -/
def RowsAt (W : World) (S : Nat → Prop) (base B : Nat) (rows : List (List Int)) : Prop :=
  ∃ cs : List Value, cs.length = rows.length ∧ W.heap[B]? = some (.cells cs.toArray 49 (0, 0)) ∧ ¬ S B ∧
    (∀ (i : Nat) (r : List Int) (c : Value), rows[i]? = some r → cs[i]? = some c → W.ownsRow base 3 1 c r.length (ints .i64 r) ∧ ∀ g, c.ownBlock = some g → ¬ S g) ∧
    ∀ (i j : Nat) (c c' : Value) (g : Nat), i ≠ j → cs[i]? = some c → cs[j]? = some c' → c.ownBlock = some g → c'.ownBlock ≠ some g
theorem RowsAt.step {n0 : Nat} {S S' : Nat → Prop} {W W' : World} {base B : Nat} {rows : List (List Int)} (h : RowsAt W S base B rows) (hs : Step n0 S S' W W') : RowsAt W' S' base B rows := by
  obtain ⟨cs, h1, h2, h3, h4, h5⟩ := h
  have hl := (Array.getElem?_eq_some_iff.1 h2).1
  refine ⟨cs, h1, (hs.same B hl h3).trans h2, fun hs' => ?_, fun i r c hi hc => ?_, h5⟩
  · rcases hs.new B hs' with h | h
    · exact h3 h
    · omega
  · obtain ⟨q1, q2⟩ := h4 i r c hi hc
    exact hs.owns q1 q2
theorem RowsAt.below {S : Nat → Prop} {W W' : World} {base B : Nat} {rows : List (List Int)} (h : RowsAt W S base B rows) (hb : Below W.heap.size W W') : RowsAt W' S base B rows := by
  obtain ⟨cs, h1, h2, h3, h4, h5⟩ := h
  exact ⟨cs, h1, (hb.block B (Array.getElem?_eq_some_iff.1 h2).1).trans h2, h3, fun i r c hi hc => ⟨ownsB (h4 i r c hi hc).1 hb, (h4 i r c hi hc).2⟩, h5⟩
theorem RowsAt.drew {S : Nat → Prop} {W : World} {base B : Nat} {rows : List (List Int)} (h : RowsAt W S base B rows) : RowsAt W.drew S base B rows := h.below ((Below.refl _ _).drew)
theorem RowsAt.rows2 {S : Nat → Prop} {W : World} {base B : Nat} {rows : List (List Int)} (h : RowsAt W S base B rows) (hn : rows.length ≤ 1073741824) : Rows2 W (.slice (some ⟨B, 0, none⟩) rows.length rows.length) rows := by
  obtain ⟨cs, h1, h2, h3, h4, h5⟩ := h
  refine ⟨cs, ?_, h1, fun i r hi => ?_⟩
  · have := rds_rowK rows.length 1 h2 (by omega) (by omega)
    exact this
  · have hl : i < cs.length := by rw [h1]; exact (List.getElem?_eq_some_iff.1 hi).1
    exact ⟨cs[i], List.getElem?_eq_getElem hl, RdS.of_owns (h4 i r _ hi (List.getElem?_eq_getElem hl)).1⟩
theorem RowsAt.free {S : Nat → Prop} {W : World} {base B : Nat} {rows : List (List Int)} (h : RowsAt W S base B rows) : RowsAt W (fun _ => False) base B rows := by
  obtain ⟨cs, h1, h2, h3, h4, h5⟩ := h
  exact ⟨cs, h1, h2, id, fun i r c hi hc => ⟨(h4 i r c hi hc).1, fun _ _ h => h⟩, h5⟩
theorem RowsAt.same {S : Nat → Prop} {W W' : World} {base B : Nat} {rows : List (List Int)} (h : RowsAt W S base B rows) (hB : base ≤ B) (hs : ∀ q, base ≤ q → q < W.heap.size → W'.heap[q]? = W.heap[q]?) : RowsAt W' S base B rows := by
  obtain ⟨cs, h1, h2, h3, h4, h5⟩ := h
  refine ⟨cs, h1, (hs B hB (Array.getElem?_eq_some_iff.1 h2).1).trans h2, h3, fun i r c hi hc => ⟨?_, (h4 i r c hi hc).2⟩, h5⟩
  obtain ⟨q1, q2⟩ := (h4 i r c hi hc).1
  refine ⟨q1, ?_⟩
  rcases q2 with q2 | ⟨g, cap, cur, hv, hg, hh, rest⟩
  · exact .inl q2
  · exact .inr ⟨g, cap, cur, hv, hg, (hs g hg (Array.getElem?_eq_some_iff.1 hh).1).trans hh, rest⟩
theorem RowsAt.cell {S : Nat → Prop} {W : World} {base B : Nat} {rows : List (List Int)} (h : RowsAt W S base B rows) {i : Nat} (hi : i < rows.length) : ∃ va vc, W.cell? ⟨B, i, none⟩ = some (.slice va rows[i].length vc) ∧ W.frozen? ⟨B, i, none⟩ = false ∧ W.ownsRow base 3 1 (.slice va rows[i].length vc) rows[i].length (ints .i64 rows[i]) ∧ (Value.slice va rows[i].length vc).ownBlock ≠ some B := by
  obtain ⟨cs, h1, h2, h3, h4, h5⟩ := h
  have hl : i < cs.length := by omega
  obtain ⟨q1, q2⟩ := h4 i _ _ (List.getElem?_eq_getElem hi) (List.getElem?_eq_getElem hl)
  obtain ⟨va, vc, hv⟩ := (RdS.of_owns q1).form
  have hc : W.cell? ⟨B, i, none⟩ = some cs[i] := by simp [World.cell?, h2, hl]
  have hne : (cs[i]).ownBlock ≠ some B := fun e => by
    obtain ⟨cur, hq⟩ := owns_cells q1 e
    rw [h2] at hq
    cases hq
  rw [hv] at hc q1 hne
  exact ⟨va, vc, hc, by simp [World.frozen?, h2], q1, hne⟩
/-- One row is put on. -/
theorem RowsAt.push {n0 : Nat} {S : Nat → Prop} {W w1 : World} {base B vc cap g : Nat} {va : Option Addr} {rows : List (List Int)} {tmp : Obj} {x : Int} (h : RowsAt W S base B rows) {i : Nat} (hi : i < rows.length) (hcell : W.cell? ⟨B, i, none⟩ = some (.slice va rows[i].length vc)) (hn0 : n0 ≤ base) (hB : n0 ≤ B) (hW : n0 ≤ W.heap.size) (hS : ∀ k, S k → k < W.heap.size)
    (hown' : w1.ownsRow base 3 1 (.slice (some ⟨g, 0, none⟩) (rows[i].length + 1) cap) (rows[i].length + 1) (ints .i64 rows[i] ++ [.int .i64 x])) (hgrow : (W.alloc tmp).grownBy w1 (Value.slice va rows[i].length vc).ownBlock) (hat : (Value.slice va rows[i].length vc).ownBlock = some g ∨ g = W.heap.size + 1) :
    RowsAt (w1.setCell ⟨B, i, none⟩ (.slice (some ⟨g, 0, none⟩) (rows[i].length + 1) cap)) S base B (rows.set i (rows[i] ++ [x])) ∧ Keep n0 S W (w1.setCell ⟨B, i, none⟩ (.slice (some ⟨g, 0, none⟩) (rows[i].length + 1) cap)) ∧ (∀ (q : Nat) (o : Obj), W.heap[q]? = some o → q ≠ B → (Value.slice va rows[i].length vc).ownBlock ≠ some q → (w1.setCell ⟨B, i, none⟩ (.slice (some ⟨g, 0, none⟩) (rows[i].length + 1) cap)).heap[q]? = some o) ∧ W.heap.size ≤ (w1.setCell ⟨B, i, none⟩ (.slice (some ⟨g, 0, none⟩) (rows[i].length + 1) cap)).heap.size := by
  obtain ⟨cs, h1, h2, h3, h4, h5⟩ := h
  have hl : i < cs.length := by omega
  have hBl := (Array.getElem?_eq_some_iff.1 h2).1
  have hci : cs[i]? = some (.slice va rows[i].length vc) := by
    have hc : W.cell? ⟨B, i, none⟩ = some cs[i] := by simp [World.cell?, h2, hl]
    rw [hc] at hcell
    rw [List.getElem?_eq_getElem hl, hcell]
  obtain ⟨q1, q2⟩ := h4 i _ _ (List.getElem?_eq_getElem hi) hci
  have hoB : (Value.slice va rows[i].length vc).ownBlock ≠ some B := fun e => by
    obtain ⟨cur, hq⟩ := owns_cells q1 e
    rw [h2] at hq
    cases hq
  have hB1 : w1.heap[B]? = some (.cells cs.toArray 49 (0, 0)) := kept_push h2 hgrow hoB
  have hgB : g ≠ B := by
    rintro rfl
    rcases hat with h | h
    · exact hoB h
    · omega
  have hgS : ¬ S g := by
    rcases hat with h | h
    · exact q2 g h
    · exact fun hs => by have := hS g hs; omega
  have hsz : W.heap.size ≤ w1.heap.size := by have := hgrow.size; simp at this; omega
  have hnew : ∀ q, q ≠ B → (w1.setCell ⟨B, i, none⟩ (.slice (some ⟨g, 0, none⟩) (rows[i].length + 1) cap)).heap[q]? = w1.heap[q]? := fun q hq => Below.heap_setCell _ _ _ _ hq
  have hBn : (w1.setCell ⟨B, i, none⟩ (.slice (some ⟨g, 0, none⟩) (rows[i].length + 1) cap)).heap[B]? = some (.cells (cs.set i (.slice (some ⟨g, 0, none⟩) (rows[i].length + 1) cap)).toArray 49 (0, 0)) := by
    have := setCell_heap i (.slice (some ⟨g, 0, none⟩) (rows[i].length + 1) cap) hB1
    rw [this]
    simp
  refine ⟨⟨cs.set i (.slice (some ⟨g, 0, none⟩) (rows[i].length + 1) cap), by simpa using h1, hBn, h3, fun j r c hj hc => ?_, fun j k c c' b hjk hc hc' hb => ?_⟩, ⟨?_, fun k hk => ?_⟩, fun q o hq hqB hqo => ?_, by simp; exact hsz⟩
  · by_cases hji : j = i
    · subst hji
      simp [hi] at hj
      simp [hl] at hc
      subst hj hc
      refine ⟨?_, fun b hb => by simp [Value.ownBlock] at hb; subst hb; exact hgS⟩
      have e : ints .i64 (rows[j] ++ [x]) = ints .i64 rows[j] ++ [.int .i64 x] := by simp [ints]
      rw [e, List.length_append]
      exact hown'.kept (row := some B) ⟨rfl, rfl, rfl, by simp, fun k _ hk => Below.heap_setCell _ _ _ k (fun e => hk (by rw [e]))⟩ (.inr (by simp [Value.ownBlock]; exact hgB))
    · rw [List.getElem?_set_ne (Ne.symm hji)] at hj hc
      obtain ⟨r1, r2⟩ := h4 j r c hj hc
      refine ⟨?_, r2⟩
      have hne : c.ownBlock = none ∨ c.ownBlock ≠ (Value.slice va rows[i].length vc).ownBlock := by
        cases hcb : c.ownBlock with
        | none => exact .inl rfl
        | some b => exact .inr fun e => h5 j i _ _ b hji hc hci hcb e.symm
      have k1 := (r1.alloc tmp).kept hgrow hne
      refine k1.kept (row := some B) ⟨rfl, rfl, rfl, by simp, fun k _ hk => Below.heap_setCell _ _ _ k (fun e => hk (by rw [e]))⟩ (.inr fun e => ?_)
      obtain ⟨cur, hq⟩ := owns_cells r1 e
      rw [h2] at hq
      cases hq
  · have hgj : ∀ (j : Nat) (c : Value), j ≠ i → cs[j]? = some c → c.ownBlock ≠ some g := fun j c hj hc e => by
      rcases hat with h | h
      · exact h5 i j _ _ g (Ne.symm hj) hci hc h e
      · have hjl : j < rows.length := by have := (List.getElem?_eq_some_iff.1 hc).1; omega
        have := ((h4 j _ _ (List.getElem?_eq_getElem hjl) hc).1.lt g e).2
        omega
    by_cases hji : j = i
    · subst hji
      simp [hl] at hc
      subst hc
      simp [Value.ownBlock] at hb
      subst hb
      rw [List.getElem?_set_ne hjk] at hc'
      exact hgj k _ (Ne.symm hjk) hc'
    · rw [List.getElem?_set_ne (Ne.symm hji)] at hc
      by_cases hki : k = i
      · subst hki
        simp [hl] at hc'
        subst hc'
        intro e
        simp [Value.ownBlock] at e
        subst e
        exact hgj j _ hji hc hb
      · rw [List.getElem?_set_ne (Ne.symm hki)] at hc'
        exact h5 j k _ _ b hjk hc hc' hb
  · exact (((Below.refl n0 W).alloc hW tmp).grown hgrow (by simp; omega) fun j ej => Nat.le_trans hn0 (q1.lt j ej).1).setCell (p := ⟨B, i, none⟩) hB _
  · have hkB : k ≠ B := fun e => h3 (e ▸ hk)
    rw [hnew k hkB]
    have hko : (Value.slice va rows[i].length vc).ownBlock ≠ some k := fun e => q2 k e hk
    rw [hgrow.block k (by simp; have := hS k hk; omega) (fun e => hko e.symm)]
    exact Below.heap_alloc _ _ _ (hS k hk)
  · rw [hnew q hqB]
    exact kept_push hq hgrow hqo
theorem RowsAt.pushR {n0 : Nat} {S : Nat → Prop} {W w1 : World} {base B vc cap g : Nat} {va : Option Addr} {rows : List (List Int)} {tmp : Obj} {x : Int} (h : RowsAt W S base B rows) {i : Nat} (hi : i < rows.length) {row : List Int} (hrow : rows[i] = row) (hcell : W.cell? ⟨B, i, none⟩ = some (.slice va row.length vc)) (hn0 : n0 ≤ base) (hB : n0 ≤ B) (hW : n0 ≤ W.heap.size) (hS : ∀ k, S k → k < W.heap.size)
    (hown' : w1.ownsRow base 3 1 (.slice (some ⟨g, 0, none⟩) (row.length + 1) cap) (row.length + 1) (ints .i64 row ++ [.int .i64 x])) (hgrow : (W.alloc tmp).grownBy w1 (Value.slice va row.length vc).ownBlock) (hat : (Value.slice va row.length vc).ownBlock = some g ∨ g = W.heap.size + 1) :
    RowsAt (w1.setCell ⟨B, i, none⟩ (.slice (some ⟨g, 0, none⟩) (row.length + 1) cap)) S base B (rows.set i (row ++ [x])) ∧ Keep n0 S W (w1.setCell ⟨B, i, none⟩ (.slice (some ⟨g, 0, none⟩) (row.length + 1) cap)) ∧ (∀ (q : Nat) (o : Obj), W.heap[q]? = some o → q ≠ B → (Value.slice va row.length vc).ownBlock ≠ some q → (w1.setCell ⟨B, i, none⟩ (.slice (some ⟨g, 0, none⟩) (row.length + 1) cap)).heap[q]? = some o) ∧ W.heap.size ≤ (w1.setCell ⟨B, i, none⟩ (.slice (some ⟨g, 0, none⟩) (row.length + 1) cap)).heap.size := by
  subst hrow
  exact RowsAt.push h hi hcell hn0 hB hW hS hown' hgrow hat
/-- A drawn region in a round of a loop over a function. -/
theorem E_regionR {P : Program} {l : List Oper} {Q : Exit → Act → World → Prop} {S : World → Prop} {id lp : Nat} {a : Act} {w : World} (k : Nat) (hm : P.follows .mixedOrders = true) (hnd : noDefer l = true) (hS : S w.drew)
    (h : ∀ Q' : Exit → Act → World → Prop, (∀ c a (d : Tmp) v w, Q' (.panic c) (a.put (some d) v) w → Q' (.panic c) a w) → Shut (∀ a w, Q .normal a w → Q' .normal a w) → S w.drew →
      wpAnyE P .any l.toArray Q' S k l.toArray.size (Array.replicate l.toArray.size false) a w.drew) : (Code.region id l.toArray true).wpIn (Fence.wide.inRound lp) 0 P Q a w :=
  wpIn_region_any hm (anyIn_of_any lp (noDefer_spec hnd) _ _ _ _ (wpAny_of_E _ _ _ _ (h (onlyNormal Q) (fun _ _ _ _ _ h => absurd h.1 (by simp)) (fun _ _ h => ⟨rfl, h⟩) hS)))
theorem Try.info_rows : (Try.prog.info? 49).map (fun i => (i.zero, i.size, i.bytes)) = some (some (.slice none 0 0), 1, 24) := by kernel_rfl
theorem Try.info_int : (Try.prog.info? 3).map (fun i => (i.zero, i.size, i.bytes)) = some (some (.int .i64 0), 1, 8) := by kernel_rfl
theorem made_one (x : Value) (n : Nat) : madeCells #[x] n = (List.replicate n x).toArray := by
  apply Array.ext
  · simp [madeCells]
  · intro i h1 h2
    simp [madeCells, Nat.mod_one]
theorem make_rows (n : Nat) (w : World) (h : n ≤ 1073741824) : (Instr.makeSlice 47 (.int .i64 n) (.int .i64 n)).run Try.prog w = .ok (.slice (some ⟨w.heap.size, 0, none⟩) n n) (w.alloc (.cells (List.replicate n (Value.slice none 0 0)).toArray 49)) := by
  obtain ⟨i0, hi, hz0, hz1, hz2⟩ := info_parts Try.info_rows
  have := run_make (P := Try.prog) w 47 49 i0 (.slice none 0 0) Try.underlying47 hi hz0 .i64 .i64 n n (by omega) (by omega) (by rw [hz2]; omega) (by omega)
  rw [this, hz1]
  simp only [Int.toNat_natCast, Nat.mul_one]
  rw [show (Value.slice none 0 0).cells = #[.slice none 0 0] from rfl, made_one]
theorem rowsAt_made (W : World) (S : Nat → Prop) (base B n : Nat) (h : W.heap[B]? = some (.cells (List.replicate n (Value.slice none 0 0)).toArray 49 (0, 0))) (hS : ¬ S B) : RowsAt W S base B (List.replicate n []) := by
  refine ⟨List.replicate n (.slice none 0 0), by simp, h, hS, fun i r c hi hc => ?_, fun i j c c' g _ hc _ hg => ?_⟩
  · simp [List.getElem?_replicate] at hi hc
    obtain ⟨_, rfl⟩ := hi
    obtain ⟨_, rfl⟩ := hc
    exact ⟨World.ownsRow_nil _ _ _ _, fun g hg => by cases hg⟩
  · simp [List.getElem?_replicate] at hc
    obtain ⟨_, rfl⟩ := hc
    cases hg
end Go.Proofs.Ytkgcpbhlbfjcoaa

/-
  names.Refs: contract.
-/
namespace Go.Proofs.Ytkgcpbhlbfjcoaa
open Go.RowKit Go.WideShapes Go.Maps
attribute [local go_sem] Oper.semAt_some wide_fn wide_depth wide_fn' wide_depth'

theorem alloc4 (w : World) (o0 o1 o2 o3 : Obj) : Below w.heap.size w ((((w.alloc o0).alloc o1).alloc o2).alloc o3) ∧ ((((w.alloc o0).alloc o1).alloc o2).alloc o3).heap[w.heap.size]? = some o0 ∧ ((((w.alloc o0).alloc o1).alloc o2).alloc o3).heap[w.heap.size + 1]? = some o1 ∧ ((((w.alloc o0).alloc o1).alloc o2).alloc o3).heap[w.heap.size + 2]? = some o2 ∧ ((((w.alloc o0).alloc o1).alloc o2).alloc o3).heap[w.heap.size + 3]? = some o3 ∧ ((((w.alloc o0).alloc o1).alloc o2).alloc o3).heap.size = w.heap.size + 4 := by
  have e0 := World.alloc_heap_new w o0
  have e1 := World.alloc_heap_new (w.alloc o0) o1
  have e2 := World.alloc_heap_new ((w.alloc o0).alloc o1) o2
  have e3 := World.alloc_heap_new (((w.alloc o0).alloc o1).alloc o2) o3
  simp only [World.size_alloc] at e1 e2 e3
  refine ⟨((((Below.refl _ w).alloc (Nat.le_refl _) _).alloc (by simp only [World.size_alloc]; omega) _).alloc (by simp only [World.size_alloc]; omega) _).alloc (by simp only [World.size_alloc]; omega) _, ?_, ?_, ?_, e3, by simp⟩
  · rw [Below.heap_alloc _ _ _ (by simp only [World.size_alloc]; omega), Below.heap_alloc _ _ _ (by simp only [World.size_alloc]; omega), Below.heap_alloc _ _ _ (by simp only [World.size_alloc]; omega)]; exact e0
  · rw [Below.heap_alloc _ _ _ (by simp only [World.size_alloc]; omega), Below.heap_alloc _ _ _ (by simp only [World.size_alloc]; omega)]; exact e1
  · rw [Below.heap_alloc _ _ _ (by simp only [World.size_alloc]; omega)]; exact e2
def rfJ (w : World) (n : Nat) : (Nat → Prop) → List RefD → World → Prop := fun S pre W =>
  RowsAt W S (w.heap.size + 1) (w.heap.size + 1) (rowsRf n pre) ∧ Boxed W (w.heap.size + 2) 47 (.slice (some ⟨w.heap.size + 1, 0, none⟩) n n) ∧ ¬ S (w.heap.size + 2) ∧ Below w.heap.size w W
theorem rfJ_step (w : World) (n : Nat) : Stable (w.heap.size + 1) (rfJ w n) := by
  rintro S S' s W W' hS ⟨h0, h1, h2, h3⟩ hs
  exact ⟨h0.step hs, (hs.boxed h1 h2).1, (hs.boxed h1 h2).2, h3.trans (hs.below.mono (by omega))⟩

set_option maxRecDepth 100000 in
set_option maxHeartbeats 4000000 in
theorem nRefsA_any (d : DefD) (cs : List Value) (sa : Option Addr) (sc : Nat) (w : World) (h : DefR w cs d sa sc) (hlen : d.steps.length ≤ 1000000) (hrl : (refsF d.steps 0 d.steps).length ≤ 1000000) :
    Calls Try.prog 16 #[.agg cs.toArray] w fun e w' => e = .returned (.slice (some ⟨w.heap.size + 1, 0, none⟩) d.steps.length d.steps.length) ∧ RowsAt w' (fun _ => False) (w.heap.size + 1) (w.heap.size + 1) (depsA d.steps 0 d.steps) ∧ Below w.heap.size w w' := by
  obtain ⟨i0, hi, hz0, hz1, hz2⟩ := info_parts Try.info_int
  obtain ⟨rfl, hna, hta, hva⟩ := h
  obtain ⟨_, _, he1, hl1, hl2⟩ := hva.form
  cases he1
  have hmk : ∀ w : World, (Instr.makeSlice 47 (.int .i64 d.steps.length) (.int .i64 d.steps.length)).run Try.prog w = .ok (.slice (some ⟨w.heap.size, 0, none⟩) d.steps.length d.steps.length) (w.alloc (.cells (List.replicate d.steps.length (Value.slice none 0 0)).toArray 49)) := fun w => make_rows d.steps.length w (by omega)
  have g0 := World.alloc_heap_new w (.cells #[.string d.name, .string d.text, .slice sa d.steps.length sc] 24)
  obtain ⟨p0, p1, p2, -, -, -⟩ := cells3h g0
  have HVA := Lib.hid hva
  clear hva g0
  refine (callsIn_wide (n := 0)).1 ?_
  refine callsIn_of_wp_marks Try.func16 rfl trivial ?_ rfl
  simp only [Try.ntmps16, List.size_toArray, List.length_cons, List.length_nil, Nat.reduceAdd, Nat.reduceSub, Array.replicate_succ, Array.replicate_zero, List.push_toArray, List.append_toArray, List.nil_append, List.cons_append]
  gi_wp2_with fail
  refine (callsIn_wide.2 (refs_any _ rfl _)).mono ?_
  rintro e w4 ⟨rfl, rfl⟩
  have hal := alloc4 w (.cells #[.string d.name, .string d.text, .slice sa d.steps.length sc] 24) (.cells (Array.replicate d.steps.length (Value.slice none 0 0)) 49) (.cells #[.slice (some ⟨w.heap.size + 1, 0, none⟩) d.steps.length d.steps.length] 47) (.cells #[.string d.name, .string d.text, .slice sa d.steps.length sc] 24)
  obtain ⟨gbl, g0, g1, g2, g3, hsz⟩ := hal
  clear p0 p1 p2 hmk
  gi_wp2_with fail
  generalize ((((w.alloc (.cells #[.string d.name, .string d.text, .slice sa d.steps.length sc] 24)).alloc (.cells (Array.replicate d.steps.length (Value.slice none 0 0)) 49)).alloc (.cells #[.slice (some ⟨w.heap.size + 1, 0, none⟩) d.steps.length d.steps.length] 47)).alloc (.cells #[.string d.name, .string d.text, .slice sa d.steps.length sc] 24)) = w4 at *
  have HRM := Lib.hid (fun r => refsF_mem d.steps d.steps 0 r)
  refine' wpIn_rf rfl (enters_of Try.func90 (by kernel_rfl) rfl) (refs_iter d sa sc (w.heap.size + 1) (w.heap.size + 3) w w4 (by omega) (by omega) g3 hna hta HVA.out hlen gbl (by omega)) (by omega) (by rintro j rfl; omega) (fun _ => rfl)
    (rfJ w d.steps.length) (fun _ => fun _ _ _ => False) ?hfin ?hJ ?hJx ?h0 ?Ax ?hAx ?assign ?body ?done ?stop
  case hfin => exact fun h => absurd trivial h
  case hJ => exact rfJ_step w d.steps.length
  case hJx => exact fun _ _ _ _ _ _ _ h _ => h
  case h0 => exact ⟨rowsAt_made w4 _ _ _ d.steps.length (by simpa using g1) (by omega), g2, by omega, gbl⟩
  case Ax => exact fun y a' W => ∃ b, a' = { tmps := #[.agg #[.string d.name, .string d.text, .slice sa d.steps.length sc], .pointer (some ⟨w.heap.size, 0, none⟩), .slice none 0 0, .pointer (some ⟨w.heap.size + 1 + 1, 0, none⟩), .pointer (some ⟨b, 0, none⟩), .pointer (some ⟨w.heap.size, 2, none⟩), .slice sa d.steps.length sc, .int .i64 (d.steps.length : Int), .slice (some ⟨w.heap.size + 1, 0, none⟩) d.steps.length d.steps.length, .agg #[.string d.name, .string d.text, .slice sa d.steps.length sc], .func (.func 90) #[] #[.pointer (some ⟨w.heap.size + 1 + 1 + 1, 0, none⟩)], .agg #[.int .i64 (y.1 : Int), .string y.2.1, .int .i64 y.2.2], undef, undef, undef, undef, undef, undef, undef, undef, undef, undef, undef, undef, undef, undef, undef, undef, undef, undef, undef, undef, undef, undef, undef, undef, undef, undef, undef, undef, undef, undef, undef, undef, undef, undef, undef], defers := [] } ∧ W.heap[b]? = some (.cells #[.int .i64 (y.1 : Int), .string y.2.1, .int .i64 y.2.2] 102 (0, 0))
  case hAx =>
    rintro y a' l W W' hl hlt ⟨b, rfl, hb⟩ hs ⟨r, hr⟩
    have hne : b ≠ l := by rintro rfl; rw [hr] at hb; cases hb
    exact ⟨b, rfl, (hs.same b (Array.getElem?_eq_some_iff.1 hb).1 hne).trans hb⟩
  case assign =>
    rintro l S pre ⟨i, a, tt⟩ W K hS hw hj hpre hK
    dsimp only [encRf]
    have HS := Lib.hid hS
    have HK := Lib.hid hK
    have HJ := Lib.hid hj
    have hsW : w.heap.size + 1 ≤ W.heap.size := by omega
    clear hS hK hj
    gi_wp2_with fail
    have hal : Below W.heap.size W (W.alloc (.cells #[.int .i64 (i : Int), .string a, .int .i64 tt] 102)) := (Below.refl _ _).alloc (Nat.le_refl _) _
    refine HK.out _ _ ⟨hal.mono hsW, fun j hj => hal.block j (HS.out j hj).2⟩ (rfJ_step w d.steps.length S S _ _ _ HS.out HJ.out (Step.of_below hsW hal)) ⟨W.heap.size, rfl, World.alloc_heap_new W _⟩
  case done =>
    rintro D S W hD hS hSD ⟨h0, h1, h2, h3⟩ hKD
    have hc := h1.cell
    have H0 := Lib.hid h0
    have H3 := Lib.hid h3
    have HS := Lib.hid hS
    have HSP := Lib.hid (Step.putObj (n0 := w.heap.size + 1) (S := S) (W := W) (.deferred none) hSD (hS D hSD).1)
    clear h0 h3 hS
    gi_wp2
    refine ⟨by simp, .inl ⟨_, _, rfl, run_takeDeferred hKD, ?_⟩⟩
    have hr := (H0.out.step HSP.out).free
    rw [rowsRf_all] at hr
    refine ⟨_, results_tmp rfl _ _ _, rfl, ?_, H3.out.trans (below_putObj _ _ (by omega))⟩
    exact hr
  case stop => exact fun _ _ _ _ _ _ _ _ _ h => h.elim
  case body =>
    rintro l S pre ⟨i, a, tt⟩ a' W hS hw hSl - ⟨h0, h1, h2, h3⟩ ⟨b, rfl, hb⟩ hpre
    obtain ⟨-, hi0, -, -⟩ := HRM.out _ (hpre.subset (by simp : ((i, a, tt) : RefD) ∈ pre ++ [(i, a, tt)]))
    simp only [Nat.zero_add] at hi0
    have hpl := hpre.length_le
    rw [List.length_append, List.length_singleton] at hpl
    have hir : i < (rowsRf d.steps.length pre).length := by rw [rowsRf_len]; exact hi0
    have hrwl := rowsRf_row d.steps.length pre _ (List.getElem_mem hir)
    obtain ⟨va, vc, y0, yf, how, hneB⟩ := h0.cell hir
    have HOW := Lib.hid how
    have HRW := Lib.hid (RdS.of_owns how)
    have hSN : Hid (rowsRf d.steps.length (pre ++ [(i, a, tt)]) = (rowsRf d.steps.length pre).set i (addRf i (rowsRf d.steps.length pre)[i] tt)) := Lib.hid (by rw [rowsRf_snoc]; unfold stepRf; simp [hir])
    have hsW : w.heap.size + 1 ≤ W.heap.size := by omega
    have HSl : Hid (∀ k, S k → k < W.heap.size) := Lib.hid (fun k hk => (hS k hk).2)
    obtain ⟨p0, p1, p2, -, -, -⟩ := cells3h hb
    have q1 := h1.cell
    have HBX := Lib.hid h1
    have HB4 := Lib.hid hb
    have H2 := Lib.hid h2
    have H3 := Lib.hid h3
    have H0 := Lib.hid h0
    have hi1 : (i : Int) < (d.steps.length : Int) := by omega
    have hn63 : d.steps.length ≤ 9223372036854775807 := by omega
    have hBl : w.heap.size + 1 < W.heap.size := World.block_lt_of_cell? W _ y0
    have hneb : (Value.slice va (rowsRf d.steps.length pre)[i].length vc).ownBlock ≠ some b := fun e => by
      obtain ⟨cur, hc⟩ := owns_cells how e
      rw [hb] at hc
      cases hc
    have hnex : (Value.slice va (rowsRf d.steps.length pre)[i].length vc).ownBlock ≠ some (w.heap.size + 2) := fun e => by
      obtain ⟨cur, hc⟩ := owns_cells how e
      rw [show W.heap[w.heap.size + 2]? = _ from h1] at hc
      cases hc
    have HKEEP : Hid (rowsRf d.steps.length pre = (rowsRf d.steps.length pre).set i (rowsRf d.steps.length pre)[i]) := Lib.hid (by simp)
    clear hS h0 h1 h2 h3 hb hpre how
    have hrw0 : (rowsRf d.steps.length pre)[i].length ≤ 1000000 := by omega
    clear hrwl hpl
    generalize hrr : rowsRf d.steps.length pre = rows at *
    generalize hrw : rows[i] = row at *
    obtain ⟨n, hn⟩ : ∃ n, d.steps.length = n := ⟨_, rfl⟩
    rw [hn] at q1 hi1 hn63 ⊢
    have HC3 := Lib.hid (fun (W : World) (h : RdS W (.slice va row.length vc) 1 row.length (ints .i64 row)) => Contains_any row tt _ W h)
    have HAD : Hid (addRf i row tt = if 0 ≤ tt ∧ tt ≠ i ∧ tt ∉ row then row ++ [tt] else row) := Lib.hid rfl
    dsimp only
    gi_upto_region 4 with fail
    gi_cut [32] from 12 (fun s32 wx => s32 = .bool (decide (0 ≤ tt ∧ tt ≠ i ∧ tt ∉ row)) ∧ wx = W.drew)
    case first =>
      by_cases c1 : 0 ≤ tt
      case neg =>
        have d1 : decide (0 ≤ tt) = false := decide_eq_false c1
        have hF : Hid (decide (0 ≤ tt ∧ tt ≠ i ∧ tt ∉ row) = false) := Lib.hid (decide_eq_false fun h => c1 h.1)
        clear c1
        refine E_regionR (S := (fun W => W.cell? ⟨b, 0, none⟩ = some (.int .i64 (i : Int)) ∧ W.cell? ⟨b, 2, none⟩ = some (.int .i64 tt) ∧ W.cell? ⟨w.heap.size + 2, 0, none⟩ = some (.slice (some ⟨w.heap.size + 1, 0, none⟩) n n) ∧ W.cell? ⟨w.heap.size + 1, i, none⟩ = some (.slice va row.length vc))) 20 (by kernel_rfl) (by kernel_rfl) ⟨p0, p2, q1, y0⟩ (fun Q' hQ hK' hHeld => ?_)
        refine E_take0 hQ (fun _ => hHeld) 0 (v := ?eav1) rfl rfl (by kernel_rfl) (by kernel_rfl) (by kernel_rfl) (by decide) (by rfl) ?eay1 ?ear1
        case eay1 => (intro w; go_simp; (try with_reducible rfl))
        (try simp only [Act.put, List.setIfInBounds_toArray, List.set_cons_zero, List.set_cons_succ])
        refine E_take hQ hHeld 1 (v := ?eav2) rfl rfl (by kernel_rfl) (by kernel_rfl) (by kernel_rfl) (by kernel_rfl) (by kernel_rfl) (by rfl) ?eay2 ?ear2
        case eay2 => (intro w hSw; (try dsimp only at hSw); go_simp; (try with_reducible rfl))
        (try simp only [Act.put, List.setIfInBounds_toArray, List.set_cons_zero, List.set_cons_succ])
        refine E_take0 hQ (fun _ => hHeld) 2 (v := ?eav3) rfl rfl (by kernel_rfl) (by kernel_rfl) (by kernel_rfl) (by decide) (by rfl) ?eay3 ?ear3
        case eay3 => (intro w; go_simp; (try with_reducible rfl))
        (try simp only [Act.put, List.setIfInBounds_toArray, List.set_cons_zero, List.set_cons_succ])
        refine E_take0 hQ (fun _ => hHeld) 3 (v := ?eav4) rfl rfl (by kernel_rfl) (by kernel_rfl) (by kernel_rfl) (by decide) (by rfl) ?eay4 ?ear4
        case eay4 => (intro w; go_simp; (try with_reducible rfl))
        (try simp only [Act.put, List.setIfInBounds_toArray, List.set_cons_zero, List.set_cons_succ])
        refine E_off hQ (fun _ => hHeld) 4 rfl rfl (by kernel_rfl) (by kernel_rfl) (by kernel_rfl) (by decide) (by rfl) ?_
        (try simp only [Act.put, List.setIfInBounds_toArray, List.set_cons_zero, List.set_cons_succ])
        refine E_off hQ (fun _ => hHeld) 5 rfl rfl (by kernel_rfl) (by kernel_rfl) (by kernel_rfl) (by decide) (by rfl) ?_
        (try simp only [Act.put, List.setIfInBounds_toArray, List.set_cons_zero, List.set_cons_succ])
        refine E_off hQ (fun _ => hHeld) 6 rfl rfl (by kernel_rfl) (by kernel_rfl) (by kernel_rfl) (by decide) (by rfl) ?_
        (try simp only [Act.put, List.setIfInBounds_toArray, List.set_cons_zero, List.set_cons_succ])
        refine E_off hQ (fun _ => hHeld) 7 rfl rfl (by kernel_rfl) (by kernel_rfl) (by kernel_rfl) (by decide) (by rfl) ?_
        (try simp only [Act.put, List.setIfInBounds_toArray, List.set_cons_zero, List.set_cons_succ])
        refine E_off hQ (fun _ => hHeld) 8 rfl rfl (by kernel_rfl) (by kernel_rfl) (by kernel_rfl) (by decide) (by rfl) ?_
        (try simp only [Act.put, List.setIfInBounds_toArray, List.set_cons_zero, List.set_cons_succ])
        refine E_take0 hQ (fun _ => hHeld) 9 (v := ?eav10) rfl rfl (by kernel_rfl) (by kernel_rfl) (by kernel_rfl) (by decide) (by rfl) ?eay10 ?ear10
        case eay10 => (intro w; go_simp; (try with_reducible rfl))
        (try simp only [Act.put, List.setIfInBounds_toArray, List.set_cons_zero, List.set_cons_succ])
        refine E_take0 hQ (fun _ => hHeld) 10 (v := ?eav11) rfl rfl (by kernel_rfl) (by kernel_rfl) (by kernel_rfl) (by decide) (by rfl) ?eay11 ?ear11
        case eay11 => (intro w; go_simp; (try with_reducible rfl))
        (try simp only [Act.put, List.setIfInBounds_toArray, List.set_cons_zero, List.set_cons_succ])
        refine E_off hQ (fun _ => hHeld) 11 rfl rfl (by kernel_rfl) (by kernel_rfl) (by kernel_rfl) (by decide) (by rfl) ?_
        (try simp only [Act.put, List.setIfInBounds_toArray, List.set_cons_zero, List.set_cons_succ])
        refine E_off hQ (fun _ => hHeld) 12 rfl rfl (by kernel_rfl) (by kernel_rfl) (by kernel_rfl) (by decide) (by rfl) ?_
        (try simp only [Act.put, List.setIfInBounds_toArray, List.set_cons_zero, List.set_cons_succ])
        refine E_off hQ (fun _ => hHeld) 13 rfl rfl (by kernel_rfl) (by kernel_rfl) (by kernel_rfl) (by decide) (by rfl) ?_
        (try simp only [Act.put, List.setIfInBounds_toArray, List.set_cons_zero, List.set_cons_succ])
        refine E_off hQ (fun _ => hHeld) 14 rfl rfl (by kernel_rfl) (by kernel_rfl) (by kernel_rfl) (by decide) (by rfl) ?_
        (try simp only [Act.put, List.setIfInBounds_toArray, List.set_cons_zero, List.set_cons_succ])
        refine E_off hQ (fun _ => hHeld) 15 rfl rfl (by kernel_rfl) (by kernel_rfl) (by kernel_rfl) (by decide) (by rfl) ?_
        (try simp only [Act.put, List.setIfInBounds_toArray, List.set_cons_zero, List.set_cons_succ])
        refine E_off hQ (fun _ => hHeld) 16 rfl rfl (by kernel_rfl) (by kernel_rfl) (by kernel_rfl) (by decide) (by rfl) ?_
        (try simp only [Act.put, List.setIfInBounds_toArray, List.set_cons_zero, List.set_cons_succ])
        refine E_off hQ (fun _ => hHeld) 17 rfl rfl (by kernel_rfl) (by kernel_rfl) (by kernel_rfl) (by decide) (by rfl) ?_
        (try simp only [Act.put, List.setIfInBounds_toArray, List.set_cons_zero, List.set_cons_succ])
        refine E_off hQ (fun _ => hHeld) 18 rfl rfl (by kernel_rfl) (by kernel_rfl) (by kernel_rfl) (by decide) (by rfl) ?_
        (try simp only [Act.put, List.setIfInBounds_toArray, List.set_cons_zero, List.set_cons_succ])
        refine E_off hQ (fun _ => hHeld) 19 rfl rfl (by kernel_rfl) (by kernel_rfl) (by kernel_rfl) (by decide) (by rfl) ?_
        (try simp only [Act.put, List.setIfInBounds_toArray, List.set_cons_zero, List.set_cons_succ])
        refine E_one 20 (by kernel_rfl) rfl (by rfl) (fun K hK => ?_)
        go_simp
        (try simp only [Act.put, List.setIfInBounds_toArray, List.set_cons_zero, List.set_cons_succ])
        refine hK.out _ _ (fun _ h => absurd rfl h) (fun _ => ?_)
        clear hK hHeld
        (try simp only [Act.put, List.setIfInBounds_toArray, List.set_cons_zero, List.set_cons_succ])
        refine E_done (by kernel_rfl) ?_ _
        refine hK'.out _ _ ?_
        gi_wp2_with fail
        gi_meet
        exact ⟨by rw [hF.out], rfl⟩
      have d1 : decide (0 ≤ tt) = true := decide_eq_true c1
      by_cases c2 : tt = i
      case pos =>
        have d2 : (tt != (i : Int)) = false := by simpa using c2
        have hF : Hid (decide (0 ≤ tt ∧ tt ≠ i ∧ tt ∉ row) = false) := Lib.hid (decide_eq_false fun h => h.2.1 c2)
        clear c1 c2
        refine E_regionR (S := (fun W => W.cell? ⟨b, 0, none⟩ = some (.int .i64 (i : Int)) ∧ W.cell? ⟨b, 2, none⟩ = some (.int .i64 tt) ∧ W.cell? ⟨w.heap.size + 2, 0, none⟩ = some (.slice (some ⟨w.heap.size + 1, 0, none⟩) n n) ∧ W.cell? ⟨w.heap.size + 1, i, none⟩ = some (.slice va row.length vc))) 20 (by kernel_rfl) (by kernel_rfl) ⟨p0, p2, q1, y0⟩ (fun Q' hQ hK' hHeld => ?_)
        refine E_take0 hQ (fun _ => hHeld) 0 (v := ?ebv1) rfl rfl (by kernel_rfl) (by kernel_rfl) (by kernel_rfl) (by decide) (by rfl) ?eby1 ?ebr1
        case eby1 => (intro w; go_simp; (try with_reducible rfl))
        (try simp only [Act.put, List.setIfInBounds_toArray, List.set_cons_zero, List.set_cons_succ])
        refine E_take hQ hHeld 1 (v := ?ebv2) rfl rfl (by kernel_rfl) (by kernel_rfl) (by kernel_rfl) (by kernel_rfl) (by kernel_rfl) (by rfl) ?eby2 ?ebr2
        case eby2 => (intro w hSw; (try dsimp only at hSw); go_simp; (try with_reducible rfl))
        (try simp only [Act.put, List.setIfInBounds_toArray, List.set_cons_zero, List.set_cons_succ])
        refine E_take0 hQ (fun _ => hHeld) 2 (v := ?ebv3) rfl rfl (by kernel_rfl) (by kernel_rfl) (by kernel_rfl) (by decide) (by rfl) ?eby3 ?ebr3
        case eby3 => (intro w; go_simp; (try with_reducible rfl))
        (try simp only [Act.put, List.setIfInBounds_toArray, List.set_cons_zero, List.set_cons_succ])
        refine E_take0 hQ (fun _ => hHeld) 3 (v := ?ebv4) rfl rfl (by kernel_rfl) (by kernel_rfl) (by kernel_rfl) (by decide) (by rfl) ?eby4 ?ebr4
        case eby4 => (intro w; go_simp; (try with_reducible rfl))
        (try simp only [Act.put, List.setIfInBounds_toArray, List.set_cons_zero, List.set_cons_succ])
        refine E_take0 hQ (fun _ => hHeld) 4 (v := ?ebv5) rfl rfl (by kernel_rfl) (by kernel_rfl) (by kernel_rfl) (by decide) (by rfl) ?eby5 ?ebr5
        case eby5 => (intro w; go_simp; (try with_reducible rfl))
        (try simp only [Act.put, List.setIfInBounds_toArray, List.set_cons_zero, List.set_cons_succ])
        refine E_take hQ hHeld 5 (v := ?ebv6) rfl rfl (by kernel_rfl) (by kernel_rfl) (by kernel_rfl) (by kernel_rfl) (by kernel_rfl) (by rfl) ?eby6 ?ebr6
        case eby6 => (intro w hSw; (try dsimp only at hSw); go_simp; (try with_reducible rfl))
        (try simp only [Act.put, List.setIfInBounds_toArray, List.set_cons_zero, List.set_cons_succ])
        refine E_take0 hQ (fun _ => hHeld) 6 (v := ?ebv7) rfl rfl (by kernel_rfl) (by kernel_rfl) (by kernel_rfl) (by decide) (by rfl) ?eby7 ?ebr7
        case eby7 => (intro w; go_simp; (try with_reducible rfl))
        (try simp only [Act.put, List.setIfInBounds_toArray, List.set_cons_zero, List.set_cons_succ])
        refine E_take hQ hHeld 7 (v := ?ebv8) rfl rfl (by kernel_rfl) (by kernel_rfl) (by kernel_rfl) (by kernel_rfl) (by kernel_rfl) (by rfl) ?eby8 ?ebr8
        case eby8 => (intro w hSw; (try dsimp only at hSw); go_simp; (try with_reducible rfl))
        (try simp only [Act.put, List.setIfInBounds_toArray, List.set_cons_zero, List.set_cons_succ])
        refine E_take0 hQ (fun _ => hHeld) 8 (v := ?ebv9) rfl rfl (by kernel_rfl) (by kernel_rfl) (by kernel_rfl) (by decide) (by rfl) ?eby9 ?ebr9
        case eby9 => (intro w; go_simp; (try with_reducible rfl))
        (try simp only [Act.put, List.setIfInBounds_toArray, List.set_cons_zero, List.set_cons_succ])
        refine E_take0 hQ (fun _ => hHeld) 9 (v := ?ebv10) rfl rfl (by kernel_rfl) (by kernel_rfl) (by kernel_rfl) (by decide) (by rfl) ?eby10 ?ebr10
        case eby10 => (intro w; go_simp; (try with_reducible rfl))
        (try simp only [Act.put, List.setIfInBounds_toArray, List.set_cons_zero, List.set_cons_succ])
        refine E_take0 hQ (fun _ => hHeld) 10 (v := ?ebv11) rfl rfl (by kernel_rfl) (by kernel_rfl) (by kernel_rfl) (by decide) (by rfl) ?eby11 ?ebr11
        case eby11 => (intro w; go_simp; (try with_reducible rfl))
        (try simp only [Act.put, List.setIfInBounds_toArray, List.set_cons_zero, List.set_cons_succ])
        refine E_off hQ (fun _ => hHeld) 11 rfl rfl (by kernel_rfl) (by kernel_rfl) (by kernel_rfl) (by decide) (by rfl) ?_
        (try simp only [Act.put, List.setIfInBounds_toArray, List.set_cons_zero, List.set_cons_succ])
        refine E_off hQ (fun _ => hHeld) 12 rfl rfl (by kernel_rfl) (by kernel_rfl) (by kernel_rfl) (by decide) (by rfl) ?_
        (try simp only [Act.put, List.setIfInBounds_toArray, List.set_cons_zero, List.set_cons_succ])
        refine E_off hQ (fun _ => hHeld) 13 rfl rfl (by kernel_rfl) (by kernel_rfl) (by kernel_rfl) (by decide) (by rfl) ?_
        (try simp only [Act.put, List.setIfInBounds_toArray, List.set_cons_zero, List.set_cons_succ])
        refine E_off hQ (fun _ => hHeld) 14 rfl rfl (by kernel_rfl) (by kernel_rfl) (by kernel_rfl) (by decide) (by rfl) ?_
        (try simp only [Act.put, List.setIfInBounds_toArray, List.set_cons_zero, List.set_cons_succ])
        refine E_off hQ (fun _ => hHeld) 15 rfl rfl (by kernel_rfl) (by kernel_rfl) (by kernel_rfl) (by decide) (by rfl) ?_
        (try simp only [Act.put, List.setIfInBounds_toArray, List.set_cons_zero, List.set_cons_succ])
        refine E_off hQ (fun _ => hHeld) 16 rfl rfl (by kernel_rfl) (by kernel_rfl) (by kernel_rfl) (by decide) (by rfl) ?_
        (try simp only [Act.put, List.setIfInBounds_toArray, List.set_cons_zero, List.set_cons_succ])
        refine E_off hQ (fun _ => hHeld) 17 rfl rfl (by kernel_rfl) (by kernel_rfl) (by kernel_rfl) (by decide) (by rfl) ?_
        (try simp only [Act.put, List.setIfInBounds_toArray, List.set_cons_zero, List.set_cons_succ])
        refine E_off hQ (fun _ => hHeld) 18 rfl rfl (by kernel_rfl) (by kernel_rfl) (by kernel_rfl) (by decide) (by rfl) ?_
        (try simp only [Act.put, List.setIfInBounds_toArray, List.set_cons_zero, List.set_cons_succ])
        refine E_off hQ (fun _ => hHeld) 19 rfl rfl (by kernel_rfl) (by kernel_rfl) (by kernel_rfl) (by decide) (by rfl) ?_
        (try simp only [Act.put, List.setIfInBounds_toArray, List.set_cons_zero, List.set_cons_succ])
        refine E_one 20 (by kernel_rfl) rfl (by rfl) (fun K hK => ?_)
        go_simp
        (try simp only [Act.put, List.setIfInBounds_toArray, List.set_cons_zero, List.set_cons_succ])
        refine hK.out _ _ (fun _ h => absurd rfl h) (fun _ => ?_)
        clear hK hHeld
        (try simp only [Act.put, List.setIfInBounds_toArray, List.set_cons_zero, List.set_cons_succ])
        refine E_done (by kernel_rfl) ?_ _
        refine hK'.out _ _ ?_
        gi_wp2_with fail
        gi_meet
        exact ⟨by rw [hF.out], rfl⟩
      have d2 : (tt != (i : Int)) = true := by simpa using c2
      have hF : Hid (decide (0 ≤ tt ∧ tt ≠ i ∧ tt ∉ row) = !decide (tt ∈ row)) := Lib.hid (by simp [c1, c2])
      clear c1 c2
      generalize decide (tt ∈ row) = b3 at *
      refine E_regionR (S := (fun W => W.cell? ⟨b, 0, none⟩ = some (.int .i64 (i : Int)) ∧ W.cell? ⟨b, 2, none⟩ = some (.int .i64 tt) ∧ W.cell? ⟨w.heap.size + 2, 0, none⟩ = some (.slice (some ⟨w.heap.size + 1, 0, none⟩) n n) ∧ W.cell? ⟨w.heap.size + 1, i, none⟩ = some (.slice va row.length vc))) 18 (by kernel_rfl) (by kernel_rfl) ⟨p0, p2, q1, y0⟩ (fun Q' hQ hK' hHeld => ?_)
      refine E_take0 hQ (fun _ => hHeld) 0 (v := ?ev1) rfl rfl (by kernel_rfl) (by kernel_rfl) (by kernel_rfl) (by decide) (by rfl) ?ey1 ?er1
      case ey1 => (intro w; go_simp; (try with_reducible rfl))
      (try simp only [Act.put, List.setIfInBounds_toArray, List.set_cons_zero, List.set_cons_succ])
      refine E_take hQ hHeld 1 (v := ?ev2) rfl rfl (by kernel_rfl) (by kernel_rfl) (by kernel_rfl) (by kernel_rfl) (by kernel_rfl) (by rfl) ?ey2 ?er2
      case ey2 => (intro w hSw; (try dsimp only at hSw); go_simp; (try with_reducible rfl))
      (try simp only [Act.put, List.setIfInBounds_toArray, List.set_cons_zero, List.set_cons_succ])
      refine E_take0 hQ (fun _ => hHeld) 2 (v := ?ev3) rfl rfl (by kernel_rfl) (by kernel_rfl) (by kernel_rfl) (by decide) (by rfl) ?ey3 ?er3
      case ey3 => (intro w; go_simp; (try with_reducible rfl))
      (try simp only [Act.put, List.setIfInBounds_toArray, List.set_cons_zero, List.set_cons_succ])
      refine E_take0 hQ (fun _ => hHeld) 3 (v := ?ev4) rfl rfl (by kernel_rfl) (by kernel_rfl) (by kernel_rfl) (by decide) (by rfl) ?ey4 ?er4
      case ey4 => (intro w; go_simp; (try with_reducible rfl))
      (try simp only [Act.put, List.setIfInBounds_toArray, List.set_cons_zero, List.set_cons_succ])
      refine E_take0 hQ (fun _ => hHeld) 4 (v := ?ev5) rfl rfl (by kernel_rfl) (by kernel_rfl) (by kernel_rfl) (by decide) (by rfl) ?ey5 ?er5
      case ey5 => (intro w; go_simp; (try with_reducible rfl))
      (try simp only [Act.put, List.setIfInBounds_toArray, List.set_cons_zero, List.set_cons_succ])
      refine E_take hQ hHeld 5 (v := ?ev6) rfl rfl (by kernel_rfl) (by kernel_rfl) (by kernel_rfl) (by kernel_rfl) (by kernel_rfl) (by rfl) ?ey6 ?er6
      case ey6 => (intro w hSw; (try dsimp only at hSw); go_simp; (try with_reducible rfl))
      (try simp only [Act.put, List.setIfInBounds_toArray, List.set_cons_zero, List.set_cons_succ])
      refine E_take0 hQ (fun _ => hHeld) 6 (v := ?ev7) rfl rfl (by kernel_rfl) (by kernel_rfl) (by kernel_rfl) (by decide) (by rfl) ?ey7 ?er7
      case ey7 => (intro w; go_simp; (try with_reducible rfl))
      (try simp only [Act.put, List.setIfInBounds_toArray, List.set_cons_zero, List.set_cons_succ])
      refine E_take hQ hHeld 7 (v := ?ev8) rfl rfl (by kernel_rfl) (by kernel_rfl) (by kernel_rfl) (by kernel_rfl) (by kernel_rfl) (by rfl) ?ey8 ?er8
      case ey8 => (intro w hSw; (try dsimp only at hSw); go_simp; (try with_reducible rfl))
      (try simp only [Act.put, List.setIfInBounds_toArray, List.set_cons_zero, List.set_cons_succ])
      refine E_take0 hQ (fun _ => hHeld) 8 (v := ?ev9) rfl rfl (by kernel_rfl) (by kernel_rfl) (by kernel_rfl) (by decide) (by rfl) ?ey9 ?er9
      case ey9 => (intro w; go_simp; (try with_reducible rfl))
      (try simp only [Act.put, List.setIfInBounds_toArray, List.set_cons_zero, List.set_cons_succ])
      refine E_take0 hQ (fun _ => hHeld) 9 (v := ?ev10) rfl rfl (by kernel_rfl) (by kernel_rfl) (by kernel_rfl) (by decide) (by rfl) ?ey10 ?er10
      case ey10 => (intro w; go_simp; (try with_reducible rfl))
      (try simp only [Act.put, List.setIfInBounds_toArray, List.set_cons_zero, List.set_cons_succ])
      refine E_take0 hQ (fun _ => hHeld) 10 (v := ?ev11) rfl rfl (by kernel_rfl) (by kernel_rfl) (by kernel_rfl) (by decide) (by rfl) ?ey11 ?er11
      case ey11 => (intro w; go_simp; (try with_reducible rfl))
      (try simp only [Act.put, List.setIfInBounds_toArray, List.set_cons_zero, List.set_cons_succ])
      refine E_take hQ hHeld 11 (v := ?ev12) rfl rfl (by kernel_rfl) (by kernel_rfl) (by kernel_rfl) (by kernel_rfl) (by kernel_rfl) (by rfl) ?ey12 ?er12
      case ey12 => (intro w hSw; (try dsimp only at hSw); go_simp; (try with_reducible rfl))
      (try simp only [Act.put, List.setIfInBounds_toArray, List.set_cons_zero, List.set_cons_succ])
      refine E_take0 hQ (fun _ => hHeld) 12 (v := ?ev13) rfl rfl (by kernel_rfl) (by kernel_rfl) (by kernel_rfl) (by decide) (by rfl) ?ey13 ?er13
      case ey13 => (intro w; go_simp; (try with_reducible rfl))
      (try simp only [Act.put, List.setIfInBounds_toArray, List.set_cons_zero, List.set_cons_succ])
      refine E_take hQ hHeld 13 (v := ?ev14) rfl rfl (by kernel_rfl) (by kernel_rfl) (by kernel_rfl) (by kernel_rfl) (by kernel_rfl) (by rfl) ?ey14 ?er14
      case ey14 => (intro w hSw; (try dsimp only at hSw); go_simp; (try with_reducible rfl))
      (try simp only [Act.put, List.setIfInBounds_toArray, List.set_cons_zero, List.set_cons_succ])
      refine E_take0 hQ (fun _ => hHeld) 14 (v := ?ev15) rfl rfl (by kernel_rfl) (by kernel_rfl) (by kernel_rfl) (by decide) (by rfl) ?ey15 ?er15
      case ey15 => (intro w; go_simp; (try with_reducible rfl))
      (try simp only [Act.put, List.setIfInBounds_toArray, List.set_cons_zero, List.set_cons_succ])
      refine E_take hQ hHeld 15 (v := ?ev16) rfl rfl (by kernel_rfl) (by kernel_rfl) (by kernel_rfl) (by kernel_rfl) (by kernel_rfl) (by rfl) ?ey16 ?er16
      case ey16 => (intro w hSw; (try dsimp only at hSw); go_simp; (try with_reducible rfl))
      (try simp only [Act.put, List.setIfInBounds_toArray, List.set_cons_zero, List.set_cons_succ])
      refine E_take0 hQ (fun _ => hHeld) 16 (v := ?ev17) rfl rfl (by kernel_rfl) (by kernel_rfl) (by kernel_rfl) (by decide) (by rfl) ?ey17 ?er17
      case ey17 => (intro w; go_simp; (try with_reducible rfl))
      (try simp only [Act.put, List.setIfInBounds_toArray, List.set_cons_zero, List.set_cons_succ])
      refine E_take hQ hHeld 17 (v := ?ev18) rfl rfl (by kernel_rfl) (by kernel_rfl) (by kernel_rfl) (by kernel_rfl) (by kernel_rfl) (by rfl) ?ey18 ?er18
      case ey18 => (intro w hSw; (try dsimp only at hSw); go_simp; (try with_reducible rfl))
      (try simp only [Act.put, List.setIfInBounds_toArray, List.set_cons_zero, List.set_cons_succ])
      refine E_one 18 (by kernel_rfl) rfl (by rfl) (fun K hK => ?_)
      go_simp
      refine (HC3.out W.drew (HRW.out.below ((Below.refl _ _).drew))).mono ?_
      rintro e W18 ⟨rfl, rfl⟩
      refine hK.out _ _ (fun _ h => absurd rfl h) (fun _ => ?_)
      clear hK hHeld
      (try simp only [Act.put, List.setIfInBounds_toArray, List.set_cons_zero, List.set_cons_succ])
      refine E_take0 hQ (fun h => absurd h (by decide)) 19 (v := ?ev19) rfl rfl (by kernel_rfl) (by kernel_rfl) (by kernel_rfl) (by decide) (by rfl) ?ey19 ?er19
      case ey19 => (intro w; go_simp; (try with_reducible rfl))
      (try simp only [Act.put, List.setIfInBounds_toArray, List.set_cons_zero, List.set_cons_succ])
      refine E_take0 hQ (fun h => absurd h (by decide)) 20 (v := ?ev20) rfl rfl (by kernel_rfl) (by kernel_rfl) (by kernel_rfl) (by decide) (by rfl) ?ey20 ?er20
      case ey20 => (intro w; go_simp; (try with_reducible rfl))
      (try simp only [Act.put, List.setIfInBounds_toArray, List.set_cons_zero, List.set_cons_succ])
      refine E_done (by kernel_rfl) ?_ _
      refine hK'.out _ _ ?_
      gi_wp2_with fail
      gi_meet
      exact ⟨by rw [hF.out], rfl⟩
    case rest =>
    obtain ⟨rfl, rfl⟩ := hcut
    by_cases hc : 0 ≤ tt ∧ tt ≠ i ∧ tt ∉ row
    case neg =>
      have d3 : decide (0 ≤ tt ∧ tt ≠ i ∧ tt ∉ row) = false := decide_eq_false hc
      have hE : Hid (rowsRf d.steps.length (pre ++ [(i, a, tt)]) = rows) := Lib.hid (by rw [hSN.out, HAD.out, if_neg hc]; exact HKEEP.out.symm)
      rw [d3]
      clear d3 hc p0 p1 p2 q1 y0 yf
      gi_wp2_with fail
      exact ⟨⟨by rw [← hn, hE.out]; exact H0.out.drew, by rw [← hn]; exact HBX.out, H2.out, H3.out.drew⟩, ⟨(Below.refl _ _).drew, fun _ _ => rfl⟩⟩
    have d3 : decide (0 ≤ tt ∧ tt ≠ i ∧ tt ∉ row) = true := decide_eq_true hc
    have hE : Hid (rowsRf d.steps.length (pre ++ [(i, a, tt)]) = rows.set i (row ++ [tt])) := Lib.hid (by rw [hSN.out, HAD.out, if_pos hc])
    rw [d3]
    clear d3 hc
    have h0V : RowsAt W.drew S (w.heap.size + 1) (w.heap.size + 1) rows := H0.out.drew
    have y0V : W.drew.cell? ⟨w.heap.size + 1, i, none⟩ = some (.slice va row.length vc) := y0
    have yfV : W.drew.frozen? ⟨w.heap.size + 1, i, none⟩ = false := yf
    have HB4V : Hid (W.drew.heap[b]? = some (.cells #[.int .i64 (i : Int), .string a, .int .i64 tt] 102 (0, 0))) := Lib.hid HB4.out
    have HBXV : Hid (Boxed W.drew (w.heap.size + 2) 47 (.slice (some ⟨w.heap.size + 1, 0, none⟩) n n)) := Lib.hid (by rw [← hn]; exact HBX.out)
    have H3V : Hid (Below w.heap.size w W.drew) := Lib.hid H3.out.drew
    have HOWV : Hid (W.drew.ownsRow (w.heap.size + 1) 3 1 (.slice va row.length vc) row.length (ints .i64 row)) := Lib.hid HOW.out
    have HKV : Hid (Keep (w.heap.size + 1) S W W.drew) := Lib.hid ⟨(Below.refl _ _).drew, fun _ _ => rfl⟩
    have hsV : w.heap.size + 1 ≤ W.drew.heap.size := hsW
    have hBV : w.heap.size + 1 < W.drew.heap.size := hBl
    have hSV : Hid (∀ k, S k → k < W.drew.heap.size) := Lib.hid HSl.out
    have p0V : W.drew.cell? ⟨b, 0, none⟩ = some (.int .i64 (i : Int)) := p0
    have p2V : W.drew.cell? ⟨b, 2, none⟩ = some (.int .i64 tt) := p2
    have q1V : W.drew.cell? ⟨w.heap.size + 2, 0, none⟩ = some (.slice (some ⟨w.heap.size + 1, 0, none⟩) n n) := q1
    clear p0 p1 p2 q1 y0 yf HB4 HBX H3 HOW HRW H0 HSl
    generalize W.drew = V at *
    have HPU := Lib.hid (fun (w9 : World) (g9 cap9 : Nat) => RowsAt.pushR (n0 := w.heap.size + 1) (W := V.drew) (w1 := w9) (g := g9) (cap := cap9) (tmp := .cells #[.int .i64 tt] 3) (x := tt) h0V.drew hir hrw y0V (Nat.le_refl _) (Nat.le_refl _) hsV hSV.out)
    gi_upto_region 5 with fail
    refine E_regionR (S := (fun W => W.cell? ⟨b, 0, none⟩ = some (.int .i64 (i : Int)) ∧ W.cell? ⟨b, 2, none⟩ = some (.int .i64 tt) ∧ W.cell? ⟨w.heap.size + 2, 0, none⟩ = some (.slice (some ⟨w.heap.size + 1, 0, none⟩) n n) ∧ W.cell? ⟨w.heap.size + 1, i, none⟩ = some (.slice va row.length vc))) 13 (by kernel_rfl) (by kernel_rfl) ⟨p0V, p2V, q1V, y0V⟩ (fun Q' hQ hK' hHeld => ?_)
    refine E_take hQ hHeld 0 (v := ?edv1) rfl rfl (by kernel_rfl) (by kernel_rfl) (by kernel_rfl) (by kernel_rfl) (by kernel_rfl) (by rfl) ?edy1 ?edr1
    case edy1 => (intro w hSw; (try dsimp only at hSw); go_simp; (try with_reducible rfl))
    (try simp only [Act.put, List.setIfInBounds_toArray, List.set_cons_zero, List.set_cons_succ])
    refine E_take0 hQ (fun _ => hHeld) 1 (v := ?edv2) rfl rfl (by kernel_rfl) (by kernel_rfl) (by kernel_rfl) (by decide) (by rfl) ?edy2 ?edr2
    case edy2 => (intro w; go_simp; (try with_reducible rfl))
    (try simp only [Act.put, List.setIfInBounds_toArray, List.set_cons_zero, List.set_cons_succ])
    refine E_take hQ hHeld 2 (v := ?edv3) rfl rfl (by kernel_rfl) (by kernel_rfl) (by kernel_rfl) (by kernel_rfl) (by kernel_rfl) (by rfl) ?edy3 ?edr3
    case edy3 => (intro w hSw; (try dsimp only at hSw); go_simp; (try with_reducible rfl))
    (try simp only [Act.put, List.setIfInBounds_toArray, List.set_cons_zero, List.set_cons_succ])
    refine E_take hQ hHeld 3 (v := ?edv4) rfl rfl (by kernel_rfl) (by kernel_rfl) (by kernel_rfl) (by kernel_rfl) (by kernel_rfl) (by rfl) ?edy4 ?edr4
    case edy4 => (intro w hSw; (try dsimp only at hSw); go_simp; (try with_reducible rfl))
    (try simp only [Act.put, List.setIfInBounds_toArray, List.set_cons_zero, List.set_cons_succ])
    refine E_take0 hQ (fun _ => hHeld) 4 (v := ?edv5) rfl rfl (by kernel_rfl) (by kernel_rfl) (by kernel_rfl) (by decide) (by rfl) ?edy5 ?edr5
    case edy5 => (intro w; go_simp; (try with_reducible rfl))
    (try simp only [Act.put, List.setIfInBounds_toArray, List.set_cons_zero, List.set_cons_succ])
    refine E_take hQ hHeld 5 (v := ?edv6) rfl rfl (by kernel_rfl) (by kernel_rfl) (by kernel_rfl) (by kernel_rfl) (by kernel_rfl) (by rfl) ?edy6 ?edr6
    case edy6 => (intro w hSw; (try dsimp only at hSw); go_simp; (try with_reducible rfl))
    (try simp only [Act.put, List.setIfInBounds_toArray, List.set_cons_zero, List.set_cons_succ])
    refine E_take0 hQ (fun _ => hHeld) 6 (v := ?edv7) rfl rfl (by kernel_rfl) (by kernel_rfl) (by kernel_rfl) (by decide) (by rfl) ?edy7 ?edr7
    case edy7 => (intro w; go_simp; (try with_reducible rfl))
    (try simp only [Act.put, List.setIfInBounds_toArray, List.set_cons_zero, List.set_cons_succ])
    refine E_take hQ hHeld 7 (v := ?edv8) rfl rfl (by kernel_rfl) (by kernel_rfl) (by kernel_rfl) (by kernel_rfl) (by kernel_rfl) (by rfl) ?edy8 ?edr8
    case edy8 => (intro w hSw; (try dsimp only at hSw); go_simp; (try with_reducible rfl))
    (try simp only [Act.put, List.setIfInBounds_toArray, List.set_cons_zero, List.set_cons_succ])
    refine E_take0 hQ (fun _ => hHeld) 8 (v := ?edv9) rfl rfl (by kernel_rfl) (by kernel_rfl) (by kernel_rfl) (by decide) (by rfl) ?edy9 ?edr9
    case edy9 => (intro w; go_simp; (try with_reducible rfl))
    (try simp only [Act.put, List.setIfInBounds_toArray, List.set_cons_zero, List.set_cons_succ])
    refine E_take hQ hHeld 9 (v := ?edv10) rfl rfl (by kernel_rfl) (by kernel_rfl) (by kernel_rfl) (by kernel_rfl) (by kernel_rfl) (by rfl) ?edy10 ?edr10
    case edy10 => (intro w hSw; (try dsimp only at hSw); go_simp; (try with_reducible rfl))
    (try simp only [Act.put, List.setIfInBounds_toArray, List.set_cons_zero, List.set_cons_succ])
    refine E_one 10 (by kernel_rfl) rfl (by rfl) (fun K hK => ?_)
    go_simp
    have hal : Below V.drew.heap.size V.drew (V.drew.alloc (.cells #[.int .i64 tt] 3)) := (Below.refl _ _).alloc (Nat.le_refl _) _
    have HAL := Lib.hid hal
    clear hal
    (try simp only [Act.put, List.setIfInBounds_toArray, List.set_cons_zero, List.set_cons_succ])
    refine hK.out _ _ (fun _ _ => ⟨cellB HAL.out hHeld.1, cellB HAL.out hHeld.2.1, cellB HAL.out hHeld.2.2.1, cellB HAL.out hHeld.2.2.2⟩) (fun hHeld' => ?_)
    replace hHeld := hHeld' (by rfl) (by decide)
    clear hK hHeld'
    (try simp only [Act.put, List.setIfInBounds_toArray, List.set_cons_zero, List.set_cons_succ])
    refine E_one 11 (by kernel_rfl) rfl (by rfl) (fun K hK => ?_)
    have hww : (V.alloc (.cells #[.int .i64 tt] 3)).drew = V.drew.alloc (.cells #[.int .i64 tt] 3) := rfl
    try rw [hww]
    refine wp_append_lies _ (.tmp 40) (.tmp 43) 49 (by rfl) (w.heap.size + 1) 3 i0 (.int .i64 0) 1 8 Try.underlying49 hi hz0 hz1 hz2 rfl (by decide) (.slice va row.length vc) row.length (ints .i64 row) (by rfl) (World.ownsRow.alloc (w := V.drew) HOWV.out _) ⟨V.heap.size, 0, none⟩ 1 1 [.int .i64 tt] (by rfl) rfl (World.news_of_block (World.alloc_heap_new V.drew _)) (by simp [Value.oneCell']) (by omega) (by unfold maxLen; omega) (by omega) (by rw [World.size_alloc]; show _ ≤ V.heap.size + 1; omega) (V.heap.size + 1) (by rw [World.size_alloc]; rfl) ?_
    intro g9 cap9 w9 hown' hgrow hat hlt9
    have KP := Lib.hid (HPU.out w9 g9 cap9 hown' hgrow hat)
    have hB9 : w9.heap[w.heap.size + 1]? = V.heap[w.heap.size + 1]? := by
      obtain ⟨ob, hob⟩ : ∃ ob, V.heap[w.heap.size + 1]? = some ob := ⟨_, Array.getElem?_eq_getElem hBV⟩
      rw [kept_push (wr := V.drew) hob hgrow hneB, hob]
    have hfr9 : w9.frozen? ⟨w.heap.size + 1, i, none⟩ = false := by rw [World.frozen?_of_block (w := V) hB9]; exact yfV
    have hcl9 : w9.cell? ⟨w.heap.size + 1, i, none⟩ = some (.slice va row.length vc) := by rw [World.cell?_of_block (w := V) hB9]; exact y0V
    have hk9 : w9.cell? ⟨b, 0, none⟩ = some (.int .i64 (i : Int)) ∧ w9.cell? ⟨b, 2, none⟩ = some (.int .i64 tt) := by
      obtain ⟨k1, k2, k3, -, -, -⟩ := cells3h (kept_push (wr := V.drew) HB4V.out hgrow hneb)
      exact ⟨k1, k3⟩
    have hk8 : w9.cell? ⟨w.heap.size + 2, 0, none⟩ = some (.slice (some ⟨w.heap.size + 1, 0, none⟩) n n) := Boxed.cell (t := 47) (kept_push (wr := V.drew) HBXV.out hgrow hnex)
    clear hown' hgrow hat
    (try simp only [Act.put, List.setIfInBounds_toArray, List.set_cons_zero, List.set_cons_succ])
    refine hK.out _ _ (fun _ _ => ⟨hk9.1, hk9.2, hk8, hcl9⟩) (fun hHeld' => ?_)
    replace hHeld := hHeld' (by rfl) (by decide)
    clear hK hHeld'
    (try simp only [Act.put, List.setIfInBounds_toArray, List.set_cons_zero, List.set_cons_succ])
    refine E_take0 hQ (fun _ => hHeld) 12 (v := ?edv11) rfl rfl (by kernel_rfl) (by kernel_rfl) (by kernel_rfl) (by decide) (by rfl) ?edy11 ?edr11
    case edy11 => (intro w; go_simp; (try with_reducible rfl))
    (try simp only [Act.put, List.setIfInBounds_toArray, List.set_cons_zero, List.set_cons_succ])
    refine E_one 13 (by kernel_rfl) rfl (by rfl) (fun K hK => ?_)
    go_simp
    (try simp only [Act.put, List.setIfInBounds_toArray, List.set_cons_zero, List.set_cons_succ])
    refine hK.out _ _ (fun _ h => absurd rfl h) (fun _ => ?_)
    clear hK hHeld
    (try simp only [Act.put, List.setIfInBounds_toArray, List.set_cons_zero, List.set_cons_succ])
    refine E_done (by kernel_rfl) ?_ _
    refine hK'.out _ _ ?_
    obtain ⟨kp1, kp2, kp3, kp4⟩ := KP.out
    gi_wp2_with fail
    have hkv : Keep (w.heap.size + 1) S V V.drew := ⟨(Below.refl _ _).drew, fun _ _ => rfl⟩
    exact ⟨⟨by rw [← hn, hE.out]; exact kp1, kp3 _ _ HBXV.out (by omega) hnex, H2.out, H3V.out.drew.trans (kp2.below.mono (by omega))⟩, (HKV.out.trans hkv).trans kp2⟩
theorem nRefs_any (d : DefD) (cs : List Value) (sa : Option Addr) (sc : Nat) (w : World) (h : DefR w cs d sa sc) (hlen : d.steps.length ≤ 1000000) (hrl : (refsF d.steps 0 d.steps).length ≤ 1000000) :
    Calls Try.prog 16 #[.agg cs.toArray] w fun e w' => ∃ v, e = .returned v ∧ Rows2 w' v (depsA d.steps 0 d.steps) ∧ Below w.heap.size w w' := by
  refine (nRefsA_any d cs sa sc w h hlen hrl).mono ?_
  rintro e w' ⟨rfl, hr, hb⟩
  have h2 := hr.rows2 (by rw [depsA_len]; omega)
  rw [depsA_len] at h2
  exact ⟨_, rfl, h2, hb⟩
end Go.Proofs.Ytkgcpbhlbfjcoaa

/-
  rescriptref25: Index, Has, Refs: contracts.
-/
namespace Go.Proofs.Ytkgcpbhlbfjcoaa
open Go Go.RowKit Go.WideShapes

theorem depsA_get (all : List StepD) : ∀ (l : List StepD) (i k : Nat) (hk : k < l.length), (depsA all i l)[k]? = some (depsD all (i + k) l[k])
  | s :: l, i, 0, _ => rfl
  | s :: l, i, k + 1, h => by
    rw [depsA, List.getElem?_cons_succ, depsA_get all l (i + 1) k (by simpa using h), show i + 1 + k = i + (k + 1) by omega]
    rfl
theorem depsA_take (all : List StepD) {k : Nat} (hk : k < all.length) : (depsA all 0 all).take (k + 1) = (depsA all 0 all).take k ++ [depsD all k all[k]] := by
  rw [List.take_add_one, depsA_get all all 0 k hk, Nat.zero_add]; rfl
/-- The row of a step, of its first names. -/
def rowJ (all : List StepD) (k : Nat) (s : StepD) (j : Nat) : List Int := ((s.after.take j).map fun a => idxStep all a 0).foldl (addRf k) []
theorem rowJ_succ (all : List StepD) (k : Nat) (s : StepD) {j : Nat} (hj : j < s.after.length) : rowJ all k s (j + 1) = addRf k (rowJ all k s j) (idxStep all s.after[j] 0) := by
  unfold rowJ
  rw [List.take_add_one, List.getElem?_eq_getElem hj, Option.toList_some, List.map_append, List.foldl_append]
  rfl
theorem rowJ_all (all : List StepD) (k : Nat) (s : StepD) : rowJ all k s s.after.length = depsD all k s := by
  unfold rowJ depsD; rw [List.take_length]
theorem rowJ_len (all : List StepD) (k : Nat) (s : StepD) (j : Nat) : (rowJ all k s j).length ≤ j := by
  unfold rowJ
  have key : ∀ (l : List Int) (r : List Int), (l.foldl (addRf k) r).length ≤ r.length + l.length := by
    intro l
    induction l with
    | nil => intro r; simp
    | cons x l ih =>
      intro r
      rw [List.foldl_cons, List.length_cons]
      have := ih (addRf k r x)
      have := addRf_len k r x
      omega
  have := key ((s.after.take j).map fun a => idxStep all a 0) []
  simp only [List.length_nil, List.length_map, List.length_take, Nat.zero_add] at this
  omega

end Go.Proofs.Ytkgcpbhlbfjcoaa

/-
  bounds and names: note, within; the reference's Real.
-/
namespace Go.Proofs.Ytkgcpbhlbfjcoaa
open Go Go.RowKit Go.WideShapes

/-- Diags that a box holds. -/
structure OutG (W : World) (B : Nat) (va : Option Addr) (vc : Nat) (l : List DiagD) : Prop where
  box : Boxed W B 97 (.slice va l.length vc)
  own : OwnG W B va vc l
theorem OutG.below {W W' : World} {B vc : Nat} {va : Option Addr} {l : List DiagD} (h : OutG W B va vc l) (hb : Below W.heap.size W W') : OutG W' B va vc l := ⟨(hb.block _ h.box.lt).trans h.box, h.own.below hb⟩
def noteL (l : List DiagD) (b : Bool) (x : DiagD) : List DiagD := if b then l ++ [x] else l
/-- What a note leaves: the list behind the box, and all else. -/
def Noted (W w' : World) (B : Nat) (va : Option Addr) (vc : Nat) (l' l : List DiagD) : Prop :=
  ∃ va' vc', OutG w' B va' vc' l' ∧ Below B W w' ∧ (∀ (q : Nat) (ob : Obj), W.heap[q]? = some ob → q ≠ B → (Value.slice va l.length vc).ownBlock ≠ some q → w'.heap[q]? = some ob) ∧ ∀ q, q < W.heap.size → (Value.slice va l.length vc).ownBlock ≠ some q → (Value.slice va' l'.length vc').ownBlock ≠ some q
theorem outG_pushed {W w1 : World} {B vc : Nat} {va : Option Addr} {l : List DiagD} {x : DiagD} {v' : Value} {tmp : Obj} (h : OutG W B va vc l) (hown' : w1.ownsRow B 139 3 v' (l.length + 1) (flatG l ++ encG x)) (hgrow : (W.alloc tmp).grownBy w1 (Value.slice va l.length vc).ownBlock) (hfr : Fresh (W.alloc tmp) (.slice va l.length vc) v') :
    ∃ va' vc', v' = .slice va' (l.length + 1) vc' ∧ Boxed w1 B 97 (.slice va l.length vc) ∧ OutG (w1.setCell ⟨B, 0, none⟩ v') B va' vc' (noteL l true x) ∧ (Below B W (w1.setCell ⟨B, 0, none⟩ v') ∧ (∀ (q : Nat) (o : Obj), W.heap[q]? = some o → q ≠ B → (Value.slice va l.length vc).ownBlock ≠ some q → (w1.setCell ⟨B, 0, none⟩ v').heap[q]? = some o) ∧
      (∀ q, q < W.heap.size → (Value.slice va l.length vc).ownBlock ≠ some q → (Value.slice va' (noteL l true x).length vc').ownBlock ≠ some q)) := by
  obtain ⟨va', vc', rfl⟩ := (RdS.of_owns hown').form
  obtain ⟨h1, h2, h3, h4, h5⟩ := boxed_pushed (n0 := B) (S := fun _ => False) h.box (by decide) h.own (Nat.le_of_lt h.box.lt) (Nat.le_refl _) (Nat.le_refl _) (fun _ h => h.elim) id (fun _ _ h => h) hown' hgrow hfr
  have hlen : (noteL l true x).length = l.length + 1 := by simp [noteL]
  refine ⟨va', vc', rfl, h1, ⟨by rw [hlen]; exact h2, ?_⟩, h4.below, fun q o ho hq hne => pushed_other hgrow ho hq hne, fun q hq hne e => ?_⟩
  · unfold OwnG
    rw [hlen]
    have : flatG (noteL l true x) = flatG l ++ encG x := by rw [flatG_snoc]; rfl
    rw [this]
    exact h3
  · rw [hlen] at e
    rcases hfr q e with hf | hf
    · exact hne hf
    · simp at hf; omega

set_option maxRecDepth 100000 in
set_option maxHeartbeats 2000000 in
theorem nnote_any (b : Bool) (st er : Int) (tx : ByteArray) (l : List DiagD) (B vc : Nat) (va : Option Addr) (W : World) (ho : OutG W B va vc l) (hl : l.length ≤ 1000000) :
    Calls Try.prog 86 #[.bool b, .int .i64 st, .int .i64 er, .string tx, .pointer (some ⟨B, 0, none⟩)] W fun e w' => e = .returned (.tuple #[]) ∧ Noted W w' B va vc (noteL l b (st, er, tx)) l := by
  obtain ⟨i0, hi, hz0, hz1, hz2⟩ := info_parts Try.info_diag
  have HO := Lib.hid ho
  have hc0 := ho.box.cell
  have hBl := ho.box.lt
  clear ho
  cases b with
  | false =>
    go_enter Try.func86, Try.ntmps86
    go_wp2_with fail
    go_end0
    exact ⟨rfl, va, vc, HO.out, Below.refl _ _, fun _ _ h _ _ => h, fun _ _ h => h⟩
  | true =>
    go_enter Try.func86, Try.ntmps86
    go_wp2_with (at_builtin; go_must (refine wpList_push rfl _ _ 97 rfl B 139 i0 (.agg #[.int .i64 0, .int .i64 0, .string { data := #[] }]) 3 32 Try.underlying97 hi hz0 hz1 hz2 rfl (by decide) _ _ _ rfl (World.ownsRow.alloc HO.out.own _) ⟨W.heap.size, 0, none⟩ 1 1 (encG (st, er, tx)) rfl rfl cells3_new (encG_one (st, er, tx)) (by unfold maxLen; omega) (by omega) (by simp; omega) ?_; intro v' w2 hown' hgrow hfr; obtain ⟨va', vc', rfl, kb1, kb2, kb3⟩ := outG_pushed HO.out hown' hgrow hfr; have hc1 := kb1.cell; have hf1 := kb1.frozen; have KB2 := Lib.hid kb2; have KB3 := Lib.hid kb3; clear hown' hgrow hfr kb1 kb2 kb3))
    go_end0
    exact ⟨rfl, va', vc', KB2.out, KB3.out.1, KB3.out.2.1, KB3.out.2.2⟩

theorem setc13 {W : World} {B i : Nat} {t : TypeId} {l : List Value} (x : Value) (h : W.heap[B]? = some (.cells l.toArray t (0, 0))) : (W.setCell ⟨B, i, none⟩ x).heap[B]? = some (.cells (l.set i x).toArray t (0, 0)) := by
  have := setCell_heap i x h
  rw [this]
  simp
end Go.Proofs.Ytkgcpbhlbfjcoaa

/-
  names.Missing: contract.
-/
namespace Go.Proofs.Ytkgcpbhlbfjcoaa
open Go.RowKit Go.WideShapes Go.Maps
attribute [local go_sem] Oper.semAt_some wide_fn wide_depth wide_fn' wide_depth'

/-- The names that stand for nothing, each once. -/
def addM (l : List ByteArray) (r : RefD) : List ByteArray := if r.2.2 < 0 ∧ hasS l r.2.1 = false then l ++ [r.2.1] else l
def missL (pre : List RefD) : List ByteArray := pre.foldl addM []
theorem missL_snoc (pre : List RefD) (r : RefD) : missL (pre ++ [r]) = addM (missL pre) r := by
  unfold missL; rw [List.foldl_append]; rfl
theorem missL_len (pre : List RefD) : (missL pre).length ≤ pre.length := by
  induction pre using snocRec with
  | h0 => exact Nat.le_refl _
  | h1 l r ih =>
    rw [missL_snoc]
    unfold addM
    split <;> simp <;> omega
theorem alloc3o (w : World) (o0 o1 o2 : Obj) : Below w.heap.size w (((w.alloc o0).alloc o1).alloc o2) ∧ (((w.alloc o0).alloc o1).alloc o2).heap[w.heap.size]? = some o0 ∧ (((w.alloc o0).alloc o1).alloc o2).heap[w.heap.size + 1]? = some o1 ∧ (((w.alloc o0).alloc o1).alloc o2).heap[w.heap.size + 2]? = some o2 ∧ (((w.alloc o0).alloc o1).alloc o2).heap.size = w.heap.size + 3 := by
  have e0 := World.alloc_heap_new w o0
  have e1 := World.alloc_heap_new (w.alloc o0) o1
  have e2 := World.alloc_heap_new ((w.alloc o0).alloc o1) o2
  simp only [World.size_alloc] at e1 e2
  refine ⟨(((Below.refl _ w).alloc (Nat.le_refl _) _).alloc (by simp only [World.size_alloc]; omega) _).alloc (by simp only [World.size_alloc]; omega) _, ?_, ?_, e2, by simp⟩
  · rw [Below.heap_alloc _ _ _ (by simp only [World.size_alloc]; omega), Below.heap_alloc _ _ _ (by simp only [World.size_alloc]; omega)]; exact e0
  · rw [Below.heap_alloc _ _ _ (by simp only [World.size_alloc]; omega)]; exact e1
def msJ (w : World) : (Nat → Prop) → List RefD → World → Prop := fun S pre W =>
  ∃ va vc, OutB W (w.heap.size + 1) va vc (missL pre) ∧ ¬ S (w.heap.size + 1) ∧ (∀ g, (Value.slice va (missL pre).length vc).ownBlock = some g → ¬ S g) ∧ Below w.heap.size w W
theorem msJ_step (w : World) : Stable (w.heap.size + 1) (msJ w) := by
  rintro S S' s W W' hS ⟨va, vc, h0, h1, h2, h3⟩ hs
  obtain ⟨k1, k2⟩ := hs.owns h0.own h2
  exact ⟨va, vc, ⟨(hs.boxed h0.box h1).1, k1⟩, (hs.boxed h0.box h1).2, k2, h3.trans (hs.below.mono (by omega))⟩

set_option maxRecDepth 100000 in
set_option maxHeartbeats 4000000 in
theorem nMissing_any (d : DefD) (cs : List Value) (sa : Option Addr) (sc : Nat) (w : World) (h : DefR w cs d sa sc) (hlen : d.steps.length ≤ 1000000) (hrl : (refsF d.steps 0 d.steps).length ≤ 1000000) :
    Calls Try.prog 21 #[.agg cs.toArray] w fun e w' => ∃ v, e = .returned v ∧ RdS w' v 1 (missL (refsF d.steps 0 d.steps)).length (strsV (missL (refsF d.steps 0 d.steps))) ∧ Below w.heap.size w w' := by
  obtain ⟨i0, hi, hz0, hz1, hz2⟩ := info_parts Try.info_str
  obtain ⟨rfl, hna, hta, hva⟩ := h
  obtain ⟨_, _, he1, hl1, hl2⟩ := hva.form
  cases he1
  have g0 := World.alloc_heap_new w (.cells #[.string d.name, .string d.text, .slice sa d.steps.length sc] 24)
  obtain ⟨p0, p1, p2, -, -, -⟩ := cells3h g0
  have HVA := Lib.hid hva
  clear hva g0
  refine (callsIn_wide (n := 0)).1 ?_
  refine callsIn_of_wp_marks Try.func21 rfl trivial ?_ rfl
  simp only [Try.ntmps21, List.size_toArray, List.length_cons, List.length_nil, Nat.reduceAdd, Nat.reduceSub, Array.replicate_succ, Array.replicate_zero, List.push_toArray, List.append_toArray, List.nil_append, List.cons_append]
  gi_wp2_with fail
  refine (callsIn_wide.2 (refs_any _ rfl _)).mono ?_
  rintro e w4 ⟨rfl, rfl⟩
  obtain ⟨gbl, g0, g1, g2, hsz⟩ := alloc3o w (.cells #[.string d.name, .string d.text, .slice sa d.steps.length sc] 24) (.cells #[.slice none 0 0] 31) (.cells #[.string d.name, .string d.text, .slice sa d.steps.length sc] 24)
  clear p0 p1 p2
  gi_wp2_with fail
  generalize (((w.alloc (.cells #[.string d.name, .string d.text, .slice sa d.steps.length sc] 24)).alloc (.cells #[.slice none 0 0] 31)).alloc (.cells #[.string d.name, .string d.text, .slice sa d.steps.length sc] 24)) = w4 at *
  have HRM := Lib.hid (fun r => refsF_mem d.steps d.steps 0 r)
  refine' wpIn_rf rfl (enters_of Try.func90 (by kernel_rfl) rfl) (refs_iter d sa sc (w.heap.size + 1) (w.heap.size + 2) w w4 (by omega) (by omega) g2 hna hta HVA.out hlen gbl (by omega)) (by omega) (by rintro j rfl; omega) (fun _ => rfl)
    (msJ w) (fun _ => fun _ _ _ => False) ?hfin ?hJ ?hJx ?h0 ?Ax ?hAx ?assign ?body ?done ?stop
  case hfin => exact fun h => absurd trivial h
  case hJ => exact msJ_step w
  case hJx => exact fun _ _ _ _ _ _ _ h _ => h
  case h0 => exact ⟨none, 0, ⟨g1, World.ownsRow_nil _ _ _ _⟩, by omega, (fun g hg => by cases hg), gbl⟩
  case Ax => exact fun y a' W => ∃ b, a' = { tmps := #[.agg #[.string d.name, .string d.text, .slice sa d.steps.length sc], .pointer (some ⟨w.heap.size, 0, none⟩), .slice none 0 0, .pointer (some ⟨w.heap.size + 1, 0, none⟩), .pointer (some ⟨b, 0, none⟩), .agg #[.string d.name, .string d.text, .slice sa d.steps.length sc], .func (.func 90) #[] #[.pointer (some ⟨w.heap.size + 1 + 1, 0, none⟩)], .agg #[.int .i64 (y.1 : Int), .string y.2.1, .int .i64 y.2.2], undef, undef, undef, undef, undef, undef, undef, undef, undef, undef, undef, undef, undef, undef, undef, undef], defers := [] } ∧ W.heap[b]? = some (.cells #[.int .i64 (y.1 : Int), .string y.2.1, .int .i64 y.2.2] 102 (0, 0))
  case hAx =>
    rintro y a' l W W' hl hlt ⟨b, rfl, hb⟩ hs ⟨r, hr⟩
    have hne : b ≠ l := by rintro rfl; rw [hr] at hb; cases hb
    exact ⟨b, rfl, (hs.same b (Array.getElem?_eq_some_iff.1 hb).1 hne).trans hb⟩
  case assign =>
    rintro l S pre ⟨i, a, tt⟩ W K hS hw hj hpre hK
    dsimp only [encRf]
    have HS := Lib.hid hS
    have HK := Lib.hid hK
    have HJ := Lib.hid hj
    have hsW : w.heap.size + 1 ≤ W.heap.size := by omega
    clear hS hK hj
    gi_wp2_with fail
    have hal : Below W.heap.size W (W.alloc (.cells #[.int .i64 (i : Int), .string a, .int .i64 tt] 102)) := (Below.refl _ _).alloc (Nat.le_refl _) _
    refine HK.out _ _ ⟨hal.mono hsW, fun j hj => hal.block j (HS.out j hj).2⟩ (msJ_step w S S _ _ _ HS.out HJ.out (Step.of_below hsW hal)) ⟨W.heap.size, rfl, World.alloc_heap_new W _⟩
  case done =>
    rintro D S W hD hS hSD ⟨va, vc, h0, h1, h2, h3⟩ hKD
    have hc := h0.box.cell
    have H0 := Lib.hid h0.own
    have H3 := Lib.hid h3
    have HSP := Lib.hid (Step.putObj (n0 := w.heap.size + 1) (S := S) (W := W) (.deferred none) hSD (hS D hSD).1)
    have H2 := Lib.hid h2
    clear h0 h1 h2 h3 hS
    gi_wp2
    refine ⟨by simp, .inl ⟨_, _, rfl, run_takeDeferred hKD, ?_⟩⟩
    have hr := RdS.of_owns (HSP.out.owns H0.out H2.out).1
    refine ⟨_, results_tmp rfl _ _ _, _, rfl, ?_, H3.out.trans (below_putObj _ _ (by omega))⟩
    exact hr
  case stop => exact fun _ _ _ _ _ _ _ _ _ h => h.elim
  case body =>
    rintro l0 S pre ⟨i, a, tt⟩ a' W hS hw hSl - ⟨va, vc, h0, h1, h2, h3⟩ ⟨b, rfl, hb⟩ hpre
    have hpl := hpre.length_le
    rw [List.length_append, List.length_singleton] at hpl
    have hml := missL_len pre
    have HSN : Hid (missL (pre ++ [(i, a, tt)]) = addM (missL pre) (i, a, tt)) := Lib.hid (missL_snoc _ _)
    obtain ⟨-, p1, p2, -, -, -⟩ := cells3h hb
    have q1 := h0.box.cell
    have HS := Lib.hid hS
    have H0 := Lib.hid h0
    have H1 := Lib.hid h1
    have H2 := Lib.hid h2
    have H3 := Lib.hid h3
    have HB4 := Lib.hid hb
    have HRW := Lib.hid (RdS.of_owns h0.own)
    have hll : (missL pre).length ≤ 1000000 := by omega
    clear hS h0 h1 h2 h3 hb hpre hml hpl
    generalize hll2 : missL pre = l at *
    have HC3 := Lib.hid (fun (W : World) (h : RdS W (.slice va l.length vc) 1 l.length (strsV l)) => ContainsS_any l _ a W h)
    have HAD : Hid (addM l (i, a, tt) = if tt < 0 ∧ hasS l a = false then l ++ [a] else l) := Lib.hid rfl
    dsimp only
    gi_upto_region 4 with fail
    gi_cut [17] from 8 (fun s17 wx => s17 = .bool (decide (tt < 0) && !hasS l a) ∧ wx = W)
    case first =>
      by_cases c1 : tt < 0
      case neg =>
        have d1 : decide (tt < 0) = false := decide_eq_false c1
        have hF : Hid ((decide (tt < 0) && !hasS l a) = false) := Lib.hid (by rw [d1]; rfl)
        clear c1
        gi_wp2_with fail
        gi_meet
        exact ⟨by rw [hF.out], rfl⟩
      have d1 : decide (tt < 0) = true := decide_eq_true c1
      have hF : Hid ((decide (tt < 0) && !hasS l a) = !hasS l a) := Lib.hid (by rw [d1]; rfl)
      clear c1
      generalize hasS l a = b3 at *
      gi_wp2_with (gi_at_call 59; refine (CallsIn.inRound l0 (callsIn_wide.2 (HC3.out W HRW.out))).mono ?_; rintro e W7 ⟨rfl, rfl⟩)
      gi_meet
      exact ⟨by rw [hF.out], rfl⟩
    case rest =>
    obtain ⟨rfl, rfl⟩ := hcut
    by_cases hc : (decide (tt < 0) && !hasS l a) = true
    case neg =>
      have d3 : (decide (tt < 0) && !hasS l a) = false := by simpa using hc
      have hE : Hid (missL (pre ++ [(i, a, tt)]) = l) := Lib.hid (by rw [HSN.out, HAD.out, if_neg]; rintro ⟨h1, h2⟩; rw [decide_eq_true h1, h2] at d3; cases d3)
      rw [d3]
      clear d3 hc p1 p2 q1
      gi_wp2_with fail
      exact ⟨⟨va, vc, by rw [hE.out]; exact H0.out, H1.out, by rw [hE.out]; exact H2.out, H3.out⟩, Keep.refl _ _ _⟩
    have hE : Hid (missL (pre ++ [(i, a, tt)]) = l ++ [a]) := Lib.hid (by rw [HSN.out, HAD.out, if_pos]; simp at hc; exact hc)
    rw [hc]
    clear hc
    have hBV : w.heap.size + 1 < wc.heap.size := H0.out.box.lt
    clear p2 HB4 HRW
    gi_wp2_with (gi_at_builtin; go_must (refine wpListIn_push rfl _ _ 31 rfl (w.heap.size + 1) 9 i0 (.string ByteArray.empty) 1 16 Try.underlying31 hi hz0 hz1 hz2 rfl (by decide) _ _ _ rfl (H0.out.own.alloc _) ⟨wc.heap.size, 0, none⟩ 1 1 [_] rfl rfl (cell_one_new _ _ _) (by simp [Value.oneCell']) (by unfold maxLen; omega) (by omega) (by simp; omega) ?_; intro v' w2 hown' hgrow hfr; obtain ⟨va', vc', rfl, kb1, kb2, kb3, kb4, kb5, kb6, kb7⟩ := out_pushedS (S := S) H0.out HS.out H1.out H2.out hown' hgrow hfr; have hc1 := kb1.cell; have hf1 := kb1.frozen; have KB2 := Lib.hid kb2; have KB3 := Lib.hid kb3; have KB5 := Lib.hid kb5; clear hown' hgrow hfr kb1 kb2 kb3 kb4 kb5 kb6 kb7))
    have hk5 := KB5.out
    rw [show l.length + 1 = (l ++ [a]).length by simp] at hk5
    exact ⟨⟨va', vc', by rw [hE.out]; exact KB2.out, H1.out, by rw [hE.out]; exact hk5, H3.out.trans (KB3.out.below.mono (by omega))⟩, KB3.out⟩
end Go.Proofs.Ytkgcpbhlbfjcoaa

/-
  bounds.Check: contract.
-/
namespace Go.Proofs.Ytkgcpbhlbfjcoaa
open Go Go.RowKit Go.WideShapes

theorem noteL_len (l : List DiagD) (b : Bool) (x : DiagD) : (noteL l b x).length ≤ l.length + 1 := by unfold noteL; split <;> simp
/-- What is wrong with a step's numbers. -/
def rangeL (i : Nat) (s : StepD) (l : List DiagD) : List DiagD :=
  noteL (noteL (noteL (noteL l (!(decide (1 ≤ or0 s.most 1) && decide (or0 s.most 1 ≤ 10))) ((i : Int), 1, { data := #[109, 111, 115, 116] })) (!(decide (0 ≤ s.first) && decide (s.first ≤ 1000))) ((i : Int), 1, { data := #[102, 105, 114, 115, 116] })) (!(decide (1 ≤ or0 s.factor 1) && decide (or0 s.factor 1 ≤ 10))) ((i : Int), 1, { data := #[102, 97, 99, 116, 111, 114] })) (!(decide (1 ≤ or0 s.limit 100) && decide (or0 s.limit 100 ≤ 10000))) ((i : Int), 1, { data := #[108, 105, 109, 105, 116] })
def chkR : Nat → List StepD → List DiagD → List DiagD
  | _, [], l => l
  | i, s :: r, l => chkR (i + 1) r (rangeL i s l)
theorem chkR_snoc (s : StepD) : ∀ (r : List StepD) (i : Nat) (l : List DiagD), chkR i (r ++ [s]) l = rangeL (i + r.length) s (chkR i r l)
  | [], i, l => rfl
  | t :: r, i, l => by
    rw [List.cons_append, chkR, chkR_snoc s r (i + 1) _, chkR, List.length_cons, show i + 1 + r.length = i + (r.length + 1) by omega]
theorem rangeL_len (i : Nat) (s : StepD) (l : List DiagD) : (rangeL i s l).length ≤ l.length + 4 := by
  unfold rangeL
  refine Nat.le_trans (noteL_len _ _ _) ?_
  refine Nat.succ_le_succ (Nat.le_trans (noteL_len _ _ _) ?_)
  refine Nat.succ_le_succ (Nat.le_trans (noteL_len _ _ _) ?_)
  exact Nat.succ_le_succ (noteL_len _ _ _)
theorem chkR_len : ∀ (r : List StepD) (i : Nat) (l : List DiagD), (chkR i r l).length ≤ l.length + 4 * r.length
  | [], i, l => by simp [chkR]
  | s :: r, i, l => by
    rw [chkR, List.length_cons]
    have := chkR_len r (i + 1) (rangeL i s l)
    have := rangeL_len i s l
    omega
def emp (s : StepD) : Bool := s.undo.toList.isEmpty
/-- Those behind which a step comes that nothing undoes. -/
def undoL (all : List StepD) (l : List DiagD) (t : Int) : List DiagD := match all[t.toNat]? with
  | some s => noteL l (emp s) (t, 19, s.name)
  | none => l
theorem undoL_len (all : List StepD) (l : List DiagD) (t : Int) : (undoL all l t).length ≤ l.length + 1 := by
  unfold undoL; split
  · exact noteL_len _ _ _
  · exact Nat.le_succ _
def undoR (all : List StepD) (row : List Int) (l : List DiagD) : List DiagD := row.foldl (undoL all) l
theorem undoR_len (all : List StepD) : ∀ (row : List Int) (l : List DiagD), (undoR all row l).length ≤ l.length + row.length
  | [], l => Nat.le_refl _
  | t :: row, l => by
    unfold undoR
    rw [List.foldl_cons, List.length_cons]
    have := undoR_len all row (undoL all l t)
    have := undoL_len all l t
    unfold undoR at *
    omega
/-- Of the first k steps. -/
def chkU (all : List StepD) : Nat → List DiagD → List DiagD
  | 0, l => l
  | k + 1, l => match all[k]? with
    | some s => if emp s then chkU all k l else undoR all (depsD all k s) (chkU all k l)
    | none => chkU all k l
theorem chkU_succ (all : List StepD) {k : Nat} (hk : k < all.length) (l : List DiagD) : chkU all (k + 1) l = if emp all[k] then chkU all k l else undoR all (depsD all k all[k]) (chkU all k l) := by
  rw [chkU, List.getElem?_eq_getElem hk]
theorem depsD_in (all : List StepD) (k : Nat) (s : StepD) : ∀ x ∈ depsD all k s, ∃ n : Nat, x = (n : Int) ∧ n < all.length := by
  unfold depsD
  have key : ∀ (l : List ByteArray) (r : List Int), (∀ x ∈ r, ∃ n : Nat, x = (n : Int) ∧ n < all.length) → ∀ x ∈ (l.map fun a => idxStep all a 0).foldl (addRf k) r, ∃ n : Nat, x = (n : Int) ∧ n < all.length := by
    intro l
    induction l with
    | nil => intro r h; exact h
    | cons a l ih =>
      intro r h
      rw [List.map_cons, List.foldl_cons]
      refine ih _ fun x hx => ?_
      unfold addRf at hx
      split at hx
      · rename_i hc
        rcases List.mem_append.1 hx with hx | hx
        · exact h x hx
        · simp at hx
          subst hx
          have := idxStep_lt a all 0
          exact ⟨(idxStep all a 0).toNat, by omega, by omega⟩
      · exact h x hx
  exact key _ [] (by simp)
theorem depsD_len (all : List StepD) (k : Nat) (s : StepD) : (depsD all k s).length ≤ s.after.length := by
  rw [← rowJ_all]; exact rowJ_len _ _ _ _
theorem chkU_len (all : List StepD) {m : Nat} (hm : ∀ s ∈ all, s.after.length ≤ m) : ∀ (k : Nat) (l : List DiagD), (chkU all k l).length ≤ l.length + k * m
  | 0, l => by simp [chkU]
  | k + 1, l => by
    have ih := chkU_len all hm k l
    rw [Nat.add_mul, Nat.one_mul]
    unfold chkU
    split
    · rename_i s hs
      split
      · omega
      · have := undoR_len all (depsD all k s) (chkU all k l)
        have := depsD_len all k s
        have := hm s (List.mem_of_getElem? hs)
        omega
    · omega
theorem ownsRow_same {W W' : World} {base : Nat} {e : TypeId} {size n : Nat} {v : Value} {xs : List Value} (h : W.ownsRow base e size v n xs) (hs : ∀ q, base ≤ q → q < W.heap.size → W'.heap[q]? = W.heap[q]?) : W'.ownsRow base e size v n xs := by
  refine ⟨h.1, ?_⟩
  rcases h.2 with q2 | ⟨g, cap, cur, hv, hg, hh, rest⟩
  · exact .inl q2
  · exact .inr ⟨g, cap, cur, hv, hg, (hs g hg (Array.getElem?_eq_some_iff.1 hh).1).trans hh, rest⟩
theorem sets13 {W : World} {B : Nat} {t : TypeId} {c0 c1 c2 c3 c4 c5 c6 c7 c8 c9 c10 c11 c12 x0 x1 x2 x3 x4 x5 x6 x7 x8 x9 x10 x11 x12 : Value} (h : W.heap[B]? = some (.cells #[c0, c1, c2, c3, c4, c5, c6, c7, c8, c9, c10, c11, c12] t (0, 0))) : (((((((((((((W.setCell ⟨B, 0, none⟩ x0).setCell ⟨B, 1, none⟩ x1).setCell ⟨B, 2, none⟩ x2).setCell ⟨B, 3, none⟩ x3).setCell ⟨B, 4, none⟩ x4).setCell ⟨B, 5, none⟩ x5).setCell ⟨B, 6, none⟩ x6).setCell ⟨B, 7, none⟩ x7).setCell ⟨B, 8, none⟩ x8).setCell ⟨B, 9, none⟩ x9).setCell ⟨B, 10, none⟩ x10).setCell ⟨B, 11, none⟩ x11).setCell ⟨B, 12, none⟩ x12).heap[B]? = some (.cells #[x0, x1, x2, x3, x4, x5, x6, x7, x8, x9, x10, x11, x12] t (0, 0)) := by
  simp [World.setCell, h, Array.getElem?_modify]
theorem sets13_other {W : World} {B q : Nat} {x0 x1 x2 x3 x4 x5 x6 x7 x8 x9 x10 x11 x12 : Value} (h : q ≠ B) : (((((((((((((W.setCell ⟨B, 0, none⟩ x0).setCell ⟨B, 1, none⟩ x1).setCell ⟨B, 2, none⟩ x2).setCell ⟨B, 3, none⟩ x3).setCell ⟨B, 4, none⟩ x4).setCell ⟨B, 5, none⟩ x5).setCell ⟨B, 6, none⟩ x6).setCell ⟨B, 7, none⟩ x7).setCell ⟨B, 8, none⟩ x8).setCell ⟨B, 9, none⟩ x9).setCell ⟨B, 10, none⟩ x10).setCell ⟨B, 11, none⟩ x11).setCell ⟨B, 12, none⟩ x12).heap[q]? = W.heap[q]? := by
  simp only [Below.heap_setCell _ _ _ q (show q ≠ (⟨B, _, none⟩ : Addr).block from h)]
theorem sets13_below {W w : World} {B n : Nat} {x0 x1 x2 x3 x4 x5 x6 x7 x8 x9 x10 x11 x12 : Value} (hb : Below n w W) (h : n ≤ B) : Below n w (((((((((((((W.setCell ⟨B, 0, none⟩ x0).setCell ⟨B, 1, none⟩ x1).setCell ⟨B, 2, none⟩ x2).setCell ⟨B, 3, none⟩ x3).setCell ⟨B, 4, none⟩ x4).setCell ⟨B, 5, none⟩ x5).setCell ⟨B, 6, none⟩ x6).setCell ⟨B, 7, none⟩ x7).setCell ⟨B, 8, none⟩ x8).setCell ⟨B, 9, none⟩ x9).setCell ⟨B, 10, none⟩ x10).setCell ⟨B, 11, none⟩ x11).setCell ⟨B, 12, none⟩ x12) :=
  (((((((((((((hb.setCell (p := ⟨B, 0, none⟩) h _).setCell (p := ⟨B, 1, none⟩) h _).setCell (p := ⟨B, 2, none⟩) h _).setCell (p := ⟨B, 3, none⟩) h _).setCell (p := ⟨B, 4, none⟩) h _).setCell (p := ⟨B, 5, none⟩) h _).setCell (p := ⟨B, 6, none⟩) h _).setCell (p := ⟨B, 7, none⟩) h _).setCell (p := ⟨B, 8, none⟩) h _).setCell (p := ⟨B, 9, none⟩) h _).setCell (p := ⟨B, 10, none⟩) h _).setCell (p := ⟨B, 11, none⟩) h _).setCell (p := ⟨B, 12, none⟩) h _)

end Go.Proofs.Ytkgcpbhlbfjcoaa

/-
  Keys: a step's number and a name; what lies at names.Check.
-/
namespace Go.Proofs.Ytkgcpbhlbfjcoaa
open Go Go.RowKit Go.Maps

def aggO (x : Nat × ByteArray) : Value := .agg #[.int .i64 (x.1 : Int), .string x.2]
structure OkO (x : Nat × ByteArray) : Prop where
  step : I64w (x.1 : Int)
  text : x.2.size ≤ maxLen
theorem aggO_inj {x y : Nat × ByteArray} (h : aggO x = aggO y) : x = y := by
  obtain ⟨a, b⟩ := x
  obtain ⟨a', b'⟩ := y
  simp [aggO] at h
  obtain ⟨h1, rfl⟩ := h
  have : a = a' := by omega
  rw [this]
theorem Try.rowOwn : (146 : TypeId) < Try.prog.types.size := of_decide_eq_true (by kernel_rfl)
theorem Try.keyTOwn : Try.prog.keyTypeAt 3 146 = true := by kernel_rfl
theorem Try.wideOwn : (match Try.prog.underlying 146 with | some (.array _ _) | some (.struct _) => true | _ => false) = true := by rw [Try.underlying146]
set_option maxRecDepth 100000 in
theorem Try.lawOwn : WideMaps.KeyLaw Try.prog 146 := deep_law_laid Try.laid (m := 3) (by omega) Try.rowOwn Try.keyTOwn Try.wideOwn
theorem Try.deepOwn : Try.prog.keyType 146 = true := by kernel_rfl
theorem Try.cellsOwn : Try.prog.cellsOf 146 = 2 := by kernel_rfl
theorem Try.keyOfOwn (a : Int) (s : ByteArray) (h1 : (Lit.int .i64 a).wf = true) (h3 : s.size ≤ maxLen) : ∃ kl, keyOf Try.prog 146 (.agg #[.int .i64 a, .string s]) = some kl := by
  obtain ⟨n, hn⟩ : ∃ n, Try.prog.types.size = n + 1 := Nat.exists_eq_succ_of_ne_zero (Nat.ne_of_gt (Nat.lt_of_le_of_lt (Nat.zero_le _) Try.rowDiag))
  refine ⟨_, keyOf_struct Try.underlying146 (by rw [Try.cellsOwn]; rfl) Try.deepOwn (keyLits_struct Try.underlying146 (by rw [Try.cellsOwn]; rfl) (by decide +kernel) (ls := [[.int .i64 a], [.string s.data.toList]]) ?_)⟩
  rw [hn]
  simp only [List.mapM_cons, List.mapM_nil, Try.cellsInt, Try.cellsString, List.drop_zero, List.take_succ_cons, List.take_zero, List.drop_succ_cons, keyLits_int Try.underlying3 h1, keyLits_str Try.underlying9 h3]
  rfl
set_option maxRecDepth 100000 in
theorem Try.keyOwn : KeyI Try.prog 146 3 144 (Nat × ByteArray) aggO OkO where
  keyed := Keyed.of_law Try.lawOwn
  map := Try.underlying144
  num := Try.underlying3
  zero := Try.zeroInt
  inj := aggO_inj
  key := fun {x} h => Try.keyOfOwn x.1 x.2 (i64_wf h.step) h.text
end Go.Proofs.Ytkgcpbhlbfjcoaa
