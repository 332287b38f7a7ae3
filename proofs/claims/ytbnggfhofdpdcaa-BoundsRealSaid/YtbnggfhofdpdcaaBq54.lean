/-
  Plain: behind which steps each one comes; rows that a call owns, behind an array of them; a drawn region in a round of a loop over a function.
-/
import Derived.Deep.AppendLies
import Derived.Test.YtbnggfhofdpdcaaBq9
import Derived.Test.YtbnggfhofdpdcaaBq16
import Derived.Test.YtbnggfhofdpdcaaBq25
import Derived.Test.YtbnggfhofdpdcaaBq47
import Derived.Test.YtbnggfhofdpdcaaBq49
namespace Go.Proofs.Ytbnggfhofdpdcaa
open Go Go.RowKit

def addRf (i : Nat) (row : List Int) (tt : Int) : List Int := if 0 ≤ tt ∧ tt ≠ i ∧ tt ∉ row then row ++ [tt] else row
def stepRf (rows : List (List Int)) (r : RefD) : List (List Int) := rows.set r.1 (addRf r.1 (rows[r.1]?.getD []) r.2.2)
def rowsRf (n : Nat) (pre : List RefD) : List (List Int) := pre.foldl stepRf (List.replicate n [])
theorem rowsRf_snoc (n : Nat) (pre : List RefD) (r : RefD) : rowsRf n (pre ++ [r]) = stepRf (rowsRf n pre) r := by
  unfold rowsRf; rw [List.foldl_append]; rfl
theorem rowsRf_len (n : Nat) (pre : List RefD) : (rowsRf n pre).length = n := by
  induction pre using snocRec with
  | h0 => simp [rowsRf]
  | h1 l r ih => rw [rowsRf_snoc, stepRf, List.length_set, ih]
theorem addRf_len (i : Nat) (row : List Int) (tt : Int) : (addRf i row tt).length ≤ row.length + 1 := by
  unfold addRf; split <;> simp
theorem rowsRf_row (n : Nat) (pre : List RefD) : ∀ r ∈ rowsRf n pre, r.length ≤ pre.length := by
  induction pre using snocRec with
  | h0 =>
    intro r hr
    have : r = [] := by simp [rowsRf] at hr; exact hr.2
    subst this; exact Nat.le_refl _
  | h1 l x ih =>
    intro r hr
    rw [rowsRf_snoc, stepRf] at hr
    rw [List.length_append, List.length_singleton]
    rcases List.mem_or_eq_of_mem_set hr with h | rfl
    · have := ih r h; omega
    · have h1 := addRf_len x.1 ((rowsRf n l)[x.1]?.getD []) x.2.2
      cases h2 : (rowsRf n l)[x.1]? with
      | none => rw [h2] at h1; simp at h1 ⊢; omega
      | some q => rw [h2] at h1; have := ih q (List.mem_of_getElem? h2); simp at h1 ⊢; omega
/-- Behind which steps one comes. -/
def depsD (all : List StepD) (i : Nat) (s : StepD) : List Int := (s.after.map fun a => idxStep all a 0).foldl (addRf i) []
def depsA (all : List StepD) : Nat → List StepD → List (List Int)
  | _, [] => []
  | i, s :: l => depsD all i s :: depsA all (i + 1) l
theorem depsA_len (all : List StepD) : ∀ (l : List StepD) (i : Nat), (depsA all i l).length = l.length
  | [], _ => rfl
  | s :: l, i => by rw [depsA, List.length_cons, depsA_len all l, List.length_cons]
theorem fold_row (all : List StepD) (i : Nat) : ∀ (ats : List ByteArray) (rows : List (List Int)) (hi : i < rows.length),
    (ats.map fun a => ((i, a, idxStep all a 0) : RefD)).foldl stepRf rows = rows.set i ((ats.map fun a => idxStep all a 0).foldl (addRf i) rows[i])
  | [], rows, hi => by simp
  | a :: ats, rows, hi => by
    rw [List.map_cons, List.foldl_cons, List.map_cons, List.foldl_cons]
    have e : stepRf rows (i, a, idxStep all a 0) = rows.set i (addRf i rows[i] (idxStep all a 0)) := by
      unfold stepRf
      simp [hi]
    rw [e, fold_row all i ats _ (by simpa using hi)]
    simp
theorem fold_all (all : List StepD) : ∀ (l : List StepD) (i : Nat) (pre : List (List Int)), pre.length = i → (refsF all i l).foldl stepRf (pre ++ List.replicate l.length []) = pre ++ depsA all i l
  | [], i, pre, _ => by simp [refsF, depsA]
  | s :: l, i, pre, h => by
    subst h
    rw [refsF, List.foldl_append, rowRf, fold_row all pre.length s.after _ (by simp), depsA]
    have e1 : (pre ++ List.replicate (s :: l).length []).set pre.length ((s.after.map fun a => idxStep all a 0).foldl (addRf pre.length) (pre ++ List.replicate (s :: l).length [])[pre.length]) = (pre ++ [depsD all pre.length s]) ++ List.replicate l.length [] := by
      simp [List.replicate_succ, depsD]
    rw [e1, fold_all all l (pre.length + 1) (pre ++ [depsD all pre.length s]) (by simp)]
    simp
theorem rowsRf_all (all : List StepD) : rowsRf all.length (refsF all 0 all) = depsA all 0 all := by
  have := fold_all all all 0 [] rfl
  simpa [rowsRf] using this
theorem refsF_mem (all : List StepD) : ∀ (l : List StepD) (i : Nat) (r : RefD), r ∈ refsF all i l → i ≤ r.1 ∧ r.1 < i + l.length ∧ r.2.2 = idxStep all r.2.1 0 ∧ ∃ s, l[r.1 - i]? = some s ∧ r.2.1 ∈ s.after
  | [], i, r, h => by simp [refsF] at h
  | s :: l, i, r, h => by
    rw [refsF, List.mem_append] at h
    rcases h with h | h
    · unfold rowRf at h
      obtain ⟨a, ha, rfl⟩ := List.mem_map.1 h
      exact ⟨Nat.le_refl _, by simp, rfl, s, by simp, ha⟩
    · obtain ⟨h1, h2, h3, t, h4, h5⟩ := refsF_mem all l (i + 1) r h
      refine ⟨by omega, by simp; omega, h3, t, ?_, h5⟩
      rw [show r.1 - i = (r.1 - (i + 1)) + 1 by omega]
      simpa using h4

/-- Rows that a call owns, behind an array of them in block B; S: blocks that hold none of it. -/
def RowsAt (W : World) (S : Nat → Prop) (base B : Nat) (rows : List (List Int)) : Prop :=
  ∃ cs : List Value, cs.length = rows.length ∧ W.heap[B]? = some (.cells cs.toArray 59 (0, 0)) ∧ ¬ S B ∧
    (∀ (i : Nat) (r : List Int) (c : Value), rows[i]? = some r → cs[i]? = some c → W.ownsRow base 3 1 c r.length (ints .i64 r) ∧ ∀ g, c.ownBlock = some g → ¬ S g) ∧
    ∀ (i j : Nat) (c c' : Value) (g : Nat), i ≠ j → cs[i]? = some c → cs[j]? = some c' → c.ownBlock = some g → c'.ownBlock ≠ some g
theorem RowsAt.step {n0 : Nat} {S S' : Nat → Prop} {W W' : World} {base B : Nat} {rows : List (List Int)} (h : RowsAt W S base B rows) (hs : Step n0 S S' W W') : RowsAt W' S' base B rows := by
  obtain ⟨cs, h1, h2, h3, h4, h5⟩ := h
  have hl := (Array.getElem?_eq_some_iff.1 h2).1
  refine ⟨cs, h1, (hs.same B hl h3).trans h2, fun hs' => ?_, fun i r c hi hc => ?_, h5⟩
  · rcases hs.new B hs' with h | h
    · exact h3 h
    · omega
  · obtain ⟨q1, q2⟩ := h4 i r c hi hc
    exact hs.owns q1 q2
theorem RowsAt.below {S : Nat → Prop} {W W' : World} {base B : Nat} {rows : List (List Int)} (h : RowsAt W S base B rows) (hb : Below W.heap.size W W') : RowsAt W' S base B rows := by
  obtain ⟨cs, h1, h2, h3, h4, h5⟩ := h
  exact ⟨cs, h1, (hb.block B (Array.getElem?_eq_some_iff.1 h2).1).trans h2, h3, fun i r c hi hc => ⟨ownsB (h4 i r c hi hc).1 hb, (h4 i r c hi hc).2⟩, h5⟩
theorem RowsAt.drew {S : Nat → Prop} {W : World} {base B : Nat} {rows : List (List Int)} (h : RowsAt W S base B rows) : RowsAt W.drew S base B rows := h.below ((Below.refl _ _).drew)
theorem RowsAt.rows2 {S : Nat → Prop} {W : World} {base B : Nat} {rows : List (List Int)} (h : RowsAt W S base B rows) (hn : rows.length ≤ 1073741824) : Rows2 W (.slice (some ⟨B, 0, none⟩) rows.length rows.length) rows := by
  obtain ⟨cs, h1, h2, h3, h4, h5⟩ := h
  refine ⟨cs, ?_, h1, fun i r hi => ?_⟩
  · have := rds_rowK rows.length 1 h2 (by omega) (by omega)
    exact this
  · have hl : i < cs.length := by rw [h1]; exact (List.getElem?_eq_some_iff.1 hi).1
    exact ⟨cs[i], List.getElem?_eq_getElem hl, RdS.of_owns (h4 i r _ hi (List.getElem?_eq_getElem hl)).1⟩
theorem RowsAt.free {S : Nat → Prop} {W : World} {base B : Nat} {rows : List (List Int)} (h : RowsAt W S base B rows) : RowsAt W (fun _ => False) base B rows := by
  obtain ⟨cs, h1, h2, h3, h4, h5⟩ := h
  exact ⟨cs, h1, h2, id, fun i r c hi hc => ⟨(h4 i r c hi hc).1, fun _ _ h => h⟩, h5⟩
theorem RowsAt.same {S : Nat → Prop} {W W' : World} {base B : Nat} {rows : List (List Int)} (h : RowsAt W S base B rows) (hB : base ≤ B) (hs : ∀ q, base ≤ q → q < W.heap.size → W'.heap[q]? = W.heap[q]?) : RowsAt W' S base B rows := by
  obtain ⟨cs, h1, h2, h3, h4, h5⟩ := h
  refine ⟨cs, h1, (hs B hB (Array.getElem?_eq_some_iff.1 h2).1).trans h2, h3, fun i r c hi hc => ⟨?_, (h4 i r c hi hc).2⟩, h5⟩
  obtain ⟨q1, q2⟩ := (h4 i r c hi hc).1
  refine ⟨q1, ?_⟩
  rcases q2 with q2 | ⟨g, cap, cur, hv, hg, hh, rest⟩
  · exact .inl q2
  · exact .inr ⟨g, cap, cur, hv, hg, (hs g hg (Array.getElem?_eq_some_iff.1 hh).1).trans hh, rest⟩
theorem RowsAt.cell {S : Nat → Prop} {W : World} {base B : Nat} {rows : List (List Int)} (h : RowsAt W S base B rows) {i : Nat} (hi : i < rows.length) : ∃ va vc, W.cell? ⟨B, i, none⟩ = some (.slice va rows[i].length vc) ∧ W.frozen? ⟨B, i, none⟩ = false ∧ W.ownsRow base 3 1 (.slice va rows[i].length vc) rows[i].length (ints .i64 rows[i]) ∧ (Value.slice va rows[i].length vc).ownBlock ≠ some B := by
  obtain ⟨cs, h1, h2, h3, h4, h5⟩ := h
  have hl : i < cs.length := by omega
  obtain ⟨q1, q2⟩ := h4 i _ _ (List.getElem?_eq_getElem hi) (List.getElem?_eq_getElem hl)
  obtain ⟨va, vc, hv⟩ := (RdS.of_owns q1).form
  have hc : W.cell? ⟨B, i, none⟩ = some cs[i] := by simp [World.cell?, h2, hl]
  have hne : (cs[i]).ownBlock ≠ some B := fun e => by
    obtain ⟨cur, hq⟩ := owns_cells q1 e
    rw [h2] at hq
    cases hq
  rw [hv] at hc q1 hne
  exact ⟨va, vc, hc, by simp [World.frozen?, h2], q1, hne⟩
/-- One row is put on. -/
theorem RowsAt.push {n0 : Nat} {S : Nat → Prop} {W w1 : World} {base B vc cap g : Nat} {va : Option Addr} {rows : List (List Int)} {tmp : Obj} {x : Int} (h : RowsAt W S base B rows) {i : Nat} (hi : i < rows.length) (hcell : W.cell? ⟨B, i, none⟩ = some (.slice va rows[i].length vc)) (hn0 : n0 ≤ base) (hB : n0 ≤ B) (hW : n0 ≤ W.heap.size) (hS : ∀ k, S k → k < W.heap.size)
    (hown' : w1.ownsRow base 3 1 (.slice (some ⟨g, 0, none⟩) (rows[i].length + 1) cap) (rows[i].length + 1) (ints .i64 rows[i] ++ [.int .i64 x])) (hgrow : (W.alloc tmp).grownBy w1 (Value.slice va rows[i].length vc).ownBlock) (hat : (Value.slice va rows[i].length vc).ownBlock = some g ∨ g = W.heap.size + 1) :
    RowsAt (w1.setCell ⟨B, i, none⟩ (.slice (some ⟨g, 0, none⟩) (rows[i].length + 1) cap)) S base B (rows.set i (rows[i] ++ [x])) ∧ Keep n0 S W (w1.setCell ⟨B, i, none⟩ (.slice (some ⟨g, 0, none⟩) (rows[i].length + 1) cap)) ∧ (∀ (q : Nat) (o : Obj), W.heap[q]? = some o → q ≠ B → (Value.slice va rows[i].length vc).ownBlock ≠ some q → (w1.setCell ⟨B, i, none⟩ (.slice (some ⟨g, 0, none⟩) (rows[i].length + 1) cap)).heap[q]? = some o) ∧ W.heap.size ≤ (w1.setCell ⟨B, i, none⟩ (.slice (some ⟨g, 0, none⟩) (rows[i].length + 1) cap)).heap.size := by
  obtain ⟨cs, h1, h2, h3, h4, h5⟩ := h
  have hl : i < cs.length := by omega
  have hBl := (Array.getElem?_eq_some_iff.1 h2).1
  have hci : cs[i]? = some (.slice va rows[i].length vc) := by
    have hc : W.cell? ⟨B, i, none⟩ = some cs[i] := by simp [World.cell?, h2, hl]
    rw [hc] at hcell
    rw [List.getElem?_eq_getElem hl, hcell]
  obtain ⟨q1, q2⟩ := h4 i _ _ (List.getElem?_eq_getElem hi) hci
  have hoB : (Value.slice va rows[i].length vc).ownBlock ≠ some B := fun e => by
    obtain ⟨cur, hq⟩ := owns_cells q1 e
    rw [h2] at hq
    cases hq
  have hB1 : w1.heap[B]? = some (.cells cs.toArray 59 (0, 0)) := kept_push h2 hgrow hoB
  have hgB : g ≠ B := by
    rintro rfl
    rcases hat with h | h
    · exact hoB h
    · omega
  have hgS : ¬ S g := by
    rcases hat with h | h
    · exact q2 g h
    · exact fun hs => by have := hS g hs; omega
  have hsz : W.heap.size ≤ w1.heap.size := by have := hgrow.size; simp at this; omega
  have hnew : ∀ q, q ≠ B → (w1.setCell ⟨B, i, none⟩ (.slice (some ⟨g, 0, none⟩) (rows[i].length + 1) cap)).heap[q]? = w1.heap[q]? := fun q hq => Below.heap_setCell _ _ _ _ hq
  have hBn : (w1.setCell ⟨B, i, none⟩ (.slice (some ⟨g, 0, none⟩) (rows[i].length + 1) cap)).heap[B]? = some (.cells (cs.set i (.slice (some ⟨g, 0, none⟩) (rows[i].length + 1) cap)).toArray 59 (0, 0)) := by
    have := setCell_heap i (.slice (some ⟨g, 0, none⟩) (rows[i].length + 1) cap) hB1
    rw [this]
    simp
  refine ⟨⟨cs.set i (.slice (some ⟨g, 0, none⟩) (rows[i].length + 1) cap), by simpa using h1, hBn, h3, fun j r c hj hc => ?_, fun j k c c' b hjk hc hc' hb => ?_⟩, ⟨?_, fun k hk => ?_⟩, fun q o hq hqB hqo => ?_, by simp; exact hsz⟩
  · by_cases hji : j = i
    · subst hji
      simp [hi] at hj
      simp [hl] at hc
      subst hj hc
      refine ⟨?_, fun b hb => by simp [Value.ownBlock] at hb; subst hb; exact hgS⟩
      have e : ints .i64 (rows[j] ++ [x]) = ints .i64 rows[j] ++ [.int .i64 x] := by simp [ints]
      rw [e, List.length_append]
      exact hown'.kept (row := some B) ⟨rfl, rfl, rfl, by simp, fun k _ hk => Below.heap_setCell _ _ _ k (fun e => hk (by rw [e]))⟩ (.inr (by simp [Value.ownBlock]; exact hgB))
    · rw [List.getElem?_set_ne (Ne.symm hji)] at hj hc
      obtain ⟨r1, r2⟩ := h4 j r c hj hc
      refine ⟨?_, r2⟩
      have hne : c.ownBlock = none ∨ c.ownBlock ≠ (Value.slice va rows[i].length vc).ownBlock := by
        cases hcb : c.ownBlock with
        | none => exact .inl rfl
        | some b => exact .inr fun e => h5 j i _ _ b hji hc hci hcb e.symm
      have k1 := (r1.alloc tmp).kept hgrow hne
      refine k1.kept (row := some B) ⟨rfl, rfl, rfl, by simp, fun k _ hk => Below.heap_setCell _ _ _ k (fun e => hk (by rw [e]))⟩ (.inr fun e => ?_)
      obtain ⟨cur, hq⟩ := owns_cells r1 e
      rw [h2] at hq
      cases hq
  · have hgj : ∀ (j : Nat) (c : Value), j ≠ i → cs[j]? = some c → c.ownBlock ≠ some g := fun j c hj hc e => by
      rcases hat with h | h
      · exact h5 i j _ _ g (Ne.symm hj) hci hc h e
      · have hjl : j < rows.length := by have := (List.getElem?_eq_some_iff.1 hc).1; omega
        have := ((h4 j _ _ (List.getElem?_eq_getElem hjl) hc).1.lt g e).2
        omega
    by_cases hji : j = i
    · subst hji
      simp [hl] at hc
      subst hc
      simp [Value.ownBlock] at hb
      subst hb
      rw [List.getElem?_set_ne hjk] at hc'
      exact hgj k _ (Ne.symm hjk) hc'
    · rw [List.getElem?_set_ne (Ne.symm hji)] at hc
      by_cases hki : k = i
      · subst hki
        simp [hl] at hc'
        subst hc'
        intro e
        simp [Value.ownBlock] at e
        subst e
        exact hgj j _ hji hc hb
      · rw [List.getElem?_set_ne (Ne.symm hki)] at hc'
        exact h5 j k _ _ b hjk hc hc' hb
  · exact (((Below.refl n0 W).alloc hW tmp).grown hgrow (by simp; omega) fun j ej => Nat.le_trans hn0 (q1.lt j ej).1).setCell (p := ⟨B, i, none⟩) hB _
  · have hkB : k ≠ B := fun e => h3 (e ▸ hk)
    rw [hnew k hkB]
    have hko : (Value.slice va rows[i].length vc).ownBlock ≠ some k := fun e => q2 k e hk
    rw [hgrow.block k (by simp; have := hS k hk; omega) (fun e => hko e.symm)]
    exact Below.heap_alloc _ _ _ (hS k hk)
  · rw [hnew q hqB]
    exact kept_push hq hgrow hqo
theorem RowsAt.pushR {n0 : Nat} {S : Nat → Prop} {W w1 : World} {base B vc cap g : Nat} {va : Option Addr} {rows : List (List Int)} {tmp : Obj} {x : Int} (h : RowsAt W S base B rows) {i : Nat} (hi : i < rows.length) {row : List Int} (hrow : rows[i] = row) (hcell : W.cell? ⟨B, i, none⟩ = some (.slice va row.length vc)) (hn0 : n0 ≤ base) (hB : n0 ≤ B) (hW : n0 ≤ W.heap.size) (hS : ∀ k, S k → k < W.heap.size)
    (hown' : w1.ownsRow base 3 1 (.slice (some ⟨g, 0, none⟩) (row.length + 1) cap) (row.length + 1) (ints .i64 row ++ [.int .i64 x])) (hgrow : (W.alloc tmp).grownBy w1 (Value.slice va row.length vc).ownBlock) (hat : (Value.slice va row.length vc).ownBlock = some g ∨ g = W.heap.size + 1) :
    RowsAt (w1.setCell ⟨B, i, none⟩ (.slice (some ⟨g, 0, none⟩) (row.length + 1) cap)) S base B (rows.set i (row ++ [x])) ∧ Keep n0 S W (w1.setCell ⟨B, i, none⟩ (.slice (some ⟨g, 0, none⟩) (row.length + 1) cap)) ∧ (∀ (q : Nat) (o : Obj), W.heap[q]? = some o → q ≠ B → (Value.slice va row.length vc).ownBlock ≠ some q → (w1.setCell ⟨B, i, none⟩ (.slice (some ⟨g, 0, none⟩) (row.length + 1) cap)).heap[q]? = some o) ∧ W.heap.size ≤ (w1.setCell ⟨B, i, none⟩ (.slice (some ⟨g, 0, none⟩) (row.length + 1) cap)).heap.size := by
  subst hrow
  exact RowsAt.push h hi hcell hn0 hB hW hS hown' hgrow hat
/-- A drawn region in a round of a loop over a function. -/
theorem E_regionR {P : Program} {l : List Oper} {Q : Exit → Act → World → Prop} {S : World → Prop} {id lp : Nat} {a : Act} {w : World} (k : Nat) (hm : P.follows .mixedOrders = true) (hnd : noDefer l = true) (hS : S w.drew)
    (h : ∀ Q' : Exit → Act → World → Prop, (∀ c a (d : Tmp) v w, Q' (.panic c) (a.put (some d) v) w → Q' (.panic c) a w) → Shut (∀ a w, Q .normal a w → Q' .normal a w) → S w.drew →
      wpAnyE P .any l.toArray Q' S k l.toArray.size (Array.replicate l.toArray.size false) a w.drew) : (Code.region id l.toArray true).wpIn (Fence.wide.inRound lp) 0 P Q a w :=
  wpIn_region_any hm (anyIn_of_any lp (noDefer_spec hnd) _ _ _ _ (wpAny_of_E _ _ _ _ (h (onlyNormal Q) (fun _ _ _ _ _ h => absurd h.1 (by simp)) (fun _ _ h => ⟨rfl, h⟩) hS)))
theorem Try.info_rows : (Try.prog.info? 59).map (fun i => (i.zero, i.size, i.bytes)) = some (some (.slice none 0 0), 1, 24) := by kernel_rfl
theorem Try.info_int : (Try.prog.info? 3).map (fun i => (i.zero, i.size, i.bytes)) = some (some (.int .i64 0), 1, 8) := by kernel_rfl
theorem made_one (x : Value) (n : Nat) : madeCells #[x] n = (List.replicate n x).toArray := by
  apply Array.ext
  · simp [madeCells]
  · intro i h1 h2
    simp [madeCells, Nat.mod_one]
theorem make_rows (n : Nat) (w : World) (h : n ≤ 1073741824) : (Instr.makeSlice 55 (.int .i64 n) (.int .i64 n)).run Try.prog w = .ok (.slice (some ⟨w.heap.size, 0, none⟩) n n) (w.alloc (.cells (List.replicate n (Value.slice none 0 0)).toArray 59)) := by
  obtain ⟨i0, hi, hz0, hz1, hz2⟩ := info_parts Try.info_rows
  have := run_make (P := Try.prog) w 55 59 i0 (.slice none 0 0) Try.underlying55 hi hz0 .i64 .i64 n n (by omega) (by omega) (by rw [hz2]; omega) (by omega)
  rw [this, hz1]
  simp only [Int.toNat_natCast, Nat.mul_one]
  rw [show (Value.slice none 0 0).cells = #[.slice none 0 0] from rfl, made_one]
theorem rowsAt_made (W : World) (S : Nat → Prop) (base B n : Nat) (h : W.heap[B]? = some (.cells (List.replicate n (Value.slice none 0 0)).toArray 59 (0, 0))) (hS : ¬ S B) : RowsAt W S base B (List.replicate n []) := by
  refine ⟨List.replicate n (.slice none 0 0), by simp, h, hS, fun i r c hi hc => ?_, fun i j c c' g _ hc _ hg => ?_⟩
  · simp [List.getElem?_replicate] at hi hc
    obtain ⟨_, rfl⟩ := hi
    obtain ⟨_, rfl⟩ := hc
    exact ⟨World.ownsRow_nil _ _ _ _, fun g hg => by cases hg⟩
  · simp [List.getElem?_replicate] at hc
    obtain ⟨_, rfl⟩ := hc
    cases hg
end Go.Proofs.Ytbnggfhofdpdcaa

/-
  names.Refs: contract.
-/
namespace Go.Proofs.Ytbnggfhofdpdcaa
open Go.RowKit Go.WideShapes Go.Maps
attribute [local go_sem] Oper.semAt_some wide_fn wide_depth wide_fn' wide_depth'

theorem alloc4 (w : World) (o0 o1 o2 o3 : Obj) : Below w.heap.size w ((((w.alloc o0).alloc o1).alloc o2).alloc o3) ∧ ((((w.alloc o0).alloc o1).alloc o2).alloc o3).heap[w.heap.size]? = some o0 ∧ ((((w.alloc o0).alloc o1).alloc o2).alloc o3).heap[w.heap.size + 1]? = some o1 ∧ ((((w.alloc o0).alloc o1).alloc o2).alloc o3).heap[w.heap.size + 2]? = some o2 ∧ ((((w.alloc o0).alloc o1).alloc o2).alloc o3).heap[w.heap.size + 3]? = some o3 ∧ ((((w.alloc o0).alloc o1).alloc o2).alloc o3).heap.size = w.heap.size + 4 := by
  have e0 := World.alloc_heap_new w o0
  have e1 := World.alloc_heap_new (w.alloc o0) o1
  have e2 := World.alloc_heap_new ((w.alloc o0).alloc o1) o2
  have e3 := World.alloc_heap_new (((w.alloc o0).alloc o1).alloc o2) o3
  simp only [World.size_alloc] at e1 e2 e3
  refine ⟨((((Below.refl _ w).alloc (Nat.le_refl _) _).alloc (by simp only [World.size_alloc]; omega) _).alloc (by simp only [World.size_alloc]; omega) _).alloc (by simp only [World.size_alloc]; omega) _, ?_, ?_, ?_, e3, by simp⟩
  · rw [Below.heap_alloc _ _ _ (by simp only [World.size_alloc]; omega), Below.heap_alloc _ _ _ (by simp only [World.size_alloc]; omega), Below.heap_alloc _ _ _ (by simp only [World.size_alloc]; omega)]; exact e0
  · rw [Below.heap_alloc _ _ _ (by simp only [World.size_alloc]; omega), Below.heap_alloc _ _ _ (by simp only [World.size_alloc]; omega)]; exact e1
  · rw [Below.heap_alloc _ _ _ (by simp only [World.size_alloc]; omega)]; exact e2
def rfJ (w : World) (n : Nat) : (Nat → Prop) → List RefD → World → Prop := fun S pre W =>
  RowsAt W S (w.heap.size + 1) (w.heap.size + 1) (rowsRf n pre) ∧ Boxed W (w.heap.size + 2) 55 (.slice (some ⟨w.heap.size + 1, 0, none⟩) n n) ∧ ¬ S (w.heap.size + 2) ∧ Below w.heap.size w W
theorem rfJ_step (w : World) (n : Nat) : Stable (w.heap.size + 1) (rfJ w n) := by
  rintro S S' s W W' hS ⟨h0, h1, h2, h3⟩ hs
  exact ⟨h0.step hs, (hs.boxed h1 h2).1, (hs.boxed h1 h2).2, h3.trans (hs.below.mono (by omega))⟩

set_option maxRecDepth 100000 in
set_option maxHeartbeats 4000000 in
theorem nRefsA_any (d : DefD) (cs : List Value) (sa : Option Addr) (sc : Nat) (w : World) (h : DefR w cs d sa sc) (hlen : d.steps.length ≤ 1000000) (hrl : (refsF d.steps 0 d.steps).length ≤ 1000000) :
    Calls Try.prog 33 #[.agg cs.toArray] w fun e w' => e = .returned (.slice (some ⟨w.heap.size + 1, 0, none⟩) d.steps.length d.steps.length) ∧ RowsAt w' (fun _ => False) (w.heap.size + 1) (w.heap.size + 1) (depsA d.steps 0 d.steps) ∧ Below w.heap.size w w' := by
  obtain ⟨i0, hi, hz0, hz1, hz2⟩ := info_parts Try.info_int
  obtain ⟨rfl, hna, hta, hva⟩ := h
  obtain ⟨_, _, he1, hl1, hl2⟩ := hva.form
  cases he1
  have hmk : ∀ w : World, (Instr.makeSlice 55 (.int .i64 d.steps.length) (.int .i64 d.steps.length)).run Try.prog w = .ok (.slice (some ⟨w.heap.size, 0, none⟩) d.steps.length d.steps.length) (w.alloc (.cells (List.replicate d.steps.length (Value.slice none 0 0)).toArray 59)) := fun w => make_rows d.steps.length w (by omega)
  have g0 := World.alloc_heap_new w (.cells #[.string d.name, .string d.text, .slice sa d.steps.length sc] 24)
  obtain ⟨p0, p1, p2, -, -, -⟩ := cells3h g0
  have HVA := Lib.hid hva
  clear hva g0
  refine (callsIn_wide (n := 0)).1 ?_
  refine callsIn_of_wp_marks Try.func33 rfl trivial ?_ rfl
  simp only [Try.ntmps33, List.size_toArray, List.length_cons, List.length_nil, Nat.reduceAdd, Nat.reduceSub, Array.replicate_succ, Array.replicate_zero, List.push_toArray, List.append_toArray, List.nil_append, List.cons_append]
  gi_wp2_with fail
  refine (callsIn_wide.2 (refs_any _ rfl _)).mono ?_
  rintro e w4 ⟨rfl, rfl⟩
  have hal := alloc4 w (.cells #[.string d.name, .string d.text, .slice sa d.steps.length sc] 24) (.cells (Array.replicate d.steps.length (Value.slice none 0 0)) 59) (.cells #[.slice (some ⟨w.heap.size + 1, 0, none⟩) d.steps.length d.steps.length] 55) (.cells #[.string d.name, .string d.text, .slice sa d.steps.length sc] 24)
  obtain ⟨gbl, g0, g1, g2, g3, hsz⟩ := hal
  clear p0 p1 p2 hmk
  gi_wp2_with fail
  generalize ((((w.alloc (.cells #[.string d.name, .string d.text, .slice sa d.steps.length sc] 24)).alloc (.cells (Array.replicate d.steps.length (Value.slice none 0 0)) 59)).alloc (.cells #[.slice (some ⟨w.heap.size + 1, 0, none⟩) d.steps.length d.steps.length] 55)).alloc (.cells #[.string d.name, .string d.text, .slice sa d.steps.length sc] 24)) = w4 at *
  have HRM := Lib.hid (fun r => refsF_mem d.steps d.steps 0 r)
  refine' wpIn_rf rfl (enters_of Try.func147 (by kernel_rfl) rfl) (refs_iter d sa sc (w.heap.size + 1) (w.heap.size + 3) w w4 (by omega) (by omega) g3 hna hta HVA.out hlen gbl (by omega)) (by omega) (by rintro j rfl; omega) (fun _ => rfl)
    (rfJ w d.steps.length) (fun _ => fun _ _ _ => False) ?hfin ?hJ ?hJx ?h0 ?Ax ?hAx ?assign ?body ?done ?stop
  case hfin => exact fun h => absurd trivial h
  case hJ => exact rfJ_step w d.steps.length
  case hJx => exact fun _ _ _ _ _ _ _ h _ => h
  case h0 => exact ⟨rowsAt_made w4 _ _ _ d.steps.length (by simpa using g1) (by omega), g2, by omega, gbl⟩
  case Ax => exact fun y a' W => ∃ b, a' = { tmps := #[.agg #[.string d.name, .string d.text, .slice sa d.steps.length sc], .pointer (some ⟨w.heap.size, 0, none⟩), .slice none 0 0, .pointer (some ⟨w.heap.size + 1 + 1, 0, none⟩), .pointer (some ⟨b, 0, none⟩), .pointer (some ⟨w.heap.size, 2, none⟩), .slice sa d.steps.length sc, .int .i64 (d.steps.length : Int), .slice (some ⟨w.heap.size + 1, 0, none⟩) d.steps.length d.steps.length, .agg #[.string d.name, .string d.text, .slice sa d.steps.length sc], .func (.func 147) #[] #[.pointer (some ⟨w.heap.size + 1 + 1 + 1, 0, none⟩)], .agg #[.int .i64 (y.1 : Int), .string y.2.1, .int .i64 y.2.2], undef, undef, undef, undef, undef, undef, undef, undef, undef, undef, undef, undef, undef, undef, undef, undef, undef, undef, undef, undef, undef, undef, undef, undef, undef, undef, undef, undef, undef, undef, undef, undef, undef, undef, undef], defers := [] } ∧ W.heap[b]? = some (.cells #[.int .i64 (y.1 : Int), .string y.2.1, .int .i64 y.2.2] 129 (0, 0))
  case hAx =>
    rintro y a' l W W' hl hlt ⟨b, rfl, hb⟩ hs ⟨r, hr⟩
    have hne : b ≠ l := by rintro rfl; rw [hr] at hb; cases hb
    exact ⟨b, rfl, (hs.same b (Array.getElem?_eq_some_iff.1 hb).1 hne).trans hb⟩
  case assign =>
    rintro l S pre ⟨i, a, tt⟩ W K hS hw hj hpre hK
    dsimp only [encRf]
    have HS := Lib.hid hS
    have HK := Lib.hid hK
    have HJ := Lib.hid hj
    have hsW : w.heap.size + 1 ≤ W.heap.size := by omega
    clear hS hK hj
    gi_wp2_with fail
    have hal : Below W.heap.size W (W.alloc (.cells #[.int .i64 (i : Int), .string a, .int .i64 tt] 129)) := (Below.refl _ _).alloc (Nat.le_refl _) _
    refine HK.out _ _ ⟨hal.mono hsW, fun j hj => hal.block j (HS.out j hj).2⟩ (rfJ_step w d.steps.length S S _ _ _ HS.out HJ.out (Step.of_below hsW hal)) ⟨W.heap.size, rfl, World.alloc_heap_new W _⟩
  case done =>
    rintro D S W hD hS hSD ⟨h0, h1, h2, h3⟩ hKD
    have hc := h1.cell
    have H0 := Lib.hid h0
    have H3 := Lib.hid h3
    have HS := Lib.hid hS
    have HSP := Lib.hid (Step.putObj (n0 := w.heap.size + 1) (S := S) (W := W) (.deferred none) hSD (hS D hSD).1)
    clear h0 h3 hS
    gi_wp2
    refine ⟨by simp, .inl ⟨_, _, rfl, run_takeDeferred hKD, ?_⟩⟩
    have hr := (H0.out.step HSP.out).free
    rw [rowsRf_all] at hr
    refine ⟨_, results_tmp rfl _ _ _, rfl, ?_, H3.out.trans (below_putObj _ _ (by omega))⟩
    exact hr
  case stop => exact fun _ _ _ _ _ _ _ _ _ h => h.elim
  case body =>
    rintro l S pre ⟨i, a, tt⟩ a' W hS hw hSl - ⟨h0, h1, h2, h3⟩ ⟨b, rfl, hb⟩ hpre
    obtain ⟨-, hi0, -, -⟩ := HRM.out _ (hpre.subset (by simp : ((i, a, tt) : RefD) ∈ pre ++ [(i, a, tt)]))
    simp only [Nat.zero_add] at hi0
    have hpl := hpre.length_le
    rw [List.length_append, List.length_singleton] at hpl
    have hir : i < (rowsRf d.steps.length pre).length := by rw [rowsRf_len]; exact hi0
    have hrwl := rowsRf_row d.steps.length pre _ (List.getElem_mem hir)
    obtain ⟨va, vc, y0, yf, how, hneB⟩ := h0.cell hir
    have HOW := Lib.hid how
    have HRW := Lib.hid (RdS.of_owns how)
    have hSN : Hid (rowsRf d.steps.length (pre ++ [(i, a, tt)]) = (rowsRf d.steps.length pre).set i (addRf i (rowsRf d.steps.length pre)[i] tt)) := Lib.hid (by rw [rowsRf_snoc]; unfold stepRf; simp [hir])
    have hsW : w.heap.size + 1 ≤ W.heap.size := by omega
    have HSl : Hid (∀ k, S k → k < W.heap.size) := Lib.hid (fun k hk => (hS k hk).2)
    obtain ⟨p0, p1, p2, -, -, -⟩ := cells3h hb
    have q1 := h1.cell
    have HBX := Lib.hid h1
    have HB4 := Lib.hid hb
    have H2 := Lib.hid h2
    have H3 := Lib.hid h3
    have H0 := Lib.hid h0
    have hi1 : (i : Int) < (d.steps.length : Int) := by omega
    have hn63 : d.steps.length ≤ 9223372036854775807 := by omega
    have hBl : w.heap.size + 1 < W.heap.size := World.block_lt_of_cell? W _ y0
    have hneb : (Value.slice va (rowsRf d.steps.length pre)[i].length vc).ownBlock ≠ some b := fun e => by
      obtain ⟨cur, hc⟩ := owns_cells how e
      rw [hb] at hc
      cases hc
    have hnex : (Value.slice va (rowsRf d.steps.length pre)[i].length vc).ownBlock ≠ some (w.heap.size + 2) := fun e => by
      obtain ⟨cur, hc⟩ := owns_cells how e
      rw [show W.heap[w.heap.size + 2]? = _ from h1] at hc
      cases hc
    have HKEEP : Hid (rowsRf d.steps.length pre = (rowsRf d.steps.length pre).set i (rowsRf d.steps.length pre)[i]) := Lib.hid (by simp)
    clear hS h0 h1 h2 h3 hb hpre how
    have hrw0 : (rowsRf d.steps.length pre)[i].length ≤ 1000000 := by omega
    clear hrwl hpl
    generalize hrr : rowsRf d.steps.length pre = rows at *
    generalize hrw : rows[i] = row at *
    obtain ⟨n, hn⟩ : ∃ n, d.steps.length = n := ⟨_, rfl⟩
    rw [hn] at q1 hi1 hn63 ⊢
    have HC3 := Lib.hid (fun (W : World) (h : RdS W (.slice va row.length vc) 1 row.length (ints .i64 row)) => Contains_any row tt _ W h)
    have HAD : Hid (addRf i row tt = if 0 ≤ tt ∧ tt ≠ i ∧ tt ∉ row then row ++ [tt] else row) := Lib.hid rfl
    dsimp only
    gi_upto_region 4 with fail
    gi_cut [32] from 12 (fun s32 wx => s32 = .bool (decide (0 ≤ tt ∧ tt ≠ i ∧ tt ∉ row)) ∧ wx = W.drew)
    case first =>
      by_cases c1 : 0 ≤ tt
      case neg =>
        have d1 : decide (0 ≤ tt) = false := decide_eq_false c1
        have hF : Hid (decide (0 ≤ tt ∧ tt ≠ i ∧ tt ∉ row) = false) := Lib.hid (decide_eq_false fun h => c1 h.1)
        clear c1
        refine E_regionR (S := (fun W => W.cell? ⟨b, 0, none⟩ = some (.int .i64 (i : Int)) ∧ W.cell? ⟨b, 2, none⟩ = some (.int .i64 tt) ∧ W.cell? ⟨w.heap.size + 2, 0, none⟩ = some (.slice (some ⟨w.heap.size + 1, 0, none⟩) n n) ∧ W.cell? ⟨w.heap.size + 1, i, none⟩ = some (.slice va row.length vc))) 20 (by kernel_rfl) (by kernel_rfl) ⟨p0, p2, q1, y0⟩ (fun Q' hQ hK' hHeld => ?_)
        refine E_take0 hQ (fun _ => hHeld) 0 (v := ?eav1) rfl rfl (by kernel_rfl) (by kernel_rfl) (by kernel_rfl) (by decide) (by rfl) ?eay1 ?ear1
        case eay1 => (intro w; go_simp; (try with_reducible rfl))
        (try simp only [Act.put, List.setIfInBounds_toArray, List.set_cons_zero, List.set_cons_succ])
        refine E_take hQ hHeld 1 (v := ?eav2) rfl rfl (by kernel_rfl) (by kernel_rfl) (by kernel_rfl) (by kernel_rfl) (by kernel_rfl) (by rfl) ?eay2 ?ear2
        case eay2 => (intro w hSw; (try dsimp only at hSw); go_simp; (try with_reducible rfl))
        (try simp only [Act.put, List.setIfInBounds_toArray, List.set_cons_zero, List.set_cons_succ])
        refine E_take0 hQ (fun _ => hHeld) 2 (v := ?eav3) rfl rfl (by kernel_rfl) (by kernel_rfl) (by kernel_rfl) (by decide) (by rfl) ?eay3 ?ear3
        case eay3 => (intro w; go_simp; (try with_reducible rfl))
        (try simp only [Act.put, List.setIfInBounds_toArray, List.set_cons_zero, List.set_cons_succ])
        refine E_take0 hQ (fun _ => hHeld) 3 (v := ?eav4) rfl rfl (by kernel_rfl) (by kernel_rfl) (by kernel_rfl) (by decide) (by rfl) ?eay4 ?ear4
        case eay4 => (intro w; go_simp; (try with_reducible rfl))
        (try simp only [Act.put, List.setIfInBounds_toArray, List.set_cons_zero, List.set_cons_succ])
        refine E_off hQ (fun _ => hHeld) 4 rfl rfl (by kernel_rfl) (by kernel_rfl) (by kernel_rfl) (by decide) (by rfl) ?_
        (try simp only [Act.put, List.setIfInBounds_toArray, List.set_cons_zero, List.set_cons_succ])
        refine E_off hQ (fun _ => hHeld) 5 rfl rfl (by kernel_rfl) (by kernel_rfl) (by kernel_rfl) (by decide) (by rfl) ?_
        (try simp only [Act.put, List.setIfInBounds_toArray, List.set_cons_zero, List.set_cons_succ])
        refine E_off hQ (fun _ => hHeld) 6 rfl rfl (by kernel_rfl) (by kernel_rfl) (by kernel_rfl) (by decide) (by rfl) ?_
        (try simp only [Act.put, List.setIfInBounds_toArray, List.set_cons_zero, List.set_cons_succ])
        refine E_off hQ (fun _ => hHeld) 7 rfl rfl (by kernel_rfl) (by kernel_rfl) (by kernel_rfl) (by decide) (by rfl) ?_
        (try simp only [Act.put, List.setIfInBounds_toArray, List.set_cons_zero, List.set_cons_succ])
        refine E_off hQ (fun _ => hHeld) 8 rfl rfl (by kernel_rfl) (by kernel_rfl) (by kernel_rfl) (by decide) (by rfl) ?_
        (try simp only [Act.put, List.setIfInBounds_toArray, List.set_cons_zero, List.set_cons_succ])
        refine E_take0 hQ (fun _ => hHeld) 9 (v := ?eav10) rfl rfl (by kernel_rfl) (by kernel_rfl) (by kernel_rfl) (by decide) (by rfl) ?eay10 ?ear10
        case eay10 => (intro w; go_simp; (try with_reducible rfl))
        (try simp only [Act.put, List.setIfInBounds_toArray, List.set_cons_zero, List.set_cons_succ])
        refine E_take0 hQ (fun _ => hHeld) 10 (v := ?eav11) rfl rfl (by kernel_rfl) (by kernel_rfl) (by kernel_rfl) (by decide) (by rfl) ?eay11 ?ear11
        case eay11 => (intro w; go_simp; (try with_reducible rfl))
        (try simp only [Act.put, List.setIfInBounds_toArray, List.set_cons_zero, List.set_cons_succ])
        refine E_off hQ (fun _ => hHeld) 11 rfl rfl (by kernel_rfl) (by kernel_rfl) (by kernel_rfl) (by decide) (by rfl) ?_
        (try simp only [Act.put, List.setIfInBounds_toArray, List.set_cons_zero, List.set_cons_succ])
        refine E_off hQ (fun _ => hHeld) 12 rfl rfl (by kernel_rfl) (by kernel_rfl) (by kernel_rfl) (by decide) (by rfl) ?_
        (try simp only [Act.put, List.setIfInBounds_toArray, List.set_cons_zero, List.set_cons_succ])
        refine E_off hQ (fun _ => hHeld) 13 rfl rfl (by kernel_rfl) (by kernel_rfl) (by kernel_rfl) (by decide) (by rfl) ?_
        (try simp only [Act.put, List.setIfInBounds_toArray, List.set_cons_zero, List.set_cons_succ])
        refine E_off hQ (fun _ => hHeld) 14 rfl rfl (by kernel_rfl) (by kernel_rfl) (by kernel_rfl) (by decide) (by rfl) ?_
        (try simp only [Act.put, List.setIfInBounds_toArray, List.set_cons_zero, List.set_cons_succ])
        refine E_off hQ (fun _ => hHeld) 15 rfl rfl (by kernel_rfl) (by kernel_rfl) (by kernel_rfl) (by decide) (by rfl) ?_
        (try simp only [Act.put, List.setIfInBounds_toArray, List.set_cons_zero, List.set_cons_succ])
        refine E_off hQ (fun _ => hHeld) 16 rfl rfl (by kernel_rfl) (by kernel_rfl) (by kernel_rfl) (by decide) (by rfl) ?_
        (try simp only [Act.put, List.setIfInBounds_toArray, List.set_cons_zero, List.set_cons_succ])
        refine E_off hQ (fun _ => hHeld) 17 rfl rfl (by kernel_rfl) (by kernel_rfl) (by kernel_rfl) (by decide) (by rfl) ?_
        (try simp only [Act.put, List.setIfInBounds_toArray, List.set_cons_zero, List.set_cons_succ])
        refine E_off hQ (fun _ => hHeld) 18 rfl rfl (by kernel_rfl) (by kernel_rfl) (by kernel_rfl) (by decide) (by rfl) ?_
        (try simp only [Act.put, List.setIfInBounds_toArray, List.set_cons_zero, List.set_cons_succ])
        refine E_off hQ (fun _ => hHeld) 19 rfl rfl (by kernel_rfl) (by kernel_rfl) (by kernel_rfl) (by decide) (by rfl) ?_
        (try simp only [Act.put, List.setIfInBounds_toArray, List.set_cons_zero, List.set_cons_succ])
        refine E_one 20 (by kernel_rfl) rfl (by rfl) (fun K hK => ?_)
        go_simp
        (try simp only [Act.put, List.setIfInBounds_toArray, List.set_cons_zero, List.set_cons_succ])
        refine hK.out _ _ (fun _ h => absurd rfl h) (fun _ => ?_)
        clear hK hHeld
        (try simp only [Act.put, List.setIfInBounds_toArray, List.set_cons_zero, List.set_cons_succ])
        refine E_done (by kernel_rfl) ?_ _
        refine hK'.out _ _ ?_
        gi_wp2_with fail
        gi_meet
        exact ⟨by rw [hF.out], rfl⟩
      have d1 : decide (0 ≤ tt) = true := decide_eq_true c1
      by_cases c2 : tt = i
      case pos =>
        have d2 : (tt != (i : Int)) = false := by simpa using c2
        have hF : Hid (decide (0 ≤ tt ∧ tt ≠ i ∧ tt ∉ row) = false) := Lib.hid (decide_eq_false fun h => h.2.1 c2)
        clear c1 c2
        refine E_regionR (S := (fun W => W.cell? ⟨b, 0, none⟩ = some (.int .i64 (i : Int)) ∧ W.cell? ⟨b, 2, none⟩ = some (.int .i64 tt) ∧ W.cell? ⟨w.heap.size + 2, 0, none⟩ = some (.slice (some ⟨w.heap.size + 1, 0, none⟩) n n) ∧ W.cell? ⟨w.heap.size + 1, i, none⟩ = some (.slice va row.length vc))) 20 (by kernel_rfl) (by kernel_rfl) ⟨p0, p2, q1, y0⟩ (fun Q' hQ hK' hHeld => ?_)
        refine E_take0 hQ (fun _ => hHeld) 0 (v := ?ebv1) rfl rfl (by kernel_rfl) (by kernel_rfl) (by kernel_rfl) (by decide) (by rfl) ?eby1 ?ebr1
        case eby1 => (intro w; go_simp; (try with_reducible rfl))
        (try simp only [Act.put, List.setIfInBounds_toArray, List.set_cons_zero, List.set_cons_succ])
        refine E_take hQ hHeld 1 (v := ?ebv2) rfl rfl (by kernel_rfl) (by kernel_rfl) (by kernel_rfl) (by kernel_rfl) (by kernel_rfl) (by rfl) ?eby2 ?ebr2
        case eby2 => (intro w hSw; (try dsimp only at hSw); go_simp; (try with_reducible rfl))
        (try simp only [Act.put, List.setIfInBounds_toArray, List.set_cons_zero, List.set_cons_succ])
        refine E_take0 hQ (fun _ => hHeld) 2 (v := ?ebv3) rfl rfl (by kernel_rfl) (by kernel_rfl) (by kernel_rfl) (by decide) (by rfl) ?eby3 ?ebr3
        case eby3 => (intro w; go_simp; (try with_reducible rfl))
        (try simp only [Act.put, List.setIfInBounds_toArray, List.set_cons_zero, List.set_cons_succ])
        refine E_take0 hQ (fun _ => hHeld) 3 (v := ?ebv4) rfl rfl (by kernel_rfl) (by kernel_rfl) (by kernel_rfl) (by decide) (by rfl) ?eby4 ?ebr4
        case eby4 => (intro w; go_simp; (try with_reducible rfl))
        (try simp only [Act.put, List.setIfInBounds_toArray, List.set_cons_zero, List.set_cons_succ])
        refine E_take0 hQ (fun _ => hHeld) 4 (v := ?ebv5) rfl rfl (by kernel_rfl) (by kernel_rfl) (by kernel_rfl) (by decide) (by rfl) ?eby5 ?ebr5
        case eby5 => (intro w; go_simp; (try with_reducible rfl))
        (try simp only [Act.put, List.setIfInBounds_toArray, List.set_cons_zero, List.set_cons_succ])
        refine E_take hQ hHeld 5 (v := ?ebv6) rfl rfl (by kernel_rfl) (by kernel_rfl) (by kernel_rfl) (by kernel_rfl) (by kernel_rfl) (by rfl) ?eby6 ?ebr6
        case eby6 => (intro w hSw; (try dsimp only at hSw); go_simp; (try with_reducible rfl))
        (try simp only [Act.put, List.setIfInBounds_toArray, List.set_cons_zero, List.set_cons_succ])
        refine E_take0 hQ (fun _ => hHeld) 6 (v := ?ebv7) rfl rfl (by kernel_rfl) (by kernel_rfl) (by kernel_rfl) (by decide) (by rfl) ?eby7 ?ebr7
        case eby7 => (intro w; go_simp; (try with_reducible rfl))
        (try simp only [Act.put, List.setIfInBounds_toArray, List.set_cons_zero, List.set_cons_succ])
        refine E_take hQ hHeld 7 (v := ?ebv8) rfl rfl (by kernel_rfl) (by kernel_rfl) (by kernel_rfl) (by kernel_rfl) (by kernel_rfl) (by rfl) ?eby8 ?ebr8
        case eby8 => (intro w hSw; (try dsimp only at hSw); go_simp; (try with_reducible rfl))
        (try simp only [Act.put, List.setIfInBounds_toArray, List.set_cons_zero, List.set_cons_succ])
        refine E_take0 hQ (fun _ => hHeld) 8 (v := ?ebv9) rfl rfl (by kernel_rfl) (by kernel_rfl) (by kernel_rfl) (by decide) (by rfl) ?eby9 ?ebr9
        case eby9 => (intro w; go_simp; (try with_reducible rfl))
        (try simp only [Act.put, List.setIfInBounds_toArray, List.set_cons_zero, List.set_cons_succ])
        refine E_take0 hQ (fun _ => hHeld) 9 (v := ?ebv10) rfl rfl (by kernel_rfl) (by kernel_rfl) (by kernel_rfl) (by decide) (by rfl) ?eby10 ?ebr10
        case eby10 => (intro w; go_simp; (try with_reducible rfl))
        (try simp only [Act.put, List.setIfInBounds_toArray, List.set_cons_zero, List.set_cons_succ])
        refine E_take0 hQ (fun _ => hHeld) 10 (v := ?ebv11) rfl rfl (by kernel_rfl) (by kernel_rfl) (by kernel_rfl) (by decide) (by rfl) ?eby11 ?ebr11
        case eby11 => (intro w; go_simp; (try with_reducible rfl))
        (try simp only [Act.put, List.setIfInBounds_toArray, List.set_cons_zero, List.set_cons_succ])
        refine E_off hQ (fun _ => hHeld) 11 rfl rfl (by kernel_rfl) (by kernel_rfl) (by kernel_rfl) (by decide) (by rfl) ?_
        (try simp only [Act.put, List.setIfInBounds_toArray, List.set_cons_zero, List.set_cons_succ])
        refine E_off hQ (fun _ => hHeld) 12 rfl rfl (by kernel_rfl) (by kernel_rfl) (by kernel_rfl) (by decide) (by rfl) ?_
        (try simp only [Act.put, List.setIfInBounds_toArray, List.set_cons_zero, List.set_cons_succ])
        refine E_off hQ (fun _ => hHeld) 13 rfl rfl (by kernel_rfl) (by kernel_rfl) (by kernel_rfl) (by decide) (by rfl) ?_
        (try simp only [Act.put, List.setIfInBounds_toArray, List.set_cons_zero, List.set_cons_succ])
        refine E_off hQ (fun _ => hHeld) 14 rfl rfl (by kernel_rfl) (by kernel_rfl) (by kernel_rfl) (by decide) (by rfl) ?_
        (try simp only [Act.put, List.setIfInBounds_toArray, List.set_cons_zero, List.set_cons_succ])
        refine E_off hQ (fun _ => hHeld) 15 rfl rfl (by kernel_rfl) (by kernel_rfl) (by kernel_rfl) (by decide) (by rfl) ?_
        (try simp only [Act.put, List.setIfInBounds_toArray, List.set_cons_zero, List.set_cons_succ])
        refine E_off hQ (fun _ => hHeld) 16 rfl rfl (by kernel_rfl) (by kernel_rfl) (by kernel_rfl) (by decide) (by rfl) ?_
        (try simp only [Act.put, List.setIfInBounds_toArray, List.set_cons_zero, List.set_cons_succ])
        refine E_off hQ (fun _ => hHeld) 17 rfl rfl (by kernel_rfl) (by kernel_rfl) (by kernel_rfl) (by decide) (by rfl) ?_
        (try simp only [Act.put, List.setIfInBounds_toArray, List.set_cons_zero, List.set_cons_succ])
        refine E_off hQ (fun _ => hHeld) 18 rfl rfl (by kernel_rfl) (by kernel_rfl) (by kernel_rfl) (by decide) (by rfl) ?_
        (try simp only [Act.put, List.setIfInBounds_toArray, List.set_cons_zero, List.set_cons_succ])
        refine E_off hQ (fun _ => hHeld) 19 rfl rfl (by kernel_rfl) (by kernel_rfl) (by kernel_rfl) (by decide) (by rfl) ?_
        (try simp only [Act.put, List.setIfInBounds_toArray, List.set_cons_zero, List.set_cons_succ])
        refine E_one 20 (by kernel_rfl) rfl (by rfl) (fun K hK => ?_)
        go_simp
        (try simp only [Act.put, List.setIfInBounds_toArray, List.set_cons_zero, List.set_cons_succ])
        refine hK.out _ _ (fun _ h => absurd rfl h) (fun _ => ?_)
        clear hK hHeld
        (try simp only [Act.put, List.setIfInBounds_toArray, List.set_cons_zero, List.set_cons_succ])
        refine E_done (by kernel_rfl) ?_ _
        refine hK'.out _ _ ?_
        gi_wp2_with fail
        gi_meet
        exact ⟨by rw [hF.out], rfl⟩
      have d2 : (tt != (i : Int)) = true := by simpa using c2
      have hF : Hid (decide (0 ≤ tt ∧ tt ≠ i ∧ tt ∉ row) = !decide (tt ∈ row)) := Lib.hid (by simp [c1, c2])
      clear c1 c2
      generalize decide (tt ∈ row) = b3 at *
      refine E_regionR (S := (fun W => W.cell? ⟨b, 0, none⟩ = some (.int .i64 (i : Int)) ∧ W.cell? ⟨b, 2, none⟩ = some (.int .i64 tt) ∧ W.cell? ⟨w.heap.size + 2, 0, none⟩ = some (.slice (some ⟨w.heap.size + 1, 0, none⟩) n n) ∧ W.cell? ⟨w.heap.size + 1, i, none⟩ = some (.slice va row.length vc))) 18 (by kernel_rfl) (by kernel_rfl) ⟨p0, p2, q1, y0⟩ (fun Q' hQ hK' hHeld => ?_)
      refine E_take0 hQ (fun _ => hHeld) 0 (v := ?ev1) rfl rfl (by kernel_rfl) (by kernel_rfl) (by kernel_rfl) (by decide) (by rfl) ?ey1 ?er1
      case ey1 => (intro w; go_simp; (try with_reducible rfl))
      (try simp only [Act.put, List.setIfInBounds_toArray, List.set_cons_zero, List.set_cons_succ])
      refine E_take hQ hHeld 1 (v := ?ev2) rfl rfl (by kernel_rfl) (by kernel_rfl) (by kernel_rfl) (by kernel_rfl) (by kernel_rfl) (by rfl) ?ey2 ?er2
      case ey2 => (intro w hSw; (try dsimp only at hSw); go_simp; (try with_reducible rfl))
      (try simp only [Act.put, List.setIfInBounds_toArray, List.set_cons_zero, List.set_cons_succ])
      refine E_take0 hQ (fun _ => hHeld) 2 (v := ?ev3) rfl rfl (by kernel_rfl) (by kernel_rfl) (by kernel_rfl) (by decide) (by rfl) ?ey3 ?er3
      case ey3 => (intro w; go_simp; (try with_reducible rfl))
      (try simp only [Act.put, List.setIfInBounds_toArray, List.set_cons_zero, List.set_cons_succ])
      refine E_take0 hQ (fun _ => hHeld) 3 (v := ?ev4) rfl rfl (by kernel_rfl) (by kernel_rfl) (by kernel_rfl) (by decide) (by rfl) ?ey4 ?er4
      case ey4 => (intro w; go_simp; (try with_reducible rfl))
      (try simp only [Act.put, List.setIfInBounds_toArray, List.set_cons_zero, List.set_cons_succ])
      refine E_take0 hQ (fun _ => hHeld) 4 (v := ?ev5) rfl rfl (by kernel_rfl) (by kernel_rfl) (by kernel_rfl) (by decide) (by rfl) ?ey5 ?er5
      case ey5 => (intro w; go_simp; (try with_reducible rfl))
      (try simp only [Act.put, List.setIfInBounds_toArray, List.set_cons_zero, List.set_cons_succ])
      refine E_take hQ hHeld 5 (v := ?ev6) rfl rfl (by kernel_rfl) (by kernel_rfl) (by kernel_rfl) (by kernel_rfl) (by kernel_rfl) (by rfl) ?ey6 ?er6
      case ey6 => (intro w hSw; (try dsimp only at hSw); go_simp; (try with_reducible rfl))
      (try simp only [Act.put, List.setIfInBounds_toArray, List.set_cons_zero, List.set_cons_succ])
      refine E_take0 hQ (fun _ => hHeld) 6 (v := ?ev7) rfl rfl (by kernel_rfl) (by kernel_rfl) (by kernel_rfl) (by decide) (by rfl) ?ey7 ?er7
      case ey7 => (intro w; go_simp; (try with_reducible rfl))
      (try simp only [Act.put, List.setIfInBounds_toArray, List.set_cons_zero, List.set_cons_succ])
      refine E_take hQ hHeld 7 (v := ?ev8) rfl rfl (by kernel_rfl) (by kernel_rfl) (by kernel_rfl) (by kernel_rfl) (by kernel_rfl) (by rfl) ?ey8 ?er8
      case ey8 => (intro w hSw; (try dsimp only at hSw); go_simp; (try with_reducible rfl))
      (try simp only [Act.put, List.setIfInBounds_toArray, List.set_cons_zero, List.set_cons_succ])
      refine E_take0 hQ (fun _ => hHeld) 8 (v := ?ev9) rfl rfl (by kernel_rfl) (by kernel_rfl) (by kernel_rfl) (by decide) (by rfl) ?ey9 ?er9
      case ey9 => (intro w; go_simp; (try with_reducible rfl))
      (try simp only [Act.put, List.setIfInBounds_toArray, List.set_cons_zero, List.set_cons_succ])
      refine E_take0 hQ (fun _ => hHeld) 9 (v := ?ev10) rfl rfl (by kernel_rfl) (by kernel_rfl) (by kernel_rfl) (by decide) (by rfl) ?ey10 ?er10
      case ey10 => (intro w; go_simp; (try with_reducible rfl))
      (try simp only [Act.put, List.setIfInBounds_toArray, List.set_cons_zero, List.set_cons_succ])
      refine E_take0 hQ (fun _ => hHeld) 10 (v := ?ev11) rfl rfl (by kernel_rfl) (by kernel_rfl) (by kernel_rfl) (by decide) (by rfl) ?ey11 ?er11
      case ey11 => (intro w; go_simp; (try with_reducible rfl))
      (try simp only [Act.put, List.setIfInBounds_toArray, List.set_cons_zero, List.set_cons_succ])
      refine E_take hQ hHeld 11 (v := ?ev12) rfl rfl (by kernel_rfl) (by kernel_rfl) (by kernel_rfl) (by kernel_rfl) (by kernel_rfl) (by rfl) ?ey12 ?er12
      case ey12 => (intro w hSw; (try dsimp only at hSw); go_simp; (try with_reducible rfl))
      (try simp only [Act.put, List.setIfInBounds_toArray, List.set_cons_zero, List.set_cons_succ])
      refine E_take0 hQ (fun _ => hHeld) 12 (v := ?ev13) rfl rfl (by kernel_rfl) (by kernel_rfl) (by kernel_rfl) (by decide) (by rfl) ?ey13 ?er13
      case ey13 => (intro w; go_simp; (try with_reducible rfl))
      (try simp only [Act.put, List.setIfInBounds_toArray, List.set_cons_zero, List.set_cons_succ])
      refine E_take hQ hHeld 13 (v := ?ev14) rfl rfl (by kernel_rfl) (by kernel_rfl) (by kernel_rfl) (by kernel_rfl) (by kernel_rfl) (by rfl) ?ey14 ?er14
      case ey14 => (intro w hSw; (try dsimp only at hSw); go_simp; (try with_reducible rfl))
      (try simp only [Act.put, List.setIfInBounds_toArray, List.set_cons_zero, List.set_cons_succ])
      refine E_take0 hQ (fun _ => hHeld) 14 (v := ?ev15) rfl rfl (by kernel_rfl) (by kernel_rfl) (by kernel_rfl) (by decide) (by rfl) ?ey15 ?er15
      case ey15 => (intro w; go_simp; (try with_reducible rfl))
      (try simp only [Act.put, List.setIfInBounds_toArray, List.set_cons_zero, List.set_cons_succ])
      refine E_take hQ hHeld 15 (v := ?ev16) rfl rfl (by kernel_rfl) (by kernel_rfl) (by kernel_rfl) (by kernel_rfl) (by kernel_rfl) (by rfl) ?ey16 ?er16
      case ey16 => (intro w hSw; (try dsimp only at hSw); go_simp; (try with_reducible rfl))
      (try simp only [Act.put, List.setIfInBounds_toArray, List.set_cons_zero, List.set_cons_succ])
      refine E_take0 hQ (fun _ => hHeld) 16 (v := ?ev17) rfl rfl (by kernel_rfl) (by kernel_rfl) (by kernel_rfl) (by decide) (by rfl) ?ey17 ?er17
      case ey17 => (intro w; go_simp; (try with_reducible rfl))
      (try simp only [Act.put, List.setIfInBounds_toArray, List.set_cons_zero, List.set_cons_succ])
      refine E_take hQ hHeld 17 (v := ?ev18) rfl rfl (by kernel_rfl) (by kernel_rfl) (by kernel_rfl) (by kernel_rfl) (by kernel_rfl) (by rfl) ?ey18 ?er18
      case ey18 => (intro w hSw; (try dsimp only at hSw); go_simp; (try with_reducible rfl))
      (try simp only [Act.put, List.setIfInBounds_toArray, List.set_cons_zero, List.set_cons_succ])
      refine E_one 18 (by kernel_rfl) rfl (by rfl) (fun K hK => ?_)
      go_simp
      refine (HC3.out W.drew (HRW.out.below ((Below.refl _ _).drew))).mono ?_
      rintro e W18 ⟨rfl, rfl⟩
      refine hK.out _ _ (fun _ h => absurd rfl h) (fun _ => ?_)
      clear hK hHeld
      (try simp only [Act.put, List.setIfInBounds_toArray, List.set_cons_zero, List.set_cons_succ])
      refine E_take0 hQ (fun h => absurd h (by decide)) 19 (v := ?ev19) rfl rfl (by kernel_rfl) (by kernel_rfl) (by kernel_rfl) (by decide) (by rfl) ?ey19 ?er19
      case ey19 => (intro w; go_simp; (try with_reducible rfl))
      (try simp only [Act.put, List.setIfInBounds_toArray, List.set_cons_zero, List.set_cons_succ])
      refine E_take0 hQ (fun h => absurd h (by decide)) 20 (v := ?ev20) rfl rfl (by kernel_rfl) (by kernel_rfl) (by kernel_rfl) (by decide) (by rfl) ?ey20 ?er20
      case ey20 => (intro w; go_simp; (try with_reducible rfl))
      (try simp only [Act.put, List.setIfInBounds_toArray, List.set_cons_zero, List.set_cons_succ])
      refine E_done (by kernel_rfl) ?_ _
      refine hK'.out _ _ ?_
      gi_wp2_with fail
      gi_meet
      exact ⟨by rw [hF.out], rfl⟩
    case rest =>
    obtain ⟨rfl, rfl⟩ := hcut
    by_cases hc : 0 ≤ tt ∧ tt ≠ i ∧ tt ∉ row
    case neg =>
      have d3 : decide (0 ≤ tt ∧ tt ≠ i ∧ tt ∉ row) = false := decide_eq_false hc
      have hE : Hid (rowsRf d.steps.length (pre ++ [(i, a, tt)]) = rows) := Lib.hid (by rw [hSN.out, HAD.out, if_neg hc]; exact HKEEP.out.symm)
      rw [d3]
      clear d3 hc p0 p1 p2 q1 y0 yf
      gi_wp2_with fail
      exact ⟨⟨by rw [← hn, hE.out]; exact H0.out.drew, by rw [← hn]; exact HBX.out, H2.out, H3.out.drew⟩, ⟨(Below.refl _ _).drew, fun _ _ => rfl⟩⟩
    have d3 : decide (0 ≤ tt ∧ tt ≠ i ∧ tt ∉ row) = true := decide_eq_true hc
    have hE : Hid (rowsRf d.steps.length (pre ++ [(i, a, tt)]) = rows.set i (row ++ [tt])) := Lib.hid (by rw [hSN.out, HAD.out, if_pos hc])
    rw [d3]
    clear d3 hc
    have h0V : RowsAt W.drew S (w.heap.size + 1) (w.heap.size + 1) rows := H0.out.drew
    have y0V : W.drew.cell? ⟨w.heap.size + 1, i, none⟩ = some (.slice va row.length vc) := y0
    have yfV : W.drew.frozen? ⟨w.heap.size + 1, i, none⟩ = false := yf
    have HB4V : Hid (W.drew.heap[b]? = some (.cells #[.int .i64 (i : Int), .string a, .int .i64 tt] 129 (0, 0))) := Lib.hid HB4.out
    have HBXV : Hid (Boxed W.drew (w.heap.size + 2) 55 (.slice (some ⟨w.heap.size + 1, 0, none⟩) n n)) := Lib.hid (by rw [← hn]; exact HBX.out)
    have H3V : Hid (Below w.heap.size w W.drew) := Lib.hid H3.out.drew
    have HOWV : Hid (W.drew.ownsRow (w.heap.size + 1) 3 1 (.slice va row.length vc) row.length (ints .i64 row)) := Lib.hid HOW.out
    have HKV : Hid (Keep (w.heap.size + 1) S W W.drew) := Lib.hid ⟨(Below.refl _ _).drew, fun _ _ => rfl⟩
    have hsV : w.heap.size + 1 ≤ W.drew.heap.size := hsW
    have hBV : w.heap.size + 1 < W.drew.heap.size := hBl
    have hSV : Hid (∀ k, S k → k < W.drew.heap.size) := Lib.hid HSl.out
    have p0V : W.drew.cell? ⟨b, 0, none⟩ = some (.int .i64 (i : Int)) := p0
    have p2V : W.drew.cell? ⟨b, 2, none⟩ = some (.int .i64 tt) := p2
    have q1V : W.drew.cell? ⟨w.heap.size + 2, 0, none⟩ = some (.slice (some ⟨w.heap.size + 1, 0, none⟩) n n) := q1
    clear p0 p1 p2 q1 y0 yf HB4 HBX H3 HOW HRW H0 HSl
    generalize W.drew = V at *
    have HPU := Lib.hid (fun (w9 : World) (g9 cap9 : Nat) => RowsAt.pushR (n0 := w.heap.size + 1) (W := V.drew) (w1 := w9) (g := g9) (cap := cap9) (tmp := .cells #[.int .i64 tt] 3) (x := tt) h0V.drew hir hrw y0V (Nat.le_refl _) (Nat.le_refl _) hsV hSV.out)
    gi_upto_region 5 with fail
    refine E_regionR (S := (fun W => W.cell? ⟨b, 0, none⟩ = some (.int .i64 (i : Int)) ∧ W.cell? ⟨b, 2, none⟩ = some (.int .i64 tt) ∧ W.cell? ⟨w.heap.size + 2, 0, none⟩ = some (.slice (some ⟨w.heap.size + 1, 0, none⟩) n n) ∧ W.cell? ⟨w.heap.size + 1, i, none⟩ = some (.slice va row.length vc))) 13 (by kernel_rfl) (by kernel_rfl) ⟨p0V, p2V, q1V, y0V⟩ (fun Q' hQ hK' hHeld => ?_)
    refine E_take hQ hHeld 0 (v := ?edv1) rfl rfl (by kernel_rfl) (by kernel_rfl) (by kernel_rfl) (by kernel_rfl) (by kernel_rfl) (by rfl) ?edy1 ?edr1
    case edy1 => (intro w hSw; (try dsimp only at hSw); go_simp; (try with_reducible rfl))
    (try simp only [Act.put, List.setIfInBounds_toArray, List.set_cons_zero, List.set_cons_succ])
    refine E_take0 hQ (fun _ => hHeld) 1 (v := ?edv2) rfl rfl (by kernel_rfl) (by kernel_rfl) (by kernel_rfl) (by decide) (by rfl) ?edy2 ?edr2
    case edy2 => (intro w; go_simp; (try with_reducible rfl))
    (try simp only [Act.put, List.setIfInBounds_toArray, List.set_cons_zero, List.set_cons_succ])
    refine E_take hQ hHeld 2 (v := ?edv3) rfl rfl (by kernel_rfl) (by kernel_rfl) (by kernel_rfl) (by kernel_rfl) (by kernel_rfl) (by rfl) ?edy3 ?edr3
    case edy3 => (intro w hSw; (try dsimp only at hSw); go_simp; (try with_reducible rfl))
    (try simp only [Act.put, List.setIfInBounds_toArray, List.set_cons_zero, List.set_cons_succ])
    refine E_take hQ hHeld 3 (v := ?edv4) rfl rfl (by kernel_rfl) (by kernel_rfl) (by kernel_rfl) (by kernel_rfl) (by kernel_rfl) (by rfl) ?edy4 ?edr4
    case edy4 => (intro w hSw; (try dsimp only at hSw); go_simp; (try with_reducible rfl))
    (try simp only [Act.put, List.setIfInBounds_toArray, List.set_cons_zero, List.set_cons_succ])
    refine E_take0 hQ (fun _ => hHeld) 4 (v := ?edv5) rfl rfl (by kernel_rfl) (by kernel_rfl) (by kernel_rfl) (by decide) (by rfl) ?edy5 ?edr5
    case edy5 => (intro w; go_simp; (try with_reducible rfl))
    (try simp only [Act.put, List.setIfInBounds_toArray, List.set_cons_zero, List.set_cons_succ])
    refine E_take hQ hHeld 5 (v := ?edv6) rfl rfl (by kernel_rfl) (by kernel_rfl) (by kernel_rfl) (by kernel_rfl) (by kernel_rfl) (by rfl) ?edy6 ?edr6
    case edy6 => (intro w hSw; (try dsimp only at hSw); go_simp; (try with_reducible rfl))
    (try simp only [Act.put, List.setIfInBounds_toArray, List.set_cons_zero, List.set_cons_succ])
    refine E_take0 hQ (fun _ => hHeld) 6 (v := ?edv7) rfl rfl (by kernel_rfl) (by kernel_rfl) (by kernel_rfl) (by decide) (by rfl) ?edy7 ?edr7
    case edy7 => (intro w; go_simp; (try with_reducible rfl))
    (try simp only [Act.put, List.setIfInBounds_toArray, List.set_cons_zero, List.set_cons_succ])
    refine E_take hQ hHeld 7 (v := ?edv8) rfl rfl (by kernel_rfl) (by kernel_rfl) (by kernel_rfl) (by kernel_rfl) (by kernel_rfl) (by rfl) ?edy8 ?edr8
    case edy8 => (intro w hSw; (try dsimp only at hSw); go_simp; (try with_reducible rfl))
    (try simp only [Act.put, List.setIfInBounds_toArray, List.set_cons_zero, List.set_cons_succ])
    refine E_take0 hQ (fun _ => hHeld) 8 (v := ?edv9) rfl rfl (by kernel_rfl) (by kernel_rfl) (by kernel_rfl) (by decide) (by rfl) ?edy9 ?edr9
    case edy9 => (intro w; go_simp; (try with_reducible rfl))
    (try simp only [Act.put, List.setIfInBounds_toArray, List.set_cons_zero, List.set_cons_succ])
    refine E_take hQ hHeld 9 (v := ?edv10) rfl rfl (by kernel_rfl) (by kernel_rfl) (by kernel_rfl) (by kernel_rfl) (by kernel_rfl) (by rfl) ?edy10 ?edr10
    case edy10 => (intro w hSw; (try dsimp only at hSw); go_simp; (try with_reducible rfl))
    (try simp only [Act.put, List.setIfInBounds_toArray, List.set_cons_zero, List.set_cons_succ])
    refine E_one 10 (by kernel_rfl) rfl (by rfl) (fun K hK => ?_)
    go_simp
    have hal : Below V.drew.heap.size V.drew (V.drew.alloc (.cells #[.int .i64 tt] 3)) := (Below.refl _ _).alloc (Nat.le_refl _) _
    have HAL := Lib.hid hal
    clear hal
    (try simp only [Act.put, List.setIfInBounds_toArray, List.set_cons_zero, List.set_cons_succ])
    refine hK.out _ _ (fun _ _ => ⟨cellB HAL.out hHeld.1, cellB HAL.out hHeld.2.1, cellB HAL.out hHeld.2.2.1, cellB HAL.out hHeld.2.2.2⟩) (fun hHeld' => ?_)
    replace hHeld := hHeld' (by rfl) (by decide)
    clear hK hHeld'
    (try simp only [Act.put, List.setIfInBounds_toArray, List.set_cons_zero, List.set_cons_succ])
    refine E_one 11 (by kernel_rfl) rfl (by rfl) (fun K hK => ?_)
    have hww : (V.alloc (.cells #[.int .i64 tt] 3)).drew = V.drew.alloc (.cells #[.int .i64 tt] 3) := rfl
    try rw [hww]
    refine wp_append_lies _ (.tmp 40) (.tmp 43) 59 (by rfl) (w.heap.size + 1) 3 i0 (.int .i64 0) 1 8 Try.underlying59 hi hz0 hz1 hz2 rfl (by decide) (.slice va row.length vc) row.length (ints .i64 row) (by rfl) (World.ownsRow.alloc (w := V.drew) HOWV.out _) ⟨V.heap.size, 0, none⟩ 1 1 [.int .i64 tt] (by rfl) rfl (World.news_of_block (World.alloc_heap_new V.drew _)) (by simp [Value.oneCell']) (by omega) (by unfold maxLen; omega) (by omega) (by rw [World.size_alloc]; show _ ≤ V.heap.size + 1; omega) (V.heap.size + 1) (by rw [World.size_alloc]; rfl) ?_
    intro g9 cap9 w9 hown' hgrow hat hlt9
    have KP := Lib.hid (HPU.out w9 g9 cap9 hown' hgrow hat)
    have hB9 : w9.heap[w.heap.size + 1]? = V.heap[w.heap.size + 1]? := by
      obtain ⟨ob, hob⟩ : ∃ ob, V.heap[w.heap.size + 1]? = some ob := ⟨_, Array.getElem?_eq_getElem hBV⟩
      rw [kept_push (wr := V.drew) hob hgrow hneB, hob]
    have hfr9 : w9.frozen? ⟨w.heap.size + 1, i, none⟩ = false := by rw [World.frozen?_of_block (w := V) hB9]; exact yfV
    have hcl9 : w9.cell? ⟨w.heap.size + 1, i, none⟩ = some (.slice va row.length vc) := by rw [World.cell?_of_block (w := V) hB9]; exact y0V
    have hk9 : w9.cell? ⟨b, 0, none⟩ = some (.int .i64 (i : Int)) ∧ w9.cell? ⟨b, 2, none⟩ = some (.int .i64 tt) := by
      obtain ⟨k1, k2, k3, -, -, -⟩ := cells3h (kept_push (wr := V.drew) HB4V.out hgrow hneb)
      exact ⟨k1, k3⟩
    have hk8 : w9.cell? ⟨w.heap.size + 2, 0, none⟩ = some (.slice (some ⟨w.heap.size + 1, 0, none⟩) n n) := Boxed.cell (t := 55) (kept_push (wr := V.drew) HBXV.out hgrow hnex)
    clear hown' hgrow hat
    (try simp only [Act.put, List.setIfInBounds_toArray, List.set_cons_zero, List.set_cons_succ])
    refine hK.out _ _ (fun _ _ => ⟨hk9.1, hk9.2, hk8, hcl9⟩) (fun hHeld' => ?_)
    replace hHeld := hHeld' (by rfl) (by decide)
    clear hK hHeld'
    (try simp only [Act.put, List.setIfInBounds_toArray, List.set_cons_zero, List.set_cons_succ])
    refine E_take0 hQ (fun _ => hHeld) 12 (v := ?edv11) rfl rfl (by kernel_rfl) (by kernel_rfl) (by kernel_rfl) (by decide) (by rfl) ?edy11 ?edr11
    case edy11 => (intro w; go_simp; (try with_reducible rfl))
    (try simp only [Act.put, List.setIfInBounds_toArray, List.set_cons_zero, List.set_cons_succ])
    refine E_one 13 (by kernel_rfl) rfl (by rfl) (fun K hK => ?_)
    go_simp
    (try simp only [Act.put, List.setIfInBounds_toArray, List.set_cons_zero, List.set_cons_succ])
    refine hK.out _ _ (fun _ h => absurd rfl h) (fun _ => ?_)
    clear hK hHeld
    (try simp only [Act.put, List.setIfInBounds_toArray, List.set_cons_zero, List.set_cons_succ])
    refine E_done (by kernel_rfl) ?_ _
    refine hK'.out _ _ ?_
    obtain ⟨kp1, kp2, kp3, kp4⟩ := KP.out
    gi_wp2_with fail
    have hkv : Keep (w.heap.size + 1) S V V.drew := ⟨(Below.refl _ _).drew, fun _ _ => rfl⟩
    exact ⟨⟨by rw [← hn, hE.out]; exact kp1, kp3 _ _ HBXV.out (by omega) hnex, H2.out, H3V.out.drew.trans (kp2.below.mono (by omega))⟩, (HKV.out.trans hkv).trans kp2⟩
theorem nRefs_any (d : DefD) (cs : List Value) (sa : Option Addr) (sc : Nat) (w : World) (h : DefR w cs d sa sc) (hlen : d.steps.length ≤ 1000000) (hrl : (refsF d.steps 0 d.steps).length ≤ 1000000) :
    Calls Try.prog 33 #[.agg cs.toArray] w fun e w' => ∃ v, e = .returned v ∧ Rows2 w' v (depsA d.steps 0 d.steps) ∧ Below w.heap.size w w' := by
  refine (nRefsA_any d cs sa sc w h hlen hrl).mono ?_
  rintro e w' ⟨rfl, hr, hb⟩
  have h2 := hr.rows2 (by rw [depsA_len]; omega)
  rw [depsA_len] at h2
  exact ⟨_, rfl, h2, hb⟩
end Go.Proofs.Ytbnggfhofdpdcaa

/-
  rescriptref25: Index, Has, Refs: contracts.
-/
namespace Go.Proofs.Ytbnggfhofdpdcaa
open Go Go.RowKit Go.WideShapes

set_option maxRecDepth 100000 in
set_option maxHeartbeats 4000000 in
theorem rIdx_any (d : DefD) (cs : List Value) (sa : Option Addr) (sc : Nat) (n : ByteArray) (w : World) (h : DefR w cs d sa sc) :
    Calls Try.prog 96 #[.agg cs.toArray, .string n] w fun e w' => e = .returned (.int .i64 (idxStep d.steps n 0)) ∧ Below w.heap.size w w' := by
  obtain ⟨rfl, hna, hta, hva⟩ := h
  obtain ⟨_, _, he1, hl1, hl2⟩ := hva.form
  cases he1
  have g0 := World.alloc_heap_new w (.cells #[.string d.name, .string d.text, .slice sa d.steps.length sc] 24)
  have hb0 : Below w.heap.size w (w.alloc (.cells #[.string d.name, .string d.text, .slice sa d.steps.length sc] 24)) := (Below.refl _ _).alloc (Nat.le_refl _) _
  obtain ⟨p0, p1, p2, -, -, -⟩ := cells3h g0
  have HVA := Lib.hid (hva.below hb0)
  clear hva g0
  go_enter Try.func96, Try.ntmps96
  go_wp2_with fail
  generalize (w.alloc (.cells #[.string d.name, .string d.text, .slice sa d.steps.length sc] 24)) = w1 at *
  have HB0 := Lib.hid hb0
  clear hb0
  go_loopg [5] (d.steps.length + 1) (fun gk i wr => ∃ (k : Nat), k + gk = d.steps.length + 1 ∧ k ≤ d.steps.length ∧ i = .int .i64 k ∧ Hid (∀ s ∈ d.steps.take k, s.name ≠ n) ∧ wr = w1)
  case atStart => exact ⟨0, by omega, by omega, rfl, Lib.hid (by simp), rfl⟩
  case round =>
    obtain ⟨k, hgk, hk, rfl, HN, rfl⟩ := hrel
    have hg : gk = d.steps.length + 1 - k := by omega
    subst hg
    by_cases hkl : k < d.steps.length
    · have d1 : decide ((k : Int) < (d.steps.length : Int)) = true := decide_eq_true (by omega)
      have hk1 : (k : Int) < (d.steps.length : Int) := by omega
      obtain ⟨g, off, cap, aa1, ac1, ka1, kc1, ba1, bc1, he, q1, q2, hns0, z0, -⟩ := HVA.out.at hkl
      cases he
      have HT := Lib.hid (take_succ_getS hkl)
      have HST := Lib.hid (fun h => idxStep_stop hkl HN.out h)
      clear hns0
      generalize d.steps[k] = s at *
      by_cases hn : s.name = n
      · have e1 : (s.name.toList == n.toList) = true := beqS_yes hn
        have HS2 := Lib.hid (HST.out hn)
        clear hn HST
        go_wp2_with fail
        go_ret
        rw [HS2.out]
        exact ⟨rfl, HB0.out⟩
      · have e1 : (s.name.toList == n.toList) = false := beqS_no hn
        have HS2 : Hid (∀ t ∈ d.steps.take (k + 1), t.name ≠ n) := Lib.hid (by rw [HT.out]; intro t ht; rcases List.mem_append.1 ht with ht | ht; exact HN.out t ht; simp at ht; subst ht; exact hn)
        clear hn HST
        go_wp2_with fail
        go_roundg (d.steps.length + 1 - (k + 1))
        case measure => omega
        case rel => exact ⟨k + 1, by omega, by omega, by go_num, HS2, rfl⟩
    · have d1 : decide ((k : Int) < (d.steps.length : Int)) = false := decide_eq_false (by omega)
      have hk1 : ¬ (k : Int) < (d.steps.length : Int) := by omega
      have HS2 : Hid (idxStep d.steps n 0 = -1) := Lib.hid (idxStep_all (by have := HN.out; rwa [List.take_of_length_le (by omega)] at this))
      go_wp2_with fail
      go_ret
      rw [HS2.out]
      exact ⟨rfl, HB0.out⟩

set_option maxRecDepth 100000 in
theorem rHas_any (l : List Int) (n : Int) (v : Value) (w : World) (hv : RdS w v 1 l.length (ints .i64 l)) :
    Calls Try.prog 101 #[v, .int .i64 n] w fun e w' => e = .returned (.bool (decide (n ∈ l))) ∧ w' = w := by
  have hlen : l.length ≤ 9223372036854775807 := by obtain ⟨_, _, _, _, h1, h2, _⟩ := hv; unfold maxLen at h2; omega
  obtain ⟨a, c, rfl⟩ := hv.form
  have HV := Lib.hid hv
  clear hv
  go_enter Try.func101, Try.ntmps101
  go_wp2_with fail
  go_loopg [5] (l.length + 1) (fun gk i wr => ∃ (k : Nat), k + gk = l.length + 1 ∧ k ≤ l.length ∧ i = .int .i64 k ∧ Hid (n ∉ l.take k) ∧ wr = w)
  case atStart => exact ⟨0, by omega, by omega, rfl, Lib.hid (by simp), rfl⟩
  case round =>
    obtain ⟨k, hgk, hk, rfl, HN, rfl⟩ := hrel
    have hg : gk = l.length + 1 - k := by omega
    subst hg
    by_cases hkl : k < l.length
    · have d1 : decide ((k : Int) < (l.length : Int)) = true := decide_eq_true (by omega)
      have hk1 : (k : Int) < (l.length : Int) := by omega
      obtain ⟨g, off, rfl, q1, q2, z0⟩ := ints_at HV.out hkl
      have HT : Hid (l.take (k + 1) = l.take k ++ [l[k]]) := Lib.hid (by rw [List.take_add_one, List.getElem?_eq_getElem hkl]; rfl)
      have HM := Lib.hid (List.getElem_mem hkl)
      generalize l[k] = x at *
      by_cases hn : x = n
      · have e1 : (x == n) = true := by simpa using hn
        have HS2 : Hid (decide (n ∈ l) = true) := Lib.hid (decide_eq_true (hn ▸ HM.out))
        clear hn
        go_wp2_with fail
        go_ret
        rw [HS2.out]
        exact ⟨rfl, rfl⟩
      · have e1 : (x == n) = false := by simpa using hn
        have HS2 : Hid (n ∉ l.take (k + 1)) := Lib.hid (by rw [HT.out, List.mem_append]; rintro (h | h); exact HN.out h; simp at h; exact hn h.symm)
        clear hn
        go_wp2_with fail
        go_roundg (l.length + 1 - (k + 1))
        case measure => omega
        case rel => exact ⟨k + 1, by omega, by omega, by go_num, HS2, rfl⟩
    · have d1 : decide ((k : Int) < (l.length : Int)) = false := decide_eq_false (by omega)
      have hk1 : ¬ (k : Int) < (l.length : Int) := by omega
      have HS2 : Hid (decide (n ∈ l) = false) := Lib.hid (decide_eq_false (by have := HN.out; rwa [List.take_of_length_le (by omega)] at this))
      go_wp2_with fail
      go_ret
      rw [HS2.out]
      exact ⟨rfl, rfl⟩

theorem depsA_get (all : List StepD) : ∀ (l : List StepD) (i k : Nat) (hk : k < l.length), (depsA all i l)[k]? = some (depsD all (i + k) l[k])
  | s :: l, i, 0, _ => rfl
  | s :: l, i, k + 1, h => by
    rw [depsA, List.getElem?_cons_succ, depsA_get all l (i + 1) k (by simpa using h), show i + 1 + k = i + (k + 1) by omega]
    rfl
theorem depsA_take (all : List StepD) {k : Nat} (hk : k < all.length) : (depsA all 0 all).take (k + 1) = (depsA all 0 all).take k ++ [depsD all k all[k]] := by
  rw [List.take_add_one, depsA_get all all 0 k hk, Nat.zero_add]; rfl
/-- The row of a step, of its first names. -/
def rowJ (all : List StepD) (k : Nat) (s : StepD) (j : Nat) : List Int := ((s.after.take j).map fun a => idxStep all a 0).foldl (addRf k) []
theorem rowJ_succ (all : List StepD) (k : Nat) (s : StepD) {j : Nat} (hj : j < s.after.length) : rowJ all k s (j + 1) = addRf k (rowJ all k s j) (idxStep all s.after[j] 0) := by
  unfold rowJ
  rw [List.take_add_one, List.getElem?_eq_getElem hj, Option.toList_some, List.map_append, List.foldl_append]
  rfl
theorem rowJ_all (all : List StepD) (k : Nat) (s : StepD) : rowJ all k s s.after.length = depsD all k s := by
  unfold rowJ depsD; rw [List.take_length]
theorem rowJ_len (all : List StepD) (k : Nat) (s : StepD) (j : Nat) : (rowJ all k s j).length ≤ j := by
  unfold rowJ
  have key : ∀ (l : List Int) (r : List Int), (l.foldl (addRf k) r).length ≤ r.length + l.length := by
    intro l
    induction l with
    | nil => intro r; simp
    | cons x l ih =>
      intro r
      rw [List.foldl_cons, List.length_cons]
      have := ih (addRf k r x)
      have := addRf_len k r x
      omega
  have := key ((s.after.take j).map fun a => idxStep all a 0) []
  simp only [List.length_nil, List.length_map, List.length_take, Nat.zero_add] at this
  omega

set_option maxRecDepth 100000 in
set_option maxHeartbeats 8000000 in
theorem rRefs_any (d : DefD) (cs : List Value) (sa : Option Addr) (sc : Nat) (w : World) (h : DefR w cs d sa sc) (hlen : d.steps.length ≤ 1000000) (hal : ∀ s ∈ d.steps, s.after.length ≤ 1000000) :
    Calls Try.prog 34 #[.agg cs.toArray] w fun e w' => ∃ v, e = .returned v ∧ Rows2 w' v (depsA d.steps 0 d.steps) ∧ Below w.heap.size w w' := by
  obtain ⟨i0, hi, hz0, hz1, hz2⟩ := info_parts Try.info_int
  obtain ⟨j0, hj, hy0, hy1, hy2⟩ := info_parts Try.info_rows
  obtain ⟨rfl, hna, hta, hva⟩ := h
  obtain ⟨_, _, he1, hl1, hl2⟩ := hva.form
  cases he1
  have g0 := World.alloc_heap_new w (.cells #[.string d.name, .string d.text, .slice sa d.steps.length sc] 24)
  have hb0 : Below w.heap.size w (w.alloc (.cells #[.string d.name, .string d.text, .slice sa d.steps.length sc] 24)) := (Below.refl _ _).alloc (Nat.le_refl _) _
  have HV0 := Lib.hid hva
  have HAL := Lib.hid hal
  have hs0 : (w.alloc (.cells #[.string d.name, .string d.text, .slice sa d.steps.length sc] 24)).heap.size = w.heap.size + 1 := by simp
  clear hva hal
  go_enter Try.func34, Try.ntmps34
  go_wp2_with fail
  generalize (w.alloc (.cells #[.string d.name, .string d.text, .slice sa d.steps.length sc] 24)) = w1 at *
  have HB0 := Lib.hid hb0
  have G0 := Lib.hid g0
  clear hb0 g0
  have hdl := depsA_len d.steps d.steps 0

  go_loopg [4, 3] (d.steps.length + 1) (fun gk i v wr => ∃ (k : Nat) (va : Option Addr) (vc : Nat), k + gk = d.steps.length + 1 ∧ k ≤ d.steps.length ∧ i = .int .i64 k ∧ v = .slice va k vc ∧ Hid (OwnR wr (w.heap.size + 1) (.slice va k vc) ((depsA d.steps 0 d.steps).take k)) ∧ Hid (Below (w.heap.size + 1) w1 wr))
  case atStart => exact ⟨0, _, _, by omega, by omega, rfl, rfl, Lib.hid (OwnR.nil _ _), Lib.hid (Below.refl _ _)⟩
  case round =>
    obtain ⟨k, va, vc, hgk, hk, rfl, rfl, HO, HBR⟩ := hrel
    have hg : gk = d.steps.length + 1 - k := by omega
    subst hg
    have hbr := HBR.out
    have hsr := hbr.size
    have HG := Lib.hid ((hbr.block w.heap.size (by omega)).trans G0.out)
    obtain ⟨p0, p1, p2, -, -, -⟩ := cells3h HG.out
    clear hbr
    by_cases hkl : k < d.steps.length
    · have d1 : decide ((k : Int) < (d.steps.length : Int)) = true := decide_eq_true (by omega)
      have hk1 : (k : Int) < (d.steps.length : Int) := by omega
      have HBW := Lib.hid (HB0.out.trans (HBR.out.mono (Nat.le_succ _)))
      obtain ⟨g, off, cap, aa1, ac1, ka1, kc1, ba1, bc1, he, q1, q2, hns0, -, -, -, z3, -⟩ := HV0.out.at hkl
      cases he
      have hsl := HAL.out _ (List.getElem_mem hkl)
      have HA0 := Lib.hid hns0.after
      have HDT := Lib.hid (depsA_take d.steps hkl)
      have HZ3 := Lib.hid z3
      clear hns0 z3
      generalize d.steps[k] = s at *
      go_wp2_with fail
      clear p0 p1 p2
      go_loopg [6, 5] (s.after.length + 1) (fun gk i v wi => ∃ (j : Nat) (ua : Option Addr) (uc n : Nat), j + gk = s.after.length + 1 ∧ j ≤ s.after.length ∧ i = .int .i64 j ∧ v = .slice ua n uc ∧ Hid (n = (rowJ d.steps k s j).length) ∧ Hid (wi.ownsRow wr.heap.size 3 1 (.slice ua n uc) n (ints .i64 (rowJ d.steps k s j))) ∧ Hid (Below wr.heap.size wr wi))
      case atStart => exact ⟨0, _, _, _, by omega, by omega, rfl, rfl, Lib.hid rfl, Lib.hid (World.ownsRow_nil _ _ _ _), Lib.hid (Below.refl _ _)⟩
      case round =>
        obtain ⟨j, ua, uc, n, hgj, hja, rfl, rfl, HNL, HU, HBI⟩ := hrel
        rename World => wi
        have hg : gk = s.after.length + 1 - j := by omega
        subst hg
        obtain ⟨p0, p1, p2, -, -, -⟩ := cells3h ((HBI.out.block _ (by omega)).trans HG.out)
        have HB0I := Lib.hid (HBW.out.trans (HBI.out.mono HBW.out.size))
        have z3 := cellB HB0I.out HZ3.out
        by_cases hjl : j < s.after.length
        · have d2 : decide ((j : Int) < (s.after.length : Int)) = true := decide_eq_true (by omega)
          have hj1 : (j : Int) < (s.after.length : Int) := by omega
          obtain ⟨ag, ao, rfl, y1, y2, y0⟩ := strs_at (HA0.out.below HB0I.out) hjl
          have HRJ := Lib.hid (rowJ_succ d.steps k s hjl)
          have hrl := rowJ_len d.steps k s j
          have HIX := Lib.hid (fun (W : World) (hb : Below wi.heap.size wi W) => rIdx_any d _ _ sc s.after[j] W ⟨rfl, hna, hta, HV0.out.below (bthen HB0I.out (Nat.le_refl _) hb)⟩)
          generalize s.after[j] = a at *
          generalize rowJ d.steps k s j = row at *
          generalize idxStep d.steps a 0 = tt at *

          go_upto_region 9 with fail
          refine E_region (S := (fun W => W.cell? ⟨w.heap.size, 0, none⟩ = some (.string d.name) ∧ W.cell? ⟨w.heap.size, 1, none⟩ = some (.string d.text) ∧ W.cell? ⟨w.heap.size, 2, none⟩ = some (.slice (some ⟨g, off, none⟩) d.steps.length sc) ∧ W.cell? ⟨g, off + k * 13 + 3, none⟩ = some (.slice (some ⟨ag, ao, none⟩) s.after.length ac1) ∧ W.cell? ⟨ag, ao + j, none⟩ = some (.string a))) 10 (by kernel_rfl) ⟨p0, p1, p2, z3, y0⟩ (fun _ _ _ _ _ h => h) (fun Q' hQ hK' hHeld => ?_)
          refine E_take hQ hHeld 0 (v := ?ev1) rfl rfl (by kernel_rfl) (by kernel_rfl) (by kernel_rfl) (by kernel_rfl) (by kernel_rfl) (by rfl) ?ey1 ?er1
          case ey1 => (intro w hSw; (try dsimp only at hSw); go_simp; (try with_reducible rfl))
          (try simp only [Act.put, List.setIfInBounds_toArray, List.set_cons_zero, List.set_cons_succ])
          refine E_take0 hQ (fun _ => hHeld) 1 (v := ?ev2) rfl rfl (by kernel_rfl) (by kernel_rfl) (by kernel_rfl) (by decide) (by rfl) ?ey2 ?er2
          case ey2 => (intro w; go_simp; (try with_reducible rfl))
          (try simp only [Act.put, List.setIfInBounds_toArray, List.set_cons_zero, List.set_cons_succ])
          refine E_take hQ hHeld 2 (v := ?ev3) rfl rfl (by kernel_rfl) (by kernel_rfl) (by kernel_rfl) (by kernel_rfl) (by kernel_rfl) (by rfl) ?ey3 ?er3
          case ey3 => (intro w hSw; (try dsimp only at hSw); go_simp; (try with_reducible rfl))
          (try simp only [Act.put, List.setIfInBounds_toArray, List.set_cons_zero, List.set_cons_succ])
          refine E_take0 hQ (fun _ => hHeld) 3 (v := ?ev4) rfl rfl (by kernel_rfl) (by kernel_rfl) (by kernel_rfl) (by decide) (by rfl) ?ey4 ?er4
          case ey4 => (intro w; go_simp; (try with_reducible rfl))
          (try simp only [Act.put, List.setIfInBounds_toArray, List.set_cons_zero, List.set_cons_succ])
          refine E_take0 hQ (fun _ => hHeld) 4 (v := ?ev5) rfl rfl (by kernel_rfl) (by kernel_rfl) (by kernel_rfl) (by decide) (by rfl) ?ey5 ?er5
          case ey5 => (intro w; go_simp; (try with_reducible rfl))
          (try simp only [Act.put, List.setIfInBounds_toArray, List.set_cons_zero, List.set_cons_succ])
          refine E_take0 hQ (fun _ => hHeld) 5 (v := ?ev6) rfl rfl (by kernel_rfl) (by kernel_rfl) (by kernel_rfl) (by decide) (by rfl) ?ey6 ?er6
          case ey6 => (intro w; go_simp; (try with_reducible rfl))
          (try simp only [Act.put, List.setIfInBounds_toArray, List.set_cons_zero, List.set_cons_succ])
          refine E_take hQ hHeld 6 (v := ?ev7) rfl rfl (by kernel_rfl) (by kernel_rfl) (by kernel_rfl) (by kernel_rfl) (by kernel_rfl) (by rfl) ?ey7 ?er7
          case ey7 => (intro w hSw; (try dsimp only at hSw); go_simp; (try with_reducible rfl))
          (try simp only [Act.put, List.setIfInBounds_toArray, List.set_cons_zero, List.set_cons_succ])
          refine E_take0 hQ (fun _ => hHeld) 7 (v := ?ev8) rfl rfl (by kernel_rfl) (by kernel_rfl) (by kernel_rfl) (by decide) (by rfl) ?ey8 ?er8
          case ey8 => (intro w; go_simp; (try with_reducible rfl))
          (try simp only [Act.put, List.setIfInBounds_toArray, List.set_cons_zero, List.set_cons_succ])
          refine E_take0 hQ (fun _ => hHeld) 8 (v := ?ev9) rfl rfl (by kernel_rfl) (by kernel_rfl) (by kernel_rfl) (by decide) (by rfl) ?ey9 ?er9
          case ey9 => (intro w; go_simp; (try with_reducible rfl))
          (try simp only [Act.put, List.setIfInBounds_toArray, List.set_cons_zero, List.set_cons_succ])
          refine E_take hQ hHeld 9 (v := ?ev10) rfl rfl (by kernel_rfl) (by kernel_rfl) (by kernel_rfl) (by kernel_rfl) (by kernel_rfl) (by rfl) ?ey10 ?er10
          case ey10 => (intro w hSw; (try dsimp only at hSw); go_simp; (try with_reducible rfl))
          (try simp only [Act.put, List.setIfInBounds_toArray, List.set_cons_zero, List.set_cons_succ])
          refine E_one 10 (by kernel_rfl) rfl (by rfl) (fun K hK => ?_)
          go_simp
          refine (HIX.out wi.drew ((Below.refl _ _).drew)).mono ?_
          rintro e W10 ⟨rfl, hb10⟩
          have HB10 := Lib.hid hb10
          clear hb10
          refine hK.out _ _ (fun _ h => absurd rfl h) (fun _ => ?_)
          clear hK hHeld
          (try simp only [Act.put, List.setIfInBounds_toArray, List.set_cons_zero, List.set_cons_succ])
          refine E_take0 hQ (fun h => absurd h (by decide)) 11 (v := ?ev11) rfl rfl (by kernel_rfl) (by kernel_rfl) (by kernel_rfl) (by decide) (by rfl) ?ey11 ?er11
          case ey11 => (intro w; go_simp; (try with_reducible rfl))
          (try simp only [Act.put, List.setIfInBounds_toArray, List.set_cons_zero, List.set_cons_succ])
          refine E_done (by kernel_rfl) ?_ _
          refine hK'.out _ _ ?_
          have HBX := Lib.hid (HBI.out.drew.trans (HB10.out.mono HBI.out.size))
          have HUX := Lib.hid (ownsB (w := wi.drew) HU.out HB10.out)
          have HADD : Hid (rowJ d.steps k s (j + 1) = if 0 ≤ tt ∧ tt ≠ k ∧ tt ∉ row then row ++ [tt] else row) := HRJ
          have hnl := HNL.out
          subst hnl
          have HRDX := Lib.hid (RdS.of_owns HUX.out)
          have HHAS := Lib.hid (fun W (h : RdS W (.slice ua row.length uc) 1 row.length (ints .i64 row)) => rHas_any row tt _ W h)
          have hrn : row.length ≤ 1000000 := by omega
          clear HB10 HU HRJ HNL p0 p1 p2 z3 y0
          generalize W10 = wx at *
          by_cases c1 : 0 ≤ tt
          case neg =>
            have d3 : decide (0 ≤ tt) = false := decide_eq_false c1
            have HE : Hid (rowJ d.steps k s (j + 1) = row) := Lib.hid (by rw [HADD.out, if_neg (fun h => c1 h.1)])
            clear c1
            go_wp2_with fail
            go_roundg (s.after.length + 1 - (j + 1))
            case measure => omega
            case rel => exact ⟨j + 1, ua, uc, row.length, by omega, by omega, by go_num, rfl, Lib.hid (by rw [HE.out]), Lib.hid (by rw [HE.out]; exact HUX.out), HBX⟩
          have d3 : decide (0 ≤ tt) = true := decide_eq_true c1
          by_cases c2 : tt = k
          case pos =>
            have d4 : (tt != (k : Int)) = false := by simpa using c2
            have HE : Hid (rowJ d.steps k s (j + 1) = row) := Lib.hid (by rw [HADD.out, if_neg (fun h => h.2.1 c2)])
            clear c1 c2
            go_wp2_with fail
            go_roundg (s.after.length + 1 - (j + 1))
            case measure => omega
            case rel => exact ⟨j + 1, ua, uc, row.length, by omega, by omega, by go_num, rfl, Lib.hid (by rw [HE.out]), Lib.hid (by rw [HE.out]; exact HUX.out), HBX⟩
          have d4 : (tt != (k : Int)) = true := by simpa using c2
          by_cases c3 : tt ∈ row
          case pos =>
            have HE : Hid (rowJ d.steps k s (j + 1) = row) := Lib.hid (by rw [HADD.out, if_neg (fun h => h.2.2 c3)])
            have HH : Hid (Calls Try.prog 101 #[.slice ua row.length uc, .int .i64 tt] wx fun e w' => e = .returned (.bool true) ∧ w' = wx) := Lib.hid (by have := HHAS.out wx HRDX.out; rwa [decide_eq_true c3] at this)
            clear c1 c2 c3
            go_wp2_with fail
            refine HH.out.mono ?_
            rintro e w' ⟨rfl, rfl⟩
            go_wp2_with fail
            go_roundg (s.after.length + 1 - (j + 1))
            case measure => omega
            case rel => exact ⟨j + 1, ua, uc, row.length, by omega, by omega, by go_num, rfl, Lib.hid (by rw [HE.out]), Lib.hid (by rw [HE.out]; exact HUX.out), HBX⟩
          have HE : Hid (rowJ d.steps k s (j + 1) = row ++ [tt]) := Lib.hid (by rw [HADD.out, if_pos ⟨c1, c2, c3⟩])
          have HH : Hid (Calls Try.prog 101 #[.slice ua row.length uc, .int .i64 tt] wx fun e w' => e = .returned (.bool false) ∧ w' = wx) := Lib.hid (by have := HHAS.out wx HRDX.out; rwa [decide_eq_false c3] at this)
          clear c1 c2 c3
          go_wp2_with fail
          refine HH.out.mono ?_
          rintro e w' ⟨rfl, rfl⟩
          go_wp2_with (at_builtin; go_must (refine wpList_push rfl _ _ 59 rfl wr.heap.size 3 i0 (.int .i64 0) 1 8 Try.underlying59 hi hz0 hz1 hz2 rfl (by decide) _ _ _ rfl (HUX.out.alloc _) ⟨w'.heap.size, 0, none⟩ 1 1 [_] rfl rfl (cell_one_new _ _ _) (by simp [Value.oneCell']) (by unfold maxLen; omega) (by omega) (by have := HBX.out.size; simp; omega) ?_; intro v' w2 hown' hgrow hfr; have HOWN := Lib.hid hown'; have HBG := Lib.hid (below_push (Below.refl wr.heap.size w') HBX.out.size HUX.out (Nat.le_refl _) hgrow); clear hown' hgrow hfr))
          obtain ⟨ua', uc', rfl⟩ := (RdS.of_owns HOWN.out).form
          go_roundg (s.after.length + 1 - (j + 1))
          case measure => omega
          case rel => exact ⟨j + 1, ua', uc', _, by omega, by omega, by go_num, rfl, Lib.hid (by rw [HE.out, List.length_append]; rfl), Lib.hid (by rw [HE.out]; simpa [ints] using HOWN.out), Lib.hid (HBX.out.trans HBG.out)⟩
        · have d2 : decide ((j : Int) < (s.after.length : Int)) = false := decide_eq_false (by omega)
          have hj1 : ¬ (j : Int) < (s.after.length : Int) := by omega
          have hje : j = s.after.length := by omega
          subst hje
          have hRA := rowJ_all d.steps k s
          have HU2 : Hid (wi.ownsRow (w.heap.size + 1) 3 1 (.slice ua n uc) (depsD d.steps k s).length (ints .i64 (depsD d.steps k s))) := Lib.hid (by have := HU.out; have hn := HNL.out; rw [hRA] at this hn; rw [← hn]; exact ownsRow_mono this (by omega))
          have hn2 : n = (depsD d.steps k s).length := by rw [← hRA]; exact HNL.out
          have HO2 := Lib.hid (HO.out.below HBI.out)
          obtain ⟨ocs, ho1, ho2⟩ := HO2.out
          have htl : ((depsA d.steps 0 d.steps).take k).length = k := by simp; omega
          rw [htl] at ho1
          have HO1 := Lib.hid ho1
          have HBJ := Lib.hid (HBR.out.trans (HBI.out.mono (by omega)))
          have HO3 := Lib.hid ho2
          clear ho1 ho2 hRA
          subst hn2
          go_wp2_with (at_builtin; go_must (refine wpList_push rfl _ _ 55 rfl (w.heap.size + 1) 59 j0 (.slice none 0 0) 1 24 Try.underlying55 hj hy0 hy1 hy2 rfl (by decide) _ _ _ rfl (HO1.out.alloc _) ⟨wi.heap.size, 0, none⟩ 1 1 [_] rfl rfl (cell_one_new _ _ _) (by simp [Value.oneCell']) (by unfold maxLen; omega) (by omega) (by have := HBJ.out.size; simp; omega) ?_; intro v' w2 hown' hgrow hfr; have HPP := Lib.hid (OwnR.pushed (by rw [htl]; exact HO1.out) HO3.out HU2.out (by rw [htl]; exact hown') hgrow); have HBG := Lib.hid (below_push HBJ.out (by have := HBJ.out.size; omega) HO1.out (Nat.le_refl _) hgrow); obtain ⟨va', vc', rfl⟩ := (RdS.of_owns hown').form; clear hown' hgrow hfr))
          go_roundg (d.steps.length + 1 - (k + 1))
          case measure => omega
          case rel => exact ⟨k + 1, va', vc', by omega, by omega, by go_num, rfl, Lib.hid (by rw [HDT.out]; exact HPP.out), HBG⟩
    · have d1 : decide ((k : Int) < (d.steps.length : Int)) = false := decide_eq_false (by omega)
      have hk1 : ¬ (k : Int) < (d.steps.length : Int) := by omega
      have hkk : k = d.steps.length := by omega
      have hr := HO.out.rows2
      rw [List.take_of_length_le (by omega)] at hr
      have HR := Lib.hid hr
      clear hr
      go_wp2_with fail
      go_ret
      have hr := HR.out
      rw [hkk] at hr
      exact ⟨_, rfl, hr, HB0.out.trans (HBR.out.mono (Nat.le_succ _))⟩
end Go.Proofs.Ytbnggfhofdpdcaa
