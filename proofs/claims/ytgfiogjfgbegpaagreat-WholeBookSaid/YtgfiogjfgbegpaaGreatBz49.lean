/-
  Plain: behind which steps each one comes; rows that a call owns, behind an array of them; a drawn region in a round of a loop over a function.
-/
import Derived.Deep.AppendLies
import Derived.Test.YtgfiogjfgbegpaaGreatBz7
import Derived.Test.YtgfiogjfgbegpaaGreatBz8
import Derived.Test.YtgfiogjfgbegpaaGreatBz10
import Derived.Test.YtgfiogjfgbegpaaGreatBz15
import Derived.Test.YtgfiogjfgbegpaaGreatBz17
import Derived.Test.YtgfiogjfgbegpaaGreatBz25
import Derived.Test.YtgfiogjfgbegpaaGreatBz31
import Derived.Test.YtgfiogjfgbegpaaGreatBz36
import Derived.Test.YtgfiogjfgbegpaaGreatBz37
import Derived.Test.YtgfiogjfgbegpaaGreatBz45
import Derived.Test.YtgfiogjfgbegpaaGreatBz46
import Derived.Test.YtgfiogjfgbegpaaGreatBz48
namespace Go.Proofs.YtgfiogjfgbegpaaGreat
open Go Go.RowKit

def addRf (i : Nat) (row : List Int) (tt : Int) : List Int := if 0 ≤ tt ∧ tt ≠ i ∧ tt ∉ row then row ++ [tt] else row
def stepRf (rows : List (List Int)) (r : RefD) : List (List Int) := rows.set r.1 (addRf r.1 (rows[r.1]?.getD []) r.2.2)
def rowsRf (n : Nat) (pre : List RefD) : List (List Int) := pre.foldl stepRf (List.replicate n [])
theorem rowsRf_snoc (n : Nat) (pre : List RefD) (r : RefD) : rowsRf n (pre ++ [r]) = stepRf (rowsRf n pre) r := by
  unfold rowsRf; rw [List.foldl_append]; rfl
theorem rowsRf_len (n : Nat) (pre : List RefD) : (rowsRf n pre).length = n := by
  induction pre using snocRec with
  | h0 => simp [rowsRf]
  | h1 l r ih => rw [rowsRf_snoc, stepRf, List.length_set, ih]
theorem addRf_len (i : Nat) (row : List Int) (tt : Int) : (addRf i row tt).length ≤ row.length + 1 := by
  unfold addRf; split <;> simp
theorem rowsRf_row (n : Nat) (pre : List RefD) : ∀ r ∈ rowsRf n pre, r.length ≤ pre.length := by
  induction pre using snocRec with
  | h0 =>
    intro r hr
    have : r = [] := by simp [rowsRf] at hr; exact hr.2
    subst this; exact Nat.le_refl _
  | h1 l x ih =>
    intro r hr
    rw [rowsRf_snoc, stepRf] at hr
    rw [List.length_append, List.length_singleton]
    rcases List.mem_or_eq_of_mem_set hr with h | rfl
    · have := ih r h; omega
    · have h1 := addRf_len x.1 ((rowsRf n l)[x.1]?.getD []) x.2.2
      cases h2 : (rowsRf n l)[x.1]? with
      | none => rw [h2] at h1; simp at h1 ⊢; omega
      | some q => rw [h2] at h1; have := ih q (List.mem_of_getElem? h2); simp at h1 ⊢; omega
def depsD (all : List StepD) (i : Nat) (s : StepD) : List Int := (s.after.map fun a => idxStep all a 0).foldl (addRf i) []
def depsA (all : List StepD) : Nat → List StepD → List (List Int)
  | _, [] => []
  | i, s :: l => depsD all i s :: depsA all (i + 1) l
theorem depsA_len (all : List StepD) : ∀ (l : List StepD) (i : Nat), (depsA all i l).length = l.length
  | [], _ => rfl
  | s :: l, i => by rw [depsA, List.length_cons, depsA_len all l, List.length_cons]
theorem fold_row (all : List StepD) (i : Nat) : ∀ (ats : List ByteArray) (rows : List (List Int)) (hi : i < rows.length),
    (ats.map fun a => ((i, a, idxStep all a 0) : RefD)).foldl stepRf rows = rows.set i ((ats.map fun a => idxStep all a 0).foldl (addRf i) rows[i])
  | [], rows, hi => by simp
  | a :: ats, rows, hi => by
    rw [List.map_cons, List.foldl_cons, List.map_cons, List.foldl_cons]
    have e : stepRf rows (i, a, idxStep all a 0) = rows.set i (addRf i rows[i] (idxStep all a 0)) := by
      unfold stepRf
      simp [hi]
    rw [e, fold_row all i ats _ (by simpa using hi)]
    simp
theorem fold_all (all : List StepD) : ∀ (l : List StepD) (i : Nat) (pre : List (List Int)), pre.length = i → (refsF all i l).foldl stepRf (pre ++ List.replicate l.length []) = pre ++ depsA all i l
  | [], i, pre, _ => by simp [refsF, depsA]
  | s :: l, i, pre, h => by
    subst h
    rw [refsF, List.foldl_append, rowRf, fold_row all pre.length s.after _ (by simp), depsA]
    have e1 : (pre ++ List.replicate (s :: l).length []).set pre.length ((s.after.map fun a => idxStep all a 0).foldl (addRf pre.length) (pre ++ List.replicate (s :: l).length [])[pre.length]) = (pre ++ [depsD all pre.length s]) ++ List.replicate l.length [] := by
      simp [List.replicate_succ, depsD]
    rw [e1, fold_all all l (pre.length + 1) (pre ++ [depsD all pre.length s]) (by simp)]
    simp
theorem rowsRf_all (all : List StepD) : rowsRf all.length (refsF all 0 all) = depsA all 0 all := by
  have := fold_all all all 0 [] rfl
  simpa [rowsRf] using this
theorem refsF_mem (all : List StepD) : ∀ (l : List StepD) (i : Nat) (r : RefD), r ∈ refsF all i l → i ≤ r.1 ∧ r.1 < i + l.length ∧ r.2.2 = idxStep all r.2.1 0 ∧ ∃ s, l[r.1 - i]? = some s ∧ r.2.1 ∈ s.after
  | [], i, r, h => by simp [refsF] at h
  | s :: l, i, r, h => by
    rw [refsF, List.mem_append] at h
    rcases h with h | h
    · unfold rowRf at h
      obtain ⟨a, ha, rfl⟩ := List.mem_map.1 h
      exact ⟨Nat.le_refl _, by simp, rfl, s, by simp, ha⟩
    · obtain ⟨h1, h2, h3, t, h4, h5⟩ := refsF_mem all l (i + 1) r h
      refine ⟨by omega, by simp; omega, h3, t, ?_, h5⟩
      rw [show r.1 - i = (r.1 - (i + 1)) + 1 by omega]
      simpa using h4

def RowsAt (W : World) (S : Nat → Prop) (base B : Nat) (rows : List (List Int)) : Prop :=
  ∃ cs : List Value, cs.length = rows.length ∧ W.heap[B]? = some (.cells cs.toArray 38 (0, 0)) ∧ ¬ S B ∧
    (∀ (i : Nat) (r : List Int) (c : Value), rows[i]? = some r → cs[i]? = some c → W.ownsRow base 3 1 c r.length (ints .i64 r) ∧ ∀ g, c.ownBlock = some g → ¬ S g) ∧
    ∀ (i j : Nat) (c c' : Value) (g : Nat), i ≠ j → cs[i]? = some c → cs[j]? = some c' → c.ownBlock = some g → c'.ownBlock ≠ some g
theorem RowsAt.step {n0 : Nat} {S S' : Nat → Prop} {W W' : World} {base B : Nat} {rows : List (List Int)} (h : RowsAt W S base B rows) (hs : Step n0 S S' W W') : RowsAt W' S' base B rows := by
  obtain ⟨cs, h1, h2, h3, h4, h5⟩ := h
  have hl := (Array.getElem?_eq_some_iff.1 h2).1
  refine ⟨cs, h1, (hs.same B hl h3).trans h2, fun hs' => ?_, fun i r c hi hc => ?_, h5⟩
  · rcases hs.new B hs' with h | h
    · exact h3 h
    · omega
  · obtain ⟨q1, q2⟩ := h4 i r c hi hc
    exact hs.owns q1 q2
theorem RowsAt.below {S : Nat → Prop} {W W' : World} {base B : Nat} {rows : List (List Int)} (h : RowsAt W S base B rows) (hb : Below W.heap.size W W') : RowsAt W' S base B rows := by
  obtain ⟨cs, h1, h2, h3, h4, h5⟩ := h
  exact ⟨cs, h1, (hb.block B (Array.getElem?_eq_some_iff.1 h2).1).trans h2, h3, fun i r c hi hc => ⟨ownsB (h4 i r c hi hc).1 hb, (h4 i r c hi hc).2⟩, h5⟩
theorem RowsAt.drew {S : Nat → Prop} {W : World} {base B : Nat} {rows : List (List Int)} (h : RowsAt W S base B rows) : RowsAt W.drew S base B rows := h.below ((Below.refl _ _).drew)
theorem RowsAt.rows2 {S : Nat → Prop} {W : World} {base B : Nat} {rows : List (List Int)} (h : RowsAt W S base B rows) (hn : rows.length ≤ 1073741824) : Rows2 W (.slice (some ⟨B, 0, none⟩) rows.length rows.length) rows := by
  obtain ⟨cs, h1, h2, h3, h4, h5⟩ := h
  refine ⟨cs, ?_, h1, fun i r hi => ?_⟩
  · have := rds_rowK rows.length 1 h2 (by omega) (by omega)
    exact this
  · have hl : i < cs.length := by rw [h1]; exact (List.getElem?_eq_some_iff.1 hi).1
    exact ⟨cs[i], List.getElem?_eq_getElem hl, RdS.of_owns (h4 i r _ hi (List.getElem?_eq_getElem hl)).1⟩
theorem RowsAt.free {S : Nat → Prop} {W : World} {base B : Nat} {rows : List (List Int)} (h : RowsAt W S base B rows) : RowsAt W (fun _ => False) base B rows := by
  obtain ⟨cs, h1, h2, h3, h4, h5⟩ := h
  exact ⟨cs, h1, h2, id, fun i r c hi hc => ⟨(h4 i r c hi hc).1, fun _ _ h => h⟩, h5⟩
theorem RowsAt.same {S : Nat → Prop} {W W' : World} {base B : Nat} {rows : List (List Int)} (h : RowsAt W S base B rows) (hB : base ≤ B) (hs : ∀ q, base ≤ q → q < W.heap.size → W'.heap[q]? = W.heap[q]?) : RowsAt W' S base B rows := by
  obtain ⟨cs, h1, h2, h3, h4, h5⟩ := h
  refine ⟨cs, h1, (hs B hB (Array.getElem?_eq_some_iff.1 h2).1).trans h2, h3, fun i r c hi hc => ⟨?_, (h4 i r c hi hc).2⟩, h5⟩
  obtain ⟨q1, q2⟩ := (h4 i r c hi hc).1
  refine ⟨q1, ?_⟩
  rcases q2 with q2 | ⟨g, cap, cur, hv, hg, hh, rest⟩
  · exact .inl q2
  · exact .inr ⟨g, cap, cur, hv, hg, (hs g hg (Array.getElem?_eq_some_iff.1 hh).1).trans hh, rest⟩
theorem RowsAt.cell {S : Nat → Prop} {W : World} {base B : Nat} {rows : List (List Int)} (h : RowsAt W S base B rows) {i : Nat} (hi : i < rows.length) : ∃ va vc, W.cell? ⟨B, i, none⟩ = some (.slice va rows[i].length vc) ∧ W.frozen? ⟨B, i, none⟩ = false ∧ W.ownsRow base 3 1 (.slice va rows[i].length vc) rows[i].length (ints .i64 rows[i]) ∧ (Value.slice va rows[i].length vc).ownBlock ≠ some B := by
  obtain ⟨cs, h1, h2, h3, h4, h5⟩ := h
  have hl : i < cs.length := by omega
  obtain ⟨q1, q2⟩ := h4 i _ _ (List.getElem?_eq_getElem hi) (List.getElem?_eq_getElem hl)
  obtain ⟨va, vc, hv⟩ := (RdS.of_owns q1).form
  have hc : W.cell? ⟨B, i, none⟩ = some cs[i] := by simp [World.cell?, h2, hl]
  have hne : (cs[i]).ownBlock ≠ some B := fun e => by
    obtain ⟨cur, hq⟩ := owns_cells q1 e
    rw [h2] at hq
    cases hq
  rw [hv] at hc q1 hne
  exact ⟨va, vc, hc, by simp [World.frozen?, h2], q1, hne⟩
theorem RowsAt.push {n0 : Nat} {S : Nat → Prop} {W w1 : World} {base B vc cap g : Nat} {va : Option Addr} {rows : List (List Int)} {tmp : Obj} {x : Int} (h : RowsAt W S base B rows) {i : Nat} (hi : i < rows.length) (hcell : W.cell? ⟨B, i, none⟩ = some (.slice va rows[i].length vc)) (hn0 : n0 ≤ base) (hB : n0 ≤ B) (hW : n0 ≤ W.heap.size) (hS : ∀ k, S k → k < W.heap.size)
    (hown' : w1.ownsRow base 3 1 (.slice (some ⟨g, 0, none⟩) (rows[i].length + 1) cap) (rows[i].length + 1) (ints .i64 rows[i] ++ [.int .i64 x])) (hgrow : (W.alloc tmp).grownBy w1 (Value.slice va rows[i].length vc).ownBlock) (hat : (Value.slice va rows[i].length vc).ownBlock = some g ∨ g = W.heap.size + 1) :
    RowsAt (w1.setCell ⟨B, i, none⟩ (.slice (some ⟨g, 0, none⟩) (rows[i].length + 1) cap)) S base B (rows.set i (rows[i] ++ [x])) ∧ Keep n0 S W (w1.setCell ⟨B, i, none⟩ (.slice (some ⟨g, 0, none⟩) (rows[i].length + 1) cap)) ∧ (∀ (q : Nat) (o : Obj), W.heap[q]? = some o → q ≠ B → (Value.slice va rows[i].length vc).ownBlock ≠ some q → (w1.setCell ⟨B, i, none⟩ (.slice (some ⟨g, 0, none⟩) (rows[i].length + 1) cap)).heap[q]? = some o) ∧ W.heap.size ≤ (w1.setCell ⟨B, i, none⟩ (.slice (some ⟨g, 0, none⟩) (rows[i].length + 1) cap)).heap.size := by
  obtain ⟨cs, h1, h2, h3, h4, h5⟩ := h
  have hl : i < cs.length := by omega
  have hBl := (Array.getElem?_eq_some_iff.1 h2).1
  have hci : cs[i]? = some (.slice va rows[i].length vc) := by
    have hc : W.cell? ⟨B, i, none⟩ = some cs[i] := by simp [World.cell?, h2, hl]
    rw [hc] at hcell
    rw [List.getElem?_eq_getElem hl, hcell]
  obtain ⟨q1, q2⟩ := h4 i _ _ (List.getElem?_eq_getElem hi) hci
  have hoB : (Value.slice va rows[i].length vc).ownBlock ≠ some B := fun e => by
    obtain ⟨cur, hq⟩ := owns_cells q1 e
    rw [h2] at hq
    cases hq
  have hB1 : w1.heap[B]? = some (.cells cs.toArray 38 (0, 0)) := kept_push h2 hgrow hoB
  have hgB : g ≠ B := by
    rintro rfl
    rcases hat with h | h
    · exact hoB h
    · omega
  have hgS : ¬ S g := by
    rcases hat with h | h
    · exact q2 g h
    · exact fun hs => by have := hS g hs; omega
  have hsz : W.heap.size ≤ w1.heap.size := by have := hgrow.size; simp at this; omega
  have hnew : ∀ q, q ≠ B → (w1.setCell ⟨B, i, none⟩ (.slice (some ⟨g, 0, none⟩) (rows[i].length + 1) cap)).heap[q]? = w1.heap[q]? := fun q hq => Below.heap_setCell _ _ _ _ hq
  have hBn : (w1.setCell ⟨B, i, none⟩ (.slice (some ⟨g, 0, none⟩) (rows[i].length + 1) cap)).heap[B]? = some (.cells (cs.set i (.slice (some ⟨g, 0, none⟩) (rows[i].length + 1) cap)).toArray 38 (0, 0)) := by
    have := setCell_heap i (.slice (some ⟨g, 0, none⟩) (rows[i].length + 1) cap) hB1
    rw [this]
    simp
  refine ⟨⟨cs.set i (.slice (some ⟨g, 0, none⟩) (rows[i].length + 1) cap), by simpa using h1, hBn, h3, fun j r c hj hc => ?_, fun j k c c' b hjk hc hc' hb => ?_⟩, ⟨?_, fun k hk => ?_⟩, fun q o hq hqB hqo => ?_, by simp; exact hsz⟩
  · by_cases hji : j = i
    · subst hji
      simp [hi] at hj
      simp [hl] at hc
      subst hj hc
      refine ⟨?_, fun b hb => by simp [Value.ownBlock] at hb; subst hb; exact hgS⟩
      have e : ints .i64 (rows[j] ++ [x]) = ints .i64 rows[j] ++ [.int .i64 x] := by simp [ints]
      rw [e, List.length_append]
      exact hown'.kept (row := some B) ⟨rfl, rfl, rfl, by simp, fun k _ hk => Below.heap_setCell _ _ _ k (fun e => hk (by rw [e]))⟩ (.inr (by simp [Value.ownBlock]; exact hgB))
    · rw [List.getElem?_set_ne (Ne.symm hji)] at hj hc
      obtain ⟨r1, r2⟩ := h4 j r c hj hc
      refine ⟨?_, r2⟩
      have hne : c.ownBlock = none ∨ c.ownBlock ≠ (Value.slice va rows[i].length vc).ownBlock := by
        cases hcb : c.ownBlock with
        | none => exact .inl rfl
        | some b => exact .inr fun e => h5 j i _ _ b hji hc hci hcb e.symm
      have k1 := (r1.alloc tmp).kept hgrow hne
      refine k1.kept (row := some B) ⟨rfl, rfl, rfl, by simp, fun k _ hk => Below.heap_setCell _ _ _ k (fun e => hk (by rw [e]))⟩ (.inr fun e => ?_)
      obtain ⟨cur, hq⟩ := owns_cells r1 e
      rw [h2] at hq
      cases hq
  · have hgj : ∀ (j : Nat) (c : Value), j ≠ i → cs[j]? = some c → c.ownBlock ≠ some g := fun j c hj hc e => by
      rcases hat with h | h
      · exact h5 i j _ _ g (Ne.symm hj) hci hc h e
      · have hjl : j < rows.length := by have := (List.getElem?_eq_some_iff.1 hc).1; omega
        have := ((h4 j _ _ (List.getElem?_eq_getElem hjl) hc).1.lt g e).2
        omega
    by_cases hji : j = i
    · subst hji
      simp [hl] at hc
      subst hc
      simp [Value.ownBlock] at hb
      subst hb
      rw [List.getElem?_set_ne hjk] at hc'
      exact hgj k _ (Ne.symm hjk) hc'
    · rw [List.getElem?_set_ne (Ne.symm hji)] at hc
      by_cases hki : k = i
      · subst hki
        simp [hl] at hc'
        subst hc'
        intro e
        simp [Value.ownBlock] at e
        subst e
        exact hgj j _ hji hc hb
      · rw [List.getElem?_set_ne (Ne.symm hki)] at hc'
        exact h5 j k _ _ b hjk hc hc' hb
  · exact (((Below.refl n0 W).alloc hW tmp).grown hgrow (by simp; omega) fun j ej => Nat.le_trans hn0 (q1.lt j ej).1).setCell (p := ⟨B, i, none⟩) hB _
  · have hkB : k ≠ B := fun e => h3 (e ▸ hk)
    rw [hnew k hkB]
    have hko : (Value.slice va rows[i].length vc).ownBlock ≠ some k := fun e => q2 k e hk
    rw [hgrow.block k (by simp; have := hS k hk; omega) (fun e => hko e.symm)]
    exact Below.heap_alloc _ _ _ (hS k hk)
  · rw [hnew q hqB]
    exact kept_push hq hgrow hqo
theorem RowsAt.pushR {n0 : Nat} {S : Nat → Prop} {W w1 : World} {base B vc cap g : Nat} {va : Option Addr} {rows : List (List Int)} {tmp : Obj} {x : Int} (h : RowsAt W S base B rows) {i : Nat} (hi : i < rows.length) {row : List Int} (hrow : rows[i] = row) (hcell : W.cell? ⟨B, i, none⟩ = some (.slice va row.length vc)) (hn0 : n0 ≤ base) (hB : n0 ≤ B) (hW : n0 ≤ W.heap.size) (hS : ∀ k, S k → k < W.heap.size)
    (hown' : w1.ownsRow base 3 1 (.slice (some ⟨g, 0, none⟩) (row.length + 1) cap) (row.length + 1) (ints .i64 row ++ [.int .i64 x])) (hgrow : (W.alloc tmp).grownBy w1 (Value.slice va row.length vc).ownBlock) (hat : (Value.slice va row.length vc).ownBlock = some g ∨ g = W.heap.size + 1) :
    RowsAt (w1.setCell ⟨B, i, none⟩ (.slice (some ⟨g, 0, none⟩) (row.length + 1) cap)) S base B (rows.set i (row ++ [x])) ∧ Keep n0 S W (w1.setCell ⟨B, i, none⟩ (.slice (some ⟨g, 0, none⟩) (row.length + 1) cap)) ∧ (∀ (q : Nat) (o : Obj), W.heap[q]? = some o → q ≠ B → (Value.slice va row.length vc).ownBlock ≠ some q → (w1.setCell ⟨B, i, none⟩ (.slice (some ⟨g, 0, none⟩) (row.length + 1) cap)).heap[q]? = some o) ∧ W.heap.size ≤ (w1.setCell ⟨B, i, none⟩ (.slice (some ⟨g, 0, none⟩) (row.length + 1) cap)).heap.size := by
  subst hrow
  exact RowsAt.push h hi hcell hn0 hB hW hS hown' hgrow hat
theorem E_regionR {P : Program} {l : List Oper} {Q : Exit → Act → World → Prop} {S : World → Prop} {id lp : Nat} {a : Act} {w : World} (k : Nat) (hm : P.follows .mixedOrders = true) (hnd : noDefer l = true) (hS : S w.drew)
    (h : ∀ Q' : Exit → Act → World → Prop, (∀ c a (d : Tmp) v w, Q' (.panic c) (a.put (some d) v) w → Q' (.panic c) a w) → Shut (∀ a w, Q .normal a w → Q' .normal a w) → S w.drew →
      wpAnyE P .any l.toArray Q' S k l.toArray.size (Array.replicate l.toArray.size false) a w.drew) : (Code.region id l.toArray true).wpIn (Fence.wide.inRound lp) 0 P Q a w :=
  wpIn_region_any hm (anyIn_of_any lp (noDefer_spec hnd) _ _ _ _ (wpAny_of_E _ _ _ _ (h (onlyNormal Q) (fun _ _ _ _ _ h => absurd h.1 (by simp)) (fun _ _ h => ⟨rfl, h⟩) hS)))
theorem Tryz.info_rows : (Tryz.prog.info? 38).map (fun i => (i.zero, i.size, i.bytes)) = some (some (.slice none 0 0), 1, 24) := by kernel_rfl
theorem Tryz.info_int : (Tryz.prog.info? 3).map (fun i => (i.zero, i.size, i.bytes)) = some (some (.int .i64 0), 1, 8) := by kernel_rfl
theorem made_one (x : Value) (n : Nat) : madeCells #[x] n = (List.replicate n x).toArray := by
  apply Array.ext
  · simp [madeCells]
  · intro i h1 h2
    simp [madeCells, Nat.mod_one]
theorem make_rows (n : Nat) (w : World) (h : n ≤ 1073741824) : (Instr.makeSlice 36 (.int .i64 n) (.int .i64 n)).run Tryz.prog w = .ok (.slice (some ⟨w.heap.size, 0, none⟩) n n) (w.alloc (.cells (List.replicate n (Value.slice none 0 0)).toArray 38)) := by
  obtain ⟨i0, hi, hz0, hz1, hz2⟩ := info_parts Tryz.info_rows
  have := run_make (P := Tryz.prog) w 36 38 i0 (.slice none 0 0) Tryz.underlying36 hi hz0 .i64 .i64 n n (by omega) (by omega) (by rw [hz2]; omega) (by omega)
  rw [this, hz1]
  simp only [Int.toNat_natCast, Nat.mul_one]
  rw [show (Value.slice none 0 0).cells = #[.slice none 0 0] from rfl, made_one]
theorem rowsAt_made (W : World) (S : Nat → Prop) (base B n : Nat) (h : W.heap[B]? = some (.cells (List.replicate n (Value.slice none 0 0)).toArray 38 (0, 0))) (hS : ¬ S B) : RowsAt W S base B (List.replicate n []) := by
  refine ⟨List.replicate n (.slice none 0 0), by simp, h, hS, fun i r c hi hc => ?_, fun i j c c' g _ hc _ hg => ?_⟩
  · simp [List.getElem?_replicate] at hi hc
    obtain ⟨_, rfl⟩ := hi
    obtain ⟨_, rfl⟩ := hc
    exact ⟨World.ownsRow_nil _ _ _ _, fun g hg => by cases hg⟩
  · simp [List.getElem?_replicate] at hc
    obtain ⟨_, rfl⟩ := hc
    cases hg
end Go.Proofs.YtgfiogjfgbegpaaGreat

/-
  names.Refs: contract.
-/
namespace Go.Proofs.YtgfiogjfgbegpaaGreat
open Go.RowKit Go.WideShapes Go.Maps
attribute [local go_sem] Oper.semAt_some wide_fn wide_depth wide_fn' wide_depth'

theorem alloc4 (w : World) (o0 o1 o2 o3 : Obj) : Below w.heap.size w ((((w.alloc o0).alloc o1).alloc o2).alloc o3) ∧ ((((w.alloc o0).alloc o1).alloc o2).alloc o3).heap[w.heap.size]? = some o0 ∧ ((((w.alloc o0).alloc o1).alloc o2).alloc o3).heap[w.heap.size + 1]? = some o1 ∧ ((((w.alloc o0).alloc o1).alloc o2).alloc o3).heap[w.heap.size + 2]? = some o2 ∧ ((((w.alloc o0).alloc o1).alloc o2).alloc o3).heap[w.heap.size + 3]? = some o3 ∧ ((((w.alloc o0).alloc o1).alloc o2).alloc o3).heap.size = w.heap.size + 4 := by
  have e0 := World.alloc_heap_new w o0
  have e1 := World.alloc_heap_new (w.alloc o0) o1
  have e2 := World.alloc_heap_new ((w.alloc o0).alloc o1) o2
  have e3 := World.alloc_heap_new (((w.alloc o0).alloc o1).alloc o2) o3
  simp only [World.size_alloc] at e1 e2 e3
  refine ⟨((((Below.refl _ w).alloc (Nat.le_refl _) _).alloc (by simp only [World.size_alloc]; omega) _).alloc (by simp only [World.size_alloc]; omega) _).alloc (by simp only [World.size_alloc]; omega) _, ?_, ?_, ?_, e3, by simp⟩
  · rw [Below.heap_alloc _ _ _ (by simp only [World.size_alloc]; omega), Below.heap_alloc _ _ _ (by simp only [World.size_alloc]; omega), Below.heap_alloc _ _ _ (by simp only [World.size_alloc]; omega)]; exact e0
  · rw [Below.heap_alloc _ _ _ (by simp only [World.size_alloc]; omega), Below.heap_alloc _ _ _ (by simp only [World.size_alloc]; omega)]; exact e1
  · rw [Below.heap_alloc _ _ _ (by simp only [World.size_alloc]; omega)]; exact e2
def rfJ (w : World) (n : Nat) : (Nat → Prop) → List RefD → World → Prop := fun S pre W =>
  RowsAt W S (w.heap.size + 1) (w.heap.size + 1) (rowsRf n pre) ∧ Boxed W (w.heap.size + 2) 36 (.slice (some ⟨w.heap.size + 1, 0, none⟩) n n) ∧ ¬ S (w.heap.size + 2) ∧ Below w.heap.size w W
theorem rfJ_step (w : World) (n : Nat) : Stable (w.heap.size + 1) (rfJ w n) := by
  rintro S S' s W W' hS ⟨h0, h1, h2, h3⟩ hs
  exact ⟨h0.step hs, (hs.boxed h1 h2).1, (hs.boxed h1 h2).2, h3.trans (hs.below.mono (by omega))⟩

set_option maxRecDepth 100000 in
set_option maxHeartbeats 4000000 in
theorem nRefsA_any (d : DefD) (cs : List Value) (sa : Option Addr) (sc : Nat) (w : World) (h : DefR w cs d sa sc) (hlen : d.steps.length ≤ 1000000) (hrl : (refsF d.steps 0 d.steps).length ≤ 1000000) :
    Calls Tryz.prog 12 #[.agg cs.toArray] w fun e w' => e = .returned (.slice (some ⟨w.heap.size + 1, 0, none⟩) d.steps.length d.steps.length) ∧ RowsAt w' (fun _ => False) (w.heap.size + 1) (w.heap.size + 1) (depsA d.steps 0 d.steps) ∧ Below w.heap.size w w' := by
  obtain ⟨i0, hi, hz0, hz1, hz2⟩ := info_parts Tryz.info_int
  obtain ⟨rfl, hna, hta, hva⟩ := h
  obtain ⟨_, _, he1, hl1, hl2⟩ := hva.form
  cases he1
  have hmk : ∀ w : World, (Instr.makeSlice 36 (.int .i64 d.steps.length) (.int .i64 d.steps.length)).run Tryz.prog w = .ok (.slice (some ⟨w.heap.size, 0, none⟩) d.steps.length d.steps.length) (w.alloc (.cells (List.replicate d.steps.length (Value.slice none 0 0)).toArray 38)) := fun w => make_rows d.steps.length w (by omega)
  have g0 := World.alloc_heap_new w (.cells #[.string d.name, .string d.text, .slice sa d.steps.length sc] 24)
  obtain ⟨p0, p1, p2, -, -, -⟩ := cells3h g0
  have HVA := Lib.hid hva
  clear hva g0
  refine (callsIn_wide (n := 0)).1 ?_
  refine callsIn_of_wp_marks Tryz.func12 rfl trivial ?_ rfl
  simp only [Tryz.ntmps12, List.size_toArray, List.length_cons, List.length_nil, Nat.reduceAdd, Nat.reduceSub, Array.replicate_succ, Array.replicate_zero, List.push_toArray, List.append_toArray, List.nil_append, List.cons_append]
  gi_wp2_with fail
  refine (callsIn_wide.2 (refs_any _ rfl _)).mono ?_
  rintro e w4 ⟨rfl, rfl⟩
  have hal := alloc4 w (.cells #[.string d.name, .string d.text, .slice sa d.steps.length sc] 24) (.cells (Array.replicate d.steps.length (Value.slice none 0 0)) 38) (.cells #[.slice (some ⟨w.heap.size + 1, 0, none⟩) d.steps.length d.steps.length] 36) (.cells #[.string d.name, .string d.text, .slice sa d.steps.length sc] 24)
  obtain ⟨gbl, g0, g1, g2, g3, hsz⟩ := hal
  clear p0 p1 p2 hmk
  gi_wp2_with fail
  generalize ((((w.alloc (.cells #[.string d.name, .string d.text, .slice sa d.steps.length sc] 24)).alloc (.cells (Array.replicate d.steps.length (Value.slice none 0 0)) 38)).alloc (.cells #[.slice (some ⟨w.heap.size + 1, 0, none⟩) d.steps.length d.steps.length] 36)).alloc (.cells #[.string d.name, .string d.text, .slice sa d.steps.length sc] 24)) = w4 at *
  have HRM := Lib.hid (fun r => refsF_mem d.steps d.steps 0 r)
  refine' wpIn_rf rfl (enters_of Tryz.func75 (by kernel_rfl) rfl) (refs_iter d sa sc (w.heap.size + 1) (w.heap.size + 3) w w4 (by omega) (by omega) g3 hna hta HVA.out hlen gbl (by omega)) (by omega) (by rintro j rfl; omega) (fun _ => rfl)
    (rfJ w d.steps.length) (fun _ => fun _ _ _ => False) ?hfin ?hJ ?hJx ?h0 ?Ax ?hAx ?assign ?body ?done ?stop
  case hfin => exact fun h => absurd trivial h
  case hJ => exact rfJ_step w d.steps.length
  case hJx => exact fun _ _ _ _ _ _ _ h _ => h
  case h0 => exact ⟨rowsAt_made w4 _ _ _ d.steps.length (by simpa using g1) (by omega), g2, by omega, gbl⟩
  case Ax => exact fun y a' W => ∃ b, a' = { tmps := #[.agg #[.string d.name, .string d.text, .slice sa d.steps.length sc], .pointer (some ⟨w.heap.size, 0, none⟩), .slice none 0 0, .pointer (some ⟨w.heap.size + 1 + 1, 0, none⟩), .pointer (some ⟨b, 0, none⟩), .pointer (some ⟨w.heap.size, 2, none⟩), .slice sa d.steps.length sc, .int .i64 (d.steps.length : Int), .slice (some ⟨w.heap.size + 1, 0, none⟩) d.steps.length d.steps.length, .agg #[.string d.name, .string d.text, .slice sa d.steps.length sc], .func (.func 75) #[] #[.pointer (some ⟨w.heap.size + 1 + 1 + 1, 0, none⟩)], .agg #[.int .i64 (y.1 : Int), .string y.2.1, .int .i64 y.2.2], undef, undef, undef, undef, undef, undef, undef, undef, undef, undef, undef, undef, undef, undef, undef, undef, undef, undef, undef, undef, undef, undef, undef, undef, undef, undef, undef, undef, undef, undef, undef, undef, undef, undef, undef], defers := [] } ∧ W.heap[b]? = some (.cells #[.int .i64 (y.1 : Int), .string y.2.1, .int .i64 y.2.2] 84 (0, 0))
  case hAx =>
    rintro y a' l W W' hl hlt ⟨b, rfl, hb⟩ hs ⟨r, hr⟩
    have hne : b ≠ l := by rintro rfl; rw [hr] at hb; cases hb
    exact ⟨b, rfl, (hs.same b (Array.getElem?_eq_some_iff.1 hb).1 hne).trans hb⟩
  case assign =>
    rintro l S pre ⟨i, a, tt⟩ W K hS hw hj hpre hK
    dsimp only [encRf]
    have HS := Lib.hid hS
    have HK := Lib.hid hK
    have HJ := Lib.hid hj
    have hsW : w.heap.size + 1 ≤ W.heap.size := by omega
    clear hS hK hj
    gi_wp2_with fail
    have hal : Below W.heap.size W (W.alloc (.cells #[.int .i64 (i : Int), .string a, .int .i64 tt] 84)) := (Below.refl _ _).alloc (Nat.le_refl _) _
    refine HK.out _ _ ⟨hal.mono hsW, fun j hj => hal.block j (HS.out j hj).2⟩ (rfJ_step w d.steps.length S S _ _ _ HS.out HJ.out (Step.of_below hsW hal)) ⟨W.heap.size, rfl, World.alloc_heap_new W _⟩
  case done =>
    rintro D S W hD hS hSD ⟨h0, h1, h2, h3⟩ hKD
    have hc := h1.cell
    have H0 := Lib.hid h0
    have H3 := Lib.hid h3
    have HS := Lib.hid hS
    have HSP := Lib.hid (Step.putObj (n0 := w.heap.size + 1) (S := S) (W := W) (.deferred none) hSD (hS D hSD).1)
    clear h0 h3 hS
    gi_wp2
    refine ⟨by simp, .inl ⟨_, _, rfl, run_takeDeferred hKD, ?_⟩⟩
    have hr := (H0.out.step HSP.out).free
    rw [rowsRf_all] at hr
    refine ⟨_, results_tmp rfl _ _ _, rfl, ?_, H3.out.trans (below_putObj _ _ (by omega))⟩
    exact hr
  case stop => exact fun _ _ _ _ _ _ _ _ _ h => h.elim
  case body =>
    rintro l S pre ⟨i, a, tt⟩ a' W hS hw hSl - ⟨h0, h1, h2, h3⟩ ⟨b, rfl, hb⟩ hpre
    obtain ⟨-, hi0, -, -⟩ := HRM.out _ (hpre.subset (by simp : ((i, a, tt) : RefD) ∈ pre ++ [(i, a, tt)]))
    simp only [Nat.zero_add] at hi0
    have hpl := hpre.length_le
    rw [List.length_append, List.length_singleton] at hpl
    have hir : i < (rowsRf d.steps.length pre).length := by rw [rowsRf_len]; exact hi0
    have hrwl := rowsRf_row d.steps.length pre _ (List.getElem_mem hir)
    obtain ⟨va, vc, y0, yf, how, hneB⟩ := h0.cell hir
    have HOW := Lib.hid how
    have HRW := Lib.hid (RdS.of_owns how)
    have hSN : Hid (rowsRf d.steps.length (pre ++ [(i, a, tt)]) = (rowsRf d.steps.length pre).set i (addRf i (rowsRf d.steps.length pre)[i] tt)) := Lib.hid (by rw [rowsRf_snoc]; unfold stepRf; simp [hir])
    have hsW : w.heap.size + 1 ≤ W.heap.size := by omega
    have HSl : Hid (∀ k, S k → k < W.heap.size) := Lib.hid (fun k hk => (hS k hk).2)
    obtain ⟨p0, p1, p2, -, -, -⟩ := cells3h hb
    have q1 := h1.cell
    have HBX := Lib.hid h1
    have HB4 := Lib.hid hb
    have H2 := Lib.hid h2
    have H3 := Lib.hid h3
    have H0 := Lib.hid h0
    have hi1 : (i : Int) < (d.steps.length : Int) := by omega
    have hn63 : d.steps.length ≤ 9223372036854775807 := by omega
    have hBl : w.heap.size + 1 < W.heap.size := World.block_lt_of_cell? W _ y0
    have hneb : (Value.slice va (rowsRf d.steps.length pre)[i].length vc).ownBlock ≠ some b := fun e => by
      obtain ⟨cur, hc⟩ := owns_cells how e
      rw [hb] at hc
      cases hc
    have hnex : (Value.slice va (rowsRf d.steps.length pre)[i].length vc).ownBlock ≠ some (w.heap.size + 2) := fun e => by
      obtain ⟨cur, hc⟩ := owns_cells how e
      rw [show W.heap[w.heap.size + 2]? = _ from h1] at hc
      cases hc
    have HKEEP : Hid (rowsRf d.steps.length pre = (rowsRf d.steps.length pre).set i (rowsRf d.steps.length pre)[i]) := Lib.hid (by simp)
    clear hS h0 h1 h2 h3 hb hpre how
    have hrw0 : (rowsRf d.steps.length pre)[i].length ≤ 1000000 := by omega
    clear hrwl hpl
    generalize hrr : rowsRf d.steps.length pre = rows at *
    generalize hrw : rows[i] = row at *
    obtain ⟨n, hn⟩ : ∃ n, d.steps.length = n := ⟨_, rfl⟩
    rw [hn] at q1 hi1 hn63 ⊢
    have HC3 := Lib.hid (fun (W : World) (h : RdS W (.slice va row.length vc) 1 row.length (ints .i64 row)) => Contains_any row tt _ W h)
    have HAD : Hid (addRf i row tt = if 0 ≤ tt ∧ tt ≠ i ∧ tt ∉ row then row ++ [tt] else row) := Lib.hid rfl
    dsimp only
    gi_upto_region 4 with fail
    gi_cut [32] from 12 (fun s32 wx => s32 = .bool (decide (0 ≤ tt ∧ tt ≠ i ∧ tt ∉ row)) ∧ wx = W.drew)
    case first =>
      by_cases c1 : 0 ≤ tt
      case neg =>
        have d1 : decide (0 ≤ tt) = false := decide_eq_false c1
        have hF : Hid (decide (0 ≤ tt ∧ tt ≠ i ∧ tt ∉ row) = false) := Lib.hid (decide_eq_false fun h => c1 h.1)
        clear c1
        refine E_regionR (S := (fun W => W.cell? ⟨b, 0, none⟩ = some (.int .i64 (i : Int)) ∧ W.cell? ⟨b, 2, none⟩ = some (.int .i64 tt) ∧ W.cell? ⟨w.heap.size + 2, 0, none⟩ = some (.slice (some ⟨w.heap.size + 1, 0, none⟩) n n) ∧ W.cell? ⟨w.heap.size + 1, i, none⟩ = some (.slice va row.length vc))) 20 (by kernel_rfl) (by kernel_rfl) ⟨p0, p2, q1, y0⟩ (fun Q' hQ hK' hHeld => ?_)
        refine E_take0 hQ (fun _ => hHeld) 0 (v := ?eav1) rfl rfl (by kernel_rfl) (by kernel_rfl) (by kernel_rfl) (by decide) (by rfl) ?eay1 ?ear1
        case eay1 => (intro w; go_simp; (try with_reducible rfl))
        (try simp only [layE])
        refine E_take hQ hHeld 1 (v := ?eav2) rfl rfl (by kernel_rfl) (by kernel_rfl) (by kernel_rfl) (by kernel_rfl) (by kernel_rfl) (by rfl) ?eay2 ?ear2
        case eay2 => (intro w hSw; (try dsimp only at hSw); go_simp; (try with_reducible rfl))
        (try simp only [layE])
        refine E_take0 hQ (fun _ => hHeld) 2 (v := ?eav3) rfl rfl (by kernel_rfl) (by kernel_rfl) (by kernel_rfl) (by decide) (by rfl) ?eay3 ?ear3
        case eay3 => (intro w; go_simp; (try with_reducible rfl))
        (try simp only [layE])
        refine E_take0 hQ (fun _ => hHeld) 3 (v := ?eav4) rfl rfl (by kernel_rfl) (by kernel_rfl) (by kernel_rfl) (by decide) (by rfl) ?eay4 ?ear4
        case eay4 => (intro w; go_simp; (try with_reducible rfl))
        (try simp only [layE])
        refine E_off hQ (fun _ => hHeld) 4 rfl rfl (by kernel_rfl) (by kernel_rfl) (by kernel_rfl) (by decide) (by rfl) ?_
        (try simp only [layE])
        refine E_off hQ (fun _ => hHeld) 5 rfl rfl (by kernel_rfl) (by kernel_rfl) (by kernel_rfl) (by decide) (by rfl) ?_
        (try simp only [layE])
        refine E_off hQ (fun _ => hHeld) 6 rfl rfl (by kernel_rfl) (by kernel_rfl) (by kernel_rfl) (by decide) (by rfl) ?_
        (try simp only [layE])
        refine E_off hQ (fun _ => hHeld) 7 rfl rfl (by kernel_rfl) (by kernel_rfl) (by kernel_rfl) (by decide) (by rfl) ?_
        (try simp only [layE])
        refine E_off hQ (fun _ => hHeld) 8 rfl rfl (by kernel_rfl) (by kernel_rfl) (by kernel_rfl) (by decide) (by rfl) ?_
        (try simp only [layE])
        refine E_take0 hQ (fun _ => hHeld) 9 (v := ?eav10) rfl rfl (by kernel_rfl) (by kernel_rfl) (by kernel_rfl) (by decide) (by rfl) ?eay10 ?ear10
        case eay10 => (intro w; go_simp; (try with_reducible rfl))
        (try simp only [layE])
        refine E_take0 hQ (fun _ => hHeld) 10 (v := ?eav11) rfl rfl (by kernel_rfl) (by kernel_rfl) (by kernel_rfl) (by decide) (by rfl) ?eay11 ?ear11
        case eay11 => (intro w; go_simp; (try with_reducible rfl))
        (try simp only [layE])
        refine E_off hQ (fun _ => hHeld) 11 rfl rfl (by kernel_rfl) (by kernel_rfl) (by kernel_rfl) (by decide) (by rfl) ?_
        (try simp only [layE])
        refine E_off hQ (fun _ => hHeld) 12 rfl rfl (by kernel_rfl) (by kernel_rfl) (by kernel_rfl) (by decide) (by rfl) ?_
        (try simp only [layE])
        refine E_off hQ (fun _ => hHeld) 13 rfl rfl (by kernel_rfl) (by kernel_rfl) (by kernel_rfl) (by decide) (by rfl) ?_
        (try simp only [layE])
        refine E_off hQ (fun _ => hHeld) 14 rfl rfl (by kernel_rfl) (by kernel_rfl) (by kernel_rfl) (by decide) (by rfl) ?_
        (try simp only [layE])
        refine E_off hQ (fun _ => hHeld) 15 rfl rfl (by kernel_rfl) (by kernel_rfl) (by kernel_rfl) (by decide) (by rfl) ?_
        (try simp only [layE])
        refine E_off hQ (fun _ => hHeld) 16 rfl rfl (by kernel_rfl) (by kernel_rfl) (by kernel_rfl) (by decide) (by rfl) ?_
        (try simp only [layE])
        refine E_off hQ (fun _ => hHeld) 17 rfl rfl (by kernel_rfl) (by kernel_rfl) (by kernel_rfl) (by decide) (by rfl) ?_
        (try simp only [layE])
        refine E_off hQ (fun _ => hHeld) 18 rfl rfl (by kernel_rfl) (by kernel_rfl) (by kernel_rfl) (by decide) (by rfl) ?_
        (try simp only [layE])
        refine E_off hQ (fun _ => hHeld) 19 rfl rfl (by kernel_rfl) (by kernel_rfl) (by kernel_rfl) (by decide) (by rfl) ?_
        (try simp only [layE])
        refine E_one 20 (by kernel_rfl) rfl (by rfl) (fun K hK => ?_)
        go_simp
        (try simp only [layE])
        refine hK.out _ _ (fun _ h => absurd rfl h) (fun _ => ?_)
        clear hK hHeld
        (try simp only [layE])
        refine E_done (by kernel_rfl) ?_ _
        refine hK'.out _ _ ?_
        gi_wp2_with fail
        gi_meet
        exact ⟨by rw [hF.out], rfl⟩
      have d1 : decide (0 ≤ tt) = true := decide_eq_true c1
      by_cases c2 : tt = i
      case pos =>
        have d2 : (tt != (i : Int)) = false := by simpa using c2
        have hF : Hid (decide (0 ≤ tt ∧ tt ≠ i ∧ tt ∉ row) = false) := Lib.hid (decide_eq_false fun h => h.2.1 c2)
        clear c1 c2
        refine E_regionR (S := (fun W => W.cell? ⟨b, 0, none⟩ = some (.int .i64 (i : Int)) ∧ W.cell? ⟨b, 2, none⟩ = some (.int .i64 tt) ∧ W.cell? ⟨w.heap.size + 2, 0, none⟩ = some (.slice (some ⟨w.heap.size + 1, 0, none⟩) n n) ∧ W.cell? ⟨w.heap.size + 1, i, none⟩ = some (.slice va row.length vc))) 20 (by kernel_rfl) (by kernel_rfl) ⟨p0, p2, q1, y0⟩ (fun Q' hQ hK' hHeld => ?_)
        refine E_take0 hQ (fun _ => hHeld) 0 (v := ?ebv1) rfl rfl (by kernel_rfl) (by kernel_rfl) (by kernel_rfl) (by decide) (by rfl) ?eby1 ?ebr1
        case eby1 => (intro w; go_simp; (try with_reducible rfl))
        (try simp only [layE])
        refine E_take hQ hHeld 1 (v := ?ebv2) rfl rfl (by kernel_rfl) (by kernel_rfl) (by kernel_rfl) (by kernel_rfl) (by kernel_rfl) (by rfl) ?eby2 ?ebr2
        case eby2 => (intro w hSw; (try dsimp only at hSw); go_simp; (try with_reducible rfl))
        (try simp only [layE])
        refine E_take0 hQ (fun _ => hHeld) 2 (v := ?ebv3) rfl rfl (by kernel_rfl) (by kernel_rfl) (by kernel_rfl) (by decide) (by rfl) ?eby3 ?ebr3
        case eby3 => (intro w; go_simp; (try with_reducible rfl))
        (try simp only [layE])
        refine E_take0 hQ (fun _ => hHeld) 3 (v := ?ebv4) rfl rfl (by kernel_rfl) (by kernel_rfl) (by kernel_rfl) (by decide) (by rfl) ?eby4 ?ebr4
        case eby4 => (intro w; go_simp; (try with_reducible rfl))
        (try simp only [layE])
        refine E_take0 hQ (fun _ => hHeld) 4 (v := ?ebv5) rfl rfl (by kernel_rfl) (by kernel_rfl) (by kernel_rfl) (by decide) (by rfl) ?eby5 ?ebr5
        case eby5 => (intro w; go_simp; (try with_reducible rfl))
        (try simp only [layE])
        refine E_take hQ hHeld 5 (v := ?ebv6) rfl rfl (by kernel_rfl) (by kernel_rfl) (by kernel_rfl) (by kernel_rfl) (by kernel_rfl) (by rfl) ?eby6 ?ebr6
        case eby6 => (intro w hSw; (try dsimp only at hSw); go_simp; (try with_reducible rfl))
        (try simp only [layE])
        refine E_take0 hQ (fun _ => hHeld) 6 (v := ?ebv7) rfl rfl (by kernel_rfl) (by kernel_rfl) (by kernel_rfl) (by decide) (by rfl) ?eby7 ?ebr7
        case eby7 => (intro w; go_simp; (try with_reducible rfl))
        (try simp only [layE])
        refine E_take hQ hHeld 7 (v := ?ebv8) rfl rfl (by kernel_rfl) (by kernel_rfl) (by kernel_rfl) (by kernel_rfl) (by kernel_rfl) (by rfl) ?eby8 ?ebr8
        case eby8 => (intro w hSw; (try dsimp only at hSw); go_simp; (try with_reducible rfl))
        (try simp only [layE])
        refine E_take0 hQ (fun _ => hHeld) 8 (v := ?ebv9) rfl rfl (by kernel_rfl) (by kernel_rfl) (by kernel_rfl) (by decide) (by rfl) ?eby9 ?ebr9
        case eby9 => (intro w; go_simp; (try with_reducible rfl))
        (try simp only [layE])
        refine E_take0 hQ (fun _ => hHeld) 9 (v := ?ebv10) rfl rfl (by kernel_rfl) (by kernel_rfl) (by kernel_rfl) (by decide) (by rfl) ?eby10 ?ebr10
        case eby10 => (intro w; go_simp; (try with_reducible rfl))
        (try simp only [layE])
        refine E_take0 hQ (fun _ => hHeld) 10 (v := ?ebv11) rfl rfl (by kernel_rfl) (by kernel_rfl) (by kernel_rfl) (by decide) (by rfl) ?eby11 ?ebr11
        case eby11 => (intro w; go_simp; (try with_reducible rfl))
        (try simp only [layE])
        refine E_off hQ (fun _ => hHeld) 11 rfl rfl (by kernel_rfl) (by kernel_rfl) (by kernel_rfl) (by decide) (by rfl) ?_
        (try simp only [layE])
        refine E_off hQ (fun _ => hHeld) 12 rfl rfl (by kernel_rfl) (by kernel_rfl) (by kernel_rfl) (by decide) (by rfl) ?_
        (try simp only [layE])
        refine E_off hQ (fun _ => hHeld) 13 rfl rfl (by kernel_rfl) (by kernel_rfl) (by kernel_rfl) (by decide) (by rfl) ?_
        (try simp only [layE])
        refine E_off hQ (fun _ => hHeld) 14 rfl rfl (by kernel_rfl) (by kernel_rfl) (by kernel_rfl) (by decide) (by rfl) ?_
        (try simp only [layE])
        refine E_off hQ (fun _ => hHeld) 15 rfl rfl (by kernel_rfl) (by kernel_rfl) (by kernel_rfl) (by decide) (by rfl) ?_
        (try simp only [layE])
        refine E_off hQ (fun _ => hHeld) 16 rfl rfl (by kernel_rfl) (by kernel_rfl) (by kernel_rfl) (by decide) (by rfl) ?_
        (try simp only [layE])
        refine E_off hQ (fun _ => hHeld) 17 rfl rfl (by kernel_rfl) (by kernel_rfl) (by kernel_rfl) (by decide) (by rfl) ?_
        (try simp only [layE])
        refine E_off hQ (fun _ => hHeld) 18 rfl rfl (by kernel_rfl) (by kernel_rfl) (by kernel_rfl) (by decide) (by rfl) ?_
        (try simp only [layE])
        refine E_off hQ (fun _ => hHeld) 19 rfl rfl (by kernel_rfl) (by kernel_rfl) (by kernel_rfl) (by decide) (by rfl) ?_
        (try simp only [layE])
        refine E_one 20 (by kernel_rfl) rfl (by rfl) (fun K hK => ?_)
        go_simp
        (try simp only [layE])
        refine hK.out _ _ (fun _ h => absurd rfl h) (fun _ => ?_)
        clear hK hHeld
        (try simp only [layE])
        refine E_done (by kernel_rfl) ?_ _
        refine hK'.out _ _ ?_
        gi_wp2_with fail
        gi_meet
        exact ⟨by rw [hF.out], rfl⟩
      have d2 : (tt != (i : Int)) = true := by simpa using c2
      have hF : Hid (decide (0 ≤ tt ∧ tt ≠ i ∧ tt ∉ row) = !decide (tt ∈ row)) := Lib.hid (by simp [c1, c2])
      clear c1 c2
      generalize decide (tt ∈ row) = b3 at *
      refine E_regionR (S := (fun W => W.cell? ⟨b, 0, none⟩ = some (.int .i64 (i : Int)) ∧ W.cell? ⟨b, 2, none⟩ = some (.int .i64 tt) ∧ W.cell? ⟨w.heap.size + 2, 0, none⟩ = some (.slice (some ⟨w.heap.size + 1, 0, none⟩) n n) ∧ W.cell? ⟨w.heap.size + 1, i, none⟩ = some (.slice va row.length vc))) 18 (by kernel_rfl) (by kernel_rfl) ⟨p0, p2, q1, y0⟩ (fun Q' hQ hK' hHeld => ?_)
      refine E_take0 hQ (fun _ => hHeld) 0 (v := ?ev1) rfl rfl (by kernel_rfl) (by kernel_rfl) (by kernel_rfl) (by decide) (by rfl) ?ey1 ?er1
      case ey1 => (intro w; go_simp; (try with_reducible rfl))
      (try simp only [layE])
      refine E_take hQ hHeld 1 (v := ?ev2) rfl rfl (by kernel_rfl) (by kernel_rfl) (by kernel_rfl) (by kernel_rfl) (by kernel_rfl) (by rfl) ?ey2 ?er2
      case ey2 => (intro w hSw; (try dsimp only at hSw); go_simp; (try with_reducible rfl))
      (try simp only [layE])
      refine E_take0 hQ (fun _ => hHeld) 2 (v := ?ev3) rfl rfl (by kernel_rfl) (by kernel_rfl) (by kernel_rfl) (by decide) (by rfl) ?ey3 ?er3
      case ey3 => (intro w; go_simp; (try with_reducible rfl))
      (try simp only [layE])
      refine E_take0 hQ (fun _ => hHeld) 3 (v := ?ev4) rfl rfl (by kernel_rfl) (by kernel_rfl) (by kernel_rfl) (by decide) (by rfl) ?ey4 ?er4
      case ey4 => (intro w; go_simp; (try with_reducible rfl))
      (try simp only [layE])
      refine E_take0 hQ (fun _ => hHeld) 4 (v := ?ev5) rfl rfl (by kernel_rfl) (by kernel_rfl) (by kernel_rfl) (by decide) (by rfl) ?ey5 ?er5
      case ey5 => (intro w; go_simp; (try with_reducible rfl))
      (try simp only [layE])
      refine E_take hQ hHeld 5 (v := ?ev6) rfl rfl (by kernel_rfl) (by kernel_rfl) (by kernel_rfl) (by kernel_rfl) (by kernel_rfl) (by rfl) ?ey6 ?er6
      case ey6 => (intro w hSw; (try dsimp only at hSw); go_simp; (try with_reducible rfl))
      (try simp only [layE])
      refine E_take0 hQ (fun _ => hHeld) 6 (v := ?ev7) rfl rfl (by kernel_rfl) (by kernel_rfl) (by kernel_rfl) (by decide) (by rfl) ?ey7 ?er7
      case ey7 => (intro w; go_simp; (try with_reducible rfl))
      (try simp only [layE])
      refine E_take hQ hHeld 7 (v := ?ev8) rfl rfl (by kernel_rfl) (by kernel_rfl) (by kernel_rfl) (by kernel_rfl) (by kernel_rfl) (by rfl) ?ey8 ?er8
      case ey8 => (intro w hSw; (try dsimp only at hSw); go_simp; (try with_reducible rfl))
      (try simp only [layE])
      refine E_take0 hQ (fun _ => hHeld) 8 (v := ?ev9) rfl rfl (by kernel_rfl) (by kernel_rfl) (by kernel_rfl) (by decide) (by rfl) ?ey9 ?er9
      case ey9 => (intro w; go_simp; (try with_reducible rfl))
      (try simp only [layE])
      refine E_take0 hQ (fun _ => hHeld) 9 (v := ?ev10) rfl rfl (by kernel_rfl) (by kernel_rfl) (by kernel_rfl) (by decide) (by rfl) ?ey10 ?er10
      case ey10 => (intro w; go_simp; (try with_reducible rfl))
      (try simp only [layE])
      refine E_take0 hQ (fun _ => hHeld) 10 (v := ?ev11) rfl rfl (by kernel_rfl) (by kernel_rfl) (by kernel_rfl) (by decide) (by rfl) ?ey11 ?er11
      case ey11 => (intro w; go_simp; (try with_reducible rfl))
      (try simp only [layE])
      refine E_take hQ hHeld 11 (v := ?ev12) rfl rfl (by kernel_rfl) (by kernel_rfl) (by kernel_rfl) (by kernel_rfl) (by kernel_rfl) (by rfl) ?ey12 ?er12
      case ey12 => (intro w hSw; (try dsimp only at hSw); go_simp; (try with_reducible rfl))
      (try simp only [layE])
      refine E_take0 hQ (fun _ => hHeld) 12 (v := ?ev13) rfl rfl (by kernel_rfl) (by kernel_rfl) (by kernel_rfl) (by decide) (by rfl) ?ey13 ?er13
      case ey13 => (intro w; go_simp; (try with_reducible rfl))
      (try simp only [layE])
      refine E_take hQ hHeld 13 (v := ?ev14) rfl rfl (by kernel_rfl) (by kernel_rfl) (by kernel_rfl) (by kernel_rfl) (by kernel_rfl) (by rfl) ?ey14 ?er14
      case ey14 => (intro w hSw; (try dsimp only at hSw); go_simp; (try with_reducible rfl))
      (try simp only [layE])
      refine E_take0 hQ (fun _ => hHeld) 14 (v := ?ev15) rfl rfl (by kernel_rfl) (by kernel_rfl) (by kernel_rfl) (by decide) (by rfl) ?ey15 ?er15
      case ey15 => (intro w; go_simp; (try with_reducible rfl))
      (try simp only [layE])
      refine E_take hQ hHeld 15 (v := ?ev16) rfl rfl (by kernel_rfl) (by kernel_rfl) (by kernel_rfl) (by kernel_rfl) (by kernel_rfl) (by rfl) ?ey16 ?er16
      case ey16 => (intro w hSw; (try dsimp only at hSw); go_simp; (try with_reducible rfl))
      (try simp only [layE])
      refine E_take0 hQ (fun _ => hHeld) 16 (v := ?ev17) rfl rfl (by kernel_rfl) (by kernel_rfl) (by kernel_rfl) (by decide) (by rfl) ?ey17 ?er17
      case ey17 => (intro w; go_simp; (try with_reducible rfl))
      (try simp only [layE])
      refine E_take hQ hHeld 17 (v := ?ev18) rfl rfl (by kernel_rfl) (by kernel_rfl) (by kernel_rfl) (by kernel_rfl) (by kernel_rfl) (by rfl) ?ey18 ?er18
      case ey18 => (intro w hSw; (try dsimp only at hSw); go_simp; (try with_reducible rfl))
      (try simp only [layE])
      refine E_one 18 (by kernel_rfl) rfl (by rfl) (fun K hK => ?_)
      go_simp
      refine (HC3.out W.drew (HRW.out.below ((Below.refl _ _).drew))).mono ?_
      rintro e W18 ⟨rfl, rfl⟩
      refine hK.out _ _ (fun _ h => absurd rfl h) (fun _ => ?_)
      clear hK hHeld
      (try simp only [layE])
      refine E_take0 hQ (fun h => absurd h (by decide)) 19 (v := ?ev19) rfl rfl (by kernel_rfl) (by kernel_rfl) (by kernel_rfl) (by decide) (by rfl) ?ey19 ?er19
      case ey19 => (intro w; go_simp; (try with_reducible rfl))
      (try simp only [layE])
      refine E_take0 hQ (fun h => absurd h (by decide)) 20 (v := ?ev20) rfl rfl (by kernel_rfl) (by kernel_rfl) (by kernel_rfl) (by decide) (by rfl) ?ey20 ?er20
      case ey20 => (intro w; go_simp; (try with_reducible rfl))
      (try simp only [layE])
      refine E_done (by kernel_rfl) ?_ _
      refine hK'.out _ _ ?_
      gi_wp2_with fail
      gi_meet
      exact ⟨by rw [hF.out], rfl⟩
    case rest =>
    obtain ⟨rfl, rfl⟩ := hcut
    by_cases hc : 0 ≤ tt ∧ tt ≠ i ∧ tt ∉ row
    case neg =>
      have d3 : decide (0 ≤ tt ∧ tt ≠ i ∧ tt ∉ row) = false := decide_eq_false hc
      have hE : Hid (rowsRf d.steps.length (pre ++ [(i, a, tt)]) = rows) := Lib.hid (by rw [hSN.out, HAD.out, if_neg hc]; exact HKEEP.out.symm)
      rw [d3]
      clear d3 hc p0 p1 p2 q1 y0 yf
      gi_wp2_with fail
      exact ⟨⟨by rw [← hn, hE.out]; exact H0.out.drew, by rw [← hn]; exact HBX.out, H2.out, H3.out.drew⟩, ⟨(Below.refl _ _).drew, fun _ _ => rfl⟩⟩
    have d3 : decide (0 ≤ tt ∧ tt ≠ i ∧ tt ∉ row) = true := decide_eq_true hc
    have hE : Hid (rowsRf d.steps.length (pre ++ [(i, a, tt)]) = rows.set i (row ++ [tt])) := Lib.hid (by rw [hSN.out, HAD.out, if_pos hc])
    rw [d3]
    clear d3 hc
    have h0V : RowsAt W.drew S (w.heap.size + 1) (w.heap.size + 1) rows := H0.out.drew
    have y0V : W.drew.cell? ⟨w.heap.size + 1, i, none⟩ = some (.slice va row.length vc) := y0
    have yfV : W.drew.frozen? ⟨w.heap.size + 1, i, none⟩ = false := yf
    have HB4V : Hid (W.drew.heap[b]? = some (.cells #[.int .i64 (i : Int), .string a, .int .i64 tt] 84 (0, 0))) := Lib.hid HB4.out
    have HBXV : Hid (Boxed W.drew (w.heap.size + 2) 36 (.slice (some ⟨w.heap.size + 1, 0, none⟩) n n)) := Lib.hid (by rw [← hn]; exact HBX.out)
    have H3V : Hid (Below w.heap.size w W.drew) := Lib.hid H3.out.drew
    have HOWV : Hid (W.drew.ownsRow (w.heap.size + 1) 3 1 (.slice va row.length vc) row.length (ints .i64 row)) := Lib.hid HOW.out
    have HKV : Hid (Keep (w.heap.size + 1) S W W.drew) := Lib.hid ⟨(Below.refl _ _).drew, fun _ _ => rfl⟩
    have hsV : w.heap.size + 1 ≤ W.drew.heap.size := hsW
    have hBV : w.heap.size + 1 < W.drew.heap.size := hBl
    have hSV : Hid (∀ k, S k → k < W.drew.heap.size) := Lib.hid HSl.out
    have p0V : W.drew.cell? ⟨b, 0, none⟩ = some (.int .i64 (i : Int)) := p0
    have p2V : W.drew.cell? ⟨b, 2, none⟩ = some (.int .i64 tt) := p2
    have q1V : W.drew.cell? ⟨w.heap.size + 2, 0, none⟩ = some (.slice (some ⟨w.heap.size + 1, 0, none⟩) n n) := q1
    clear p0 p1 p2 q1 y0 yf HB4 HBX H3 HOW HRW H0 HSl
    generalize W.drew = V at *
    have HPU := Lib.hid (fun (w9 : World) (g9 cap9 : Nat) => RowsAt.pushR (n0 := w.heap.size + 1) (W := V.drew) (w1 := w9) (g := g9) (cap := cap9) (tmp := .cells #[.int .i64 tt] 3) (x := tt) h0V.drew hir hrw y0V (Nat.le_refl _) (Nat.le_refl _) hsV hSV.out)
    gi_upto_region 5 with fail
    refine E_regionR (S := (fun W => W.cell? ⟨b, 0, none⟩ = some (.int .i64 (i : Int)) ∧ W.cell? ⟨b, 2, none⟩ = some (.int .i64 tt) ∧ W.cell? ⟨w.heap.size + 2, 0, none⟩ = some (.slice (some ⟨w.heap.size + 1, 0, none⟩) n n) ∧ W.cell? ⟨w.heap.size + 1, i, none⟩ = some (.slice va row.length vc))) 13 (by kernel_rfl) (by kernel_rfl) ⟨p0V, p2V, q1V, y0V⟩ (fun Q' hQ hK' hHeld => ?_)
    refine E_take hQ hHeld 0 (v := ?edv1) rfl rfl (by kernel_rfl) (by kernel_rfl) (by kernel_rfl) (by kernel_rfl) (by kernel_rfl) (by rfl) ?edy1 ?edr1
    case edy1 => (intro w hSw; (try dsimp only at hSw); go_simp; (try with_reducible rfl))
    (try simp only [layE])
    refine E_take0 hQ (fun _ => hHeld) 1 (v := ?edv2) rfl rfl (by kernel_rfl) (by kernel_rfl) (by kernel_rfl) (by decide) (by rfl) ?edy2 ?edr2
    case edy2 => (intro w; go_simp; (try with_reducible rfl))
    (try simp only [layE])
    refine E_take hQ hHeld 2 (v := ?edv3) rfl rfl (by kernel_rfl) (by kernel_rfl) (by kernel_rfl) (by kernel_rfl) (by kernel_rfl) (by rfl) ?edy3 ?edr3
    case edy3 => (intro w hSw; (try dsimp only at hSw); go_simp; (try with_reducible rfl))
    (try simp only [layE])
    refine E_take hQ hHeld 3 (v := ?edv4) rfl rfl (by kernel_rfl) (by kernel_rfl) (by kernel_rfl) (by kernel_rfl) (by kernel_rfl) (by rfl) ?edy4 ?edr4
    case edy4 => (intro w hSw; (try dsimp only at hSw); go_simp; (try with_reducible rfl))
    (try simp only [layE])
    refine E_take0 hQ (fun _ => hHeld) 4 (v := ?edv5) rfl rfl (by kernel_rfl) (by kernel_rfl) (by kernel_rfl) (by decide) (by rfl) ?edy5 ?edr5
    case edy5 => (intro w; go_simp; (try with_reducible rfl))
    (try simp only [layE])
    refine E_take hQ hHeld 5 (v := ?edv6) rfl rfl (by kernel_rfl) (by kernel_rfl) (by kernel_rfl) (by kernel_rfl) (by kernel_rfl) (by rfl) ?edy6 ?edr6
    case edy6 => (intro w hSw; (try dsimp only at hSw); go_simp; (try with_reducible rfl))
    (try simp only [layE])
    refine E_take0 hQ (fun _ => hHeld) 6 (v := ?edv7) rfl rfl (by kernel_rfl) (by kernel_rfl) (by kernel_rfl) (by decide) (by rfl) ?edy7 ?edr7
    case edy7 => (intro w; go_simp; (try with_reducible rfl))
    (try simp only [layE])
    refine E_take hQ hHeld 7 (v := ?edv8) rfl rfl (by kernel_rfl) (by kernel_rfl) (by kernel_rfl) (by kernel_rfl) (by kernel_rfl) (by rfl) ?edy8 ?edr8
    case edy8 => (intro w hSw; (try dsimp only at hSw); go_simp; (try with_reducible rfl))
    (try simp only [layE])
    refine E_take0 hQ (fun _ => hHeld) 8 (v := ?edv9) rfl rfl (by kernel_rfl) (by kernel_rfl) (by kernel_rfl) (by decide) (by rfl) ?edy9 ?edr9
    case edy9 => (intro w; go_simp; (try with_reducible rfl))
    (try simp only [layE])
    refine E_take hQ hHeld 9 (v := ?edv10) rfl rfl (by kernel_rfl) (by kernel_rfl) (by kernel_rfl) (by kernel_rfl) (by kernel_rfl) (by rfl) ?edy10 ?edr10
    case edy10 => (intro w hSw; (try dsimp only at hSw); go_simp; (try with_reducible rfl))
    (try simp only [layE])
    refine E_one 10 (by kernel_rfl) rfl (by rfl) (fun K hK => ?_)
    go_simp
    have hal : Below V.drew.heap.size V.drew (V.drew.alloc (.cells #[.int .i64 tt] 3)) := (Below.refl _ _).alloc (Nat.le_refl _) _
    have HAL := Lib.hid hal
    clear hal
    (try simp only [layE])
    refine hK.out _ _ (fun _ _ => ⟨cellB HAL.out hHeld.1, cellB HAL.out hHeld.2.1, cellB HAL.out hHeld.2.2.1, cellB HAL.out hHeld.2.2.2⟩) (fun hHeld' => ?_)
    replace hHeld := hHeld' (by rfl) (by decide)
    clear hK hHeld'
    (try simp only [layE])
    refine E_one 11 (by kernel_rfl) rfl (by rfl) (fun K hK => ?_)
    have hww : (V.alloc (.cells #[.int .i64 tt] 3)).drew = V.drew.alloc (.cells #[.int .i64 tt] 3) := rfl
    try rw [hww]
    refine wp_append_lies _ (.tmp 40) (.tmp 43) 38 (by rfl) (w.heap.size + 1) 3 i0 (.int .i64 0) 1 8 Tryz.underlying38 hi hz0 hz1 hz2 rfl (by decide) (.slice va row.length vc) row.length (ints .i64 row) (by rfl) (World.ownsRow.alloc (w := V.drew) HOWV.out _) ⟨V.heap.size, 0, none⟩ 1 1 [.int .i64 tt] (by rfl) rfl (World.news_of_block (World.alloc_heap_new V.drew _)) (by simp [Value.oneCell']) (by omega) (by unfold maxLen; omega) (by omega) (by rw [World.size_alloc]; show _ ≤ V.heap.size + 1; omega) (V.heap.size + 1) (by rw [World.size_alloc]; rfl) ?_
    intro g9 cap9 w9 hown' hgrow hat hlt9
    have KP := Lib.hid (HPU.out w9 g9 cap9 hown' hgrow hat)
    have hB9 : w9.heap[w.heap.size + 1]? = V.heap[w.heap.size + 1]? := by
      obtain ⟨ob, hob⟩ : ∃ ob, V.heap[w.heap.size + 1]? = some ob := ⟨_, Array.getElem?_eq_getElem hBV⟩
      rw [kept_push (wr := V.drew) hob hgrow hneB, hob]
    have hfr9 : w9.frozen? ⟨w.heap.size + 1, i, none⟩ = false := by rw [World.frozen?_of_block (w := V) hB9]; exact yfV
    have hcl9 : w9.cell? ⟨w.heap.size + 1, i, none⟩ = some (.slice va row.length vc) := by rw [World.cell?_of_block (w := V) hB9]; exact y0V
    have hk9 : w9.cell? ⟨b, 0, none⟩ = some (.int .i64 (i : Int)) ∧ w9.cell? ⟨b, 2, none⟩ = some (.int .i64 tt) := by
      obtain ⟨k1, k2, k3, -, -, -⟩ := cells3h (kept_push (wr := V.drew) HB4V.out hgrow hneb)
      exact ⟨k1, k3⟩
    have hk8 : w9.cell? ⟨w.heap.size + 2, 0, none⟩ = some (.slice (some ⟨w.heap.size + 1, 0, none⟩) n n) := Boxed.cell (t := 36) (kept_push (wr := V.drew) HBXV.out hgrow hnex)
    clear hown' hgrow hat
    (try simp only [layE])
    refine hK.out _ _ (fun _ _ => ⟨hk9.1, hk9.2, hk8, hcl9⟩) (fun hHeld' => ?_)
    replace hHeld := hHeld' (by rfl) (by decide)
    clear hK hHeld'
    (try simp only [layE])
    refine E_take0 hQ (fun _ => hHeld) 12 (v := ?edv11) rfl rfl (by kernel_rfl) (by kernel_rfl) (by kernel_rfl) (by decide) (by rfl) ?edy11 ?edr11
    case edy11 => (intro w; go_simp; (try with_reducible rfl))
    (try simp only [layE])
    refine E_one 13 (by kernel_rfl) rfl (by rfl) (fun K hK => ?_)
    go_simp
    (try simp only [layE])
    refine hK.out _ _ (fun _ h => absurd rfl h) (fun _ => ?_)
    clear hK hHeld
    (try simp only [layE])
    refine E_done (by kernel_rfl) ?_ _
    refine hK'.out _ _ ?_
    obtain ⟨kp1, kp2, kp3, kp4⟩ := KP.out
    gi_wp2_with fail
    have hkv : Keep (w.heap.size + 1) S V V.drew := ⟨(Below.refl _ _).drew, fun _ _ => rfl⟩
    exact ⟨⟨by rw [← hn, hE.out]; exact kp1, kp3 _ _ HBXV.out (by omega) hnex, H2.out, H3V.out.drew.trans (kp2.below.mono (by omega))⟩, (HKV.out.trans hkv).trans kp2⟩
theorem nRefs_any (d : DefD) (cs : List Value) (sa : Option Addr) (sc : Nat) (w : World) (h : DefR w cs d sa sc) (hlen : d.steps.length ≤ 1000000) (hrl : (refsF d.steps 0 d.steps).length ≤ 1000000) :
    Calls Tryz.prog 12 #[.agg cs.toArray] w fun e w' => ∃ v, e = .returned v ∧ Rows2 w' v (depsA d.steps 0 d.steps) ∧ Below w.heap.size w w' := by
  refine (nRefsA_any d cs sa sc w h hlen hrl).mono ?_
  rintro e w' ⟨rfl, hr, hb⟩
  have h2 := hr.rows2 (by rw [depsA_len]; omega)
  rw [depsA_len] at h2
  exact ⟨_, rfl, h2, hb⟩
end Go.Proofs.YtgfiogjfgbegpaaGreat

/-
  Sagas: the plain data, and what becomes of them (no program).
-/
namespace Go.Proofs.YtgfiogjfgbegpaaGreat
open Go Go.RowKit

abbrev RunD := Int × Int × Int × Bool
abbrev WayD := Int × Bool
abbrev OrdD := Int × Int × Bool × Int
def idleR : RunD := (0, 0, 0, false)
structure SagD where
  runs : WayD → RunD
  done : List Int
  undone : List Int
  status : Int
abbrev AskX := SagD × List OrdD
def SagD.set (S : SagD) (k : WayD) (r : RunD) : SagD := { S with runs := fun y => if y = k then r else S.runs y }
def beginR (s : StepD) (now : Int) : RunD := (1, inc 0, nowI now + limI s.limit, false)
def stopR (r : RunD) : RunD := stopT r.1 r.2.1 r.2.2.1 r.2.2.2
def putX (X : AskX) (k : WayD) (r : RunD) : AskX :=
  if r.1 = 3 ∧ (X.1.runs k).1 ≠ 3 ∧ k.2 = false then ({ X.1.set k r with done := X.1.done ++ [k.1] }, X.2)
  else if r.1 = 1 ∧ r.2.1 ≠ (X.1.runs k).2.1 then (X.1.set k r, X.2 ++ [(k.1, r.2.1, k.2, r.2.2.1)])
  else (X.1.set k r, X.2)
def phaseI (S : SagD) (i : Int) : Int := (S.runs (i, false)).1
def anyB (n : Nat) (S : SagD) (ph : Int) : Bool := (List.range n).any fun i => decide (phaseI S (i : Int) = ph)
def stopS (k : Nat) (S : SagD) : SagD := { S with runs := fun y => if y.2 = false ∧ 0 ≤ y.1 ∧ y.1 < (k : Int) then stopR (S.runs y) else S.runs y }
def haltS (n : Nat) (S : SagD) : SagD := stopS n { S with status := 2 }
def readyB (rs : List (List Int)) (S : SagD) (i : Nat) : Bool := decide (phaseI S (i : Int) = 0) && (rs[i]?.getD []).all fun j => decide (phaseI S j = 3)
def begX (l : List StepD) (rs : List (List Int)) (now : Int) (X : AskX) (i : Nat) : AskX := if readyB rs X.1 i then putX X ((i : Int), false) (beginR (l[i]?.getD default) now) else X
def forthX (l : List StepD) (rs : List (List Int)) (now : Int) (X : AskX) : AskX :=
  if anyB l.length X.1 4 then (haltS l.length X.1, X.2)
  else if X.1.done.length = l.length then ({ X.1 with status := 3 }, X.2)
  else (List.range l.length).foldl (begX l rs now) X
def backL (l : List StepD) (now : Int) : Nat → AskX → AskX
  | 0, X => ({ X.1 with status := 4 }, X.2)
  | m + 1, X =>
    let i := X.1.done[X.1.done.length - 1 - X.1.undone.length]?.getD 0
    let s := l[i.toNat]?.getD default
    let r := X.1.runs (i, true)
    if s.undo = { data := #[] } ∨ r.1 = 3 then backL l now m ({ X.1 with undone := X.1.undone ++ [i] }, X.2)
    else if r.1 = 4 then ({ X.1 with status := 5 }, X.2)
    else if r.1 = 0 then putX X (i, true) (beginR s now)
    else X
def backX (l : List StepD) (now : Int) (X : AskX) : AskX := if anyB l.length X.1 1 then X else backL l now (X.1.done.length - X.1.undone.length) X
def onX (l : List StepD) (rs : List (List Int)) (now : Int) (X : AskX) : AskX :=
  let Y := if X.1.status = 1 then forthX l rs now X else X
  if Y.1.status = 2 then backX l now Y else Y
def waysD (n : Nat) : List WayD := (List.range n).map (fun i : Nat => ((i : Int), false)) ++ (List.range n).map (fun i : Nat => ((i : Int), true))
/-! An answer that comes twice counts once. -/
def Shut (S : SagD) (k : WayD) (tr : Int) : Prop := (S.runs k).1 ≠ 0 ∧ ¬ ((S.runs k).1 = 1 ∧ (S.runs k).2.1 = tr)
theorem putX_runs (X : AskX) (k : WayD) (r : RunD) : (putX X k r).1.runs = fun y => if y = k then r else X.1.runs y := by
  unfold putX
  split
  · rfl
  · split <;> rfl
theorem Shut.put {X : AskX} {k k' : WayD} {tr : Int} {r : RunD} (h : Shut X.1 k tr) (h0 : (X.1.runs k').1 = 0) : Shut (putX X k' r).1 k tr := by
  unfold Shut
  rw [putX_runs]
  have : k ≠ k' := by
    rintro rfl
    exact h.1 h0
  simp only [if_neg this]
  exact h
theorem stopT_shut {r : RunD} {tr : Int} (h : r.1 ≠ 0 ∧ ¬ (r.1 = 1 ∧ r.2.1 = tr)) : (stopR r).1 ≠ 0 ∧ ¬ ((stopR r).1 = 1 ∧ (stopR r).2.1 = tr) := by
  unfold stopR stopT
  split
  · exact ⟨by show (4 : Int) ≠ 0; decide, fun e => absurd (show (4 : Int) = 1 from e.1) (by decide)⟩
  · split
    · exact h
    · exact h
theorem Shut.stop {S : SagD} {k : WayD} {tr : Int} (h : Shut S k tr) (n : Nat) : Shut (stopS n S) k tr := by
  unfold Shut stopS
  dsimp only
  split
  · exact stopT_shut h
  · exact h
theorem Shut.beg {l : List StepD} {rs : List (List Int)} {now : Int} {X : AskX} {k : WayD} {tr : Int} (h : Shut X.1 k tr) (i : Nat) : Shut (begX l rs now X i).1 k tr := by
  unfold begX
  split
  · rename_i hr
    unfold readyB at hr
    simp only [Bool.and_eq_true, decide_eq_true_eq] at hr
    exact h.put hr.1
  · exact h
theorem Shut.begs {l : List StepD} {rs : List (List Int)} {now : Int} {k : WayD} {tr : Int} : ∀ (is : List Nat) (X : AskX), Shut X.1 k tr → Shut (is.foldl (begX l rs now) X).1 k tr
  | [], _, h => h
  | i :: is, _, h => Shut.begs is _ (h.beg i)
theorem Shut.forth {l : List StepD} {rs : List (List Int)} {now : Int} {X : AskX} {k : WayD} {tr : Int} (h : Shut X.1 k tr) : Shut (forthX l rs now X).1 k tr := by
  unfold forthX
  split
  · exact Shut.stop (S := { X.1 with status := 2 }) h _
  · split
    · exact h
    · exact Shut.begs _ _ h
theorem Shut.backL {l : List StepD} {now : Int} {k : WayD} {tr : Int} : ∀ (m : Nat) (X : AskX), Shut X.1 k tr → Shut (backL l now m X).1 k tr
  | 0, _, h => h
  | m + 1, X, h => by
    unfold Go.Proofs.YtgfiogjfgbegpaaGreat.backL
    dsimp only
    split
    · exact Shut.backL m _ h
    · split
      · exact h
      · split
        · rename_i h0
          exact h.put h0
        · exact h
theorem Shut.back {l : List StepD} {now : Int} {X : AskX} {k : WayD} {tr : Int} (h : Shut X.1 k tr) : Shut (backX l now X).1 k tr := by
  unfold backX
  split
  · exact h
  · exact Shut.backL _ _ h
theorem Shut.on {l : List StepD} {rs : List (List Int)} {now : Int} {X : AskX} {k : WayD} {tr : Int} (h : Shut X.1 k tr) : Shut (onX l rs now X).1 k tr := by
  have hY : Shut (if X.1.status = 1 then forthX l rs now X else X).1 k tr := by
    split
    · exact h.forth
    · exact h
  unfold onX
  dsimp only
  generalize (if X.1.status = 1 then forthX l rs now X else X) = Y at *
  split
  · exact hY.back
  · exact hY
end Go.Proofs.YtgfiogjfgbegpaaGreat

/-
  rescriptref25: Index, Has, Refs: contracts.
-/
namespace Go.Proofs.YtgfiogjfgbegpaaGreat
open Go Go.RowKit Go.WideShapes

theorem depsA_get (all : List StepD) : ∀ (l : List StepD) (i k : Nat) (hk : k < l.length), (depsA all i l)[k]? = some (depsD all (i + k) l[k])
  | s :: l, i, 0, _ => rfl
  | s :: l, i, k + 1, h => by
    rw [depsA, List.getElem?_cons_succ, depsA_get all l (i + 1) k (by simpa using h), show i + 1 + k = i + (k + 1) by omega]
    rfl
def rowJ (all : List StepD) (k : Nat) (s : StepD) (j : Nat) : List Int := ((s.after.take j).map fun a => idxStep all a 0).foldl (addRf k) []
theorem rowJ_all (all : List StepD) (k : Nat) (s : StepD) : rowJ all k s s.after.length = depsD all k s := by
  unfold rowJ depsD; rw [List.take_length]
theorem rowJ_len (all : List StepD) (k : Nat) (s : StepD) (j : Nat) : (rowJ all k s j).length ≤ j := by
  unfold rowJ
  have key : ∀ (l : List Int) (r : List Int), (l.foldl (addRf k) r).length ≤ r.length + l.length := by
    intro l
    induction l with
    | nil => intro r; simp
    | cons x l ih =>
      intro r
      rw [List.foldl_cons, List.length_cons]
      have := ih (addRf k r x)
      have := addRf_len k r x
      omega
  have := key ((s.after.take j).map fun a => idxStep all a 0) []
  simp only [List.length_nil, List.length_map, List.length_take, Nat.zero_add] at this
  omega

end Go.Proofs.YtgfiogjfgbegpaaGreat

/-
  Sagas: how they lie in memory.
-/
namespace Go.Proofs.YtgfiogjfgbegpaaGreat
open Go Go.RowKit Go.Maps Go.WideShapes

structure Chg (U : Nat → Prop) (w w' : World) : Prop where
  low : Below 0 w w'
  block : ∀ j, j < w.heap.size → ¬ U j → w'.heap[j]? = w.heap[j]?
theorem Chg.refl (U : Nat → Prop) (w : World) : Chg U w w := ⟨Below.refl _ _, fun _ _ _ => rfl⟩
theorem Chg.size {U : Nat → Prop} {w w' : World} (h : Chg U w w') : w.heap.size ≤ w'.heap.size := h.low.size
theorem Chg.of_below {U : Nat → Prop} {w w' : World} (h : Below w.heap.size w w') : Chg U w w' := ⟨h.mono (Nat.zero_le _), fun j h1 _ => h.block j h1⟩
theorem Chg.below {U : Nat → Prop} {B : Nat} {w w' : World} (h : Chg U w w') (hU : ∀ j, U j → B ≤ j) (hB : B ≤ w.heap.size) : Below B w w' := ⟨h.low.os, h.low.tape, h.low.output, h.low.size, fun i hi => h.block i (by omega) (fun e => by have := hU i e; omega)⟩
theorem Chg.setCell {U : Nat → Prop} {w w' : World} (h : Chg U w w') {p : Addr} (hp : p.block < w.heap.size → U p.block) (x : Value) : Chg U w (w'.setCell p x) :=
  ⟨h.low.setCell (p := p) (Nat.zero_le _) x, fun j h1 h2 => (Below.heap_setCell _ _ _ _ (fun e => h2 (by rw [e]; exact hp (by rw [← e]; exact h1)))).trans (h.block j h1 h2)⟩
theorem Chg.drew {U : Nat → Prop} {w w' : World} (h : Chg U w w') : Chg U w w'.drew := ⟨h.low.drew, h.block⟩
theorem Chg.mono {U V : Nat → Prop} {w w' : World} (h : Chg U w w') (hs : ∀ j, U j → V j) : Chg V w w' := ⟨h.low, fun j h1 h2 => h.block j h1 (fun k => h2 (hs j k))⟩
theorem Chg.trans {U V : Nat → Prop} {w w' w'' : World} (h : Chg U w w') (k : Chg V w' w'') (hV : ∀ j, V j → j < w.heap.size → U j) : Chg U w w'' :=
  ⟨h.low.trans k.low, fun j h1 h2 => (k.block j (Nat.lt_of_lt_of_le h1 h.low.size) (fun ht => h2 (hV j ht h1))).trans (h.block j h1 h2)⟩
theorem Chg.alloc {U : Nat → Prop} {w w' : World} (h : Chg U w w') (o : Obj) : Chg U w (w'.alloc o) := h.trans (V := fun _ => False) (Chg.of_below ((Below.refl _ _).alloc (Nat.le_refl _) _)) (fun _ h => h.elim)
structure Grow (U U' : Nat → Prop) (w w' : World) : Prop where
  chg : Chg U w w'
  new : ∀ j, U' j → U j ∨ w.heap.size ≤ j
  old : ∀ j, U j → U' j
theorem Grow.refl (U : Nat → Prop) (w : World) : Grow U U w w := ⟨Chg.refl _ _, fun _ h => .inl h, fun _ h => h⟩
theorem Grow.trans {U V X : Nat → Prop} {w w' w'' : World} (h : Grow U V w w') (k : Grow V X w' w'') : Grow U X w w'' :=
  ⟨h.chg.trans k.chg (fun j hj hl => (h.new j hj).elim id (fun e => absurd hl (by omega))), fun j hj => (k.new j hj).elim (h.new j) (fun e => .inr (Nat.le_trans h.chg.size e)), fun j hj => k.old j (h.old j hj)⟩
theorem Grow.of_chg {U : Nat → Prop} {w w' : World} (h : Chg U w w') : Grow U U w w' := ⟨h, fun _ h => .inl h, fun _ h => h⟩
theorem Grow.stays {U V : Nat → Prop} {w w' : World} (h : Grow U V w w') {j : Nat} (hj : j < w.heap.size) (hU : ¬ U j) : w'.heap[j]? = w.heap[j]? ∧ ¬ V j := ⟨h.chg.block j hj hU, fun e => (h.new j e).elim hU (fun e => by omega)⟩
theorem Grow.below {U V : Nat → Prop} {B : Nat} {w w' : World} (h : Grow U V w w') (hU : ∀ j, U j → B ≤ j) (hB : B ≤ w.heap.size) : Below B w w' ∧ ∀ j, V j → B ≤ j := ⟨h.chg.below hU hB, fun j hj => (h.new j hj).elim (hU j) (fun e => by omega)⟩
theorem Grow.size {U V : Nat → Prop} {w w' : World} (h : Grow U V w w') : w.heap.size ≤ w'.heap.size := h.chg.size
def Kept (N : Nat) (U : Nat → Prop) (w : World) (Φ : World → Prop) : Prop := N ≤ w.heap.size ∧ ∀ w', (∀ j, j < N → ¬ U j → w'.heap[j]? = w.heap[j]?) → Φ w'
theorem Kept.now {N : Nat} {U : Nat → Prop} {w : World} {Φ : World → Prop} (h : Kept N U w Φ) : Φ w := h.2 w (fun _ _ _ => rfl)
theorem Kept.step {N : Nat} {U V : Nat → Prop} {w w' : World} {Φ : World → Prop} (h : Kept N U w Φ) (k : Grow U V w w') : Kept N V w' Φ :=
  ⟨Nat.le_trans h.1 k.size, fun w'' hw => h.2 w'' (fun j hj hU => (hw j hj (fun e => (k.new j e).elim hU (fun e => by have := h.1; omega))).trans (k.chg.block j (Nat.lt_of_lt_of_le hj h.1) hU))⟩
theorem Kept.same {N : Nat} {U : Nat → Prop} {w w' : World} {Φ : World → Prop} (h : Kept N U w Φ) (hs : w.heap.size ≤ w'.heap.size) (k : ∀ j, j < N → ¬ U j → w'.heap[j]? = w.heap[j]?) : Kept N U w' Φ := ⟨Nat.le_trans h.1 hs, fun w'' hw => h.2 w'' (fun j hj hU => (hw j hj hU).trans (k j hj hU))⟩

def encW (k : WayD) : Value := .agg #[.int .i64 k.1, .bool k.2]
theorem Tryz.rowWay : (98 : TypeId) < Tryz.prog.types.size := of_decide_eq_true (by kernel_rfl)
theorem Tryz.keyTWay : Tryz.prog.keyTypeAt 3 98 = true := by kernel_rfl
theorem Tryz.wideWay : (match Tryz.prog.underlying 98 with | some (.array _ _) | some (.struct _) => true | _ => false) = true := by rw [Tryz.underlying98]
set_option maxRecDepth 100000 in
theorem Tryz.lawWay : WideMaps.KeyLaw Tryz.prog 98 := deep_law_laid Tryz.laid (m := 3) (by omega) Tryz.rowWay Tryz.keyTWay Tryz.wideWay
theorem Tryz.deepWay : Tryz.prog.keyType 98 = true := by kernel_rfl
theorem Tryz.cellsWay : Tryz.prog.cellsOf 98 = 2 := by kernel_rfl
theorem Tryz.cellsBool : Tryz.prog.cellsOf 4 = 1 := by kernel_rfl
theorem keyLits_bool {P : Program} {n : Nat} {t : TypeId} (ht : P.underlying t = some .bool) (b : Bool) : P.keyLits (n + 1) t [.bool b] = some [.bool b] := by
  simp [Program.keyLits, ht]
theorem Tryz.keyOfWay (a : Int) (b : Bool) (h1 : (Lit.int .i64 a).wf = true) : ∃ kl, keyOf Tryz.prog 98 (.agg #[.int .i64 a, .bool b]) = some kl := by
  obtain ⟨n, hn⟩ : ∃ n, Tryz.prog.types.size = n + 1 := Nat.exists_eq_succ_of_ne_zero (Nat.ne_of_gt (Nat.lt_of_le_of_lt (Nat.zero_le _) Tryz.rowWay))
  refine ⟨_, keyOf_struct Tryz.underlying98 (by rw [Tryz.cellsWay]; rfl) Tryz.deepWay (keyLits_struct Tryz.underlying98 (by rw [Tryz.cellsWay]; rfl) (by decide +kernel) (ls := [[.int .i64 a], [.bool b]]) ?_)⟩
  rw [hn]
  simp only [List.mapM_cons, List.mapM_nil, Tryz.cellsInt, Tryz.cellsBool, List.drop_zero, List.take_succ_cons, List.take_zero, List.drop_succ_cons, keyLits_int Tryz.underlying3 h1, keyLits_bool Tryz.underlying4]
  rfl
theorem encW_inj {x y : WayD} (h : encW x = encW y) : x = y := by
  obtain ⟨a, b⟩ := x
  obtain ⟨a', b'⟩ := y
  simp [encW] at h
  obtain ⟨rfl, rfl⟩ := h
  rfl
set_option maxRecDepth 100000 in
theorem Tryz.keyWay : KeyH Tryz.prog 98 100 89 WayD encW (fun k => I64w k.1) (runT idleR) where
  keyed := Keyed.of_law Tryz.lawWay
  map := Tryz.underlying89
  zero := fun w => by kernel_rfl
  inj := encW_inj
  key := fun {x} h => Tryz.keyOfWay x.1 x.2 (i64_wf h)

structure SagR (w : World) (U : Nat → Prop) (p m : Nat) (sa : Option Addr) (sc : Nat) (vr : Value) (d : DefD) (rs : List (List Int)) (N : Nat) (da : Option Addr) (dc : Nat) (ua : Option Addr) (uc : Nat) (S : SagD) : Prop where
  cell : w.heap[p]? = some (.cells #[.string d.name, .string d.text, .slice sa d.steps.length sc, vr, .map (some m), .slice da S.done.length dc, .slice ua S.undone.length uc, .int .u8 S.status] 91 (0, 0))
  df : Kept N U w (fun W => DefR W [.string d.name, .string d.text, .slice sa d.steps.length sc] d sa sc)
  refs : Kept N U w (fun W => Rows2 W vr rs)
  map : ∃ (L : List WayD) (g : WayD → Option Value), MapH Tryz.prog 98 encW w m L g ∧ (∀ k, (g k).getD (runT idleR) = runT (S.runs k)) ∧ ∀ k ∈ L, k ∈ waysD d.steps.length
  done : w.ownsRow 0 3 1 (.slice da S.done.length dc) S.done.length (ints .i64 S.done)
  undone : w.ownsRow 0 3 1 (.slice ua S.undone.length uc) S.undone.length (ints .i64 S.undone)
  apart : ∀ g, (Value.slice da S.done.length dc).ownBlock = some g → (Value.slice ua S.undone.length uc).ownBlock ≠ some g
  ownp : U p
  ownm : U m
  ownd : ∀ g, (Value.slice da S.done.length dc).ownBlock = some g → U g
  ownu : ∀ g, (Value.slice ua S.undone.length uc).ownBlock = some g → U g
section
variable {w w' : World} {U V : Nat → Prop} {p m : Nat} {sa : Option Addr} {sc : Nat} {vr : Value} {d : DefD} {rs : List (List Int)} {N : Nat} {da : Option Addr} {dc : Nat} {ua : Option Addr} {uc : Nat} {S : SagD}
theorem SagR.turn (h : SagR w U p m sa sc vr d rs N da dc ua uc S) (k : Grow U V w w') (hp : w'.heap[p]? = w.heap[p]?) (hm : w'.heap[m]? = w.heap[m]?) (hd : ∀ g, (Value.slice da S.done.length dc).ownBlock = some g → w'.heap[g]? = w.heap[g]?) (hu : ∀ g, (Value.slice ua S.undone.length uc).ownBlock = some g → w'.heap[g]? = w.heap[g]?) : SagR w' V p m sa sc vr d rs N da dc ua uc S := by
  obtain ⟨L, g, h1, h2, h3⟩ := h.map
  exact ⟨hp.trans h.cell, h.df.step k, h.refs.step k, ⟨L, g, h1.block hm, h2, h3⟩, ownsRow_keepB h.done hd, ownsRow_keepB h.undone hu, h.apart, k.old _ h.ownp, k.old _ h.ownm, fun g e => k.old _ (h.ownd g e), fun g e => k.old _ (h.ownu g e)⟩
theorem SagR.below (h : SagR w U p m sa sc vr d rs N da dc ua uc S) (hb : Below w.heap.size w w') : SagR w' U p m sa sc vr d rs N da dc ua uc S := by
  obtain ⟨L, g, h1, _⟩ := h.map
  exact h.turn (Grow.of_chg (Chg.of_below hb)) (hb.block _ (Array.getElem?_eq_some_iff.1 h.cell).1) (hb.block _ h1.lt) (fun g e => hb.block _ (h.done.lt g e).2) (fun g e => hb.block _ (h.undone.lt g e).2)
theorem SagR.nem (h : SagR w U p m sa sc vr d rs N da dc ua uc S) {q : Nat} {c : Array Value} {ty : TypeId} {fr : Nat × Nat} (hq : w.heap[q]? = some (.cells c ty fr)) : q ≠ m := by
  obtain ⟨L, g, h1, _⟩ := h.map
  exact h1.ne hq
theorem SagR.cells (h : SagR w U p m sa sc vr d rs N da dc ua uc S) : w.cell? ⟨p, 0, none⟩ = some (.string d.name) ∧ w.cell? ⟨p, 1, none⟩ = some (.string d.text) ∧ w.cell? ⟨p, 2, none⟩ = some (.slice sa d.steps.length sc) ∧ w.cell? ⟨p, 3, none⟩ = some vr ∧ w.cell? ⟨p, 4, none⟩ = some (.map (some m)) ∧ w.cell? ⟨p, 5, none⟩ = some (.slice da S.done.length dc) ∧ w.cell? ⟨p, 6, none⟩ = some (.slice ua S.undone.length uc) ∧ w.cell? ⟨p, 7, none⟩ = some (.int .u8 S.status) := by
  have h0 := h.cell
  refine ⟨?_, ?_, ?_, ?_, ?_, ?_, ?_, ?_⟩ <;> simp [World.cell?, h0]
theorem SagR.look (h : SagR w U p m sa sc vr d rs N da dc ua uc S) {k : WayD} (hk : I64w k.1) : (Instr.lookup 89 (.map (some m)) (encW k) false).run Tryz.prog w = .ok (runT (S.runs k)) w := by
  obtain ⟨L, g, h1, h2, h3⟩ := h.map
  rw [h1.look Tryz.keyWay hk, h2]
end
def flatO (l : List OrdD) : List Value := l.flatMap fun o => [.int .i64 o.1, .int .i64 o.2.1, .bool o.2.2.1, .int .i64 o.2.2.2]
end Go.Proofs.YtgfiogjfgbegpaaGreat

/-
  bounds and names: note, within; the reference's Real.
-/
namespace Go.Proofs.YtgfiogjfgbegpaaGreat
open Go Go.RowKit Go.WideShapes

structure OutG (W : World) (B : Nat) (va : Option Addr) (vc : Nat) (l : List DiagD) : Prop where
  box : Boxed W B 76 (.slice va l.length vc)
  own : OwnG W B va vc l
theorem OutG.below {W W' : World} {B vc : Nat} {va : Option Addr} {l : List DiagD} (h : OutG W B va vc l) (hb : Below W.heap.size W W') : OutG W' B va vc l := ⟨(hb.block _ h.box.lt).trans h.box, h.own.below hb⟩
def noteL (l : List DiagD) (b : Bool) (x : DiagD) : List DiagD := if b then l ++ [x] else l
def Noted (W w' : World) (B : Nat) (va : Option Addr) (vc : Nat) (l' l : List DiagD) : Prop :=
  ∃ va' vc', OutG w' B va' vc' l' ∧ Below B W w' ∧ (∀ (q : Nat) (ob : Obj), W.heap[q]? = some ob → q ≠ B → (Value.slice va l.length vc).ownBlock ≠ some q → w'.heap[q]? = some ob) ∧ ∀ q, q < W.heap.size → (Value.slice va l.length vc).ownBlock ≠ some q → (Value.slice va' l'.length vc').ownBlock ≠ some q
theorem outG_pushed {W w1 : World} {B vc : Nat} {va : Option Addr} {l : List DiagD} {x : DiagD} {v' : Value} {tmp : Obj} (h : OutG W B va vc l) (hown' : w1.ownsRow B 154 3 v' (l.length + 1) (flatG l ++ encG x)) (hgrow : (W.alloc tmp).grownBy w1 (Value.slice va l.length vc).ownBlock) (hfr : Fresh (W.alloc tmp) (.slice va l.length vc) v') :
    ∃ va' vc', v' = .slice va' (l.length + 1) vc' ∧ Boxed w1 B 76 (.slice va l.length vc) ∧ OutG (w1.setCell ⟨B, 0, none⟩ v') B va' vc' (noteL l true x) ∧ (Below B W (w1.setCell ⟨B, 0, none⟩ v') ∧ (∀ (q : Nat) (o : Obj), W.heap[q]? = some o → q ≠ B → (Value.slice va l.length vc).ownBlock ≠ some q → (w1.setCell ⟨B, 0, none⟩ v').heap[q]? = some o) ∧
      (∀ q, q < W.heap.size → (Value.slice va l.length vc).ownBlock ≠ some q → (Value.slice va' (noteL l true x).length vc').ownBlock ≠ some q)) := by
  obtain ⟨va', vc', rfl⟩ := (RdS.of_owns hown').form
  obtain ⟨h1, h2, h3, h4, h5⟩ := boxed_pushed (n0 := B) (S := fun _ => False) h.box (by decide) h.own (Nat.le_of_lt h.box.lt) (Nat.le_refl _) (Nat.le_refl _) (fun _ h => h.elim) id (fun _ _ h => h) hown' hgrow hfr
  have hlen : (noteL l true x).length = l.length + 1 := by simp [noteL]
  refine ⟨va', vc', rfl, h1, ⟨by rw [hlen]; exact h2, ?_⟩, h4.below, fun q o ho hq hne => pushed_other hgrow ho hq hne, fun q hq hne e => ?_⟩
  · unfold OwnG
    rw [hlen]
    have : flatG (noteL l true x) = flatG l ++ encG x := by rw [flatG_snoc]; rfl
    rw [this]
    exact h3
  · rw [hlen] at e
    rcases hfr q e with hf | hf
    · exact hne hf
    · simp at hf; omega

set_option maxRecDepth 100000 in
set_option maxHeartbeats 2000000 in
theorem bnote_any (b : Bool) (st er : Int) (tx : ByteArray) (l : List DiagD) (B vc : Nat) (va : Option Addr) (W : World) (ho : OutG W B va vc l) (hl : l.length ≤ 1000000) :
    Calls Tryz.prog 98 #[.bool b, .int .i64 st, .int .i64 er, .string tx, .pointer (some ⟨B, 0, none⟩)] W fun e w' => e = .returned (.tuple #[]) ∧ Noted W w' B va vc (noteL l b (st, er, tx)) l := by
  obtain ⟨i0, hi, hz0, hz1, hz2⟩ := info_parts Tryz.info_diag
  have HO := Lib.hid ho
  have hc0 := ho.box.cell
  have hBl := ho.box.lt
  clear ho
  cases b with
  | false =>
    go_enter Tryz.func98, Tryz.ntmps98
    go_wp2_with fail
    go_end0
    exact ⟨rfl, va, vc, HO.out, Below.refl _ _, fun _ _ h _ _ => h, fun _ _ h => h⟩
  | true =>
    go_enter Tryz.func98, Tryz.ntmps98
    go_wp2_with (at_builtin; go_must (refine wpList_push rfl _ _ 76 rfl B 154 i0 (.agg #[.int .i64 0, .int .i64 0, .string { data := #[] }]) 3 32 Tryz.underlying76 hi hz0 hz1 hz2 rfl (by decide) _ _ _ rfl (World.ownsRow.alloc HO.out.own _) ⟨W.heap.size, 0, none⟩ 1 1 (encG (st, er, tx)) rfl rfl cells3_new (encG_one (st, er, tx)) (by unfold maxLen; omega) (by omega) (by simp; omega) ?_; intro v' w2 hown' hgrow hfr; obtain ⟨va', vc', rfl, kb1, kb2, kb3⟩ := outG_pushed HO.out hown' hgrow hfr; have hc1 := kb1.cell; have hf1 := kb1.frozen; have KB2 := Lib.hid kb2; have KB3 := Lib.hid kb3; clear hown' hgrow hfr kb1 kb2 kb3))
    go_end0
    exact ⟨rfl, va', vc', KB2.out, KB3.out.1, KB3.out.2.1, KB3.out.2.2⟩

set_option maxRecDepth 100000 in
set_option maxHeartbeats 2000000 in
theorem nnote_any (b : Bool) (st er : Int) (tx : ByteArray) (l : List DiagD) (B vc : Nat) (va : Option Addr) (W : World) (ho : OutG W B va vc l) (hl : l.length ≤ 1000000) :
    Calls Tryz.prog 97 #[.bool b, .int .i64 st, .int .i64 er, .string tx, .pointer (some ⟨B, 0, none⟩)] W fun e w' => e = .returned (.tuple #[]) ∧ Noted W w' B va vc (noteL l b (st, er, tx)) l := by
  obtain ⟨i0, hi, hz0, hz1, hz2⟩ := info_parts Tryz.info_diag
  have HO := Lib.hid ho
  have hc0 := ho.box.cell
  have hBl := ho.box.lt
  clear ho
  cases b with
  | false =>
    go_enter Tryz.func97, Tryz.ntmps97
    go_wp2_with fail
    go_end0
    exact ⟨rfl, va, vc, HO.out, Below.refl _ _, fun _ _ h _ _ => h, fun _ _ h => h⟩
  | true =>
    go_enter Tryz.func97, Tryz.ntmps97
    go_wp2_with (at_builtin; go_must (refine wpList_push rfl _ _ 76 rfl B 154 i0 (.agg #[.int .i64 0, .int .i64 0, .string { data := #[] }]) 3 32 Tryz.underlying76 hi hz0 hz1 hz2 rfl (by decide) _ _ _ rfl (World.ownsRow.alloc HO.out.own _) ⟨W.heap.size, 0, none⟩ 1 1 (encG (st, er, tx)) rfl rfl cells3_new (encG_one (st, er, tx)) (by unfold maxLen; omega) (by omega) (by simp; omega) ?_; intro v' w2 hown' hgrow hfr; obtain ⟨va', vc', rfl, kb1, kb2, kb3⟩ := outG_pushed HO.out hown' hgrow hfr; have hc1 := kb1.cell; have hf1 := kb1.frozen; have KB2 := Lib.hid kb2; have KB3 := Lib.hid kb3; clear hown' hgrow hfr kb1 kb2 kb3))
    go_end0
    exact ⟨rfl, va', vc', KB2.out, KB3.out.1, KB3.out.2.1, KB3.out.2.2⟩

theorem within_any (x lo hi : Int) (W : World) :
    Calls Tryz.prog 99 #[.int .i64 x, .int .i64 lo, .int .i64 hi] W fun e w' => e = .returned (.bool (decide (lo ≤ x) && decide (x ≤ hi))) ∧ w' = W := by
  by_cases h1 : lo ≤ x
  · have d1 : decide (lo ≤ x) = true := decide_eq_true h1
    go_enter Tryz.func99, Tryz.ntmps99
    go_wp2_with fail
    go_ret
    rw [d1]
    exact ⟨rfl, rfl⟩
  · have d1 : decide (lo ≤ x) = false := decide_eq_false h1
    go_enter Tryz.func99, Tryz.ntmps99
    go_wp2_with fail
    go_ret
    exact ⟨rfl, rfl⟩
end Go.Proofs.YtgfiogjfgbegpaaGreat

/-
  names.Missing: contract.
-/
namespace Go.Proofs.YtgfiogjfgbegpaaGreat
open Go.RowKit Go.WideShapes Go.Maps
attribute [local go_sem] Oper.semAt_some wide_fn wide_depth wide_fn' wide_depth'

theorem alloc3o (w : World) (o0 o1 o2 : Obj) : Below w.heap.size w (((w.alloc o0).alloc o1).alloc o2) ∧ (((w.alloc o0).alloc o1).alloc o2).heap[w.heap.size]? = some o0 ∧ (((w.alloc o0).alloc o1).alloc o2).heap[w.heap.size + 1]? = some o1 ∧ (((w.alloc o0).alloc o1).alloc o2).heap[w.heap.size + 2]? = some o2 ∧ (((w.alloc o0).alloc o1).alloc o2).heap.size = w.heap.size + 3 := by
  have e0 := World.alloc_heap_new w o0
  have e1 := World.alloc_heap_new (w.alloc o0) o1
  have e2 := World.alloc_heap_new ((w.alloc o0).alloc o1) o2
  simp only [World.size_alloc] at e1 e2
  refine ⟨(((Below.refl _ w).alloc (Nat.le_refl _) _).alloc (by simp only [World.size_alloc]; omega) _).alloc (by simp only [World.size_alloc]; omega) _, ?_, ?_, e2, by simp⟩
  · rw [Below.heap_alloc _ _ _ (by simp only [World.size_alloc]; omega), Below.heap_alloc _ _ _ (by simp only [World.size_alloc]; omega)]; exact e0
  · rw [Below.heap_alloc _ _ _ (by simp only [World.size_alloc]; omega)]; exact e1
end Go.Proofs.YtgfiogjfgbegpaaGreat

/-
  Sagas behind an append to one of their rows, and behind a new status.
-/
namespace Go.Proofs.YtgfiogjfgbegpaaGreat
open Go Go.RowKit Go.Maps Go.WideShapes

structure AskR (w : World) (U : Nat → Prop) (p m : Nat) (sa : Option Addr) (sc : Nat) (vr : Value) (d : DefD) (rs : List (List Int)) (N : Nat) (bs bo ob : Nat) (da : Option Addr) (dc : Nat) (ua : Option Addr) (uc : Nat) (va : Option Addr) (vc : Nat) (X : AskX) : Prop where
  sag : SagR w U p m sa sc vr d rs N da dc ua uc X.1
  hbs : w.heap[bs]? = some (.cells #[.pointer (some ⟨p, 0, none⟩)] 48 (0, 0))
  hbo : w.heap[bo]? = some (.cells #[.pointer (some ⟨ob, 0, none⟩)] 92 (0, 0))
  hob : w.heap[ob]? = some (.cells #[.slice va X.2.length vc] 52 (0, 0))
  row : w.ownsRow ob 55 4 (.slice va X.2.length vc) X.2.length (flatO X.2)
  nbs : ¬ U bs
  nbo : ¬ U bo
  uob : U ob
  urow : ∀ g, (Value.slice va X.2.length vc).ownBlock = some g → U g
section
variable {w w' : World} {U V : Nat → Prop} {p m : Nat} {sa : Option Addr} {sc : Nat} {vr : Value} {d : DefD} {rs : List (List Int)} {N : Nat} {bs bo ob : Nat} {da : Option Addr} {dc : Nat} {ua : Option Addr} {uc : Nat} {va : Option Addr} {vc : Nat} {X : AskX}
theorem AskR.below (h : AskR w U p m sa sc vr d rs N bs bo ob da dc ua uc va vc X) (hb : Below w.heap.size w w') : AskR w' U p m sa sc vr d rs N bs bo ob da dc ua uc va vc X :=
  ⟨h.sag.below hb, (hb.block _ (Array.getElem?_eq_some_iff.1 h.hbs).1).trans h.hbs, (hb.block _ (Array.getElem?_eq_some_iff.1 h.hbo).1).trans h.hbo, (hb.block _ (Array.getElem?_eq_some_iff.1 h.hob).1).trans h.hob, ownsRow_keepB h.row (fun g e => hb.block _ (h.row.lt g e).2), h.nbs, h.nbo, h.uob, h.urow⟩
theorem row_ne {W : World} {base : Nat} {e t : TypeId} {size n : Nat} {v : Value} {xs : List Value} {q : Nat} {c : Array Value} {fr : Nat × Nat} (h : W.ownsRow base e size v n xs) (hq : W.heap[q]? = some (.cells c t fr)) (ht : t ≠ e) : v.ownBlock ≠ some q := by
  intro e1
  obtain ⟨cur, h1⟩ := owns_cells h e1
  rw [hq] at h1
  injection h1 with h1
  injection h1 with _ h2 _
  exact ht h2
theorem AskR.put (h : AskR w U p m sa sc vr d rs N bs bo ob da dc ua uc va vc X) {k : WayD} (hk : k ∈ waysD d.steps.length) (hn : d.steps.length ≤ 1000000) (r : RunD) :
    ∃ w', (Instr.mapUpdate 89 (.map (some m)) (encW k) (runT r)).run Tryz.prog w = .ok () w' ∧ AskR w' U p m sa sc vr d rs N bs bo ob da dc ua uc va vc (X.1.set k r, X.2) ∧ Grow U U w w' ∧ w'.heap.size = w.heap.size ∧ ∀ j, j ≠ m → w'.heap[j]? = w.heap[j]? := by
  obtain ⟨L, g, h1, h2, h3⟩ := h.sag.map
  have hlen : L.length ≤ (waysD d.steps.length).length := nodup_sub_len h1.choose_spec.2.2.2.1 h3
  have hwl : (waysD d.steps.length).length = 2 * d.steps.length := by unfold waysD; simp; omega
  have hki : I64w k.1 := by
    unfold waysD at hk
    simp only [List.mem_append, List.mem_map, List.mem_range] at hk
    rcases hk with ⟨a, ha, rfl⟩ | ⟨a, ha, rfl⟩ <;> (unfold I64w; dsimp only; omega)
  obtain ⟨w', hr, h4, h5, h6, h7⟩ := h1.store Tryz.keyWay (by unfold maxLen; omega) hki (runT r)
  have hgr : Grow U U w w' := Grow.of_chg ⟨⟨h5.os, h5.tape, h5.output, h5.size, fun i hi => absurd hi (Nat.not_lt_zero i)⟩, fun j _ hU => h7 j (fun e => hU (e ▸ h.sag.ownm))⟩
  have hd := h.sag.done
  have hu := h.sag.undone
  have keep : ∀ {q : Nat} {c : Array Value} {ty : TypeId} {fr : Nat × Nat}, w.heap[q]? = some (.cells c ty fr) → w'.heap[q]? = w.heap[q]? := fun hq => h7 _ (h.sag.nem hq)
  have keepR : ∀ {base : Nat} {e : TypeId} {size n : Nat} {v : Value} {xs : List Value}, w.ownsRow base e size v n xs → ∀ g, v.ownBlock = some g → w'.heap[g]? = w.heap[g]? := fun ho g hg => by
    obtain ⟨cur, hc⟩ := owns_cells ho hg
    exact keep hc
  refine ⟨w', hr, ⟨⟨(keep h.sag.cell).trans h.sag.cell, h.sag.df.step hgr, h.sag.refs.step hgr, ⟨_, _, h4, fun y => ?_, fun y hy => ?_⟩, ownsRow_keepB hd (keepR hd), ownsRow_keepB hu (keepR hu), h.sag.apart, h.sag.ownp, h.sag.ownm, h.sag.ownd, h.sag.ownu⟩, (keep h.hbs).trans h.hbs, (keep h.hbo).trans h.hbo, (keep h.hob).trans h.hob, ownsRow_keepB h.row (keepR h.row), h.nbs, h.nbo, h.uob, h.urow⟩, hgr, h6, h7⟩
  · show (if y = k then some (runT r) else g y).getD (runT idleR) = runT ((X.1.set k r).runs y)
    unfold SagD.set
    dsimp only
    split
    · rfl
    · exact h2 y
  · rcases mem_putK.1 hy with rfl | hy
    · exact hk
    · exact h3 y hy
end
section
variable {w w' : World} {U V : Nat → Prop} {p m : Nat} {sa : Option Addr} {sc : Nat} {vr : Value} {d : DefD} {rs : List (List Int)} {N : Nat} {bs bo ob : Nat} {da : Option Addr} {dc : Nat} {ua : Option Addr} {uc : Nat} {va : Option Addr} {vc : Nat} {X : AskX}
end
structure SagK where
  p : Nat
  m : Nat
  sa : Option Addr
  sc : Nat
  vr : Value
  d : DefD
  rs : List (List Int)
  N : Nat
def SagE (w : World) (U : Nat → Prop) (k : SagK) (S : SagD) : Prop := ∃ da dc ua uc, SagR w U k.p k.m k.sa k.sc k.vr k.d k.rs k.N da dc ua uc S
def AskE (w : World) (U : Nat → Prop) (k : SagK) (bs bo ob : Nat) (X : AskX) : Prop := ∃ da dc ua uc va vc, AskR w U k.p k.m k.sa k.sc k.vr k.d k.rs k.N bs bo ob da dc ua uc va vc X
def SagTo (w : World) (U : Nat → Prop) (w' : World) (k : SagK) (S : SagD) : Prop := ∃ U', SagE w' U' k S ∧ Grow U U' w w'
def AskTo (w : World) (U : Nat → Prop) (w' : World) (k : SagK) (bs bo ob : Nat) (X : AskX) : Prop := ∃ U', AskE w' U' k bs bo ob X ∧ Grow U U' w w'
theorem AskE.below {w w' : World} {U : Nat → Prop} {k : SagK} {bs bo ob : Nat} {X : AskX} (h : AskE w U k bs bo ob X) (hb : Below w.heap.size w w') : AskE w' U k bs bo ob X := by
  obtain ⟨da, dc, ua, uc, va, vc, h⟩ := h
  exact ⟨da, dc, ua, uc, va, vc, h.below hb⟩
theorem SagE.below {w w' : World} {U : Nat → Prop} {k : SagK} {S : SagD} (h : SagE w U k S) (hb : Below w.heap.size w w') : SagE w' U k S := by
  obtain ⟨da, dc, ua, uc, h⟩ := h
  exact ⟨da, dc, ua, uc, h.below hb⟩
theorem AskE.sag {w : World} {U : Nat → Prop} {k : SagK} {bs bo ob : Nat} {X : AskX} (h : AskE w U k bs bo ob X) : SagE w U k X.1 := by
  obtain ⟨da, dc, ua, uc, va, vc, h⟩ := h
  exact ⟨da, dc, ua, uc, h.sag⟩
theorem AskE.to {w w' : World} {U : Nat → Prop} {k : SagK} {bs bo ob : Nat} {X : AskX} (h : AskE w U k bs bo ob X) (hb : Below w.heap.size w w') : AskTo w U w' k bs bo ob X := ⟨U, h.below hb, Grow.of_chg (Chg.of_below hb)⟩
theorem SagE.to {w w' : World} {U : Nat → Prop} {k : SagK} {S : SagD} (h : SagE w U k S) (hb : Below w.heap.size w w') : SagTo w U w' k S := ⟨U, h.below hb, Grow.of_chg (Chg.of_below hb)⟩
theorem AskTo.trans {w w' w'' : World} {U V : Nat → Prop} {k : SagK} {bs bo ob : Nat} {X : AskX} (g : Grow U V w w') (h : AskTo w' V w'' k bs bo ob X) : AskTo w U w'' k bs bo ob X := by
  obtain ⟨U', h1, h2⟩ := h
  exact ⟨U', h1, g.trans h2⟩
theorem SagTo.trans {w w' w'' : World} {U V : Nat → Prop} {k : SagK} {S : SagD} (g : Grow U V w w') (h : SagTo w' V w'' k S) : SagTo w U w'' k S := by
  obtain ⟨U', h1, h2⟩ := h
  exact ⟨U', h1, g.trans h2⟩
end Go.Proofs.YtgfiogjfgbegpaaGreat
