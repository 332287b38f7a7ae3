/-
  rescripttop.awakeDef: contract.
-/
import Derived.Test.YtgafjjgnbcjmpaaBq23
import Derived.Test.YtgafjjgnbcjmpaaBq29
namespace Go.Proofs.Ytgafjjgnbcjmpaa
open Go Go.RowKit Go.Maps Go.WideShapes

def s1a : StepD := ⟨{ data := #[97] }, { data := #[98] }, { data := #[] }, [], 0, 0, 0, 0, zeroTree⟩
def d1a : DefD := ⟨{ data := #[120] }, { data := #[] }, [s1a]⟩
def r1a : List Value := [.string { data := #[97] }, .string { data := #[98] }, .string { data := #[] }, .slice none 0 0, .int .i64 0, .int .i64 0, .int .i64 0, .int .i64 0, .int .u8 0, .string { data := #[] }, .slice none 0 0, .slice none 0 0, .int .i64 0]
theorem s1a_r (W : World) : StepX W r1a s1a :=
  ⟨none, 0, none, 0, none, 0, rfl, ⟨by decide, by decide, by decide, (fun a h => by cases h), by unfold I64w; decide, by unfold I64w; decide, by unfold I64w; decide, by unfold I64w; decide⟩, ⟨rfl, none, 0, rfl, Nat.le_refl _, Nat.zero_le _, .inl rfl⟩, (zero_node W (fun _ => True)).toR⟩
theorem d1a_r {W : World} {g : Nat} (h : W.heap[g]? = some (.cells r1a.toArray 45 (0, 0))) : DefR W [.string { data := #[120] }, .string { data := #[] }, .slice (some ⟨g, 0, none⟩) 1 1] d1a (some ⟨g, 0, none⟩) 1 :=
  ⟨rfl, by decide, by decide, [r1a], rfl, rds_row 1 13 (l := r1a) h rfl (by decide), fun i r s hr hs => by
    rcases i with _ | i
    · cases hr
      cases hs
      exact s1a_r W
    · cases hr⟩
theorem d1a_small : SmallD d1a := smallDef_of (by decide +kernel)
theorem d1a_p : DefP d1a := defP_of (by decide +kernel) d1a_small
theorem d1a_same : sameD d1a (normD d1a) = true := by decide +kernel
theorem d1a_idx : idxStep (normD d1a).steps { data := #[97] } 0 = 0 := by decide +kernel

set_option maxRecDepth 100000 in
set_option maxHeartbeats 4000000 in
theorem awakeDef_any (w : World) : Calls Try.prog 4 #[] w fun e w' => e = .returned (.bool true) ∧ Below w.heap.size w w' := by
  go_enter Try.func4, Try.ntmps4
  go_wp2_with fail
  obtain ⟨hb1, hsz1, hf⟩ := allocs_facts [.cells r1a.toArray 45, .cells #[.string { data := #[120] }, .string { data := #[] }, .slice (some ⟨w.heap.size, 0, none⟩) 1 1] 24] w
  have g0 := hf 0 _ rfl
  have g1 := hf 1 _ rfl
  clear hf
  have e0 : w.heap.size + 0 = w.heap.size := rfl
  simp only [List.foldl_cons, List.foldl_nil, List.length_cons, List.length_nil, Nat.reduceAdd] at hb1 hsz1 g0 g1
  rw [e0] at g0
  have HR1 := Lib.hid (d1a_r g0)
  have HB1 := Lib.hid hb1
  have HG1 := Lib.hid g1
  change Calls _ _ _ ((w.alloc (.cells r1a.toArray 45)).alloc _) _
  generalize (w.alloc (.cells r1a.toArray 45)).alloc (.cells #[.string { data := #[120] }, .string { data := #[] }, .slice (some ⟨w.heap.size, 0, none⟩) 1 1] 24) = w1 at *
  clear g0 g1 hb1 e0
  refine (dTree_any d1a _ _ _ w1 HR1.out d1a_small).mono ?_
  rintro e w2 ⟨cs2, rfl, hno, hb2⟩
  have HB2 := Lib.hid (bthen HB1.out (Nat.le_refl _) (hb2.mono (Nat.le_refl _)))
  have HB12 := Lib.hid hb2
  have HNO := Lib.hid hno
  clear hno hb2
  go_wp2_with fail
  refine (of_any d1a _ cs2 w2 w2 rfl HNO.out.toR (Below.refl _ _) d1a_p d1a_small).mono ?_
  rintro e w3 ⟨cs3, rfl, ⟨sa, sc, hR3⟩, hb3⟩
  have hcs := hR3.eq
  subst hcs
  have HR3 := Lib.hid hR3
  have HB3 := Lib.hid hb3
  clear hR3 hb3
  unfold zeroF
  go_upto_region 3 with fail
  obtain ⟨hb5, hsz5, hf⟩ := allocs_facts [.cells #[.string (normD d1a).name, .string (normD d1a).text, .slice sa (normD d1a).steps.length sc] 24, .cells #[.int .i64 0, .int .i64 0] 29] w3
  have g0 := hf 0 _ rfl
  have g1 := hf 1 _ rfl
  clear hf
  have e0 : w3.heap.size + 0 = w3.heap.size := rfl
  simp only [List.foldl_cons, List.foldl_nil, List.length_cons, List.length_nil, Nat.reduceAdd] at hb5 hsz5 g0 g1
  rw [e0] at g0
  generalize (w3.alloc (.cells #[.string (normD d1a).name, .string (normD d1a).text, .slice sa (normD d1a).steps.length sc] 24)).alloc (.cells #[.int .i64 0, .int .i64 0] 29) = w5 at *
  have hb15 := (bthen HB12.out (Nat.le_refl _) HB3.out).trans (hb5.mono (by have := HB12.out.size; have := HB3.out.size; omega))
  have HB5 := Lib.hid (HB1.out.trans (hb15.mono (by omega)))
  have HR5 := Lib.hid (HR3.out.below hb5)
  have HRD := Lib.hid (HR1.out.below hb15)
  obtain ⟨a0, a1, a2, -, -, -⟩ := cells3h g0
  obtain ⟨f0, f1, -, -⟩ := cells2 g1
  obtain ⟨b0, b1, b2, -, -, -⟩ := cells3h ((hb15.block _ (by omega)).trans HG1.out)
  have HG0 := Lib.hid g0
  have HGF := Lib.hid g1
  clear g0 g1 hb5 hb15 e0
  go_wp2_with fail
  refine (dSame_any d1a (normD d1a) _ _ _ _ _ _ w5 HRD.out HR5.out).mono ?_
  rintro e w6 ⟨rfl, hb6⟩
  rw [d1a_same]
  obtain ⟨c0, c1, c2, -, -, -⟩ := cells3h ((hb6.block _ (by omega)).trans HG0.out)
  obtain ⟨k0, k1, -, -⟩ := cells2 ((hb6.block _ (by omega)).trans HGF.out)
  have HB6 := Lib.hid (HB5.out.trans (hb6.mono (by have := HB5.out.size; omega)))
  have HR6 := Lib.hid (HR5.out.below hb6)
  clear hb6 a0 a1 a2 f0 f1 b0 b1 b2
  go_wp2_with fail
  refine (dIndex_any (normD d1a) _ _ _ _ w6 HR6.out).mono ?_
  rintro e w7 ⟨rfl, hb7⟩
  rw [d1a_idx]
  have HB7 := Lib.hid (HB6.out.trans (hb7.mono (by have := HB6.out.size; omega)))
  clear hb7 c0 c1 c2 k0 k1
  go_wp2_with fail
  go_ret
  exact ⟨rfl, HB7.out⟩
end Go.Proofs.Ytgafjjgnbcjmpaa

/-
  A row turned round: memory.
-/
namespace Go.Proofs.Ytgafjjgnbcjmpaa
open Go Go.RowKit Go.Maps Go.WideShapes

theorem flatten_setY {rows : List (List Value)} {m : Nat} (hm : ∀ r ∈ rows, r.length = m) {j k : Nat} (hj : j < rows.length) (hk : k < m) (x : Value) : rows.flatten.set (j * m + k) x = (rows.set j ((rows[j]).set k x)).flatten := by
  have hm2 : ∀ r ∈ rows.set j ((rows[j]).set k x), r.length = m := by
    intro r hr
    rcases List.mem_or_eq_of_mem_set hr with h | h
    · exact hm r h
    · rw [h, List.length_set]
      exact hm _ (List.getElem_mem hj)
  have h1 := flatten_get hm
  have h2 := flatten_get hm2
  apply List.ext_getElem?
  intro q
  by_cases hq : q < rows.length * m
  · have hm0 : 0 < m := by omega
    obtain ⟨i, c, hc, rfl⟩ : ∃ i c, c < m ∧ q = i * m + c := ⟨q / m, q % m, Nat.mod_lt _ hm0, by rw [Nat.mul_comm]; exact (Nat.div_add_mod q m).symm⟩
    have hi : i < rows.length := by
      rcases Nat.lt_or_ge i rows.length with h | h
      · exact h
      · have := Nat.mul_le_mul_right m h
        omega
    by_cases e : i = j
    · subst e
      rw [h2.2 i _ (by rw [List.getElem?_set_self hj]) c hc]
      by_cases e2 : c = k
      · subst e2
        rw [List.getElem?_set_self (by rw [h1.1]; exact hq), List.getElem?_set_self (by rw [hm _ (List.getElem_mem hj)]; exact hc)]
      · rw [List.getElem?_set_ne (by omega), List.getElem?_set_ne (by omega), h1.2 i rows[i] (List.getElem?_eq_getElem hi) c hc]
    · have hne : j * m + k ≠ i * m + c := by
        intro e3
        rcases Nat.lt_or_gt_of_ne e with h | h
        · have := Nat.mul_le_mul_right m (show i + 1 ≤ j by omega)
          rw [Nat.add_mul, Nat.one_mul] at this
          omega
        · have := Nat.mul_le_mul_right m (show j + 1 ≤ i by omega)
          rw [Nat.add_mul, Nat.one_mul] at this
          omega
      rw [h2.2 i rows[i] (by rw [List.getElem?_set_ne (by omega), List.getElem?_eq_getElem hi]) c hc, List.getElem?_set_ne hne, h1.2 i rows[i] (List.getElem?_eq_getElem hi) c hc]
  · rw [List.getElem?_eq_none (by rw [List.length_set, h1.1]; omega), List.getElem?_eq_none (by rw [h2.1, List.length_set]; omega)]
theorem RdS.fromN {w : World} {a : Option Addr} {size n c k : Nat} {cs : List Value} (h : RdS w (.slice a n c) size n cs) (hk : k ≤ n) : RdS w (sliced a k n c size) size (n - k) (cs.drop (k * size)) := by
  obtain ⟨h1, a', cap, h2, h3, h4, h5⟩ := h
  cases h2
  refine ⟨by rw [List.length_drop, h1, Nat.sub_mul], _, _, rfl, by omega, by omega, ?_⟩
  rcases h5 with rfl | ⟨g, off, rfl, hc⟩
  · exact .inl (by simp)
  · by_cases e : c = k
    · refine .inl (List.eq_nil_of_length_eq_zero ?_)
      have : n = k := by omega
      rw [List.length_drop, h1, this, Nat.sub_self]
    · rw [if_neg e]
      refine .inr ⟨g, off + k * size, by simp [Addr.add_lit], fun i x hi => ?_⟩
      rw [List.getElem?_drop] at hi
      have := hc _ _ hi
      rwa [← Nat.add_assoc] at this
theorem RdS.toN {w : World} {a : Option Addr} {size n c k : Nat} {cs : List Value} (h : RdS w (.slice a n c) size n cs) (hk : k ≤ n) : RdS w (.slice a k c) size k (cs.take (k * size)) := by
  obtain ⟨h1, a', cap, h2, h3, h4, h5⟩ := h
  cases h2
  have hks : k * size ≤ n * size := Nat.mul_le_mul_right _ hk
  refine ⟨by rw [List.length_take, h1]; omega, _, _, rfl, by omega, by omega, ?_⟩
  rcases h5 with rfl | ⟨g, off, rfl, hc⟩
  · exact .inl (by simp)
  · refine .inr ⟨g, off, rfl, fun i x hi => ?_⟩
    rw [List.getElem?_take] at hi
    split at hi
    · exact hc _ _ hi
    · cases hi
theorem flat_drop {size : Nat} : ∀ {rows : List (List Value)} (_ : ∀ r ∈ rows, r.length = size) (k : Nat), rows.flatten.drop (k * size) = (rows.drop k).flatten
  | [], _, k => by simp
  | a :: l, h, 0 => by simp
  | a :: l, h, k + 1 => by
    have ha : a.length = size := h a (by simp)
    rw [List.flatten_cons, Nat.add_mul, Nat.one_mul, Nat.add_comm, ← List.drop_drop, ← ha, List.drop_left, ha, List.drop_succ_cons]
    exact flat_drop (fun r hr => h r (by simp [hr])) k
theorem flat_take {size : Nat} : ∀ {rows : List (List Value)} (_ : ∀ r ∈ rows, r.length = size) (k : Nat), rows.flatten.take (k * size) = (rows.take k).flatten
  | [], _, k => by simp
  | a :: l, h, 0 => by simp
  | a :: l, h, k + 1 => by
    have ha : a.length = size := h a (by simp)
    rw [List.flatten_cons, List.take_succ_cons, List.flatten_cons, ← flat_take (fun r hr => h r (by simp [hr])) k, Nat.add_mul, Nat.one_mul, Nat.add_comm, ← ha, List.take_length_add_append]
/-- A list turned round. -/
def rotL {α : Type} (k : Nat) (l : List α) : List α := l.drop k ++ l.take k
theorem rotL_len {α : Type} (k : Nat) (l : List α) : (rotL k l).length = l.length := by
  unfold rotL
  rw [List.length_append, List.length_drop, List.length_take]
  omega
theorem rotL_get {α : Type} {k : Nat} {l : List α} (hk : k ≤ l.length) {i : Nat} (hi : i < l.length) : (rotL k l)[i]? = l[if i < l.length - k then k + i else i - (l.length - k)]? := by
  unfold rotL
  split
  · rename_i h
    rw [List.getElem?_append_left (by rw [List.length_drop]; exact h), List.getElem?_drop]
  · rename_i h
    rw [List.getElem?_append_right (by rw [List.length_drop]; omega), List.length_drop, List.getElem?_take, if_pos (by omega)]
/-- Two lists turned alike: what holds of each pair holds still. -/
theorem rotL_pairs {α β : Type} {k : Nat} {l : List α} {m : List β} (hl : l.length = m.length) (hk : k ≤ m.length) {C : α → β → Prop} (h : ∀ (i : Nat) (a : α) (b : β), l[i]? = some a → m[i]? = some b → C a b) : ∀ (i : Nat) (a : α) (b : β), (rotL k l)[i]? = some a → (rotL k m)[i]? = some b → C a b := by
  intro i a b ha hb
  have hi : i < m.length := by
    have := (List.getElem?_eq_some_iff.1 hb).1
    rwa [rotL_len] at this
  rw [rotL_get (by omega) (by omega), hl] at ha
  rw [rotL_get hk hi] at hb
  exact h _ a b ha hb
theorem rotL_flat {size : Nat} {rows : List (List Value)} (h : ∀ r ∈ rows, r.length = size) (k : Nat) : rows.flatten.drop (k * size) ++ rows.flatten.take (k * size) = (rotL k rows).flatten := by
  unfold rotL
  rw [flat_drop h, flat_take h, List.flatten_append]
theorem rotL_mem {α : Type} {k : Nat} {l : List α} {x : α} (h : x ∈ rotL k l) : x ∈ l := by
  rcases List.mem_append.1 h with h | h
  · exact List.mem_of_mem_drop h
  · exact List.mem_of_mem_take h
/-- The root's last kid gets another row of kids. -/
theorem RootD.turned {w : World} {P : Nat → Prop} {cs : List Value} {ks : List ByteArray} {kids0 : List Tree} {l l' : List Tree} {vn : Value} (h : RootD w P cs ks (kids0 ++ [seqT l]))
    (hv : ∀ g, (cs[3]?.getD undef).ownBlock = some g → ∃ rows : List (List Value), rows.length = l'.length ∧ RdS w vn 5 l'.length rows.flatten ∧ (l'.length ≠ 0 → vn.ownBlock ≠ some g) ∧ ∀ (i : Nat) (r : List Value) (x : Tree), rows[i]? = some r → l'[i]? = some x → NodeO w (fun b => b ≠ g) r x) :
    ∃ g, (cs[3]?.getD undef).ownBlock = some g ∧ NodeR (w.setCell ⟨g, kids0.length * 5 + 3, none⟩ vn) cs (mapT ks (kids0 ++ [seqT l'])) := by
  obtain ⟨ka, kc, ba, bc, base, rows, rfl, h2, h3, h4, h5, h6, h7, h8⟩ := h
  have hn : (kids0 ++ [seqT l]).length = kids0.length + 1 := by simp
  have hrl : rows.length = kids0.length + 1 := by rw [h5, hn]
  have hm : ∀ r ∈ rows, r.length = 5 := by
    intro r hr
    obtain ⟨i, hi, rfl⟩ := List.getElem_of_mem hr
    exact (h8 i _ _ (List.getElem?_eq_getElem hi) (List.getElem?_eq_getElem (by omega))).len
  obtain ⟨g, rfl⟩ : ∃ g, ba = some ⟨g, 0, none⟩ := by
    rcases h6.2 with ⟨he, hf⟩ | ⟨g, cap, cur, he, _⟩
    · exfalso
      rw [hn] at hf
      omega
    · simp only [Value.slice.injEq] at he
      exact ⟨g, he.1⟩
  obtain ⟨rows', v1, v2, v3, v4⟩ := hv g rfl
  refine ⟨g, rfl, ?_⟩
  have hot : ∀ j, j ≠ g → (w.setCell ⟨g, kids0.length * 5 + 3, none⟩ vn).heap[j]? = w.heap[j]? := fun j hj => Below.heap_setCell _ _ _ _ hj
  have hks : ∀ b, (Value.slice ka ks.length kc).ownBlock = some b → b ≠ g := by
    rintro b hb rfl
    obtain ⟨c1, e1⟩ := owns_block' h2 hb
    obtain ⟨c2, e2⟩ := owns_block' h6 (g := b) rfl
    rw [e1] at e2
    injection e2 with e2
    injection e2 with _ t2 _
    revert t2
    decide
  have h6' := owns_set1 h6 (q := kids0.length * 5 + 3) (by rw [hn]; omega) vn
  rw [flatten_setY hm (by omega) (by omega)] at h6'
  have hlast : NodeO w (fun b => P b ∧ b ≠ g) rows[kids0.length] (seqT l) := (h8 kids0.length _ _ (List.getElem?_eq_getElem (by omega)) (by simp)).keep (fun _ _ _ => rfl) (fun b hb => ⟨hb.1, fun e => hb.2 (by rw [e]; rfl)⟩)
  obtain ⟨qa, qc, pa, pc, hlc⟩ := hlast.cells
  generalize w.setCell ⟨g, kids0.length * 5 + 3, none⟩ vn = w' at *
  refine .mk (k := 3) (rows.set kids0.length ((rows[kids0.length]).set 3 vn)) (by decide) (by simp [ByteArray.size]) h4 (by decide) ((RdS.of_owns h2).keepB (fun b hb _ => hot b (hks b hb))) (by simp [hrl]) ?_ (fun i r x hr hx => ?_)
  · have := RdS.of_owns h6'
    rw [hn] at this ⊢
    simpa using this
  · rcases Nat.lt_trichotomy i kids0.length with hi | rfl | hi
    · rw [List.getElem?_set_ne (by omega)] at hr
      rw [List.getElem?_append_left hi] at hx
      exact ((h8 i r x hr (by rw [List.getElem?_append_left hi]; exact hx)).keep (Q := fun _ => True) (fun b hb _ => hot b (fun e => hb.2 (by rw [e]; rfl))) (fun _ _ => trivial)).toR
    · rw [List.getElem?_set_self (by omega)] at hr
      rw [List.getElem?_append_right (Nat.le_refl _), Nat.sub_self] at hx
      cases hr
      cases hx
      rw [hlc]
      have hnil : (seqT l).keys = [] := rfl
      have htx : (seqT l).text = { data := #[] } := rfl
      refine .mk (k := 2) (ks := []) (line := 0) rows' (by decide) (by show ByteArray.size { data := #[] } ≤ maxLen; decide) (by simp) (by decide) ?_ v1 (v2.keepN (fun hn0 b hb _ => hot b (fun e => v3 hn0 (by rw [hb, e])))) (fun i r x hr hx => ((v4 i r x hr hx).keep (Q := fun _ => True) (fun b hb _ => hot b hb) (fun _ _ => trivial)).toR)
      have hk2 := hlast.toR
      rw [hlc] at hk2
      obtain ⟨vk, vc, he, _, _, _, _, hq, _⟩ := NodeR.parts (k := 2) (t := { data := #[] }) (ks := []) (kids := l) (line := 0) hk2
      injection he with _ he
      injection he with _ he
      injection he with he _
      rw [← he] at hq
      have hqb := hq.keepN (w' := w') (fun hn0 => absurd rfl hn0)
      exact hqb
    · rw [List.getElem?_eq_none (by simp; omega)] at hx
      cases hx
/-- The root's last kid as it lies in memory. -/
theorem RootD.last {w : World} {P : Nat → Prop} {cs : List Value} {ks : List ByteArray} {kids0 : List Tree} {l : List Tree} (h : RootD w P cs ks (kids0 ++ [seqT l])) :
    ∃ (g bc : Nat) (pa : Option Addr) (pc : Nat) (rowsL : List (List Value)), cs[3]? = some (.slice (some ⟨g, 0, none⟩) (kids0.length + 1) bc) ∧ kids0.length + 1 ≤ bc ∧ bc ≤ 9223372036854775807 ∧ P g ∧ g < w.heap.size ∧ w.cell? ⟨g, kids0.length * 5 + 3, none⟩ = some (.slice pa l.length pc) ∧ w.frozen? ⟨g, kids0.length * 5 + 3, none⟩ = false ∧
      rowsL.length = l.length ∧ RdS w (.slice pa l.length pc) 5 l.length rowsL.flatten ∧ (l.length ≠ 0 → ∀ b, (Value.slice pa l.length pc).ownBlock = some b → P b ∧ b ≠ g) ∧ ∀ (i : Nat) (r : List Value) (x : Tree), rowsL[i]? = some r → l[i]? = some x → NodeO w (fun b => P b ∧ b ≠ g) r x := by
  obtain ⟨ka, kc, ba, bc, base, rows, rfl, h2, h3, h4, h5, h6, h7, h8⟩ := h
  have hn : (kids0 ++ [seqT l]).length = kids0.length + 1 := by simp
  have hrl : rows.length = kids0.length + 1 := by rw [h5, hn]
  have hm : ∀ r ∈ rows, r.length = 5 := by
    intro r hr
    obtain ⟨i, hi, rfl⟩ := List.getElem_of_mem hr
    exact (h8 i _ _ (List.getElem?_eq_getElem hi) (List.getElem?_eq_getElem (by omega))).len
  have hlast : NodeO w (fun b => P b ∧ (Value.slice ba (kids0 ++ [seqT l]).length bc).ownBlock ≠ some b) rows[kids0.length] (seqT l) := h8 kids0.length _ _ (List.getElem?_eq_getElem (by omega)) (by simp)
  obtain ⟨g, rfl, hbc, hbm, hlt, hfz⟩ : ∃ g, ba = some ⟨g, 0, none⟩ ∧ kids0.length + 1 ≤ bc ∧ bc ≤ 9223372036854775807 ∧ g < w.heap.size ∧ w.frozen? ⟨g, kids0.length * 5 + 3, none⟩ = false := by
    rcases h6.2 with ⟨he, hf⟩ | ⟨g, cap, cur, he, _, hg, hnc, hcm, _⟩
    · exfalso
      rw [hn] at hf
      omega
    · simp only [Value.slice.injEq] at he
      obtain ⟨e1, _, rfl⟩ := he
      unfold maxLen at hcm
      exact ⟨g, e1, by omega, hcm, (Array.getElem?_eq_some_iff.1 hg).1, by simp [World.frozen?, hg]⟩
  have hcell : w.cell? ⟨g, kids0.length * 5 + 3, none⟩ = rows[kids0.length][3]? := by
    have hf := (flatten_get hm).2 kids0.length _ (List.getElem?_eq_getElem (by omega)) 3 (by omega)
    have hl5 : rows[kids0.length].length = 5 := hlast.len
    have h3' : rows[kids0.length][3]? = some (rows[kids0.length][3]) := List.getElem?_eq_getElem (by omega)
    rw [h3'] at hf ⊢
    have := h6.cells (g := g) rfl _ _ hf
    simpa [Addr.add_lit] using this
  have hnot : ∀ b, (P b ∧ (Value.slice (some ⟨g, 0, none⟩) (kids0 ++ [seqT l]).length bc).ownBlock ≠ some b) → (P b ∧ b ≠ g) := fun b hb => ⟨hb.1, fun e => hb.2 (by rw [e]; rfl)⟩
  generalize rows[kids0.length] = rl at *
  unfold seqT at hlast
  cases hlast with
  | mk rowsL q1 q2 q3 q4 q5 q6 q7 q8 q9 q10 =>
    rename_i vk vc
    obtain ⟨_, pa, pc, rfl, _⟩ := id q7
    exact ⟨g, bc, pa, pc, rowsL, by rw [← hn]; rfl, hbc, hbm, h7 g rfl, hlt, hcell, hfz, q6, q7, fun hn0 b hb => hnot b (q9 hn0 b hb), fun i r x hr hx => (q10 i r x hr hx).keep (fun _ _ _ => rfl) (fun b hb => hnot b hb)⟩
theorem SmallS.norm {s : StepD} (h : SmallS s) : SmallS (normS s) := by
  refine ⟨h.name, h.action, h.undo, h.after, ?_, h.aft⟩
  show SmallP 18 (if hasNote s then s.note else zeroTree)
  split
  · exact h.note
  · exact (small_of (by decide +kernel)).1
theorem SmallD.norm {d : DefD} (h : SmallD d) : SmallD (normD d) := by
  refine ⟨h.name, h.text, by show (d.steps.map normS).length ≤ 30; rw [List.length_map]; exact h.steps, fun s hs => ?_⟩
  obtain ⟨s0, hs0, rfl⟩ := List.mem_map.1 hs
  exact (h.each s0 hs0).norm
end Go.Proofs.Ytgafjjgnbcjmpaa
