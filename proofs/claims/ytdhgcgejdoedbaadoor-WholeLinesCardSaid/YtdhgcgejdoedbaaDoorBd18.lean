/-
  block.each: the iterator over a tree's nodes: its contract.
-/
import Derived.Sort.LoopGhostIn
import Derived.Deep.Slices
import Derived.Laws.EntriesVeiled
import Derived.StillTailTactics
import Derived.Test.YtdhgcgejdoedbaaDoorBd3
import Derived.Test.YtdhgcgejdoedbaaDoorBd4
import Derived.Test.YtdhgcgejdoedbaaDoorBd14
import Derived.Test.YtdhgcgejdoedbaaDoorBd16
namespace Go.Proofs.YtdhgcgejdoedbaaDoor
open Go Go.RowKit Go.WideShapes
attribute [local go_sem] Oper.semAt_some wide_fn wide_depth wide_fn' wide_depth'

abbrev Item := Nat × List Value × Tree
def encE (x : Item) : Array Value := #[.int .i64 (x.1 : Int), .agg x.2.1.toArray]

/-- The items of a tree, down to a level, as they come. -/
inductive PreC (w : World) (most : Nat) : Nat → List Value → Tree → List Item → Prop
  | out {lev : Nat} {cs : List Value} {x : Tree} (h : most < lev) : PreC w most lev cs x []
  | node {lev k : Nat} {t : ByteArray} {ks : List ByteArray} {kids : List Tree} {ln : Int} {ka ba : Option Addr} {kc bc : Nat} (h : lev ≤ most) (rows : List (List Value)) (its : List (List Item))
      (hl : rows.length = kids.length) (hi : its.length = kids.length) (hc : RdS w (.slice ba kids.length bc) 5 kids.length rows.flatten)
      (hn : ∀ (i : Nat) (r : List Value) (x : Tree), rows[i]? = some r → kids[i]? = some x → NodeR w r x)
      (hr : ∀ (i : Nat) (r : List Value) (x : Tree) (it : List Item), rows[i]? = some r → kids[i]? = some x → its[i]? = some it → PreC w most (lev + 1) r x it) :
      PreC w most lev [.int .u8 (k : Int), .string t, .slice ka ks.length kc, .slice ba kids.length bc, .int .i64 ln] (.mk k t ks kids ln)
        ((lev, [.int .u8 (k : Int), .string t, .slice ka ks.length kc, .slice ba kids.length bc, .int .i64 ln], .mk k t ks kids ln) :: its.flatten)

theorem PreC.inv {w : World} {most lev : Nat} {cs : List Value} {x : Tree} {its : List Item} (h : PreC w most lev cs x its) : (most < lev ∧ its = []) ∨
    ∃ (ka : Option Addr) (kc : Nat) (ba : Option Addr) (bc : Nat) (rows : List (List Value)) (itss : List (List Item)), lev ≤ most ∧ cs = [.int .u8 (x.kind : Int), .string x.text, .slice ka x.keys.length kc, .slice ba x.kids.length bc, .int .i64 x.line] ∧ its = (lev, cs, x) :: List.flatten itss ∧ rows.length = x.kids.length ∧ itss.length = x.kids.length ∧ RdS w (.slice ba x.kids.length bc) 5 x.kids.length rows.flatten ∧
      (∀ (i : Nat) (r : List Value) (y : Tree), rows[i]? = some r → x.kids[i]? = some y → NodeR w r y) ∧ (∀ (i : Nat) (r : List Value) (y : Tree) (it : List Item), rows[i]? = some r → x.kids[i]? = some y → itss[i]? = some it → PreC w most (lev + 1) r y it) := by
  cases h with
  | out h => exact .inl ⟨h, rfl⟩
  | node h rows its hl hi hc hn hr => exact .inr ⟨_, _, _, _, rows, its, h, rfl, rfl, hl, hi, hc, hn, hr⟩
theorem preTs_flat (most lev : Nat) (l : List Tree) : preTs most lev l = (l.map (preT most lev)).flatten := by
  induction l with
  | nil => rfl
  | cons a l ih => simp [preTs, ih]

theorem preC_some (w : World) (most : Nat) : ∀ (x : Tree) (lev : Nat) (cs : List Value), NodeR w cs x → ∃ its, PreC w most lev cs x its ∧ its.map (fun i => (i.1, i.2.2)) = preT most lev x ∧ ∀ i ∈ its, NodeR w i.2.1 i.2.2 := by
  refine Tree.ind fun k t ks kids ln ih lev cs h => ?_
  by_cases hlev : most < lev
  · exact ⟨[], .out hlev, by simp [preT, hlev], by simp⟩
  have h0 := h
  obtain ⟨vk, vc, rfl, _, _, _, _, hk1, rows, hl, hc, hn⟩ := h.parts
  have hx : ∀ i, i < kids.length → ∃ it : List Item, ∀ (r : List Value) (x : Tree), rows[i]? = some r → kids[i]? = some x → PreC w most (lev + 1) r x it ∧ it.map (fun i => (i.1, i.2.2)) = preT most (lev + 1) x ∧ ∀ i ∈ it, NodeR w i.2.1 i.2.2 := fun i hi => by
    obtain ⟨it, h1, h2⟩ := ih kids[i] (List.getElem_mem hi) (lev + 1) (rows[i]'(by omega)) (hn i _ _ (List.getElem?_eq_getElem (by omega)) (List.getElem?_eq_getElem hi))
    refine ⟨it, fun r x hr hx => ?_⟩
    rw [List.getElem?_eq_getElem (by omega)] at hr
    rw [List.getElem?_eq_getElem hi] at hx
    cases hr; cases hx
    exact ⟨h1, h2⟩
  obtain ⟨g, hg⟩ := Go.Deep.choose_lt hx
  obtain ⟨ka, kc, rfl⟩ := hk1.form
  obtain ⟨_, ba, bc, rfl, _⟩ := id hc
  have hgi : ∀ (i : Nat) (it : List Item), ((List.range kids.length).map g)[i]? = some it → i < kids.length ∧ it = g i := fun i it h => by
    rw [List.getElem?_map] at h
    obtain ⟨j, hj, rfl⟩ := Option.map_eq_some_iff.1 h
    obtain ⟨h1, h2⟩ := List.getElem?_eq_some_iff.1 hj
    simp at h2 h1; subst h2; exact ⟨h1, rfl⟩
  refine ⟨_, .node (by omega) rows ((List.range kids.length).map g) hl (by simp) hc hn (fun i r x it hr hx hit => ?_), ?_, ?_⟩
  · obtain ⟨h1, rfl⟩ := hgi i it hit
    exact (hg i h1 r x hr hx).1
  · rw [preT, if_neg hlev, List.map_cons, preTs_flat, List.map_flatten, List.map_map]
    congr 2
    apply List.ext_getElem (by simp)
    intro i h1 h2
    simp only [List.getElem_map, List.getElem_range, Function.comp]
    simp at h2
    exact (hg i h2 _ _ (List.getElem?_eq_getElem (by omega)) (List.getElem?_eq_getElem h2)).2.1
  · intro i hi
    rcases List.mem_cons.1 hi with rfl | hi
    · exact h0
    · obtain ⟨it, hit, hii⟩ := List.mem_flatten.1 hi
      obtain ⟨j, hj, rfl⟩ := List.mem_map.1 hit
      have hj' := List.mem_range.1 hj
      exact (hg j hj' _ _ (List.getElem?_eq_getElem (by omega)) (List.getElem?_eq_getElem hj')).2.2 i hii

/-- The node at a place, by its row. -/
theorem rows_at {w : World} {a : Option Addr} {cap : Nat} {kids : List Tree} {rows : List (List Value)} (hl : rows.length = kids.length) (hc : RdS w (.slice a kids.length cap) 5 kids.length rows.flatten)
    (hn : ∀ (i : Nat) (r : List Value) (x : Tree), rows[i]? = some r → kids[i]? = some x → NodeR w r x) {i : Nat} (hi : i < kids.length) :
    ∃ g off k t ka kn kc ba bn bc ln, a = some ⟨g, off, none⟩ ∧ kids.length ≤ cap ∧ cap ≤ 9223372036854775807 ∧ rows[i]? = some [.int .u8 k, .string t, .slice ka kn kc, .slice ba bn bc, .int .i64 ln] ∧
      w.cell? ⟨g, off + i * 5, none⟩ = some (.int .u8 k) ∧ w.cell? ⟨g, off + i * 5 + 1, none⟩ = some (.string t) ∧ w.cell? ⟨g, off + i * 5 + 2, none⟩ = some (.slice ka kn kc) ∧ w.cell? ⟨g, off + i * 5 + 3, none⟩ = some (.slice ba bn bc) ∧ w.cell? ⟨g, off + i * 5 + 4, none⟩ = some (.int .i64 ln) := by
  have hri : i < rows.length := by omega
  have hnn := hn i _ _ (List.getElem?_eq_getElem hri) (List.getElem?_eq_getElem hi)
  have hm : ∀ r ∈ rows, r.length = 5 := by
    intro r hr
    obtain ⟨j, hj, rfl⟩ := List.getElem_of_mem hr
    exact (hn j _ _ (List.getElem?_eq_getElem hj) (List.getElem?_eq_getElem (by omega))).len
  have hf := (flatten_get hm).2 i _ (List.getElem?_eq_getElem hri)
  obtain ⟨ka, kc, ba, bc, hrow⟩ := hnn.cells
  rw [hrow] at hf
  rcases hc.cases (by decide) with ⟨h0, _⟩ | ⟨hn0, _, g, off, cap', he, q1, q2, q3⟩
  · omega
  · injection he with e1 e2 e3
    subst e1 e3
    have gg : ∀ j c, j < 5 → [.int .u8 (kids[i].kind : Int), .string kids[i].text, .slice ka kids[i].keys.length kc, .slice ba kids[i].kids.length bc, .int .i64 kids[i].line][j]? = some c → w.cell? ⟨g, off + i * 5 + j, none⟩ = some c := fun j c hj hc => by
      rw [Nat.add_assoc]; exact q3 _ _ ((hf j hj).trans hc)
    exact ⟨g, off, _, _, ka, _, kc, ba, _, bc, _, rfl, q1, q2, by rw [List.getElem?_eq_getElem hri, hrow], gg 0 _ (by omega) rfl, gg 1 _ (by omega) rfl, gg 2 _ (by omega) rfl, gg 3 _ (by omega) rfl, gg 4 _ (by omega) rfl⟩

theorem cells5B {W : World} {B : Nat} {a b c d e : Value} {t : TypeId} (h : W.heap[B]? = some (.cells #[a, b, c, d, e] t (0, 0))) : W.cell? ⟨B, 0, none⟩ = some a ∧ W.cell? ⟨B, 1, none⟩ = some b ∧ W.cell? ⟨B, 2, none⟩ = some c ∧ W.cell? ⟨B, 3, none⟩ = some d ∧ W.cell? ⟨B, 4, none⟩ = some e := cells5 h
theorem Keep.mono {n0 : Nat} {S S' : Nat → Prop} {A B : World} (h : Keep n0 S' A B) (hs : ∀ k, S k → S' k) : Keep n0 S A B := ⟨h.below, fun k hk => h.same k (hs k hk)⟩
theorem flat_snoc {its : List (List Item)} {j : Nat} (hj : j < its.length) : (its.take (j + 1)).flatten = (its.take j).flatten ++ its[j] := by
  rw [List.take_succ_eq_append_getElem hj, List.flatten_append]; simp
theorem flat_prefix (its : List (List Item)) (j : Nat) : (its.take j).flatten <+: its.flatten := by
  conv => rhs; rw [← List.take_append_drop j its, List.flatten_append]
  exact List.prefix_append _ _

def downPost (n0 : Nat) (J Jx : (Nat → Prop) → List Item → World → Prop) (xs : List Item) (S : Nat → Prop) (all : List Item) (W : World) (e : Ending) (W' : World) : Prop :=
  ∃ S' : Nat → Prop, (∀ k, S k → S' k) ∧ (∀ k, S' k → n0 ≤ k ∧ k < W'.heap.size) ∧ Keep n0 S W W' ∧ W.heap.size ≤ W'.heap.size ∧
    ((e = .returned (.bool true) ∧ J S' all W') ∨ (e = .returned (.bool false) ∧ ∃ pre', pre' <+: xs ∧ Jx S' pre' W'))

end Go.Proofs.YtdhgcgejdoedbaaDoor

/-
  block.Depth, block.keys, block.odd: contracts.
-/
namespace Go.Proofs.YtdhgcgejdoedbaaDoor
open Go Go.RowKit Go.WideShapes
attribute [local go_sem] Oper.semAt_some wide_fn wide_depth wide_fn' wide_depth'

def levs (l : List Item) : List (Nat × Tree) := l.map fun i => (i.1, i.2.2)
theorem levs_snoc (l : List Item) (x : Item) : levs (l ++ [x]) = levs l ++ [(x.1, x.2.2)] := by simp [levs]

theorem strsV_take (l : List ByteArray) (n : Nat) : (strsV l).take n = strsV (l.take n) := by simp [strsV, List.map_take]
theorem rds_takeS {W : World} {a : Option Addr} {c n : Nat} {l : List ByteArray} (h : RdS W (.slice a l.length c) 1 l.length (strsV l)) (hn : n ≤ l.length) : RdS W (.slice a n c) 1 (l.take n).length (strsV (l.take n)) := by
  obtain ⟨h1, a', c', he, h3, h4, h5⟩ := h
  injection he with e1 e2 e3
  subst e1 e3
  have hl : (l.take n).length = n := by rw [List.length_take]; omega
  rw [hl]
  refine ⟨by rw [strsV_length, hl, Nat.mul_one], a, c, rfl, by omega, h4, ?_⟩
  rcases h5 with h5 | ⟨g, off, rfl, hc⟩
  · left; rw [← strsV_take, h5]; simp
  · exact .inr ⟨g, off, rfl, fun i x hi => hc i x (by
      rw [← strsV_take, List.getElem?_take] at hi
      split at hi
      · exact hi
      · cases hi)⟩
theorem keysE_get {l : List ByteArray} {k : Nat} (hk : k < l.length) : (keysE l).length = l.length ∧ (keysE l)[k]? = some (keyC l k l[k]) := by simp [keysE, hk]
theorem keysC_stop {l : List ByteArray} {k : Nat} (hk : k < l.length) (h0 : firstNZ ((keysE l).take k) = 0) (h1 : keyC l k l[k] ≠ 0) : keysC l = keyC l k l[k] := by
  obtain ⟨h2, h3⟩ := keysE_get hk
  have h4 : (keysE l)[k]'(by omega) = keyC l k l[k] := by rw [List.getElem?_eq_getElem (by omega)] at h3; simpa using h3
  unfold keysC
  rw [firstNZ_stop (by omega) h0 (by rw [h4]; exact h1), h4]
theorem keysC_go {l : List ByteArray} {k : Nat} (hk : k < l.length) (h0 : firstNZ ((keysE l).take k) = 0) (h1 : keyC l k l[k] = 0) : firstNZ ((keysE l).take (k + 1)) = 0 := by
  obtain ⟨h2, h3⟩ := keysE_get hk
  have h4 : (keysE l)[k]'(by omega) = keyC l k l[k] := by rw [List.getElem?_eq_getElem (by omega)] at h3; simpa using h3
  exact firstNZ_go (by omega) h0 (by rw [h4]; exact h1)
theorem checkN_cases (l : List Nat) (most : Int) : checkN l most = 2 ∨ checkN l most = 0 ∨ checkN l most = 9 := by
  unfold checkN; split
  · exact .inl rfl
  · split
    · exact .inr (.inl rfl)
    · exact .inr (.inr rfl)

theorem toList_nil (s : ByteArray) : s.toList = [] ↔ s.size = 0 := by
  rw [Lib.toList_data]
  have h : s.data.toList.length = s.size := Array.length_toList
  constructor
  · intro hn; rw [hn] at h; exact h.symm
  · intro h0; exact List.eq_nil_of_length_eq_zero (by omega)
end Go.Proofs.YtdhgcgejdoedbaaDoor

/-
  block.Check: contract.
-/
namespace Go.Proofs.YtdhgcgejdoedbaaDoor
open Go Go.RowKit Go.WideShapes
attribute [local go_sem] Oper.semAt_some wide_fn wide_depth wide_fn' wide_depth'

def codes (l : List Item) : List Int := (levs l).map fun p => nodeC p.1 p.2
theorem codes_snoc (l : List Item) (x : Item) : codes (l ++ [x]) = codes l ++ [nodeC x.1 x.2.2] := by simp [codes, levs]
theorem preT_mem {Q : Tree → Prop} (hQ : ∀ x y, Q x → y ∈ x.kids → Q y) (most : Nat) : ∀ t lev, Q t → ∀ p ∈ preT most lev t, Q p.2 := by
  refine Tree.ind fun k t ks kids l ih lev hq p hp => ?_
  rw [preT] at hp
  split at hp
  · simp at hp
  · rcases List.mem_cons.1 hp with rfl | hp
    · exact hq
    · have : ∀ m : List Tree, (∀ x ∈ m, x ∈ kids) → p ∈ preTs most (lev + 1) m → Q p.2 := by
        intro m hm
        induction m with
        | nil => intro h; simp [preTs] at h
        | cons a m ihm =>
          intro h
          rw [preTs] at h
          rcases List.mem_append.1 h with h | h
          · exact ih a (hm a (List.mem_cons_self ..)) (lev + 1) (hQ _ a hq (hm a (List.mem_cons_self ..))) p h
          · exact ihm (fun x hx => hm x (List.mem_cons_of_mem _ hx)) h
      exact this kids (fun x hx => hx) hp
theorem small_hered : ∀ x y : Tree, (∃ n, SmallP n x) → y ∈ x.kids → ∃ n, SmallP n y := by
  rintro ⟨k, t, ks, kids, l⟩ y ⟨n, hn⟩ hy
  obtain ⟨m, _, _, _, _, h, _⟩ := hn.parts
  exact ⟨m, h y hy⟩

theorem codes_go {pre : List Item} {x : Item} (h0 : firstNZ (codes pre) = 0) (h : nodeC x.1 x.2.2 = 0) : firstNZ (codes (pre ++ [x])) = 0 := by
  rw [codes_snoc, firstNZ_append, if_pos h0, h]; rfl
theorem codes_stop {pre its : List Item} {x : Item} (h0 : firstNZ (codes pre) = 0) (hp : pre ++ [x] <+: its) (h : nodeC x.1 x.2.2 ≠ 0) : firstNZ (codes its) = nodeC x.1 x.2.2 := by
  obtain ⟨r, rfl⟩ := hp
  have e : codes (pre ++ [x] ++ r) = codes pre ++ (nodeC x.1 x.2.2 :: codes r) := by simp [codes, levs]
  rw [e, firstNZ_append, if_pos h0, firstNZ, if_neg h]

def ckJ (w : World) (S : Nat → Prop) (pre : List Item) (W : World) : Prop := firstNZ (codes pre) = 0 ∧ Boxed W (w.heap.size + 1) 25 (.int .i64 0) ∧ ¬ S (w.heap.size + 1) ∧ Below w.heap.size w W
def ckX (w : World) (its : List Item) (c : Code) (S : Nat → Prop) (_ : List Item) (W : World) : Prop := c = .ret ∧ Boxed W (w.heap.size + 1) 25 (.int .i64 (firstNZ (codes its))) ∧ ¬ S (w.heap.size + 1) ∧ Below w.heap.size w W

end Go.Proofs.YtdhgcgejdoedbaaDoor

/-
  rescriptref20: has, check, Check, Size; rescriptref21.None: contracts.
-/
namespace Go.Proofs.YtdhgcgejdoedbaaDoor
open Go Go.RowKit Go.WideShapes

theorem odd_no {k : Nat} {t : ByteArray} {ks : List ByteArray} {kids : List Tree} {ln : Int} (h : oddT (.mk k t ks kids ln) = false) (h1 : 1 ≤ k) (h3 : k ≤ 3) :
    (k = 1 ∧ ks.length = 0 ∧ kids.length = 0) ∨ (k = 2 ∧ t.size = 0 ∧ ks.length = 0) ∨ (k = 3 ∧ t.size = 0 ∧ ks.length = kids.length) := by
  rw [oddT] at h
  split at h
  · simp only [decide_eq_false_iff_not] at h; omega
  · split at h <;> rw [Bool.or_eq_false_iff, decide_eq_false_iff_not, decide_eq_false_iff_not] at h <;> omega
theorem odd_yes {k : Nat} {t : ByteArray} {ks : List ByteArray} {kids : List Tree} {ln : Int} (h : oddT (.mk k t ks kids ln) = true) (h1 : 1 ≤ k) (h3 : k ≤ 3) :
    (k = 1 ∧ 0 < kids.length) ∨ (k = 1 ∧ kids.length = 0 ∧ 0 < ks.length) ∨ (k = 2 ∧ t.size ≠ 0) ∨ (k = 2 ∧ t.size = 0 ∧ 0 < ks.length) ∨ (k = 3 ∧ t.size ≠ 0) ∨ (k = 3 ∧ t.size = 0 ∧ ks.length ≠ kids.length) := by
  rw [oddT] at h
  split at h
  · simp only [decide_eq_true_eq] at h; omega
  · split at h <;> rw [Bool.or_eq_true, decide_eq_true_eq, decide_eq_true_eq] at h <;> omega
theorem kind_dec {k : Nat} (n : Nat) (h : k = n) (m : Nat) : (((k : Int) != (m : Int)) = decide (n ≠ m)) ∧ (((k : Int) == (m : Int)) = decide (n = m)) := by
  subst h
  by_cases hm : k = m
  · subst hm; simp
  · have : (k : Int) ≠ (m : Int) := by omega
    simp [hm, this]
theorem kind_decs {k n : Nat} (h : k = n) : ((((k : Int) != 1) = decide (n ≠ 1)) ∧ (((k : Int) == 1) = decide (n = 1))) ∧ ((((k : Int) != 3) = decide (n ≠ 3)) ∧ (((k : Int) == 3) = decide (n = 3))) := ⟨kind_dec n h 1, kind_dec n h 3⟩

theorem sizeD_snoc {n : Nat} {kids : List Tree} {j : Nat} (hj : j < kids.length) : depthTs n (kids.take (j + 1)) = max (depthTs n (kids.take j)) (depthT n kids[j]) ∧ countTs n (kids.take (j + 1)) = countTs n (kids.take j) + countT n kids[j] := by
  have key : ∀ (a : List Tree) (x : Tree), depthTs n (a ++ [x]) = max (depthTs n a) (depthT n x) ∧ countTs n (a ++ [x]) = countTs n a + countT n x := by
    intro a x
    induction a with
    | nil => simp [depthTs, countTs]
    | cons b a ih => simp only [List.cons_append, depthTs, countTs, ih.1, ih.2]; omega
  rw [List.take_succ_eq_append_getElem hj]
  exact key _ _
theorem depthT_le : ∀ t n, depthT n t ≤ n := by
  refine Tree.ind fun k t ks kids l ih n => ?_
  cases n with
  | zero => simp [depthT]
  | succ n =>
    rw [depthT]
    have : ∀ m : List Tree, (∀ x ∈ m, x ∈ kids) → depthTs n m ≤ n := by
      intro m hm
      induction m with
      | nil => simp [depthTs]
      | cons a m ihm =>
        rw [depthTs]
        have := ih a (hm a (List.mem_cons_self ..)) n
        have := ihm (fun x hx => hm x (List.mem_cons_of_mem _ hx))
        omega
    have := this kids (fun x hx => hx)
    omega
theorem depthTs_le (l : List Tree) (n : Nat) : depthTs n l ≤ n := by
  induction l with
  | nil => simp [depthTs]
  | cons a l ih => rw [depthTs]; have := depthT_le a n; omega

/-- Is it no note? -/
def noneT (x : Tree) : Bool := decide (x.kind = 0) && decide (x.text.size = 0) && decide (x.keys.length = 0) && decide (x.kids.length = 0)
end Go.Proofs.YtdhgcgejdoedbaaDoor

/-
  def: note, texts, fits: contracts; what is wrong with a step and a definition (plain).
-/
namespace Go.Proofs.YtdhgcgejdoedbaaDoor
open Go Go.RowKit Go.WideShapes

def c64 (s : ByteArray) : Int := checkN (bsN s) 64
def textsC (l : List ByteArray) : Int := firstNZ (l.map c64)
def fitsB (l : List Int) : Bool := l.all fun x => decide (0 ≤ x) && decide (x ≤ 999999999)
def stepC (s : StepD) : Int :=
  if textsC [s.name, s.action, s.undo] ≠ 0 then textsC [s.name, s.action, s.undo]
  else if 64 < s.after.length then 2
  else if textsC s.after ≠ 0 then textsC s.after
  else if fitsB [s.most, s.first, s.factor, s.limit] = false then 1
  else if noneT s.note then 0
  else if checkT s.note ≠ 0 then checkT s.note
  else if 13 < depthT 18 s.note then 11 else 0
/-- What is wrong with steps, and with which: the first, counted from 1. -/
def stepsC : List StepD → Nat → Int × Int
  | [], _ => (0, 0)
  | s :: l, i => if stepC s = 0 then stepsC l (i + 1) else (stepC s, (i : Int) + 1)
def defC (d : DefD) : Int × Int :=
  if c64 d.name ≠ 0 then (c64 d.name, 0)
  else if checkN (bsN d.text) 4096 ≠ 0 then (checkN (bsN d.text) 4096, 0)
  else if 1024 < d.steps.length then (2, 0)
  else stepsC d.steps 0
theorem stepsC_go {l : List StepD} {k : Nat} : ∀ {i : Nat}, (∀ s ∈ l.take k, stepC s = 0) → stepsC l i = stepsC (l.drop k) (i + k) := by
  induction k generalizing l with
  | zero => intro i _; simp
  | succ k ih =>
    intro i h
    cases l with
    | nil => simp [stepsC]
    | cons a l =>
      rw [stepsC, if_pos (h a (by simp)), List.drop_succ_cons, ih (fun s hs => h s (by simp [hs]))]
      congr 1; omega
theorem stepsC_stop {l : List StepD} {k : Nat} (hk : k < l.length) (h : ∀ s ∈ l.take k, stepC s = 0) (h1 : stepC l[k] ≠ 0) : stepsC l 0 = (stepC l[k], (k : Int) + 1) := by
  rw [stepsC_go (k := k) h, List.drop_eq_getElem_cons hk, stepsC, if_neg h1]; simp
theorem stepsC_all {l : List StepD} (h : ∀ s ∈ l, stepC s = 0) : stepsC l 0 = (0, 0) := by
  rw [stepsC_go (k := l.length) (by simpa using h)]; simp [stepsC]
theorem take_all {α : Type} {p : α → Prop} {l : List α} {k : Nat} (hk : k < l.length) (h : ∀ s ∈ l.take k, p s) (h1 : p l[k]) : ∀ s ∈ l.take (k + 1), p s := by
  rw [List.take_succ_eq_append_getElem hk]
  intro s hs
  rcases List.mem_append.1 hs with hs | hs
  · exact h s hs
  · rw [List.mem_singleton.1 hs]; exact h1
theorem textsC_stop {l : List ByteArray} {k : Nat} (hk : k < l.length) (h0 : firstNZ ((l.map c64).take k) = 0) (h1 : c64 l[k] ≠ 0) : textsC l = c64 l[k] := by
  have e : (l.map c64)[k]'(by simpa using hk) = c64 l[k] := by simp
  unfold textsC
  rw [firstNZ_stop (by simpa using hk) h0 (by rw [e]; exact h1), e]
theorem textsC_go {l : List ByteArray} {k : Nat} (hk : k < l.length) (h0 : firstNZ ((l.map c64).take k) = 0) (h1 : c64 l[k] = 0) : firstNZ ((l.map c64).take (k + 1)) = 0 :=
  firstNZ_go (by simpa using hk) h0 (by simpa using h1)
theorem textsC_all {l : List ByteArray} {k : Nat} (hk : ¬ k < l.length) (h0 : firstNZ ((l.map c64).take k) = 0) : textsC l = 0 := by
  rwa [List.take_of_length_le (by simp; omega)] at h0

theorem ints64_at {w : World} {a : Option Addr} {cap : Nat} {l : List Int} (h : RdS w (.slice a l.length cap) 1 l.length (ints .i64 l)) {i : Nat} (hi : i < l.length) :
    ∃ g off, a = some ⟨g, off, none⟩ ∧ l.length ≤ cap ∧ cap ≤ 9223372036854775807 ∧ w.cell? ⟨g, off + i, none⟩ = some (.int .i64 l[i]) := by
  rcases h.cases (by decide) with ⟨h0, _⟩ | ⟨hn, _, g, off, cap', hq, q1, q2, q3⟩
  · omega
  · injection hq with e1 e2 e3
    subst e1 e3
    exact ⟨g, off, rfl, q1, q2, q3 i _ (by simp [ints, hi])⟩
/-- The least (or greatest) of some: one of them, and no other is beyond it. -/
def leastOf (l : List Int) (m : Int) : Prop := m ∈ l ∧ ∀ x ∈ l, m ≤ x
def mostOf (l : List Int) (m : Int) : Prop := m ∈ l ∧ ∀ x ∈ l, x ≤ m
theorem leastOf_go {l : List Int} {k : Nat} {m : Int} (hk : k < l.length) (h : leastOf (l.take k) m) : leastOf (l.take (k + 1)) (min m l[k]) := by
  rw [List.take_succ_eq_append_getElem hk]
  refine ⟨?_, fun x hx => ?_⟩
  · rcases Int.le_total m l[k] with h1 | h1
    · rw [Int.min_eq_left h1]; exact List.mem_append_left _ h.1
    · rw [Int.min_eq_right h1]; exact List.mem_append_right _ (List.mem_singleton.2 rfl)
  · rcases List.mem_append.1 hx with hx | hx
    · have := h.2 x hx; omega
    · rw [List.mem_singleton.1 hx]; omega
theorem mostOf_go {l : List Int} {k : Nat} {m : Int} (hk : k < l.length) (h : mostOf (l.take k) m) : mostOf (l.take (k + 1)) (max m l[k]) := by
  rw [List.take_succ_eq_append_getElem hk]
  refine ⟨?_, fun x hx => ?_⟩
  · rcases Int.le_total m l[k] with h1 | h1
    · rw [Int.max_eq_right h1]; exact List.mem_append_right _ (List.mem_singleton.2 rfl)
    · rw [Int.max_eq_left h1]; exact List.mem_append_left _ h.1
  · rcases List.mem_append.1 hx with hx | hx
    · have := h.2 x hx; omega
    · rw [List.mem_singleton.1 hx]; omega

theorem fitsB_of {l : List Int} {a b : Int} (ha : leastOf l a) (hb : mostOf l b) : fitsB l = (decide (0 ≤ a) && decide (b ≤ 999999999)) := by
  rw [Bool.eq_iff_iff]
  simp only [fitsB, List.all_eq_true, Bool.and_eq_true, decide_eq_true_eq]
  constructor
  · intro h; exact ⟨(h a ha.1).1, (h b hb.1).2⟩
  · rintro ⟨h1, h2⟩ x hx
    have := ha.2 x hx; have := hb.2 x hx; omega
theorem noneT_same (x : Tree) : sameT x (.mk 0 { data := #[] } [] [] 0) = noneT x := by
  obtain ⟨k, t, ks, kids, l⟩ := x
  unfold noneT
  rw [sameT]
  dsimp only [Tree.kind, Tree.text, Tree.keys, Tree.kids]
  have h1 : decide (t = { data := #[] }) = decide (t.size = 0) := by
    rw [Bool.eq_iff_iff, decide_eq_true_eq, decide_eq_true_eq]
    constructor
    · rintro rfl; rfl
    · intro h; have := (toList_nil t).2 h; rw [Lib.toList_data] at this
      exact bytes_inj (by rw [this])
  have h2 : decide (ks = []) = decide (ks.length = 0) := by
    rw [Bool.eq_iff_iff, decide_eq_true_eq, decide_eq_true_eq]; exact ⟨fun h => by rw [h]; rfl, List.eq_nil_of_length_eq_zero⟩
  have h3 : sameTs kids [] = decide (kids.length = 0) := by
    cases kids with
    | nil => rfl
    | cons a l => rfl
  rw [h1, h2, h3]; rfl
end Go.Proofs.YtdhgcgejdoedbaaDoor
