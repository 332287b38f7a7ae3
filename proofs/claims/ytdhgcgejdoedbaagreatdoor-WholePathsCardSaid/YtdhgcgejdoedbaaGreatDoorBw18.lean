/-
  block.each: the iterator over a tree's nodes: its contract.
-/
import Derived.Sort.LoopGhostIn
import Derived.Deep.Slices
import Derived.Laws.EntriesVeiled
import Derived.StillTailTactics
import Derived.Test.YtdhgcgejdoedbaaGreatDoorBw3
import Derived.Test.YtdhgcgejdoedbaaGreatDoorBw4
import Derived.Test.YtdhgcgejdoedbaaGreatDoorBw14
import Derived.Test.YtdhgcgejdoedbaaGreatDoorBw16
namespace Go.Proofs.YtdhgcgejdoedbaaGreatDoor
open Go Go.RowKit Go.WideShapes
attribute [local go_sem] Oper.semAt_some wide_fn wide_depth wide_fn' wide_depth'

abbrev Item := Nat × List Value × Tree
def encE (x : Item) : Array Value := #[.int .i64 (x.1 : Int), .agg x.2.1.toArray]

inductive PreC (w : World) (most : Nat) : Nat → List Value → Tree → List Item → Prop
  | out {lev : Nat} {cs : List Value} {x : Tree} (h : most < lev) : PreC w most lev cs x []
  | node {lev k : Nat} {t : ByteArray} {ks : List ByteArray} {kids : List Tree} {ln : Int} {ka ba : Option Addr} {kc bc : Nat} (h : lev ≤ most) (rows : List (List Value)) (its : List (List Item))
      (hl : rows.length = kids.length) (hi : its.length = kids.length) (hc : RdS w (.slice ba kids.length bc) 5 kids.length rows.flatten)
      (hn : ∀ (i : Nat) (r : List Value) (x : Tree), rows[i]? = some r → kids[i]? = some x → NodeR w r x)
      (hr : ∀ (i : Nat) (r : List Value) (x : Tree) (it : List Item), rows[i]? = some r → kids[i]? = some x → its[i]? = some it → PreC w most (lev + 1) r x it) :
      PreC w most lev [.int .u8 (k : Int), .string t, .slice ka ks.length kc, .slice ba kids.length bc, .int .i64 ln] (.mk k t ks kids ln)
        ((lev, [.int .u8 (k : Int), .string t, .slice ka ks.length kc, .slice ba kids.length bc, .int .i64 ln], .mk k t ks kids ln) :: its.flatten)

theorem PreC.inv {w : World} {most lev : Nat} {cs : List Value} {x : Tree} {its : List Item} (h : PreC w most lev cs x its) : (most < lev ∧ its = []) ∨
    ∃ (ka : Option Addr) (kc : Nat) (ba : Option Addr) (bc : Nat) (rows : List (List Value)) (itss : List (List Item)), lev ≤ most ∧ cs = [.int .u8 (x.kind : Int), .string x.text, .slice ka x.keys.length kc, .slice ba x.kids.length bc, .int .i64 x.line] ∧ its = (lev, cs, x) :: List.flatten itss ∧ rows.length = x.kids.length ∧ itss.length = x.kids.length ∧ RdS w (.slice ba x.kids.length bc) 5 x.kids.length rows.flatten ∧
      (∀ (i : Nat) (r : List Value) (y : Tree), rows[i]? = some r → x.kids[i]? = some y → NodeR w r y) ∧ (∀ (i : Nat) (r : List Value) (y : Tree) (it : List Item), rows[i]? = some r → x.kids[i]? = some y → itss[i]? = some it → PreC w most (lev + 1) r y it) := by
  cases h with
  | out h => exact .inl ⟨h, rfl⟩
  | node h rows its hl hi hc hn hr => exact .inr ⟨_, _, _, _, rows, its, h, rfl, rfl, hl, hi, hc, hn, hr⟩
theorem preTs_flat (most lev : Nat) (l : List Tree) : preTs most lev l = (l.map (preT most lev)).flatten := by
  induction l with
  | nil => rfl
  | cons a l ih => simp [preTs, ih]

theorem preC_some (w : World) (most : Nat) : ∀ (x : Tree) (lev : Nat) (cs : List Value), NodeR w cs x → ∃ its, PreC w most lev cs x its ∧ its.map (fun i => (i.1, i.2.2)) = preT most lev x ∧ ∀ i ∈ its, NodeR w i.2.1 i.2.2 := by
  refine Tree.ind fun k t ks kids ln ih lev cs h => ?_
  by_cases hlev : most < lev
  · exact ⟨[], .out hlev, by simp [preT, hlev], by simp⟩
  have h0 := h
  obtain ⟨vk, vc, rfl, _, _, _, _, hk1, rows, hl, hc, hn⟩ := h.parts
  have hx : ∀ i, i < kids.length → ∃ it : List Item, ∀ (r : List Value) (x : Tree), rows[i]? = some r → kids[i]? = some x → PreC w most (lev + 1) r x it ∧ it.map (fun i => (i.1, i.2.2)) = preT most (lev + 1) x ∧ ∀ i ∈ it, NodeR w i.2.1 i.2.2 := fun i hi => by
    obtain ⟨it, h1, h2⟩ := ih kids[i] (List.getElem_mem hi) (lev + 1) (rows[i]'(by omega)) (hn i _ _ (List.getElem?_eq_getElem (by omega)) (List.getElem?_eq_getElem hi))
    refine ⟨it, fun r x hr hx => ?_⟩
    rw [List.getElem?_eq_getElem (by omega)] at hr
    rw [List.getElem?_eq_getElem hi] at hx
    cases hr; cases hx
    exact ⟨h1, h2⟩
  obtain ⟨g, hg⟩ := Go.Deep.choose_lt hx
  obtain ⟨ka, kc, rfl⟩ := hk1.form
  obtain ⟨_, ba, bc, rfl, _⟩ := id hc
  have hgi : ∀ (i : Nat) (it : List Item), ((List.range kids.length).map g)[i]? = some it → i < kids.length ∧ it = g i := fun i it h => by
    rw [List.getElem?_map] at h
    obtain ⟨j, hj, rfl⟩ := Option.map_eq_some_iff.1 h
    obtain ⟨h1, h2⟩ := List.getElem?_eq_some_iff.1 hj
    simp at h2 h1; subst h2; exact ⟨h1, rfl⟩
  refine ⟨_, .node (by omega) rows ((List.range kids.length).map g) hl (by simp) hc hn (fun i r x it hr hx hit => ?_), ?_, ?_⟩
  · obtain ⟨h1, rfl⟩ := hgi i it hit
    exact (hg i h1 r x hr hx).1
  · rw [preT, if_neg hlev, List.map_cons, preTs_flat, List.map_flatten, List.map_map]
    congr 2
    apply List.ext_getElem (by simp)
    intro i h1 h2
    simp only [List.getElem_map, List.getElem_range, Function.comp]
    simp at h2
    exact (hg i h2 _ _ (List.getElem?_eq_getElem (by omega)) (List.getElem?_eq_getElem h2)).2.1
  · intro i hi
    rcases List.mem_cons.1 hi with rfl | hi
    · exact h0
    · obtain ⟨it, hit, hii⟩ := List.mem_flatten.1 hi
      obtain ⟨j, hj, rfl⟩ := List.mem_map.1 hit
      have hj' := List.mem_range.1 hj
      exact (hg j hj' _ _ (List.getElem?_eq_getElem (by omega)) (List.getElem?_eq_getElem hj')).2.2 i hii

theorem rows_at {w : World} {a : Option Addr} {cap : Nat} {kids : List Tree} {rows : List (List Value)} (hl : rows.length = kids.length) (hc : RdS w (.slice a kids.length cap) 5 kids.length rows.flatten)
    (hn : ∀ (i : Nat) (r : List Value) (x : Tree), rows[i]? = some r → kids[i]? = some x → NodeR w r x) {i : Nat} (hi : i < kids.length) :
    ∃ g off k t ka kn kc ba bn bc ln, a = some ⟨g, off, none⟩ ∧ kids.length ≤ cap ∧ cap ≤ 9223372036854775807 ∧ rows[i]? = some [.int .u8 k, .string t, .slice ka kn kc, .slice ba bn bc, .int .i64 ln] ∧
      w.cell? ⟨g, off + i * 5, none⟩ = some (.int .u8 k) ∧ w.cell? ⟨g, off + i * 5 + 1, none⟩ = some (.string t) ∧ w.cell? ⟨g, off + i * 5 + 2, none⟩ = some (.slice ka kn kc) ∧ w.cell? ⟨g, off + i * 5 + 3, none⟩ = some (.slice ba bn bc) ∧ w.cell? ⟨g, off + i * 5 + 4, none⟩ = some (.int .i64 ln) := by
  have hri : i < rows.length := by omega
  have hnn := hn i _ _ (List.getElem?_eq_getElem hri) (List.getElem?_eq_getElem hi)
  have hm : ∀ r ∈ rows, r.length = 5 := by
    intro r hr
    obtain ⟨j, hj, rfl⟩ := List.getElem_of_mem hr
    exact (hn j _ _ (List.getElem?_eq_getElem hj) (List.getElem?_eq_getElem (by omega))).len
  have hf := (flatten_get hm).2 i _ (List.getElem?_eq_getElem hri)
  obtain ⟨ka, kc, ba, bc, hrow⟩ := hnn.cells
  rw [hrow] at hf
  rcases hc.cases (by decide) with ⟨h0, _⟩ | ⟨hn0, _, g, off, cap', he, q1, q2, q3⟩
  · omega
  · injection he with e1 e2 e3
    subst e1 e3
    have gg : ∀ j c, j < 5 → [.int .u8 (kids[i].kind : Int), .string kids[i].text, .slice ka kids[i].keys.length kc, .slice ba kids[i].kids.length bc, .int .i64 kids[i].line][j]? = some c → w.cell? ⟨g, off + i * 5 + j, none⟩ = some c := fun j c hj hc => by
      rw [Nat.add_assoc]; exact q3 _ _ ((hf j hj).trans hc)
    exact ⟨g, off, _, _, ka, _, kc, ba, _, bc, _, rfl, q1, q2, by rw [List.getElem?_eq_getElem hri, hrow], gg 0 _ (by omega) rfl, gg 1 _ (by omega) rfl, gg 2 _ (by omega) rfl, gg 3 _ (by omega) rfl, gg 4 _ (by omega) rfl⟩

theorem cells5B {W : World} {B : Nat} {a b c d e : Value} {t : TypeId} (h : W.heap[B]? = some (.cells #[a, b, c, d, e] t (0, 0))) : W.cell? ⟨B, 0, none⟩ = some a ∧ W.cell? ⟨B, 1, none⟩ = some b ∧ W.cell? ⟨B, 2, none⟩ = some c ∧ W.cell? ⟨B, 3, none⟩ = some d ∧ W.cell? ⟨B, 4, none⟩ = some e := cells5 h
theorem Keep.mono {n0 : Nat} {S S' : Nat → Prop} {A B : World} (h : Keep n0 S' A B) (hs : ∀ k, S k → S' k) : Keep n0 S A B := ⟨h.below, fun k hk => h.same k (hs k hk)⟩
theorem flat_snoc {its : List (List Item)} {j : Nat} (hj : j < its.length) : (its.take (j + 1)).flatten = (its.take j).flatten ++ its[j] := by
  rw [List.take_succ_eq_append_getElem hj, List.flatten_append]; simp
theorem flat_prefix (its : List (List Item)) (j : Nat) : (its.take j).flatten <+: its.flatten := by
  conv => rhs; rw [← List.take_append_drop j its, List.flatten_append]
  exact List.prefix_append _ _

def downPost (n0 : Nat) (J Jx : (Nat → Prop) → List Item → World → Prop) (xs : List Item) (S : Nat → Prop) (all : List Item) (W : World) (e : Ending) (W' : World) : Prop :=
  ∃ S' : Nat → Prop, (∀ k, S k → S' k) ∧ (∀ k, S' k → n0 ≤ k ∧ k < W'.heap.size) ∧ Keep n0 S W W' ∧ W.heap.size ≤ W'.heap.size ∧
    ((e = .returned (.bool true) ∧ J S' all W') ∨ (e = .returned (.bool false) ∧ ∃ pre', pre' <+: xs ∧ Jx S' pre' W'))

set_option maxRecDepth 100000 in
set_option maxHeartbeats 2000000 in
theorem down_any (w0 : World) (most n0 M Y D l : Nat) (xs : List Item) (J Jx : (Nat → Prop) → List Item → World → Prop) (hmost : most ≤ 1000) (h0n : w0.heap.size ≤ n0) (hJ : Stable n0 J) (hJx : Stable n0 Jx)
    (hY : ∀ S pre x W1, (∀ k, S k → n0 ≤ k ∧ k < W1.heap.size) → J S pre W1 → pre ++ [x] <+: xs → YieldAt Fence.wide 0 Tryz.prog l (encE x) W1 fun e W' =>
      (e = .returned (.bool true) ∧ J S (pre ++ [x]) W' ∧ Keep n0 S W1 W') ∨ (e = .returned (.bool false) ∧ Jx S (pre ++ [x]) W' ∧ Keep n0 S W1 W')) :
    ∀ (x : Tree) (lev : Nat) (cs : List Value) (its : List Item) (S : Nat → Prop) (pre : List Item) (W : World), lev ≤ 1001 → NodeR w0 cs x → PreC w0 most lev cs x its → Below w0.heap.size w0 W → n0 ≤ W.heap.size →
      (∀ k, S k → n0 ≤ k ∧ k < W.heap.size) → S M → S Y → S D → Boxed W M 3 (.int .i64 (most : Int)) → Boxed W Y 97 (.func (.yield l) #[] #[]) →
      Boxed W D 98 (.func (.func 46) #[] #[.pointer (some ⟨M, 0, none⟩), .pointer (some ⟨Y, 0, none⟩), .pointer (some ⟨D, 0, none⟩)]) → J S pre W → pre ++ its <+: xs →
      CallsIn Fence.wide 0 Tryz.prog 46 #[.agg cs.toArray, .int .i64 (lev : Int), .pointer (some ⟨M, 0, none⟩), .pointer (some ⟨Y, 0, none⟩), .pointer (some ⟨D, 0, none⟩)] W (downPost n0 J Jx xs S (pre ++ its) W) := by
  have HY := Lib.hid hY
  have HJ := Lib.hid hJ
  have HJX := Lib.hid hJx
  clear hY hJ hJx
  refine Tree.ind fun k t ks kids ln ih lev cs its S pre W hlev ha hp hw0 hn0 hS hSM hSY hSD hM hYb hD hJp hpre => ?_
  have IH := Lib.hid ih
  have HS := Lib.hid hS
  obtain ⟨ka, kc, ba, bc, rfl⟩ := ha.cells
  dsimp only [Tree.kind, Tree.text, Tree.keys, Tree.kids, Tree.line] at *
  have hst := Step.alloc (S := S) hn0 (.cells #[.int .u8 (k : Int), .string t, .slice ka ks.length kc, .slice ba kids.length bc, .int .i64 ln] 25)
  have g1 := World.alloc_heap_new W (.cells #[.int .u8 (k : Int), .string t, .slice ka ks.length kc, .slice ba kids.length bc, .int .i64 ln] 25)
  have hkp : Keep n0 S W (W.alloc (.cells #[.int .u8 (k : Int), .string t, .slice ka ks.length kc, .slice ba kids.length bc, .int .i64 ln] 25)) := ⟨hst.below, fun j hj => Below.heap_alloc _ _ _ (hS j hj).2⟩
  have hsz : (W.alloc (.cells #[.int .u8 (k : Int), .string t, .slice ka ks.length kc, .slice ba kids.length bc, .int .i64 ln] 25)).heap.size = W.heap.size + 1 := by simp
  have hM1 := hM.alloc (.cells #[.int .u8 (k : Int), .string t, .slice ka ks.length kc, .slice ba kids.length bc, .int .i64 ln] 25)
  have hY1 := hYb.alloc (.cells #[.int .u8 (k : Int), .string t, .slice ka ks.length kc, .slice ba kids.length bc, .int .i64 ln] 25)
  have hD1 := hD.alloc (.cells #[.int .u8 (k : Int), .string t, .slice ka ks.length kc, .slice ba kids.length bc, .int .i64 ln] 25)
  have hJ1 := HJ.out _ _ _ _ _ hS hJp hst
  obtain ⟨S1, hS1⟩ : ∃ S1 : Nat → Prop, S1 = fun j => S j ∨ j = W.heap.size := ⟨_, rfl⟩
  rw [← hS1] at hJ1 hst
  have hS1b : ∀ j, S1 j → n0 ≤ j ∧ j < W.heap.size + 1 := fun j hj => by
    rw [hS1] at hj
    rcases hj with hj | rfl
    · have := hS j hj; omega
    · omega
  have hSS : ∀ j, S j → S1 j := fun j hj => by rw [hS1]; exact .inl hj
  have hSN : S1 W.heap.size := by rw [hS1]; exact .inr rfl
  generalize hWz : W.alloc (.cells #[.int .u8 (k : Int), .string t, .slice ka ks.length kc, .slice ba kids.length bc, .int .i64 ln] 25) = Wz at *
  have q0 := hM1.cell
  obtain ⟨p0, p1, p2, p3, p4⟩ := cells5B g1
  have HSS := Lib.hid hSS
  have HS1B := Lib.hid hS1b
  clear ih hS hSS hS1b hS1
  rcases hp.inv with ⟨h, rfl⟩ | ⟨ka', kc', ba', bc', rows, itss, h, hce, rfl, hl, hi, hc, hn, hr⟩
  · have d1 : decide ((most : Int) < (lev : Int)) = true := by simp; omega
    have HP : Hid (downPost n0 J Jx xs S (pre ++ []) W (.returned (.bool true)) Wz) := Lib.hid ⟨S1, HSS.out, fun j hj => by have := HS1B.out j hj; omega, hkp, by omega, .inl ⟨rfl, by simpa using hJ1⟩⟩
    refine callsIn_of_wp Tryz.func46 rfl trivial ?_ rfl
    simp only [Tryz.ntmps46, List.size_toArray, List.length_cons, List.length_nil, Nat.reduceAdd, Nat.reduceSub, Array.replicate_succ, Array.replicate_zero, List.push_toArray, List.append_toArray, List.nil_append, List.cons_append]
    gi_wp2
    refine bodyPost_ret (v := .bool true) (by simp [results, Tryz.results46, go_sem]) rfl HP.out
  · dsimp only [Tree.kind, Tree.text, Tree.keys, Tree.kids, Tree.line] at *
    cases hce
    have d1 : decide ((most : Int) < (lev : Int)) = false := by simp; omega
    have HC := Lib.hid hc
    have HN := Lib.hid hn
    have HR := Lib.hid hr
    have HPRE := Lib.hid hpre
    have q1 := hY1.cell
    obtain ⟨fn, tmps, assign, body, hy, hRr⟩ := HY.out S1 pre (lev, [.int .u8 (k : Int), .string t, .slice ka ks.length kc, .slice ba kids.length bc, .int .i64 ln], .mk k t ks kids ln) Wz (fun j hj => by have := HS1B.out j hj; omega) hJ1 (by
      have e : pre ++ (lev, [.int .u8 (k : Int), .string t, .slice ka ks.length kc, .slice ba kids.length bc, .int .i64 ln], .mk k t ks kids ln) :: itss.flatten = (pre ++ [(lev, [.int .u8 (k : Int), .string t, .slice ka ks.length kc, .slice ba kids.length bc, .int .i64 ln], .mk k t ks kids ln)]) ++ itss.flatten := by simp
      rw [e] at hpre
      exact (List.prefix_append _ _).trans hpre)
    clear hp hc hn hr hpre
    dsimp only [encE] at hy
    refine callsIn_of_wp Tryz.func46 rfl trivial ?_ rfl
    simp only [Tryz.ntmps46, List.size_toArray, List.length_cons, List.length_nil, Nat.reduceAdd, Nat.reduceSub, Array.replicate_succ, Array.replicate_zero, List.push_toArray, List.append_toArray, List.nil_append, List.cons_append]
    gi_wp2
    refine hRr.mono ?_
    rintro e W' (⟨rfl, hJ', hk'⟩ | ⟨rfl, hJ', hk'⟩)
    · have hN' := (hk'.same _ hSN).trans g1
      have hM' : Boxed W' M 3 (.int .i64 (most : Int)) := (hk'.same M (HSS.out M hSM)).trans hM1
      have hD' : Boxed W' D 98 _ := (hk'.same D (HSS.out D hSD)).trans hD1
      have hYY : Boxed W' Y 97 _ := (hk'.same Y (HSS.out Y hSY)).trans hY1
      obtain ⟨-, -, -, p3', -⟩ := cells5B hN'
      have HKP : Hid (Keep n0 S W W') := Lib.hid (hkp.trans (hk'.mono HSS.out))
      have hszW := hk'.below.size
      have hszW2 : W.heap.size + 1 ≤ W'.heap.size := by have := (Array.getElem?_eq_some_iff.1 hN').1; omega
      have hw' : Below w0.heap.size w0 W' := hw0.trans (HKP.out.below.mono h0n)
      have hkl := rds_len2 HC.out
      have HSB : Hid (∀ j, S1 j → n0 ≤ j ∧ j < W'.heap.size) := Lib.hid (fun j hj => by have := HS1B.out j hj; omega)
      clear hy hRr q0 q1 p0 p1 p2 p3 p4 g1 hkp hM1 hY1 hD1 hJ1
      gi_wp2
      gi_loopg [21] (kids.length + 1) (fun gk i wr => ∃ (S2 : Nat → Prop) (j : Nat), j + gk = kids.length + 1 ∧ j ≤ kids.length ∧ i = .int .i64 j ∧ Hid (∀ k, S1 k → S2 k) ∧ Hid (∀ k, S2 k → n0 ≤ k ∧ k < wr.heap.size) ∧ Hid (Keep n0 S1 W' wr) ∧ W'.heap.size ≤ wr.heap.size ∧ J S2 (pre ++ (lev, [.int .u8 (k : Int), .string t, .slice ka ks.length kc, .slice ba kids.length bc, .int .i64 ln], .mk k t ks kids ln) :: (itss.take j).flatten) wr)
      case atStart => exact ⟨S1, 0, by omega, by omega, rfl, Lib.hid (fun _ h => h), HSB, Lib.hid (Keep.refl _ _ _), by omega, by simpa using hJ'⟩
      case round =>
        obtain ⟨S2, j, hi2, hik, rfl, HSI, HS2B, HK2, hsz2, hJ2⟩ := hrel
        have hg : gk = kids.length + 1 - j := by omega
        subst hg
        clear hi2
        by_cases hlt : j < kids.length
        · have hwr : Below w0.heap.size w0 wr := hw'.trans (HK2.out.below.mono h0n)
          obtain ⟨g, off, k1, t1, ka1, kn1, kc1, ba1, bn1, bc1, ln1, rfl, z1, z2, hrow, c0, c1, c2, c3, c4⟩ := rows_at hl HC.out HN.out hlt
          have c0 := cellB hwr c0
          have c1 := cellB hwr c1
          have c2 := cellB hwr c2
          have c3 := cellB hwr c3
          have c4 := cellB hwr c4
          have hitl : j < itss.length := by omega
          have HFS := Lib.hid (flat_snoc hitl)
          have HIH := Lib.hid (IH.out _ (List.getElem_mem hlt) (lev + 1) _ itss[j] S2 (pre ++ (lev, [.int .u8 (k : Int), .string t, .slice ka ks.length kc, .slice (some ⟨g, off, none⟩) kids.length bc, .int .i64 ln], .mk k t ks kids ln) :: (itss.take j).flatten) (wr.alloc (.cells #[.int .u8 k1, .string t1, .slice ka1 kn1 kc1, .slice ba1 bn1 bc1, .int .i64 ln1] 25)) (by omega)
            (HN.out j _ _ hrow (List.getElem?_eq_getElem hlt)) (HR.out j _ _ _ hrow (List.getElem?_eq_getElem hlt) (List.getElem?_eq_getElem hitl)) (bthen hwr (Nat.le_refl _) ((Below.refl _ _).alloc (Nat.le_refl _) _)) (by simp; omega)
            (fun i hi => by have := HS2B.out i hi; simp; omega) (HSI.out M (HSS.out M hSM)) (HSI.out Y (HSS.out Y hSY)) (HSI.out D (HSS.out D hSD))
            (Boxed.alloc ((HK2.out.same M (HSS.out M hSM)).trans hM') _) (Boxed.alloc ((HK2.out.same Y (HSS.out Y hSY)).trans hYY) _) (Boxed.alloc ((HK2.out.same D (HSS.out D hSD)).trans hD') _)
            (HJ.out _ _ _ _ _ HS2B.out hJ2 (Step.of_below (by omega) ((Below.refl _ _).alloc (Nat.le_refl _) _)))
            (by
              have e : (pre ++ (lev, [.int .u8 (k : Int), .string t, .slice ka ks.length kc, .slice (some ⟨g, off, none⟩) kids.length bc, .int .i64 ln], .mk k t ks kids ln) :: (itss.take j).flatten) ++ itss[j] = pre ++ (lev, [.int .u8 (k : Int), .string t, .slice ka ks.length kc, .slice (some ⟨g, off, none⟩) kids.length bc, .int .i64 ln], .mk k t ks kids ln) :: (itss.take (j + 1)).flatten := by rw [flat_snoc hitl]; simp
              rw [e]
              refine List.IsPrefix.trans ?_ HPRE.out
              refine (List.prefix_append_right_inj _).2 ?_
              exact (List.cons_prefix_cons).2 ⟨rfl, flat_prefix _ _⟩))
          have hDr := Boxed.alloc ((HK2.out.same D (HSS.out D hSD)).trans hD') (.cells #[.int .u8 k1, .string t1, .slice ka1 kn1 kc1, .slice ba1 bn1 bc1, .int .i64 ln1] 25)
          have hdc := hDr.cell
          have hj0 : (0 : Int) ≤ (j : Int) := by omega
          have hj1 : (j : Int) < (kids.length : Int) := by omega
          have hHK : Keep n0 S2 wr (wr.alloc (.cells #[.int .u8 k1, .string t1, .slice ka1 kn1 kc1, .slice ba1 bn1 bc1, .int .i64 ln1] 25)) := ⟨(Below.refl _ _).alloc (by omega) _, fun i hi => Below.heap_alloc _ _ _ (HS2B.out i hi).2⟩
          have HHK := Lib.hid hHK
          rw [show ((lev + 1 : Nat) : Int) = (lev : Int) + 1 by omega] at HIH
          clear hHK hDr hJ2
          gi_wp2_with fail
          refine HIH.out.mono ?_
          rintro e w5 ⟨S3, hs3, hb3, hk3, hsz3, hres⟩
          have HS3 := Lib.hid hs3
          have HB3 := Lib.hid hb3
          have HK3 : Hid (Keep n0 S1 W' w5) := Lib.hid (HK2.out.trans ((HHK.out.trans hk3).mono HSI.out))
          simp at hsz3
          have e2 : (pre ++ (lev, [.int .u8 (k : Int), .string t, .slice ka ks.length kc, .slice (some ⟨g, off, none⟩) kids.length bc, .int .i64 ln], .mk k t ks kids ln) :: (itss.take j).flatten) ++ itss[j] = pre ++ (lev, [.int .u8 (k : Int), .string t, .slice ka ks.length kc, .slice (some ⟨g, off, none⟩) kids.length bc, .int .i64 ln], .mk k t ks kids ln) :: (itss.take (j + 1)).flatten := by rw [HFS.out]; simp
          rw [e2] at hres
          clear e2 hs3 hb3 hk3 c0 c1 c2 c3 c4 hdc
          rcases hres with ⟨rfl, hJ5⟩ | ⟨rfl, hX5⟩
          · gi_wp2
            gi_roundg (kids.length + 1 - (j + 1))
            case measure => omega
            case rel => exact ⟨S3, j + 1, by omega, by omega, by go_num, Lib.hid (fun i hi => HS3.out i (HSI.out i hi)), HB3, HK3, by omega, hJ5⟩
          · have HP : Hid (downPost n0 J Jx xs S (pre ++ (lev, [.int .u8 (k : Int), .string t, .slice ka ks.length kc, .slice (some ⟨g, off, none⟩) kids.length bc, .int .i64 ln], .mk k t ks kids ln) :: itss.flatten) W (.returned (.bool false)) w5) := Lib.hid ⟨S3, fun i hi => HS3.out i (HSI.out i (HSS.out i hi)), HB3.out, HKP.out.trans (HK3.out.mono HSS.out), by omega, .inr ⟨rfl, hX5⟩⟩
            clear hX5
            gi_wp2
            refine bodyPost_ret (v := .bool false) (by simp [results, Tryz.results46, go_sem]) rfl HP.out
        · have HP : Hid (downPost n0 J Jx xs S (pre ++ (lev, [.int .u8 (k : Int), .string t, .slice ka ks.length kc, .slice ba kids.length bc, .int .i64 ln], .mk k t ks kids ln) :: itss.flatten) W (.returned (.bool true)) wr) := Lib.hid ⟨S2, fun i hi => HSI.out i (HSS.out i hi), HS2B.out, HKP.out.trans (HK2.out.mono HSS.out), by omega, .inl ⟨rfl, by rwa [List.take_of_length_le (by omega)] at hJ2⟩⟩
          clear hJ2
          gi_wp2
          refine bodyPost_ret (v := .bool true) (by simp [results, Tryz.results46, go_sem]) rfl HP.out
    · have HP : Hid (downPost n0 J Jx xs S (pre ++ (lev, [.int .u8 (k : Int), .string t, .slice ka ks.length kc, .slice ba kids.length bc, .int .i64 ln], .mk k t ks kids ln) :: itss.flatten) W (.returned (.bool false)) W') := Lib.hid ⟨S1, HSS.out, fun j hj => by have := HS1B.out j hj; have := hk'.below.size; omega, hkp.trans (hk'.mono HSS.out), by have := hk'.below.size; omega, .inr ⟨rfl, _, (by
        have e : pre ++ (lev, [.int .u8 (k : Int), .string t, .slice ka ks.length kc, .slice ba kids.length bc, .int .i64 ln], .mk k t ks kids ln) :: itss.flatten = (pre ++ [(lev, [.int .u8 (k : Int), .string t, .slice ka ks.length kc, .slice ba kids.length bc, .int .i64 ln], .mk k t ks kids ln)]) ++ itss.flatten := by simp
        have := HPRE.out
        rw [e] at this
        exact (List.prefix_append _ _).trans this), hJ'⟩⟩
      clear hy hRr q0 q1 p0 p1 p2 p3 p4
      gi_wp2
      refine bodyPost_ret (v := .bool false) (by simp [results, Tryz.results46, go_sem]) rfl HP.out

set_option maxRecDepth 100000 in
set_option maxHeartbeats 1000000 in
theorem each_any (cs : List Value) (x : Tree) (most : Int) (w : World) (h : NodeR w cs x) :
    Calls Tryz.prog 25 #[.agg cs.toArray, .int .i64 most] w fun e w' => e = .returned (.func (.func 45) #[] #[.pointer (some ⟨w.heap.size + 1, 0, none⟩), .pointer (some ⟨w.heap.size, 0, none⟩)]) ∧ (w.alloc (.cells cs.toArray 25)).alloc (.cells #[.int .i64 most] 3) = w' := by
  obtain ⟨ka, kc, ba, bc, rfl⟩ := h.cells
  clear h
  go_enter Tryz.func25, Tryz.ntmps25
  go_wp2
  go_ret
  exact ⟨rfl, rfl⟩

set_option maxRecDepth 100000 in
set_option maxHeartbeats 1000000 in
theorem each_iter (w0 : World) (most n0 M N : Nat) (cs : List Value) (x : Tree) (its : List Item) (w : World) (hmost : most ≤ 1000) (h0n : w0.heap.size ≤ n0) (hM : n0 ≤ M) (hN : n0 ≤ N) (_hnw : n0 ≤ w.heap.size) (ha : NodeR w0 cs x) (hp : PreC w0 most 1 cs x its) (h0w : Below w0.heap.size w0 w)
    (hbM : Boxed w M 3 (.int .i64 (most : Int))) (hbN : w.heap[N]? = some (.cells cs.toArray 25 (0, 0))) :
    IterAt Tryz.prog n0 45 #[.pointer (some ⟨M, 0, none⟩), .pointer (some ⟨N, 0, none⟩)] encE its True (fun j => j = M ∨ j = N) w := by
  intro l J Jx W _ hS hn0 hbl hJ hJx hY h0
  obtain ⟨ka, kc, ba, bc, rfl⟩ := ha.cells
  have hbM' : Boxed W M 3 (.int .i64 (most : Int)) := (hbl.block M hbM.lt).trans hbM
  have hbN' := (hbl.block N (Array.getElem?_eq_some_iff.1 hbN).1).trans hbN
  have h0W : Below w0.heap.size w0 W := bthen h0w (Nat.le_refl _) hbl
  have hst1 := Step.alloc (S := fun j => j = M ∨ j = N) hn0 (.cells #[.func (.yield l) #[] #[]] 97)
  have hst2 := Step.alloc (n0 := n0) (S := fun j => (j = M ∨ j = N) ∨ j = W.heap.size) (W := W.alloc (.cells #[.func (.yield l) #[] #[]] 97)) (by simp; omega) (.cells #[Value.nilFunc] 98)
  have hst3 := Step.setCell (n0 := n0) (S := fun j => ((j = M ∨ j = N) ∨ j = W.heap.size) ∨ j = W.heap.size + 1) (W := (W.alloc (.cells #[.func (.yield l) #[] #[]] 97)).alloc (.cells #[Value.nilFunc] 98)) (p := ⟨W.heap.size + 1, 0, none⟩) (.func (.func 46) #[] #[.pointer (some ⟨M, 0, none⟩), .pointer (some ⟨W.heap.size, 0, none⟩), .pointer (some ⟨W.heap.size + 1, 0, none⟩)]) (.inr rfl) (by show n0 ≤ W.heap.size + 1; omega)
  rw [World.size_alloc] at hst2
  have hst := (hst1.trans hst2).trans hst3
  have hlM := hbM'.lt
  have hlN := (Array.getElem?_eq_some_iff.1 hbN').1
  have hB1 : Boxed ((W.alloc (.cells #[.func (.yield l) #[] #[]] 97)).alloc (.cells #[Value.nilFunc] 98)) (W.heap.size + 1) 98 Value.nilFunc := by
    have := Boxed.new (W.alloc (.cells #[.func (.yield l) #[] #[]] 97)) 98 Value.nilFunc
    rwa [World.size_alloc] at this
  have q1 := hB1.cell
  have q2 := hB1.frozen
  have hB2 := hB1.set (.func (.func 46) #[] #[.pointer (some ⟨M, 0, none⟩), .pointer (some ⟨W.heap.size, 0, none⟩), .pointer (some ⟨W.heap.size + 1, 0, none⟩)])
  have hold : ∀ (k : Nat), k < W.heap.size + 1 → (((W.alloc (.cells #[.func (.yield l) #[] #[]] 97)).alloc (.cells #[Value.nilFunc] 98)).setCell ⟨W.heap.size + 1, 0, none⟩ (.func (.func 46) #[] #[.pointer (some ⟨M, 0, none⟩), .pointer (some ⟨W.heap.size, 0, none⟩), .pointer (some ⟨W.heap.size + 1, 0, none⟩)])).heap[k]? = (W.alloc (.cells #[.func (.yield l) #[] #[]] 97)).heap[k]? := fun k hk => by
    rw [Below.heap_setCell _ _ _ _ (by show k ≠ W.heap.size + 1; omega), Below.heap_alloc _ _ _ (by simp; omega)]
  have hsz : (((W.alloc (.cells #[.func (.yield l) #[] #[]] 97)).alloc (.cells #[Value.nilFunc] 98)).setCell ⟨W.heap.size + 1, 0, none⟩ (.func (.func 46) #[] #[.pointer (some ⟨M, 0, none⟩), .pointer (some ⟨W.heap.size, 0, none⟩), .pointer (some ⟨W.heap.size + 1, 0, none⟩)])).heap.size = W.heap.size + 2 := by simp
  have hYb := (hold W.heap.size (by omega)).trans (Boxed.new W 97 (.func (.yield l) #[] #[]))
  have hMb := ((hold M (by omega)).trans (Below.heap_alloc _ _ _ hlM)).trans hbM'
  have hNb := ((hold N (by omega)).trans (Below.heap_alloc _ _ _ hlN)).trans hbN'
  obtain ⟨WF, hWF⟩ : ∃ WF, ((W.alloc (.cells #[.func (.yield l) #[] #[]] 97)).alloc (.cells #[Value.nilFunc] 98)).setCell ⟨W.heap.size + 1, 0, none⟩ (.func (.func 46) #[] #[.pointer (some ⟨M, 0, none⟩), .pointer (some ⟨W.heap.size, 0, none⟩), .pointer (some ⟨W.heap.size + 1, 0, none⟩)]) = WF := ⟨_, rfl⟩
  rw [hWF] at hst hB2 hYb hMb hNb hsz
  have hYb : Boxed WF W.heap.size 97 (.func (.yield l) #[] #[]) := hYb
  have hMb : Boxed WF M 3 (.int .i64 (most : Int)) := hMb
  have HDN := Lib.hid (down_any w0 most n0 M W.heap.size (W.heap.size + 1) l its J Jx hmost h0n hJ hJx hY x 1 _ its (fun k => ((k = M ∨ k = N) ∨ k = W.heap.size) ∨ k = W.heap.size + 1) [] WF (by omega) ha hp (h0W.trans (hst.below.mono h0n)) (by omega) (fun k hk => by
    rw [hsz]
    rcases hk with ((rfl | rfl) | rfl) | rfl <;> omega) (.inl (.inl (.inl rfl))) (.inl (.inr rfl)) (.inr rfl) hMb hYb hB2 (hJ _ _ _ _ _ hS h0 hst) (by simp))
  obtain ⟨r0, r1, r2, r3, r4⟩ := cells5B hNb
  have q3 := hB2.cell
  obtain ⟨WA, hWA⟩ : ∃ WA, (W.alloc (.cells #[.func (.yield l) #[] #[]] 97)).alloc (.cells #[Value.nilFunc] 98) = WA := ⟨_, rfl⟩
  rw [hWA] at q1 q2 hWF
  clear hold hst1 hst2 hst3 hst hJ hJx hY h0 hS hB1 hB2 hYb hMb hNb hbM' hbN' hp ha h0W
  refine callsIn_of_wp Tryz.func45 rfl trivial ?_ rfl
  simp only [Tryz.ntmps45, List.size_toArray, List.length_cons, List.length_nil, Nat.reduceAdd, Nat.reduceSub, Array.replicate_succ, Array.replicate_zero, List.push_toArray, List.append_toArray, List.nil_append, List.cons_append]
  gi_wp2_with fail
  refine HDN.out.mono ?_
  rintro e w5 ⟨S3, hs3, hb3, hk3, hsz3, hres⟩
  have HP : Hid ((∃ v, (Ending.returned (.tuple #[]) : Ending) = .returned v) ∧ ∃ S, (∀ k, S k → n0 ≤ k ∧ k < w5.heap.size) ∧ (J S its w5 ∨ (∃ pre, pre <+: its ∧ Jx S pre w5))) := Lib.hid ⟨⟨_, rfl⟩, S3, hb3, by
    rcases hres with ⟨_, h⟩ | ⟨_, h⟩
    · exact .inl (by simpa using h)
    · exact .inr h⟩
  rcases hres with ⟨rfl, hJ5⟩ | ⟨rfl, hX5⟩
  · clear hJ5
    gi_wp2
    go_end0
    exact ⟨⟨_, rfl⟩, HP.out.2⟩
  · clear hX5
    gi_wp2
    go_end0
    exact ⟨⟨_, rfl⟩, HP.out.2⟩
end Go.Proofs.YtdhgcgejdoedbaaGreatDoor

/-
  block.Depth, block.keys, block.odd: contracts.
-/
namespace Go.Proofs.YtdhgcgejdoedbaaGreatDoor
open Go Go.RowKit Go.WideShapes
attribute [local go_sem] Oper.semAt_some wide_fn wide_depth wide_fn' wide_depth'

def levs (l : List Item) : List (Nat × Tree) := l.map fun i => (i.1, i.2.2)
theorem strsV_take (l : List ByteArray) (n : Nat) : (strsV l).take n = strsV (l.take n) := by simp [strsV, List.map_take]
theorem rds_takeS {W : World} {a : Option Addr} {c n : Nat} {l : List ByteArray} (h : RdS W (.slice a l.length c) 1 l.length (strsV l)) (hn : n ≤ l.length) : RdS W (.slice a n c) 1 (l.take n).length (strsV (l.take n)) := by
  obtain ⟨h1, a', c', he, h3, h4, h5⟩ := h
  injection he with e1 e2 e3
  subst e1 e3
  have hl : (l.take n).length = n := by rw [List.length_take]; omega
  rw [hl]
  refine ⟨by rw [strsV_length, hl, Nat.mul_one], a, c, rfl, by omega, h4, ?_⟩
  rcases h5 with h5 | ⟨g, off, rfl, hc⟩
  · left; rw [← strsV_take, h5]; simp
  · exact .inr ⟨g, off, rfl, fun i x hi => hc i x (by
      rw [← strsV_take, List.getElem?_take] at hi
      split at hi
      · exact hi
      · cases hi)⟩
theorem keysE_get {l : List ByteArray} {k : Nat} (hk : k < l.length) : (keysE l).length = l.length ∧ (keysE l)[k]? = some (keyC l k l[k]) := by simp [keysE, hk]
theorem keysC_stop {l : List ByteArray} {k : Nat} (hk : k < l.length) (h0 : firstNZ ((keysE l).take k) = 0) (h1 : keyC l k l[k] ≠ 0) : keysC l = keyC l k l[k] := by
  obtain ⟨h2, h3⟩ := keysE_get hk
  have h4 : (keysE l)[k]'(by omega) = keyC l k l[k] := by rw [List.getElem?_eq_getElem (by omega)] at h3; simpa using h3
  unfold keysC
  rw [firstNZ_stop (by omega) h0 (by rw [h4]; exact h1), h4]
theorem keysC_go {l : List ByteArray} {k : Nat} (hk : k < l.length) (h0 : firstNZ ((keysE l).take k) = 0) (h1 : keyC l k l[k] = 0) : firstNZ ((keysE l).take (k + 1)) = 0 := by
  obtain ⟨h2, h3⟩ := keysE_get hk
  have h4 : (keysE l)[k]'(by omega) = keyC l k l[k] := by rw [List.getElem?_eq_getElem (by omega)] at h3; simpa using h3
  exact firstNZ_go (by omega) h0 (by rw [h4]; exact h1)
theorem checkN_cases (l : List Nat) (most : Int) : checkN l most = 2 ∨ checkN l most = 0 ∨ checkN l most = 9 := by
  unfold checkN; split
  · exact .inl rfl
  · split
    · exact .inr (.inl rfl)
    · exact .inr (.inr rfl)

set_option maxRecDepth 100000 in
set_option maxHeartbeats 1000000 in
theorem keys_any (l : List ByteArray) (v : Value) (w : World) (hv : RdS w v 1 l.length (strsV l)) (hs : ∀ s ∈ l, s.size ≤ maxLen) :
    Calls Tryz.prog 34 #[v] w fun e w' => e = .returned (.int .i64 (keysC l)) ∧ Below w.heap.size w w' := by
  have HV := Lib.hid hv
  have HS := Lib.hid hs
  have hl63 := rds_len2 hv
  obtain ⟨a, cap, rfl⟩ := hv.form
  have hcap : l.length ≤ cap ∧ cap ≤ 9223372036854775807 := by
    obtain ⟨_, a', c', he, h3, h4, _⟩ := hv
    injection he with _ _ e3; subst e3; unfold maxLen at h4; exact ⟨h3, h4⟩
  obtain ⟨hcap1, hcap2⟩ := hcap
  clear hv hs
  go_enter Tryz.func34, Tryz.ntmps34
  go_wp2
  go_loopw [8] (fun i wr => ∃ k : Nat, k ≤ l.length ∧ i = .int .i64 k ∧ Hid (firstNZ ((keysE l).take k) = 0) ∧ Hid (Below w.heap.size w wr)) (fun i _ => l.length - (intOf i).toNat)
  case atStart => exact ⟨0, by omega, rfl, Lib.hid rfl, Lib.hid (Below.refl _ _)⟩
  case round =>
    obtain ⟨k, hk, rfl, HE, HB⟩ := hrel
    by_cases hlt : k < l.length
    · obtain ⟨g, off, rfl, q1, q2, c1⟩ := strs_at (HV.out.below HB.out) hlt
      have hss := HS.out _ (List.getElem_mem hlt)
      unfold maxLen at hss
      have HST := Lib.hid (keysC_stop hlt HE.out)
      have HGO := Lib.hid (keysC_go hlt HE.out)
      have HCC := Lib.hid (checkN_cases (bsN l[k]) 64)
      have HCK := Lib.hid (fun w => Check_any l[k] 64 w (by omega))
      have HKC : Hid (keyC l k l[k] = if checkN (bsN l[k]) 64 = 0 then (if hasS (l.take k) l[k] then 6 else 0) else checkN (bsN l[k]) 64) := Lib.hid rfl
      have HCT := Lib.hid (fun W (hW : Below w.heap.size w W) => ContainsS_any (l.take k) _ l[k] W (rds_takeS (HV.out.below hW) (by omega)))
      generalize keyC l k l[k] = kc at *
      generalize checkN (bsN l[k]) 64 = cn at *
      generalize hasS (l.take k) l[k] = cb at *
      generalize l[k] = s1 at *
      have hk0 : (0 : Int) ≤ (k : Int) := by omega
      have hk1 : (k : Int) < (l.length : Int) := by omega
      have hk2 : (k : Int) ≤ (cap : Int) := by omega
      go_wp2_with fail
      refine (HCK.out _).mono ?_
      rintro e w1 ⟨rfl, hb1⟩
      have hbw1 := bthen HB.out (Nat.le_refl _) hb1
      clear c1
      by_cases hc0 : cn = 0
      · have HKC2 : Hid (kc = if cb then 6 else 0) := Lib.hid (by rw [HKC.out, if_pos hc0])
        have hd : (cn != 0) = false := by simp [hc0]
        clear hc0 HCC
        go_wp2_with fail
        refine (HCT.out _ hbw1).mono ?_
        rintro e w2 ⟨rfl, rfl⟩
        cases cb with
        | true =>
          have HF : Hid (keysC l = 6) := Lib.hid ((HST.out (by rw [HKC2.out]; decide)).trans HKC2.out)
          go_wp2
          go_ret
          exact ⟨by rw [HF.out]; rfl, hbw1⟩
        | false =>
          have HF := Lib.hid (HGO.out HKC2.out)
          go_wp2
          go_roundw
          case rel => exact ⟨k + 1, by omega, by go_num, HF, Lib.hid hbw1⟩
          case measure => simp [intOf]; omega
      · have HF : Hid (keysC l = cn) := Lib.hid ((HST.out (by rw [HKC.out, if_neg hc0]; exact hc0)).trans (by rw [HKC.out, if_neg hc0]))
        have hd : (cn != 0) = true := by simp [hc0]
        clear hc0
        go_wp2
        go_ret
        exact ⟨by rw [HF.out]; rfl, hbw1⟩
    · have HF : Hid (keysC l = 0) := Lib.hid (by
        have h := HE.out
        rwa [List.take_of_length_le (by simp [keysE]; omega)] at h)
      go_wp2
      go_ret
      exact ⟨by rw [HF.out]; rfl, HB.out⟩

theorem toList_nil (s : ByteArray) : s.toList = [] ↔ s.size = 0 := by
  rw [Lib.toList_data]
  have h : s.data.toList.length = s.size := Array.length_toList
  constructor
  · intro hn; rw [hn] at h; exact h.symm
  · intro h0; exact List.eq_nil_of_length_eq_zero (by omega)
set_option maxRecDepth 100000 in
set_option maxHeartbeats 1000000 in
theorem odd_any (x : Tree) (cs : List Value) (w : World) (h : NodeR w cs x) (hsm : ∃ n, SmallP n x) :
    Calls Tryz.prog 32 #[.agg cs.toArray] w fun e w' => e = .returned (.bool (oddT x)) ∧ Below w.heap.size w w' := by
  obtain ⟨k, t, ks, kids, ln⟩ := x
  obtain ⟨n, hn⟩ := hsm
  obtain ⟨_, _, ht, hks, _, _, hkids⟩ := hn.parts
  obtain ⟨ka, kc, ba, bc, rfl⟩ := h.cells
  dsimp only [Tree.kind, Tree.text, Tree.keys, Tree.kids, Tree.line] at *
  have hb0 := (Below.refl w.heap.size w).alloc (Nat.le_refl _) (.cells #[.int .u8 (k : Int), .string t, .slice ka ks.length kc, .slice ba kids.length bc, .int .i64 ln] 25)
  clear h hn
  by_cases k1 : k = 1
  · subst k1
    by_cases hc : 0 < ks.length + kids.length
    · have d1 : decide ((0 : Int) < (ks.length : Int) + (kids.length : Int)) = true := by simp; omega
      have F : Hid (oddT (.mk 1 t ks kids ln) = true) := Lib.hid (by rw [oddT, if_pos rfl]; exact decide_eq_true hc)
      clear hc
      go_enter Tryz.func32, Tryz.ntmps32
      go_wp2
      go_ret
      exact ⟨by rw [F.out]; rfl, hb0⟩
    · have d1 : decide ((0 : Int) < (ks.length : Int) + (kids.length : Int)) = false := by simp; omega
      have F : Hid (oddT (.mk 1 t ks kids ln) = false) := Lib.hid (by rw [oddT, if_pos rfl]; exact decide_eq_false hc)
      clear hc
      go_enter Tryz.func32, Tryz.ntmps32
      go_wp2
      go_ret
      exact ⟨by rw [F.out]; rfl, hb0⟩
  have e1 : ((k : Int) == 1) = false := by simp; omega
  by_cases ht0 : t.size = 0
  · have htn : t.toList = [] := (toList_nil t).2 ht0
    have htb : t.toList.isEmpty = true := by rw [htn]; rfl
    by_cases k2 : k = 2
    · subst k2
      by_cases hc : 0 < ks.length
      · have d1 : decide (0 < ks.length) = true := decide_eq_true hc
        have F : Hid (oddT (.mk 2 t ks kids ln) = true) := Lib.hid (by rw [oddT, if_neg (by decide), if_pos rfl, decide_eq_true hc, Bool.or_true])
        clear hc
        go_enter Tryz.func32, Tryz.ntmps32
        go_wp2
        go_ret
        exact ⟨by rw [F.out]; rfl, hb0⟩
      · have d1 : decide (0 < ks.length) = false := decide_eq_false hc
        have F : Hid (oddT (.mk 2 t ks kids ln) = false) := Lib.hid (by rw [oddT, if_neg (by decide), if_pos rfl, decide_eq_false hc, ht0]; rfl)
        clear hc
        go_enter Tryz.func32, Tryz.ntmps32
        go_wp2
        go_ret
        exact ⟨by rw [F.out]; rfl, hb0⟩
    · have e2 : ((k : Int) == 2) = false := by simp; omega
      by_cases hc : ks.length = kids.length
      · have d1 : ((ks.length : Int) != (kids.length : Int)) = false := by simp; omega
        have F : Hid (oddT (.mk k t ks kids ln) = false) := Lib.hid (by simp [oddT, ht0, k1, k2, hc])
        clear hc k1 k2
        go_enter Tryz.func32, Tryz.ntmps32
        go_wp2
        go_ret
        exact ⟨by rw [F.out]; rfl, hb0⟩
      · have d1 : ((ks.length : Int) != (kids.length : Int)) = true := by simp; omega
        have F : Hid (oddT (.mk k t ks kids ln) = true) := Lib.hid (by simp [oddT, k1, k2, hc])
        clear hc k1 k2
        go_enter Tryz.func32, Tryz.ntmps32
        go_wp2
        go_ret
        exact ⟨by rw [F.out]; rfl, hb0⟩
  · have htn : ¬ t.toList = [] := fun h => ht0 ((toList_nil t).1 h)
    have htb : t.toList.isEmpty = false := by simpa using htn
    by_cases k2 : k = 2
    · subst k2
      have F : Hid (oddT (.mk 2 t ks kids ln) = true) := Lib.hid (by simp [oddT, ht0])
      go_enter Tryz.func32, Tryz.ntmps32
      go_wp2
      go_ret
      exact ⟨by rw [F.out]; rfl, hb0⟩
    · have e2 : ((k : Int) == 2) = false := by simp; omega
      have F : Hid (oddT (.mk k t ks kids ln) = true) := Lib.hid (by simp [oddT, k1, k2, ht0])
      clear k1 k2
      go_enter Tryz.func32, Tryz.ntmps32
      go_wp2
      go_ret
      exact ⟨by rw [F.out]; rfl, hb0⟩
end Go.Proofs.YtdhgcgejdoedbaaGreatDoor

/-
  block.Check: contract.
-/
namespace Go.Proofs.YtdhgcgejdoedbaaGreatDoor
open Go Go.RowKit Go.WideShapes
attribute [local go_sem] Oper.semAt_some wide_fn wide_depth wide_fn' wide_depth'

def codes (l : List Item) : List Int := (levs l).map fun p => nodeC p.1 p.2
theorem codes_snoc (l : List Item) (x : Item) : codes (l ++ [x]) = codes l ++ [nodeC x.1 x.2.2] := by simp [codes, levs]
theorem preT_mem {Q : Tree → Prop} (hQ : ∀ x y, Q x → y ∈ x.kids → Q y) (most : Nat) : ∀ t lev, Q t → ∀ p ∈ preT most lev t, Q p.2 := by
  refine Tree.ind fun k t ks kids l ih lev hq p hp => ?_
  rw [preT] at hp
  split at hp
  · simp at hp
  · rcases List.mem_cons.1 hp with rfl | hp
    · exact hq
    · have : ∀ m : List Tree, (∀ x ∈ m, x ∈ kids) → p ∈ preTs most (lev + 1) m → Q p.2 := by
        intro m hm
        induction m with
        | nil => intro h; simp [preTs] at h
        | cons a m ihm =>
          intro h
          rw [preTs] at h
          rcases List.mem_append.1 h with h | h
          · exact ih a (hm a (List.mem_cons_self ..)) (lev + 1) (hQ _ a hq (hm a (List.mem_cons_self ..))) p h
          · exact ihm (fun x hx => hm x (List.mem_cons_of_mem _ hx)) h
      exact this kids (fun x hx => hx) hp
theorem small_hered : ∀ x y : Tree, (∃ n, SmallP n x) → y ∈ x.kids → ∃ n, SmallP n y := by
  rintro ⟨k, t, ks, kids, l⟩ y ⟨n, hn⟩ hy
  obtain ⟨m, _, _, _, _, h, _⟩ := hn.parts
  exact ⟨m, h y hy⟩

theorem codes_go {pre : List Item} {x : Item} (h0 : firstNZ (codes pre) = 0) (h : nodeC x.1 x.2.2 = 0) : firstNZ (codes (pre ++ [x])) = 0 := by
  rw [codes_snoc, firstNZ_append, if_pos h0, h]; rfl
theorem codes_stop {pre its : List Item} {x : Item} (h0 : firstNZ (codes pre) = 0) (hp : pre ++ [x] <+: its) (h : nodeC x.1 x.2.2 ≠ 0) : firstNZ (codes its) = nodeC x.1 x.2.2 := by
  obtain ⟨r, rfl⟩ := hp
  have e : codes (pre ++ [x] ++ r) = codes pre ++ (nodeC x.1 x.2.2 :: codes r) := by simp [codes, levs]
  rw [e, firstNZ_append, if_pos h0, firstNZ, if_neg h]

def ckJ (w : World) (S : Nat → Prop) (pre : List Item) (W : World) : Prop := firstNZ (codes pre) = 0 ∧ Boxed W (w.heap.size + 1) 28 (.int .i64 0) ∧ ¬ S (w.heap.size + 1) ∧ Below w.heap.size w W
def ckX (w : World) (its : List Item) (c : Code) (S : Nat → Prop) (_ : List Item) (W : World) : Prop := c = .ret ∧ Boxed W (w.heap.size + 1) 28 (.int .i64 (firstNZ (codes its))) ∧ ¬ S (w.heap.size + 1) ∧ Below w.heap.size w W

set_option maxRecDepth 100000 in
set_option maxHeartbeats 2000000 in
theorem CheckB_any (x : Tree) (cs : List Value) (w : World) (h : NodeR w cs x) (hsm : ∃ n, SmallP n x) :
    Calls Tryz.prog 17 #[.agg cs.toArray] w fun e w' => e = .returned (.int .i64 (checkT x)) ∧ Below w.heap.size w w' := by
  have H := Lib.hid h
  obtain ⟨its, hp, hpre, hall⟩ := preC_some w 17 x 1 cs h
  have HCH : Hid (checkT x = firstNZ (codes its)) := Lib.hid (by unfold checkT codes levs; rw [hpre])
  have HSM : Hid (∀ i ∈ its, ∃ n, SmallP n i.2.2) := Lib.hid (fun i hi => by
    have := preT_mem small_hered 17 x 1 hsm (i.1, i.2.2) (by rw [← hpre]; exact List.mem_map.2 ⟨i, hi, rfl⟩)
    exact this)
  have HALL := Lib.hid hall
  have HP := Lib.hid hp
  obtain ⟨ka, kc, ba, bc, rfl⟩ := h.cells
  clear h hp hpre hall hsm
  refine (callsIn_wide (n := 0)).1 ?_
  refine callsIn_of_wp_marks Tryz.func17 rfl trivial ?_ rfl
  simp only [Tryz.ntmps17, List.size_toArray, List.length_cons, List.length_nil, Nat.reduceAdd, Nat.reduceSub, Array.replicate_succ, Array.replicate_zero, List.push_toArray, List.append_toArray, List.nil_append, List.cons_append]
  have hb1 := (Below.refl w.heap.size w).alloc (Nat.le_refl _) (.cells #[.int .u8 (x.kind : Int), .string x.text, .slice ka x.keys.length kc, .slice ba x.kids.length bc, .int .i64 x.line] 25)
  have hb2 := hb1.alloc (by simp) (.cells #[.int .i64 0] 28)
  gi_wp2_with (gi_at_call 25; refine (callsIn_wide.2 (each_any _ x 17 _ (H.out.belowW hb2))).mono ?_; rintro e w1 ⟨rfl, rfl⟩)
  have e1 : Boxed ((((w.alloc (.cells #[.int .u8 (x.kind : Int), .string x.text, .slice ka x.keys.length kc, .slice ba x.kids.length bc, .int .i64 x.line] 25)).alloc (.cells #[.int .i64 0] 28)).alloc (.cells #[.int .u8 (x.kind : Int), .string x.text, .slice ka x.keys.length kc, .slice ba x.kids.length bc, .int .i64 x.line] 25)).alloc (.cells #[.int .i64 17] 3)) (w.heap.size + 1) 28 (.int .i64 0) := by
    have := Boxed.new (w.alloc (.cells #[.int .u8 (x.kind : Int), .string x.text, .slice ka x.keys.length kc, .slice ba x.kids.length bc, .int .i64 x.line] 25)) 28 (.int .i64 0)
    rw [World.size_alloc] at this
    exact (this.alloc _).alloc _
  have e2 : ((((w.alloc (.cells #[.int .u8 (x.kind : Int), .string x.text, .slice ka x.keys.length kc, .slice ba x.kids.length bc, .int .i64 x.line] 25)).alloc (.cells #[.int .i64 0] 28)).alloc (.cells #[.int .u8 (x.kind : Int), .string x.text, .slice ka x.keys.length kc, .slice ba x.kids.length bc, .int .i64 x.line] 25)).alloc (.cells #[.int .i64 17] 3)).heap[w.heap.size + 1 + 1]? = some (.cells #[.int .u8 (x.kind : Int), .string x.text, .slice ka x.keys.length kc, .slice ba x.kids.length bc, .int .i64 x.line] 25 (0, 0)) := by
    have := World.alloc_heap_new ((w.alloc (.cells #[.int .u8 (x.kind : Int), .string x.text, .slice ka x.keys.length kc, .slice ba x.kids.length bc, .int .i64 x.line] 25)).alloc (.cells #[.int .i64 0] 28)) (.cells #[.int .u8 (x.kind : Int), .string x.text, .slice ka x.keys.length kc, .slice ba x.kids.length bc, .int .i64 x.line] 25)
    rw [World.size_alloc, World.size_alloc] at this
    exact (Below.heap_alloc _ _ _ (by simp)).trans this
  have e3 : Boxed ((((w.alloc (.cells #[.int .u8 (x.kind : Int), .string x.text, .slice ka x.keys.length kc, .slice ba x.kids.length bc, .int .i64 x.line] 25)).alloc (.cells #[.int .i64 0] 28)).alloc (.cells #[.int .u8 (x.kind : Int), .string x.text, .slice ka x.keys.length kc, .slice ba x.kids.length bc, .int .i64 x.line] 25)).alloc (.cells #[.int .i64 17] 3)) (w.heap.size + 1 + 1 + 1) 3 (.int .i64 17) := by
    have := Boxed.new (((w.alloc (.cells #[.int .u8 (x.kind : Int), .string x.text, .slice ka x.keys.length kc, .slice ba x.kids.length bc, .int .i64 x.line] 25)).alloc (.cells #[.int .i64 0] 28)).alloc (.cells #[.int .u8 (x.kind : Int), .string x.text, .slice ka x.keys.length kc, .slice ba x.kids.length bc, .int .i64 x.line] 25)) 3 (.int .i64 17)
    rw [World.size_alloc, World.size_alloc, World.size_alloc] at this
    exact this
  have hsz4 : ((((w.alloc (.cells #[.int .u8 (x.kind : Int), .string x.text, .slice ka x.keys.length kc, .slice ba x.kids.length bc, .int .i64 x.line] 25)).alloc (.cells #[.int .i64 0] 28)).alloc (.cells #[.int .u8 (x.kind : Int), .string x.text, .slice ka x.keys.length kc, .slice ba x.kids.length bc, .int .i64 x.line] 25)).alloc (.cells #[.int .i64 17] 3)).heap.size = w.heap.size + 4 := by simp
  have gbl : Below w.heap.size w ((((w.alloc (.cells #[.int .u8 (x.kind : Int), .string x.text, .slice ka x.keys.length kc, .slice ba x.kids.length bc, .int .i64 x.line] 25)).alloc (.cells #[.int .i64 0] 28)).alloc (.cells #[.int .u8 (x.kind : Int), .string x.text, .slice ka x.keys.length kc, .slice ba x.kids.length bc, .int .i64 x.line] 25)).alloc (.cells #[.int .i64 17] 3)) := (hb2.alloc (by simp; omega) _).alloc (by simp; omega) _
  generalize ((((w.alloc (.cells #[.int .u8 (x.kind : Int), .string x.text, .slice ka x.keys.length kc, .slice ba x.kids.length bc, .int .i64 x.line] 25)).alloc (.cells #[.int .i64 0] 28)).alloc (.cells #[.int .u8 (x.kind : Int), .string x.text, .slice ka x.keys.length kc, .slice ba x.kids.length bc, .int .i64 x.line] 25)).alloc (.cells #[.int .i64 17] 3)) = w4 at *
  have HB2 := Lib.hid hb2
  clear hb1 hb2
  refine' wpIn_rf rfl (enters_of Tryz.func45 (by kernel_rfl) rfl) (each_iter w 17 w.heap.size (w.heap.size + 1 + 1 + 1) (w.heap.size + 1 + 1) _ x its w4 (by omega) (Nat.le_refl _) (by omega) (by omega) (by omega) H.out HP.out gbl e3 e2) (by omega) (by rintro j (rfl | rfl) <;> omega) (fun _ => rfl)
    (ckJ w) (ckX w its) ?hfin ?hJ ?hJx ?h0 ?Ax ?hAx ?assign ?body ?done ?stop
  case Ax => exact fun y a' W => ∃ b, a' = { tmps := #[.agg #[.int .u8 (x.kind : Int), .string x.text, .slice ka x.keys.length kc, .slice ba x.kids.length bc, .int .i64 x.line], .pointer (some ⟨w.heap.size, 0, none⟩), .pointer (some ⟨w.heap.size + 1, 0, none⟩), .int .i64 (y.1 : Int), .pointer (some ⟨b, 0, none⟩), undef, undef, .agg #[.int .u8 (x.kind : Int), .string x.text, .slice ka x.keys.length kc, .slice ba x.kids.length bc, .int .i64 x.line], .func (.func 45) #[] #[.pointer (some ⟨w.heap.size + 1 + 1 + 1, 0, none⟩), .pointer (some ⟨w.heap.size + 1 + 1, 0, none⟩)], .int .i64 (y.1 : Int), .agg y.2.1.toArray, undef, undef, undef, undef, undef, undef, undef, undef, undef, undef, undef, undef, undef, undef, undef, undef, undef, undef, undef, undef, undef, undef, undef, undef, undef, undef, undef], defers := [] } ∧ W.heap[b]? = some (.cells y.2.1.toArray 25 (0, 0))
  case assign =>
    rintro l S pre y W K hS hw ⟨h0, h1, h2, h3⟩ hpre hK
    have hmem : y ∈ its := hpre.subset (by simp)
    have hny := HALL.out y hmem
    obtain ⟨lev, cy, ty⟩ := y
    obtain ⟨ka1, kc1, ba1, bc1, hce⟩ := hny.cells
    dsimp only at hce
    subst hce
    dsimp only [encE]
    clear hpre hny
    have HS := Lib.hid hS
    have HK := Lib.hid hK
    clear hS hK
    gi_wp2
    have hal : Below W.heap.size W (W.alloc (.cells #[.int .u8 (ty.kind : Int), .string ty.text, .slice ka1 ty.keys.length kc1, .slice ba1 ty.kids.length bc1, .int .i64 ty.line] 25)) := (Below.refl _ _).alloc (Nat.le_refl _) _
    refine HK.out _ _ ⟨hal.mono (by omega), fun j hj => hal.block j (HS.out j hj).2⟩ ⟨h0, h1.alloc _, h2, bthen h3 (by omega) hal⟩ ⟨W.heap.size, rfl, World.alloc_heap_new W _⟩
  case hAx =>
    rintro y a' l W W' hl hlt ⟨b, rfl, hb⟩ hs ⟨r, hr⟩
    have hne : b ≠ l := by rintro rfl; rw [hr] at hb; cases hb
    exact ⟨b, rfl, (hs.same b (Array.getElem?_eq_some_iff.1 hb).1 hne).trans hb⟩
  case hfin => exact fun h => absurd trivial h
  case hJ =>
    rintro S S' s W W' hS ⟨h0, h1, h2, h3⟩ hs
    exact ⟨h0, (hs.boxed h1 h2).1, (hs.boxed h1 h2).2, h3.trans hs.below⟩
  case hJx =>
    rintro c S S' s W W' hS ⟨h0, h1, h2, h3⟩ hs
    exact ⟨h0, (hs.boxed h1 h2).1, (hs.boxed h1 h2).2, h3.trans hs.below⟩
  case h0 => exact ⟨rfl, e1, by omega, gbl⟩
  case done =>
    rintro D S W hD hS hSD ⟨h0, h1, h2, h3⟩ hKD
    have q1 := h1.cell
    have q2 := h1.frozen
    have HS := Lib.hid hS
    have HF : Hid (checkT x = 0) := Lib.hid (HCH.out.trans h0)
    clear hS h0
    gi_wp2
    have hS' := HS.out D hSD
    have hne : D ≠ w.heap.size + 1 := by omega
    have hk2 : (W.setCell ⟨w.heap.size + 1, 0, none⟩ (.int .i64 0)).heap[D]? = some (.deferred (some [])) := by
      rw [Below.heap_setCell _ _ _ _ (fun e => hne e)]; exact hKD
    have h6 : Boxed ((W.setCell ⟨w.heap.size + 1, 0, none⟩ (.int .i64 0)).putObj D (.deferred none)) (w.heap.size + 1) 28 (.int .i64 0) := (World.putObj_heap_other (by omega)).trans (h1.set _)
    have hc6 := h6.cell
    refine ⟨by simp, .inl ⟨_, _, rfl, run_takeDeferred hk2, ?_⟩⟩
    exact ⟨.int .i64 0, by simp [results, Tryz.results17, go_sem, hc6], by rw [HF.out], (h3.setCell (by simp) _).trans (below_putObj _ _ (by omega))⟩
  case stop =>
    rintro D c S pre W hD hS hSD hpre ⟨rfl, h1, h2, h3⟩ hKD
    have q1 := h1.cell
    have HS := Lib.hid hS
    clear hS
    gi_wp2
    have h6 : Boxed (W.putObj D (.deferred none)) (w.heap.size + 1) 28 (.int .i64 (firstNZ (codes its))) := (World.putObj_heap_other (by omega)).trans h1
    have hc6 := h6.cell
    refine ⟨by simp, .inl ⟨_, _, rfl, run_takeDeferred hKD, ?_⟩⟩
    exact ⟨.int .i64 (firstNZ (codes its)), by simp [results, Tryz.results17, go_sem, hc6], by rw [HCH.out], h3.trans (below_putObj _ _ (by omega))⟩
  case body =>
    rintro l S pre y a' W hS hw hSl - ⟨h0, h1, h2, h3⟩ ⟨b, rfl, hb⟩ hpre
    have hmem : y ∈ its := hpre.subset (by simp)
    have hny := HALL.out y hmem
    have hsm := HSM.out y hmem
    have HGO := Lib.hid (codes_go h0 (x := y))
    have HST := Lib.hid (codes_stop h0 hpre)
    obtain ⟨lev, cy, ⟨k, t, ks, kids, ln⟩⟩ := y
    obtain ⟨ka1, kc1, ba1, bc1, hce⟩ := hny.cells
    dsimp only [Tree.kind, Tree.text, Tree.keys, Tree.kids, Tree.line] at *
    subst hce
    have HNY := Lib.hid hny
    have HSMY := Lib.hid hsm
    obtain ⟨vk', vc', hce, hk8, ht, hks, _, hkr, _⟩ := hny.parts
    cases hce
    have HKR := Lib.hid hkr
    have HKS := Lib.hid hks
    have HN0 : Hid (nodeC lev (.mk k t ks kids ln) = if 16 < lev then 11 else if k < 1 ∨ 3 < k then 7 else if oddT (.mk k t ks kids ln) then 3 else if checkN (bsN t) 4096 = 0 then keysC ks else checkN (bsN t) 4096) := Lib.hid rfl
    unfold maxLen at ht
    obtain ⟨p0, p1, p2, p3, p4⟩ := cells5B hb
    have q1 := h1.cell
    have q2 := h1.frozen
    have HKEEP : Hid (∀ (v : Value) (W' : World), Below W.heap.size W W' → Keep w.heap.size S W (W'.setCell ⟨w.heap.size + 1, 0, none⟩ v)) := Lib.hid (fun v W' hb' => ⟨(hb'.mono (by omega)).setCell (by simp) _, fun j hj => by
      rw [Below.heap_setCell _ _ _ _ (fun e => h2 (by rw [show j = w.heap.size + 1 from e] at hj; exact hj))]; exact hb'.block j (hS j hj).2⟩)
    have HRET : Hid (∀ (c : Int) (W' : World), Below W.heap.size W W' → nodeC lev (.mk k t ks kids ln) = c → c ≠ 0 → ckX w its .ret S (pre ++ [(lev, [.int .u8 (k : Int), .string t, .slice ka1 ks.length kc1, .slice ba1 kids.length bc1, .int .i64 ln], .mk k t ks kids ln)]) (W'.setCell ⟨w.heap.size + 1, 0, none⟩ (.int .i64 c)) ∧ Keep w.heap.size S W (W'.setCell ⟨w.heap.size + 1, 0, none⟩ (.int .i64 c))) := Lib.hid (fun c W' hb' hc hc0 => by
      have hx : Boxed W' (w.heap.size + 1) 28 (.int .i64 0) := (hb'.block _ h1.lt).trans h1
      have e : firstNZ (codes its) = c := (HST.out (by rw [hc]; exact hc0)).trans hc
      exact ⟨⟨rfl, by rw [e]; exact hx.set _, h2, (bthen h3 (by omega) hb').setCell (by simp) _⟩, HKEEP.out _ _ hb'⟩)
    have HSB : Hid (∀ j, S j → j < W.heap.size) := Lib.hid (fun j hj => (hS j hj).2)
    clear hS hpre hny hsm hkr hks
    by_cases c1 : 16 < lev
    · have HC := Lib.hid (HN0.out.trans (if_pos c1))
      have d1 : decide ((16 : Int) < (lev : Int)) = true := by simp; omega
      gi_wp2
      exact HRET.out _ _ (Below.refl _ _) HC.out (by decide)
    have d1 : decide ((16 : Int) < (lev : Int)) = false := by simp; omega
    by_cases c2 : k < 1
    · have HC := Lib.hid (HN0.out.trans ((if_neg c1).trans (if_pos (.inl c2))))
      have d2 : decide ((k : Int) < 1) = true := by simp; omega
      clear c2
      gi_wp2
      exact HRET.out _ _ (Below.refl _ _) HC.out (by decide)
    by_cases c3 : 3 < k
    · have HC := Lib.hid (HN0.out.trans ((if_neg c1).trans (if_pos (.inr c3))))
      gi_wp2
      exact HRET.out _ _ (Below.refl _ _) HC.out (by decide)
    have HN1 := Lib.hid (HN0.out.trans ((if_neg c1).trans (if_neg (show ¬ (k < 1 ∨ 3 < k) by omega))))
    have d3 : decide ((k : Int) < 1) = false := by simp; omega
    have d4 : decide ((3 : Int) < (k : Int)) = false := by simp; omega
    have HOD := Lib.hid (odd_any _ _ W (HNY.out.belowW h3) HSMY.out)
    generalize oddT (.mk k t ks kids ln) = ob at *
    cases ob with
    | true =>
      have HC := Lib.hid (HN1.out.trans (if_pos rfl))
      gi_wp2_with fail
      refine ((callsIn_wide.2 HOD.out).inRound l).mono ?_
      rintro e W2 ⟨rfl, hb2⟩
      have q1 := cellB hb2 q1
      have hx2 : Boxed W2 (w.heap.size + 1) 28 (.int .i64 0) := (hb2.block _ h1.lt).trans h1
      have q2 := hx2.frozen
      gi_wp2
      exact HRET.out _ _ hb2 HC.out (by decide)
    | false =>
      have HN2 := Lib.hid (HN1.out.trans (if_neg (by decide)))
      have HCK := Lib.hid (fun W => Check_any t 4096 W (by omega))
      have HKY := Lib.hid (fun W (hW : Below w.heap.size w W) => keys_any ks _ W (HKR.out.below hW) HKS.out)
      generalize checkN (bsN t) 4096 = cn at *
      generalize keysC ks = kcode at *
      gi_wp2_with fail
      refine ((callsIn_wide.2 HOD.out).inRound l).mono ?_
      rintro e W2 ⟨rfl, hb2⟩
      have p1 := cellB hb2 p1
      have p2 := cellB hb2 p2
      have q1 := cellB hb2 q1
      have hx2 : Boxed W2 (w.heap.size + 1) 28 (.int .i64 0) := (hb2.block _ h1.lt).trans h1
      have q2 := hx2.frozen
      clear p0 p3 p4
      gi_wp2_with fail
      refine ((callsIn_wide.2 (HCK.out W2)).inRound l).mono ?_
      rintro e W3 ⟨rfl, hb3⟩
      have p2 := cellB hb3 p2
      have q1 := cellB hb3 q1
      have hx3 : Boxed W3 (w.heap.size + 1) 28 (.int .i64 0) := (hb3.block _ hx2.lt).trans hx2
      have q2 := hx3.frozen
      have hb23 := bthen hb2 (Nat.le_refl _) hb3
      have hbw3 := bthen h3 (by omega) hb23
      clear p1
      by_cases c4 : cn = 0
      · have HN3 := Lib.hid (HN2.out.trans (if_pos c4))
        have d5 : (cn != 0) = false := by simp [c4]
        clear c4
        gi_wp2_with fail
        refine ((callsIn_wide.2 (HKY.out W3 hbw3)).inRound l).mono ?_
        rintro e W4 ⟨rfl, hb4⟩
        have q1 := cellB hb4 q1
        have hx4 : Boxed W4 (w.heap.size + 1) 28 (.int .i64 0) := (hb4.block _ hx3.lt).trans hx3
        have q2 := hx4.frozen
        have hb24 := bthen hb23 (Nat.le_refl _) hb4
        by_cases c5 : kcode = 0
        · have HG := Lib.hid (HGO.out (HN3.out.trans c5))
          have d6 : (kcode != 0) = false := by simp [c5]
          clear c5
          gi_wp2
          exact ⟨⟨HG.out, hx4, h2, bthen h3 (by omega) hb24⟩, ⟨hb24.mono (by have := h1.lt; omega), fun j hj => hb24.block j (HSB.out j hj)⟩⟩
        · have d6 : (kcode != 0) = true := by simp [c5]
          have HC5 := Lib.hid c5
          clear c5
          gi_wp2
          exact HRET.out _ _ hb24 HN3.out HC5.out
      · have HC := Lib.hid (HN2.out.trans (if_neg c4))
        have d5 : (cn != 0) = true := by simp [c4]
        have HC4 := Lib.hid c4
        clear c4
        gi_wp2
        exact HRET.out _ _ hb23 HC.out HC4.out
end Go.Proofs.YtdhgcgejdoedbaaGreatDoor

/-
  rescriptref20: has, check, Check, Size; rescriptref21.None: contracts.
-/
namespace Go.Proofs.YtdhgcgejdoedbaaGreatDoor
open Go Go.RowKit Go.WideShapes

def noneT (x : Tree) : Bool := decide (x.kind = 0) && decide (x.text.size = 0) && decide (x.keys.length = 0) && decide (x.kids.length = 0)
end Go.Proofs.YtdhgcgejdoedbaaGreatDoor

/-
  def: note, texts, fits: contracts; what is wrong with a step and a definition (plain).
-/
namespace Go.Proofs.YtdhgcgejdoedbaaGreatDoor
open Go Go.RowKit Go.WideShapes

def c64 (s : ByteArray) : Int := checkN (bsN s) 64
def fitsB (l : List Int) : Bool := l.all fun x => decide (0 ≤ x) && decide (x ≤ 999999999)
end Go.Proofs.YtdhgcgejdoedbaaGreatDoor
