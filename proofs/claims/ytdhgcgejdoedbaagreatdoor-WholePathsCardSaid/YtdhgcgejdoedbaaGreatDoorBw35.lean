/-
  rescripttop.count.
-/
import Derived.Deep.CutBlock
import Derived.Test.YtdhgcgejdoedbaaGreatDoorBw7
import Derived.Test.YtdhgcgejdoedbaaGreatDoorBw18
import Derived.Test.YtdhgcgejdoedbaaGreatDoorBw34
namespace Go.Proofs.YtdhgcgejdoedbaaGreatDoor
open Go.RowKit Go.WideShapes

def cntO (k a b i : Nat) : Nat := if k = 1 then (if i = 0 then 1 else 0) else if b = 0 then (if k = 2 then (if i = 1 then 1 else 0) else if i = 2 then 1 else 0) else if k = 3 then (if i = 3 then a else 0) else if i = 4 then b else 0
mutual
def cntT (i : Nat) : Tree → Nat
  | .mk k _ ks kids _ => cntO k ks.length kids.length i + cntTs i kids
def cntTs (i : Nat) : List Tree → Nat
  | [] => 0
  | x :: l => cntT i x + cntTs i l
end
theorem fset0 {W : World} {P : Nat} {c0 c1 c2 c3 c4 v : Value} {t : TypeId} (h : W.heap[P]? = some (.cells #[c0, c1, c2, c3, c4] t (0, 0))) : (W.setCell ⟨P, 0, none⟩ v).heap[P]? = some (.cells #[v, c1, c2, c3, c4] t (0, 0)) := by simp [World.setCell, h, Array.getElem?_modify]
theorem fset1 {W : World} {P : Nat} {c0 c1 c2 c3 c4 v : Value} {t : TypeId} (h : W.heap[P]? = some (.cells #[c0, c1, c2, c3, c4] t (0, 0))) : (W.setCell ⟨P, 1, none⟩ v).heap[P]? = some (.cells #[c0, v, c2, c3, c4] t (0, 0)) := by simp [World.setCell, h, Array.getElem?_modify]
theorem fset3 {W : World} {P : Nat} {c0 c1 c2 c3 c4 v : Value} {t : TypeId} (h : W.heap[P]? = some (.cells #[c0, c1, c2, c3, c4] t (0, 0))) : (W.setCell ⟨P, 3, none⟩ v).heap[P]? = some (.cells #[c0, c1, c2, v, c4] t (0, 0)) := by simp [World.setCell, h, Array.getElem?_modify]
end Go.Proofs.YtdhgcgejdoedbaaGreatDoor

/-
  Plain facts of a tree's lines and tokens: how many, how deep, how long (no program).
-/
namespace Go.Proofs.YtdhgcgejdoedbaaGreatDoor
open Go.RowKit Go.WideShapes

theorem okT_nil : OkT { data := #[] } := ⟨by decide, Utf.nil⟩
theorem okT_headD {ks : List ByteArray} (h : ∀ s ∈ ks, OkT s ∧ s.size ≤ 64) : OkT (ks.headD { data := #[] }) := by
  cases ks with
  | nil => exact okT_nil
  | cons a l => exact (h a (by simp)).1
theorem okL_leaf {x : Tree} (h : GoodT x) : OkL (leafO x) := by
  unfold leafO leafD
  split
  · trivial
  · split
    · trivial
    · exact h.text
theorem okB_key {k : ByteArray} {y : Tree} (hk : OkT k) (hy : GoodT y) : OkB (keyB k y) := by
  unfold keyB
  cases y.kids.isEmpty with
  | true => exact ⟨hk, okL_leaf hy⟩
  | false => exact hk
theorem blk_ok : ∀ x, GoodT x → OkB (hdB x) ∧ ∀ c, ∀ p ∈ tlT c x, OkB p.2 := by
  refine Tree.ind fun k t ks kids l ih h => ?_
  have hks := h.keys
  simp only [Tree.keys] at hks
  have hkids := h.kids
  simp only [Tree.kids] at hkids
  refine ⟨?_, fun c p hp => ?_⟩
  · cases kids with
    | nil => exact okL_leaf h
    | cons y m =>
      show OkB (if k = 2 then _ else _)
      split
      · exact (ih y (by simp) (hkids y (by simp))).1
      · exact okB_key (okT_headD hks) (hkids y (by simp))
  · have hS : ∀ m : List Tree, (∀ y ∈ m, y ∈ kids) → ∀ p ∈ tlS c m, OkB p.2 := by
      intro m hm
      induction m with
      | nil => intro p hp; simp [tlS] at hp
      | cons y m ihm =>
        intro p hp
        rw [tlS] at hp
        have hy := hm y (by simp)
        rcases List.mem_append.1 hp with hp | hp
        · exact (ih y hy (hkids y hy)).2 _ p hp
        · rcases List.mem_append.1 hp with hp | hp
          · cases m with
            | nil => simp [nxS] at hp
            | cons z m =>
              simp only [nxS, List.mem_singleton] at hp
              subst hp
              exact (ih z (hm z (by simp)) (hkids z (hm z (by simp)))).1
          · exact ihm (fun y hy => hm y (by simp [hy])) p hp
    have hM : ∀ (m : List Tree), (∀ y ∈ m, y ∈ kids) → ∀ (qs : List ByteArray), (∀ s ∈ qs, OkT s ∧ s.size ≤ 64) → ∀ p ∈ tlM c qs m, OkB p.2 := by
      intro m hm
      induction m with
      | nil => intro qs _ p hp; simp [tlM] at hp
      | cons y m ihm =>
        intro qs hq p hp
        rw [tlM] at hp
        have hy := hm y (by simp)
        have hqt : ∀ s ∈ qs.tail, OkT s ∧ s.size ≤ 64 := fun s hs => hq s (List.mem_of_mem_tail hs)
        rcases List.mem_append.1 hp with hp | hp
        · split at hp
          · simp at hp
          · rcases List.mem_cons.1 hp with rfl | hp
            · exact (ih y hy (hkids y hy)).1
            · exact (ih y hy (hkids y hy)).2 _ p hp
        · rcases List.mem_append.1 hp with hp | hp
          · cases m with
            | nil => simp [nxM] at hp
            | cons z m =>
              simp only [nxM, List.mem_singleton] at hp
              subst hp
              exact okB_key (okT_headD hqt) (hkids z (hm z (by simp)))
          · exact ihm (fun y hy => hm y (by simp [hy])) qs.tail hqt p hp
    rw [tlT] at hp
    split at hp
    · exact hS kids (fun _ h => h) p hp
    · exact hM kids (fun _ h => h) ks hks p hp
theorem blkT_ok {x : Tree} (h : GoodT x) : ∀ p ∈ blkT x, OkB p.2 := by
  intro p hp
  rcases List.mem_cons.1 hp with rfl | hp
  · exact (blk_ok x h).1
  · exact (blk_ok x h).2 0 p hp

/-! ### How many tokens -/
theorem bkT_len : ∀ (x : Tree) (m n c : Nat), SmallP m x → (bkT n c x).length + 3 ≤ 4 * countT m x := by
  refine Tree.ind fun k t ks kids l ih m n c h => ?_
  obtain ⟨m, rfl, _, _, _, hkids, _⟩ := h.parts
  rw [bkT, countT]
  split
  · simp; omega
  · have hS : ∀ (q : List Tree), (∀ y ∈ q, y ∈ kids) → ∀ n, (bkS n c q).length ≤ 4 * countTs m q := by
      intro q hq
      induction q with
      | nil => intro n; simp [bkS]
      | cons y q ihq =>
        intro n
        rw [bkS, countTs]
        have h1 := ih y (hq y (by simp)) m n (c + 2) (hkids y (hq y (by simp)))
        have h2 := ihq (fun y hy => hq y (by simp [hy])) (n + 1 + (tlT (c + 2) y).length)
        simp only [List.length_cons, List.length_append]; omega
    have hM : ∀ (q : List Tree), (∀ y ∈ q, y ∈ kids) → ∀ n (qs : List ByteArray), (bkM n c qs q).length ≤ 4 * countTs m q := by
      intro q hq
      induction q with
      | nil => intro n qs; simp [bkM]
      | cons y q ihq =>
        intro n qs
        rw [bkM, countTs]
        have h1 := ih y (hq y (by simp)) m (n + 1) (c + 2) (hkids y (hq y (by simp)))
        have h2 := ihq (fun y hy => hq y (by simp [hy])) (n + 1 + (if y.kids.isEmpty then 0 else (tlT (c + 2) y).length + 1)) qs.tail
        simp only [List.length_cons, List.length_append]
        split
        · rename_i he
          rw [he] at h2
          simp only [List.length_singleton] at *
          simp only [if_true] at h2
          omega
        · rename_i he
          rw [if_neg he] at h2
          simp only [List.length_cons, List.length_append, List.length_nil]; omega
    split
    · have := hS kids (fun _ h => h) n; omega
    · have := hM kids (fun _ h => h) n ks; omega

/-! ### How long the text is -/
theorem leafL_len (x : LeafD) : (leafL x).length ≤ 4 * (leafT x).size + 2 := by
  cases x with
  | word t => have := wrL_len (bsN t); rw [bsN_len] at this; exact this
  | noSeq => simp [leafL]
  | noMap => simp [leafL]
theorem leafT_le (x : Tree) : (leafT (leafO x)).size ≤ x.text.size := by
  unfold leafO leafD
  split
  · exact Nat.zero_le _
  · split
    · exact Nat.zero_le _
    · exact Nat.le_refl _
theorem key_len {ks : List ByteArray} (h : ∀ s ∈ ks, s.size ≤ 200) (j : Nat) : (wrL (bsN (ks.getD j { data := #[] }))).length ≤ 802 := by
  have h1 := wrL_len (bsN (ks.getD j { data := #[] }))
  have h2 : (ks.getD j { data := #[] }).size ≤ 200 := by
    by_cases hj : j < ks.length
    · have : ks.getD j { data := #[] } = ks[j] := by simp [List.getD, hj]
      rw [this]; exact h _ (List.getElem_mem hj)
    · have : ks.getD j { data := #[] } = { data := #[] } := by simp [List.getD, hj]
      rw [this]; exact Nat.zero_le _
  rw [bsN_len] at h1
  omega
theorem countTs_app (m : Nat) : ∀ (a b : List Tree), countTs m (a ++ b) = countTs m a + countTs m b
  | [], b => by simp [countTs]
  | x :: a, b => by rw [List.cons_append, countTs, countTs_app m a b, countTs]; omega
theorem outN_len : ∀ (x : Tree) (m c : Nat) (f : List Nat), SmallP m x → c + 2 * m ≤ 1000 → (outN f c x).length + 40000 ≤ f.length + 80000 * countT m x := by
  refine Tree.ind fun k t ks kids l ih m c f h hc => ?_
  obtain ⟨m, rfl, ht, _, hks, hkids, _⟩ := h.parts
  rw [countT]
  by_cases h0 : kids = []
  · obtain ⟨h1, h2⟩ := leaf_hd (y := .mk k t ks kids l) (by rw [h0]; rfl) c
    unfold outN
    rw [h1, h2]
    have h3 := leafL_len (leafO (.mk k t ks kids l))
    have h4 := leafT_le (.mk k t ks kids l)
    simp only [Tree.text] at h4
    have h5 : bodyS (.leaf (leafO (.mk k t ks kids l))) = leafL (leafO (.mk k t ks kids l)) := rfl
    rw [h5]
    simp only [List.length_append, List.length_cons, textB, List.flatMap_nil, List.length_nil]
    omega
  · have hj : ∀ j, j ≤ kids.length → 1 ≤ j → (outJ (.mk k t ks kids l) f c j).length ≤ f.length + 80000 * countTs m (kids.take j) := by
      intro j
      induction j with
      | zero => intro _ h; omega
      | succ j ihj =>
        intro hjl _
        have hlt : j < kids.length := by omega
        have hy := List.getElem_mem hlt
        rw [outJ, List.take_succ_eq_append_getElem hlt, countTs_app, countTs, countTs, List.length_append]
        simp only [Tree.kids, Tree.keys, Tree.kind]
        have e : kids.getD j noTree = kids[j] := by simp [List.getD, hlt]
        rw [e]
        have hp : ∀ pf : List Nat, (pieceN k pf c (ks.getD j { data := #[] }) kids[j]).length + 40000 ≤ pf.length + 80000 * countT m kids[j] + c + 900 := by
          intro pf
          have hkl := key_len hks j
          unfold pieceN
          split
          · have := ih _ hy m (c + 2) (pf ++ [45, 32]) (hkids _ hy) (by omega)
            simp only [List.length_append, List.length_cons, List.length_nil] at this
            omega
          · split
            · have := ih _ hy m 0 (pf ++ wrL (bsN (ks.getD j { data := #[] })) ++ [58, 32]) (hkids _ hy) (by omega)
              simp only [List.length_append, List.length_cons, List.length_nil] at this
              omega
            · have := ih _ hy m (c + 2) (List.replicate (c + 2) 32) (hkids _ hy) (by omega)
              simp only [List.length_append, List.length_cons, List.length_nil, List.length_replicate] at this ⊢
              omega
        by_cases hj0 : j = 0
        · subst hj0
          have := hp f
          simp only [outJ, List.length_nil, if_true, List.take_zero, countTs] at this ⊢
          omega
        · have h1 := ihj (by omega) (by omega)
          have h2 := hp (List.replicate c 32)
          rw [if_neg hj0]
          simp only [List.length_replicate] at h2
          omega
    have hn : 1 ≤ kids.length := by
      cases kids with
      | nil => exact absurd rfl h0
      | cons a b => simp
    have h1 := hj kids.length (Nat.le_refl _) hn
    rw [List.take_length] at h1
    have h2 := outJ_all (.mk k t ks kids l) f c h0
    simp only [Tree.kids] at h2
    rw [← h2]
    omega
theorem outN_blk (x : Tree) : outN [] 0 x = textB (blkT x) := by
  unfold outN blkT
  rw [textB_cons]; rfl

/-! ### How many of a kind -/
/-! ### How deep -/
end Go.Proofs.YtdhgcgejdoedbaaGreatDoor

/-
  block.Print.
-/
namespace Go.Proofs.YtdhgcgejdoedbaaGreatDoor
open Go.RowKit Go.WideShapes

set_option maxRecDepth 100000 in
theorem bLen_any (B b : Nat) (bs : List Value) (w : World) (h : Lib.IsBuilder 55 5 B b bs w) :
    Calls Tryz.prog 19 #[.pointer (some ⟨b, 0, none⟩)] w fun e w' => e = .returned (.int .i64 (bs.length : Nat)) ∧ w = w' := by
  have hc : ∃ va vc, w.cell? ⟨b, 1, none⟩ = some (.slice va bs.length vc) := by
    rcases h with ⟨_, v, h2, h3, _⟩ | ⟨_, v, h2, h3, _⟩
    · obtain ⟨va, vc, rfl⟩ := (RdS.of_owns h3).form
      exact ⟨va, vc, by simp [World.cell?, h2]⟩
    · obtain ⟨va, vc, rfl⟩ := (RdS.of_owns h3).form
      exact ⟨va, vc, by simp [World.cell?, h2]⟩
  obtain ⟨va, vc, hc⟩ := hc
  clear h
  go_enter Tryz.func19, Tryz.ntmps19
  go_wp2_with fail
  go_ret
  exact ⟨rfl, rfl⟩
theorem textB_lt : ∀ ls : List (Nat × BodyD), AllLt 256 (textB ls)
  | [] => by intro c hc; simp [textB] at hc
  | x :: ls => by
    rw [textB_cons]
    intro c hc
    rcases List.mem_append.1 hc with hc | hc
    · rcases List.mem_append.1 hc with hc | hc
      · rw [List.eq_of_mem_replicate hc]; decide
      · exact body_lt x.2 c hc
    · rcases List.mem_cons.1 hc with rfl | hc
      · decide
      · exact textB_lt ls c hc
def PrintP (x : Tree) (s : ByteArray) (e : Int) : Prop := (e ≠ 0 ∧ s = { data := #[] }) ∨ (e = 0 ∧ checkT x = 0 ∧ bsN s = textB (blkT x) ∧ s.size ≤ 1048576)
set_option maxRecDepth 100000 in
set_option maxHeartbeats 2000000 in
theorem print_any (x : Tree) (cs : List Value) (w : World) (h : NodeR w cs x) (hsm : SmallP 18 x) (hct : countT 18 x ≤ 150) :
    Calls Tryz.prog 7 #[.agg cs.toArray] w fun e w' => ∃ (s : ByteArray) (c : Int), e = .returned (.tuple #[.string s, .int .i64 c]) ∧ PrintP x s c ∧ Below w.heap.size w w' := by
  obtain ⟨ka, kc, ba, bc, rfl⟩ := h.cells
  have hb := (Below.refl w.heap.size w).alloc (Nat.le_refl _) (.cells #[.int .u8 (x.kind : Int), .string x.text, .slice ka x.keys.length kc, .slice ba x.kids.length bc, .int .i64 x.line] 25)
  have hx := World.alloc_heap_new w (.cells #[.int .u8 (x.kind : Int), .string x.text, .slice ka x.keys.length kc, .slice ba x.kids.length bc, .int .i64 x.line] 25)
  have hw1 : w.heap.size < (w.alloc (.cells #[.int .u8 (x.kind : Int), .string x.text, .slice ka x.keys.length kc, .slice ba x.kids.length bc, .int .i64 x.line] 25)).heap.size := by simp
  have HN := Lib.hid (h.belowW hb)
  have HB := Lib.hid hb
  have HCK := Lib.hid (CheckB_any x _ _ HN.out ⟨18, hsm⟩)
  have hol := outN_len x 18 0 [] hsm (by decide)
  have HPL : Hid (∀ s : ByteArray, s = outS { data := #[] } 0 x → bsN s = textB (blkT x) ∧ s.size = (textB (blkT x)).length ∧ s.size ≤ 20000000) := Lib.hid (fun s hs => by
    have h2 := outN_blk x
    have h4 : outN (bsN { data := #[] }) 0 x = outN [] 0 x := rfl
    have h5 : s = mkS (textB (blkT x)) := by rw [hs, ← h2]; rfl
    have h6 : AllLt 256 (textB (blkT x)) := by
      exact textB_lt _
    have h7 := congrArg List.length h2
    simp only [List.length_nil] at hol
    rw [h5]
    refine ⟨bsN_mkS h6, mkS_size _, ?_⟩
    rw [mkS_size]; omega)
  have HGD := Lib.hid (fun h : checkT x = 0 => good_of h)
  obtain ⟨p0, p1, p2, p3, p4⟩ := cells5 hx
  have HXZ := Lib.hid hx
  have HOL : Hid (([] : List Value).length + (outN (bsN { data := #[] }) 0 x).length ≤ 140000000000000) := Lib.hid (by
    have h4 : outN (bsN { data := #[] }) 0 x = outN [] 0 x := rfl
    rw [h4]
    simp only [List.length_nil] at hol ⊢
    omega)
  clear h hb hx hsm hct hol
  go_enter Tryz.func7, Tryz.ntmps7
  go_wp2_with fail
  generalize w.alloc (.cells #[.int .u8 (x.kind : Int), .string x.text, .slice ka x.keys.length kc, .slice ba x.kids.length bc, .int .i64 x.line] 25) = w1 at *
  refine HCK.out.mono ?_
  rintro e w2 ⟨rfl, hb2⟩
  have HB2 := Lib.hid (HB.out.trans (hb2.mono HB.out.size))
  have HN2 := Lib.hid (HN.out.belowW hb2)
  have HX2 := Lib.hid ((hb2.block _ hw1).trans HXZ.out)
  have r0 := cellB hb2 p0
  have r1 := cellB hb2 p1
  have r2 := cellB hb2 p2
  have r3 := cellB hb2 p3
  have r4 := cellB hb2 p4
  clear hb2 p0 p1 p2 p3 p4
  by_cases hc : checkT x = 0
  · obtain ⟨hg, hd⟩ := HGD.out hc
    have HG := Lib.hid hg
    have HDP := Lib.hid hd
    have HC0 := Lib.hid hc
    clear hg hd
    rw [hc]
    clear hc
    have hb3 := (Below.refl w2.heap.size w2).alloc (Nat.le_refl _) (.cells #[.pointer none, .slice none 0 0] 55)
    have hfr := Lib.fresh_isBuilder 55 5 w2
    have hsz3 : w2.heap.size ≤ (w2.alloc (.cells #[.pointer none, .slice none 0 0] 55)).heap.size := by simp
    have s0 := cellB hb3 r0
    have s1 := cellB hb3 r1
    have s2 := cellB hb3 r2
    have s3 := cellB hb3 r3
    have s4 := cellB hb3 r4
    have HB3 := Lib.hid hb3
    have HWR := Lib.hid (write_any w2 x _ w2.heap.size w2.heap.size 0 [] { data := #[] } { data := #[] } _ HN2.out hb3 (Nat.le_refl _) hfr hsz3 (.inr rfl) HG.out ⟨16, HDP.out, by decide⟩ HOL.out)
    clear hb3 hfr
    go_wp2_with fail
    refine HWR.out.mono ?_
    rintro e w4 ⟨rfl, hI4, hb4, _⟩
    rw [List.nil_append] at hI4
    have HI4 := Lib.hid hI4
    have HB4 := Lib.hid (HB2.out.trans ((HB3.out.trans (hb4.mono (Nat.le_refl _))).mono HB2.out.size))
    have HSZ4 := Lib.hid (Nat.le_trans hsz3 hb4.size)
    clear hI4 hb4 s0 s1 s2 s3 s4 r0 r1 r2 r3 r4
    obtain ⟨hp1, hp2, hp3⟩ := HPL.out _ rfl
    have HP1 := Lib.hid hp1
    have HP2 := Lib.hid hp2
    clear hp1 hp2
    generalize outS { data := #[] } 0 x = s at *
    go_wp2_with fail
    refine (bLen_any w2.heap.size w2.heap.size _ w4 HI4.out).mono ?_
    rintro e w5 ⟨rfl, rfl⟩
    rw [Lib.strCells_length]
    by_cases hz : s.size ≤ 1048576
    · have d1 : decide ((1048576 : Int) < (s.size : Int)) = false := decide_eq_false (by omega)
      go_wp2_with fail
      refine (BString_any w2.heap.size w2.heap.size s.data.toList w4 HI4.out HSZ4.out).mono ?_
      rintro e w5 ⟨rfl, hb5⟩
      have HB5 := Lib.hid (HB4.out.trans (hb5.mono HB2.out.size))
      clear hb5
      go_wp2_with fail
      go_ret2
      exact ⟨s, 0, rfl, .inr ⟨rfl, HC0.out, HP1.out, hz⟩, HB5.out⟩
    · have d1 : decide ((1048576 : Int) < (s.size : Int)) = true := decide_eq_true (by omega)
      go_wp2_with fail
      go_ret2
      exact ⟨_, 2, rfl, .inl ⟨by decide, rfl⟩, HB4.out⟩
  · have d1 : (checkT x == 0) = false := beq_eq_false_iff_ne.2 hc
    have HC := Lib.hid hc
    generalize checkT x = z at *
    go_wp2_with fail
    go_ret2
    exact ⟨_, z, rfl, .inl ⟨HC.out, rfl⟩, HB2.out⟩
end Go.Proofs.YtdhgcgejdoedbaaGreatDoor

/-
  tok.Deep.
-/
namespace Go.Proofs.YtdhgcgejdoedbaaGreatDoor
open Go.RowKit Go.WideShapes

theorem cells4t {W : World} {B : Nat} {a b c d : Value} {t : TypeId} (h : W.heap[B]? = some (.cells #[a, b, c, d] t (0, 0))) : W.cell? ⟨B, 0, none⟩ = some a ∧ W.cell? ⟨B, 1, none⟩ = some b ∧ W.cell? ⟨B, 2, none⟩ = some c ∧ W.cell? ⟨B, 3, none⟩ = some d := by
  simp [World.cell?, h]
end Go.Proofs.YtdhgcgejdoedbaaGreatDoor

/-
  block.reader: kind, here, take, inline: contracts.
-/
namespace Go.Proofs.YtdhgcgejdoedbaaGreatDoor
open Go.RowKit Go.WideShapes

structure OffR (R : Nat) (W W' : World) : Prop where
  b : Below R W W'
  same : ∀ k, k < W.heap.size → k ≠ R → W'.heap[k]? = W.heap[k]?
theorem OffR.refl (R : Nat) (W : World) : OffR R W W := ⟨Below.refl R W, fun _ _ _ => rfl⟩
theorem OffR.trans {R : Nat} {A B C : World} (h : OffR R A B) (k : OffR R B C) : OffR R A C := ⟨h.b.trans k.b, fun i hi hn => (k.same i (Nat.lt_of_lt_of_le hi h.b.size) hn).trans (h.same i hi hn)⟩
theorem OffR.of_below {R : Nat} {W W' : World} (h : Below W.heap.size W W') (hR : R ≤ W.heap.size) : OffR R W W' := ⟨h.mono hR, fun k hk _ => h.block k hk⟩
theorem OffR.set (R i : Nat) (W : World) (x : Value) : OffR R W (W.setCell ⟨R, i, none⟩ x) := ⟨(Below.refl R W).setCell (p := ⟨R, i, none⟩) (Nat.le_refl _) x, fun k _ hn => Below.heap_setCell W ⟨R, i, none⟩ x k hn⟩
theorem OffR.size {R : Nat} {W W' : World} (h : OffR R W W') : W.heap.size ≤ W'.heap.size := h.b.size
def lvA (g off cap k : Nat) : Option Addr := some ⟨g, off + min k (cap - 1) * 4, none⟩
structure TokS (w0 : World) (g off cap : Nat) (l : List TokD) : Prop where
  n : l.length ≤ cap
  c : cap ≤ 9223372036854775807
  len : l.length ≤ 1000000
  ln : ∀ t ∈ l.map erE, t.2.2.1 ≤ 1000000000
  at_ : ∀ j u, (l.flatMap tokC)[j]? = some u → w0.cell? ⟨g, off + j, none⟩ = some u
structure RdR (w0 : World) (R g off cap : Nat) (l : List TokD) (k : Nat) (W : World) : Prop where
  cell : W.heap[R]? = some (.cells #[.slice (some ⟨g, off, none⟩) l.length cap, .slice (lvA g off cap k) (l.length - k) (cap - k)] 102 (0, 0))
  lo : w0.heap.size ≤ R
  b : Below w0.heap.size w0 W
  k : k ≤ l.length
  s : TokS w0 g off cap l
theorem RdR.lt {w0 : World} {R g off cap : Nat} {l : List TokD} {k : Nat} {W : World} (h : RdR w0 R g off cap l k W) : R < W.heap.size := (Array.getElem?_eq_some_iff.1 h.cell).1
theorem RdR.below {w0 : World} {R g off cap : Nat} {l : List TokD} {k : Nat} {W W' : World} (h : RdR w0 R g off cap l k W) (hb : Below W.heap.size W W') : RdR w0 R g off cap l k W' :=
  ⟨(hb.block R h.lt).trans h.cell, h.lo, h.b.trans (hb.mono h.b.size), h.k, h.s⟩
theorem RdR.cells {w0 : World} {R g off cap : Nat} {l : List TokD} {k : Nat} {W : World} (h : RdR w0 R g off cap l k W) : W.cell? ⟨R, 0, none⟩ = some (.slice (some ⟨g, off, none⟩) l.length cap) ∧ W.cell? ⟨R, 1, none⟩ = some (.slice (lvA g off cap k) (l.length - k) (cap - k)) ∧ W.frozen? ⟨R, 1, none⟩ = false := by
  refine ⟨?_, ?_, ?_⟩ <;> simp [World.cell?, World.frozen?, h.cell]
theorem RdR.next {w0 : World} {R g off cap : Nat} {l : List TokD} {k : Nat} {W : World} (h : RdR w0 R g off cap l k W) {t : TokD} (ht : l[k]? = some t) :
    ∃ o m c, lvA g off cap k = some ⟨g, o, none⟩ ∧ l.length - k = m + 1 ∧ cap - k = c + 1 ∧ m ≤ 1000000 ∧ c ≤ 9223372036854775807 ∧ m ≤ c ∧ W.cell? ⟨g, o, none⟩ = some (.int .u8 (t.1 : Int)) ∧ W.cell? ⟨g, o + 1, none⟩ = some (.string t.2.1) ∧ W.cell? ⟨g, o + 2, none⟩ = some (.int .i64 (t.2.2.1 : Nat)) ∧ W.cell? ⟨g, o + 3, none⟩ = some (.int .i64 (t.2.2.2 : Nat)) ∧
      (if c = 0 then some (⟨g, o, none⟩ : Addr) else some ⟨g, o + 4, none⟩) = lvA g off cap (k + 1) ∧ l.length - (k + 1) = m ∧ cap - (k + 1) = c := by
  obtain ⟨hk, rfl⟩ := List.getElem?_eq_some_iff.1 ht
  have h1 := h.s.n
  have h2 := h.s.c
  have h3 := h.s.len
  have hm : min k (cap - 1) = k := by omega
  have hx (i : Nat) (hi : i < 4) (u : Value) (hc : (tokC l[k])[i]? = some u) : W.cell? ⟨g, off + k * 4 + i, none⟩ = some u := by
    have := h.s.at_ (k * 4 + i) u ((tokC_get l k hk i hi).trans hc)
    rw [Nat.add_assoc]
    exact cellB h.b this
  refine ⟨off + k * 4, l.length - k - 1, cap - k - 1, by unfold lvA; rw [hm], by omega, by omega, by omega, by omega, by omega, hx 0 (by decide) _ rfl, hx 1 (by decide) _ rfl, hx 2 (by decide) _ rfl, hx 3 (by decide) _ rfl, ?_, by omega, by omega⟩
  unfold lvA
  split
  · have : min (k + 1) (cap - 1) = k := by omega
    rw [this]
  · have : min (k + 1) (cap - 1) = k + 1 := by omega
    rw [this, Nat.add_mul]
    simp [Nat.add_assoc]
def kndN (l : List TokD) (k : Nat) : Nat := (l.getD k noTok).1
theorem kndN_lt {l : List TokD} {k : Nat} {t : TokD} (h : l[k]? = some t) : kndN l k = t.1 := by unfold kndN; simp [List.getD, h]
theorem kndN_no {l : List TokD} {k : Nat} (h : ¬ k < l.length) : kndN l k = 0 := by unfold kndN; simp [List.getD, h, noTok]
section
variable {w0 : World} {R g off cap : Nat} {l : List TokD} {k : Nat}
set_option maxRecDepth 100000 in
theorem kind_any (W : World) (h : RdR w0 R g off cap l k W) : Calls Tryz.prog 68 #[.pointer (some ⟨R, 0, none⟩)] W fun e W' => e = .returned (.int .u8 (kndN l k : Int)) ∧ W = W' := by
  obtain ⟨p0, p1, f1⟩ := h.cells
  by_cases hk : k < l.length
  · have ht := List.getElem?_eq_getElem hk
    obtain ⟨o, m, c, e1, e2, e3, b1, b2, b3, x0, -, -, -, -, -⟩ := h.next ht
    rw [e1, e2, e3] at p1
    have hz : (((m : Int) + 1) == 0) = false := beq_eq_false_iff_ne.2 (by omega)
    have l1 : (0 : Int) < (m : Int) + 1 := by omega
    rw [kndN_lt ht]
    generalize l[k].1 = K at *
    clear h e1 e2 e3 p0 f1 hk ht
    go_enter Tryz.func68, Tryz.ntmps68
    go_wp2_with fail
    go_ret
    exact ⟨rfl, rfl⟩
  · have e2 : l.length - k = 0 := by omega
    rw [e2] at p1
    rw [kndN_no hk]
    generalize cap - k = c at *
    unfold lvA at p1
    clear h p0 f1 e2 hk
    go_enter Tryz.func68, Tryz.ntmps68
    go_wp2_with fail
    go_ret
    exact ⟨rfl, rfl⟩
def tokV (t : TokD) : Value := .agg #[.int .u8 (t.1 : Nat), .string t.2.1, .int .i64 (t.2.2.1 : Nat), .int .i64 (t.2.2.2 : Nat)]
theorem set4w {W : World} {B : Nat} {a b c d x0 x1 x2 x3 : Value} {t : TypeId} (h : W.heap[B]? = some (.cells #[a, b, c, d] t (0, 0))) :
    ((((W.setCell ⟨B, 0, none⟩ x0).setCell ⟨B, 1, none⟩ x1).setCell ⟨B, 2, none⟩ x2).setCell ⟨B, 3, none⟩ x3).heap[B]? = some (.cells #[x0, x1, x2, x3] t (0, 0)) := by
  simp [World.setCell, h, Array.getElem?_modify]
theorem set4w_other {W : World} {B k : Nat} {x0 x1 x2 x3 : Value} (h : k ≠ B) :
    ((((W.setCell ⟨B, 0, none⟩ x0).setCell ⟨B, 1, none⟩ x1).setCell ⟨B, 2, none⟩ x2).setCell ⟨B, 3, none⟩ x3).heap[k]? = W.heap[k]? := by
  rw [Below.heap_setCell _ _ _ _ h, Below.heap_setCell _ _ _ _ h, Below.heap_setCell _ _ _ _ h, Below.heap_setCell _ _ _ _ h]
theorem cells4f {W : World} {B : Nat} {a b c d : Value} {t : TypeId} (h : W.heap[B]? = some (.cells #[a, b, c, d] t (0, 0))) : W.cell? ⟨B, 0, none⟩ = some a ∧ W.cell? ⟨B, 1, none⟩ = some b ∧ W.cell? ⟨B, 2, none⟩ = some c ∧ W.cell? ⟨B, 3, none⟩ = some d ∧ W.frozen? ⟨B, 0, none⟩ = false ∧ W.frozen? ⟨B, 1, none⟩ = false ∧ W.frozen? ⟨B, 2, none⟩ = false ∧ W.frozen? ⟨B, 3, none⟩ = false := by
  simp [World.cell?, World.frozen?, h]
theorem set4w_below {n : Nat} {w W : World} (hb : Below n w W) {B : Nat} {x0 x1 x2 x3 : Value} (h : n ≤ B) :
    Below n w ((((W.setCell ⟨B, 0, none⟩ x0).setCell ⟨B, 1, none⟩ x1).setCell ⟨B, 2, none⟩ x2).setCell ⟨B, 3, none⟩ x3) :=
  (((hb.setCell (p := ⟨B, 0, none⟩) h _).setCell (p := ⟨B, 1, none⟩) h _).setCell (p := ⟨B, 2, none⟩) h _).setCell (p := ⟨B, 3, none⟩) h _
set_option maxRecDepth 100000 in
set_option maxHeartbeats 1000000 in
theorem here_any (W : World) (h : RdR w0 R g off cap l k W) (t : TokD) (ht : l[k]? = some t) : Calls Tryz.prog 67 #[.pointer (some ⟨R, 0, none⟩)] W fun e W' => e = .returned (tokV t) ∧ Below W.heap.size W W' := by
  have hb := (Below.refl W.heap.size W).alloc (Nat.le_refl _) (.cells #[.int .u8 0, .string { data := #[] }, .int .i64 0, .int .i64 0] 39)
  obtain ⟨p0, p1, f1⟩ := (h.below hb).cells
  obtain ⟨o, m, c, e1, e2, e3, b1, b2, b3, x0, x1, x2, x3, -, -⟩ := (h.below hb).next ht
  rw [e1, e2, e3] at p1
  have hz : (((m : Int) + 1) == 0) = false := beq_eq_false_iff_ne.2 (by omega)
  have l1 : (0 : Int) < (m : Int) + 1 := by omega
  obtain ⟨K, tx, tn, tc⟩ := t
  simp only at x0 x1 x2 x3
  have HP := Lib.hid (World.alloc_heap_new W (.cells #[.int .u8 (K : Nat), .string tx, .int .i64 (tn : Nat), .int .i64 (tc : Nat)] 39))
  have HB := Lib.hid ((Below.refl W.heap.size W).alloc (Nat.le_refl _) (.cells #[.int .u8 (K : Nat), .string tx, .int .i64 (tn : Nat), .int .i64 (tc : Nat)] 39))
  clear h e1 e2 e3 p0 f1 ht hb
  go_enter Tryz.func67, Tryz.ntmps67
  go_wp2_with fail
  generalize W.alloc (.cells #[.int .u8 (K : Nat), .string tx, .int .i64 (tn : Nat), .int .i64 (tc : Nat)] 39) = W2 at *
  obtain ⟨y0, y1, y2, y3⟩ := cells4t HP.out
  exact bodyPost_ret (v := .agg #[.int .u8 (K : Nat), .string tx, .int .i64 (tn : Nat), .int .i64 (tc : Nat)]) (by simp [results, Tryz.results67, go_sem, y0, y1, y2, y3]) rfl ⟨rfl, HB.out⟩
theorem RdR.taken {W : World} (h : RdR w0 R g off cap l k W) (hk : k < l.length) {v : Value} (hv : v = .slice (lvA g off cap (k + 1)) (l.length - (k + 1)) (cap - (k + 1))) : RdR w0 R g off cap l (k + 1) (W.setCell ⟨R, 1, none⟩ v) := by
  subst hv
  exact ⟨set_at1 _ h.cell, h.lo, h.b.setCell (p := ⟨R, 1, none⟩) h.lo _, hk, h.s⟩
set_option maxRecDepth 100000 in
set_option maxHeartbeats 2000000 in
theorem take_any (W : World) (h : RdR w0 R g off cap l k W) (t : TokD) (ht : l[k]? = some t) : Calls Tryz.prog 69 #[.pointer (some ⟨R, 0, none⟩)] W fun e W' => e = .returned (tokV t) ∧ RdR w0 R g off cap l (k + 1) W' ∧ OffR R W W' := by
  have hmn := @run_min2 Tryz.prog
  have hb := (Below.refl W.heap.size W).alloc (Nat.le_refl _) (.cells #[.int .u8 0, .string { data := #[] }, .int .i64 0, .int .i64 0] 39)
  have hT := World.alloc_heap_new W (.cells #[.int .u8 0, .string { data := #[] }, .int .i64 0, .int .i64 0] 39)
  have hT1 : W.heap.size < (W.alloc (.cells #[.int .u8 0, .string { data := #[] }, .int .i64 0, .int .i64 0] 39)).heap.size := by simp
  have hRl := h.lt
  have HR1 := Lib.hid (h.below hb)
  have HH := Lib.hid (here_any _ HR1.out t ht)
  have HB := Lib.hid hb
  have HT := Lib.hid hT
  have HK := Lib.hid ht
  have HRL := Lib.hid hRl
  have HT1 := Lib.hid hT1
  clear h hb hT ht hRl hT1
  go_enter Tryz.func69, Tryz.ntmps69
  go_wp2_with fail
  generalize W.alloc (.cells #[.int .u8 0, .string { data := #[] }, .int .i64 0, .int .i64 0] 39) = W1 at *
  refine HH.out.mono ?_
  rintro e W2 ⟨rfl, hb2⟩
  obtain ⟨tk, tx, tn, tc⟩ := t
  unfold tokV
  have hb3 := (Below.refl W2.heap.size W2).alloc (Nat.le_refl _) (.cells #[.int .u8 (tk : Nat), .string tx, .int .i64 (tn : Nat), .int .i64 (tc : Nat)] 39)
  have HR3 := Lib.hid ((HR1.out.below hb2).below hb3)
  have HB3 := Lib.hid ((HB.out.trans (hb2.mono HB.out.size)).trans (hb3.mono (Nat.le_trans HB.out.size hb2.size)))
  have HT3 := Lib.hid ((hb3.block _ (Nat.lt_of_lt_of_le HT1.out hb2.size)).trans ((hb2.block _ HT1.out).trans HT.out))
  have HY3 := Lib.hid (World.alloc_heap_new W2 (.cells #[.int .u8 (tk : Nat), .string tx, .int .i64 (tn : Nat), .int .i64 (tc : Nat)] 39))
  have hTW : W.heap.size < W2.heap.size := Nat.lt_of_lt_of_le HT1.out hb2.size
  clear hb2 hb3
  go_upto_region 2 with fail
  generalize W2.alloc (.cells #[.int .u8 (tk : Nat), .string tx, .int .i64 (tn : Nat), .int .i64 (tc : Nat)] 39) = W3 at *
  obtain ⟨o, m, c, e1, e2, e3, b1, b2, b3, -, -, -, -, e4, e5, e6⟩ := HR3.out.next HK.out
  obtain ⟨-, p1, f1⟩ := HR3.out.cells
  rw [e1, e2, e3] at p1
  have l1 : (1 : Int) ≤ (m : Int) + 1 := by omega
  have hmm : min (1 : Int) ((m : Int) + 1) = 1 := by omega
  clear e1 e2 e3
  have hRW := HRL.out
  have hne2 : W2.heap.size ≠ R := by omega
  have hneT : W.heap.size ≠ R := by omega
  have HR4 := Lib.hid ((HR3.out.taken (List.getElem?_eq_some_iff.1 HK.out).1 (v := .slice (lvA g off cap (k + 1)) m c) (by rw [e5, e6])).below (Below.refl _ _).drew)
  have HO4 := Lib.hid (((OffR.of_below HB3.out (Nat.le_of_lt HRL.out)).trans (OffR.set R 1 W3 (.slice (lvA g off cap (k + 1)) m c))).trans (OffR.of_below (Below.refl _ _).drew (Nat.le_of_lt HR4.out.lt)))
  have HY4 := Lib.hid ((Below.heap_setCell W3 ⟨R, 1, none⟩ (.slice (lvA g off cap (k + 1)) m c) W2.heap.size hne2).trans HY3.out)
  have HT4 := Lib.hid ((Below.heap_setCell W3 ⟨R, 1, none⟩ (.slice (lvA g off cap (k + 1)) m c) W.heap.size hneT).trans HT3.out)
  clear e5 e6 hne2 hneT
  refine E_region (S := (fun V => V.cell? ⟨R, 1, none⟩ = some (.slice (some ⟨g, o, none⟩) (m + 1) (c + 1)) ∧ V.frozen? ⟨R, 1, none⟩ = false)) 14 (by kernel_rfl) ⟨p1, f1⟩ (fun _ _ _ _ _ h => h) (fun Q' hQ hK' hHeld => ?_)
  refine E_take0 hQ (fun _ => hHeld) 0 (v := ?rtv1) rfl rfl (by kernel_rfl) (by kernel_rfl) (by kernel_rfl) (by decide) (by rfl) ?rty1 ?rtr1
  case rty1 => (intro w; go_simp; (try with_reducible rfl))
  (try simp only [layE])
  refine E_take0 hQ (fun _ => hHeld) 1 (v := ?rtv2) rfl rfl (by kernel_rfl) (by kernel_rfl) (by kernel_rfl) (by decide) (by rfl) ?rty2 ?rtr2
  case rty2 => (intro w; go_simp; (try with_reducible rfl))
  (try simp only [layE])
  refine E_take0 hQ (fun _ => hHeld) 2 (v := ?rtv3) rfl rfl (by kernel_rfl) (by kernel_rfl) (by kernel_rfl) (by decide) (by rfl) ?rty3 ?rtr3
  case rty3 => (intro w; go_simp; (try with_reducible rfl))
  (try simp only [layE])
  refine E_take0 hQ (fun _ => hHeld) 3 (v := ?rtv4) rfl rfl (by kernel_rfl) (by kernel_rfl) (by kernel_rfl) (by decide) (by rfl) ?rty4 ?rtr4
  case rty4 => (intro w; go_simp; (try with_reducible rfl))
  (try simp only [layE])
  refine E_take hQ hHeld 4 (v := ?rtv5) rfl rfl (by kernel_rfl) (by kernel_rfl) (by kernel_rfl) (by kernel_rfl) (by kernel_rfl) (by rfl) ?rty5 ?rtr5
  case rty5 => (intro w hSw; (try dsimp only at hSw); go_simp; (try with_reducible rfl))
  (try simp only [layE])
  refine E_take0 hQ (fun _ => hHeld) 5 (v := ?rtv6) rfl rfl (by kernel_rfl) (by kernel_rfl) (by kernel_rfl) (by decide) (by rfl) ?rty6 ?rtr6
  case rty6 => (intro w; go_simp; (try with_reducible rfl))
  (try simp only [layE])
  refine E_take0 hQ (fun _ => hHeld) 6 (v := ?rtv7) rfl rfl (by kernel_rfl) (by kernel_rfl) (by kernel_rfl) (by decide) (by rfl) ?rty7 ?rtr7
  case rty7 => (intro w; go_simp; (try with_reducible rfl))
  (try simp only [layE])
  refine E_take0 hQ (fun _ => hHeld) 7 (v := ?rtv8) rfl rfl (by kernel_rfl) (by kernel_rfl) (by kernel_rfl) (by decide) (by rfl) ?rty8 ?rtr8
  case rty8 => (intro w; go_simp; (try with_reducible rfl))
  (try simp only [layE])
  refine E_take hQ hHeld 8 (v := ?rtv9) rfl rfl (by kernel_rfl) (by kernel_rfl) (by kernel_rfl) (by kernel_rfl) (by kernel_rfl) (by rfl) ?rty9 ?rtr9
  case rty9 => (intro w hSw; (try dsimp only at hSw); go_simp; (try with_reducible rfl))
  (try simp only [layE])
  refine E_take0 hQ (fun _ => hHeld) 9 (v := ?rtv10) rfl rfl (by kernel_rfl) (by kernel_rfl) (by kernel_rfl) (by decide) (by rfl) ?rty10 ?rtr10
  case rty10 => (intro w; go_simp; (try with_reducible rfl))
  (try simp only [layE])
  refine E_take0 hQ (fun _ => hHeld) 10 (v := ?rtv11) rfl rfl (by kernel_rfl) (by kernel_rfl) (by kernel_rfl) (by decide) (by rfl) ?rty11 ?rtr11
  case rty11 => (intro w; go_simp; (try with_reducible rfl))
  (try simp only [layE])
  refine E_take0 hQ (fun _ => hHeld) 11 (v := ?rtv12) rfl rfl (by kernel_rfl) (by kernel_rfl) (by kernel_rfl) (by decide) (by rfl) ?rty12 ?rtr12
  case rty12 => (intro w; go_simp; (try with_reducible rfl))
  (try simp only [layE])
  refine E_take0 hQ (fun _ => hHeld) 12 (v := ?rtv13) rfl rfl (by kernel_rfl) (by kernel_rfl) (by kernel_rfl) (by decide) (by rfl) ?rty13 ?rtr13
  case rty13 => (intro w; go_simp; (try with_reducible rfl))
  (try simp only [layE])
  refine E_take0 hQ (fun _ => hHeld) 13 (v := ?rtv14) rfl rfl (by kernel_rfl) (by kernel_rfl) (by kernel_rfl) (by decide) (by rfl) ?rty14 ?rtr14
  case rty14 => (intro w; go_simp; (try with_reducible rfl))
  (try simp only [layE])
  refine E_one 14 (by kernel_rfl) rfl (by rfl) (fun K hK => ?_)
  have e1 := hHeld.1
  have e2 := hHeld.2
  go_simp
  (try simp only [layE])
  refine hK.out _ _ (fun _ h => absurd rfl h) (fun _ => ?_)
  clear hK hHeld
  (try simp only [layE])
  refine E_done (by kernel_rfl) ?_ _
  refine hK'.out _ _ ?_
  have hT4 : ((W3.setCell ⟨R, 1, none⟩ (.slice (lvA g off cap (k + 1)) m c)).drew).heap[W.heap.size]? = some (.cells #[.int .u8 0, .string { data := #[] }, .int .i64 0, .int .i64 0] 39 (0, 0)) := HT4.out
  have hY4 : ((W3.setCell ⟨R, 1, none⟩ (.slice (lvA g off cap (k + 1)) m c)).drew).heap[W2.heap.size]? = some (.cells #[.int .u8 (tk : Nat), .string tx, .int .i64 (tn : Nat), .int .i64 (tc : Nat)] 39 (0, 0)) := HY4.out
  clear HT4 HY4 p1 f1 hmm l1 e4
  generalize (W3.setCell ⟨R, 1, none⟩ (.slice (lvA g off cap (k + 1)) m c)).drew = W4 at *
  obtain ⟨y0, y1, y2, y3⟩ := cells4t hY4
  obtain ⟨s0, s1, s2, s3, u0, u1, u2, u3⟩ := cells4f hT4
  have HT5 := Lib.hid (set4w (x0 := .int .u8 (tk : Nat)) (x1 := .string tx) (x2 := .int .i64 (tn : Nat)) (x3 := .int .i64 (tc : Nat)) hT4)
  have HS5 := Lib.hid (fun k (hk : k ≠ W.heap.size) => set4w_other (x0 := .int .u8 (tk : Nat)) (x1 := .string tx) (x2 := .int .i64 (tn : Nat)) (x3 := .int .i64 (tc : Nat)) (W := W4) (B := W.heap.size) (k := k) hk)
  have HB5 := Lib.hid (set4w_below (x0 := .int .u8 (tk : Nat)) (x1 := .string tx) (x2 := .int .i64 (tn : Nat)) (x3 := .int .i64 (tc : Nat)) (Below.refl W.heap.size W4) (B := W.heap.size) (Nat.le_refl _))
  clear hT4 hY4
  go_wp2_with fail
  generalize (((W4.setCell ⟨W.heap.size, 0, none⟩ (.int .u8 (tk : Nat))).setCell ⟨W.heap.size, 1, none⟩ (.string tx)).setCell ⟨W.heap.size, 2, none⟩ (.int .i64 (tn : Nat))).setCell ⟨W.heap.size, 3, none⟩ (.int .i64 (tc : Nat)) = W5 at *
  obtain ⟨z0, z1, z2, z3⟩ := cells4t HT5.out
  refine bodyPost_ret (v := .agg #[.int .u8 (tk : Nat), .string tx, .int .i64 (tn : Nat), .int .i64 (tc : Nat)]) (by simp [results, Tryz.results69, go_sem, z0, z1, z2, z3]) rfl ⟨rfl, ?_, ?_⟩
  · exact ⟨(HS5.out R (by omega)).trans HR4.out.cell, HR4.out.lo, HR4.out.b.trans (HB5.out.mono (by have := HR4.out.lo; omega)), HR4.out.k, HR4.out.s⟩
  · exact ⟨HO4.out.b.trans (HB5.out.mono (by omega)), fun k hk hn => (HB5.out.block k hk).trans (HO4.out.same k hk hn)⟩
end
theorem field_tok1 (c0 c2 c3 : Value) (t : ByteArray) (w : World) : (Instr.field 39 (.agg #[c0, .string t, c2, c3]) 1).run Tryz.prog w = .ok (.string t) w := by kernel_rfl
theorem field_tok2 (c0 c1 c3 : Value) (n : Int) (w : World) : (Instr.field 39 (.agg #[c0, c1, .int .i64 n, c3]) 2).run Tryz.prog w = .ok (.int .i64 n) w := by kernel_rfl
section
variable {w0 : World} {R g off cap : Nat} {l : List TokD} {k : Nat}
def inlB (t : TokD) (n : Int) : Bool := (t.1 == 5 || t.1 == 6 || t.1 == 7) && ((t.2.2.1 : Int) == n)
set_option maxRecDepth 100000 in
theorem inline_any (W : World) (h : RdR w0 R g off cap l k W) (t : TokD) (ht : l[k]? = some t) (n : Int) : Calls Tryz.prog 98 #[.pointer (some ⟨R, 0, none⟩), .int .i64 n] W fun e W' => e = .returned (.bool (inlB t n)) ∧ Below W.heap.size W W' := by
  have hf2 := field_tok2
  have HK := Lib.hid (kind_any W h)
  have HH := Lib.hid (here_any W h t ht)
  rw [kndN_lt ht] at HK
  have HB := Lib.hid (Below.refl W.heap.size W)
  have hi : inlB t n = ((t.1 == 5 || t.1 == 6 || t.1 == 7) && ((t.2.2.1 : Int) == n)) := rfl
  obtain ⟨K, tx, tn, tc⟩ := t
  simp only at hi HK
  rw [hi]
  clear h ht hi
  unfold tokV at HH
  go_enter Tryz.func98, Tryz.ntmps98
  go_wp2_with fail
  refine HK.out.mono ?_
  rintro e w1 ⟨rfl, rfl⟩
  by_cases h5 : K = 5
  · have d1 : ((K : Int) == 5) = true := beq_iff_eq.2 (by omega)
    have HI : Hid (((K == 5 || K == 6 || K == 7) && ((tn : Int) == n)) = ((tn : Int) == n)) := Lib.hid (by simp [h5])
    clear h5
    go_wp2_with fail
    refine HH.out.mono ?_
    rintro e w2 ⟨rfl, hb2⟩
    have HB2 := Lib.hid hb2
    clear hb2
    go_wp2_with fail
    go_ret
    exact ⟨by rw [HI.out]; simp, HB2.out⟩
  · have d1 : ((K : Int) == 5) = false := beq_eq_false_iff_ne.2 (by omega)
    by_cases h6 : K = 6
    · have d2 : ((K : Int) == 6) = true := beq_iff_eq.2 (by omega)
      have HI : Hid (((K == 5 || K == 6 || K == 7) && ((tn : Int) == n)) = ((tn : Int) == n)) := Lib.hid (by simp [h6])
      clear h5 h6
      go_wp2_with fail
      refine HH.out.mono ?_
      rintro e w2 ⟨rfl, hb2⟩
      have HB2 := Lib.hid hb2
      clear hb2
      go_wp2_with fail
      go_ret
      exact ⟨by rw [HI.out]; simp, HB2.out⟩
    · have d2 : ((K : Int) == 6) = false := beq_eq_false_iff_ne.2 (by omega)
      by_cases h7 : K = 7
      · have d3 : ((K : Int) == 7) = true := beq_iff_eq.2 (by omega)
        have HI : Hid (((K == 5 || K == 6 || K == 7) && ((tn : Int) == n)) = ((tn : Int) == n)) := Lib.hid (by simp [h7])
        clear h5 h6 h7
        go_wp2_with fail
        refine HH.out.mono ?_
        rintro e w2 ⟨rfl, hb2⟩
        have HB2 := Lib.hid hb2
        clear hb2
        go_wp2_with fail
        go_ret
        exact ⟨by rw [HI.out]; simp, HB2.out⟩
      · have d3 : ((K : Int) == 7) = false := beq_eq_false_iff_ne.2 (by omega)
        have HI : Hid (((K == 5 || K == 6 || K == 7) && ((tn : Int) == n)) = false) := Lib.hid (by simp [h5, h6, h7])
        clear h5 h6 h7
        go_wp2_with fail
        go_ret
        exact ⟨by rw [HI.out]; rfl, HB.out⟩
end
end Go.Proofs.YtdhgcgejdoedbaaGreatDoor
