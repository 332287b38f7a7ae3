/-
  block.leaf.
-/
import Derived.Test.YtdhgcgejdoedbaaGreatDoorBw15
import Derived.Test.YtdhgcgejdoedbaaGreatDoorBw17
import Derived.Test.YtdhgcgejdoedbaaGreatDoorBw26
import Derived.Test.YtdhgcgejdoedbaaGreatDoorBw33
namespace Go.Proofs.YtdhgcgejdoedbaaGreatDoor
open Go.RowKit Go.WideShapes

theorem mkS_leaf_word (t : ByteArray) : mkS (wrL (bsN t)) = putS t := by rw [← putS_bytes, mkS_bsN]
set_option maxRecDepth 100000 in
set_option maxHeartbeats 1000000 in
theorem leaf_any (x : Tree) (cs : List Value) (w : World) (h : NodeR w cs x) (hs : x.text.size ≤ 1000000) :
    Calls Tryz.prog 36 #[.agg cs.toArray] w fun e w' => e = .returned (.string (mkS (leafL (leafO x)))) ∧ Below w.heap.size w w' := by
  obtain ⟨ka, kc, ba, bc, rfl⟩ := h.cells
  have HP := Lib.hid (fun w => sPut_any x.text w hs)
  have HL : Hid (mkS (leafL (leafO x)) = if x.kind = 2 then { data := #[91, 93] } else if x.kind = 3 then { data := #[123, 125] } else putS x.text) := Lib.hid (by
    unfold leafO leafD
    split
    · rfl
    · split
      · rfl
      · exact mkS_leaf_word _)
  clear h hs
  generalize x.kind = k at *
  generalize x.text = t at *
  go_enter Tryz.func36, Tryz.ntmps36
  have hb := (Below.refl w.heap.size w).alloc (Nat.le_refl _) (.cells #[.int .u8 (k : Int), .string t, .slice ka x.keys.length kc, .slice ba x.kids.length bc, .int .i64 x.line] 25)
  have HB := Lib.hid hb
  have HBP := Lib.hid ((HP.out (w.alloc (.cells #[.int .u8 (k : Int), .string t, .slice ka x.keys.length kc, .slice ba x.kids.length bc, .int .i64 x.line] 25))))
  clear hb
  by_cases h2 : k = 2
  · have d2 : ((k : Int) == 2) = true := beq_iff_eq.2 (by omega)
    have HR : Hid (Value.string { data := #[91, 93] } = .string (mkS (leafL (leafO x)))) := Lib.hid (by rw [HL.out, if_pos h2])
    clear h2
    go_wp2_with fail
    go_ret
    exact ⟨congrArg _ HR.out, HB.out⟩
  · have d2 : ((k : Int) == 2) = false := beq_eq_false_iff_ne.2 (by omega)
    by_cases h3 : k = 3
    · have d3 : ((k : Int) == 3) = true := beq_iff_eq.2 (by omega)
      have HR : Hid (Value.string { data := #[123, 125] } = .string (mkS (leafL (leafO x)))) := Lib.hid (by rw [HL.out, if_neg h2, if_pos h3])
      clear h2 h3
      go_wp2_with fail
      go_ret
      exact ⟨congrArg _ HR.out, HB.out⟩
    · have d3 : ((k : Int) == 3) = false := beq_eq_false_iff_ne.2 (by omega)
      have HR : Hid (Value.string (putS t) = .string (mkS (leafL (leafO x)))) := Lib.hid (by rw [HL.out, if_neg h2, if_neg h3])
      clear h2 h3
      go_wp2_with fail
      refine HBP.out.mono ?_
      rintro e w1 ⟨rfl, hb1⟩
      have HB1 := Lib.hid (bthen HB.out (Nat.le_refl _) hb1)
      clear hb1
      go_wp2_with fail
      go_ret
      exact ⟨congrArg _ HR.out, HB1.out⟩
end Go.Proofs.YtdhgcgejdoedbaaGreatDoor

/-
  What block.write writes, kid by kid.
-/
namespace Go.Proofs.YtdhgcgejdoedbaaGreatDoor
open Go.RowKit Go.WideShapes

def noTree : Tree := .mk 0 { data := #[] } [] [] 0
def outN (f : List Nat) (c : Nat) (x : Tree) : List Nat := f ++ bodyS (hdB x) ++ 10 :: textB (tlT c x)
def pieceN (k : Nat) (f : List Nat) (c : Nat) (key : ByteArray) (y : Tree) : List Nat :=
  if k = 2 then outN (f ++ [45, 32]) (c + 2) y else
    if y.kids.isEmpty then outN (f ++ wrL (bsN key) ++ [58, 32]) 0 y else f ++ wrL (bsN key) ++ [58, 10] ++ outN (List.replicate (c + 2) 32) (c + 2) y
def outJ (x : Tree) (f : List Nat) (c : Nat) : Nat → List Nat
  | 0 => []
  | j + 1 => outJ x f c j ++ pieceN x.kind (if j = 0 then f else List.replicate c 32) c (x.keys.getD j { data := #[] }) (x.kids.getD j noTree)
theorem textB_cons (x : Nat × BodyD) (ls : List (Nat × BodyD)) : textB (x :: ls) = List.replicate x.1 32 ++ bodyS x.2 ++ 10 :: textB ls := by simp [textB, lineB]
theorem textB_app (a b : List (Nat × BodyD)) : textB (a ++ b) = textB a ++ textB b := by simp [textB]
theorem leaf_hd {y : Tree} (h : y.kids.isEmpty = true) (c : Nat) : hdB y = .leaf (leafO y) ∧ tlT c y = [] := by
  obtain ⟨k, t, ks, kids, l⟩ := y
  cases kids with
  | nil => exact ⟨rfl, by rw [tlT]; split <;> rfl⟩
  | cons a b => cases h
theorem piece_map (k : Nat) (hk : k ≠ 2) (f : List Nat) (c : Nat) (key : ByteArray) (y : Tree) :
    pieceN k f c key y = f ++ bodyS (keyB key y) ++ 10 :: textB (if y.kids.isEmpty then [] else (c + 2, hdB y) :: tlT (c + 2) y) := by
  unfold pieceN
  rw [if_neg hk]
  cases he : y.kids.isEmpty with
  | true =>
    obtain ⟨h1, h2⟩ := leaf_hd he 0
    unfold outN keyB
    rw [h1, h2, he]
    simp [bodyS]
  | false =>
    unfold outN keyB
    rw [he]
    simp [bodyS, textB_cons]
theorem outJ_seq (x : Tree) (f : List Nat) (c : Nat) (hk : x.kind = 2) : ∀ (j : Nat), j < x.kids.length →
    outJ x f c (j + 1) ++ textB (nxS c (x.kids.drop (j + 1)) ++ tlS c (x.kids.drop (j + 1))) = f ++ 45 :: 32 :: bodyS (hdB (x.kids.getD 0 noTree)) ++ 10 :: textB (tlS c x.kids)
  | 0, h => by
    have e : x.kids = x.kids.getD 0 noTree :: x.kids.drop 1 := by
      cases hx : x.kids with
      | nil => rw [hx] at h; simp at h
      | cons a b => simp
    conv => rhs; rw [e, tlS]
    simp only [outJ, List.nil_append, if_true]
    unfold pieceN outN
    rw [if_pos hk]
    simp [textB_app]
  | j + 1, h => by
    rw [← outJ_seq x f c hk j (by omega)]
    have e : x.kids.drop (j + 1) = x.kids.getD (j + 1) noTree :: x.kids.drop (j + 1 + 1) := by
      rw [List.drop_eq_getElem_cons h]; simp [List.getD, h]
    conv => rhs; rw [e, tlS, nxS]
    rw [outJ]
    unfold pieceN outN
    rw [if_pos hk, if_neg (by omega)]
    rw [List.cons_append, textB_cons, List.nil_append]
    simp [bodyS, textB_app]
theorem outJ_map (x : Tree) (f : List Nat) (c : Nat) (hk : x.kind ≠ 2) : ∀ (j : Nat), j < x.kids.length →
    outJ x f c (j + 1) ++ textB (nxM c (x.keys.drop (j + 1)) (x.kids.drop (j + 1)) ++ tlM c (x.keys.drop (j + 1)) (x.kids.drop (j + 1))) = f ++ bodyS (keyB (x.keys.headD { data := #[] }) (x.kids.getD 0 noTree)) ++ 10 :: textB (tlM c x.keys x.kids)
  | 0, h => by
    have e : x.kids = x.kids.getD 0 noTree :: x.kids.drop 1 := by
      cases hx : x.kids with
      | nil => rw [hx] at h; simp at h
      | cons a b => simp
    have e2 : x.keys.headD { data := #[] } = x.keys.getD 0 { data := #[] } := by cases x.keys <;> rfl
    conv => rhs; rw [e, tlM]
    simp only [outJ, List.nil_append, if_true]
    rw [piece_map _ hk, e2]
    simp [textB_app]
  | j + 1, h => by
    rw [← outJ_map x f c hk j (by omega)]
    have e : x.kids.drop (j + 1) = x.kids.getD (j + 1) noTree :: x.kids.drop (j + 1 + 1) := by
      rw [List.drop_eq_getElem_cons h]; simp [List.getD, h]
    have e2 : (x.keys.drop (j + 1)).headD { data := #[] } = x.keys.getD (j + 1) { data := #[] } := by
      rw [List.headD_eq_head?_getD, List.head?_drop]; rfl
    have e3 : (x.keys.drop (j + 1)).tail = x.keys.drop (j + 1 + 1) := by simp
    conv => rhs; rw [e, tlM, nxM, e2, e3]
    rw [outJ, if_neg (by omega), piece_map _ hk]
    rw [List.cons_append, textB_cons, List.nil_append]
    simp [textB_app]
theorem outJ_all (x : Tree) (f : List Nat) (c : Nat) (h : x.kids ≠ []) : outJ x f c x.kids.length = outN f c x := by
  obtain ⟨k, t, ks, kids, l⟩ := x
  cases kids with
  | nil => exact absurd rfl h
  | cons a b =>
    by_cases hk : k = 2
    · have := outJ_seq (.mk k t ks (a :: b) l) f c hk b.length (by simp [Tree.kids])
      have ed : (Tree.mk k t ks (a :: b) l).kids.drop (b.length + 1) = [] := by simp [Tree.kids]
      rw [ed] at this
      have hn : textB (nxS c [] ++ tlS c []) = [] := by simp [nxS, tlS, textB]
      rw [hn, List.append_nil] at this
      refine this.trans ?_
      unfold outN
      rw [tlT, if_pos hk]
      have : hdB (.mk k t ks (a :: b) l) = .dash (hdB a) := by show (if k = 2 then _ else _) = _; rw [if_pos hk]
      rw [this]; rfl
    · have := outJ_map (.mk k t ks (a :: b) l) f c hk b.length (by simp [Tree.kids])
      have ed : (Tree.mk k t ks (a :: b) l).kids.drop (b.length + 1) = [] := by simp [Tree.kids]
      rw [ed] at this
      have hn : ∀ q, textB (nxM c q [] ++ tlM c q []) = [] := fun q => by cases q <;> simp [nxM, tlM, textB]
      rw [hn, List.append_nil] at this
      refine this.trans ?_
      unfold outN
      rw [tlT, if_neg hk]
      have : hdB (.mk k t ks (a :: b) l) = keyB (ks.headD { data := #[] }) a := by show (if k = 2 then _ else _) = _; rw [if_neg hk]
      rw [this]; rfl
end Go.Proofs.YtdhgcgejdoedbaaGreatDoor

/-
  What a tree is that may be printed (plain; no program).
-/
namespace Go.Proofs.YtdhgcgejdoedbaaGreatDoor
open Go.RowKit Go.WideShapes

inductive GoodT : Tree → Prop
  | mk {k : Nat} {t : ByteArray} {ks : List ByteArray} {kids : List Tree} {l : Int} (hk : 1 ≤ k ∧ k ≤ 3) (ht : OkT t) (hks : ∀ s ∈ ks, OkT s ∧ s.size ≤ 64) (hnd : ks.Nodup) (h1 : k = 1 → ks = [] ∧ kids = []) (h2 : k ≠ 1 → t = { data := #[] }) (h3 : k = 2 → ks = []) (h4 : k = 3 → ks.length = kids.length) (h : ∀ x ∈ kids, GoodT x) : GoodT (.mk k t ks kids l)
theorem GoodT.kids {x : Tree} (h : GoodT x) : ∀ y ∈ x.kids, GoodT y := by cases h with | mk _ _ _ _ _ _ _ _ h => exact h
theorem GoodT.text {x : Tree} (h : GoodT x) : OkT x.text := by cases h with | mk _ ht => exact ht
theorem GoodT.keys {x : Tree} (h : GoodT x) : ∀ s ∈ x.keys, OkT s ∧ s.size ≤ 64 := by cases h with | mk _ _ hks => exact hks
theorem GoodT.kind {x : Tree} (h : GoodT x) : 1 ≤ x.kind ∧ x.kind ≤ 3 := by cases h with | mk hk => exact hk
theorem GoodT.map {x : Tree} (h : GoodT x) (hk : x.kind ≠ 2) (hne : x.kids ≠ []) : x.kind = 3 ∧ x.keys.length = x.kids.length := by
  cases h with
  | mk hk' _ _ _ h1 _ _ h4 =>
    simp only [Tree.kind, Tree.keys, Tree.kids] at *
    have : ∀ k, 1 ≤ k ∧ k ≤ 3 → k ≠ 2 → k ≠ 1 → k = 3 := by omega
    have h3 := this _ hk' hk (fun e => hne (h1 e).2)
    exact ⟨h3, h4 h3⟩
theorem okT_check {s : ByteArray} {m : Int} (hm : m ≤ 4096) (h : checkN (bsN s) m = 0) : OkT s ∧ (s.size : Int) ≤ m := by
  unfold checkN at h
  split at h
  · cases h
  · split at h
    · rename_i h1 h2
      have := bsN_len s
      exact ⟨⟨by omega, first_utf (bsN_lt s) (by omega)⟩, by omega⟩
    · cases h
theorem keys_nodup {l : List ByteArray} (h : ∀ i (hi : i < l.length), hasS (l.take i) l[i] = false) : l.Nodup := by
  rw [List.nodup_iff_pairwise_ne, List.pairwise_iff_getElem]
  intro i j hi hj hij e
  have := h j hj
  unfold hasS at this
  rw [List.contains_eq_mem] at this
  have h2 : l[j] ∈ l.take j := by
    rw [← e]
    exact List.mem_take_iff_getElem.2 ⟨i, by omega, rfl⟩
  simp [h2] at this
theorem keysC_good {l : List ByteArray} (h : keysC l = 0) : (∀ s ∈ l, OkT s ∧ s.size ≤ 64) ∧ l.Nodup := by
  have h0 := firstNZ_zero.1 h
  have h1 : ∀ i (hi : i < l.length), keyC l i l[i] = 0 := fun i hi => h0 _ (by
    unfold keysE
    exact List.mem_mapIdx.2 ⟨i, hi, rfl⟩)
  have h2 : ∀ i (hi : i < l.length), checkN (bsN l[i]) 64 = 0 ∧ hasS (l.take i) l[i] = false := fun i hi => by
    have := h1 i hi
    unfold keyC at this
    split at this
    · rename_i hc
      refine ⟨hc, ?_⟩
      split at this
      · cases this
      · rename_i hh; simpa using hh
    · rename_i hc; exact absurd this hc
  refine ⟨fun s hs => ?_, keys_nodup fun i hi => (h2 i hi).2⟩
  obtain ⟨i, hi, rfl⟩ := List.getElem_of_mem hs
  obtain ⟨a, b⟩ := okT_check (by decide) (h2 i hi).1
  exact ⟨a, by omega⟩
theorem good_lev : ∀ (x : Tree) (lev m : Nat), lev + m = 17 → rcheckT lev x = 0 → GoodT x ∧ DepT m x := by
  refine Tree.ind fun k t ks kids l ih lev m hm h => ?_
  rw [rcheckT] at h
  split at h
  · rename_i hn
    have hk : ∀ q : List Tree, (∀ y ∈ q, y ∈ kids) → rcheckTs (lev + 1) q = 0 → ∀ y ∈ q, rcheckT (lev + 1) y = 0 := fun q hq h => by
      rw [rcheckTs_first] at h
      intro y hy
      exact firstNZ_zero.1 h _ (List.mem_map.2 ⟨y, hy, rfl⟩)
    have hkk := hk kids (fun _ h => h) h
    unfold nodeC at hn
    split at hn
    · cases hn
    · rename_i hlev
      split at hn
      · cases hn
      · rename_i hkind
        split at hn
        · cases hn
        · rename_i hodd
          split at hn
          · rename_i htx
            obtain ⟨h1, h2⟩ := keysC_good hn
            simp only [Tree.kind] at hkind
            have ht := (okT_check (by decide) htx).1
            have hsz : ∀ {t : ByteArray}, t.size = 0 → t = { data := #[] } := fun {t} e => by
              obtain ⟨d⟩ := t
              rw [show ({ data := d } : ByteArray).size = d.size from rfl] at e
              rw [Array.eq_empty_of_size_eq_zero e]
            obtain ⟨m, rfl⟩ : ∃ q, m = q + 1 := ⟨m - 1, by omega⟩
            have hko : (k = 1 → ks = [] ∧ kids = []) ∧ (k ≠ 1 → t = { data := #[] }) ∧ (k = 2 → ks = []) ∧ (k = 3 → ks.length = kids.length) := by
              change ¬ ((if k = 1 then decide (0 < ks.length + kids.length) else if k = 2 then decide (t.size ≠ 0) || decide (0 < ks.length) else decide (t.size ≠ 0) || decide (ks.length ≠ kids.length)) = true) at hodd
              by_cases e1 : k = 1
              · subst e1
                simp only [if_true, decide_eq_true_eq] at hodd
                exact ⟨fun _ => ⟨List.length_eq_zero_iff.1 (by omega), List.length_eq_zero_iff.1 (by omega)⟩, fun h => absurd rfl h, fun h => by omega, fun h => by omega⟩
              · rw [if_neg e1] at hodd
                by_cases e2 : k = 2
                · subst e2
                  simp only [if_true, Bool.or_eq_true, decide_eq_true_eq, not_or, Decidable.not_not] at hodd
                  exact ⟨fun h => by omega, fun _ => hsz hodd.1, fun _ => List.length_eq_zero_iff.1 (by omega), fun h => by omega⟩
                · rw [if_neg e2] at hodd
                  simp only [Bool.or_eq_true, decide_eq_true_eq, not_or, Decidable.not_not] at hodd
                  exact ⟨fun h => absurd h e1, fun _ => hsz hodd.1, fun h => absurd h e2, fun _ => hodd.2⟩
            exact ⟨.mk (by omega) ht h1 h2 hko.1 hko.2.1 hko.2.2.1 hko.2.2.2 fun y hy => (ih y hy (lev + 1) m (by omega) (hkk y hy)).1, .mk fun y hy => (ih y hy (lev + 1) m (by omega) (hkk y hy)).2⟩
          · rename_i h; exact absurd hn h
  · rename_i hn; exact absurd h hn
theorem good_of {x : Tree} (h : checkT x = 0) : GoodT x ∧ DepT 16 x := good_lev x 1 16 rfl (by rw [rcheckT_check]; exact h)
end Go.Proofs.YtdhgcgejdoedbaaGreatDoor

/-
  block.write.
-/
namespace Go.Proofs.YtdhgcgejdoedbaaGreatDoor
open Go.RowKit Go.WideShapes

theorem bld_below {T e : TypeId} {B b : Nat} {bs : List Value} {w w' : World} (h : Lib.IsBuilder T e B b bs w) (hb : Below w.heap.size w w') : Lib.IsBuilder T e B b bs w' := by
  rcases h with ⟨h1, v, h2, h3, h4⟩ | ⟨h1, v, h2, h3, h4⟩
  · exact .inl ⟨h1, v, (hb.block b (Array.getElem?_eq_some_iff.1 h2).1).trans h2, ownsB h3 hb, h4⟩
  · exact .inr ⟨h1, v, (hb.block b (Array.getElem?_eq_some_iff.1 h2).1).trans h2, ownsB h3 hb, h4⟩
theorem bld_lt {T e : TypeId} {B b : Nat} {bs : List Value} {w : World} (h : Lib.IsBuilder T e B b bs w) : b < w.heap.size := by
  rcases h with ⟨_, v, h2, _⟩ | ⟨_, v, h2, _⟩
  · exact (Array.getElem?_eq_some_iff.1 h2).1
  · exact (Array.getElem?_eq_some_iff.1 h2).1
theorem strCells_app (a b : ByteArray) : Lib.strCells (a ++ b) = Lib.strCells a ++ Lib.strCells b := by simp [Lib.strCells]
def outS (first : ByteArray) (c : Nat) (x : Tree) : ByteArray := mkS (outN (bsN first) c x)
def WrC (w0 : World) (x : Tree) : Prop := ∀ (cs : List Value) (B b c : Nat) (bs : List Value) (first ahead : ByteArray) (w : World), NodeR w0 cs x → Below w0.heap.size w0 w → w0.heap.size ≤ B → Lib.IsBuilder 55 5 B b bs w → B ≤ w.heap.size → (x.kids = [] ∨ ahead = mkS (List.replicate c 32)) → GoodT x → (∃ m, DepT m x ∧ c + 2 * m ≤ 1000000) → bs.length + (outN (bsN first) c x).length ≤ 140000000000000 →
  Calls Tryz.prog 18 #[.pointer (some ⟨b, 0, none⟩), .agg cs.toArray, .string first, .string ahead] w fun e w' => e = .returned (.tuple #[]) ∧ Lib.IsBuilder 55 5 B b (bs ++ Lib.strCells (outS first c x)) w' ∧ Below B w w' ∧ KeptB b w w'
set_option maxRecDepth 100000 in
set_option maxHeartbeats 1000000 in
theorem write_leaf (w0 : World) (x : Tree) (hk : x.kids = []) : WrC w0 x := by
  intro cs B b c bs first ahead w h hw hB hI hBw _ hsm _ hsz
  obtain ⟨ka, kc, ba, bc, rfl⟩ := h.cells
  have hts : x.text.size ≤ 1000000 := Nat.le_trans hsm.text.1 (by decide)
  have hb := (Below.refl w.heap.size w).alloc (Nat.le_refl _) (.cells #[.int .u8 (x.kind : Int), .string x.text, .slice ka x.keys.length kc, .slice ba x.kids.length bc, .int .i64 x.line] 25)
  have HL := Lib.hid (leaf_any x _ _ (h.belowW (hw.trans (hb.mono hw.size))) hts)
  have HO : Hid (outS first c x = first ++ mkS (leafL (leafO x)) ++ { data := #[10] }) := Lib.hid (by
    obtain ⟨h1, h2⟩ := leaf_hd (y := x) (by rw [hk]; rfl) c
    unfold outS outN
    rw [h1, h2]
    show mkS (bsN first ++ leafL (leafO x) ++ [10]) = _
    rw [← mkS_append, ← mkS_append, mkS_bsN]; rfl)
  have hol : (outN (bsN first) c x).length = first.size + (leafL (leafO x)).length + 1 := by
    obtain ⟨h1, h2⟩ := leaf_hd (y := x) (by rw [hk]; rfl) c
    unfold outN
    rw [h1, h2]
    simp [textB, bodyS, bsN_len]
    omega
  have hlz := mkS_size (leafL (leafO x))
  have HW := Lib.hid hw
  have hIb := bld_below hI hb
  have HI := Lib.hid hIb
  have HB := Lib.hid hb
  have hkl : x.kids.length = 0 := by rw [hk]; rfl
  have hz : bs.length + (first.size + (mkS (leafL (leafO x))).size + 1) ≤ 140000000000000 := by omega
  have HZ := Lib.hid hz
  have hfz : first.size ≤ 140000000000000 := by omega
  have hlz2 : (mkS (leafL (leafO x))).size ≤ 140000000000000 := by omega
  clear h hI hIb hb hw hk hsz hol hlz hz hts hsm
  generalize mkS (leafL (leafO x)) = lf at *
  rw [hkl] at HL HB HI ⊢
  go_enter Tryz.func18, Tryz.ntmps18
  go_wp2_with fail
  go_step3
  go_wp2_with fail
  refine HL.out.mono ?_
  rintro e w1 ⟨rfl, hb1⟩
  have HB1 := Lib.hid (HB.out.trans (hb1.mono HB.out.size))
  have HI1 := Lib.hid (bld_below HI.out hb1)
  clear hb1
  go_wp2_with fail
  have hB1 : B ≤ w1.heap.size := Nat.le_trans hBw HB1.out.size
  have hss : (first ++ lf ++ { data := #[10] } : ByteArray).size = first.size + lf.size + 1 := by simp; rfl
  have HKB := Lib.hid (KeptB.of_below (b := b) HB1.out)
  refine (WriteStringK_any B b bs _ w1 HI1.out (by have := HZ.out; omega) hB1).mono ?_
  rintro e w2 ⟨rfl, hI2, hb2, hk2⟩
  have HI2 := Lib.hid hI2
  have HB2 := Lib.hid ((HB1.out.mono hBw).trans hb2)
  have HK2 := Lib.hid (HKB.out.trans hk2)
  clear hI2 hb2 hk2
  go_wp2_with fail
  rw [Exit.noGoto_ret]
  exact bodyPost_ret (v := .tuple #[]) (by simp [results, Tryz.results18, go_sem]) rfl ⟨rfl, by rw [HO.out]; exact HI2.out, HB2.out, HK2.out⟩
end Go.Proofs.YtdhgcgejdoedbaaGreatDoor

/-
  block.write: every tree.
-/
namespace Go.Proofs.YtdhgcgejdoedbaaGreatDoor
open Go.RowKit Go.WideShapes

theorem strCells_len (a : ByteArray) : (Lib.strCells a).length = a.size := Lib.strCells_length a
theorem outJ_step (x : Tree) (f : List Nat) (c j : Nat) : (outJ x f c j).length ≤ (outJ x f c (j + 1)).length := by rw [outJ, List.length_append]; omega
theorem outJ_le (x : Tree) (f : List Nat) (c j : Nat) : ∀ n, (outJ x f c j).length ≤ (outJ x f c (j + n)).length
  | 0 => Nat.le_refl _
  | n + 1 => Nat.le_trans (outJ_le x f c j n) (outJ_step x f c (j + n))
theorem outN_ge (f : List Nat) (c : Nat) (x : Tree) : f.length ≤ (outN f c x).length := by unfold outN; simp
theorem bsN_app (a b : ByteArray) : bsN (a ++ b) = bsN a ++ bsN b := by simp [bsN]
theorem mkS_bl (c : Nat) : mkS (List.replicate c 32) ++ { data := #[32, 32] } = mkS (List.replicate (c + 2) 32) := by
  rw [← List.replicate_append_replicate, ← mkS_append]; rfl
theorem bsN_bl (c : Nat) : bsN (mkS (List.replicate c 32)) = List.replicate c 32 := bsN_mkS fun b hb => by rw [List.eq_of_mem_replicate hb]; decide
theorem oj_seq (x : Tree) (first : ByteArray) (c j : Nat) (hk : x.kind = 2) (hj : j < x.kids.length) (fc : ByteArray) (hfc : bsN fc = if j = 0 then bsN first else List.replicate c 32) :
    outJ x (bsN first) c (j + 1) = outJ x (bsN first) c j ++ outN (bsN (fc ++ { data := #[45, 32] })) (c + 2) x.kids[j] := by
  rw [outJ, pieceN, if_pos hk, ← hfc, bsN_app]
  have : x.kids.getD j noTree = x.kids[j] := by simp [List.getD, hj]
  rw [this]; rfl
theorem oj_leaf (x : Tree) (first : ByteArray) (c j : Nat) (hk : x.kind ≠ 2) (hj : j < x.kids.length) (hj2 : j < x.keys.length) (he : x.kids[j].kids = []) (fc : ByteArray) (hfc : bsN fc = if j = 0 then bsN first else List.replicate c 32) :
    outJ x (bsN first) c (j + 1) = outJ x (bsN first) c j ++ outN (bsN (fc ++ putS x.keys[j] ++ { data := #[58] } ++ { data := #[32] })) 0 x.kids[j] := by
  have h1 : x.kids.getD j noTree = x.kids[j] := by simp [List.getD, hj]
  have h2 : x.keys.getD j { data := #[] } = x.keys[j] := by simp [List.getD, hj2]
  rw [outJ, pieceN, if_neg hk, ← hfc, h1, h2, he, bsN_app, bsN_app, bsN_app, putS_bytes]
  show _ ++ outN _ 0 _ = _ ++ outN _ 0 _
  congr 2
  simp only [List.append_assoc]; rfl
theorem oj_in (x : Tree) (first : ByteArray) (c j : Nat) (hk : x.kind ≠ 2) (hj : j < x.kids.length) (hj2 : j < x.keys.length) (he : x.kids[j].kids ≠ []) (fc : ByteArray) (hfc : bsN fc = if j = 0 then bsN first else List.replicate c 32) :
    outJ x (bsN first) c (j + 1) = outJ x (bsN first) c j ++ bsN (fc ++ putS x.keys[j] ++ { data := #[58] } ++ { data := #[10] }) ++ outN (bsN (mkS (List.replicate c 32) ++ { data := #[32, 32] })) (c + 2) x.kids[j] := by
  have h1 : x.kids.getD j noTree = x.kids[j] := by simp [List.getD, hj]
  have h2 : x.keys.getD j { data := #[] } = x.keys[j] := by simp [List.getD, hj2]
  have h3 : x.kids[j].kids.isEmpty = false := by cases h : x.kids[j].kids with
    | nil => exact absurd h he
    | cons a b => rfl
  rw [outJ, pieceN, if_neg hk, ← hfc, h1, h2, h3, bsN_app, bsN_app, bsN_app, putS_bytes, mkS_bl, bsN_bl]
  show _ ++ (_ ++ outN _ _ _) = _ ++ _ ++ outN _ _ _
  simp only [List.append_assoc]; rfl
set_option maxRecDepth 100000 in
set_option maxHeartbeats 4000000 in
theorem write_any (w0 : World) : ∀ x, WrC w0 x := by
  refine Tree.ind fun k t ks kids ln ih => ?_
  by_cases hk0 : kids = []
  · exact write_leaf w0 _ hk0
  intro cs B b c bs first ahead w h hw hB hI hBw had hgd hdm hsz
  obtain rfl : ahead = mkS (List.replicate c 32) := had.resolve_left hk0
  obtain ⟨vk, vc, rfl, hk8, ht63, hks63, hln, hk1, hc1⟩ := h.parts
  obtain ⟨ba, bc, rfl, hv1, hv2⟩ := hc1.form
  obtain ⟨ka, kc, rfl⟩ := hk1.form
  have hfin : outN (bsN first) c (.mk k t ks kids ln) = outJ (.mk k t ks kids ln) (bsN first) c kids.length := (outJ_all (.mk k t ks kids ln) (bsN first) c hk0).symm
  have hlen : ∀ j, j < kids.length → (outJ (.mk k t ks kids ln) (bsN first) c (j + 1)).length ≤ (outN (bsN first) c (.mk k t ks kids ln)).length := fun j hj => by
    rw [hfin]
    have := outJ_le (.mk k t ks kids ln) (bsN first) c (j + 1) (kids.length - (j + 1))
    rwa [show j + 1 + (kids.length - (j + 1)) = kids.length by omega] at this
  have HSEQ := Lib.hid (fun (j : Nat) (hj : j < kids.length) (hk : k = 2) (fc : ByteArray) (hfc : bsN fc = if j = 0 then bsN first else List.replicate c 32) => show Lib.strCells (mkS (outJ (.mk k t ks kids ln) (bsN first) c (j + 1))) = Lib.strCells (mkS (outJ (.mk k t ks kids ln) (bsN first) c j)) ++ Lib.strCells (outS (fc ++ { data := #[45, 32] }) (c + 2) kids[j]) ∧ bs.length + (Lib.strCells (mkS (outJ (.mk k t ks kids ln) (bsN first) c j))).length + (outN (bsN (fc ++ { data := #[45, 32] })) (c + 2) kids[j]).length ≤ 140000000000000 from by
    have e := oj_seq (.mk k t ks kids ln) first c j hk hj fc hfc
    have hl := hlen j hj
    have he := congrArg List.length e
    rw [List.length_append] at he
    refine ⟨by rw [e, ← mkS_append, strCells_app]; rfl, ?_⟩
    have hz : (Lib.strCells (mkS (outJ (.mk k t ks kids ln) (bsN first) c j))).length = (outJ (.mk k t ks kids ln) (bsN first) c j).length := by rw [strCells_len, mkS_size]
    rw [hz]
    simp only [Tree.kids] at he
    omega)
  have HLEAF := Lib.hid (fun (j : Nat) (hj : j < kids.length) (hj2 : j < ks.length) (hk : k ≠ 2) (hy : kids[j].kids = []) (fc : ByteArray) (hfc : bsN fc = if j = 0 then bsN first else List.replicate c 32) => show Lib.strCells (mkS (outJ (.mk k t ks kids ln) (bsN first) c (j + 1))) = Lib.strCells (mkS (outJ (.mk k t ks kids ln) (bsN first) c j)) ++ Lib.strCells (outS (fc ++ putS ks[j] ++ { data := #[58] } ++ { data := #[32] }) 0 kids[j]) ∧ bs.length + (Lib.strCells (mkS (outJ (.mk k t ks kids ln) (bsN first) c j))).length + (outN (bsN (fc ++ putS ks[j] ++ { data := #[58] } ++ { data := #[32] })) 0 kids[j]).length ≤ 140000000000000 from by
    have e := oj_leaf (.mk k t ks kids ln) first c j hk hj hj2 hy fc hfc
    have hl := hlen j hj
    have he := congrArg List.length e
    rw [List.length_append] at he
    refine ⟨by rw [e, ← mkS_append, strCells_app]; rfl, ?_⟩
    have hz : (Lib.strCells (mkS (outJ (.mk k t ks kids ln) (bsN first) c j))).length = (outJ (.mk k t ks kids ln) (bsN first) c j).length := by rw [strCells_len, mkS_size]
    rw [hz]
    simp only [Tree.kids, Tree.keys] at he
    omega)
  have HIN := Lib.hid (fun (j : Nat) (hj : j < kids.length) (hj2 : j < ks.length) (hk : k ≠ 2) (hy : kids[j].kids ≠ []) (fc : ByteArray) (hfc : bsN fc = if j = 0 then bsN first else List.replicate c 32) => show Lib.strCells (mkS (outJ (.mk k t ks kids ln) (bsN first) c (j + 1))) = Lib.strCells (mkS (outJ (.mk k t ks kids ln) (bsN first) c j)) ++ Lib.strCells (fc ++ putS ks[j] ++ { data := #[58] } ++ { data := #[10] }) ++ Lib.strCells (outS (mkS (List.replicate c 32) ++ { data := #[32, 32] }) (c + 2) kids[j]) ∧ bs.length + (Lib.strCells (mkS (outJ (.mk k t ks kids ln) (bsN first) c j))).length + (fc ++ putS ks[j] ++ { data := #[58] } ++ { data := #[10] } : ByteArray).size + (outN (bsN (mkS (List.replicate c 32) ++ { data := #[32, 32] })) (c + 2) kids[j]).length ≤ 140000000000000 from by
    have e := oj_in (.mk k t ks kids ln) first c j hk hj hj2 hy fc hfc
    have hl := hlen j hj
    have he := congrArg List.length e
    rw [List.length_append, List.length_append, bsN_len] at he
    refine ⟨by rw [e, ← mkS_append, strCells_app, ← mkS_append, strCells_app, mkS_bsN]; rfl, ?_⟩
    have hz : (Lib.strCells (mkS (outJ (.mk k t ks kids ln) (bsN first) c j))).length = (outJ (.mk k t ks kids ln) (bsN first) c j).length := by rw [strCells_len, mkS_size]
    rw [hz]
    simp only [Tree.kids, Tree.keys] at he
    omega)
  have HF0 : Hid (bsN first = if (0 : Nat) = 0 then bsN first else List.replicate c 32) := Lib.hid (by rw [if_pos rfl])
  have HFN := Lib.hid (fun (j : Nat) (hj : 0 < j) => show bsN (mkS (List.replicate c 32)) = if j = 0 then bsN first else List.replicate c 32 from by rw [if_neg (by omega), bsN_bl])
  have HBL := Lib.hid (mkS_bl c)
  have hJ0 : Lib.strCells (mkS (outJ (.mk k t ks kids ln) (bsN first) c 0)) = [] := rfl
  have HJN : Hid (Lib.strCells (outS first c (.mk k t ks kids ln)) = Lib.strCells (mkS (outJ (.mk k t ks kids ln) (bsN first) c kids.length))) := Lib.hid (by unfold outS; rw [hfin])
  generalize hOJ : (fun j => Lib.strCells (mkS (outJ (.mk k t ks kids ln) (bsN first) c j))) = oj at *
  have ojE : ∀ j, Lib.strCells (mkS (outJ (.mk k t ks kids ln) (bsN first) c j)) = oj j := fun j => by rw [← hOJ]
  simp only [ojE] at HSEQ HLEAF HIN HJN hJ0
  have HG := Lib.hid (fun j (hj : j < kids.length) => hgd.kids kids[j] (List.getElem_mem hj))
  have HIH := Lib.hid (fun j (hj : j < kids.length) => ih kids[j] (List.getElem_mem hj))
  have HPT := Lib.hid (fun j (hj : j < ks.length) (w : World) => sPut_any ks[j] w (Nat.le_trans (hgd.keys ks[j] (List.getElem_mem hj)).2 (by decide)))
  have HPZ := Lib.hid (fun j (hj : j < ks.length) => show (putS ks[j]).size ≤ 20000 from by have h1 := (hgd.keys ks[j] (List.getElem_mem hj)).2; have h2 := wrL_len (bsN ks[j]); rw [← putS_bytes, bsN_len, bsN_len] at h2; omega)
  have HKL := Lib.hid (fun (hk : k ≠ 2) => show ks.length = kids.length from (hgd.map hk hk0).2)
  have hn0 : kids.length ≠ 0 := fun e => hk0 (List.length_eq_zero_iff.1 e)
  have d0 : ((kids.length : Int) == 0) = false := beq_eq_false_iff_ne.2 (by omega)
  have hb := (Below.refl w.heap.size w).alloc (Nat.le_refl _) (.cells #[.int .u8 (k : Int), .string t, .slice ka ks.length kc, .slice ba kids.length bc, .int .i64 ln] 25)
  have HBX := World.alloc_heap_new w (.cells #[.int .u8 (k : Int), .string t, .slice ka ks.length kc, .slice ba kids.length bc, .int .i64 ln] 25)
  have hbl := bld_lt hI
  have HI := Lib.hid (show Lib.IsBuilder 55 5 B b (bs ++ oj 0) (w.alloc (.cells #[.int .u8 (k : Int), .string t, .slice ka ks.length kc, .slice ba kids.length bc, .int .i64 ln] 25)) from by rw [hJ0, List.append_nil]; exact bld_below hI hb)
  have HB := Lib.hid (hb.mono hBw)
  have HBW := Lib.hid (show B ≤ w.heap.size from hBw)
  have HNE := Lib.hid (show w.heap.size ≠ b from by omega)
  have HD := Lib.hid (fun j (hj : j < kids.length) => show ∃ m, DepT m kids[j] ∧ (c + 2) + 2 * m ≤ 1000000 from by obtain ⟨m, hm, hc⟩ := hdm; cases hm with | mk h => exact ⟨_, h _ (List.getElem_mem hj), by omega⟩)
  have hcz : c ≤ 1000000 := by obtain ⟨m, hm, hc⟩ := hdm; omega
  have hbz : (mkS (List.replicate c 32)).size = c := by rw [mkS_size, List.length_replicate]
  have HK := Lib.hid (KeptB.of_below (b := b) hb)
  have HW := Lib.hid hw
  have HC := Lib.hid hc1
  have HKS := Lib.hid hk1
  obtain ⟨p0, p1, p2, p3, p4⟩ := cells5 HBX
  have HX := Lib.hid HBX
  clear h hI hb hw hk1 hc1 hJ0 ojE hOJ hfin hlen ih hks63 HBX had hgd hsz hdm
  go_enter Tryz.func18, Tryz.ntmps18
  go_wp2_with fail
  go_step3
  go_wp2_with fail
  go_step3
  go_wp2_with fail
  generalize w.alloc (.cells #[.int .u8 (k : Int), .string t, .slice ka ks.length kc, .slice ba kids.length bc, .int .i64 ln] 25) = w1 at *
  clear p0 p1 p2 p3 p4
  go_loopg [25, 2] (kids.length + 1) (fun gk iv fv wr => ∃ j : Nat, j + gk = kids.length + 1 ∧ j ≤ kids.length ∧ iv = .int .i64 j ∧ (∃ fs : ByteArray, fv = .string fs ∧ (j = 0 → fs = first)) ∧ Hid (Lib.IsBuilder 55 5 B b (bs ++ oj j) wr) ∧ Hid (Below B w wr) ∧ Hid (KeptB b w wr) ∧ Hid (wr.heap[w.heap.size]? = some (.cells #[.int .u8 (k : Int), .string t, .slice ka ks.length kc, .slice ba kids.length bc, .int .i64 ln] 25 (0, 0))))
  case atStart => exact ⟨0, by omega, by omega, rfl, ⟨first, rfl, fun _ => rfl⟩, HI, HB, HK, HX⟩
  case round =>
    obtain ⟨j, hgk, hj, rfl, ⟨fs, rfl, hfs⟩, HIr, HBr, HKr, HXr⟩ := hrel
    have hg : gk = kids.length + 1 - j := by omega
    subst hg
    by_cases hjl : j < kids.length
    · have hj1 : (j : Int) < (kids.length : Int) := by omega
      have d1 : decide ((j : Int) < (kids.length : Int)) = true := decide_eq_true (by omega)
      have HB0 := Lib.hid (HW.out.trans (HBr.out.mono hB))
      obtain ⟨g, off, cap, ka1, kc1, ba1, bc1, he, q1, q2, hn, y0, y1, y2, y3, y4⟩ := HC.out.at hjl
      obtain ⟨rfl, rfl⟩ : ba = some ⟨g, off, none⟩ ∧ bc = cap := by injection he with e1 e2 e3; exact ⟨e1, e3⟩
      have x0 := cellB HB0.out y0
      have x1 := cellB HB0.out y1
      have x2 := cellB HB0.out y2
      have x3 := cellB HB0.out y3
      have x4 := cellB HB0.out y4
      clear y0 y1 y2 y3 y4
      obtain ⟨p0, p1, p2, p3, p4⟩ := cells5 HXr.out
      have HN := Lib.hid hn
      have HGj := Lib.hid (HG.out j hjl)
      have HIj := Lib.hid (HIH.out j hjl)
      have HSj := Lib.hid (HSEQ.out j hjl)
      have HLj := Lib.hid (HLEAF.out j hjl)
      have HNj := Lib.hid (HIN.out j hjl)
      have HDj := Lib.hid (HD.out j hjl)
      clear hn
      have hbk := (Below.refl wr.heap.size wr).alloc (Nat.le_refl _) (.cells #[.int .u8 (kids[j].kind : Int), .string kids[j].text, .slice ka1 kids[j].keys.length kc1, .slice ba1 kids[j].kids.length bc1, .int .i64 kids[j].line] 25)
      have hbx := World.alloc_heap_new wr (.cells #[.int .u8 (kids[j].kind : Int), .string kids[j].text, .slice ka1 kids[j].keys.length kc1, .slice ba1 kids[j].kids.length bc1, .int .i64 kids[j].line] 25)
      obtain ⟨s0, s1, s2, s3, s4⟩ := cells5 hbx
      have r0 := cellB hbk p0
      have r1 := cellB hbk p1
      have r2 := cellB hbk p2
      have r3 := cellB hbk p3
      have r4 := cellB hbk p4
      have hwr : w.heap.size < wr.heap.size := (Array.getElem?_eq_some_iff.1 HXr.out).1
      have hszk : wr.heap.size < (wr.alloc (.cells #[.int .u8 (kids[j].kind : Int), .string kids[j].text, .slice ka1 kids[j].keys.length kc1, .slice ba1 kids[j].kids.length bc1, .int .i64 kids[j].line] 25)).heap.size := by simp
      have HS := Lib.hid (show b ≠ wr.heap.size from by have := HBr.out.size; omega)
      have HX := Lib.hid ((hbk.block _ hwr).trans HXr.out)
      have HBX := Lib.hid hbx
      have HBk := Lib.hid (HBr.out.trans (hbk.mono (Nat.le_trans HBW.out HBr.out.size)))
      have HKk := Lib.hid (HKr.out.trans (KeptB.of_below (b := b) hbk))
      have HIk := Lib.hid (bld_below HIr.out hbk)
      have HWk := Lib.hid (HB0.out.trans (hbk.mono HB0.out.size))
      have HSZ := Lib.hid hszk
      have HWR := Lib.hid hwr
      clear hbk hbx p0 p1 p2 p3 p4 hszk hwr
      go_upto_region 6 with fail
      generalize wr.alloc (.cells #[.int .u8 (kids[j].kind : Int), .string kids[j].text, .slice ka1 kids[j].keys.length kc1, .slice ba1 kids[j].kids.length bc1, .int .i64 kids[j].line] 25) = wk at *
      clear x0 x1 x2 x3 x4
      go_upto_if 31 with fail
      go_cut [2] (fun s2 wx => (∃ fc : ByteArray, s2 = .string fc ∧ Hid (bsN fc = if j = 0 then bsN first else List.replicate c 32)) ∧ wk = wx)
      case first =>
        by_cases hj0 : j = 0
        · have d2 : ¬ 0 < j := by omega
          obtain rfl := hfs hj0
          have HJ0 := Lib.hid hj0
          clear hj0 hfs
          go_wp2_with fail
          go_meet
          exact ⟨⟨fs, rfl, Lib.hid (by rw [if_pos HJ0.out])⟩, rfl⟩
        · have d2 : 0 < j := by omega
          have HJ0 := Lib.hid hj0
          clear hj0 hfs
          go_wp2_with fail
          go_meet
          exact ⟨⟨_, rfl, Lib.hid (by rw [if_neg HJ0.out, bsN_bl])⟩, rfl⟩
      case rest =>
        obtain ⟨⟨fc, rfl, HFC⟩, rfl⟩ := hcut
        by_cases hk2 : k = 2
        · have d3 : ((k : Int) == 2) = true := beq_iff_eq.2 (by omega)
          obtain ⟨e1, e2⟩ := HSj.out hk2 fc HFC.out
          have e3 := outN_ge (bsN (fc ++ { data := #[45, 32] })) (c + 2) kids[j]
          rw [bsN_len, ByteArray.size_append] at e3
          have e4 : fc.size ≤ 140000000000000 := by omega
          have E1 := Lib.hid e1
          have E2 := Lib.hid e2
          have HCALL := Lib.hid (HIj.out [.int .u8 (kids[j].kind : Int), .string kids[j].text, .slice ka1 kids[j].keys.length kc1, .slice ba1 kids[j].kids.length bc1, .int .i64 kids[j].line] B b (c + 2) (bs ++ oj j) (fc ++ { data := #[45, 32] }) (mkS (List.replicate c 32) ++ { data := #[32, 32] }) wk HN.out HWk.out hB HIk.out (Nat.le_trans HBW.out HBk.out.size) (.inr HBL.out) HGj.out HDj.out (by rw [List.length_append]; exact E2.out))
          clear hk2 e1 e2 e3
          go_wp2_with fail
          refine HCALL.out.mono ?_
          rintro e w2 ⟨rfl, hI2, hb2, hk2⟩
          have HI2 := Lib.hid (show Lib.IsBuilder 55 5 B b (bs ++ oj (j + 1)) w2 from by rw [E1.out, ← List.append_assoc]; exact hI2)
          have HB2 := Lib.hid (HBk.out.trans hb2)
          have HK2 := Lib.hid (HKk.out.trans hk2)
          have HX2 := Lib.hid (hk2 _ _ _ _ HX.out HNE.out (by decide))
          clear hI2 hb2 hk2
          go_wp2_with fail
          go_roundg (kids.length + 1 - (j + 1))
          case measure => omega
          case rel => exact ⟨j + 1, by omega, by omega, rfl, ⟨fc, rfl, fun h => by omega⟩, HI2, HB2, HK2, HX2⟩
        · have d3 : ((k : Int) == 2) = false := beq_eq_false_iff_ne.2 (by omega)
          have hkl : ks.length = kids.length := HKL.out hk2
          have hj2 : j < ks.length := by omega
          obtain ⟨hv0, a0, c0, hve, hv3, hv4, hv5⟩ := HKS.out.below HWk.out
          obtain ⟨ga, oa, rfl, hka⟩ : ∃ ga oa, ka = some ⟨ga, oa, none⟩ ∧ ∀ (i : Nat) c, (strsV ks)[i]? = some c → wk.cell? ⟨ga, oa + i, none⟩ = some c := by
            rcases (HKS.out.below HWk.out).cases (by decide) with ⟨h0, _⟩ | ⟨_, _, ga, oa, c', hq, _, _, h3⟩
            · omega
            · injection hq with q1 q2 q3
              exact ⟨ga, oa, q1, h3⟩
          have hkj := hka j _ (strsV_get hj2)
          have HPUT := Lib.hid (HPT.out j hj2 wk)
          have hpz := HPZ.out j hj2
          have hjk : (j : Int) < (ks.length : Int) := by omega
          clear hv0 hve hv3 hv4 hv5 hka hkl
          by_cases hy : kids[j].kids = []
          · have d4 : ((kids[j].kids.length : Int) == 0) = true := beq_iff_eq.2 (by rw [hy]; rfl)
            obtain ⟨e1, e2⟩ := HLj.out hj2 hk2 hy fc HFC.out
            have e3 := outN_ge (bsN (fc ++ putS ks[j] ++ { data := #[58] } ++ { data := #[32] })) 0 kids[j]
            rw [bsN_len, ByteArray.size_append, ByteArray.size_append, ByteArray.size_append] at e3
            have e4 : fc.size ≤ 140000000000000 := by omega
            have E1 := Lib.hid e1
            have E2 := Lib.hid e2
            have HY := Lib.hid hy
            clear hk2 e1 e2 e3 hy
            go_wp2_with fail
            refine HPUT.out.mono ?_
            rintro e w1 ⟨rfl, hb1⟩
            have HWk1 := Lib.hid (HWk.out.trans (hb1.mono HWk.out.size))
            have HBk1 := Lib.hid (HBk.out.trans (hb1.mono (Nat.le_trans HBW.out HBk.out.size)))
            have HIk1 := Lib.hid (bld_below HIk.out hb1)
            have HKk1 := Lib.hid (HKk.out.trans (KeptB.of_below (b := b) hb1))
            have HX1 := Lib.hid ((hb1.block _ (Array.getElem?_eq_some_iff.1 HX.out).1).trans HX.out)
            have t0 := cellB hb1 s0
            have t1 := cellB hb1 s1
            have t2 := cellB hb1 s2
            have t3 := cellB hb1 s3
            have t4 := cellB hb1 s4
            have HCALL := Lib.hid (HIj.out [.int .u8 (kids[j].kind : Int), .string kids[j].text, .slice ka1 kids[j].keys.length kc1, .slice ba1 kids[j].kids.length bc1, .int .i64 kids[j].line] B b 0 (bs ++ oj j) (fc ++ putS ks[j] ++ { data := #[58] } ++ { data := #[32] }) { data := #[] } w1 HN.out HWk1.out hB HIk1.out (Nat.le_trans HBW.out HBk1.out.size) (.inl HY.out) HGj.out (by obtain ⟨m, h1, h2⟩ := HDj.out; exact ⟨m, h1, by omega⟩) (by rw [List.length_append]; exact E2.out))
            clear hb1 r0 r1 r2 r3 r4 s0 s1 s2 s3 s4 hkj
            go_wp2_with fail
            refine HCALL.out.mono ?_
            rintro e w2 ⟨rfl, hI2, hb2, hk2⟩
            have HI2 := Lib.hid (show Lib.IsBuilder 55 5 B b (bs ++ oj (j + 1)) w2 from by rw [E1.out, ← List.append_assoc]; exact hI2)
            have HB2 := Lib.hid (HBk1.out.trans hb2)
            have HK2 := Lib.hid (HKk1.out.trans hk2)
            have HX2 := Lib.hid (hk2 _ _ _ _ HX1.out HNE.out (by decide))
            clear hI2 hb2 hk2
            go_wp2_with fail
            go_roundg (kids.length + 1 - (j + 1))
            case measure => omega
            case rel => exact ⟨j + 1, by omega, by omega, rfl, ⟨fc, rfl, fun h => by omega⟩, HI2, HB2, HK2, HX2⟩
          · have hy0 : kids[j].kids.length ≠ 0 := fun e => hy (List.length_eq_zero_iff.1 e)
            have d4 : ((kids[j].kids.length : Int) == 0) = false := beq_eq_false_iff_ne.2 (by omega)
            obtain ⟨e1, e2⟩ := HNj.out hj2 hk2 hy fc HFC.out
            have e3 : (fc ++ putS ks[j] ++ { data := #[58] } ++ { data := #[10] } : ByteArray).size ≤ 140000000000000 := by omega
            rw [ByteArray.size_append, ByteArray.size_append, ByteArray.size_append] at e3
            have e4 : fc.size ≤ 140000000000000 := by omega
            have E1 := Lib.hid e1
            have E2 := Lib.hid e2
            clear hk2 e1 e2 e3 hy
            go_wp2_with fail
            refine HPUT.out.mono ?_
            rintro e w1 ⟨rfl, hb1⟩
            have HWk1 := Lib.hid (HWk.out.trans (hb1.mono HWk.out.size))
            have HBk1 := Lib.hid (HBk.out.trans (hb1.mono (Nat.le_trans HBW.out HBk.out.size)))
            have HIk1 := Lib.hid (bld_below HIk.out hb1)
            have HKk1 := Lib.hid (HKk.out.trans (KeptB.of_below (b := b) hb1))
            have HX1 := Lib.hid ((hb1.block _ (Array.getElem?_eq_some_iff.1 HX.out).1).trans HX.out)
            have HBX1 := Lib.hid ((hb1.block _ (Array.getElem?_eq_some_iff.1 HBX.out).1).trans HBX.out)
            have t3 := cellB hb1 s3
            have HWS := Lib.hid (WriteStringK_any B b (bs ++ oj j) (fc ++ putS ks[j] ++ { data := #[58] } ++ { data := #[10] }) w1 HIk1.out (by have := E2.out; rw [List.length_append]; omega) (Nat.le_trans HBW.out HBk1.out.size))
            clear hb1 r0 r1 r2 r3 r4 s0 s1 s2 s3 s4 hkj
            go_wp2_with fail
            refine HWS.out.mono ?_
            rintro e w2 ⟨rfl, hI2, hb2, hk2⟩
            have HWk2 := Lib.hid (HWk1.out.trans (hb2.mono hB))
            have HBk2 := Lib.hid (HBk1.out.trans hb2)
            have HIk2 := Lib.hid hI2
            have HKk2 := Lib.hid (HKk1.out.trans hk2)
            have HX2 := Lib.hid (hk2 _ _ _ _ HX1.out HNE.out (by decide))
            have HBX2 := hk2 _ _ _ _ HBX1.out HS.out.symm (by decide)
            obtain ⟨s0, s1, s2, s3, s4⟩ := cells5 HBX2
            have HCALL := Lib.hid (HIj.out [.int .u8 (kids[j].kind : Int), .string kids[j].text, .slice ka1 kids[j].keys.length kc1, .slice ba1 kids[j].kids.length bc1, .int .i64 kids[j].line] B b (c + 2) (bs ++ oj j ++ Lib.strCells (fc ++ putS ks[j] ++ { data := #[58] } ++ { data := #[10] })) (mkS (List.replicate c 32) ++ { data := #[32, 32] }) (mkS (List.replicate c 32) ++ { data := #[32, 32] }) w2 HN.out HWk2.out hB HIk2.out (Nat.le_trans HBW.out HBk2.out.size) (.inr HBL.out) HGj.out HDj.out (by have := E2.out; rw [List.length_append, List.length_append, strCells_len]; omega))
            clear hI2 hb2 hk2 HBX2 t3
            go_wp2_with fail
            refine HCALL.out.mono ?_
            rintro e w3 ⟨rfl, hI3, hb3, hk3⟩
            have HI3 := Lib.hid (show Lib.IsBuilder 55 5 B b (bs ++ oj (j + 1)) w3 from by rw [E1.out, ← List.append_assoc, ← List.append_assoc]; exact hI3)
            have HB3 := Lib.hid (HBk2.out.trans hb3)
            have HK3 := Lib.hid (HKk2.out.trans hk3)
            have HX3 := Lib.hid (hk3 _ _ _ _ HX2.out HNE.out (by decide))
            clear hI3 hb3 hk3 s0 s1 s2 s3 s4
            go_wp2_with fail
            go_roundg (kids.length + 1 - (j + 1))
            case measure => omega
            case rel => exact ⟨j + 1, by omega, by omega, rfl, ⟨fc, rfl, fun h => by omega⟩, HI3, HB3, HK3, HX3⟩
    · have d1 : decide ((j : Int) < (kids.length : Int)) = false := decide_eq_false (by omega)
      obtain rfl : j = kids.length := by omega
      go_wp2_with fail
      rw [Exit.noGoto_normal]
      go_end0
      exact ⟨rfl, by rw [HJN.out]; exact HIr.out, HBr.out, HKr.out⟩
end Go.Proofs.YtdhgcgejdoedbaaGreatDoor
