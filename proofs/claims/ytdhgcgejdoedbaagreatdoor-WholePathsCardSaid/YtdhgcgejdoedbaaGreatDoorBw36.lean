/-
  block.reader: within, seq: contracts.
-/
import Derived.Deep.CutBlock
import Derived.Defers
import Derived.Recover
import Derived.Laws.Pointers
import Derived.Test.YtdhgcgejdoedbaaGreatDoorBw35
namespace Go.Proofs.YtdhgcgejdoedbaaGreatDoor
open Go.RowKit Go.WideShapes

theorem drop_cons {l : List TokD} {k : Nat} {t : TokD} {r : List TokD} (h : (l.map erE).drop k = t :: r) : ∃ t', l[k]? = some t' ∧ erE t' = t ∧ (l.map erE).drop (k + 1) = r := by
  have hk : k < (l.map erE).length := by
    rcases Nat.lt_or_ge k (l.map erE).length with h1 | h1
    · exact h1
    · rw [List.drop_eq_nil_of_le h1] at h; cases h
  rw [List.drop_eq_getElem_cons hk] at h
  injection h with h1 h2
  rw [List.length_map] at hk
  exact ⟨l[k], List.getElem?_eq_getElem hk, by rw [← h1, List.getElem_map], h2⟩
theorem drop_nil {l : List TokD} {k : Nat} (h : (l.map erE).drop k = []) : kndN l k = 0 := by
  refine kndN_no fun hk => ?_
  have := List.length_drop (i := k) (l := l.map erE)
  rw [h, List.length_map] at this
  simp at this
  omega
theorem erE_kind {t u : TokD} (h : erE t = u) : t.1 = u.1 := by
  rw [← h]; unfold erE; split <;> rfl
theorem erE_rest {t u : TokD} (h : erE t = u) (h1 : u.1 ≠ 1) (h2 : u.1 ≠ 2) : t.2.1 = u.2.1 ∧ t.2.2.1 = u.2.2.1 := by
  have hk := erE_kind h
  have : erE t = (t.1, t.2.1, t.2.2.1, 0) := by
    unfold erE
    rw [if_neg (by rw [hk]; omega)]
  rw [this] at h
  rw [← h]
  exact ⟨rfl, rfl⟩
theorem kndN_drop {l : List TokD} {k : Nat} {t : TokD} {r : List TokD} (h : (l.map erE).drop k = t :: r) : kndN l k = t.1 := by
  obtain ⟨t', h1, h2, _⟩ := drop_cons h
  rw [kndN_lt h1, erE_kind h2]
theorem OffR.keepO {R lo hi : Nat} {W W' : World} {cs : List Value} {x : Tree} (h : NodeO W (inSpan lo hi) cs x) (ho : OffR R W W') (hR : R < lo) {lo' hi' : Nat} (h1 : lo' ≤ lo) (h2 : hi ≤ hi') : NodeO W' (inSpan lo' hi') cs x :=
  h.keep (fun g hP hl => ho.same g hl (by have := hP.1; omega)) (fun g hP => ⟨by have := hP.1; omega, by have := hP.2; omega⟩)
structure KidsR (base : Nat) (l : List Tree) (rows : List (List Value)) (v : Value) (W : World) : Prop where
  len : rows.length = l.length
  own : W.ownsRow base 25 5 v l.length rows.flatten
  node : ∀ (i : Nat) (r : List Value) (x : Tree), rows[i]? = some r → l[i]? = some x → NodeO W (inSpanBut base W.heap.size v) r x
theorem KidsR.off {base R : Nat} {l : List Tree} {rows : List (List Value)} {v : Value} {W W' : World} (h : KidsR base l rows v W) (ho : OffR R W W') (hR : R < base) : KidsR base l rows v W' := by
  refine ⟨h.len, ownsRow_keepB h.own (fun g hg => ?_), fun i r x hr hx => (h.node i r x hr hx).keep (fun g hP hl => ho.same g hl (by have := hP.1; omega)) (fun g hP => ⟨hP.1, Nat.lt_of_lt_of_le hP.2.1 ho.size, hP.2.2⟩)⟩
  have := h.own.lt g hg
  exact ho.same g (by omega) (by omega)
theorem KidsR.push {base lo : Nat} {l : List Tree} {rows : List (List Value)} {v v' : Value} {W1 W2 W3 : World} {cs : List Value} {x : Tree} (h : KidsR base l rows v W1) (hn : NodeO W1 (inSpan lo W1.heap.size) cs x) (hlo : ∀ g, v.ownBlock = some g → g < lo) (hb : base ≤ lo) (h2 : Below W1.heap.size W1 W2) (hg : W2.grownBy W3 v.ownBlock)
    (hown : W3.ownsRow base 25 5 v' (l.length + 1) (rows.flatten ++ cs)) (hf : Fresh W2 v v') : KidsR base (l ++ [x]) (rows ++ [cs]) v' W3 := by
  have s1 := h2.size
  have s2 := hg.size
  have hv : ∀ g, g < W1.heap.size → v'.ownBlock = some g → v.ownBlock = some g := fun g hl e => by
    rcases hf g e with h | h
    · exact h
    · omega
  have same : ∀ g, g < W1.heap.size → v.ownBlock ≠ some g → W3.heap[g]? = W1.heap[g]? := fun g hl hne => (hg.block g (by omega) (fun e => hne e.symm)).trans (h2.block g hl)
  refine ⟨by simp [h.len], by rw [flatten_snoc, List.length_append, List.length_singleton]; exact hown, fun i r y hr hy => ?_⟩
  rcases Nat.lt_trichotomy i rows.length with hlt | heq | hgt
  · rw [List.getElem?_append_left hlt] at hr
    rw [List.getElem?_append_left (by rw [← h.len]; exact hlt)] at hy
    exact (h.node i r y hr hy).keep (fun g hP hl => same g hl hP.2.2) (fun g hP => ⟨hP.1, by have := hP.2.1; omega, fun e => hP.2.2 (hv g hP.2.1 e)⟩)
  · subst heq
    rw [List.getElem?_append_right (Nat.le_refl _), Nat.sub_self] at hr
    rw [h.len, List.getElem?_append_right (Nat.le_refl _), Nat.sub_self] at hy
    simp only [List.getElem?_cons_zero, Option.some.injEq] at hr hy
    subst hr hy
    exact hn.keep (fun g hP hl => same g hl (fun e => by have := hlo g e; have := hP.1; omega)) (fun g hP => ⟨by have := hP.1; omega, by have := hP.2; omega, fun e => by have := hlo g (hv g hP.2 e); have := hP.1; omega⟩)
  · rw [List.getElem?_eq_none (by simp; omega)] at hr; cases hr
theorem KidsR.zero (W : World) : KidsR W.heap.size [] [] (.slice none 0 0) W :=
  ⟨rfl, ⟨rfl, .inl ⟨rfl, rfl⟩⟩, fun i r x hr => by simp at hr⟩
def nkT (x : Tree) (rest : List TokD) : Prop := x.kids = [] ∨ ∀ t r, rest = t :: r → t.1 ≠ 3 ∧ t.1 ≠ 4
def SameK (x' x : Tree) : Prop := sameT x' x = true
def VALC (w0 : World) (R g off cap : Nat) (l : List TokD) (x : Tree) : Prop := ∀ (n c k lv : Nat) (W : World) (rest : List TokD), RdR w0 R g off cap l k W → (l.map erE).drop k = bkT n c x ++ rest → nkT x rest → GoodT x → (∃ m, DepT m x ∧ lv + m ≤ 17) →
  Calls Tryz.prog 48 #[.pointer (some ⟨R, 0, none⟩), .int .i64 (lv : Nat)] W fun e W' => ∃ cs x', e = .returned (.agg cs.toArray) ∧ NodeO W' (inSpan W.heap.size W'.heap.size) cs x' ∧ SameK x' x ∧ RdR w0 R g off cap l (k + (bkT n c x).length) W' ∧ OffR R W W'
section
variable {w0 : World} {R g off cap : Nat} {l : List TokD}
set_option maxRecDepth 100000 in
set_option maxHeartbeats 2000000 in
theorem within_any (y : Tree) (hV : VALC w0 R g off cap l y) (n c k lv : Nat) (W : World) (rest : List TokD) (t0 : TokD) (h : RdR w0 R g off cap l k W) (ht : (l.map erE).drop k = OPN :: (bkT n c y ++ CLS :: rest)) (hgd : GoodT y) (hd : ∃ m, DepT m y ∧ lv + m ≤ 17) :
    Calls Tryz.prog 97 #[.pointer (some ⟨R, 0, none⟩), tokV t0, .int .i64 (lv : Nat)] W fun e W' => ∃ cs x', e = .returned (.agg cs.toArray) ∧ NodeO W' (inSpan W.heap.size W'.heap.size) cs x' ∧ SameK x' y ∧ RdR w0 R g off cap l (k + (bkT n c y).length + 2) W' ∧ OffR R W W' := by
  obtain ⟨t1, e1, e2, e3⟩ := drop_cons ht
  have hk1 := kndN_drop ht
  have e4 : (l.map erE).drop (k + 1 + (bkT n c y).length) = CLS :: rest := by
    rw [← List.drop_drop, e3, List.drop_left]
  obtain ⟨t2, f1, f2, f3⟩ := drop_cons e4
  have hk2 := kndN_drop e4
  obtain ⟨K0, tx0, tn0, tc0⟩ := t0
  have hR := h.lt
  have hb1 := (Below.refl W.heap.size W).alloc (Nat.le_refl _) (.cells #[.int .u8 (K0 : Nat), .string tx0, .int .i64 (tn0 : Nat), .int .i64 (tc0 : Nat)] 39)
  have hb2 := hb1.alloc (o := .cells #[.int .u8 0, .string { data := #[] }, .slice none 0 0, .slice none 0 0, .int .i64 0] 25) (by simp)
  have hz2 : ((W.alloc (.cells #[.int .u8 (K0 : Nat), .string tx0, .int .i64 (tn0 : Nat), .int .i64 (tc0 : Nat)] 39)).alloc (.cells #[.int .u8 0, .string { data := #[] }, .slice none 0 0, .slice none 0 0, .int .i64 0] 25)).heap.size = W.heap.size + 2 := by simp
  have hX2 : ((W.alloc (.cells #[.int .u8 (K0 : Nat), .string tx0, .int .i64 (tn0 : Nat), .int .i64 (tc0 : Nat)] 39)).alloc (.cells #[.int .u8 0, .string { data := #[] }, .slice none 0 0, .slice none 0 0, .int .i64 0] 25)).heap[W.heap.size + 1]? = some (.cells #[.int .u8 0, .string { data := #[] }, .slice none 0 0, .slice none 0 0, .int .i64 0] 25 (0, 0)) := by
    have := World.alloc_heap_new (W.alloc (.cells #[.int .u8 (K0 : Nat), .string tx0, .int .i64 (tn0 : Nat), .int .i64 (tc0 : Nat)] 39)) (.cells #[.int .u8 0, .string { data := #[] }, .slice none 0 0, .slice none 0 0, .int .i64 0] 25)
    rwa [World.size_alloc] at this
  have HR2 := Lib.hid (h.below hb2)
  have HB2 := Lib.hid hb2
  have HX2 := Lib.hid hX2
  have HZ2 := Lib.hid hz2
  have HK2 := Lib.hid (kind_any _ HR2.out)
  have HT2 := Lib.hid (take_any _ HR2.out t1 e1)
  have HV := Lib.hid hV
  have HRL := Lib.hid hR
  have HG := Lib.hid hgd
  have HD := Lib.hid hd
  have HE3 := Lib.hid e3
  have HF1 := Lib.hid f1
  have HKK := Lib.hid hk2
  rw [hk1] at HK2
  clear h ht hgd hd e1 e2 e3 e4 f1 f2 f3 hk1 hk2 hb1 hb2 hX2 hz2 hV hR
  unfold tokV at HT2 ⊢
  go_enter Tryz.func97, Tryz.ntmps97
  go_wp2_with fail
  generalize ((W.alloc (.cells #[.int .u8 (K0 : Nat), .string tx0, .int .i64 (tn0 : Nat), .int .i64 (tc0 : Nat)] 39)).alloc (.cells #[.int .u8 0, .string { data := #[] }, .slice none 0 0, .slice none 0 0, .int .i64 0] 25)) = W2 at *
  refine HK2.out.mono ?_
  rintro e w1 ⟨rfl, rfl⟩
  have hO : OPN.1 = 1 := rfl
  rw [hO]
  go_wp2_with fail
  refine HT2.out.mono ?_
  rintro e W3 ⟨rfl, hr3, ho3⟩
  have HR3 := Lib.hid hr3
  have HO3 := Lib.hid ho3
  have HV3 := Lib.hid (HV.out n c (k + 1) lv W3 (CLS :: rest) hr3 HE3.out (.inr (fun t r e => by injection e with e1 e2; rw [← e1]; exact ⟨by decide, by decide⟩)) HG.out HD.out)
  clear hr3 ho3
  go_wp2_with fail
  refine HV3.out.mono ?_
  rintro e W4 ⟨cs, x', rfl, hn4, hs4, hr4, ho4⟩
  obtain ⟨ka, kc, ba, bc, rfl⟩ := hn4.cells
  have hb5 := (Below.refl W4.heap.size W4).alloc (Nat.le_refl _) (.cells #[.int .u8 (x'.kind : Int), .string x'.text, .slice ka x'.keys.length kc, .slice ba x'.kids.length bc, .int .i64 x'.line] 25)
  have HBX5 := Lib.hid (World.alloc_heap_new W4 (.cells #[.int .u8 (x'.kind : Int), .string x'.text, .slice ka x'.keys.length kc, .slice ba x'.kids.length bc, .int .i64 x'.line] 25))
  have HR5 := Lib.hid (hr4.below hb5)
  have HO5 := Lib.hid ((HO3.out.trans ho4).trans (OffR.of_below hb5 (Nat.le_of_lt hr4.lt)))
  have hRlt : R < W3.heap.size := Nat.lt_of_lt_of_le HR2.out.lt HO3.out.size
  have HN5 := Lib.hid (OffR.keepO hn4 (OffR.of_below hb5 (Nat.le_of_lt hr4.lt)) hRlt (Nat.le_refl _) hb5.size)
  have HZ4 := Lib.hid (show W2.heap.size ≤ W3.heap.size ∧ W3.heap.size ≤ W4.heap.size from ⟨HO3.out.size, ho4.size⟩)
  have HS := Lib.hid hs4
  have HK5 := Lib.hid (kind_any _ HR5.out)
  have HT5 := Lib.hid (take_any _ HR5.out t2 HF1.out)
  rw [HKK.out] at HK5
  clear hn4 hr4 ho4 hs4 hb5 hRlt
  unfold tokV at HT5
  go_wp2_with fail
  generalize W4.alloc (.cells #[.int .u8 (x'.kind : Int), .string x'.text, .slice ka x'.keys.length kc, .slice ba x'.kids.length bc, .int .i64 x'.line] 25) = W5 at *
  refine HK5.out.mono ?_
  rintro e w1 ⟨rfl, rfl⟩
  have hC : CLS.1 = 2 := rfl
  rw [hC]
  go_wp2_with fail
  refine HT5.out.mono ?_
  rintro e W6 ⟨rfl, hr6, ho6⟩
  have HR6 := Lib.hid hr6
  have hW4R : W4.heap.size ≠ R := by
    have h1 := HRL.out
    have h2 := HZ2.out
    have h3 := HZ4.out
    omega
  have hT6R : W.heap.size + 1 ≠ R := by have h1 := HRL.out; omega
  have hx6 := (ho6.same _ (Array.getElem?_eq_some_iff.1 HBX5.out).1 hW4R).trans HBX5.out
  have HO26 := Lib.hid (HO5.out.trans ho6)
  have ht6 := (HO26.out.same _ (Array.getElem?_eq_some_iff.1 HX2.out).1 hT6R).trans HX2.out
  have HN6 := Lib.hid (OffR.keepO HN5.out ho6 (Nat.lt_of_lt_of_le HR2.out.lt HZ4.out.1) (Nat.le_refl _) ho6.size)
  obtain ⟨q0, q1, q2, q3, q4⟩ := cells5 hx6
  obtain ⟨s0, s1, s2, s3, s4⟩ := cells5 ht6
  obtain ⟨f0, f1, f2, f3, f4⟩ := cells5w ht6
  have HT7 := Lib.hid (set5w (x0 := .int .u8 (x'.kind : Int)) (x1 := .string x'.text) (x2 := .slice ka x'.keys.length kc) (x3 := .slice ba x'.kids.length bc) (x4 := .int .i64 x'.line) ht6)
  have HS7 := Lib.hid (fun k (hk : k ≠ W.heap.size + 1) => set5w_other (x0 := .int .u8 (x'.kind : Int)) (x1 := .string x'.text) (x2 := .slice ka x'.keys.length kc) (x3 := .slice ba x'.kids.length bc) (x4 := .int .i64 x'.line) (W := W6) (B := W.heap.size + 1) (k := k) hk)
  have HB7 := Lib.hid (set5w_below (x0 := .int .u8 (x'.kind : Int)) (x1 := .string x'.text) (x2 := .slice ka x'.keys.length kc) (x3 := .slice ba x'.kids.length bc) (x4 := .int .i64 x'.line) (Below.refl (W.heap.size + 1) W6) (B := W.heap.size + 1) (Nat.le_refl _))
  clear hr6 ho6 hx6 ht6 hW4R hT6R
  go_wp2_with fail
  generalize ((((W6.setCell ⟨W.heap.size + 1, 0, none⟩ (.int .u8 (x'.kind : Int))).setCell ⟨W.heap.size + 1, 1, none⟩ (.string x'.text)).setCell ⟨W.heap.size + 1, 2, none⟩ (.slice ka x'.keys.length kc)).setCell ⟨W.heap.size + 1, 3, none⟩ (.slice ba x'.kids.length bc)).setCell ⟨W.heap.size + 1, 4, none⟩ (.int .i64 x'.line) = W7 at *
  obtain ⟨z0, z1, z2, z3, z4⟩ := cells5 HT7.out
  refine bodyPost_ret (v := .agg #[.int .u8 (x'.kind : Int), .string x'.text, .slice ka x'.keys.length kc, .slice ba x'.kids.length bc, .int .i64 x'.line]) (by simp [results, Tryz.results97, go_sem, z0, z1, z2, z3, z4]) rfl ⟨_, x', rfl, ?_, HS.out, ?_, ?_⟩
  · have a1 := HZ2.out
    have a2 := HZ4.out
    have a3 := HB7.out.size
    exact HN6.out.keep (fun g hP hl => HS7.out g (by have := hP.1; omega)) (fun g hP => ⟨by have := hP.1; omega, by have := hP.2; omega⟩)
  · have h1 := HRL.out
    refine ⟨(HS7.out R (by omega)).trans ?_, HR6.out.lo, HR6.out.b.trans (HB7.out.mono (by have := HR6.out.lo; omega)), ?_, HR6.out.s⟩
    · have := HR6.out.cell
      rw [show k + 1 + (bkT n c y).length + 1 = k + (bkT n c y).length + 2 by omega] at this
      exact this
    · have := HR6.out.k
      omega
  · have h1 := HRL.out
    have o2 := (OffR.of_below (R := R) HB2.out (Nat.le_of_lt h1)).trans HO26.out
    exact ⟨o2.b.trans (HB7.out.mono (by omega)), fun i hi hn => (HS7.out i (by omega)).trans (o2.same i hi hn)⟩
end
end Go.Proofs.YtdhgcgejdoedbaaGreatDoor

/-
  block.reader: seq: contract.
-/
namespace Go.Proofs.YtdhgcgejdoedbaaGreatDoor
open Go.RowKit Go.WideShapes

theorem sameTs_push {a b : List Tree} {x y : Tree} (h : sameTs a b = true) (h1 : sameT x y = true) : sameTs (a ++ [x]) (b ++ [y]) = true := by
  obtain ⟨hl, hs⟩ := sameTs_iff.1 h
  refine sameTs_iff.2 ⟨by simp [hl], fun i p q hp hq => ?_⟩
  rcases Nat.lt_trichotomy i a.length with hlt | heq | hgt
  · rw [List.getElem?_append_left hlt] at hp
    rw [List.getElem?_append_left (by omega)] at hq
    exact hs i p q hp hq
  · subst heq
    rw [List.getElem?_append_right (Nat.le_refl _), Nat.sub_self] at hp
    rw [hl, List.getElem?_append_right (Nat.le_refl _), Nat.sub_self] at hq
    simp only [List.getElem?_cons_zero, Option.some.injEq] at hp hq
    subst hp hq
    exact h1
  · rw [List.getElem?_eq_none (by simp; omega)] at hp; cases hp
theorem bkS_ge : ∀ (l : List Tree) (n c : Nat), l.length ≤ (bkS n c l).length
  | [], _, _ => Nat.zero_le _
  | x :: l, n, c => by
    rw [bkS]
    have := bkS_ge l (n + 1 + (tlT (c + 2) x).length) c
    simp only [List.length_cons, List.length_append]; omega
theorem bkM_ge : ∀ (l : List Tree) (n c : Nat) (ks : List ByteArray), l.length ≤ (bkM n c ks l).length
  | [], _, _, _ => Nat.zero_le _
  | x :: l, n, c, ks => by
    rw [bkM]
    have := bkM_ge l (n + 1 + (if x.kids.isEmpty then 0 else (tlT (c + 2) x).length + 1)) c ks.tail
    simp only [List.length_cons, List.length_append]; omega
theorem drop_le {l : List TokD} {k : Nat} {a b : List TokD} (h : (l.map erE).drop k = a ++ b) : a.length ≤ l.length := by
  have := congrArg List.length h
  rw [List.length_drop, List.length_map, List.length_append] at this
  omega
theorem OffR.grown {R n : Nat} {W A B : World} {e : TypeId} {size : Nat} {v : Value} {xs : List Value} (h : OffR R W A) (hown : A.ownsRow W.heap.size e size v n xs) (hg : A.grownBy B v.ownBlock) (hR : R < W.heap.size) : OffR R W B := by
  have hs := h.size
  have hne : ∀ k, k < W.heap.size → some k ≠ v.ownBlock := fun k hk e => by have := (hown.lt k e.symm).1; omega
  exact ⟨h.b.grown hg (by omega) (fun k hk => by have := (hown.lt k hk).1; omega), fun k hk hn => (hg.block k (by omega) (hne k hk)).trans (h.same k hk hn)⟩
theorem RdR.grown {w0 : World} {R g off cap : Nat} {l : List TokD} {k base n : Nat} {A B : World} {e : TypeId} {size : Nat} {v : Value} {xs : List Value} (h : RdR w0 R g off cap l k A) (hown : A.ownsRow base e size v n xs) (hg : A.grownBy B v.ownBlock) (hR : R < base) : RdR w0 R g off cap l k B := by
  have h1 := h.lo
  have h2 := h.lt
  exact ⟨(hg.block R h2 (fun e => by have := (hown.lt R e.symm).1; omega)).trans h.cell, h.lo, h.b.grown hg (by omega) (fun k hk => by have := (hown.lt k hk).1; omega), h.k, h.s⟩
section
variable {w0 : World} {R g off cap : Nat} {l : List TokD}
def SeqAt (l : List TokD) (c : Nat) (kids : List Tree) (rest : List TokD) (kE : Nat) (j kj : Nat) : Prop := ∃ nj, (l.map erE).drop kj = bkS nj c (kids.drop j) ++ rest ∧ kj + (bkS nj c (kids.drop j)).length = kE
set_option maxRecDepth 100000 in
set_option maxHeartbeats 2000000 in
theorem seq_any (kids : List Tree) (hV : ∀ y ∈ kids, VALC w0 R g off cap l y) (n c k lv : Nat) (W : World) (rest : List TokD) (h : RdR w0 R g off cap l k W) (ht : (l.map erE).drop k = bkS n c kids ++ rest) (hnk : ∀ t r, rest = t :: r → t.1 ≠ 3) (hgd : ∀ y ∈ kids, GoodT y) (hd : ∀ y ∈ kids, ∃ m, DepT m y ∧ lv + m ≤ 17) :
    Calls Tryz.prog 70 #[.pointer (some ⟨R, 0, none⟩), .int .i64 (lv : Nat)] W fun e W' => ∃ v l' rows, e = .returned v ∧ sameTs l' kids = true ∧ KidsR W.heap.size l' rows v W' ∧ RdR w0 R g off cap l (k + (bkS n c kids).length) W' ∧ OffR R W W' := by
  obtain ⟨i0, hi, hz0, hz1, hz2⟩ := info_parts Tryz.info_node
  have hkl : kids.length ≤ 1000000 := Nat.le_trans (Nat.le_trans (bkS_ge kids n c) (drop_le ht)) h.s.len
  have HV := Lib.hid hV
  have HG := Lib.hid hgd
  have HD := Lib.hid hd
  have HNK := Lib.hid hnk
  have HRL := Lib.hid h.lt
  have HR0 := Lib.hid h
  have HAT := Lib.hid (show SeqAt l c kids rest (k + (bkS n c kids).length) 0 k from ⟨n, ht, rfl⟩)
  have HKR := Lib.hid (KidsR.zero W)
  generalize hkE : k + (bkS n c kids).length = kE at *
  clear h ht hV hgd hd hnk hkE
  go_enter Tryz.func70, Tryz.ntmps70
  go_wp2_with fail
  go_loopg [5] (kids.length + 1) (fun gk vv wr => ∃ j kj : Nat, j + gk = kids.length + 1 ∧ j ≤ kids.length ∧ Hid (SeqAt l c kids rest kE j kj) ∧ Hid (RdR w0 R g off cap l kj wr) ∧ Hid (OffR R W wr) ∧ Hid (∃ l' rows, sameTs l' (kids.take j) = true ∧ KidsR W.heap.size l' rows vv wr))
  case atStart => exact ⟨0, k, by omega, by omega, HAT, HR0, Lib.hid (OffR.refl R W), Lib.hid ⟨[], [], rfl, HKR.out⟩⟩
  case round =>
    obtain ⟨j, kj, hgk, hj, HA, HR, HO, HJ⟩ := hrel
    have hg : gk = kids.length + 1 - j := by omega
    subst hg
    obtain ⟨nj, ha1, ha2⟩ := HA.out
    have HKD := Lib.hid (kind_any wr HR.out)
    by_cases hjl : j < kids.length
    · have hdr := List.drop_eq_getElem_cons hjl
      rw [hdr, bkS] at ha1 ha2
      have ha3 : (l.map erE).drop kj = (3, { data := #[] }, nj, 0) :: OPN :: (bkT nj (c + 2) kids[j] ++ CLS :: (bkS (nj + 1 + (tlT (c + 2) kids[j]).length) c (kids.drop (j + 1)) ++ rest)) := by rw [ha1]; simp
      obtain ⟨t1, e1, e2, e3⟩ := drop_cons ha3
      have hkk := kndN_drop ha3
      rw [hkk] at HKD
      have HT := Lib.hid (take_any wr HR.out t1 e1)
      have HE3 := Lib.hid e3
      have HNX := Lib.hid (show SeqAt l c kids rest kE (j + 1) (kj + 1 + (bkT nj (c + 2) kids[j]).length + 2) from ⟨nj + 1 + (tlT (c + 2) kids[j]).length, by
        rw [show kj + 1 + (bkT nj (c + 2) kids[j]).length + 2 = kj + 1 + ((bkT nj (c + 2) kids[j]).length + 2) by omega, ← List.drop_drop, e3]
        rw [show (OPN :: (bkT nj (c + 2) kids[j] ++ CLS :: (bkS (nj + 1 + (tlT (c + 2) kids[j]).length) c (kids.drop (j + 1)) ++ rest))) = (OPN :: bkT nj (c + 2) kids[j] ++ [CLS]) ++ (bkS (nj + 1 + (tlT (c + 2) kids[j]).length) c (kids.drop (j + 1)) ++ rest) by simp]
        exact List.drop_left' (by simp), by
        rw [← ha2]; simp only [List.length_cons, List.length_append]; omega⟩)
      have HVj := Lib.hid (HV.out kids[j] (List.getElem_mem hjl))
      have HGj := Lib.hid (HG.out kids[j] (List.getElem_mem hjl))
      have HDj := Lib.hid (HD.out kids[j] (List.getElem_mem hjl))
      clear ha1 ha2 ha3 hdr e1 e2 e3 hkk
      obtain ⟨K1, tx1, tn1, tc1⟩ := t1
      unfold tokV at HT
      obtain ⟨l', rows, hs, hkr⟩ := HJ.out
      obtain ⟨va, vc, rfl⟩ := (RdS.of_owns hkr.own).form
      have hl' : l'.length = j := by have := (sameTs_iff.1 hs).1; rw [this, List.length_take]; omega
      have HS := Lib.hid hs
      have HKR1 := Lib.hid hkr
      have HL := Lib.hid hl'
      clear hs hkr hl'
      go_wp2_with fail
      refine HKD.out.mono ?_
      rintro e w1 ⟨rfl, rfl⟩
      go_wp2_with fail
      refine HT.out.mono ?_
      rintro e W2 ⟨rfl, hr2, ho2⟩
      have HO2 := Lib.hid (HO.out.trans ho2)
      have HKR2 := Lib.hid (HKR1.out.off ho2 (by have := HRL.out; exact this))
      have HWI := Lib.hid (within_any kids[j] HVj.out nj (c + 2) (kj + 1) lv W2 _ (K1, tx1, tn1, tc1) hr2 HE3.out HGj.out HDj.out)
      unfold tokV at HWI
      clear hr2 ho2
      go_wp2_with fail
      refine HWI.out.mono ?_
      rintro e W3 ⟨cs, x', rfl, hn3, hs3, hr3, ho3⟩
      obtain ⟨ka, kc, ba, bc, rfl⟩ := hn3.cells
      have HS3 := Lib.hid hs3
      have HR3 := Lib.hid hr3
      have HO3 := Lib.hid (HO2.out.trans ho3)
      have HKR3 := Lib.hid (HKR2.out.off ho3 HRL.out)
      have HN3 := Lib.hid hn3
      have HZ23 := Lib.hid (show W.heap.size ≤ W2.heap.size ∧ W2.heap.size ≤ W3.heap.size from ⟨HO2.out.size, ho3.size⟩)
      clear hn3 hs3 hr3 ho3
      have hb4 := (Below.refl W3.heap.size W3).alloc (Nat.le_refl _) (.cells #[.int .u8 (x'.kind : Int), .string x'.text, .slice ka x'.keys.length kc, .slice ba x'.kids.length bc, .int .i64 x'.line] 25)
      have HB4 := Lib.hid hb4
      have hown4 := ownsB HKR3.out.own hb4
      have hbase : W.heap.size ≤ (W3.alloc (.cells #[.int .u8 (x'.kind : Int), .string x'.text, .slice ka x'.keys.length kc, .slice ba x'.kids.length bc, .int .i64 x'.line] 25)).heap.size := by have := HZ23.out; have := hb4.size; omega
      have hlz : l'.length ≤ 1000000 := by have := HL.out; omega
      have HOW := Lib.hid hown4
      have HBASE := Lib.hid hbase
      have HVL := Lib.hid (fun gg (hgg : (Value.slice va l'.length vc).ownBlock = some gg) => show gg < W2.heap.size from (HKR2.out.own.lt gg hgg).2)
      clear hb4 hown4 hbase
      go_wp2_with (at_builtin; go_must (refine wpList_push rfl _ _ 23 rfl W.heap.size 25 i0 (.agg #[.int .u8 0, .string { data := #[] }, .slice none 0 0, .slice none 0 0, .int .i64 0]) 5 80 Tryz.underlying23 hi hz0 hz1 hz2 rfl (by decide) _ _ _ rfl HOW.out ⟨W3.heap.size, 0, none⟩ 1 1 _ rfl rfl (World.news_of_block (World.alloc_heap_new W3 _)) (by simp [Value.oneCell']) (by unfold maxLen; omega) (by omega) HBASE.out ?_; intro v5 W5 hown5 hgrow5 hfr5; have HKR5 := Lib.hid (HKR3.out.push HN3.out HVL.out HZ23.out.1 HB4.out hgrow5 hown5 hfr5); have HO5 := Lib.hid ((HO3.out.trans (OffR.of_below HB4.out (Nat.le_trans (Nat.le_of_lt HRL.out) (Nat.le_trans HZ23.out.1 HZ23.out.2)))).grown HOW.out hgrow5 HRL.out); have HR5 := Lib.hid ((HR3.out.below HB4.out).grown HOW.out hgrow5 HRL.out); clear hown5 hgrow5 hfr5))
      go_roundg (kids.length + 1 - (j + 1))
      case measure => omega
      case rel => exact ⟨j + 1, kj + 1 + (bkT nj (c + 2) kids[j]).length + 2, by omega, by omega, HNX, HR5, HO5, Lib.hid ⟨l' ++ [x'], _, by rw [List.take_succ_eq_append_getElem hjl]; exact sameTs_push HS.out HS3.out, HKR5.out⟩⟩
    · have hjE : j = kids.length := by omega
      subst hjE
      rw [List.drop_length] at ha1 ha2
      have hkj : kj = kE := by rw [bkS, List.length_nil, Nat.add_zero] at ha2; exact ha2
      have HR' := Lib.hid (show RdR w0 R g off cap l kE wr from by rw [← hkj]; exact HR.out)
      have hk3 : kndN l kj ≠ 3 := by
        cases hrest : rest with
        | nil =>
          rw [hrest] at ha1
          rw [drop_nil (by rw [ha1]; rfl)]; decide
        | cons t r =>
          rw [hrest] at ha1
          rw [kndN_drop (t := t) (r := r) (by rw [ha1]; rfl)]
          exact HNK.out t r hrest
      obtain ⟨l', rows, hs, hkr⟩ := HJ.out
      rw [List.take_length] at hs
      have HF := Lib.hid (And.intro hs hkr)
      have d3 : ((kndN l kj : Int) == 3) = false := beq_eq_false_iff_ne.2 (by omega)
      generalize kndN l kj = kk at *
      clear hs hkr ha1 ha2 hkj hk3
      go_wp2_with fail
      refine HKD.out.mono ?_
      rintro e w1 ⟨rfl, rfl⟩
      go_wp2_with fail
      go_ret
      exact ⟨_, l', rows, rfl, HF.out.1, HF.out.2, HR'.out, HO.out⟩
end
end Go.Proofs.YtdhgcgejdoedbaaGreatDoor

/-
  block.reader: keys: contract.
-/
namespace Go.Proofs.YtdhgcgejdoedbaaGreatDoor
open Go.RowKit Go.WideShapes

structure KM (base : Nat) (ks : List ByteArray) (l : List Tree) (rows : List (List Value)) (v u : Value) (W : World) : Prop where
  len : rows.length = l.length
  own : W.ownsRow base 25 5 v l.length rows.flatten
  key : W.ownsRow base 9 1 u ks.length (strsV ks)
  node : ∀ (i : Nat) (r : List Value) (x : Tree), rows[i]? = some r → l[i]? = some x → NodeO W (fun g => base ≤ g ∧ g < W.heap.size ∧ v.ownBlock ≠ some g ∧ u.ownBlock ≠ some g) r x
theorem KM.off {base R : Nat} {ks : List ByteArray} {l : List Tree} {rows : List (List Value)} {v u : Value} {W W' : World} (h : KM base ks l rows v u W) (ho : OffR R W W') (hR : R < base) : KM base ks l rows v u W' := by
  refine ⟨h.len, ownsRow_keepB h.own (fun g hg => ?_), ownsRow_keepB h.key (fun g hg => ?_), fun i r x hr hx => (h.node i r x hr hx).keep (fun g hP hl => ho.same g hl (by have := hP.1; omega)) (fun g hP => ⟨hP.1, Nat.lt_of_lt_of_le hP.2.1 ho.size, hP.2.2⟩)⟩
  · have := h.own.lt g hg
    exact ho.same g (by omega) (by omega)
  · have := h.key.lt g hg
    exact ho.same g (by omega) (by omega)
theorem KM.keyPush {base : Nat} {ks : List ByteArray} {l : List Tree} {rows : List (List Value)} {v u u' : Value} {W1 W2 W3 : World} {s : ByteArray} (h : KM base ks l rows v u W1) (h2 : Below W1.heap.size W1 W2) (hg : W2.grownBy W3 u.ownBlock)
    (hown : W3.ownsRow base 9 1 u' (ks.length + 1) (strsV ks ++ [.string s])) (hf : Fresh W2 u u') : KM base (ks ++ [s]) l rows v u' W3 := by
  have s1 := h2.size
  have s2 := hg.size
  refine ⟨h.len, owns_grown (ownsB h.key h2) hg (ownsB h.own h2) (by decide), by rw [List.length_append, List.length_singleton, show strsV (ks ++ [s]) = strsV ks ++ [.string s] by simp [strsV]]; exact hown, fun i r y hr hy => ?_⟩
  refine (h.node i r y hr hy).keep (fun g hP hl => (hg.block g (by omega) (fun e => hP.2.2.2 e.symm)).trans (h2.block g hl)) (fun g hP => ⟨hP.1, by have := hP.2.1; omega, hP.2.2.1, fun e => ?_⟩)
  rcases hf g e with h3 | h3
  · exact hP.2.2.2 h3
  · have := hP.2.1; omega
theorem KM.kidPush {base lo : Nat} {ks : List ByteArray} {l : List Tree} {rows : List (List Value)} {v v' u : Value} {W1 W2 W3 : World} {cs : List Value} {x : Tree} (h : KM base ks l rows v u W1) (hn : NodeO W1 (inSpan lo W1.heap.size) cs x) (hlo : ∀ g, v.ownBlock = some g → g < lo) (hlu : ∀ g, u.ownBlock = some g → g < lo) (hb : base ≤ lo) (h2 : Below W1.heap.size W1 W2) (hg : W2.grownBy W3 v.ownBlock)
    (hown : W3.ownsRow base 25 5 v' (l.length + 1) (rows.flatten ++ cs)) (hf : Fresh W2 v v') : KM base ks (l ++ [x]) (rows ++ [cs]) v' u W3 := by
  have s1 := h2.size
  have s2 := hg.size
  have hv : ∀ g, g < W1.heap.size → v'.ownBlock = some g → v.ownBlock = some g := fun g hl e => by
    rcases hf g e with h | h
    · exact h
    · omega
  have same : ∀ g, g < W1.heap.size → v.ownBlock ≠ some g → W3.heap[g]? = W1.heap[g]? := fun g hl hne => (hg.block g (by omega) (fun e => hne e.symm)).trans (h2.block g hl)
  refine ⟨by simp [h.len], by rw [flatten_snoc, List.length_append, List.length_singleton]; exact hown, owns_grown (ownsB h.own h2) hg (ownsB h.key h2) (by decide), fun i r y hr hy => ?_⟩
  rcases Nat.lt_trichotomy i rows.length with hlt | heq | hgt
  · rw [List.getElem?_append_left hlt] at hr
    rw [List.getElem?_append_left (by rw [← h.len]; exact hlt)] at hy
    exact (h.node i r y hr hy).keep (fun g hP hl => same g hl hP.2.2.1) (fun g hP => ⟨hP.1, by have := hP.2.1; omega, fun e => hP.2.2.1 (hv g hP.2.1 e), hP.2.2.2⟩)
  · subst heq
    rw [List.getElem?_append_right (Nat.le_refl _), Nat.sub_self] at hr
    rw [h.len, List.getElem?_append_right (Nat.le_refl _), Nat.sub_self] at hy
    simp only [List.getElem?_cons_zero, Option.some.injEq] at hr hy
    subst hr hy
    exact hn.keep (fun g hP hl => same g hl (fun e => by have := hlo g e; have := hP.1; omega)) (fun g hP => ⟨by have := hP.1; omega, by have := hP.2; omega, fun e => (by have := hlo g (hv g hP.2 e); have := hP.1; omega), fun e => (by have := hlu g e; have := hP.1; omega)⟩)
  · rw [List.getElem?_eq_none (by simp; omega)] at hr; cases hr
theorem KM.zero (W : World) : KM W.heap.size [] [] [] (.slice none 0 0) (.slice none 0 0) W :=
  ⟨rfl, ⟨rfl, .inl ⟨rfl, rfl⟩⟩, ⟨rfl, .inl ⟨rfl, rfl⟩⟩, fun i r x hr => by simp at hr⟩
theorem Tryz.info_strD : (Tryz.prog.info? 9).map (fun i => (i.zero, i.size, i.bytes)) = some (some (.string ByteArray.empty), 1, 16) := by kernel_rfl
def MapAt (l : List TokD) (c : Nat) (ks : List ByteArray) (kids : List Tree) (rest : List TokD) (kE : Nat) (j kj : Nat) : Prop := ∃ nj, (l.map erE).drop kj = bkM nj c (ks.drop j) (kids.drop j) ++ rest ∧ kj + (bkM nj c (ks.drop j) (kids.drop j)).length = kE
theorem hasS_no {ks : List ByteArray} (h : ks.Nodup) {j : Nat} (hj : j < ks.length) : hasS (ks.take j) ks[j] = false := by
  unfold hasS
  rw [List.contains_eq_mem]
  refine decide_eq_false fun hm => ?_
  obtain ⟨i, hi, he⟩ := List.mem_take_iff_getElem.1 hm
  have h1 := (List.nodup_iff_pairwise_ne.1 h)
  rw [List.pairwise_iff_getElem] at h1
  exact h1 i j (by omega) hj (by omega) he
theorem leafK_inl (n : Nat) (o : LeafD) {t : TokD} (h : erE t = leafE n o) : inlB t (n : Int) = true := by
  have hk := erE_kind h
  have hr := erE_rest h (by cases o <;> simp [leafE, leafK]) (by cases o <;> simp [leafE, leafK])
  unfold inlB
  rw [hk, hr.2]
  cases o <;> simp [leafE, leafK]
theorem bkT_leaf (n c : Nat) (y : Tree) (h : y.kids.isEmpty = true) : bkT n c y = [leafE n (leafO y)] := by
  obtain ⟨k, t, ks, kids, l⟩ := y
  simp only [Tree.kids] at h
  rw [bkT, if_pos h]; rfl
section
variable {w0 : World} {R g off cap : Nat} {l : List TokD}
set_option maxRecDepth 100000 in
set_option maxHeartbeats 4000000 in
theorem rkeys_any (ks : List ByteArray) (kids : List Tree) (hV : ∀ y ∈ kids, VALC w0 R g off cap l y) (n c k lv : Nat) (W : World) (rest : List TokD) (h : RdR w0 R g off cap l k W) (ht : (l.map erE).drop k = bkM n c ks kids ++ rest) (hnk : ∀ t r, rest = t :: r → t.1 ≠ 4) (hgd : ∀ y ∈ kids, GoodT y) (hd : ∀ y ∈ kids, ∃ m, DepT m y ∧ lv + m ≤ 17) (hlk : ks.length = kids.length) (hks : ∀ s ∈ ks, s.size ≤ 64) (hnd : ks.Nodup) :
    Calls Tryz.prog 71 #[.pointer (some ⟨R, 0, none⟩), .int .i64 (lv : Nat)] W fun e W' => ∃ u v l' rows, e = .returned (.tuple #[u, v]) ∧ sameTs l' kids = true ∧ KM W.heap.size ks l' rows v u W' ∧ RdR w0 R g off cap l (k + (bkM n c ks kids).length) W' ∧ OffR R W W' := by
  obtain ⟨i0, hi, hz0, hz1, hz2⟩ := info_parts Tryz.info_node
  obtain ⟨j0, hj, hy0, hy1, hy2⟩ := info_parts Tryz.info_strD
  have hf1 := field_tok1
  have hkl : kids.length ≤ 1000000 := Nat.le_trans (Nat.le_trans (bkM_ge kids n c ks) (drop_le ht)) h.s.len
  have HV := Lib.hid hV
  have HG := Lib.hid hgd
  have HD := Lib.hid hd
  have HNK := Lib.hid hnk
  have HKZ := Lib.hid hks
  have HND := Lib.hid hnd
  have HLK := Lib.hid hlk
  have HRL := Lib.hid h.lt
  have HR0 := Lib.hid h
  have HAT := Lib.hid (show MapAt l c ks kids rest (k + (bkM n c ks kids).length) 0 k from ⟨n, ht, rfl⟩)
  have HKR := Lib.hid (KM.zero W)
  generalize hkE : k + (bkM n c ks kids).length = kE at *
  clear h ht hV hgd hd hnk hkE hks hnd hlk
  go_enter Tryz.func71, Tryz.ntmps71
  go_wp2_with fail
  go_loopg [6, 7] (kids.length + 1) (fun gk uv vv wr => ∃ j kj : Nat, j + gk = kids.length + 1 ∧ j ≤ kids.length ∧ Hid (MapAt l c ks kids rest kE j kj) ∧ Hid (RdR w0 R g off cap l kj wr) ∧ Hid (OffR R W wr) ∧ Hid (∃ l' rows, sameTs l' (kids.take j) = true ∧ KM W.heap.size (ks.take j) l' rows vv uv wr))
  case atStart => exact ⟨0, k, by omega, by omega, HAT, HR0, Lib.hid (OffR.refl R W), Lib.hid ⟨[], [], rfl, HKR.out⟩⟩
  case round =>
    obtain ⟨j, kj, hgk, hj', HA, HR, HO, HJ⟩ := hrel
    have hg : gk = kids.length + 1 - j := by omega
    subst hg
    obtain ⟨nj, ha1, ha2⟩ := HA.out
    have HKD := Lib.hid (kind_any wr HR.out)
    by_cases hjl : j < kids.length
    · have hjk : j < ks.length := by have := HLK.out; omega
      obtain ⟨tx1, hkey⟩ : ∃ key, key = ks[j] := ⟨ks[j], rfl⟩
      rw [List.drop_eq_getElem_cons hjl, List.drop_eq_getElem_cons hjk, bkM, List.headD_cons, List.tail_cons, ← hkey] at ha1 ha2
      have ha3 : (l.map erE).drop kj = (4, tx1, nj, 0) :: ((if kids[j].kids.isEmpty then [leafE nj (leafO kids[j])] else OPN :: (bkT (nj + 1) (c + 2) kids[j] ++ [CLS])) ++ (bkM (nj + 1 + (if kids[j].kids.isEmpty then 0 else (tlT (c + 2) kids[j]).length + 1)) c (ks.drop (j + 1)) (kids.drop (j + 1)) ++ rest)) := by rw [ha1]; simp
      obtain ⟨t1, e1, e2, e3⟩ := drop_cons ha3
      have hkk := kndN_drop ha3
      have htx := erE_rest e2 (by simp) (by simp)
      obtain ⟨K1, tq, tn1, tc1⟩ := t1
      simp only at htx
      obtain ⟨rfl, rfl⟩ := htx
      rw [hkk] at HKD
      have HH := Lib.hid (here_any wr HR.out _ e1)
      have HE1 := Lib.hid e1
      have HE3 := Lib.hid e3
      have HA2 := Lib.hid ha2
      have HVj := Lib.hid (HV.out kids[j] (List.getElem_mem hjl))
      have HGj := Lib.hid (HG.out kids[j] (List.getElem_mem hjl))
      have HDj := Lib.hid (HD.out kids[j] (List.getElem_mem hjl))
      have hsz : tq.size ≤ 64 := by rw [hkey]; exact HKZ.out _ (List.getElem_mem hjk)
      have HNO := Lib.hid (show hasS (ks.take j) tq = false from by rw [hkey]; exact hasS_no HND.out hjk)
      obtain ⟨l', rows, hs, hkr⟩ := HJ.out
      obtain ⟨va, vc, rfl⟩ := (RdS.of_owns hkr.own).form
      obtain ⟨ua, uc, rfl⟩ := (RdS.of_owns hkr.key).form
      have hl' : l'.length = j := by have := (sameTs_iff.1 hs).1; rw [this, List.length_take]; omega
      have hlq : (ks.take j).length ≤ 1000000 := by rw [List.length_take]; omega
      have hlz : l'.length ≤ 1000000 := by omega
      have HS := Lib.hid hs
      have HKM := Lib.hid hkr
      have HTK := Lib.hid (show ks.take (j + 1) = ks.take j ++ [tq] from by rw [List.take_succ_eq_append_getElem hjk, ← hkey])
      generalize hq : ks.take j = q at *
      have HJK := Lib.hid hjk
      have HKEY := Lib.hid hkey
      clear ha1 ha2 ha3 e1 e2 e3 hkk hs hkr hl' hkey
      unfold tokV at HH
      have d4 : decide ((64 : Int) < (tq.size : Int)) = false := decide_eq_false (by omega)
      go_wp2_with fail
      refine HKD.out.mono ?_
      rintro e w1 ⟨rfl, rfl⟩
      go_wp2_with fail
      refine HH.out.mono ?_
      rintro e W1 ⟨rfl, hb1⟩
      have hR1 := HR.out.below hb1
      have HO1 := Lib.hid (HO.out.trans (OffR.of_below hb1 (Nat.le_of_lt HR.out.lt)))
      have HKM1 := Lib.hid (HKM.out.off (OffR.of_below hb1 (Nat.le_of_lt HR.out.lt)) HRL.out)
      have HCT := Lib.hid (ContainsS_any q _ tq W1 (RdS.of_owns HKM1.out.key))
      rw [HNO.out] at HCT
      have HT := Lib.hid (take_any W1 hR1 _ HE1.out)
      unfold tokV at HT
      clear hb1 hR1
      go_wp2_with fail
      refine HCT.out.mono ?_
      rintro e w1 ⟨rfl, rfl⟩
      go_wp2_with fail
      refine HT.out.mono ?_
      rintro e W2 ⟨rfl, hr2, ho2⟩
      have HO2 := Lib.hid (HO1.out.trans ho2)
      have HKM2 := Lib.hid (HKM1.out.off ho2 HRL.out)
      have HR2 := Lib.hid hr2
      have hb3 := (Below.refl W2.heap.size W2).alloc (Nat.le_refl _) (.cells #[.int .u8 (K1 : Nat), .string tq, .int .i64 (tn1 : Nat), .int .i64 (tc1 : Nat)] 39)
      have HX3 := Lib.hid (World.alloc_heap_new W2 (.cells #[.int .u8 (K1 : Nat), .string tq, .int .i64 (tn1 : Nat), .int .i64 (tc1 : Nat)] 39))
      have hz3 : W2.heap.size < (W2.alloc (.cells #[.int .u8 (K1 : Nat), .string tq, .int .i64 (tn1 : Nat), .int .i64 (tc1 : Nat)] 39)).heap.size := by simp
      have HO3 := Lib.hid (HO2.out.trans (OffR.of_below hb3 (Nat.le_of_lt hr2.lt)))
      have HKM3 := Lib.hid (HKM2.out.off (OffR.of_below hb3 (Nat.le_of_lt hr2.lt)) HRL.out)
      have HR3 := Lib.hid (hr2.below hb3)
      have HUL2 := Lib.hid (fun gg (hgg : (Value.slice ua q.length uc).ownBlock = some gg) => show gg < W2.heap.size from (HKM2.out.key.lt gg hgg).2)
      have HZ3 := Lib.hid hz3
      clear hr2 ho2 hb3 hz3
      go_upto_region 10 with fail
      generalize W2.alloc (.cells #[.int .u8 (K1 : Nat), .string tq, .int .i64 (tn1 : Nat), .int .i64 (tc1 : Nat)] 39) = W3 at *
      have hb4 := (Below.refl W3.heap.size W3).alloc (Nat.le_refl _) (.cells #[.string tq] 9)
      have HB4 := Lib.hid hb4
      have HO4 := Lib.hid (HO3.out.trans (OffR.of_below hb4 (Nat.le_of_lt HR3.out.lt)))
      have HOW4 := Lib.hid (ownsB HKM3.out.key hb4)
      have HBASE4 := Lib.hid (show W.heap.size ≤ (W3.alloc (.cells #[.string tq] 9)).heap.size from HO4.out.size)
      have hqz : q.length ≤ 1000000 := hlq
      clear hb4
      go_wp2_with (at_builtin; go_must (refine wpList_push rfl _ _ 22 rfl W.heap.size 9 j0 (.string ByteArray.empty) 1 16 Tryz.underlying22 hj hy0 hy1 hy2 rfl (by decide) _ _ _ rfl HOW4.out ⟨W3.heap.size, 0, none⟩ 1 1 [_] rfl rfl (cell_one_new _ _ _) (by simp [Value.oneCell']) (by unfold maxLen; omega) (by omega) HBASE4.out ?_; intro u5 W5 hown5 hgrow5 hfr5; have HKM5 := Lib.hid (HKM3.out.keyPush HB4.out hgrow5 hown5 hfr5); have HO5 := Lib.hid (HO4.out.grown HOW4.out hgrow5 HRL.out); have HR5 := Lib.hid ((HR3.out.below HB4.out).grown HOW4.out hgrow5 HRL.out); have HX5 := (hgrow5.block W2.heap.size (Nat.lt_of_lt_of_le HZ3.out HB4.out.size) (fun e => by have := HUL2.out _ e.symm; omega)).trans ((HB4.out.block _ HZ3.out).trans HX3.out); obtain ⟨x0, x1, x2, x3⟩ := cells4t HX5; have HXX5 := Lib.hid HX5; clear hown5 hgrow5 hfr5 HX5))
      obtain ⟨u5a, u5c, rfl⟩ := (RdS.of_owns HKM5.out.key).form
      by_cases hy : kids[j].kids.isEmpty = true
      · have he3 := HE3.out
        have ha2 := HA2.out
        rw [hy] at he3 ha2
        simp only [if_true, List.cons_append, List.nil_append] at he3 ha2
        obtain ⟨t2, e1, e2, e3⟩ := drop_cons he3
        have HNX := Lib.hid (show MapAt l c ks kids rest kE (j + 1) (kj + 1 + (bkT tn1 c kids[j]).length) from ⟨tn1 + 1 + 0, by rw [bkT_leaf _ _ _ hy]; exact e3, by rw [bkT_leaf _ _ _ hy, ← ha2]; simp only [List.length_cons, List.length_nil]; omega⟩)
        have HIN := Lib.hid (inline_any W5 HR5.out t2 e1 (tn1 : Int))
        rw [leafK_inl tn1 _ e2] at HIN
        have HE4 := Lib.hid (show (l.map erE).drop (kj + 1) = bkT tn1 c kids[j] ++ (bkM (tn1 + 1 + 0) c (ks.drop (j + 1)) (kids.drop (j + 1)) ++ rest) from by rw [bkT_leaf _ _ _ hy]; exact he3)
        have HNK2 := Lib.hid (show nkT kids[j] (bkM (tn1 + 1 + 0) c (ks.drop (j + 1)) (kids.drop (j + 1)) ++ rest) from .inl (List.isEmpty_iff.1 hy))
        clear he3 ha2 e1 e2 e3 hy
        go_wp2_with fail
        refine HIN.out.mono ?_
        rintro e W6 ⟨rfl, hb6⟩
        have HO6 := Lib.hid (HO5.out.trans (OffR.of_below hb6 (Nat.le_of_lt HR5.out.lt)))
        have HKM6 := Lib.hid (HKM5.out.off (OffR.of_below hb6 (Nat.le_of_lt HR5.out.lt)) HRL.out)
        have HVL := Lib.hid (fun gg (hgg : (Value.slice va l'.length vc).ownBlock = some gg) => show gg < W6.heap.size from (HKM6.out.own.lt gg hgg).2)
        have HUL := Lib.hid (fun gg (hgg : (Value.slice u5a (q ++ [tq]).length u5c).ownBlock = some gg) => show gg < W6.heap.size from (HKM6.out.key.lt gg hgg).2)
        have HZ6 := Lib.hid (show W.heap.size ≤ W6.heap.size from HO6.out.size)
        have HVC := Lib.hid (HVj.out tn1 c (kj + 1) lv W6 _ (HR5.out.below hb6) HE4.out HNK2.out HGj.out HDj.out)
        clear hb6 x0 x1 x2 x3
        go_wp2_with fail
        refine HVC.out.mono ?_
        rintro e W7 ⟨cs, x', rfl, hn7, hs7, hr7, ho7⟩
        obtain ⟨ka, kc, ba, bc, rfl⟩ := hn7.cells
        have HS7 := Lib.hid hs7
        have HR7 := Lib.hid hr7
        have HO7 := Lib.hid (HO6.out.trans ho7)
        have HKM7 := Lib.hid (HKM6.out.off ho7 HRL.out)
        have HN7 := Lib.hid hn7
        have hb8 := (Below.refl W7.heap.size W7).alloc (Nat.le_refl _) (.cells #[.int .u8 (x'.kind : Int), .string x'.text, .slice ka x'.keys.length kc, .slice ba x'.kids.length bc, .int .i64 x'.line] 25)
        have HB8 := Lib.hid hb8
        have HO8 := Lib.hid (HO7.out.trans (OffR.of_below hb8 (Nat.le_of_lt hr7.lt)))
        have HOW8 := Lib.hid (ownsB HKM7.out.own hb8)
        have HBASE8 := Lib.hid (show W.heap.size ≤ (W7.alloc (.cells #[.int .u8 (x'.kind : Int), .string x'.text, .slice ka x'.keys.length kc, .slice ba x'.kids.length bc, .int .i64 x'.line] 25)).heap.size from HO8.out.size)
        clear hn7 hs7 hr7 ho7 hb8
        go_wp2_with (at_builtin; go_must (refine wpList_push rfl _ _ 23 rfl W.heap.size 25 i0 (.agg #[.int .u8 0, .string { data := #[] }, .slice none 0 0, .slice none 0 0, .int .i64 0]) 5 80 Tryz.underlying23 hi hz0 hz1 hz2 rfl (by decide) _ _ _ rfl HOW8.out ⟨W7.heap.size, 0, none⟩ 1 1 _ rfl rfl (World.news_of_block (World.alloc_heap_new W7 _)) (by simp [Value.oneCell']) (by unfold maxLen; omega) (by omega) HBASE8.out ?_; intro v9 W9 hown9 hgrow9 hfr9; have HKM9 := Lib.hid (HKM7.out.kidPush HN7.out HVL.out HUL.out HZ6.out HB8.out hgrow9 hown9 hfr9); have HO9 := Lib.hid (HO8.out.grown HOW8.out hgrow9 HRL.out); have HR9 := Lib.hid ((HR7.out.below HB8.out).grown HOW8.out hgrow9 HRL.out); clear hown9 hgrow9 hfr9))
        go_roundg (kids.length + 1 - (j + 1))
        case measure => omega
        case rel => exact ⟨j + 1, _, by omega, by omega, HNX, HR9, HO9, Lib.hid ⟨l' ++ [x'], _, by rw [List.take_succ_eq_append_getElem hjl]; exact sameTs_push HS.out HS7.out, by rw [HTK.out]; have h9 := HKM9.out; rw [show (q ++ [tq]).length = q.length + 1 by simp] at h9; exact h9⟩⟩
      · have he3 := HE3.out
        have ha2 := HA2.out
        rw [if_neg hy] at he3
        rw [if_neg hy, if_neg hy] at ha2
        rw [List.cons_append, List.append_assoc, List.cons_append, List.nil_append, if_neg hy] at he3
        obtain ⟨t2, e1, e2, e3⟩ := drop_cons he3
        have HNX := Lib.hid (show MapAt l c ks kids rest kE (j + 1) (kj + 1 + (bkT (tn1 + 1) (c + 2) kids[j]).length + 2) from ⟨tn1 + 1 + ((tlT (c + 2) kids[j]).length + 1), by
          rw [show kj + 1 + (bkT (tn1 + 1) (c + 2) kids[j]).length + 2 = kj + 1 + ((bkT (tn1 + 1) (c + 2) kids[j]).length + 2) by omega, ← List.drop_drop, he3]
          rw [show (OPN :: (bkT (tn1 + 1) (c + 2) kids[j] ++ CLS :: (bkM (tn1 + 1 + ((tlT (c + 2) kids[j]).length + 1)) c (ks.drop (j + 1)) (kids.drop (j + 1)) ++ rest))) = (OPN :: bkT (tn1 + 1) (c + 2) kids[j] ++ [CLS]) ++ (bkM (tn1 + 1 + ((tlT (c + 2) kids[j]).length + 1)) c (ks.drop (j + 1)) (kids.drop (j + 1)) ++ rest) by simp]
          exact List.drop_left' (by simp), by
          rw [← ha2]; simp only [List.length_cons, List.length_append, List.length_nil]; omega⟩)
        have HIN := Lib.hid (inline_any W5 HR5.out t2 e1 (tn1 : Int))
        have hk2 : t2.1 = 1 := erE_kind e2
        have hin : inlB t2 (tn1 : Int) = false := by unfold inlB; rw [hk2]; rfl
        rw [hin] at HIN
        have HE4 := Lib.hid he3
        clear he3 ha2 e1 e2 e3 hy hk2 hin
        go_wp2_with fail
        refine HIN.out.mono ?_
        rintro e W6 ⟨rfl, hb6⟩
        have HO6 := Lib.hid (HO5.out.trans (OffR.of_below hb6 (Nat.le_of_lt HR5.out.lt)))
        have HKM6 := Lib.hid (HKM5.out.off (OffR.of_below hb6 (Nat.le_of_lt HR5.out.lt)) HRL.out)
        have HVL := Lib.hid (fun gg (hgg : (Value.slice va l'.length vc).ownBlock = some gg) => show gg < W6.heap.size from (HKM6.out.own.lt gg hgg).2)
        have HUL := Lib.hid (fun gg (hgg : (Value.slice u5a (q ++ [tq]).length u5c).ownBlock = some gg) => show gg < W6.heap.size from (HKM6.out.key.lt gg hgg).2)
        have HZ6 := Lib.hid (show W.heap.size ≤ W6.heap.size from HO6.out.size)
        have HVC := Lib.hid (within_any kids[j] HVj.out (tn1 + 1) (c + 2) (kj + 1) lv W6 _ (K1, tq, tn1, tc1) (HR5.out.below hb6) HE4.out HGj.out HDj.out)
        unfold tokV at HVC
        have y0 := cellB hb6 x0
        have y1 := cellB hb6 x1
        have y2 := cellB hb6 x2
        have y3 := cellB hb6 x3
        clear hb6 x0 x1 x2 x3
        go_wp2_with fail
        refine HVC.out.mono ?_
        rintro e W7 ⟨cs, x', rfl, hn7, hs7, hr7, ho7⟩
        clear y0 y1 y2 y3
        obtain ⟨ka, kc, ba, bc, rfl⟩ := hn7.cells
        have HS7 := Lib.hid hs7
        have HR7 := Lib.hid hr7
        have HO7 := Lib.hid (HO6.out.trans ho7)
        have HKM7 := Lib.hid (HKM6.out.off ho7 HRL.out)
        have HN7 := Lib.hid hn7
        have hb8 := (Below.refl W7.heap.size W7).alloc (Nat.le_refl _) (.cells #[.int .u8 (x'.kind : Int), .string x'.text, .slice ka x'.keys.length kc, .slice ba x'.kids.length bc, .int .i64 x'.line] 25)
        have HB8 := Lib.hid hb8
        have HO8 := Lib.hid (HO7.out.trans (OffR.of_below hb8 (Nat.le_of_lt hr7.lt)))
        have HOW8 := Lib.hid (ownsB HKM7.out.own hb8)
        have HBASE8 := Lib.hid (show W.heap.size ≤ (W7.alloc (.cells #[.int .u8 (x'.kind : Int), .string x'.text, .slice ka x'.keys.length kc, .slice ba x'.kids.length bc, .int .i64 x'.line] 25)).heap.size from HO8.out.size)
        clear hn7 hs7 hr7 ho7 hb8
        go_wp2_with (at_builtin; go_must (refine wpList_push rfl _ _ 23 rfl W.heap.size 25 i0 (.agg #[.int .u8 0, .string { data := #[] }, .slice none 0 0, .slice none 0 0, .int .i64 0]) 5 80 Tryz.underlying23 hi hz0 hz1 hz2 rfl (by decide) _ _ _ rfl HOW8.out ⟨W7.heap.size, 0, none⟩ 1 1 _ rfl rfl (World.news_of_block (World.alloc_heap_new W7 _)) (by simp [Value.oneCell']) (by unfold maxLen; omega) (by omega) HBASE8.out ?_; intro v9 W9 hown9 hgrow9 hfr9; have HKM9 := Lib.hid (HKM7.out.kidPush HN7.out HVL.out HUL.out HZ6.out HB8.out hgrow9 hown9 hfr9); have HO9 := Lib.hid (HO8.out.grown HOW8.out hgrow9 HRL.out); have HR9 := Lib.hid ((HR7.out.below HB8.out).grown HOW8.out hgrow9 HRL.out); clear hown9 hgrow9 hfr9))
        go_roundg (kids.length + 1 - (j + 1))
        case measure => omega
        case rel => exact ⟨j + 1, _, by omega, by omega, HNX, HR9, HO9, Lib.hid ⟨l' ++ [x'], _, by rw [List.take_succ_eq_append_getElem hjl]; exact sameTs_push HS.out HS7.out, by rw [HTK.out]; have h9 := HKM9.out; rw [show (q ++ [tq]).length = q.length + 1 by simp] at h9; exact h9⟩⟩
    · have hjE : j = kids.length := by omega
      subst hjE
      have hjz : ks.drop kids.length = [] := List.drop_eq_nil_of_le (by rw [HLK.out]; exact Nat.le_refl _)
      rw [List.drop_length, hjz] at ha1 ha2
      have hbm : ∀ nn, bkM nn c [] [] = [] := fun nn => by rw [bkM]
      have hkj : kj = kE := by rw [hbm, List.length_nil, Nat.add_zero] at ha2; exact ha2
      have HR' := Lib.hid (show RdR w0 R g off cap l kE wr from by rw [← hkj]; exact HR.out)
      have hk3 : kndN l kj ≠ 4 := by
        cases hrest : rest with
        | nil =>
          rw [hrest, hbm] at ha1
          rw [drop_nil (by rw [ha1]; rfl)]; decide
        | cons t r =>
          rw [hrest, hbm] at ha1
          rw [kndN_drop (t := t) (r := r) (by rw [ha1]; rfl)]
          exact HNK.out t r hrest
      obtain ⟨l', rows, hs, hkr⟩ := HJ.out
      rw [List.take_length] at hs
      rw [List.take_of_length_le (by rw [HLK.out]; exact Nat.le_refl _)] at hkr
      have HF := Lib.hid (And.intro hs hkr)
      have d3 : ((kndN l kj : Int) == 4) = false := beq_eq_false_iff_ne.2 (by omega)
      generalize kndN l kj = kk at *
      clear hs hkr ha1 ha2 hkj hk3 hjz hbm
      go_wp2_with fail
      refine HKD.out.mono ?_
      rintro e w1 ⟨rfl, rfl⟩
      go_wp2_with fail
      go_ret2
      exact ⟨_, _, l', rows, rfl, HF.out.1, HF.out.2, HR'.out, HO.out⟩
end
end Go.Proofs.YtdhgcgejdoedbaaGreatDoor

/-
  block.reader: value: contract, at every tree.
-/
namespace Go.Proofs.YtdhgcgejdoedbaaGreatDoor
open Go.RowKit Go.WideShapes

theorem rd_nil (w : World) (s : Nat) : RdS w (.slice none 0 0) s 0 [] := ⟨by simp, none, 0, rfl, Nat.le_refl _, by unfold maxLen; omega, .inl rfl⟩
theorem node_leaf {w : World} {P : Nat → Prop} {k n : Nat} {t : ByteArray} (hk : k < 256) (ht : t.size ≤ maxLen) (hn : n ≤ 1000000000) : NodeO w P [.int .u8 (k : Int), .string t, .slice none 0 0, .slice none 0 0, .int .i64 (n : Nat)] (.mk k t [] [] (n : Nat)) :=
  .mk [] hk ht (fun s hs => by cases hs) ⟨by omega, by omega⟩ (rd_nil w 1) rfl (rd_nil w 5) (fun h => absurd rfl h) (fun h => absurd rfl h) (fun i r x hr => by simp at hr)
theorem off_set {R P i : Nat} {W0 W : World} (h : OffR R W0 W) (hP : W0.heap.size ≤ P) (hR : R ≤ P) (v : Value) : OffR R W0 (W.setCell ⟨P, i, none⟩ v) :=
  ⟨h.b.setCell (p := ⟨P, i, none⟩) hR v, fun k hk hn => (Below.heap_setCell W ⟨P, i, none⟩ v k (by show k ≠ P; omega)).trans (h.same k hk hn)⟩
theorem RdR.set {w0 : World} {R g off cap : Nat} {l : List TokD} {k P i : Nat} {W : World} (h : RdR w0 R g off cap l k W) (hP : R < P) (v : Value) : RdR w0 R g off cap l k (W.setCell ⟨P, i, none⟩ v) :=
  ⟨(Below.heap_setCell W ⟨P, i, none⟩ v R (by show R ≠ P; omega)).trans h.cell, h.lo, h.b.setCell (p := ⟨P, i, none⟩) (by show _ ≤ P; have := h.lo; omega) v, h.k, h.s⟩
section
variable {w0 : World} {R g off cap : Nat} {l : List TokD}
def ValJ (w0 : World) (R g off cap : Nat) (l : List TokD) (x : Tree) (kE : Nat) (W wx : World) (N : Nat) : Prop := ∃ (x' : Tree) (ka ba : Option Addr) (kc bc : Nat), wx.heap[N]? = some (.cells #[.int .u8 (x'.kind : Int), .string x'.text, .slice ka x'.keys.length kc, .slice ba x'.kids.length bc, .int .i64 x'.line] 25 (0, 0)) ∧ wx.heap[W.heap.size]? = some (.cells #[.int .u8 0, .string { data := #[] }, .slice none 0 0, .slice none 0 0, .int .i64 0] 25 (0, 0)) ∧ NodeO wx (inSpan (W.heap.size + 1) wx.heap.size) [.int .u8 (x'.kind : Int), .string x'.text, .slice ka x'.keys.length kc, .slice ba x'.kids.length bc, .int .i64 x'.line] x' ∧ SameK x' x ∧ RdR w0 R g off cap l kE wx ∧ OffR R W wx
set_option maxRecDepth 100000 in
set_option maxHeartbeats 4000000 in
theorem value_any : ∀ x, VALC w0 R g off cap l x := by
  refine Tree.ind fun tk t ks kids ln ih n c k lv W rest h ht hnk hgd hd => ?_
  have hf1 := field_tok1
  have hf2 := field_tok2
  have hfst : ∃ tf r, bkT n c (.mk tk t ks kids ln) = tf :: r ∧ tf.2.2.1 = n ∧ tf.1 ≠ 1 ∧ tf.1 ≠ 2 := by
    cases kids with
    | nil => exact ⟨leafE n (leafD tk t), [], by rw [bkT]; rfl, rfl, by cases leafD tk t <;> simp [leafE, leafK], by cases leafD tk t <;> simp [leafE, leafK]⟩
    | cons y m =>
      by_cases hk2 : tk = 2
      · exact ⟨_, _, by rw [bkT, if_neg (by simp), if_pos hk2, bkS], rfl, by simp, by simp⟩
      · exact ⟨_, _, by rw [bkT, if_neg (by simp), if_neg hk2, bkM], rfl, by simp, by simp⟩
  obtain ⟨tf, rf, hb, hln, hn1, hn2⟩ := hfst
  have ht1 : (l.map erE).drop k = tf :: (rf ++ rest) := by rw [ht, hb]; rfl
  obtain ⟨t1, e1, e2, e3⟩ := drop_cons ht1
  have hkk := kndN_drop ht1
  have hrs := erE_rest e2 hn1 hn2
  have hnb : n ≤ 1000000000 := by
    have := h.s.ln (erE t1) (List.mem_map.2 ⟨t1, List.mem_of_getElem? e1, rfl⟩)
    rw [e2, hln] at this; exact this
  have hR := h.lt
  have hlv : lv ≤ 16 := by
    obtain ⟨m, hm, hm2⟩ := hd
    cases hm; omega
  have d1 : decide ((16 : Int) < (lv : Int)) = false := decide_eq_false (by omega)
  have hb1 := (Below.refl W.heap.size W).alloc (Nat.le_refl _) (.cells #[.int .u8 0, .string { data := #[] }, .slice none 0 0, .slice none 0 0, .int .i64 0] 25)
  have hT1 := World.alloc_heap_new W (.cells #[.int .u8 0, .string { data := #[] }, .slice none 0 0, .slice none 0 0, .int .i64 0] 25)
  have hZ1 : (W.alloc (.cells #[.int .u8 0, .string { data := #[] }, .slice none 0 0, .slice none 0 0, .int .i64 0] 25)).heap.size = W.heap.size + 1 := by simp
  have HH := Lib.hid (here_any _ (h.below hb1) t1 e1)
  have HR1 := Lib.hid (h.below hb1)
  have HB1 := Lib.hid hb1
  have HT1 := Lib.hid hT1
  have HZ1 := Lib.hid hZ1
  have HRL := Lib.hid hR
  have HGD := Lib.hid hgd
  have HD := Lib.hid hd
  have HNK := Lib.hid hnk
  have HT := Lib.hid ht
  have HE1 := Lib.hid e1
  have HTF := Lib.hid (And.intro e2 (And.intro hkk (And.intro hb hln)))
  have IH := Lib.hid ih
  obtain ⟨tkk, tx, tn, tc⟩ := t1
  simp only at hrs
  have hrs2 : tn = n := hrs.2.trans hln
  subst hrs2
  have HTX := Lib.hid hrs.1
  unfold tokV at HH
  clear h ht hnk hgd hd hb ht1 e1 e2 e3 hkk hrs hb1 hT1 hZ1 hR ih hln
  go_enter Tryz.func48, Tryz.ntmps48
  go_wp2_with fail
  generalize W.alloc (.cells #[.int .u8 0, .string { data := #[] }, .slice none 0 0, .slice none 0 0, .int .i64 0] 25) = W1 at *
  refine HH.out.mono ?_
  rintro e W2 ⟨rfl, hb2⟩
  have hN2 : W.heap.size < W2.heap.size := by have := HZ1.out; have := hb2.size; omega
  have hb3 := (Below.refl W2.heap.size W2).alloc (Nat.le_refl _) (.cells #[.int .u8 0, .string { data := #[] }, .slice none 0 0, .slice none 0 0, .int .i64 (tn : Nat)] 25)
  have HR2 := HR1.out.below hb2
  have HR3 := Lib.hid (HR2.below hb3)
  have HN3 := Lib.hid (World.alloc_heap_new W2 (.cells #[.int .u8 0, .string { data := #[] }, .slice none 0 0, .slice none 0 0, .int .i64 (tn : Nat)] 25))
  have HT2 := (hb2.block W.heap.size (by have := HZ1.out; omega)).trans HT1.out
  have HT3 := Lib.hid ((hb3.block W.heap.size hN2).trans HT2)
  have HO3 := Lib.hid (((OffR.of_below HB1.out (Nat.le_of_lt HRL.out)).trans (OffR.of_below hb2 (Nat.le_of_lt HR1.out.lt))).trans (OffR.of_below hb3 (Nat.le_of_lt HR2.lt)))
  have HRN := Lib.hid (show R < W2.heap.size from HR2.lt)
  have HK3 := Lib.hid (kind_any _ HR3.out)
  have hz3 : W2.heap.size < (W2.alloc (.cells #[.int .u8 0, .string { data := #[] }, .slice none 0 0, .slice none 0 0, .int .i64 (tn : Nat)] 25)).heap.size := by simp
  have HZ3 := Lib.hid hz3
  rw [HTF.out.2.1] at HK3
  generalize hN : W2.heap.size = N at *
  clear hb3 HR2 HT2 hb2 HH hz3
  go_upto_region 4 with fail
  generalize W2.alloc (.cells #[.int .u8 0, .string { data := #[] }, .slice none 0 0, .slice none 0 0, .int .i64 (tn : Nat)] 25) = W3 at *
  clear hN HB1 HT1 HZ1 HR1 W1 W2
  go_wp2_with fail
  refine HK3.out.mono ?_
  rintro e w1 ⟨rfl, rfl⟩
  generalize hkk : tf.1 = kk at *
  go_upto_block 0 with fail
  go_cut [] (fun wx => ValJ w0 R g off cap l (.mk tk t ks kids ln) (k + (bkT tn c (.mk tk t ks kids ln)).length) W wx N)
  case first =>
    obtain ⟨hq1, hq2, hq3, hq4⟩ := HTF.out
    by_cases hk0 : kids = []
    · have hgd := HGD.out
      have hkind := hgd.kind
      simp only [Tree.kind] at hkind
      have htf : tf = leafE tn (leafD tk t) ∧ rf = [] := by
        subst hk0
        rw [bkT] at hq3
        have : [leafE tn (leafD tk t)] = tf :: rf := hq3
        injection this with a1 a2
        exact ⟨a1.symm, a2.symm⟩
      have HLEN := Lib.hid (show (bkT tn c (.mk tk t ks kids ln)).length = 1 from by rw [hq3, htf.2]; rfl)
      cases hgd with
      | mk g1 g2 g3 g4 g5 g6 g7 g8 g9 =>
      by_cases e1 : tk = 1
      · have hk5 : kk = 5 := by rw [← hkk, htf.1, e1]; rfl
        have htx : tx = t := by rw [HTX.out, htf.1, e1]; rfl
        have HTZ := Lib.hid (show tx.size ≤ maxLen from by rw [htx]; have := g2.1; unfold maxLen; omega)
        have HSAME := Lib.hid (show SameK (.mk 1 tx [] [] (tn : Nat)) (.mk tk t ks kids ln) from by
          show sameT _ _ = true
          rw [htx, e1, (g5 e1).1, hk0]; simp [sameT, sameTs])
        clear g1 g2 g3 g4 g5 g6 g7 g8 g9 htf htx e1 hkind hq1 hq2 hq3 hq4 hk0
        have d5 : ((kk : Int) == 5) = true := beq_iff_eq.2 (by omega)
        have HN4 := Lib.hid (fset0 (v := .int .u8 1) HN3.out)
        have HT4 := Lib.hid ((Below.heap_setCell W3 ⟨N, 0, none⟩ (.int .u8 1) W.heap.size (by show W.heap.size ≠ N; omega)).trans HT3.out)
        have HR4 := Lib.hid (HR3.out.set (i := 0) (show R < N from HRN.out) (.int .u8 1))
        have HO4 := Lib.hid (off_set (i := 0) HO3.out (show W.heap.size ≤ N by omega) (Nat.le_of_lt HRN.out) (.int .u8 1))
        obtain ⟨q0, q1, q2, q3, q4⟩ := cells5 HN3.out
        obtain ⟨f0, f1, f2, f3, f4⟩ := cells5w HN3.out
        have HTK := Lib.hid (take_any _ HR4.out _ HE1.out)
        unfold tokV at HTK
        clear hkk hk5
        go_wp2_with fail
        generalize W3.setCell ⟨N, 0, none⟩ (.int .u8 1) = W4 at *
        refine HTK.out.mono ?_
        rintro e W5 ⟨rfl, hr5, ho5⟩
        have hN5 := (ho5.same N (Array.getElem?_eq_some_iff.1 HN4.out).1 (by have := HRN.out; omega)).trans HN4.out
        have hT5 := (ho5.same W.heap.size (Array.getElem?_eq_some_iff.1 HT4.out).1 (by have := HRL.out; omega)).trans HT4.out
        have HR5 := Lib.hid hr5
        have HO5 := Lib.hid (HO4.out.trans ho5)
        clear q0 q1 q2 q3 q4 f0 f1 f2 f3 f4 hr5 ho5
        obtain ⟨q0, q1, q2, q3, q4⟩ := cells5 hN5
        obtain ⟨f0, f1, f2, f3, f4⟩ := cells5w hN5
        have HN6 := Lib.hid (fset1 (v := .string tx) hN5)
        have HT6 := Lib.hid ((Below.heap_setCell W5 ⟨N, 1, none⟩ (.string tx) W.heap.size (by show W.heap.size ≠ N; omega)).trans hT5)
        have HR6 := Lib.hid (HR5.out.set (i := 1) (show R < N from HRN.out) (.string tx))
        have HO6 := Lib.hid (off_set (i := 1) HO5.out (show W.heap.size ≤ N by omega) (Nat.le_of_lt HRN.out) (.string tx))
        clear hN5 hT5
        go_wp2_with fail
        generalize W5.setCell ⟨N, 1, none⟩ (.string tx) = W6 at *
        go_meet
        exact ⟨.mk 1 tx [] [] (tn : Nat), none, none, 0, 0, HN6.out, HT6.out, node_leaf (show (_ : Nat) < 256 from by show 1 < 256; decide) HTZ.out hnb, HSAME.out, by rw [HLEN.out]; exact HR6.out, HO6.out⟩
      · have htt := g6 e1
        by_cases e2 : tk = 2
        · have hk5 : kk = 6 := by rw [← hkk, htf.1, e2]; rfl
          have HTZ := Lib.hid (show ({ data := #[] } : ByteArray).size ≤ maxLen from by decide)
          have HSAME := Lib.hid (show SameK (.mk 2 { data := #[] } [] [] (tn : Nat)) (.mk tk t ks kids ln) from by
            show sameT _ _ = true
            rw [htt, e2, g7 e2, hk0]; simp [sameT, sameTs])
          clear g1 g2 g3 g4 g5 g6 g7 g8 g9 htf htt e1 e2 hkind hq1 hq2 hq3 hq4 hk0
          have d5 : ((kk : Int) == 5) = false := beq_eq_false_iff_ne.2 (by omega)
          have d6 : ((kk : Int) == 6) = true := beq_iff_eq.2 (by omega)
          have HN4 := Lib.hid (fset0 (v := .int .u8 2) HN3.out)
          have HT4 := Lib.hid ((Below.heap_setCell W3 ⟨N, 0, none⟩ (.int .u8 2) W.heap.size (by show W.heap.size ≠ N; omega)).trans HT3.out)
          have HR4 := Lib.hid (HR3.out.set (i := 0) (show R < N from HRN.out) (.int .u8 2))
          have HO4 := Lib.hid (off_set (i := 0) HO3.out (show W.heap.size ≤ N by omega) (Nat.le_of_lt HRN.out) (.int .u8 2))
          obtain ⟨q0, q1, q2, q3, q4⟩ := cells5 HN3.out
          obtain ⟨f0, f1, f2, f3, f4⟩ := cells5w HN3.out
          have HTK := Lib.hid (take_any _ HR4.out _ HE1.out)
          unfold tokV at HTK
          clear hkk hk5
          go_wp2_with fail
          generalize W3.setCell ⟨N, 0, none⟩ (.int .u8 2) = W4 at *
          refine HTK.out.mono ?_
          rintro e W5 ⟨rfl, hr5, ho5⟩
          have hN5 := (ho5.same N (Array.getElem?_eq_some_iff.1 HN4.out).1 (by have := HRN.out; omega)).trans HN4.out
          have hT5 := (ho5.same W.heap.size (Array.getElem?_eq_some_iff.1 HT4.out).1 (by have := HRL.out; omega)).trans HT4.out
          have HR5 := Lib.hid hr5
          have HO5 := Lib.hid (HO4.out.trans ho5)
          clear q0 q1 q2 q3 q4 f0 f1 f2 f3 f4 hr5 ho5
          have HN6 := Lib.hid hN5
          have HT6 := Lib.hid hT5
          have HR6 := HR5
          have HO6 := HO5
          clear hN5 hT5
          go_wp2_with fail
          go_meet
          exact ⟨.mk 2 { data := #[] } [] [] (tn : Nat), none, none, 0, 0, HN6.out, HT6.out, node_leaf (show (_ : Nat) < 256 from by show 2 < 256; decide) HTZ.out hnb, HSAME.out, by rw [HLEN.out]; exact HR6.out, HO6.out⟩
        · have e3 : tk = 3 := by omega
          have hk5 : kk = 7 := by rw [← hkk, htf.1, e3]; rfl
          have hks : ks = [] := List.length_eq_zero_iff.1 (by rw [g8 e3, hk0]; rfl)
          have HTZ := Lib.hid (show ({ data := #[] } : ByteArray).size ≤ maxLen from by decide)
          have HSAME := Lib.hid (show SameK (.mk 3 { data := #[] } [] [] (tn : Nat)) (.mk tk t ks kids ln) from by
            show sameT _ _ = true
            rw [htt, e3, hks, hk0]; simp [sameT, sameTs])
          clear g1 g2 g3 g4 g5 g6 g7 g8 g9 htf htt e1 e2 e3 hks hkind hq1 hq2 hq3 hq4 hk0
          have d5 : ((kk : Int) == 5) = false := beq_eq_false_iff_ne.2 (by omega)
          have d6 : ((kk : Int) == 6) = false := beq_eq_false_iff_ne.2 (by omega)
          have d7 : ((kk : Int) == 7) = true := beq_iff_eq.2 (by omega)
          have HN4 := Lib.hid (fset0 (v := .int .u8 3) HN3.out)
          have HT4 := Lib.hid ((Below.heap_setCell W3 ⟨N, 0, none⟩ (.int .u8 3) W.heap.size (by show W.heap.size ≠ N; omega)).trans HT3.out)
          have HR4 := Lib.hid (HR3.out.set (i := 0) (show R < N from HRN.out) (.int .u8 3))
          have HO4 := Lib.hid (off_set (i := 0) HO3.out (show W.heap.size ≤ N by omega) (Nat.le_of_lt HRN.out) (.int .u8 3))
          obtain ⟨q0, q1, q2, q3, q4⟩ := cells5 HN3.out
          obtain ⟨f0, f1, f2, f3, f4⟩ := cells5w HN3.out
          have HTK := Lib.hid (take_any _ HR4.out _ HE1.out)
          unfold tokV at HTK
          clear hkk hk5
          go_wp2_with fail
          generalize W3.setCell ⟨N, 0, none⟩ (.int .u8 3) = W4 at *
          refine HTK.out.mono ?_
          rintro e W5 ⟨rfl, hr5, ho5⟩
          have hN5 := (ho5.same N (Array.getElem?_eq_some_iff.1 HN4.out).1 (by have := HRN.out; omega)).trans HN4.out
          have hT5 := (ho5.same W.heap.size (Array.getElem?_eq_some_iff.1 HT4.out).1 (by have := HRL.out; omega)).trans HT4.out
          have HR5 := Lib.hid hr5
          have HO5 := Lib.hid (HO4.out.trans ho5)
          clear q0 q1 q2 q3 q4 f0 f1 f2 f3 f4 hr5 ho5
          have HN6 := Lib.hid hN5
          have HT6 := Lib.hid hT5
          have HR6 := HR5
          have HO6 := HO5
          clear hN5 hT5
          go_wp2_with fail
          go_meet
          exact ⟨.mk 3 { data := #[] } [] [] (tn : Nat), none, none, 0, 0, HN6.out, HT6.out, node_leaf (show (_ : Nat) < 256 from by show 3 < 256; decide) HTZ.out hnb, HSAME.out, by rw [HLEN.out]; exact HR6.out, HO6.out⟩
    · have hgd := HGD.out
      have hkind := hgd.kind
      simp only [Tree.kind] at hkind
      have hemp : ¬ kids.isEmpty = true := fun e => hk0 (List.isEmpty_iff.1 e)
      have HDK := Lib.hid (show ∀ y ∈ kids, ∃ m, DepT m y ∧ lv + 1 + m ≤ 17 from fun y hy => by
        obtain ⟨m, hm, hm2⟩ := HD.out
        cases hm with
        | mk hm => exact ⟨_, hm y hy, by omega⟩)
      have hnk' := HNK.out.resolve_left hk0
      cases hgd with
      | mk g1 g2 g3 g4 g5 g6 g7 g8 g9 =>
      have HGK := Lib.hid g9
      have e1 : tk ≠ 1 := fun e => hk0 (g5 e).2
      have htt := g6 e1
      by_cases e2 : tk = 2
      · have hbk : bkT tn c (.mk tk t ks kids ln) = bkS tn c kids := by rw [bkT, if_neg hemp, if_pos e2]
        have hk5 : kk = 3 := by
          rw [← hq2]
          have h1 := HT.out
          rw [hbk] at h1
          cases kids with
          | nil => exact absurd rfl hk0
          | cons y m => rw [bkS] at h1; exact kndN_drop (t := (3, { data := #[] }, tn, 0)) h1
        have HT2 := Lib.hid (show (l.map erE).drop k = bkS tn c kids ++ rest from by rw [← hbk]; exact HT.out)
        have HNK3 := Lib.hid (fun (t : TokD) (r : List TokD) (e : rest = t :: r) => (hnk' t r e).1)
        have HLEN := Lib.hid (show (bkT tn c (.mk tk t ks kids ln)).length = (bkS tn c kids).length from by rw [hbk])
        have HSAME := Lib.hid (fun (l' : List Tree) (hl : sameTs l' kids = true) => show SameK (.mk 2 { data := #[] } [] l' (tn : Nat)) (.mk tk t ks kids ln) from by
          show sameT _ _ = true
          rw [htt, e2, g7 e2]; simp [sameT, hl])
        clear g1 g2 g3 g4 g5 g6 g7 g8 g9 htt e1 e2 hkind hq1 hq2 hq3 hq4 hk0 hbk hemp hnk'
        have d5 : ((kk : Int) == 5) = false := beq_eq_false_iff_ne.2 (by omega)
        have d6 : ((kk : Int) == 6) = false := beq_eq_false_iff_ne.2 (by omega)
        have d7 : ((kk : Int) == 7) = false := beq_eq_false_iff_ne.2 (by omega)
        have d3 : ((kk : Int) == 3) = true := beq_iff_eq.2 (by omega)
        have HN4 := Lib.hid (fset0 (v := .int .u8 2) HN3.out)
        have HT4 := Lib.hid ((Below.heap_setCell W3 ⟨N, 0, none⟩ (.int .u8 2) W.heap.size (by show W.heap.size ≠ N; omega)).trans HT3.out)
        have HR4 := Lib.hid (HR3.out.set (i := 0) (show R < N from HRN.out) (.int .u8 2))
        have HO4 := Lib.hid (off_set (i := 0) HO3.out (show W.heap.size ≤ N by omega) (Nat.le_of_lt HRN.out) (.int .u8 2))
        obtain ⟨q0, q1, q2, q3, q4⟩ := cells5 HN3.out
        obtain ⟨f0, f1, f2, f3, f4⟩ := cells5w HN3.out
        have HSQ := Lib.hid (seq_any kids IH.out tn c k (lv + 1) _ rest HR4.out HT2.out HNK3.out HGK.out HDK.out)
        rw [Int.natCast_succ] at HSQ
        clear hkk hk5
        go_wp2_with fail
        generalize W3.setCell ⟨N, 0, none⟩ (.int .u8 2) = W4 at *
        refine HSQ.out.mono ?_
        rintro e W5 ⟨v, l', rows, rfl, hs5, hkr5, hr5, ho5⟩
        obtain ⟨va, vc, rfl⟩ := (RdS.of_owns hkr5.own).form
        have hNW := (Array.getElem?_eq_some_iff.1 HN4.out).1
        have hno5 : NodeO W5 (inSpan W4.heap.size W5.heap.size) [.int .u8 (2 : Nat), .string { data := #[] }, .slice none 0 0, .slice va l'.length vc, .int .i64 (tn : Nat)] (.mk 2 { data := #[] } [] l' (tn : Nat)) := .mk rows (by decide) (by decide) (fun s hs => by cases hs) ⟨by omega, by omega⟩ (rd_nil _ 1) hkr5.len (RdS.of_owns hkr5.own) (fun h => absurd rfl h) (fun _ g hg => hkr5.own.lt g hg) (fun i r x hr hx => (hkr5.node i r x hr hx).keep (fun _ _ _ => rfl) (fun g hP => ⟨hP.1, hP.2.1⟩))
        have HNO := Lib.hid (hno5.keep (w' := W5.setCell ⟨N, 3, none⟩ (.slice va l'.length vc)) (Q := inSpan (W.heap.size + 1) (W5.setCell ⟨N, 3, none⟩ (.slice va l'.length vc)).heap.size) (fun g hP hl => Below.heap_setCell W5 ⟨N, 3, none⟩ _ g (by show g ≠ N; have := hP.1; omega)) (fun g hP => ⟨by have := hP.1; omega, by simp; exact hP.2⟩))
        have HSM := Lib.hid hs5
        clear hkr5 hno5 hs5
        have hN5 := (ho5.same N (Array.getElem?_eq_some_iff.1 HN4.out).1 (by have := HRN.out; omega)).trans HN4.out
        have hT5 := (ho5.same W.heap.size (Array.getElem?_eq_some_iff.1 HT4.out).1 (by have := HRL.out; omega)).trans HT4.out
        have HR5 := Lib.hid hr5
        have HO5 := Lib.hid (HO4.out.trans ho5)
        clear q0 q1 q2 q3 q4 f0 f1 f2 f3 f4 hr5 ho5
        obtain ⟨q0, q1, q2, q3, q4⟩ := cells5 hN5
        obtain ⟨f0, f1, f2, f3, f4⟩ := cells5w hN5
        have HN6 := Lib.hid (fset3 (v := .slice va l'.length vc) hN5)
        have HT6 := Lib.hid ((Below.heap_setCell W5 ⟨N, 3, none⟩ (.slice va l'.length vc) W.heap.size (by show W.heap.size ≠ N; omega)).trans hT5)
        have HR6 := Lib.hid (HR5.out.set (i := 3) (show R < N from HRN.out) (.slice va l'.length vc))
        have HO6 := Lib.hid (off_set (i := 3) HO5.out (show W.heap.size ≤ N by omega) (Nat.le_of_lt HRN.out) (.slice va l'.length vc))
        clear hN5 hT5
        go_wp2_with fail
        generalize W5.setCell ⟨N, 3, none⟩ (.slice va l'.length vc) = W6 at *
        go_meet
        exact ⟨.mk 2 { data := #[] } [] l' (tn : Nat), none, va, 0, vc, HN6.out, HT6.out, HNO.out, HSAME.out l' HSM.out, by rw [HLEN.out]; exact HR6.out, HO6.out⟩
      · have e3 : tk = 3 := by omega
        have hbk : bkT tn c (.mk tk t ks kids ln) = bkM tn c ks kids := by rw [bkT, if_neg hemp, if_neg e2]
        have hk5 : kk = 4 := by
          rw [← hq2]
          have h1 := HT.out
          rw [hbk] at h1
          cases kids with
          | nil => exact absurd rfl hk0
          | cons y m => rw [bkM] at h1; exact kndN_drop (t := (4, ks.headD { data := #[] }, tn, 0)) h1
        have HT2 := Lib.hid (show (l.map erE).drop k = bkM tn c ks kids ++ rest from by rw [← hbk]; exact HT.out)
        have HNK3 := Lib.hid (fun (t : TokD) (r : List TokD) (e : rest = t :: r) => (hnk' t r e).2)
        have HLEN := Lib.hid (show (bkT tn c (.mk tk t ks kids ln)).length = (bkM tn c ks kids).length from by rw [hbk])
        have HLK := Lib.hid (g8 e3)
        have HKZ := Lib.hid (fun s hs => (g3 s hs).2)
        have HND := Lib.hid g4
        have HSAME := Lib.hid (fun (l' : List Tree) (hl : sameTs l' kids = true) => show SameK (.mk 3 { data := #[] } ks l' (tn : Nat)) (.mk tk t ks kids ln) from by
          show sameT _ _ = true
          rw [htt, e3]; simp [sameT, hl])
        clear g1 g2 g3 g4 g5 g6 g7 g8 g9 htt e1 e2 e3 hkind hq1 hq2 hq3 hq4 hk0 hbk hemp hnk'
        have d5 : ((kk : Int) == 5) = false := beq_eq_false_iff_ne.2 (by omega)
        have d6 : ((kk : Int) == 6) = false := beq_eq_false_iff_ne.2 (by omega)
        have d7 : ((kk : Int) == 7) = false := beq_eq_false_iff_ne.2 (by omega)
        have d3 : ((kk : Int) == 3) = false := beq_eq_false_iff_ne.2 (by omega)
        have d4 : ((kk : Int) == 4) = true := beq_iff_eq.2 (by omega)
        have HN4 := Lib.hid (fset0 (v := .int .u8 3) HN3.out)
        have HT4 := Lib.hid ((Below.heap_setCell W3 ⟨N, 0, none⟩ (.int .u8 3) W.heap.size (by show W.heap.size ≠ N; omega)).trans HT3.out)
        have HR4 := Lib.hid (HR3.out.set (i := 0) (show R < N from HRN.out) (.int .u8 3))
        have HO4 := Lib.hid (off_set (i := 0) HO3.out (show W.heap.size ≤ N by omega) (Nat.le_of_lt HRN.out) (.int .u8 3))
        obtain ⟨q0, q1, q2, q3, q4⟩ := cells5 HN3.out
        obtain ⟨f0, f1, f2, f3, f4⟩ := cells5w HN3.out
        have HSQ := Lib.hid (rkeys_any ks kids IH.out tn c k (lv + 1) _ rest HR4.out HT2.out HNK3.out HGK.out HDK.out HLK.out HKZ.out HND.out)
        rw [Int.natCast_succ] at HSQ
        clear hkk hk5
        go_wp2_with fail
        generalize W3.setCell ⟨N, 0, none⟩ (.int .u8 3) = W4 at *
        refine HSQ.out.mono ?_
        rintro e W5 ⟨u, v, l', rows, rfl, hs5, hkr5, hr5, ho5⟩
        obtain ⟨va, vc, rfl⟩ := (RdS.of_owns hkr5.own).form
        obtain ⟨ua, uc, rfl⟩ := (RdS.of_owns hkr5.key).form
        have hNW := (Array.getElem?_eq_some_iff.1 HN4.out).1
        have hno5 : NodeO W5 (inSpan W4.heap.size W5.heap.size) [.int .u8 (3 : Nat), .string { data := #[] }, .slice ua ks.length uc, .slice va l'.length vc, .int .i64 (tn : Nat)] (.mk 3 { data := #[] } ks l' (tn : Nat)) := .mk rows (by decide) (by decide) (fun s hs => by have := HKZ.out s hs; unfold maxLen; omega) ⟨by omega, by omega⟩ (RdS.of_owns hkr5.key) hkr5.len (RdS.of_owns hkr5.own) (fun _ g hg => hkr5.key.lt g hg) (fun _ g hg => hkr5.own.lt g hg) (fun i r x hr hx => (hkr5.node i r x hr hx).keep (fun _ _ _ => rfl) (fun g hP => ⟨hP.1, hP.2.1⟩))
        have HNO := Lib.hid (hno5.keep (w' := (W5.setCell ⟨N, 2, none⟩ (.slice ua ks.length uc)).setCell ⟨N, 3, none⟩ (.slice va l'.length vc)) (Q := inSpan (W.heap.size + 1) ((W5.setCell ⟨N, 2, none⟩ (.slice ua ks.length uc)).setCell ⟨N, 3, none⟩ (.slice va l'.length vc)).heap.size) (fun g hP hl => (Below.heap_setCell _ ⟨N, 3, none⟩ _ g (by show g ≠ N; have := hP.1; omega)).trans (Below.heap_setCell W5 ⟨N, 2, none⟩ _ g (by show g ≠ N; have := hP.1; omega))) (fun g hP => ⟨by have := hP.1; omega, by simp; exact hP.2⟩))
        have HSM := Lib.hid hs5
        clear hkr5 hno5 hs5
        have hN5 := (ho5.same N (Array.getElem?_eq_some_iff.1 HN4.out).1 (by have := HRN.out; omega)).trans HN4.out
        have hT5 := (ho5.same W.heap.size (Array.getElem?_eq_some_iff.1 HT4.out).1 (by have := HRL.out; omega)).trans HT4.out
        have HR5 := Lib.hid hr5
        have HO5 := Lib.hid (HO4.out.trans ho5)
        clear q0 q1 q2 q3 q4 f0 f1 f2 f3 f4 hr5 ho5
        obtain ⟨q0, q1, q2, q3, q4⟩ := cells5 hN5
        obtain ⟨f0, f1, f2, f3, f4⟩ := cells5w hN5
        have HN6 := Lib.hid (five_set (x := .slice ua ks.length uc) (y := .slice va l'.length vc) hN5)
        have HT6 := Lib.hid ((Below.heap_setCell (W5.setCell ⟨N, 2, none⟩ (.slice ua ks.length uc)) ⟨N, 3, none⟩ (.slice va l'.length vc) W.heap.size (by show W.heap.size ≠ N; omega)).trans ((Below.heap_setCell W5 ⟨N, 2, none⟩ (.slice ua ks.length uc) W.heap.size (by show W.heap.size ≠ N; omega)).trans hT5))
        have HR6 := Lib.hid ((HR5.out.set (i := 2) (show R < N from HRN.out) (.slice ua ks.length uc)).set (i := 3) (show R < N from HRN.out) (.slice va l'.length vc))
        have HO6 := Lib.hid (off_set (i := 3) (off_set (i := 2) HO5.out (show W.heap.size ≤ N by omega) (Nat.le_of_lt HRN.out) (.slice ua ks.length uc)) (show W.heap.size ≤ N by omega) (Nat.le_of_lt HRN.out) (.slice va l'.length vc))
        clear hN5 hT5
        go_wp2_with fail
        generalize (W5.setCell ⟨N, 2, none⟩ (.slice ua ks.length uc)).setCell ⟨N, 3, none⟩ (.slice va l'.length vc) = W6 at *
        go_meet
        exact ⟨.mk 3 { data := #[] } ks l' (tn : Nat), ua, va, uc, vc, HN6.out, HT6.out, HNO.out, HSAME.out l' HSM.out, by rw [HLEN.out]; exact HR6.out, HO6.out⟩
  case rest =>
    obtain ⟨x', ka, ba, kc, bc, hx, ht', hn', hs', hr', ho'⟩ := hcut
    obtain ⟨q0, q1, q2, q3, q4⟩ := cells5 hx
    obtain ⟨s0, s1, s2, s3, s4⟩ := cells5 ht'
    obtain ⟨f0, f1, f2, f3, f4⟩ := cells5w ht'
    have HT7 := Lib.hid (set5w (x0 := .int .u8 (x'.kind : Int)) (x1 := .string x'.text) (x2 := .slice ka x'.keys.length kc) (x3 := .slice ba x'.kids.length bc) (x4 := .int .i64 x'.line) ht')
    have HS7 := Lib.hid (fun k (hk : k ≠ W.heap.size) => set5w_other (x0 := .int .u8 (x'.kind : Int)) (x1 := .string x'.text) (x2 := .slice ka x'.keys.length kc) (x3 := .slice ba x'.kids.length bc) (x4 := .int .i64 x'.line) (W := wc) (B := W.heap.size) (k := k) hk)
    have HB7 := Lib.hid (set5w_below (x0 := .int .u8 (x'.kind : Int)) (x1 := .string x'.text) (x2 := .slice ka x'.keys.length kc) (x3 := .slice ba x'.kids.length bc) (x4 := .int .i64 x'.line) (Below.refl W.heap.size wc) (B := W.heap.size) (Nat.le_refl _))
    have HN7 := Lib.hid hn'
    have HS := Lib.hid hs'
    have HR7 := Lib.hid hr'
    have HO7 := Lib.hid ho'
    clear hx ht' hn' hs' hr' ho'
    go_wp2_with fail
    generalize ((((wc.setCell ⟨W.heap.size, 0, none⟩ (.int .u8 (x'.kind : Int))).setCell ⟨W.heap.size, 1, none⟩ (.string x'.text)).setCell ⟨W.heap.size, 2, none⟩ (.slice ka x'.keys.length kc)).setCell ⟨W.heap.size, 3, none⟩ (.slice ba x'.kids.length bc)).setCell ⟨W.heap.size, 4, none⟩ (.int .i64 x'.line) = W7 at *
    obtain ⟨z0, z1, z2, z3, z4⟩ := cells5 HT7.out
    refine bodyPost_ret (v := .agg #[.int .u8 (x'.kind : Int), .string x'.text, .slice ka x'.keys.length kc, .slice ba x'.kids.length bc, .int .i64 x'.line]) (by simp [results, Tryz.results48, go_sem, z0, z1, z2, z3, z4]) rfl ⟨_, x', rfl, ?_, HS.out, ?_, ?_⟩
    · have a3 := HB7.out.size
      exact HN7.out.keep (fun g hP hl => HS7.out g (by have := hP.1; omega)) (fun g hP => ⟨by have := hP.1; omega, by have := hP.2; omega⟩)
    · have h1 := HRL.out
      exact ⟨(HS7.out R (by omega)).trans HR7.out.cell, HR7.out.lo, HR7.out.b.trans (HB7.out.mono (by have := HR7.out.lo; omega)), HR7.out.k, HR7.out.s⟩
    · have h1 := HRL.out
      exact ⟨HO7.out.b.trans (HB7.out.mono (by omega)), fun i hi hn => (HS7.out i (by omega)).trans (HO7.out.same i hi hn)⟩
end
end Go.Proofs.YtdhgcgejdoedbaaGreatDoor

/-
  block.read, block.Parse: contracts where the tokens are a tree's.
-/
namespace Go.Proofs.YtdhgcgejdoedbaaGreatDoor
open Go.RowKit Go.WideShapes

theorem ta_nil (w : World) : (Instr.typeAssert .nilIface 20 33 true).run Tryz.prog w = .ok (.tuple #[.agg #[.int .i64 0, .int .i64 0], .bool false]) w := by kernel_rfl
set_option maxRecDepth 100000 in
set_option maxHeartbeats 1000000 in
theorem read_idle (p q : Addr) (w : World) :
    CallsD Tryz.prog 47 #[.pointer (some p), .pointer (some q)] .returning w fun e u' w' => e = .returned (.tuple #[]) ∧ u' = .returning ∧ Below w.heap.size w w' := by
  have hb := (Below.refl w.heap.size w).alloc (Nat.le_refl _) (.cells #[.int .i64 0, .int .i64 0] 33)
  refine callsD_of_wpS Tryz.func47 rfl fun c₀ cs hu => ?_
  apply wpS_seq
  apply wpS_region
  have hta := ta_nil
  simp [wpOpsS, go_sem, recoverD, hu, Tryz.ntmps47, Exit.thenS, hta]
  apply wpS_seq
  apply wpS_region
  simp [wpOpsS, go_sem, Exit.thenS]
  refine wpS_cond (t := false) (by simp [Act.eval, Array.replicate]) ?_
  simp only [Bool.false_eq_true, if_false]
  refine wpS_of_wp (wp_skip ?_)
  cases c₀
  simp_all [bodyPostS, results, Tryz.results47]
end Go.Proofs.YtdhgcgejdoedbaaGreatDoor
