/-
  parse: the reader of how often: contract.
-/
import Derived.Test.YtgafjjgnbcjmpaaBq23
import Derived.Test.YtgafjjgnbcjmpaaBq25
namespace Go.Proofs.Ytgafjjgnbcjmpaa
open Go Go.RowKit Go.Maps Go.WideShapes

theorem toNat_le (b : Bool) : b.toNat ≤ 1 := by cases b <;> decide
theorem alloc3n (w : World) (o0 o1 o2 : Obj) : Below w.heap.size w (((w.alloc o0).alloc o1).alloc o2) ∧ (((w.alloc o0).alloc o1).alloc o2).heap[w.heap.size]? = some o0 ∧ (((w.alloc o0).alloc o1).alloc o2).heap[w.heap.size + 1]? = some o1 ∧ (((w.alloc o0).alloc o1).alloc o2).heap[w.heap.size + 1 + 1]? = some o2 ∧ (((w.alloc o0).alloc o1).alloc o2).heap.size = w.heap.size + 3 := by
  have e0 := World.alloc_heap_new w o0
  have e1 := World.alloc_heap_new (w.alloc o0) o1
  have e2 := World.alloc_heap_new ((w.alloc o0).alloc o1) o2
  simp only [World.size_alloc] at e1 e2
  refine ⟨(((Below.refl _ w).alloc (Nat.le_refl _) _).alloc (by simp only [World.size_alloc]; omega) _).alloc (by simp only [World.size_alloc]; omega) _, ?_, ?_, e2, by simp⟩
  · rw [Below.heap_alloc _ _ _ (by simp only [World.size_alloc]; omega), Below.heap_alloc _ _ _ (by simp only [World.size_alloc]; omega)]; exact e0
  · rw [Below.heap_alloc _ _ _ (by simp only [World.size_alloc]; omega)]; exact e1
structure InvR (n4 n5 n6 c1 c2 c3 : Nat) (a b c : Int) (i : Nat) (W : World) : Prop where
  i4 : W.heap[n4]? = some (.cells #[.int .i64 (if 1 ≤ i then a else 0)] 3 (0, 0))
  i5 : W.heap[n5]? = some (.cells #[.int .i64 (if 2 ≤ i then b else 0)] 3 (0, 0))
  i6 : W.heap[n6]? = some (.cells #[.int .i64 (if 3 ≤ i then c else 0)] 3 (0, 0))
  b1 : W.heap[c1]? = some (.cells #[.pointer (some ⟨n4, 0, none⟩)] 77 (0, 0))
  b2 : W.heap[c2]? = some (.cells #[.pointer (some ⟨n5, 0, none⟩)] 77 (0, 0))
  b3 : W.heap[c3]? = some (.cells #[.pointer (some ⟨n6, 0, none⟩)] 77 (0, 0))
theorem invR_keep {n4 n5 n6 c1 c2 c3 N : Nat} {a b c : Int} (h : n4 < N ∧ n5 < N ∧ n6 < N ∧ c1 < N ∧ c2 < N ∧ c3 < N) : ∀ i W W', InvR n4 n5 n6 c1 c2 c3 a b c i W → Keep2 N W W' → InvR n4 n5 n6 c1 c2 c3 a b c i W' := by
  rintro i W W' ⟨h1, h2, h3, h4, h5, h6⟩ hk
  have hh : ∀ (j : Nat) (o : Obj), j < N → W.heap[j]? = some o → W'.heap[j]? = some o := fun j o hj ho => (hk.block j (Array.getElem?_eq_some_iff.1 ho).1 (by omega) (by omega)).trans ho
  exact ⟨hh _ _ h.1 h1, hh _ _ h.2.1 h2, hh _ _ h.2.2.1 h3, hh _ _ h.2.2.2.1 h4, hh _ _ h.2.2.2.2.1 h5, hh _ _ h.2.2.2.2.2 h6⟩
theorem valN_dig (n : Nat) : valN (digN n) = n := by
  induction n using Nat.strongRecOn with
  | _ n ih =>
    by_cases h : n < 10
    · rw [digN_small h]
      simp [valN]
    · rw [digN_more (by omega), valN_snoc, ih (n / 10) (by omega)]
      omega
theorem digN_head (n : Nat) : 10 ≤ n → (digN n).head?.getD 0 ≠ 48 := by
  induction n using Nat.strongRecOn with
  | _ n ih =>
    intro h
    rw [digN_more h]
    have hne : digN (n / 10) ≠ [] := by
      rw [digN]
      split
      · simp
      · simp
    by_cases h2 : n / 10 < 10
    · rw [digN_small h2]
      simp
      omega
    · have h3 := ih (n / 10) (by omega) (by omega)
      obtain ⟨x, l, hx⟩ := List.exists_cons_of_ne_nil hne
      rw [hx] at h3 ⊢
      exact h3
theorem num_text {a : Int} (h : 0 ≤ a ∧ a ≤ 999999999) : numN (bsN (digS a)) = (a.toNat, 0) := by
  unfold digS
  rw [if_pos h, bsN_mkS (digN_lt _)]
  obtain ⟨h1, h2⟩ := digN_len a.toNat 8 (by omega)
  rw [numN_go h1 (by omega) (fun hz => by
    by_cases h3 : a.toNat < 10
    · rw [digN_small h3] at hz
      simp at hz
    · exact digN_head a.toNat (by omega) hz.2), if_pos (List.all_eq_true.2 fun b hb => by have := digN_all _ b hb; simp [isDig]; omega), valN_dig]
theorem invR_reads {n4 n5 n6 c1 c2 c3 N0 N1 : Nat} {a b c : Int} {w0 : World} {g : ByteArray → Option Value} (ha : 0 ≤ a ∧ a ≤ 999999999) (hb : 0 ≤ b ∧ b ≤ 999999999) (hc : 0 ≤ c ∧ c ≤ 999999999) (h1 : g sMost = some (rdV (.number c1))) (h2 : g sFirst = some (rdV (.number c2))) (h3 : g sFactor = some (rdV (.number c3)))
    (hd : n4 ≠ n5 ∧ n4 ≠ n6 ∧ n5 ≠ n6) : Reads (fun j => j = n4 ∨ j = n5 ∨ j = n6) N0 N1 w0 (retryT a b c) g (InvR n4 n5 n6 c1 c2 c3 a b c) := by
  have key : ∀ (i : Nat) (x : Int) (p B : Nat) (V : World) (cs : List Value) (old : Int), 0 ≤ x ∧ x ≤ 999999999 → NodeR w0 cs (numT x) → V.heap[p]? = some (.cells #[.pointer (some ⟨B, 0, none⟩)] 77 (0, 0)) → V.heap[B]? = some (.cells #[.int .i64 old] 3 (0, 0)) →
      Calls Try.prog 65 #[.agg cs.toArray, .pointer (some ⟨p, 0, none⟩)] V fun e w' => e = .returned zeroF ∧ w'.heap[B]? = some (.cells #[.int .i64 x] 3 (0, 0)) ∧ TurnS (fun j => j = B) V w' := by
    intro i x p B V cs old hx hn hp hB
    have := number1_any (numT x) cs p B x.toNat old w0 V hn rfl (num_text hx) hp hB
    rw [Int.toNat_of_nonneg hx.1] at this
    exact this
  have ne : ∀ (W : World) (q B : Nat) (v v' : Value), W.heap[q]? = some (.cells #[v] 77 (0, 0)) → W.heap[B]? = some (.cells #[v'] 3 (0, 0)) → q ≠ B := by
    rintro W q B v v' hq hB rfl
    rw [hq] at hB
    injection hB with hB
    injection hB with _ t2 _
    revert t2
    decide
  intro i kid ky hkid hkey
  have hlen : i < 3 := (List.getElem?_eq_some_iff.1 hkid).1
  obtain rfl | rfl | rfl : i = 0 ∨ i = 1 ∨ i = 2 := by omega
  · cases hkid
    cases hkey
    refine ⟨_, h1, fun V cs hi hN _ hn => (key 0 a c1 n4 V cs _ ha hn hi.b1 hi.i4).mono ?_⟩
    rintro e w' ⟨rfl, k1, k2⟩
    have k : ∀ (j : Nat) (o : Obj), V.heap[j]? = some o → j ≠ n4 → w'.heap[j]? = some o := fun j o ho hj => (k2.block j (Array.getElem?_eq_some_iff.1 ho).1 hj).trans ho
    exact ⟨rfl, ⟨k1, k _ _ hi.i5 (by omega), k _ _ hi.i6 (by omega), k _ _ hi.b1 (ne _ _ _ _ _ hi.b1 hi.i4), k _ _ hi.b2 (ne _ _ _ _ _ hi.b2 hi.i4), k _ _ hi.b3 (ne _ _ _ _ _ hi.b3 hi.i4)⟩, k2.mono (fun j hj => .inl hj)⟩
  · cases hkid
    cases hkey
    refine ⟨_, h2, fun V cs hi hN _ hn => (key 1 b c2 n5 V cs _ hb hn hi.b2 hi.i5).mono ?_⟩
    rintro e w' ⟨rfl, k1, k2⟩
    have k : ∀ (j : Nat) (o : Obj), V.heap[j]? = some o → j ≠ n5 → w'.heap[j]? = some o := fun j o ho hj => (k2.block j (Array.getElem?_eq_some_iff.1 ho).1 hj).trans ho
    exact ⟨rfl, ⟨k _ _ hi.i4 (by omega), k1, k _ _ hi.i6 (by omega), k _ _ hi.b1 (ne _ _ _ _ _ hi.b1 hi.i5), k _ _ hi.b2 (ne _ _ _ _ _ hi.b2 hi.i5), k _ _ hi.b3 (ne _ _ _ _ _ hi.b3 hi.i5)⟩, k2.mono (fun j hj => .inr (.inl hj))⟩
  · cases hkid
    cases hkey
    refine ⟨_, h3, fun V cs hi hN _ hn => (key 2 c c3 n6 V cs _ hc hn hi.b3 hi.i6).mono ?_⟩
    rintro e w' ⟨rfl, k1, k2⟩
    have k : ∀ (j : Nat) (o : Obj), V.heap[j]? = some o → j ≠ n6 → w'.heap[j]? = some o := fun j o ho hj => (k2.block j (Array.getElem?_eq_some_iff.1 ho).1 hj).trans ho
    exact ⟨rfl, ⟨k _ _ hi.i4 (by omega), k _ _ hi.i5 (by omega), k1, k _ _ hi.b1 (ne _ _ _ _ _ hi.b1 hi.i6), k _ _ hi.b2 (ne _ _ _ _ _ hi.b2 hi.i6), k _ _ hi.b3 (ne _ _ _ _ _ hi.b3 hi.i6)⟩, k2.mono (fun j hj => .inr (.inr hj))⟩
/-- What the reader of keys leaves. -/
structure FinR (W0 : World) (n4 n5 n6 : Nat) (a b c : Int) (W : World) : Prop where
  i4 : W.heap[n4]? = some (.cells #[.int .i64 a] 3 (0, 0))
  i5 : W.heap[n5]? = some (.cells #[.int .i64 b] 3 (0, 0))
  i6 : W.heap[n6]? = some (.cells #[.int .i64 c] 3 (0, 0))
  turn : TurnS (fun j => j = n4 ∨ j = n5 ∨ j = n6) W0 W
theorem FinR.keep {W0 : World} {n4 n5 n6 : Nat} {a b c : Int} {W W' : World} (h : FinR W0 n4 n5 n6 a b c W) (hk : ∀ j, j < W.heap.size → j < W0.heap.size → W'.heap[j]? = W.heap[j]?) (hl : Below 0 W W') (hn : n4 < W0.heap.size ∧ n5 < W0.heap.size ∧ n6 < W0.heap.size) : FinR W0 n4 n5 n6 a b c W' :=
  ⟨(hk _ (Array.getElem?_eq_some_iff.1 h.i4).1 hn.1).trans h.i4, (hk _ (Array.getElem?_eq_some_iff.1 h.i5).1 hn.2.1).trans h.i5, (hk _ (Array.getElem?_eq_some_iff.1 h.i6).1 hn.2.2).trans h.i6, ⟨h.turn.low.trans hl, fun j h1 h2 => (hk j (Nat.lt_of_lt_of_le h1 h.turn.size) h1).trans (h.turn.block j h1 h2)⟩⟩
theorem FinR.alloc {W0 : World} {n4 n5 n6 : Nat} {a b c : Int} {W : World} (h : FinR W0 n4 n5 n6 a b c W) (o : Obj) : FinR W0 n4 n5 n6 a b c (W.alloc o) :=
  ⟨(Below.heap_alloc _ _ _ (Array.getElem?_eq_some_iff.1 h.i4).1).trans h.i4, (Below.heap_alloc _ _ _ (Array.getElem?_eq_some_iff.1 h.i5).1).trans h.i5, (Below.heap_alloc _ _ _ (Array.getElem?_eq_some_iff.1 h.i6).1).trans h.i6, h.turn.alloc o⟩
theorem FinR.set {W0 : World} {n4 n5 n6 f : Nat} {a b c : Int} {W : World} (h : FinR W0 n4 n5 n6 a b c W) (hf : W0.heap.size ≤ f) (hn : n4 < W0.heap.size ∧ n5 < W0.heap.size ∧ n6 < W0.heap.size) : FinR W0 n4 n5 n6 a b c ((W.setCell ⟨f, 0, none⟩ (.int .i64 0)).setCell ⟨f, 1, none⟩ (.int .i64 0)) :=
  h.keep (fun j _ hj => by
    have hne : j ≠ f := by omega
    rw [Below.heap_setCell _ _ _ _ hne, Below.heap_setCell _ _ _ _ hne]) (((Below.refl 0 W).setCell (p := ⟨f, 0, none⟩) (Nat.zero_le _) _).setCell (p := ⟨f, 1, none⟩) (Nat.zero_le _) _) hn

set_option maxRecDepth 100000 in
set_option maxHeartbeats 8000000 in
theorem retry1_any (a b c : Int) (t : Tree) (cs : List Value) (p0 B : Nat) (o0 o1 o2 : Value) (w0 w : World) (hT : t = retryT a b c) (h : NodeR w0 cs t) (hb : Below w0.heap.size w0 w) (_hBl : w0.heap.size ≤ B) (ha : 0 ≤ a ∧ a ≤ 999999999) (hb' : 0 ≤ b ∧ b ≤ 999999999) (hc' : 0 ≤ c ∧ c ≤ 999999999)
    (hp : w.heap[p0]? = some (.cells #[.pointer (some ⟨B, 0, none⟩)] 88 (0, 0))) (hB : w.heap[B]? = some (.cells #[o0, o1, o2] 43 (0, 0))) :
    Calls Try.prog 64 #[.agg cs.toArray, .pointer (some ⟨p0, 0, none⟩)] w fun e w' => e = .returned zeroF ∧ w'.heap[B]? = some (.cells #[.int .i64 a, .int .i64 b, .int .i64 c] 43 (0, 0)) ∧ TurnS (fun j => j = B) w w' := by
  obtain ⟨ka, kc, ba, bc, rfl⟩ := h.cells
  have HN := Lib.hid h
  have HT := Lib.hid hT
  have HA := Lib.hid ha
  have HB := Lib.hid hb'
  have HC := Lib.hid hc'
  have hltp := (Array.getElem?_eq_some_iff.1 hp).1
  have hltB := (Array.getElem?_eq_some_iff.1 hB).1
  have HPP := Lib.hid hp
  have HBB := Lib.hid hB
  have hw0 := hb.size
  clear h hT ha hb' hc' hp hB
  obtain ⟨hb0, g0, f0, hs0⟩ := enter5 w (.int .u8 (t.kind : Int)) (.string t.text) (.slice ka t.keys.length kc) (.slice ba t.kids.length bc) (.int .i64 t.line)
  go_enter Try.func64, Try.ntmps64
  go_upto_region 1 with fail
  generalize (w.alloc (.cells #[.int .u8 (t.kind : Int), .string t.text, .slice ka t.keys.length kc, .slice ba t.kids.length bc, .int .i64 t.line] 34)).alloc (.cells #[.int .i64 0, .int .i64 0] 29) = wz at *
  go_upto_region 2 with fail
  obtain ⟨hb3, hi4, hi5, hi6, hsz⟩ := alloc3n wz (.cells #[.int .i64 0] 3) (.cells #[.int .i64 0] 3) (.cells #[.int .i64 0] 3)
  rw [hs0] at hi4 hi5 hi6 hsz
  have HB3 := Lib.hid (bthen hb0 (Nat.le_refl _) hb3)
  have hg3 := (hb3.block _ (by omega)).trans g0
  have hf3 := (hb3.block _ (by omega)).trans f0
  clear hb3 hb0 g0 f0
  generalize ((wz.alloc (.cells #[.int .i64 0] 3)).alloc (.cells #[.int .i64 0] 3)).alloc (.cells #[.int .i64 0] 3) = w3 at *
  have HG3 : Hid (w3.drew.heap[w.heap.size]? = _) := Lib.hid hg3
  have HR3 : Hid (w3.drew.heap[w.heap.size + 1]? = _) := Lib.hid hf3
  have HI4 : Hid (w3.drew.heap[(w.heap.size + 2)]? = _) := Lib.hid hi4
  have HI5 : Hid (w3.drew.heap[(w.heap.size + 2 + 1)]? = _) := Lib.hid hi5
  have HI6 : Hid (w3.drew.heap[(w.heap.size + 2 + 1 + 1)]? = _) := Lib.hid hi6
  have HSZ3 : Hid (w3.drew.heap.size = w.heap.size + 2 + 3) := Lib.hid hsz
  have HLT3 : Hid (w.heap.size < w3.drew.heap.size) := Lib.hid (by rw [HSZ3.out]; omega)
  have HW3 : Hid (Below w0.heap.size w0 w3.drew) := Lib.hid (hb.trans (HB3.out.mono hw0)).drew
  have HBW : Hid (Below w.heap.size w w3.drew) := Lib.hid HB3.out.drew
  clear hg3 hf3 hi4 hi5 hi6 hsz hb HB3
  refine E_inv (fun listed act0 W => ∃ (b0 b1 b2 b3 b4 b5 b6 b7 b8 b9 b10 b11 b12 : Bool) (x7 x8 x9 x10 x11 x12 x13 x14 x15 : Value), listed = #[b0, b1, b2, b3, b4, b5, b6, b7, b8, b9, b10, b11, b12] ∧ act0 = { tmps := #[.agg #[.int .u8 (t.kind : Int), .string t.text, .slice ka t.keys.length kc, .slice ba t.kids.length bc, .int .i64 t.line], .pointer (some ⟨p0, 0, none⟩), .pointer (some ⟨w.heap.size, 0, none⟩), .pointer (some ⟨(w.heap.size + 1), 0, none⟩), .pointer (some ⟨(w.heap.size + 2), 0, none⟩), .pointer (some ⟨(w.heap.size + 2 + 1), 0, none⟩), .pointer (some ⟨(w.heap.size + 2 + 1 + 1), 0, none⟩), x7, x8, x9, x10, x11, x12, x13, x14, x15, undef, undef, undef, undef, undef, undef, undef], defers := [] } ∧ (b10 = false → Below w3.drew.heap.size w3.drew W) ∧ (b0 = true → ∃ M, x8 = .map (some M) ∧ (b10 = false → w3.drew.heap.size ≤ M ∧ ∃ n g, MapF W M n g ∧ n ≤ b2.toNat + b4.toNat + b6.toNat ∧ (b2 = true → g sMost = some x9) ∧ (b4 = true → g sFirst = some x10) ∧ (b6 = true → g sFactor = some x11))) ∧ (b1 = true → ∃ c, x9 = rdV (.number c) ∧ (b10 = false → w3.drew.heap.size ≤ c ∧ W.heap[c]? = some (.cells #[.pointer (some ⟨(w.heap.size + 2), 0, none⟩)] 77 (0, 0)))) ∧ (b3 = true → ∃ c, x10 = rdV (.number c) ∧ (b10 = false → w3.drew.heap.size ≤ c ∧ W.heap[c]? = some (.cells #[.pointer (some ⟨(w.heap.size + 2 + 1), 0, none⟩)] 77 (0, 0)))) ∧ (b5 = true → ∃ c, x11 = rdV (.number c) ∧ (b10 = false → w3.drew.heap.size ≤ c ∧ W.heap[c]? = some (.cells #[.pointer (some ⟨(w.heap.size + 2 + 1 + 1), 0, none⟩)] 77 (0, 0)))) ∧ (b7 = true → x12 = x8) ∧ (b8 = true → ∃ p q, x13 = keysV p q ∧ (b10 = false → w3.drew.heap.size ≤ p ∧ w3.drew.heap.size ≤ q ∧ (∃ M, x8 = .map (some M) ∧ W.heap[p]? = some (.cells #[.map (some M)] 69 (0, 0))) ∧ W.heap[q]? = some (.cells #[.slice none 0 0] 31 (0, 0)))) ∧ (b9 = true → x14 = .agg #[.int .u8 (t.kind : Int), .string t.text, .slice ka t.keys.length kc, .slice ba t.kids.length bc, .int .i64 t.line]) ∧ (b10 = true → x15 = .agg #[.int .i64 0, .int .i64 0] ∧ FinR w3.drew (w.heap.size + 2) (w.heap.size + 2 + 1) (w.heap.size + 2 + 1 + 1) a b c W) ∧ (b11 = true → ∃ f, x7 = .pointer (some ⟨f, 0, none⟩) ∧ w3.drew.heap.size ≤ f ∧ W.heap[f]? = some (.cells #[.int .i64 0, .int .i64 0] 29 (0, 0)))) (by kernel_rfl) (by kernel_rfl) ?fstep ?fdone ?fstart
  case fstart => exact ⟨false, false, false, false, false, false, false, false, false, false, false, false, false, undef, undef, undef, undef, undef, undef, undef, undef, undef, rfl, rfl, (fun _ => Below.refl _ _), (fun h => by cases h), (fun h => by cases h), (fun h => by cases h), (fun h => by cases h), (fun h => by cases h), (fun h => by cases h), (fun h => by cases h), (fun h => by cases h), (fun h => by cases h)⟩
  case fstep =>
    rintro Q0 listed act0 W hcl ⟨b0, b1, b2, b3, b4, b5, b6, b7, b8, b9, b10, b11, b12, x7, x8, x9, x10, x11, x12, x13, x14, x15, rfl, rfl, FA, F0, R1, R3, R5, FM, FK, FL, FC, FF⟩ i hi
    have hlt : i < 13 := ready_lt hi
    obtain rfl | rfl | rfl | rfl | rfl | rfl | rfl | rfl | rfl | rfl | rfl | rfl | rfl : i = 0 ∨ i = 1 ∨ i = 2 ∨ i = 3 ∨ i = 4 ∨ i = 5 ∨ i = 6 ∨ i = 7 ∨ i = 8 ∨ i = 9 ∨ i = 10 ∨ i = 11 ∨ i = 12 := by omega
    · have hu : b0 = false := ready_un hi
      subst hu
      have hn2 : b2 = false := by
        cases hh : b2 with
        | false => rfl
        | true => exact Bool.noConfusion (show false = true from (hcl 2 0 (by kernel_rfl) (show _ = true from hh)))
      have hn4 : b4 = false := by
        cases hh : b4 with
        | false => rfl
        | true => exact Bool.noConfusion (show false = true from (hcl 4 0 (by kernel_rfl) (show _ = true from hh)))
      have hn6 : b6 = false := by
        cases hh : b6 with
        | false => rfl
        | true => exact Bool.noConfusion (show false = true from (hcl 6 0 (by kernel_rfl) (show _ = true from hh)))
      have hn7 : b7 = false := by
        cases hh : b7 with
        | false => rfl
        | true => exact Bool.noConfusion (show false = true from (hcl 7 0 (by kernel_rfl) (show _ = true from hh)))
      have hn8 : b8 = false := by
        cases hh : b8 with
        | false => rfl
        | true => exact Bool.noConfusion (show false = true from (hcl 7 0 (by kernel_rfl) (hcl 8 7 (by kernel_rfl) (show _ = true from hh))))
      have hn10 : b10 = false := by
        cases hh : b10 with
        | false => rfl
        | true => exact Bool.noConfusion (show false = true from (hcl 7 0 (by kernel_rfl) (hcl 8 7 (by kernel_rfl) (hcl 10 8 (by kernel_rfl) (show _ = true from hh)))))
      have hn12 : b12 = false := by
        cases hh : b12 with
        | false => rfl
        | true => exact Bool.noConfusion (show false = true from (hcl 12 0 (by kernel_rfl) (show _ = true from hh)))
      subst hn2 hn4 hn6 hn7 hn8 hn10 hn12
      clear hi hlt hcl
      refine wpOp_lit rfl (by rfl) (fun K hK => ?_)
      have hb : Below W.heap.size W (W.alloc (.map #[] 0)) := (Below.refl _ _).alloc (Nat.le_refl _) _
      have hkc := KeepC.of_below hb
      have hFA := bthen (FA rfl) (Nat.le_refl _) hb
      have hsA := (FA rfl).size
      have hmade := MapF.made W
      have hmm := @run_makeMap Try.prog
      go_simp
      (try simp only [Act.put, List.setIfInBounds_toArray, List.set_cons_zero, List.set_cons_succ])
      exact hK.out _ _ ⟨_, _, _, _, _, _, _, _, _, _, _, _, _, _, _, _, _, _, _, _, _, _, rfl, rfl, (fun _ => hFA), (fun _ => ⟨_, rfl, fun _ => ⟨hsA, 0, _, hmade, Nat.zero_le _, (fun h => by cases h), (fun h => by cases h), (fun h => by cases h)⟩⟩), (fun h => by obtain ⟨c, e1, e2⟩ := R1 h; exact ⟨c, e1, fun h2 => by obtain ⟨u1, u2⟩ := e2 h2; exact ⟨u1, hkc _ _ _ _ u2⟩⟩), (fun h => by obtain ⟨c, e1, e2⟩ := R3 h; exact ⟨c, e1, fun h2 => by obtain ⟨u1, u2⟩ := e2 h2; exact ⟨u1, hkc _ _ _ _ u2⟩⟩), (fun h => by obtain ⟨c, e1, e2⟩ := R5 h; exact ⟨c, e1, fun h2 => by obtain ⟨u1, u2⟩ := e2 h2; exact ⟨u1, hkc _ _ _ _ u2⟩⟩), (fun h => by cases h), (fun h => by cases h), FL, (fun h => by cases h), (fun h => by obtain ⟨f, e1, e2, e3⟩ := FF h; exact ⟨f, e1, e2, hkc _ _ _ _ e3⟩)⟩
    · have hu : b1 = false := ready_un hi
      subst hu
      have hn2 : b2 = false := by
        cases hh : b2 with
        | false => rfl
        | true => exact Bool.noConfusion (show false = true from (hcl 2 1 (by kernel_rfl) (show _ = true from hh)))
      have hn3 : b3 = false := by
        cases hh : b3 with
        | false => rfl
        | true => exact Bool.noConfusion (show false = true from (hcl 3 1 (by kernel_rfl) (show _ = true from hh)))
      have hn4 : b4 = false := by
        cases hh : b4 with
        | false => rfl
        | true => exact Bool.noConfusion (show false = true from (hcl 3 1 (by kernel_rfl) (hcl 4 3 (by kernel_rfl) (show _ = true from hh))))
      have hn5 : b5 = false := by
        cases hh : b5 with
        | false => rfl
        | true => exact Bool.noConfusion (show false = true from (hcl 3 1 (by kernel_rfl) (hcl 5 3 (by kernel_rfl) (show _ = true from hh))))
      have hn6 : b6 = false := by
        cases hh : b6 with
        | false => rfl
        | true => exact Bool.noConfusion (show false = true from (hcl 3 1 (by kernel_rfl) (hcl 5 3 (by kernel_rfl) (hcl 6 5 (by kernel_rfl) (show _ = true from hh)))))
      have hn7 : b7 = false := by
        cases hh : b7 with
        | false => rfl
        | true => exact Bool.noConfusion (show false = true from (hcl 7 1 (by kernel_rfl) (show _ = true from hh)))
      have hn8 : b8 = false := by
        cases hh : b8 with
        | false => rfl
        | true => exact Bool.noConfusion (show false = true from (hcl 7 1 (by kernel_rfl) (hcl 8 7 (by kernel_rfl) (show _ = true from hh))))
      have hn10 : b10 = false := by
        cases hh : b10 with
        | false => rfl
        | true => exact Bool.noConfusion (show false = true from (hcl 7 1 (by kernel_rfl) (hcl 8 7 (by kernel_rfl) (hcl 10 8 (by kernel_rfl) (show _ = true from hh)))))
      have hn12 : b12 = false := by
        cases hh : b12 with
        | false => rfl
        | true => exact Bool.noConfusion (show false = true from (hcl 12 1 (by kernel_rfl) (show _ = true from hh)))
      subst hn2 hn3 hn4 hn5 hn6 hn7 hn8 hn10 hn12
      clear hi hlt hcl
      refine wpOp_lit rfl (by rfl) (fun K hK => ?_)
      go_simp
      refine (mkNumber_any (w.heap.size + 2) W).mono ?_
      rintro e V ⟨c, rfl, hc1, hc2, hb⟩
      have hkc := KeepC.of_below hb
      have hFA := bthen (FA rfl) (Nat.le_refl _) hb
      have hsA := (FA rfl).size
      (skip)
      exact hK.out _ _ ⟨_, _, _, _, _, _, _, _, _, _, _, _, _, _, _, _, _, _, _, _, _, _, rfl, rfl, (fun _ => hFA), (fun h => by obtain ⟨M, e1, e2⟩ := F0 h; exact ⟨M, e1, fun h2 => by obtain ⟨u1, n, g, u2, u3, v0, v1, v2⟩ := e2 h2; exact ⟨u1, n, g, u2.block (hb.block _ u2.lt), u3, (fun h => by cases h), v1, v2⟩⟩), (fun _ => ⟨c, rfl, fun _ => ⟨Nat.le_trans hsA hc1, hc2⟩⟩), (fun h => by obtain ⟨c, e1, e2⟩ := R3 h; exact ⟨c, e1, fun h2 => by obtain ⟨u1, u2⟩ := e2 h2; exact ⟨u1, hkc _ _ _ _ u2⟩⟩), (fun h => by obtain ⟨c, e1, e2⟩ := R5 h; exact ⟨c, e1, fun h2 => by obtain ⟨u1, u2⟩ := e2 h2; exact ⟨u1, hkc _ _ _ _ u2⟩⟩), FM, (fun h => by obtain ⟨p, q, e1, e2⟩ := FK h; exact ⟨p, q, e1, fun h2 => by obtain ⟨u1, u2, ⟨M, u3, u4⟩, u5⟩ := e2 h2; exact ⟨u1, u2, ⟨M, u3, hkc _ _ _ _ u4⟩, hkc _ _ _ _ u5⟩⟩), FL, (fun h => by cases h), (fun h => by obtain ⟨f, e1, e2, e3⟩ := FF h; exact ⟨f, e1, e2, hkc _ _ _ _ e3⟩)⟩
    · have hu : b2 = false := ready_un hi
      have ht0 : b0 = true := (ready_dep hi 0 (by kernel_rfl))
      have ht1 : b1 = true := (ready_dep hi 1 (by kernel_rfl))
      subst hu
      have hn7 : b7 = false := by
        cases hh : b7 with
        | false => rfl
        | true => exact Bool.noConfusion (show false = true from (hcl 7 2 (by kernel_rfl) (show _ = true from hh)))
      have hn8 : b8 = false := by
        cases hh : b8 with
        | false => rfl
        | true => exact Bool.noConfusion (show false = true from (hcl 7 2 (by kernel_rfl) (hcl 8 7 (by kernel_rfl) (show _ = true from hh))))
      have hn10 : b10 = false := by
        cases hh : b10 with
        | false => rfl
        | true => exact Bool.noConfusion (show false = true from (hcl 7 2 (by kernel_rfl) (hcl 8 7 (by kernel_rfl) (hcl 10 8 (by kernel_rfl) (show _ = true from hh)))))
      have hn12 : b12 = false := by
        cases hh : b12 with
        | false => rfl
        | true => exact Bool.noConfusion (show false = true from (hcl 12 2 (by kernel_rfl) (show _ = true from hh)))
      subst ht0 ht1 hn7 hn8 hn10 hn12
      clear hi hlt hcl
      refine wpOp_lit rfl (by rfl) (fun K hK => ?_)
      obtain ⟨M, rfl, hm⟩ := F0 rfl
      obtain ⟨hM, n, g, hmap, hn, v0, v1, v2⟩ := hm rfl
      obtain ⟨c, rfl, hc⟩ := R1 rfl
      obtain ⟨w6, hup, hm6, hb6, hs6, ho6⟩ := hmap.store (show n < maxLen from Nat.lt_of_le_of_lt hn (by have h0 := toNat_le; unfold maxLen; have := h0 b4; have := h0 b6; simp only [Bool.toNat_false] at *; omega)) (x := { data := #[109, 111, 115, 116] }) (by decide) (rdV (.number c))
      have hkc := hmap.keepC ho6
      have hFA := (FA rfl).trans (hb6.mono hM)
      go_simp
      (try simp only [Act.put, List.setIfInBounds_toArray, List.set_cons_zero, List.set_cons_succ])
      exact hK.out _ _ ⟨_, _, _, _, _, _, _, _, _, _, _, _, _, _, _, _, _, _, _, _, _, _, rfl, rfl, (fun _ => hFA), (fun _ => ⟨M, rfl, fun _ => ⟨hM, _, _, hm6, (by simp only [Bool.toNat_false, Bool.toNat_true] at *; omega), (fun _ => if_pos rfl), (fun h => (if_neg (by decide)).trans (v1 h)), (fun h => (if_neg (by decide)).trans (v2 h))⟩⟩), (fun _ => ⟨c, rfl, fun h2 => by obtain ⟨u1, u2⟩ := hc h2; exact ⟨u1, hkc _ _ _ _ u2⟩⟩), (fun h => by obtain ⟨c, e1, e2⟩ := R3 h; exact ⟨c, e1, fun h2 => by obtain ⟨u1, u2⟩ := e2 h2; exact ⟨u1, hkc _ _ _ _ u2⟩⟩), (fun h => by obtain ⟨c, e1, e2⟩ := R5 h; exact ⟨c, e1, fun h2 => by obtain ⟨u1, u2⟩ := e2 h2; exact ⟨u1, hkc _ _ _ _ u2⟩⟩), FM, (fun h => by obtain ⟨p, q, e1, e2⟩ := FK h; exact ⟨p, q, e1, fun h2 => by obtain ⟨u1, u2, ⟨M, u3, u4⟩, u5⟩ := e2 h2; exact ⟨u1, u2, ⟨M, u3, hkc _ _ _ _ u4⟩, hkc _ _ _ _ u5⟩⟩), FL, (fun h => by cases h), (fun h => by obtain ⟨f, e1, e2, e3⟩ := FF h; exact ⟨f, e1, e2, hkc _ _ _ _ e3⟩)⟩
    · have hu : b3 = false := ready_un hi
      have ht1 : b1 = true := (ready_dep hi 1 (by kernel_rfl))
      subst hu
      have hn4 : b4 = false := by
        cases hh : b4 with
        | false => rfl
        | true => exact Bool.noConfusion (show false = true from (hcl 4 3 (by kernel_rfl) (show _ = true from hh)))
      have hn5 : b5 = false := by
        cases hh : b5 with
        | false => rfl
        | true => exact Bool.noConfusion (show false = true from (hcl 5 3 (by kernel_rfl) (show _ = true from hh)))
      have hn6 : b6 = false := by
        cases hh : b6 with
        | false => rfl
        | true => exact Bool.noConfusion (show false = true from (hcl 5 3 (by kernel_rfl) (hcl 6 5 (by kernel_rfl) (show _ = true from hh))))
      have hn7 : b7 = false := by
        cases hh : b7 with
        | false => rfl
        | true => exact Bool.noConfusion (show false = true from (hcl 7 3 (by kernel_rfl) (show _ = true from hh)))
      have hn8 : b8 = false := by
        cases hh : b8 with
        | false => rfl
        | true => exact Bool.noConfusion (show false = true from (hcl 5 3 (by kernel_rfl) (hcl 8 5 (by kernel_rfl) (show _ = true from hh))))
      have hn10 : b10 = false := by
        cases hh : b10 with
        | false => rfl
        | true => exact Bool.noConfusion (show false = true from (hcl 5 3 (by kernel_rfl) (hcl 8 5 (by kernel_rfl) (hcl 10 8 (by kernel_rfl) (show _ = true from hh)))))
      have hn12 : b12 = false := by
        cases hh : b12 with
        | false => rfl
        | true => exact Bool.noConfusion (show false = true from (hcl 12 3 (by kernel_rfl) (show _ = true from hh)))
      subst ht1 hn4 hn5 hn6 hn7 hn8 hn10 hn12
      clear hi hlt hcl
      refine wpOp_lit rfl (by rfl) (fun K hK => ?_)
      go_simp
      refine (mkNumber_any (w.heap.size + 2 + 1) W).mono ?_
      rintro e V ⟨c, rfl, hc1, hc2, hb⟩
      have hkc := KeepC.of_below hb
      have hFA := bthen (FA rfl) (Nat.le_refl _) hb
      have hsA := (FA rfl).size
      (skip)
      exact hK.out _ _ ⟨_, _, _, _, _, _, _, _, _, _, _, _, _, _, _, _, _, _, _, _, _, _, rfl, rfl, (fun _ => hFA), (fun h => by obtain ⟨M, e1, e2⟩ := F0 h; exact ⟨M, e1, fun h2 => by obtain ⟨u1, n, g, u2, u3, v0, v1, v2⟩ := e2 h2; exact ⟨u1, n, g, u2.block (hb.block _ u2.lt), u3, v0, (fun h => by cases h), v2⟩⟩), (fun h => by obtain ⟨c, e1, e2⟩ := R1 h; exact ⟨c, e1, fun h2 => by obtain ⟨u1, u2⟩ := e2 h2; exact ⟨u1, hkc _ _ _ _ u2⟩⟩), (fun _ => ⟨c, rfl, fun _ => ⟨Nat.le_trans hsA hc1, hc2⟩⟩), (fun h => by obtain ⟨c, e1, e2⟩ := R5 h; exact ⟨c, e1, fun h2 => by obtain ⟨u1, u2⟩ := e2 h2; exact ⟨u1, hkc _ _ _ _ u2⟩⟩), FM, (fun h => by obtain ⟨p, q, e1, e2⟩ := FK h; exact ⟨p, q, e1, fun h2 => by obtain ⟨u1, u2, ⟨M, u3, u4⟩, u5⟩ := e2 h2; exact ⟨u1, u2, ⟨M, u3, hkc _ _ _ _ u4⟩, hkc _ _ _ _ u5⟩⟩), FL, (fun h => by cases h), (fun h => by obtain ⟨f, e1, e2, e3⟩ := FF h; exact ⟨f, e1, e2, hkc _ _ _ _ e3⟩)⟩
    · have hu : b4 = false := ready_un hi
      have ht0 : b0 = true := (ready_dep hi 0 (by kernel_rfl))
      have ht1 : b1 = true := (hcl 3 1 (by kernel_rfl) (ready_dep hi 3 (by kernel_rfl)))
      have ht3 : b3 = true := (ready_dep hi 3 (by kernel_rfl))
      subst hu
      have hn7 : b7 = false := by
        cases hh : b7 with
        | false => rfl
        | true => exact Bool.noConfusion (show false = true from (hcl 7 4 (by kernel_rfl) (show _ = true from hh)))
      have hn8 : b8 = false := by
        cases hh : b8 with
        | false => rfl
        | true => exact Bool.noConfusion (show false = true from (hcl 7 4 (by kernel_rfl) (hcl 8 7 (by kernel_rfl) (show _ = true from hh))))
      have hn10 : b10 = false := by
        cases hh : b10 with
        | false => rfl
        | true => exact Bool.noConfusion (show false = true from (hcl 7 4 (by kernel_rfl) (hcl 8 7 (by kernel_rfl) (hcl 10 8 (by kernel_rfl) (show _ = true from hh)))))
      have hn12 : b12 = false := by
        cases hh : b12 with
        | false => rfl
        | true => exact Bool.noConfusion (show false = true from (hcl 12 4 (by kernel_rfl) (show _ = true from hh)))
      subst ht0 ht1 ht3 hn7 hn8 hn10 hn12
      clear hi hlt hcl
      refine wpOp_lit rfl (by rfl) (fun K hK => ?_)
      obtain ⟨M, rfl, hm⟩ := F0 rfl
      obtain ⟨hM, n, g, hmap, hn, v0, v1, v2⟩ := hm rfl
      obtain ⟨c, rfl, hc⟩ := R3 rfl
      obtain ⟨w6, hup, hm6, hb6, hs6, ho6⟩ := hmap.store (show n < maxLen from Nat.lt_of_le_of_lt hn (by have h0 := toNat_le; unfold maxLen; have := h0 b2; have := h0 b6; simp only [Bool.toNat_false] at *; omega)) (x := { data := #[102, 105, 114, 115, 116] }) (by decide) (rdV (.number c))
      have hkc := hmap.keepC ho6
      have hFA := (FA rfl).trans (hb6.mono hM)
      go_simp
      (try simp only [Act.put, List.setIfInBounds_toArray, List.set_cons_zero, List.set_cons_succ])
      exact hK.out _ _ ⟨_, _, _, _, _, _, _, _, _, _, _, _, _, _, _, _, _, _, _, _, _, _, rfl, rfl, (fun _ => hFA), (fun _ => ⟨M, rfl, fun _ => ⟨hM, _, _, hm6, (by simp only [Bool.toNat_false, Bool.toNat_true] at *; omega), (fun h => (if_neg (by decide)).trans (v0 h)), (fun _ => if_pos rfl), (fun h => (if_neg (by decide)).trans (v2 h))⟩⟩), (fun h => by obtain ⟨c, e1, e2⟩ := R1 h; exact ⟨c, e1, fun h2 => by obtain ⟨u1, u2⟩ := e2 h2; exact ⟨u1, hkc _ _ _ _ u2⟩⟩), (fun _ => ⟨c, rfl, fun h2 => by obtain ⟨u1, u2⟩ := hc h2; exact ⟨u1, hkc _ _ _ _ u2⟩⟩), (fun h => by obtain ⟨c, e1, e2⟩ := R5 h; exact ⟨c, e1, fun h2 => by obtain ⟨u1, u2⟩ := e2 h2; exact ⟨u1, hkc _ _ _ _ u2⟩⟩), FM, (fun h => by obtain ⟨p, q, e1, e2⟩ := FK h; exact ⟨p, q, e1, fun h2 => by obtain ⟨u1, u2, ⟨M, u3, u4⟩, u5⟩ := e2 h2; exact ⟨u1, u2, ⟨M, u3, hkc _ _ _ _ u4⟩, hkc _ _ _ _ u5⟩⟩), FL, (fun h => by cases h), (fun h => by obtain ⟨f, e1, e2, e3⟩ := FF h; exact ⟨f, e1, e2, hkc _ _ _ _ e3⟩)⟩
    · have hu : b5 = false := ready_un hi
      have ht1 : b1 = true := (hcl 3 1 (by kernel_rfl) (ready_dep hi 3 (by kernel_rfl)))
      have ht3 : b3 = true := (ready_dep hi 3 (by kernel_rfl))
      subst hu
      have hn6 : b6 = false := by
        cases hh : b6 with
        | false => rfl
        | true => exact Bool.noConfusion (show false = true from (hcl 6 5 (by kernel_rfl) (show _ = true from hh)))
      have hn7 : b7 = false := by
        cases hh : b7 with
        | false => rfl
        | true => exact Bool.noConfusion (show false = true from (hcl 7 5 (by kernel_rfl) (show _ = true from hh)))
      have hn8 : b8 = false := by
        cases hh : b8 with
        | false => rfl
        | true => exact Bool.noConfusion (show false = true from (hcl 8 5 (by kernel_rfl) (show _ = true from hh)))
      have hn10 : b10 = false := by
        cases hh : b10 with
        | false => rfl
        | true => exact Bool.noConfusion (show false = true from (hcl 8 5 (by kernel_rfl) (hcl 10 8 (by kernel_rfl) (show _ = true from hh))))
      have hn12 : b12 = false := by
        cases hh : b12 with
        | false => rfl
        | true => exact Bool.noConfusion (show false = true from (hcl 12 5 (by kernel_rfl) (show _ = true from hh)))
      subst ht1 ht3 hn6 hn7 hn8 hn10 hn12
      clear hi hlt hcl
      refine wpOp_lit rfl (by rfl) (fun K hK => ?_)
      go_simp
      refine (mkNumber_any (w.heap.size + 2 + 1 + 1) W).mono ?_
      rintro e V ⟨c, rfl, hc1, hc2, hb⟩
      have hkc := KeepC.of_below hb
      have hFA := bthen (FA rfl) (Nat.le_refl _) hb
      have hsA := (FA rfl).size
      (skip)
      exact hK.out _ _ ⟨_, _, _, _, _, _, _, _, _, _, _, _, _, _, _, _, _, _, _, _, _, _, rfl, rfl, (fun _ => hFA), (fun h => by obtain ⟨M, e1, e2⟩ := F0 h; exact ⟨M, e1, fun h2 => by obtain ⟨u1, n, g, u2, u3, v0, v1, v2⟩ := e2 h2; exact ⟨u1, n, g, u2.block (hb.block _ u2.lt), u3, v0, v1, (fun h => by cases h)⟩⟩), (fun h => by obtain ⟨c, e1, e2⟩ := R1 h; exact ⟨c, e1, fun h2 => by obtain ⟨u1, u2⟩ := e2 h2; exact ⟨u1, hkc _ _ _ _ u2⟩⟩), (fun h => by obtain ⟨c, e1, e2⟩ := R3 h; exact ⟨c, e1, fun h2 => by obtain ⟨u1, u2⟩ := e2 h2; exact ⟨u1, hkc _ _ _ _ u2⟩⟩), (fun _ => ⟨c, rfl, fun _ => ⟨Nat.le_trans hsA hc1, hc2⟩⟩), FM, (fun h => by obtain ⟨p, q, e1, e2⟩ := FK h; exact ⟨p, q, e1, fun h2 => by obtain ⟨u1, u2, ⟨M, u3, u4⟩, u5⟩ := e2 h2; exact ⟨u1, u2, ⟨M, u3, hkc _ _ _ _ u4⟩, hkc _ _ _ _ u5⟩⟩), FL, (fun h => by cases h), (fun h => by obtain ⟨f, e1, e2, e3⟩ := FF h; exact ⟨f, e1, e2, hkc _ _ _ _ e3⟩)⟩
    · have hu : b6 = false := ready_un hi
      have ht0 : b0 = true := (ready_dep hi 0 (by kernel_rfl))
      have ht1 : b1 = true := (hcl 3 1 (by kernel_rfl) (hcl 5 3 (by kernel_rfl) (ready_dep hi 5 (by kernel_rfl))))
      have ht3 : b3 = true := (hcl 5 3 (by kernel_rfl) (ready_dep hi 5 (by kernel_rfl)))
      have ht5 : b5 = true := (ready_dep hi 5 (by kernel_rfl))
      subst hu
      have hn7 : b7 = false := by
        cases hh : b7 with
        | false => rfl
        | true => exact Bool.noConfusion (show false = true from (hcl 7 6 (by kernel_rfl) (show _ = true from hh)))
      have hn8 : b8 = false := by
        cases hh : b8 with
        | false => rfl
        | true => exact Bool.noConfusion (show false = true from (hcl 7 6 (by kernel_rfl) (hcl 8 7 (by kernel_rfl) (show _ = true from hh))))
      have hn10 : b10 = false := by
        cases hh : b10 with
        | false => rfl
        | true => exact Bool.noConfusion (show false = true from (hcl 7 6 (by kernel_rfl) (hcl 8 7 (by kernel_rfl) (hcl 10 8 (by kernel_rfl) (show _ = true from hh)))))
      have hn12 : b12 = false := by
        cases hh : b12 with
        | false => rfl
        | true => exact Bool.noConfusion (show false = true from (hcl 12 6 (by kernel_rfl) (show _ = true from hh)))
      subst ht0 ht1 ht3 ht5 hn7 hn8 hn10 hn12
      clear hi hlt hcl
      refine wpOp_lit rfl (by rfl) (fun K hK => ?_)
      obtain ⟨M, rfl, hm⟩ := F0 rfl
      obtain ⟨hM, n, g, hmap, hn, v0, v1, v2⟩ := hm rfl
      obtain ⟨c, rfl, hc⟩ := R5 rfl
      obtain ⟨w6, hup, hm6, hb6, hs6, ho6⟩ := hmap.store (show n < maxLen from Nat.lt_of_le_of_lt hn (by have h0 := toNat_le; unfold maxLen; have := h0 b2; have := h0 b4; simp only [Bool.toNat_false] at *; omega)) (x := { data := #[102, 97, 99, 116, 111, 114] }) (by decide) (rdV (.number c))
      have hkc := hmap.keepC ho6
      have hFA := (FA rfl).trans (hb6.mono hM)
      go_simp
      (try simp only [Act.put, List.setIfInBounds_toArray, List.set_cons_zero, List.set_cons_succ])
      exact hK.out _ _ ⟨_, _, _, _, _, _, _, _, _, _, _, _, _, _, _, _, _, _, _, _, _, _, rfl, rfl, (fun _ => hFA), (fun _ => ⟨M, rfl, fun _ => ⟨hM, _, _, hm6, (by simp only [Bool.toNat_false, Bool.toNat_true] at *; omega), (fun h => (if_neg (by decide)).trans (v0 h)), (fun h => (if_neg (by decide)).trans (v1 h)), (fun _ => if_pos rfl)⟩⟩), (fun h => by obtain ⟨c, e1, e2⟩ := R1 h; exact ⟨c, e1, fun h2 => by obtain ⟨u1, u2⟩ := e2 h2; exact ⟨u1, hkc _ _ _ _ u2⟩⟩), (fun h => by obtain ⟨c, e1, e2⟩ := R3 h; exact ⟨c, e1, fun h2 => by obtain ⟨u1, u2⟩ := e2 h2; exact ⟨u1, hkc _ _ _ _ u2⟩⟩), (fun _ => ⟨c, rfl, fun h2 => by obtain ⟨u1, u2⟩ := hc h2; exact ⟨u1, hkc _ _ _ _ u2⟩⟩), FM, (fun h => by obtain ⟨p, q, e1, e2⟩ := FK h; exact ⟨p, q, e1, fun h2 => by obtain ⟨u1, u2, ⟨M, u3, u4⟩, u5⟩ := e2 h2; exact ⟨u1, u2, ⟨M, u3, hkc _ _ _ _ u4⟩, hkc _ _ _ _ u5⟩⟩), FL, (fun h => by cases h), (fun h => by obtain ⟨f, e1, e2, e3⟩ := FF h; exact ⟨f, e1, e2, hkc _ _ _ _ e3⟩)⟩
    · have hu : b7 = false := ready_un hi
      have ht0 : b0 = true := (ready_dep hi 0 (by kernel_rfl))
      have ht1 : b1 = true := (ready_dep hi 1 (by kernel_rfl))
      have ht2 : b2 = true := (ready_dep hi 2 (by kernel_rfl))
      have ht3 : b3 = true := (ready_dep hi 3 (by kernel_rfl))
      have ht4 : b4 = true := (ready_dep hi 4 (by kernel_rfl))
      have ht5 : b5 = true := (ready_dep hi 5 (by kernel_rfl))
      have ht6 : b6 = true := (ready_dep hi 6 (by kernel_rfl))
      subst hu
      have hn8 : b8 = false := by
        cases hh : b8 with
        | false => rfl
        | true => exact Bool.noConfusion (show false = true from (hcl 8 7 (by kernel_rfl) (show _ = true from hh)))
      have hn10 : b10 = false := by
        cases hh : b10 with
        | false => rfl
        | true => exact Bool.noConfusion (show false = true from (hcl 8 7 (by kernel_rfl) (hcl 10 8 (by kernel_rfl) (show _ = true from hh))))
      have hn12 : b12 = false := by
        cases hh : b12 with
        | false => rfl
        | true => exact Bool.noConfusion (show false = true from (hcl 12 7 (by kernel_rfl) (show _ = true from hh)))
      subst ht0 ht1 ht2 ht3 ht4 ht5 ht6 hn8 hn10 hn12
      clear hi hlt hcl
      refine wpOp_lit rfl (by rfl) (fun K hK => ?_)
      go_simp
      (try simp only [Act.put, List.setIfInBounds_toArray, List.set_cons_zero, List.set_cons_succ])
      exact hK.out _ _ ⟨_, _, _, _, _, _, _, _, _, _, _, _, _, _, _, _, _, _, _, _, _, _, rfl, rfl, FA, F0, R1, R3, R5, (fun _ => rfl), (fun h => by cases h), FL, (fun h => by cases h), FF⟩
    · have hu : b8 = false := ready_un hi
      have ht0 : b0 = true := (hcl 7 0 (by kernel_rfl) (ready_dep hi 7 (by kernel_rfl)))
      have ht1 : b1 = true := (hcl 7 1 (by kernel_rfl) (ready_dep hi 7 (by kernel_rfl)))
      have ht2 : b2 = true := (hcl 7 2 (by kernel_rfl) (ready_dep hi 7 (by kernel_rfl)))
      have ht3 : b3 = true := (hcl 5 3 (by kernel_rfl) (ready_dep hi 5 (by kernel_rfl)))
      have ht4 : b4 = true := (hcl 7 4 (by kernel_rfl) (ready_dep hi 7 (by kernel_rfl)))
      have ht5 : b5 = true := (ready_dep hi 5 (by kernel_rfl))
      have ht6 : b6 = true := (hcl 7 6 (by kernel_rfl) (ready_dep hi 7 (by kernel_rfl)))
      have ht7 : b7 = true := (ready_dep hi 7 (by kernel_rfl))
      subst hu
      have hn10 : b10 = false := by
        cases hh : b10 with
        | false => rfl
        | true => exact Bool.noConfusion (show false = true from (hcl 10 8 (by kernel_rfl) (show _ = true from hh)))
      have hn12 : b12 = false := by
        cases hh : b12 with
        | false => rfl
        | true => exact Bool.noConfusion (show false = true from (hcl 12 8 (by kernel_rfl) (show _ = true from hh)))
      subst ht0 ht1 ht2 ht3 ht4 ht5 ht6 ht7 hn10 hn12
      clear hi hlt hcl
      refine wpOp_lit rfl (by rfl) (fun K hK => ?_)
      obtain ⟨M, rfl, hm⟩ := F0 rfl
      obtain rfl := FM rfl
      go_simp
      refine (mkKeys_any M none 0 0 W).mono ?_
      rintro e V ⟨p, q, rfl, hp1, hq1, hp2, hq2, hb⟩
      have hkc := KeepC.of_below hb
      have hFA := bthen (FA rfl) (Nat.le_refl _) hb
      have hsA := (FA rfl).size
      (skip)
      exact hK.out _ _ ⟨_, _, _, _, _, _, _, _, _, _, _, _, _, _, _, _, _, _, _, _, _, _, rfl, rfl, (fun _ => hFA), (fun _ => ⟨M, rfl, fun h2 => by obtain ⟨u1, n, g, u2, u3⟩ := hm h2; exact ⟨u1, n, g, u2.block (hb.block _ u2.lt), u3⟩⟩), (fun h => by obtain ⟨c, e1, e2⟩ := R1 h; exact ⟨c, e1, fun h2 => by obtain ⟨u1, u2⟩ := e2 h2; exact ⟨u1, hkc _ _ _ _ u2⟩⟩), (fun h => by obtain ⟨c, e1, e2⟩ := R3 h; exact ⟨c, e1, fun h2 => by obtain ⟨u1, u2⟩ := e2 h2; exact ⟨u1, hkc _ _ _ _ u2⟩⟩), (fun h => by obtain ⟨c, e1, e2⟩ := R5 h; exact ⟨c, e1, fun h2 => by obtain ⟨u1, u2⟩ := e2 h2; exact ⟨u1, hkc _ _ _ _ u2⟩⟩), (fun _ => rfl), (fun _ => ⟨p, q, rfl, fun _ => ⟨Nat.le_trans hsA hp1, Nat.le_trans hsA hq1, ⟨M, rfl, hp2⟩, hq2⟩⟩), FL, (fun h => by cases h), (fun h => by obtain ⟨f, e1, e2, e3⟩ := FF h; exact ⟨f, e1, e2, hkc _ _ _ _ e3⟩)⟩
    · have hu : b9 = false := ready_un hi
      subst hu
      have hn10 : b10 = false := by
        cases hh : b10 with
        | false => rfl
        | true => exact Bool.noConfusion (show false = true from (hcl 10 9 (by kernel_rfl) (show _ = true from hh)))
      have hn12 : b12 = false := by
        cases hh : b12 with
        | false => rfl
        | true => exact Bool.noConfusion (show false = true from (hcl 12 9 (by kernel_rfl) (show _ = true from hh)))
      subst hn10 hn12
      clear hi hlt hcl
      refine wpOp_lit rfl (by rfl) (fun K hK => ?_)
      obtain ⟨q0, q1, q2, q3, q4⟩ := cells5n (t := 34) (((FA rfl).block _ HLT3.out).trans HG3.out)
      go_simp
      clear q0 q1 q2 q3 q4
      (try simp only [Act.put, List.setIfInBounds_toArray, List.set_cons_zero, List.set_cons_succ])
      exact hK.out _ _ ⟨_, _, _, _, _, _, _, _, _, _, _, _, _, _, _, _, _, _, _, _, _, _, rfl, rfl, FA, F0, R1, R3, R5, FM, FK, (fun _ => rfl), (fun h => by cases h), FF⟩
    · have hu : b10 = false := ready_un hi
      have ht0 : b0 = true := (hcl 7 0 (by kernel_rfl) (hcl 8 7 (by kernel_rfl) (ready_dep hi 8 (by kernel_rfl))))
      have ht1 : b1 = true := (hcl 7 1 (by kernel_rfl) (hcl 8 7 (by kernel_rfl) (ready_dep hi 8 (by kernel_rfl))))
      have ht2 : b2 = true := (hcl 7 2 (by kernel_rfl) (hcl 8 7 (by kernel_rfl) (ready_dep hi 8 (by kernel_rfl))))
      have ht3 : b3 = true := (hcl 5 3 (by kernel_rfl) (hcl 8 5 (by kernel_rfl) (ready_dep hi 8 (by kernel_rfl))))
      have ht4 : b4 = true := (hcl 7 4 (by kernel_rfl) (hcl 8 7 (by kernel_rfl) (ready_dep hi 8 (by kernel_rfl))))
      have ht5 : b5 = true := (hcl 8 5 (by kernel_rfl) (ready_dep hi 8 (by kernel_rfl)))
      have ht6 : b6 = true := (hcl 7 6 (by kernel_rfl) (hcl 8 7 (by kernel_rfl) (ready_dep hi 8 (by kernel_rfl))))
      have ht7 : b7 = true := (hcl 8 7 (by kernel_rfl) (ready_dep hi 8 (by kernel_rfl)))
      have ht8 : b8 = true := (ready_dep hi 8 (by kernel_rfl))
      have ht9 : b9 = true := (ready_dep hi 9 (by kernel_rfl))
      subst hu
      have hn12 : b12 = false := by
        cases hh : b12 with
        | false => rfl
        | true => exact Bool.noConfusion (show false = true from (hcl 12 10 (by kernel_rfl) (show _ = true from hh)))
      subst ht0 ht1 ht2 ht3 ht4 ht5 ht6 ht7 ht8 ht9 hn12
      clear hi hlt hcl
      refine wpOp_lit rfl (by rfl) (fun K hK => ?_)
      obtain ⟨M, rfl, hm⟩ := F0 rfl
      obtain ⟨hM, n, g, hmap, hn, v0, v1, v2⟩ := hm rfl
      obtain rfl := FM rfl
      obtain ⟨p, q, rfl, hpq⟩ := FK rfl
      obtain ⟨hp1, hq1, ⟨M', hM', hp2⟩, hq2⟩ := hpq rfl
      cases hM'
      obtain rfl := FL rfl
      obtain ⟨c1, rfl, hc1⟩ := R1 rfl
      obtain ⟨ha1, hb1⟩ := hc1 rfl
      obtain ⟨c3, rfl, hc3⟩ := R3 rfl
      obtain ⟨ha3, hb3⟩ := hc3 rfl
      obtain ⟨c5, rfl, hc5⟩ := R5 rfl
      obtain ⟨ha5, hb5⟩ := hc5 rfl
      have hv0 := v0 rfl
      have hv1 := v1 rfl
      have hv2 := v2 rfl
      have hfa := FA rfl
      have hsW := hfa.size
      have hz3 := HSZ3.out
      have hw0 := HW3.out.size
      have hM' := hmap.lt
      have hpl := (Array.getElem?_eq_some_iff.1 hp2).1
      have hql := (Array.getElem?_eq_some_iff.1 hq2).1
      have HCALL := keys1_any (fun j => j = (w.heap.size + 2) ∨ j = (w.heap.size + 2 + 1) ∨ j = (w.heap.size + 2 + 1 + 1)) t [.int .u8 (t.kind : Int), .string t.text, .slice ka t.keys.length kc, .slice ba t.kids.length bc, .int .i64 t.line] p q M n g (.slice none 0 0) [] (InvR (w.heap.size + 2) (w.heap.size + 2 + 1) (w.heap.size + 2 + 1 + 1) c1 c3 c5 a b c) w0 W HN.out (HW3.out.trans (hfa.mono hw0)) (by rw [HT.out]; rfl) (by rw [HT.out]; rfl) (by rw [HT.out]; show 3 ≤ 1000; omega) (by rintro j (h | h | h) <;> omega) (by rintro (h | h | h) <;> omega) (by rintro (h | h | h) <;> omega) hp2 (by rintro (h | h | h) <;> omega) hq2 (by rintro (h | h | h) <;> omega) hmap (by rintro (h | h | h) <;> omega) (RdS.of_owns (World.ownsRow_nil W 0 9 1)) (fun h => absurd rfl h) (fun k hk => by cases hk) (by decide)
        (invR_keep (by have := (Array.getElem?_eq_some_iff.1 hb1).1; have := (Array.getElem?_eq_some_iff.1 hb3).1; have := (Array.getElem?_eq_some_iff.1 hb5).1; omega)) (by rw [HT.out]; exact invR_reads HA.out HB.out HC.out hv0 hv1 hv2 (by omega)) ⟨(hfa.block _ (by omega)).trans HI4.out, (hfa.block _ (by omega)).trans HI5.out, (hfa.block _ (by omega)).trans HI6.out, hb1, hb3, hb5⟩
      dsimp only [keysV]
      go_simp
      refine HCALL.mono ?_
      rintro e V ⟨rfl, hinv, ht⟩
      have hk3 : t.kids.length = 3 := by rw [HT.out]; rfl
      rw [hk3] at hinv
      unfold zeroF
      have hfn : FinR w3.drew (w.heap.size + 2) (w.heap.size + 2 + 1) (w.heap.size + 2 + 1 + 1) a b c V := ⟨hinv.i4, hinv.i5, hinv.i6, (TurnS.of_below hfa).trans ht⟩
      have hFF : b11 = true → ∃ f, x7 = .pointer (some ⟨f, 0, none⟩) ∧ w3.drew.heap.size ≤ f ∧ V.heap[f]? = some (.cells #[.int .i64 0, .int .i64 0] 29 (0, 0)) := fun h => by
        obtain ⟨f, e1, e2, e3⟩ := FF h
        exact ⟨f, e1, e2, (ht.block _ (Array.getElem?_eq_some_iff.1 e3).1 (by rintro (h | h | h) <;> omega)).trans e3⟩
      (skip)
      exact hK.out _ _ ⟨_, _, _, _, _, _, _, _, _, _, _, _, _, _, _, _, _, _, _, _, _, _, rfl, rfl, (fun h => by cases h), (fun _ => ⟨M, rfl, fun h => by cases h⟩), (fun _ => ⟨c1, rfl, fun h => by cases h⟩), (fun _ => ⟨c3, rfl, fun h => by cases h⟩), (fun _ => ⟨c5, rfl, fun h => by cases h⟩), (fun _ => rfl), (fun _ => ⟨p, q, rfl, fun h => by cases h⟩), (fun _ => rfl), (fun _ => ⟨rfl, hfn⟩), hFF⟩
    · have hu : b11 = false := ready_un hi
      subst hu
      have hn12 : b12 = false := by
        cases hh : b12 with
        | false => rfl
        | true => exact Bool.noConfusion (show false = true from (hcl 12 11 (by kernel_rfl) (show _ = true from hh)))
      subst hn12
      clear hi hlt hcl
      refine wpOp_lit rfl (by rfl) (fun K hK => ?_)
      have hb : Below W.heap.size W (W.alloc (.cells #[.int .i64 0, .int .i64 0] 29)) := (Below.refl _ _).alloc (Nat.le_refl _) _
      have hkc := KeepC.of_below hb
      have hnew := World.alloc_heap_new W (.cells #[.int .i64 0, .int .i64 0] 29)
      have hle : w3.drew.heap.size ≤ W.heap.size := by
        cases b10 with
        | false => exact (FA rfl).size
        | true => exact (FC rfl).2.turn.size
      go_simp
      (try simp only [Act.put, List.setIfInBounds_toArray, List.set_cons_zero, List.set_cons_succ])
      exact hK.out _ _ ⟨_, _, _, _, _, _, _, _, _, _, _, _, _, _, _, _, _, _, _, _, _, _, rfl, rfl, (fun h => bthen (FA h) (Nat.le_refl _) hb), (fun h => by obtain ⟨M, e1, e2⟩ := F0 h; exact ⟨M, e1, fun h2 => by obtain ⟨u1, n, g, u2, u3⟩ := e2 h2; exact ⟨u1, n, g, u2.block (hb.block _ u2.lt), u3⟩⟩), (fun h => by obtain ⟨c, e1, e2⟩ := R1 h; exact ⟨c, e1, fun h2 => by obtain ⟨u1, u2⟩ := e2 h2; exact ⟨u1, hkc _ _ _ _ u2⟩⟩), (fun h => by obtain ⟨c, e1, e2⟩ := R3 h; exact ⟨c, e1, fun h2 => by obtain ⟨u1, u2⟩ := e2 h2; exact ⟨u1, hkc _ _ _ _ u2⟩⟩), (fun h => by obtain ⟨c, e1, e2⟩ := R5 h; exact ⟨c, e1, fun h2 => by obtain ⟨u1, u2⟩ := e2 h2; exact ⟨u1, hkc _ _ _ _ u2⟩⟩), FM, (fun h => by obtain ⟨p, q, e1, e2⟩ := FK h; exact ⟨p, q, e1, fun h2 => by obtain ⟨u1, u2, ⟨M, u3, u4⟩, u5⟩ := e2 h2; exact ⟨u1, u2, ⟨M, u3, hkc _ _ _ _ u4⟩, hkc _ _ _ _ u5⟩⟩), FL, (fun h => ⟨(FC h).1, ((FC h).2.alloc _)⟩), (fun _ => ⟨_, rfl, hle, hnew⟩)⟩
    · have hu : b12 = false := ready_un hi
      have ht0 : b0 = true := (ready_dep hi 0 (by kernel_rfl))
      have ht1 : b1 = true := (ready_dep hi 1 (by kernel_rfl))
      have ht2 : b2 = true := (ready_dep hi 2 (by kernel_rfl))
      have ht3 : b3 = true := (ready_dep hi 3 (by kernel_rfl))
      have ht4 : b4 = true := (ready_dep hi 4 (by kernel_rfl))
      have ht5 : b5 = true := (ready_dep hi 5 (by kernel_rfl))
      have ht6 : b6 = true := (ready_dep hi 6 (by kernel_rfl))
      have ht7 : b7 = true := (ready_dep hi 7 (by kernel_rfl))
      have ht8 : b8 = true := (ready_dep hi 8 (by kernel_rfl))
      have ht9 : b9 = true := (ready_dep hi 9 (by kernel_rfl))
      have ht10 : b10 = true := (ready_dep hi 10 (by kernel_rfl))
      have ht11 : b11 = true := (ready_dep hi 11 (by kernel_rfl))
      subst hu
      subst ht0 ht1 ht2 ht3 ht4 ht5 ht6 ht7 ht8 ht9 ht10 ht11
      clear hi hlt hcl
      refine wpOp_lit rfl (by rfl) (fun K hK => ?_)
      obtain ⟨f, rfl, hf1, hf2⟩ := FF rfl
      obtain ⟨rfl, hfin⟩ := FC rfl
      obtain ⟨y0, y1, y2, y3⟩ := cells2 hf2
      have hset := two_set (x := .int .i64 0) (y := .int .i64 0) hf2
      have hz3 := HSZ3.out
      have hfn2 := hfin.set (f := f) hf1 (by omega)
      replace F0 := Lib.hid F0
      replace FM := Lib.hid FM
      replace FL := Lib.hid FL
      replace FK := Lib.hid FK
      replace R1 := Lib.hid R1
      replace R3 := Lib.hid R3
      replace R5 := Lib.hid R5
      go_simp
      replace F0 := F0.out
      replace FM := FM.out
      replace FL := FL.out
      replace FK := FK.out
      replace R1 := R1.out
      replace R3 := R3.out
      replace R5 := R5.out
      (try simp only [Act.put, List.setIfInBounds_toArray, List.set_cons_zero, List.set_cons_succ])
      exact hK.out _ _ ⟨_, _, _, _, _, _, _, _, _, _, _, _, _, _, _, _, _, _, _, _, _, _, rfl, rfl, (fun h => by cases h), (fun h => by obtain ⟨M, e1, e2⟩ := F0 h; exact ⟨M, e1, fun h => by cases h⟩), (fun h => by obtain ⟨c, e1, e2⟩ := R1 h; exact ⟨c, e1, fun h => by cases h⟩), (fun h => by obtain ⟨c, e1, e2⟩ := R3 h; exact ⟨c, e1, fun h => by cases h⟩), (fun h => by obtain ⟨c, e1, e2⟩ := R5 h; exact ⟨c, e1, fun h => by cases h⟩), FM, (fun h => by obtain ⟨p, q, e1, e2⟩ := FK h; exact ⟨p, q, e1, fun h => by cases h⟩), FL, (fun _ => ⟨rfl, hfn2⟩), (fun _ => ⟨_, rfl, hf1, hset⟩)⟩
  case fdone =>
    rintro listed act0 W - hall ⟨b0, b1, b2, b3, b4, b5, b6, b7, b8, b9, b10, b11, b12, x7, x8, x9, x10, x11, x12, x13, x14, x15, rfl, rfl, FA, F0, R1, R3, R5, FM, FK, FL, FC, FF⟩
    obtain rfl : b0 = true := hall 0 (by decide)
    obtain rfl : b1 = true := hall 1 (by decide)
    obtain rfl : b2 = true := hall 2 (by decide)
    obtain rfl : b3 = true := hall 3 (by decide)
    obtain rfl : b4 = true := hall 4 (by decide)
    obtain rfl : b5 = true := hall 5 (by decide)
    obtain rfl : b6 = true := hall 6 (by decide)
    obtain rfl : b7 = true := hall 7 (by decide)
    obtain rfl : b8 = true := hall 8 (by decide)
    obtain rfl : b9 = true := hall 9 (by decide)
    obtain rfl : b10 = true := hall 10 (by decide)
    obtain rfl : b11 = true := hall 11 (by decide)
    obtain rfl : b12 = true := hall 12 (by decide)
    clear hall
    obtain ⟨f, rfl, hf1, hf2⟩ := FF rfl
    obtain ⟨rfl, hfin⟩ := FC rfl
    obtain ⟨M, rfl, -⟩ := F0 rfl
    obtain rfl := FM rfl
    obtain rfl := FL rfl
    obtain ⟨kp, kq, rfl, -⟩ := FK rfl
    obtain ⟨c1, rfl, -⟩ := R1 rfl
    obtain ⟨c3, rfl, -⟩ := R3 rfl
    obtain ⟨c5, rfl, -⟩ := R5 rfl
    clear FA F0 R1 R3 R5 FM FK FL FC FF
    rename World => W5
    have hz3 := HSZ3.out
    have ht := hfin.turn
    have hp5 := (ht.block p0 (by omega) (by rintro (h | h | h) <;> omega)).trans ((HBW.out.block p0 hltp).trans HPP.out)
    have hB5 := (ht.block B (by omega) (by rintro (h | h | h) <;> omega)).trans ((HBW.out.block B hltB).trans HBB.out)
    have hr5 := (ht.block (w.heap.size + 1) (by omega) (by rintro (h | h | h) <;> omega)).trans HR3.out
    have HR5 := Lib.hid hr5
    have HB5 := Lib.hid hB5
    have HF5 := Lib.hid hf2
    have HT5 : Hid (TurnS (fun j => j = B) w W5) := Lib.hid ((TurnS.of_below HBW.out).new ht (by rintro j (h | h | h) hlt <;> omega))
    obtain ⟨m0, -⟩ := cell1n hp5
    obtain ⟨i4, -⟩ := cell1n hfin.i4
    obtain ⟨i5, -⟩ := cell1n hfin.i5
    obtain ⟨i6, -⟩ := cell1n hfin.i6
    obtain ⟨d0, d1, d2, k0, k1, k2⟩ := cells3h hB5
    clear hp5 hB5 hr5 hf2 ht hfin
    go_upto_region 4 with fail
    have hset := set3d (x := .int .i64 a) (y := .int .i64 b) (z := .int .i64 c) HB5.out
    have hrB : w.heap.size + 1 ≠ B := by omega
    have hfB : f ≠ B := by omega
    have hot : ∀ k, k ≠ B → (((W5.setCell ⟨B, 0, none⟩ (.int .i64 a)).setCell ⟨B, 1, none⟩ (.int .i64 b)).setCell ⟨B, 2, none⟩ (.int .i64 c)).heap[k]? = W5.heap[k]? := fun k hk => by rw [Below.heap_setCell _ _ _ _ hk, Below.heap_setCell _ _ _ _ hk, Below.heap_setCell _ _ _ _ hk]
    have ht6 : TurnS (fun j => j = B) w (((W5.setCell ⟨B, 0, none⟩ (.int .i64 a)).setCell ⟨B, 1, none⟩ (.int .i64 b)).setCell ⟨B, 2, none⟩ (.int .i64 c)) := ((TurnS.setCell (S := fun j => j = B) HT5.out (p := ⟨B, 0, none⟩) (fun _ => rfl) _).setCell (p := ⟨B, 1, none⟩) (fun _ => rfl) _).setCell (p := ⟨B, 2, none⟩) (fun _ => rfl) _
    have hr6 := (hot _ hrB).trans HR5.out
    have hf6 := (hot _ hfB).trans HF5.out
    clear m0 i4 i5 i6 d0 d1 d2 k0 k1 k2 hot
    generalize ((W5.setCell ⟨B, 0, none⟩ (.int .i64 a)).setCell ⟨B, 1, none⟩ (.int .i64 b)).setCell ⟨B, 2, none⟩ (.int .i64 c) = w6 at *
    obtain ⟨y0, y1, -, -⟩ := cells2 hf6
    obtain ⟨x0, x1, x2, x3⟩ := cells2 hr6
    have HR6 := Lib.hid hr6
    have HB6 := Lib.hid hset
    have HT6 := Lib.hid ht6
    clear hf6 hr6 hset ht6
    go_wp2_with fail
    have hset := two_set (x := .int .i64 0) (y := .int .i64 0) HR6.out
    have hneR : B ≠ w.heap.size + 1 := by omega
    have hb8 : ((w6.setCell ⟨w.heap.size + 1, 0, none⟩ (.int .i64 0)).setCell ⟨w.heap.size + 1, 1, none⟩ (.int .i64 0)).heap[B]? = some (.cells #[.int .i64 a, .int .i64 b, .int .i64 c] 43 (0, 0)) := by
      rw [Below.heap_setCell _ _ _ _ hneR, Below.heap_setCell _ _ _ _ hneR]; exact HB6.out
    have ht8 : TurnS (fun j => j = B) w ((w6.setCell ⟨w.heap.size + 1, 0, none⟩ (.int .i64 0)).setCell ⟨w.heap.size + 1, 1, none⟩ (.int .i64 0)) := (HT6.out.setCell (p := ⟨w.heap.size + 1, 0, none⟩) (fun h => absurd h (by simp)) _).setCell (p := ⟨w.heap.size + 1, 1, none⟩) (fun h => absurd h (by simp)) _
    clear x0 x1 x2 x3 y0 y1
    generalize (w6.setCell ⟨w.heap.size + 1, 0, none⟩ (.int .i64 0)).setCell ⟨w.heap.size + 1, 1, none⟩ (.int .i64 0) = w9 at *
    obtain ⟨z0, z1, -, -⟩ := cells2 hset
    refine bodyPost_ret (v := zeroF) (by unfold zeroF; simp [results, Try.results64, go_sem, z0, z1]) rfl ⟨rfl, hb8, ht8⟩
end Go.Proofs.Ytgafjjgnbcjmpaa

/-
  parse.step: the plain part; what the readers keep, what each does.
-/
namespace Go.Proofs.Ytgafjjgnbcjmpaa
open Go Go.RowKit Go.Maps Go.WideShapes

/-- What a step must be to be read. -/
structure StepP (s : StepD) : Prop where
  name : c64 s.name = 0
  action : c64 s.action = 0
  undo : c64 s.undo = 0
  after : ∀ x ∈ s.after, c64 x = 0
  alen : s.after.length ≤ 64
  most : 0 ≤ s.most ∧ s.most ≤ 999999999
  first : 0 ≤ s.first ∧ s.first ≤ 999999999
  factor : 0 ≤ s.factor ∧ s.factor ≤ 999999999
  limit : 0 ≤ s.limit ∧ s.limit ≤ 999999999
  note : hasNote s = true → checkT s.note = 0 ∧ depthT 18 s.note ≤ 13
  small : SmallP 18 s.note
theorem stepC_len {s : StepD} (h : stepC s = 0) : s.after.length ≤ 64 := by
  unfold stepC at h
  split at h
  · rename_i h1; exact absurd h h1
  · split at h
    · cases h
    · omega
theorem stepP_of {s : StepD} (h : stepC s = 0) (hs : SmallS s) : StepP s := by
  have hf := stepC_fine h
  have hr : ∀ x ∈ [s.most, s.first, s.factor, s.limit], 0 ≤ x ∧ x ≤ 999999999 := fun x hx => by
    have := List.all_eq_true.1 hf.fits x hx
    simpa using this
  refine ⟨hf.texts _ (by simp), hf.texts _ (by simp), hf.texts _ (by simp), hf.after, stepC_len h, hr _ (by simp), hr _ (by simp), hr _ (by simp), hr _ (by simp), fun hn => ?_, hs.note⟩
  rcases hf.note with h1 | h1
  · unfold hasNote at hn
    rw [h1] at hn
    cases hn
  · exact h1
def zeroTree : Tree := .mk 0 { data := #[] } [] [] 0
def zeroStep : StepD := ⟨{ data := #[] }, { data := #[] }, { data := #[] }, [], 0, 0, 0, 0, zeroTree⟩
/-- A step as it is read: no note is a note of nothing. -/
def normS (s : StepD) : StepD := { s with note := if hasNote s then s.note else zeroTree }
def updS (s σ : StepD) (key : ByteArray) : StepD :=
  if key = sName then { σ with name := s.name }
  else if key = sAction then { σ with action := s.action }
  else if key = sUndo then { σ with undo := s.undo }
  else if key = sAfter then { σ with after := s.after }
  else if key = sRetry then { σ with most := s.most, first := s.first, factor := s.factor }
  else if key = sLimit then { σ with limit := s.limit }
  else { σ with note := s.note }
theorem updS_0 (s σ : StepD) : updS s σ sName = { σ with name := s.name } := by unfold updS; rw [if_pos rfl]
theorem updS_1 (s σ : StepD) : updS s σ sAction = { σ with action := s.action } := by unfold updS; rw [if_neg (by decide), if_pos rfl]
theorem updS_2 (s σ : StepD) : updS s σ sUndo = { σ with undo := s.undo } := by unfold updS; rw [if_neg (by decide), if_neg (by decide), if_pos rfl]
theorem updS_3 (s σ : StepD) : updS s σ sAfter = { σ with after := s.after } := by unfold updS; rw [if_neg (by decide), if_neg (by decide), if_neg (by decide), if_pos rfl]
theorem updS_4 (s σ : StepD) : updS s σ sRetry = { σ with most := s.most, first := s.first, factor := s.factor } := by unfold updS; rw [if_neg (by decide), if_neg (by decide), if_neg (by decide), if_neg (by decide), if_pos rfl]
theorem updS_5 (s σ : StepD) : updS s σ sLimit = { σ with limit := s.limit } := by unfold updS; rw [if_neg (by decide), if_neg (by decide), if_neg (by decide), if_neg (by decide), if_neg (by decide), if_pos rfl]
theorem updS_6 (s σ : StepD) : updS s σ sNote = { σ with note := s.note } := by unfold updS; rw [if_neg (by decide), if_neg (by decide), if_neg (by decide), if_neg (by decide), if_neg (by decide), if_neg (by decide)]
/-- What has been read behind the first i keys. -/
def stS (s : StepD) (i : Nat) : StepD := ((stepKs s).take i).foldl (updS s) zeroStep
theorem stS_zero (s : StepD) : stS s 0 = zeroStep := rfl
theorem stS_succ (s : StepD) {i : Nat} {key : ByteArray} (h : (stepKs s)[i]? = some key) : stS s (i + 1) = updS s (stS s i) key := by
  obtain ⟨hi, rfl⟩ := List.getElem?_eq_some_iff.1 h
  unfold stS
  rw [List.take_succ_eq_append_getElem hi, List.foldl_append]
  rfl
theorem foldl_consIf {α β : Type} (f : β → α → β) (z : β) (b : Bool) (l : List α) (x : α) : (consIf b l x).foldl f z = if b then f (l.foldl f z) x else l.foldl f z := by
  cases b
  · rfl
  · simp [consIf]
theorem bytes_empty {x : ByteArray} (h : (!x.toList.isEmpty) = false) : x = { data := #[] } := by
  have h1 : x.toList.isEmpty = true := by simpa using h
  rw [str_empty, decide_eq_true_eq] at h1
  obtain ⟨d⟩ := x
  have : d = #[] := Array.eq_empty_of_size_eq_zero h1
  rw [this]
theorem stS_all (s : StepD) : stS s (stepKs s).length = normS s := by
  unfold stS
  rw [List.take_length]
  unfold stepKs
  simp only [foldl_consIf, List.foldl_cons, List.foldl_nil, updS_0, updS_1, updS_2, updS_3, updS_4, updS_5, updS_6]
  have hu : hasUndo s = false → s.undo = { data := #[] } := fun h => bytes_empty h
  have ha : hasAfter s = false → s.after = [] := fun h => by unfold hasAfter at h; simpa using h
  have hr : hasRetry s = false → s.most = 0 ∧ s.first = 0 ∧ s.factor = 0 := fun h => by unfold hasRetry at h; simp at h; exact ⟨h.1.1, h.1.2, h.2⟩
  have hl : hasLimit s = false → s.limit = 0 := fun h => by unfold hasLimit at h; simpa using h
  unfold normS
  generalize hasNote s = b1
  generalize hasLimit s = b2 at *
  generalize hasRetry s = b3 at *
  generalize hasAfter s = b4 at *
  generalize hasUndo s = b5 at *
  obtain ⟨x0, x1, x2, x3, x4, x5, x6, x7, x8⟩ := s
  dsimp only at hu ha hr hl ⊢
  unfold zeroStep
  cases b1 <;> cases b2 <;> cases b3 <;> cases b4 <;> cases b5 <;> simp_all
theorem consIf_get {α β : Type} {b : Bool} {l : List α} {m : List β} {x : α} {y : β} (hl : l.length = m.length) {i : Nat} {a : α} {c : β} (h1 : (consIf b l x)[i]? = some a) (h2 : (consIf b m y)[i]? = some c) : (l[i]? = some a ∧ m[i]? = some c) ∨ (b = true ∧ a = x ∧ c = y) := by
  cases b
  · exact .inl ⟨h1, h2⟩
  · unfold consIf at h1 h2
    simp only [if_true] at h1 h2
    by_cases hi : i < l.length
    · rw [List.getElem?_append_left hi] at h1
      rw [List.getElem?_append_left (by omega)] at h2
      exact .inl ⟨h1, h2⟩
    · rw [List.getElem?_append_right (by omega)] at h1
      rw [List.getElem?_append_right (by omega), ← hl] at h2
      obtain ⟨j, hj⟩ : ∃ j, i - l.length = j := ⟨_, rfl⟩
      rw [hj] at h1 h2
      cases j with
      | zero => cases h1; cases h2; exact .inr ⟨rfl, rfl, rfl⟩
      | succ j => cases h1
theorem step_pairs (s : StepD) {i : Nat} {key : ByteArray} {kid : Tree} (h1 : (stepKs s)[i]? = some key) (h2 : (stepCs s)[i]? = some kid) :
    (key = sName ∧ kid = scalarT s.name) ∨ (key = sAction ∧ kid = scalarT s.action) ∨ (key = sUndo ∧ kid = scalarT s.undo) ∨ (key = sAfter ∧ kid = seqT (s.after.map scalarT)) ∨ (key = sRetry ∧ kid = retryT s.most s.first s.factor) ∨ (key = sLimit ∧ kid = numT s.limit) ∨ (hasNote s = true ∧ key = sNote ∧ kid = s.note) := by
  unfold stepKs at h1
  unfold stepCs at h2
  rcases consIf_get (by exact consIf_lens _ _ _ (consIf_lens _ _ _ (consIf_lens _ _ _ (consIf_lens _ _ _ rfl)))) h1 h2 with ⟨h1, h2⟩ | ⟨h0, ha, hc⟩
  · rcases consIf_get (by exact consIf_lens _ _ _ (consIf_lens _ _ _ (consIf_lens _ _ _ rfl))) h1 h2 with ⟨h1, h2⟩ | ⟨_, ha, hc⟩
    · rcases consIf_get (by exact consIf_lens _ _ _ (consIf_lens _ _ _ rfl)) h1 h2 with ⟨h1, h2⟩ | ⟨_, ha, hc⟩
      · rcases consIf_get (by exact consIf_lens _ _ _ rfl) h1 h2 with ⟨h1, h2⟩ | ⟨_, ha, hc⟩
        · rcases consIf_get (l := [sName, sAction]) (m := [scalarT s.name, scalarT s.action]) rfl h1 h2 with ⟨h1, h2⟩ | ⟨_, ha, hc⟩
          · rcases i with _ | _ | i
            · cases h1; cases h2; exact .inl ⟨rfl, rfl⟩
            · cases h1; cases h2; exact .inr (.inl ⟨rfl, rfl⟩)
            · cases h1
          · exact .inr (.inr (.inl ⟨ha, hc⟩))
        · exact .inr (.inr (.inr (.inl ⟨ha, hc⟩)))
      · exact .inr (.inr (.inr (.inr (.inl ⟨ha, hc⟩))))
    · exact .inr (.inr (.inr (.inr (.inr (.inl ⟨ha, hc⟩)))))
  · exact .inr (.inr (.inr (.inr (.inr (.inr ⟨h0, ha, hc⟩)))))
/-- The boxes that a step's readers write. -/
structure BoxS (n0 n1 n2 n3 n4 n5 n6 E : Nat) (σ : StepD) (W : World) : Prop where
  name : W.heap[n0]? = some (.cells #[.string σ.name] 9 (0, 0))
  action : W.heap[n1]? = some (.cells #[.string σ.action] 9 (0, 0))
  undo : W.heap[n2]? = some (.cells #[.string σ.undo] 9 (0, 0))
  after : ∃ va vc, W.heap[n3]? = some (.cells #[.slice va σ.after.length vc] 31 (0, 0)) ∧ W.ownsRow E 9 1 (.slice va σ.after.length vc) σ.after.length (strsV σ.after)
  tries : W.heap[n4]? = some (.cells #[.int .i64 σ.most, .int .i64 σ.first, .int .i64 σ.factor] 43 (0, 0))
  limit : W.heap[n5]? = some (.cells #[.int .i64 σ.limit] 3 (0, 0))
  note : ∃ e0 e1 e2 e3 e4, W.heap[n6]? = some (.cells #[e0, e1, e2, e3, e4] 34 (0, 0)) ∧ NodeO W (fun b => E ≤ b) [e0, e1, e2, e3, e4] σ.note
/-- The boxes that they have. -/
structure ClsS (n0 n1 n2 n3 n4 n5 n6 c0 q0 c1 q1 c2 q2 c3 c4 c5 c6 : Nat) (W : World) : Prop where
  t0 : W.heap[c0]? = some (.cells #[.pointer (some ⟨n0, 0, none⟩)] 68 (0, 0))
  m0 : W.heap[q0]? = some (.cells #[.int .i64 64] 3 (0, 0))
  t1 : W.heap[c1]? = some (.cells #[.pointer (some ⟨n1, 0, none⟩)] 68 (0, 0))
  m1 : W.heap[q1]? = some (.cells #[.int .i64 64] 3 (0, 0))
  t2 : W.heap[c2]? = some (.cells #[.pointer (some ⟨n2, 0, none⟩)] 68 (0, 0))
  m2 : W.heap[q2]? = some (.cells #[.int .i64 64] 3 (0, 0))
  p3 : W.heap[c3]? = some (.cells #[.pointer (some ⟨n3, 0, none⟩)] 86 (0, 0))
  p4 : W.heap[c4]? = some (.cells #[.pointer (some ⟨n4, 0, none⟩)] 88 (0, 0))
  p5 : W.heap[c5]? = some (.cells #[.pointer (some ⟨n5, 0, none⟩)] 77 (0, 0))
  p6 : W.heap[c6]? = some (.cells #[.pointer (some ⟨n6, 0, none⟩)] 53 (0, 0))
theorem ClsS.keep {n0 n1 n2 n3 n4 n5 n6 c0 q0 c1 q1 c2 q2 c3 c4 c5 c6 : Nat} {W W' : World} (h : ClsS n0 n1 n2 n3 n4 n5 n6 c0 q0 c1 q1 c2 q2 c3 c4 c5 c6 W) (hk : ∀ (j : Nat) (ob : Obj), (j = c0 ∨ j = q0 ∨ j = c1 ∨ j = q1 ∨ j = c2 ∨ j = q2 ∨ j = c3 ∨ j = c4 ∨ j = c5 ∨ j = c6) → W.heap[j]? = some ob → W'.heap[j]? = some ob) : ClsS n0 n1 n2 n3 n4 n5 n6 c0 q0 c1 q1 c2 q2 c3 c4 c5 c6 W' :=
  ⟨hk _ _ (by simp) h.t0, hk _ _ (by simp) h.m0, hk _ _ (by simp) h.t1, hk _ _ (by simp) h.m1, hk _ _ (by simp) h.t2, hk _ _ (by simp) h.m2, hk _ _ (by simp) h.p3, hk _ _ (by simp) h.p4, hk _ _ (by simp) h.p5, hk _ _ (by simp) h.p6⟩
def InvS (n0 n1 n2 n3 n4 n5 n6 c0 q0 c1 q1 c2 q2 c3 c4 c5 c6 E : Nat) (s : StepD) (i : Nat) (W : World) : Prop := BoxS n0 n1 n2 n3 n4 n5 n6 E (stS s i) W ∧ ClsS n0 n1 n2 n3 n4 n5 n6 c0 q0 c1 q1 c2 q2 c3 c4 c5 c6 W
theorem BoxS.keep {n0 n1 n2 n3 n4 n5 n6 E : Nat} {σ : StepD} {W W' : World} (h : BoxS n0 n1 n2 n3 n4 n5 n6 E σ W) (hk : ∀ (j : Nat) (ob : Obj), (j = n0 ∨ j = n1 ∨ j = n2 ∨ j = n3 ∨ j = n4 ∨ j = n5 ∨ j = n6 ∨ E ≤ j) → W.heap[j]? = some ob → W'.heap[j]? = some ob) : BoxS n0 n1 n2 n3 n4 n5 n6 E σ W' := by
  have hkb : ∀ b, E ≤ b → b < W.heap.size → W'.heap[b]? = W.heap[b]? := fun b hb hl => by
    have h1 := Array.getElem?_eq_getElem hl
    rw [h1]
    exact hk b _ (by simp [hb]) h1
  obtain ⟨h0, h1, h2, ⟨va, vc, h3, h4⟩, h5, h6, ⟨e0, e1, e2, e3, e4, h7, h8⟩⟩ := h
  exact ⟨hk _ _ (by simp) h0, hk _ _ (by simp) h1, hk _ _ (by simp) h2, ⟨va, vc, hk _ _ (by simp) h3, ownsRow_keepB h4 (fun g hg => hkb g (World.ownsRow.lt h4 g hg).1 (World.ownsRow.lt h4 g hg).2)⟩, hk _ _ (by simp) h5, hk _ _ (by simp) h6, ⟨e0, e1, e2, e3, e4, hk _ _ (by simp) h7, h8.keep (fun g hg hl => hkb g hg hl) (fun _ h => h)⟩⟩
theorem readsS {n0 n1 n2 n3 n4 n5 n6 c0 q0 c1 q1 c2 q2 c3 c4 c5 c6 E : Nat} {s : StepD} {w0 : World} {g : ByteArray → Option Value} {S : Nat → Prop} (hp : StepP s)
    (h0 : g sName = some (rdV (.text c0 q0))) (h1 : g sAction = some (rdV (.text c1 q1))) (h2 : g sUndo = some (rdV (.text c2 q2))) (h3 : g sAfter = some (rdV (.names c3))) (h4 : g sRetry = some (rdV (.retry c4))) (h5 : g sLimit = some (rdV (.number c5))) (h6 : g sNote = some (rdV (.note c6)))
    (hd : n0 < n1 ∧ n1 < n2 ∧ n2 < n3 ∧ n3 < n4 ∧ n4 < n5 ∧ n5 < n6 ∧ n6 < E) (hlo : w0.heap.size ≤ n0) (hC : ∀ j, (j = c0 ∨ j = q0 ∨ j = c1 ∨ j = q1 ∨ j = c2 ∨ j = q2 ∨ j = c3 ∨ j = c4 ∨ j = c5 ∨ j = c6) → n6 < j) (hS : ∀ j, (j = n0 ∨ j = n1 ∨ j = n2 ∨ j = n3 ∨ j = n4 ∨ j = n5 ∨ j = n6) → S j) : Reads S w0.heap.size E w0 (stepT s) g (InvS n0 n1 n2 n3 n4 n5 n6 c0 q0 c1 q1 c2 q2 c3 c4 c5 c6 E s) := by
  intro i kid key hkid hkey
  rcases step_pairs s hkey hkid with ⟨rfl, rfl⟩ | ⟨rfl, rfl⟩ | ⟨rfl, rfl⟩ | ⟨rfl, rfl⟩ | ⟨rfl, rfl⟩ | ⟨rfl, rfl⟩ | ⟨hnote, rfl, rfl⟩
  · refine ⟨_, h0, fun V cs hi hN _ hn => ?_⟩
    obtain ⟨hbx, hcl⟩ := hi
    have hbk := hbx
    refine (text1_any (scalarT s.name) cs c0 q0 n0 64 _ w0 V hn rfl hp.name hcl.t0 hcl.m0 hbk.name).mono ?_
    rintro e w' ⟨rfl, hnew, ht⟩
    have K : ∀ (j : Nat) (ob : Obj), V.heap[j]? = some ob → j ≠ n0 → w'.heap[j]? = some ob := fun j ob ho hj => (ht.block j (Array.getElem?_eq_some_iff.1 ho).1 hj).trans ho
    have KB : ∀ b, E ≤ b → b < V.heap.size → w'.heap[b]? = V.heap[b]? := fun b hb hl => ht.block b hl (by omega)
    obtain ⟨b0, b1, b2, ⟨va, vc, b3, b3o⟩, b4, b5, ⟨e0, e1, e2, e3, e4, b6, b6n⟩⟩ := hbx
    refine ⟨rfl, ⟨by rw [stS_succ s hkey, updS_0]; exact ⟨hnew, K _ _ b1 (by omega), K _ _ b2 (by omega), ⟨va, vc, K _ _ b3 (by omega), ownsRow_keepB b3o (fun g hg => KB g (World.ownsRow.lt b3o g hg).1 (World.ownsRow.lt b3o g hg).2)⟩, K _ _ b4 (by omega), K _ _ b5 (by omega), ⟨e0, e1, e2, e3, e4, K _ _ b6 (by omega), b6n.keep (fun g hg hl => KB g hg hl) (fun _ h => h)⟩⟩, hcl.keep (fun j ob hj ho => K j ob ho (by have := hC j hj; omega))⟩, ht.mono (fun j hj => hS j (by simp [hj]))⟩
  · refine ⟨_, h1, fun V cs hi hN _ hn => ?_⟩
    obtain ⟨hbx, hcl⟩ := hi
    have hbk := hbx
    refine (text1_any (scalarT s.action) cs c1 q1 n1 64 _ w0 V hn rfl hp.action hcl.t1 hcl.m1 hbk.action).mono ?_
    rintro e w' ⟨rfl, hnew, ht⟩
    have K : ∀ (j : Nat) (ob : Obj), V.heap[j]? = some ob → j ≠ n1 → w'.heap[j]? = some ob := fun j ob ho hj => (ht.block j (Array.getElem?_eq_some_iff.1 ho).1 hj).trans ho
    have KB : ∀ b, E ≤ b → b < V.heap.size → w'.heap[b]? = V.heap[b]? := fun b hb hl => ht.block b hl (by omega)
    obtain ⟨b0, b1, b2, ⟨va, vc, b3, b3o⟩, b4, b5, ⟨e0, e1, e2, e3, e4, b6, b6n⟩⟩ := hbx
    refine ⟨rfl, ⟨by rw [stS_succ s hkey, updS_1]; exact ⟨K _ _ b0 (by omega), hnew, K _ _ b2 (by omega), ⟨va, vc, K _ _ b3 (by omega), ownsRow_keepB b3o (fun g hg => KB g (World.ownsRow.lt b3o g hg).1 (World.ownsRow.lt b3o g hg).2)⟩, K _ _ b4 (by omega), K _ _ b5 (by omega), ⟨e0, e1, e2, e3, e4, K _ _ b6 (by omega), b6n.keep (fun g hg hl => KB g hg hl) (fun _ h => h)⟩⟩, hcl.keep (fun j ob hj ho => K j ob ho (by have := hC j hj; omega))⟩, ht.mono (fun j hj => hS j (by simp [hj]))⟩
  · refine ⟨_, h2, fun V cs hi hN _ hn => ?_⟩
    obtain ⟨hbx, hcl⟩ := hi
    have hbk := hbx
    refine (text1_any (scalarT s.undo) cs c2 q2 n2 64 _ w0 V hn rfl hp.undo hcl.t2 hcl.m2 hbk.undo).mono ?_
    rintro e w' ⟨rfl, hnew, ht⟩
    have K : ∀ (j : Nat) (ob : Obj), V.heap[j]? = some ob → j ≠ n2 → w'.heap[j]? = some ob := fun j ob ho hj => (ht.block j (Array.getElem?_eq_some_iff.1 ho).1 hj).trans ho
    have KB : ∀ b, E ≤ b → b < V.heap.size → w'.heap[b]? = V.heap[b]? := fun b hb hl => ht.block b hl (by omega)
    obtain ⟨b0, b1, b2, ⟨va, vc, b3, b3o⟩, b4, b5, ⟨e0, e1, e2, e3, e4, b6, b6n⟩⟩ := hbx
    refine ⟨rfl, ⟨by rw [stS_succ s hkey, updS_2]; exact ⟨K _ _ b0 (by omega), K _ _ b1 (by omega), hnew, ⟨va, vc, K _ _ b3 (by omega), ownsRow_keepB b3o (fun g hg => KB g (World.ownsRow.lt b3o g hg).1 (World.ownsRow.lt b3o g hg).2)⟩, K _ _ b4 (by omega), K _ _ b5 (by omega), ⟨e0, e1, e2, e3, e4, K _ _ b6 (by omega), b6n.keep (fun g hg hl => KB g hg hl) (fun _ h => h)⟩⟩, hcl.keep (fun j ob hj ho => K j ob ho (by have := hC j hj; omega))⟩, ht.mono (fun j hj => hS j (by simp [hj]))⟩
  · refine ⟨_, h3, fun V cs hi hN hw hn => ?_⟩
    obtain ⟨hbx, hcl⟩ := hi
    have hbk := hbx
    have hl3 : (seqT (s.after.map scalarT)).kids.length = s.after.length := by show (s.after.map scalarT).length = _; rw [List.length_map]
    have hm3 : (seqT (s.after.map scalarT)).kids.map Tree.text = s.after := by
      show (s.after.map scalarT).map Tree.text = _
      rw [List.map_map]
      exact List.map_id' s.after
    obtain ⟨va0, vc0, hb3, -⟩ := hbk.after
    refine (names1_any (seqT (s.after.map scalarT)) cs c3 n3 _ w0 V hn hw (by omega) rfl (by rw [hl3]; exact hp.alen) (fun x hx => by obtain ⟨y, hy, rfl⟩ := List.mem_map.1 hx; exact ⟨rfl, hp.after y hy⟩) hcl.p3 hb3).mono ?_
    rintro e w' ⟨rfl, ⟨va', vc', hb', ho'⟩, ht⟩
    rw [hl3] at hb' ho'
    rw [hm3] at ho'
    have K : ∀ (j : Nat) (ob : Obj), V.heap[j]? = some ob → j ≠ n3 → w'.heap[j]? = some ob := fun j ob ho hj => (ht.block j (Array.getElem?_eq_some_iff.1 ho).1 hj).trans ho
    have KB : ∀ b, E ≤ b → b < V.heap.size → w'.heap[b]? = V.heap[b]? := fun b hb hl => ht.block b hl (by omega)
    obtain ⟨b0, b1, b2, ⟨va, vc, b3, b3o⟩, b4, b5, ⟨e0, e1, e2, e3, e4, b6, b6n⟩⟩ := hbx
    refine ⟨rfl, ⟨by rw [stS_succ s hkey, updS_3]; exact ⟨K _ _ b0 (by omega), K _ _ b1 (by omega), K _ _ b2 (by omega), ⟨va', vc', hb', ownsRow_mono ho' (by omega)⟩, K _ _ b4 (by omega), K _ _ b5 (by omega), ⟨e0, e1, e2, e3, e4, K _ _ b6 (by omega), b6n.keep (fun g hg hl => KB g hg hl) (fun _ h => h)⟩⟩, hcl.keep (fun j ob hj ho => K j ob ho (by have := hC j hj; omega))⟩, ht.mono (fun j hj => hS j (by simp [hj]))⟩
  · refine ⟨_, h4, fun V cs hi hN hw hn => ?_⟩
    obtain ⟨hbx, hcl⟩ := hi
    have hbk := hbx
    refine (retry1_any s.most s.first s.factor _ cs c4 n4 _ _ _ w0 V rfl hn hw (by omega) hp.most hp.first hp.factor hcl.p4 hbk.tries).mono ?_
    rintro e w' ⟨rfl, hnew, ht⟩
    have K : ∀ (j : Nat) (ob : Obj), V.heap[j]? = some ob → j ≠ n4 → w'.heap[j]? = some ob := fun j ob ho hj => (ht.block j (Array.getElem?_eq_some_iff.1 ho).1 hj).trans ho
    have KB : ∀ b, E ≤ b → b < V.heap.size → w'.heap[b]? = V.heap[b]? := fun b hb hl => ht.block b hl (by omega)
    obtain ⟨b0, b1, b2, ⟨va, vc, b3, b3o⟩, b4, b5, ⟨e0, e1, e2, e3, e4, b6, b6n⟩⟩ := hbx
    refine ⟨rfl, ⟨by rw [stS_succ s hkey, updS_4]; exact ⟨K _ _ b0 (by omega), K _ _ b1 (by omega), K _ _ b2 (by omega), ⟨va, vc, K _ _ b3 (by omega), ownsRow_keepB b3o (fun g hg => KB g (World.ownsRow.lt b3o g hg).1 (World.ownsRow.lt b3o g hg).2)⟩, hnew, K _ _ b5 (by omega), ⟨e0, e1, e2, e3, e4, K _ _ b6 (by omega), b6n.keep (fun g hg hl => KB g hg hl) (fun _ h => h)⟩⟩, hcl.keep (fun j ob hj ho => K j ob ho (by have := hC j hj; omega))⟩, ht.mono (fun j hj => hS j (by simp [hj]))⟩
  · refine ⟨_, h5, fun V cs hi hN _ hn => ?_⟩
    obtain ⟨hbx, hcl⟩ := hi
    have hbk := hbx
    refine (number1_any (numT s.limit) cs c5 n5 s.limit.toNat _ w0 V hn rfl (num_text hp.limit) hcl.p5 hbk.limit).mono ?_
    rintro e w' ⟨rfl, hnew, ht⟩
    rw [Int.toNat_of_nonneg hp.limit.1] at hnew
    have K : ∀ (j : Nat) (ob : Obj), V.heap[j]? = some ob → j ≠ n5 → w'.heap[j]? = some ob := fun j ob ho hj => (ht.block j (Array.getElem?_eq_some_iff.1 ho).1 hj).trans ho
    have KB : ∀ b, E ≤ b → b < V.heap.size → w'.heap[b]? = V.heap[b]? := fun b hb hl => ht.block b hl (by omega)
    obtain ⟨b0, b1, b2, ⟨va, vc, b3, b3o⟩, b4, b5, ⟨e0, e1, e2, e3, e4, b6, b6n⟩⟩ := hbx
    refine ⟨rfl, ⟨by rw [stS_succ s hkey, updS_5]; exact ⟨K _ _ b0 (by omega), K _ _ b1 (by omega), K _ _ b2 (by omega), ⟨va, vc, K _ _ b3 (by omega), ownsRow_keepB b3o (fun g hg => KB g (World.ownsRow.lt b3o g hg).1 (World.ownsRow.lt b3o g hg).2)⟩, K _ _ b4 (by omega), hnew, ⟨e0, e1, e2, e3, e4, K _ _ b6 (by omega), b6n.keep (fun g hg hl => KB g hg hl) (fun _ h => h)⟩⟩, hcl.keep (fun j ob hj ho => K j ob ho (by have := hC j hj; omega))⟩, ht.mono (fun j hj => hS j (by simp [hj]))⟩
  · refine ⟨_, h6, fun V cs hi hN hw hn => ?_⟩
    obtain ⟨hbx, hcl⟩ := hi
    have hbk := hbx
    obtain ⟨hck, hdp⟩ := hp.note hnote
    obtain ⟨y0, y1, y2, y3, y4, hb6, -⟩ := hbk.note
    refine (note1_any s.note cs c6 n6 _ _ _ _ _ w0 V hn hw (by omega) hp.small hck hdp hcl.p6 hb6).mono ?_
    rintro e w' ⟨rfl, ⟨f0, f1, f2, f3, f4, hnew, hno⟩, ht⟩
    have K : ∀ (j : Nat) (ob : Obj), V.heap[j]? = some ob → j ≠ n6 → w'.heap[j]? = some ob := fun j ob ho hj => (ht.block j (Array.getElem?_eq_some_iff.1 ho).1 hj).trans ho
    have KB : ∀ b, E ≤ b → b < V.heap.size → w'.heap[b]? = V.heap[b]? := fun b hb hl => ht.block b hl (by omega)
    obtain ⟨b0, b1, b2, ⟨va, vc, b3, b3o⟩, b4, b5, ⟨e0, e1, e2, e3, e4, b6, b6n⟩⟩ := hbx
    refine ⟨rfl, ⟨by rw [stS_succ s hkey, updS_6]; exact ⟨K _ _ b0 (by omega), K _ _ b1 (by omega), K _ _ b2 (by omega), ⟨va, vc, K _ _ b3 (by omega), ownsRow_keepB b3o (fun g hg => KB g (World.ownsRow.lt b3o g hg).1 (World.ownsRow.lt b3o g hg).2)⟩, K _ _ b4 (by omega), K _ _ b5 (by omega), ⟨f0, f1, f2, f3, f4, hnew, hno.keep (fun _ _ _ => rfl) (fun g hg => by have := hg.1; omega)⟩⟩, hcl.keep (fun j ob hj ho => K j ob ho (by have := hC j hj; omega))⟩, ht.mono (fun j hj => hS j (by simp [hj]))⟩
end Go.Proofs.Ytgafjjgnbcjmpaa
