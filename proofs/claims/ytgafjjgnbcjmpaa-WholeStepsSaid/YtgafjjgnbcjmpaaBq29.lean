/-
  parse.Of: contract.
-/
import Derived.Test.YtgafjjgnbcjmpaaBq28
namespace Go.Proofs.Ytgafjjgnbcjmpaa
open Go Go.RowKit Go.Maps Go.WideShapes

theorem stepOk_norm {s : StepD} (hp : StepP s) (hs : SmallS s) : StepOk (normS s) := by
  have h1 := hs.name
  have h2 := hs.action
  have h3 := hs.undo
  have m := hp.most
  have f := hp.first
  have c := hp.factor
  have l := hp.limit
  exact ⟨by show s.name.size ≤ _; unfold maxLen; omega, by show s.action.size ≤ _; unfold maxLen; omega, by show s.undo.size ≤ _; unfold maxLen; omega, fun a ha => by have := hs.aft a ha; unfold maxLen; omega, by show I64w s.most; unfold I64w; omega, by show I64w s.first; unfold I64w; omega, by show I64w s.factor; unfold I64w; omega, by show I64w s.limit; unfold I64w; omega⟩
/-- The boxes, their memory in P. -/
structure BoxQ (n3 n4 n5 : Nat) (P : Nat → Prop) (σ : DefD) (W : World) : Prop where
  name : W.heap[n3]? = some (.cells #[.string σ.name] 9 (0, 0))
  text : W.heap[n4]? = some (.cells #[.string σ.text] 9 (0, 0))
  steps : ∃ (va : Option Addr) (vc : Nat) (rows : List (List Value)), W.heap[n5]? = some (.cells #[.slice va σ.steps.length vc] 22 (0, 0)) ∧ rows.length = σ.steps.length ∧ RdS W (.slice va σ.steps.length vc) 13 σ.steps.length rows.flatten ∧ (∀ g, (Value.slice va σ.steps.length vc).ownBlock = some g → P g) ∧ ∀ (j : Nat) (r : List Value) (s : StepD), rows[j]? = some r → σ.steps[j]? = some s → StepQ W P r s
theorem BoxD.toQ {n3 n4 n5 E : Nat} {σ : DefD} {W : World} (h : BoxD n3 n4 n5 E σ W) : BoxQ n3 n4 n5 (inSpan E W.heap.size) σ W := by
  obtain ⟨h0, h1, va, vc, rows, h2, h3, h4, h5⟩ := h
  exact ⟨h0, h1, va, vc, rows, h2, h3, RdS.of_owns h4, fun g hg => World.ownsRow.lt h4 g hg, h5⟩
theorem BoxQ.keep {n3 n4 n5 : Nat} {P : Nat → Prop} {σ : DefD} {W W' : World} (h : BoxQ n3 n4 n5 P σ W) (hk : ∀ (j : Nat), (j = n3 ∨ j = n4 ∨ j = n5 ∨ P j) → j < W.heap.size → W'.heap[j]? = W.heap[j]?) : BoxQ n3 n4 n5 P σ W' := by
  have hh : ∀ (j : Nat) (ob : Obj), (j = n3 ∨ j = n4 ∨ j = n5 ∨ P j) → W.heap[j]? = some ob → W'.heap[j]? = some ob := fun j ob hj ho => (hk j hj (Array.getElem?_eq_some_iff.1 ho).1).trans ho
  obtain ⟨h0, h1, va, vc, rows, h2, h3, h4, h5, h6⟩ := h
  exact ⟨hh _ _ (by simp) h0, hh _ _ (by simp) h1, va, vc, rows, hh _ _ (by simp) h2, h3, h4.keepB (fun g hg hl => hk g (by simp [h5 g hg]) hl), h5, fun j r s hr hs => (h6 j r s hr hs).keep (fun g hg hl => hk g (by simp [hg]) hl) (fun _ h => h)⟩
/-- What the reader of keys leaves. -/
def FinD (W0 : World) (n3 n4 n5 : Nat) (d : DefD) (W : World) (b : Bool) (xf : Value) : Prop :=
  ∃ E E2, W0.heap.size ≤ E ∧ E2 ≤ W.heap.size ∧ BoxQ n3 n4 n5 (inSpan E E2) (normD d) W ∧ TurnS (fun j => n3 ≤ j ∧ j ≤ n5) W0 W ∧ (b = true → ∀ f, xf = .pointer (some ⟨f, 0, none⟩) → f < E ∨ E2 ≤ f)
theorem FinD.size {W0 : World} {n3 n4 n5 : Nat} {d : DefD} {W : World} {b : Bool} {xf : Value} (h : FinD W0 n3 n4 n5 d W b xf) : W0.heap.size ≤ W.heap.size := by
  obtain ⟨_, _, _, _, _, h, _⟩ := h
  exact h.size
theorem FinD.alloc {W0 : World} {n3 n4 n5 : Nat} {d : DefD} {W : World} {b b' : Bool} {xf : Value} {o ob : Obj} (h : FinD W0 n3 n4 n5 d W b xf) (_ : (W.alloc o).heap[W.heap.size]? = some ob) : FinD W0 n3 n4 n5 d (W.alloc o) b' (.pointer (some ⟨W.heap.size, 0, none⟩)) := by
  obtain ⟨E, E2, h1, h2, h3, h4, _⟩ := h
  refine ⟨E, E2, h1, by rw [World.size_alloc]; omega, h3.keep (fun j _ hj => Below.heap_alloc _ _ _ hj), h4.alloc o, fun _ f hf => ?_⟩
  cases hf
  exact .inr h2
theorem FinD.set {W0 : World} {n3 n4 n5 f : Nat} {d : DefD} {W : World} (h : FinD W0 n3 n4 n5 d W true (.pointer (some ⟨f, 0, none⟩))) (hf : W0.heap.size ≤ f) (hn : n3 < W0.heap.size ∧ n4 < W0.heap.size ∧ n5 < W0.heap.size) : FinD W0 n3 n4 n5 d ((W.setCell ⟨f, 0, none⟩ (.int .i64 0)).setCell ⟨f, 1, none⟩ (.int .i64 0)) true (.pointer (some ⟨f, 0, none⟩)) := by
  obtain ⟨E, E2, h1, h2, h3, h4, h5⟩ := h
  have h6 := h5 rfl f rfl
  have hot : ∀ j, j ≠ f → ((W.setCell ⟨f, 0, none⟩ (.int .i64 0)).setCell ⟨f, 1, none⟩ (.int .i64 0)).heap[j]? = W.heap[j]? := fun j hj => by rw [Below.heap_setCell _ _ _ _ hj, Below.heap_setCell _ _ _ _ hj]
  refine ⟨E, E2, h1, by simpa using h2, h3.keep (fun j hj _ => hot j (by
    rcases hj with hj | hj | hj | hj
    · omega
    · omega
    · omega
    · have := hj.1; have := hj.2; omega)), (h4.setCell (p := ⟨f, 0, none⟩) (fun h => absurd h (by show ¬ f < _; omega)) _).setCell (p := ⟨f, 1, none⟩) (fun h => absurd h (by show ¬ f < _; omega)) _, h5⟩

abbrev ParseOf (w3 : World) (_n0 _n1 _n2 n3 n4 n5 n6 : Nat) (t : Tree) (ka : Option Addr) (kc : Nat) (ba : Option Addr) (bc : Nat) (d : DefD) (b0 b1 b2 b3 b4 b5 b6 b7 b8 b9 b10 b11 b12 _b13 : Bool) (x9 x12 x13 x14 x15 x16 x17 x18 x19 x20 : Value) (W : World) : Prop :=
  (b11 = false → Below w3.drew.heap.size w3.drew W) ∧ (b0 = true → ∃ M, x12 = .map (some M) ∧ (b11 = false → w3.drew.heap.size ≤ M ∧ ∃ n g, MapF W M n g ∧ n ≤ b2.toNat + b4.toNat + b6.toNat ∧ (b2 = true → g sSaga = some x13) ∧ (b4 = true → g sText = some x14) ∧ (b6 = true → g sSteps = some x15))) ∧ (b1 = true → ∃ c q, x13 = rdV (.text c q) ∧ (b11 = false → w3.drew.heap.size ≤ c ∧ W.heap[c]? = some (.cells #[.pointer (some ⟨n3, 0, none⟩)] 68 (0, 0)) ∧ w3.drew.heap.size ≤ q ∧ W.heap[q]? = some (.cells #[.int .i64 64] 3 (0, 0)))) ∧ (b3 = true → ∃ c q, x14 = rdV (.text c q) ∧ (b11 = false → w3.drew.heap.size ≤ c ∧ W.heap[c]? = some (.cells #[.pointer (some ⟨n4, 0, none⟩)] 68 (0, 0)) ∧ w3.drew.heap.size ≤ q ∧ W.heap[q]? = some (.cells #[.int .i64 4096] 3 (0, 0)))) ∧ (b5 = true → x15 = rdV (.all n5 n6)) ∧ (b7 = true → x16 = x12) ∧ (b8 = true → ∃ s, x17 = .slice (some ⟨s, 0, none⟩) 2 2 ∧ (b11 = false → w3.drew.heap.size ≤ s ∧ W.heap[s]? = some (.cells #[.string { data := #[115, 97, 103, 97] }, .string { data := #[115, 116, 101, 112, 115] }] 9 (0, 0)))) ∧ (b9 = true → ∃ p q, x18 = keysV p q ∧ (b11 = false → w3.drew.heap.size ≤ p ∧ w3.drew.heap.size ≤ q ∧ (∃ M, x12 = .map (some M) ∧ W.heap[p]? = some (.cells #[.map (some M)] 69 (0, 0))) ∧ W.heap[q]? = some (.cells #[x17] 31 (0, 0)))) ∧ (b10 = true → x19 = .agg #[.int .u8 (t.kind : Int), .string t.text, .slice ka t.keys.length kc, .slice ba t.kids.length bc, .int .i64 t.line]) ∧ (b11 = true → x20 = .agg #[.int .i64 0, .int .i64 0] ∧ FinD w3.drew n3 n4 n5 d W b12 x9) ∧ (b12 = true → ∃ f, x9 = .pointer (some ⟨f, 0, none⟩) ∧ w3.drew.heap.size ≤ f ∧ W.heap[f]? = some (.cells #[.int .i64 0, .int .i64 0] 29 (0, 0)))

set_option maxRecDepth 100000 in
set_option maxHeartbeats 16000000 in
theorem of_any (d : DefD) (t : Tree) (cs : List Value) (w0 w : World) (hT : t = defT d) (h : NodeR w0 cs t) (hb : Below w0.heap.size w0 w) (hp : DefP d) (hs : SmallD d) :
    Calls Try.prog 9 #[.agg cs.toArray] w fun e w' => ∃ cs' : List Value, e = .returned (.tuple #[.agg cs'.toArray, zeroF]) ∧ (∃ sa sc, DefR w' cs' (normD d) sa sc) ∧ Below w.heap.size w w' := by
  obtain ⟨ka, kc, ba, bc, rfl⟩ := h.cells
  have HN := Lib.hid h
  have HT := Lib.hid hT
  have HP := Lib.hid hp
  have HS := Lib.hid hs
  have hw0 := hb.size
  clear h hT hp hs
  go_enter Try.func9, Try.ntmps9
  go_upto_region 5 with fail
  obtain ⟨hb3, hsz, hf⟩ := allocs_facts [(.cells #[.int .u8 (t.kind : Int), .string t.text, .slice ka t.keys.length kc, .slice ba t.kids.length bc, .int .i64 t.line] 34), (.cells #[.string { data := #[] }, .string { data := #[] }, .slice none 0 0] 24), (.cells #[.int .i64 0, .int .i64 0] 29), (.cells #[.string { data := #[] }] 9), (.cells #[.string { data := #[] }] 9), (.cells #[.slice none 0 0] 22), (.cells #[.func (.func 24) #[] #[.pointer (some ⟨w.heap.size + 1 + 1 + 1 + 1 + 1, 0, none⟩)]] 63)] w
  have g0 := hf 0 _ rfl
  have g1 := hf 1 _ rfl
  have g2 := hf 2 _ rfl
  have g3 := hf 3 _ rfl
  have g4 := hf 4 _ rfl
  have g5 := hf 5 _ rfl
  have g6 := hf 6 _ rfl
  clear hf
  simp only [List.foldl_cons, List.foldl_nil, List.length_cons, List.length_nil, Nat.reduceAdd] at hb3 hsz g0 g1 g2 g3 g4 g5 g6
  generalize (((((((w.alloc (.cells #[.int .u8 (t.kind : Int), .string t.text, .slice ka t.keys.length kc, .slice ba t.kids.length bc, .int .i64 t.line] 34)).alloc (.cells #[.string { data := #[] }, .string { data := #[] }, .slice none 0 0] 24)).alloc (.cells #[.int .i64 0, .int .i64 0] 29)).alloc (.cells #[.string { data := #[] }] 9)).alloc (.cells #[.string { data := #[] }] 9)).alloc (.cells #[.slice none 0 0] 22)).alloc (.cells #[.func (.func 24) #[] #[.pointer (some ⟨w.heap.size + 1 + 1 + 1 + 1 + 1, 0, none⟩)]] 63)) = w3 at *
  have hz0 : w.heap.size + 0 = w.heap.size := rfl
  rw [hz0] at g0
  have HEQ0 : ∃ n1 n2 n3 n4 n5 n6, w.heap.size + 1 = n1 ∧ n1 + 1 = n2 ∧ n2 + 1 = n3 ∧ n3 + 1 = n4 ∧ n4 + 1 = n5 ∧ n5 + 1 = n6 := ⟨_, _, _, _, _, _, rfl, rfl, rfl, rfl, rfl, rfl⟩
  obtain ⟨n1, n2, n3, n4, n5, n6, e1, e2, e3, e4, e5, e6⟩ := HEQ0
  rw [e1, e2, e3, e4, e5] at g6
  rw [e1, e2, e3, e4, e5, e6]
  generalize hn0 : w.heap.size = n0 at *
  rw [e1] at g1
  rw [show n0 + 2 = n2 by omega] at g2
  rw [show n0 + 3 = n3 by omega] at g3
  rw [show n0 + 4 = n4 by omega] at g4
  rw [show n0 + 5 = n5 by omega] at g5
  rw [show n0 + 6 = n6 by omega] at g6
  have HEQ : Hid (n0 + 1 = n1 ∧ n1 + 1 = n2 ∧ n2 + 1 = n3 ∧ n3 + 1 = n4 ∧ n4 + 1 = n5 ∧ n5 + 1 = n6) := Lib.hid ⟨e1, e2, e3, e4, e5, e6⟩
  have HG3 : Hid (w3.drew.heap[n0]? = _) := Lib.hid g0
  have HSR : Hid (w3.drew.heap[n1]? = _) := Lib.hid g1
  have HFR : Hid (w3.drew.heap[n2]? = _) := Lib.hid g2
  have HI3 : Hid (w3.drew.heap[n3]? = _) := Lib.hid g3
  have HI4 : Hid (w3.drew.heap[n4]? = _) := Lib.hid g4
  have HI5 : Hid (w3.drew.heap[n5]? = _) := Lib.hid g5
  have HI6 : Hid (w3.drew.heap[n6]? = _) := Lib.hid g6
  have HSZ3 : Hid (w3.drew.heap.size = n0 + 7) := Lib.hid hsz
  have HLT3 : Hid (n0 < w3.drew.heap.size) := Lib.hid (by rw [HSZ3.out]; omega)
  have HW3 : Hid (Below w0.heap.size w0 w3.drew) := Lib.hid (hb.trans (hb3.mono hw0)).drew
  have HBW : Hid (Below n0 w w3.drew) := Lib.hid hb3.drew
  clear g0 g1 g2 g3 g4 g5 g6 e1 e2 e3 e4 e5 e6 hsz hb hb3 hz0
  refine E_inv (fun listed act0 W => ∃ (b0 b1 b2 b3 b4 b5 b6 b7 b8 b9 b10 b11 b12 b13 : Bool) (x9 x12 x13 x14 x15 x16 x17 x18 x19 x20 : Value), listed = #[b0, b1, b2, b3, b4, b5, b6, b7, b8, b9, b10, b11, b12, b13] ∧ act0 = { tmps := #[.agg #[.int .u8 (t.kind : Int), .string t.text, .slice ka t.keys.length kc, .slice ba t.kids.length bc, .int .i64 t.line], .pointer (some ⟨n0, 0, none⟩), .pointer (some ⟨n1, 0, none⟩), .pointer (some ⟨n2, 0, none⟩), .pointer (some ⟨n3, 0, none⟩), .pointer (some ⟨n4, 0, none⟩), .pointer (some ⟨n5, 0, none⟩), .pointer (some ⟨n6, 0, none⟩), .func (.func 26) #[] #[.pointer (some ⟨n5, 0, none⟩), .pointer (some ⟨n6, 0, none⟩)], x9, .func (.func 24) #[] #[.pointer (some ⟨n5, 0, none⟩)], .func (.func 26) #[] #[.pointer (some ⟨n5, 0, none⟩), .pointer (some ⟨n6, 0, none⟩)], x12, x13, x14, x15, x16, x17, x18, x19, x20, undef, undef, undef, undef, undef, undef, undef, undef, undef, undef], defers := [] } ∧ ParseOf w3 n0 n1 n2 n3 n4 n5 n6 t ka kc ba bc d b0 b1 b2 b3 b4 b5 b6 b7 b8 b9 b10 b11 b12 b13 x9 x12 x13 x14 x15 x16 x17 x18 x19 x20 W) (by kernel_rfl) (by kernel_rfl) ?fstep ?fdone ?fstart
  case fstart => exact ⟨false, false, false, false, false, false, false, false, false, false, false, false, false, false, undef, undef, undef, undef, undef, undef, undef, undef, undef, undef, rfl, rfl, (fun _ => Below.refl _ _), (fun h => by cases h), (fun h => by cases h), (fun h => by cases h), (fun h => by cases h), (fun h => by cases h), (fun h => by cases h), (fun h => by cases h), (fun h => by cases h), (fun h => by cases h), (fun h => by cases h)⟩
  case fstep =>
    rintro Q0 listed act0 W hcl ⟨b0, b1, b2, b3, b4, b5, b6, b7, b8, b9, b10, b11, b12, b13, x9, x12, x13, x14, x15, x16, x17, x18, x19, x20, rfl, rfl, FA, F0, R1, R3, R5, FM, FS, FK, FL, FC, FF⟩ i hi
    have hlt : i < 14 := ready_lt hi
    obtain rfl | rfl | rfl | rfl | rfl | rfl | rfl | rfl | rfl | rfl | rfl | rfl | rfl | rfl : i = 0 ∨ i = 1 ∨ i = 2 ∨ i = 3 ∨ i = 4 ∨ i = 5 ∨ i = 6 ∨ i = 7 ∨ i = 8 ∨ i = 9 ∨ i = 10 ∨ i = 11 ∨ i = 12 ∨ i = 13 := by omega
    · have hu : b0 = false := ready_un hi
      subst hu
      have hn2 : b2 = false := by
        cases hh : b2 with
        | false => rfl
        | true => exact Bool.noConfusion (show false = true from (hcl 2 0 (by kernel_rfl) (show _ = true from hh)))
      have hn4 : b4 = false := by
        cases hh : b4 with
        | false => rfl
        | true => exact Bool.noConfusion (show false = true from (hcl 4 0 (by kernel_rfl) (show _ = true from hh)))
      have hn6 : b6 = false := by
        cases hh : b6 with
        | false => rfl
        | true => exact Bool.noConfusion (show false = true from (hcl 6 0 (by kernel_rfl) (show _ = true from hh)))
      have hn7 : b7 = false := by
        cases hh : b7 with
        | false => rfl
        | true => exact Bool.noConfusion (show false = true from (hcl 7 0 (by kernel_rfl) (show _ = true from hh)))
      have hn9 : b9 = false := by
        cases hh : b9 with
        | false => rfl
        | true => exact Bool.noConfusion (show false = true from (hcl 7 0 (by kernel_rfl) (hcl 9 7 (by kernel_rfl) (show _ = true from hh))))
      have hn11 : b11 = false := by
        cases hh : b11 with
        | false => rfl
        | true => exact Bool.noConfusion (show false = true from (hcl 7 0 (by kernel_rfl) (hcl 9 7 (by kernel_rfl) (hcl 11 9 (by kernel_rfl) (show _ = true from hh)))))
      have hn13 : b13 = false := by
        cases hh : b13 with
        | false => rfl
        | true => exact Bool.noConfusion (show false = true from (hcl 13 0 (by kernel_rfl) (show _ = true from hh)))
      subst hn2 hn4 hn6 hn7 hn9 hn11 hn13
      clear hi hlt hcl
      refine wpOp_lit rfl (by rfl) (fun K hK => ?_)
      have hb : Below W.heap.size W (W.alloc (.map #[] 0)) := (Below.refl _ _).alloc (Nat.le_refl _) _
      have hkc := KeepC.of_below hb
      have hFA := bthen (FA rfl) (Nat.le_refl _) hb
      have hsA := (FA rfl).size
      have hmade := MapF.made W
      have hmm := @run_makeMap Try.prog
      go_simp
      (try simp only [Act.put, List.setIfInBounds_toArray, List.set_cons_zero, List.set_cons_succ])
      exact hK.out _ _ ⟨_, _, _, _, _, _, _, _, _, _, _, _, _, _, _, _, _, _, _, _, _, _, _, _, rfl, rfl, (fun _ => hFA), (fun _ => ⟨_, rfl, fun _ => ⟨hsA, 0, _, hmade, Nat.zero_le _, (fun h => by cases h), (fun h => by cases h), (fun h => by cases h)⟩⟩), (fun h => by obtain ⟨c, q, e1, e2⟩ := R1 h; exact ⟨c, q, e1, fun h2 => by obtain ⟨u1, u2, u3, u4⟩ := e2 h2; exact ⟨u1, hkc _ _ _ _ u2, u3, hkc _ _ _ _ u4⟩⟩), (fun h => by obtain ⟨c, q, e1, e2⟩ := R3 h; exact ⟨c, q, e1, fun h2 => by obtain ⟨u1, u2, u3, u4⟩ := e2 h2; exact ⟨u1, hkc _ _ _ _ u2, u3, hkc _ _ _ _ u4⟩⟩), R5, (fun h => by cases h), (fun h => by obtain ⟨s, e1, e2⟩ := FS h; exact ⟨s, e1, fun h2 => by obtain ⟨u1, u2⟩ := e2 h2; exact ⟨u1, hkc _ _ _ _ u2⟩⟩), (fun h => by cases h), FL, (fun h => by cases h), (fun h => by obtain ⟨f, e1, e2, e3⟩ := FF h; exact ⟨f, e1, e2, hkc _ _ _ _ e3⟩)⟩
    · have hu : b1 = false := ready_un hi
      subst hu
      have hn2 : b2 = false := by
        cases hh : b2 with
        | false => rfl
        | true => exact Bool.noConfusion (show false = true from (hcl 2 1 (by kernel_rfl) (show _ = true from hh)))
      have hn3 : b3 = false := by
        cases hh : b3 with
        | false => rfl
        | true => exact Bool.noConfusion (show false = true from (hcl 3 1 (by kernel_rfl) (show _ = true from hh)))
      have hn4 : b4 = false := by
        cases hh : b4 with
        | false => rfl
        | true => exact Bool.noConfusion (show false = true from (hcl 3 1 (by kernel_rfl) (hcl 4 3 (by kernel_rfl) (show _ = true from hh))))
      have hn7 : b7 = false := by
        cases hh : b7 with
        | false => rfl
        | true => exact Bool.noConfusion (show false = true from (hcl 7 1 (by kernel_rfl) (show _ = true from hh)))
      have hn9 : b9 = false := by
        cases hh : b9 with
        | false => rfl
        | true => exact Bool.noConfusion (show false = true from (hcl 3 1 (by kernel_rfl) (hcl 9 3 (by kernel_rfl) (show _ = true from hh))))
      have hn11 : b11 = false := by
        cases hh : b11 with
        | false => rfl
        | true => exact Bool.noConfusion (show false = true from (hcl 3 1 (by kernel_rfl) (hcl 9 3 (by kernel_rfl) (hcl 11 9 (by kernel_rfl) (show _ = true from hh)))))
      have hn13 : b13 = false := by
        cases hh : b13 with
        | false => rfl
        | true => exact Bool.noConfusion (show false = true from (hcl 13 1 (by kernel_rfl) (show _ = true from hh)))
      subst hn2 hn3 hn4 hn7 hn9 hn11 hn13
      clear hi hlt hcl
      refine wpOp_lit rfl (by rfl) (fun K hK => ?_)
      go_simp
      refine (mkText_any n3 64 W).mono ?_
      rintro e V ⟨c, q, rfl, hc1, hc3, hc2, hc4, hb⟩
      have hkc := KeepC.of_below hb
      have hFA := bthen (FA rfl) (Nat.le_refl _) hb
      have hsA := (FA rfl).size
      (skip)
      exact hK.out _ _ ⟨_, _, _, _, _, _, _, _, _, _, _, _, _, _, _, _, _, _, _, _, _, _, _, _, rfl, rfl, (fun _ => hFA), (fun h => by obtain ⟨M, e1, e2⟩ := F0 h; exact ⟨M, e1, fun h2 => by obtain ⟨u1, n, g, u2, u3, v0, v1, v2⟩ := e2 h2; exact ⟨u1, n, g, u2.block (hb.block _ u2.lt), u3, (fun h => by cases h), v1, v2⟩⟩), (fun _ => ⟨c, q, rfl, fun _ => ⟨Nat.le_trans hsA hc1, hc2, Nat.le_trans hsA hc3, hc4⟩⟩), (fun h => by cases h), R5, (fun h => by cases h), (fun h => by obtain ⟨s, e1, e2⟩ := FS h; exact ⟨s, e1, fun h2 => by obtain ⟨u1, u2⟩ := e2 h2; exact ⟨u1, hkc _ _ _ _ u2⟩⟩), (fun h => by cases h), FL, (fun h => by cases h), (fun h => by obtain ⟨f, e1, e2, e3⟩ := FF h; exact ⟨f, e1, e2, hkc _ _ _ _ e3⟩)⟩
    · have hu : b2 = false := ready_un hi
      have ht0 : b0 = true := (ready_dep hi 0 (by kernel_rfl))
      have ht1 : b1 = true := (ready_dep hi 1 (by kernel_rfl))
      subst hu
      have hn7 : b7 = false := by
        cases hh : b7 with
        | false => rfl
        | true => exact Bool.noConfusion (show false = true from (hcl 7 2 (by kernel_rfl) (show _ = true from hh)))
      have hn9 : b9 = false := by
        cases hh : b9 with
        | false => rfl
        | true => exact Bool.noConfusion (show false = true from (hcl 7 2 (by kernel_rfl) (hcl 9 7 (by kernel_rfl) (show _ = true from hh))))
      have hn11 : b11 = false := by
        cases hh : b11 with
        | false => rfl
        | true => exact Bool.noConfusion (show false = true from (hcl 7 2 (by kernel_rfl) (hcl 9 7 (by kernel_rfl) (hcl 11 9 (by kernel_rfl) (show _ = true from hh)))))
      have hn13 : b13 = false := by
        cases hh : b13 with
        | false => rfl
        | true => exact Bool.noConfusion (show false = true from (hcl 13 2 (by kernel_rfl) (show _ = true from hh)))
      subst ht0 ht1 hn7 hn9 hn11 hn13
      clear hi hlt hcl
      refine wpOp_lit rfl (by rfl) (fun K hK => ?_)
      obtain ⟨M, rfl, hm⟩ := F0 rfl
      obtain ⟨hM, n, g, hmap, hn, v0, v1, v2⟩ := hm rfl
      obtain ⟨c, q, rfl, hc⟩ := R1 rfl
      obtain ⟨w6, hup, hm6, hb6, hs6, ho6⟩ := hmap.store (show n < maxLen from Nat.lt_of_le_of_lt hn (by have h0 := toNat_le; unfold maxLen; have := h0 b4; have := h0 b6; simp only [Bool.toNat_false] at *; omega)) (x := { data := #[115, 97, 103, 97] }) (by decide) (rdV (.text c q))
      have hkc := hmap.keepC ho6
      have hFA := (FA rfl).trans (hb6.mono hM)
      go_simp
      (try simp only [Act.put, List.setIfInBounds_toArray, List.set_cons_zero, List.set_cons_succ])
      exact hK.out _ _ ⟨_, _, _, _, _, _, _, _, _, _, _, _, _, _, _, _, _, _, _, _, _, _, _, _, rfl, rfl, (fun _ => hFA), (fun _ => ⟨M, rfl, fun _ => ⟨hM, _, _, hm6, (by simp only [Bool.toNat_false, Bool.toNat_true] at *; omega), (fun _ => if_pos rfl), (fun h => (if_neg (by decide)).trans (v1 h)), (fun h => (if_neg (by decide)).trans (v2 h))⟩⟩), (fun _ => ⟨c, q, rfl, fun h2 => by obtain ⟨u1, u2, u3, u4⟩ := hc h2; exact ⟨u1, hkc _ _ _ _ u2, u3, hkc _ _ _ _ u4⟩⟩), (fun h => by obtain ⟨c, q, e1, e2⟩ := R3 h; exact ⟨c, q, e1, fun h2 => by obtain ⟨u1, u2, u3, u4⟩ := e2 h2; exact ⟨u1, hkc _ _ _ _ u2, u3, hkc _ _ _ _ u4⟩⟩), R5, (fun h => by cases h), (fun h => by obtain ⟨s, e1, e2⟩ := FS h; exact ⟨s, e1, fun h2 => by obtain ⟨u1, u2⟩ := e2 h2; exact ⟨u1, hkc _ _ _ _ u2⟩⟩), (fun h => by cases h), FL, (fun h => by cases h), (fun h => by obtain ⟨f, e1, e2, e3⟩ := FF h; exact ⟨f, e1, e2, hkc _ _ _ _ e3⟩)⟩
    · have hu : b3 = false := ready_un hi
      have ht1 : b1 = true := (ready_dep hi 1 (by kernel_rfl))
      subst hu
      have hn4 : b4 = false := by
        cases hh : b4 with
        | false => rfl
        | true => exact Bool.noConfusion (show false = true from (hcl 4 3 (by kernel_rfl) (show _ = true from hh)))
      have hn7 : b7 = false := by
        cases hh : b7 with
        | false => rfl
        | true => exact Bool.noConfusion (show false = true from (hcl 7 3 (by kernel_rfl) (show _ = true from hh)))
      have hn9 : b9 = false := by
        cases hh : b9 with
        | false => rfl
        | true => exact Bool.noConfusion (show false = true from (hcl 9 3 (by kernel_rfl) (show _ = true from hh)))
      have hn11 : b11 = false := by
        cases hh : b11 with
        | false => rfl
        | true => exact Bool.noConfusion (show false = true from (hcl 9 3 (by kernel_rfl) (hcl 11 9 (by kernel_rfl) (show _ = true from hh))))
      have hn13 : b13 = false := by
        cases hh : b13 with
        | false => rfl
        | true => exact Bool.noConfusion (show false = true from (hcl 13 3 (by kernel_rfl) (show _ = true from hh)))
      subst ht1 hn4 hn7 hn9 hn11 hn13
      clear hi hlt hcl
      refine wpOp_lit rfl (by rfl) (fun K hK => ?_)
      go_simp
      refine (mkText_any n4 4096 W).mono ?_
      rintro e V ⟨c, q, rfl, hc1, hc3, hc2, hc4, hb⟩
      have hkc := KeepC.of_below hb
      have hFA := bthen (FA rfl) (Nat.le_refl _) hb
      have hsA := (FA rfl).size
      (skip)
      exact hK.out _ _ ⟨_, _, _, _, _, _, _, _, _, _, _, _, _, _, _, _, _, _, _, _, _, _, _, _, rfl, rfl, (fun _ => hFA), (fun h => by obtain ⟨M, e1, e2⟩ := F0 h; exact ⟨M, e1, fun h2 => by obtain ⟨u1, n, g, u2, u3, v0, v1, v2⟩ := e2 h2; exact ⟨u1, n, g, u2.block (hb.block _ u2.lt), u3, v0, (fun h => by cases h), v2⟩⟩), (fun h => by obtain ⟨c, q, e1, e2⟩ := R1 h; exact ⟨c, q, e1, fun h2 => by obtain ⟨u1, u2, u3, u4⟩ := e2 h2; exact ⟨u1, hkc _ _ _ _ u2, u3, hkc _ _ _ _ u4⟩⟩), (fun _ => ⟨c, q, rfl, fun _ => ⟨Nat.le_trans hsA hc1, hc2, Nat.le_trans hsA hc3, hc4⟩⟩), R5, (fun h => by cases h), (fun h => by obtain ⟨s, e1, e2⟩ := FS h; exact ⟨s, e1, fun h2 => by obtain ⟨u1, u2⟩ := e2 h2; exact ⟨u1, hkc _ _ _ _ u2⟩⟩), (fun h => by cases h), FL, (fun h => by cases h), (fun h => by obtain ⟨f, e1, e2, e3⟩ := FF h; exact ⟨f, e1, e2, hkc _ _ _ _ e3⟩)⟩
    · have hu : b4 = false := ready_un hi
      have ht0 : b0 = true := (ready_dep hi 0 (by kernel_rfl))
      have ht1 : b1 = true := (hcl 3 1 (by kernel_rfl) (ready_dep hi 3 (by kernel_rfl)))
      have ht3 : b3 = true := (ready_dep hi 3 (by kernel_rfl))
      subst hu
      have hn7 : b7 = false := by
        cases hh : b7 with
        | false => rfl
        | true => exact Bool.noConfusion (show false = true from (hcl 7 4 (by kernel_rfl) (show _ = true from hh)))
      have hn9 : b9 = false := by
        cases hh : b9 with
        | false => rfl
        | true => exact Bool.noConfusion (show false = true from (hcl 7 4 (by kernel_rfl) (hcl 9 7 (by kernel_rfl) (show _ = true from hh))))
      have hn11 : b11 = false := by
        cases hh : b11 with
        | false => rfl
        | true => exact Bool.noConfusion (show false = true from (hcl 7 4 (by kernel_rfl) (hcl 9 7 (by kernel_rfl) (hcl 11 9 (by kernel_rfl) (show _ = true from hh)))))
      have hn13 : b13 = false := by
        cases hh : b13 with
        | false => rfl
        | true => exact Bool.noConfusion (show false = true from (hcl 13 4 (by kernel_rfl) (show _ = true from hh)))
      subst ht0 ht1 ht3 hn7 hn9 hn11 hn13
      clear hi hlt hcl
      refine wpOp_lit rfl (by rfl) (fun K hK => ?_)
      obtain ⟨M, rfl, hm⟩ := F0 rfl
      obtain ⟨hM, n, g, hmap, hn, v0, v1, v2⟩ := hm rfl
      obtain ⟨c, q, rfl, hc⟩ := R3 rfl
      obtain ⟨w6, hup, hm6, hb6, hs6, ho6⟩ := hmap.store (show n < maxLen from Nat.lt_of_le_of_lt hn (by have h0 := toNat_le; unfold maxLen; have := h0 b2; have := h0 b6; simp only [Bool.toNat_false] at *; omega)) (x := { data := #[116, 101, 120, 116] }) (by decide) (rdV (.text c q))
      have hkc := hmap.keepC ho6
      have hFA := (FA rfl).trans (hb6.mono hM)
      go_simp
      (try simp only [Act.put, List.setIfInBounds_toArray, List.set_cons_zero, List.set_cons_succ])
      exact hK.out _ _ ⟨_, _, _, _, _, _, _, _, _, _, _, _, _, _, _, _, _, _, _, _, _, _, _, _, rfl, rfl, (fun _ => hFA), (fun _ => ⟨M, rfl, fun _ => ⟨hM, _, _, hm6, (by simp only [Bool.toNat_false, Bool.toNat_true] at *; omega), (fun h => (if_neg (by decide)).trans (v0 h)), (fun _ => if_pos rfl), (fun h => (if_neg (by decide)).trans (v2 h))⟩⟩), (fun h => by obtain ⟨c, q, e1, e2⟩ := R1 h; exact ⟨c, q, e1, fun h2 => by obtain ⟨u1, u2, u3, u4⟩ := e2 h2; exact ⟨u1, hkc _ _ _ _ u2, u3, hkc _ _ _ _ u4⟩⟩), (fun _ => ⟨c, q, rfl, fun h2 => by obtain ⟨u1, u2, u3, u4⟩ := hc h2; exact ⟨u1, hkc _ _ _ _ u2, u3, hkc _ _ _ _ u4⟩⟩), R5, (fun h => by cases h), (fun h => by obtain ⟨s, e1, e2⟩ := FS h; exact ⟨s, e1, fun h2 => by obtain ⟨u1, u2⟩ := e2 h2; exact ⟨u1, hkc _ _ _ _ u2⟩⟩), (fun h => by cases h), FL, (fun h => by cases h), (fun h => by obtain ⟨f, e1, e2, e3⟩ := FF h; exact ⟨f, e1, e2, hkc _ _ _ _ e3⟩)⟩
    · have hu : b5 = false := ready_un hi
      subst hu
      have hn6 : b6 = false := by
        cases hh : b6 with
        | false => rfl
        | true => exact Bool.noConfusion (show false = true from (hcl 6 5 (by kernel_rfl) (show _ = true from hh)))
      have hn7 : b7 = false := by
        cases hh : b7 with
        | false => rfl
        | true => exact Bool.noConfusion (show false = true from (hcl 7 5 (by kernel_rfl) (show _ = true from hh)))
      have hn9 : b9 = false := by
        cases hh : b9 with
        | false => rfl
        | true => exact Bool.noConfusion (show false = true from (hcl 7 5 (by kernel_rfl) (hcl 9 7 (by kernel_rfl) (show _ = true from hh))))
      have hn11 : b11 = false := by
        cases hh : b11 with
        | false => rfl
        | true => exact Bool.noConfusion (show false = true from (hcl 7 5 (by kernel_rfl) (hcl 9 7 (by kernel_rfl) (hcl 11 9 (by kernel_rfl) (show _ = true from hh)))))
      have hn13 : b13 = false := by
        cases hh : b13 with
        | false => rfl
        | true => exact Bool.noConfusion (show false = true from (hcl 13 5 (by kernel_rfl) (show _ = true from hh)))
      subst hn6 hn7 hn9 hn11 hn13
      clear hi hlt hcl
      refine wpOp_lit rfl (by rfl) (fun K hK => ?_)
      go_simp
      (try simp only [Act.put, List.setIfInBounds_toArray, List.set_cons_zero, List.set_cons_succ])
      exact hK.out _ _ ⟨_, _, _, _, _, _, _, _, _, _, _, _, _, _, _, _, _, _, _, _, _, _, _, _, rfl, rfl, FA, (fun h => by obtain ⟨M, e1, e2⟩ := F0 h; exact ⟨M, e1, fun h2 => by obtain ⟨u1, n, g, u2, u3, v0, v1, v2⟩ := e2 h2; exact ⟨u1, n, g, u2, u3, v0, v1, (fun h => by cases h)⟩⟩), R1, R3, (fun _ => rfl), (fun h => by cases h), FS, (fun h => by cases h), FL, (fun h => by cases h), FF⟩
    · have hu : b6 = false := ready_un hi
      have ht0 : b0 = true := (ready_dep hi 0 (by kernel_rfl))
      have ht5 : b5 = true := (ready_dep hi 5 (by kernel_rfl))
      subst hu
      have hn7 : b7 = false := by
        cases hh : b7 with
        | false => rfl
        | true => exact Bool.noConfusion (show false = true from (hcl 7 6 (by kernel_rfl) (show _ = true from hh)))
      have hn9 : b9 = false := by
        cases hh : b9 with
        | false => rfl
        | true => exact Bool.noConfusion (show false = true from (hcl 7 6 (by kernel_rfl) (hcl 9 7 (by kernel_rfl) (show _ = true from hh))))
      have hn11 : b11 = false := by
        cases hh : b11 with
        | false => rfl
        | true => exact Bool.noConfusion (show false = true from (hcl 7 6 (by kernel_rfl) (hcl 9 7 (by kernel_rfl) (hcl 11 9 (by kernel_rfl) (show _ = true from hh)))))
      have hn13 : b13 = false := by
        cases hh : b13 with
        | false => rfl
        | true => exact Bool.noConfusion (show false = true from (hcl 13 6 (by kernel_rfl) (show _ = true from hh)))
      subst ht0 ht5 hn7 hn9 hn11 hn13
      clear hi hlt hcl
      refine wpOp_lit rfl (by rfl) (fun K hK => ?_)
      obtain ⟨M, rfl, hm⟩ := F0 rfl
      obtain ⟨hM, n, g, hmap, hn, v0, v1, v2⟩ := hm rfl
      obtain rfl := R5 rfl
      obtain ⟨w6, hup, hm6, hb6, hs6, ho6⟩ := hmap.store (show n < maxLen from Nat.lt_of_le_of_lt hn (by have h0 := toNat_le; unfold maxLen; have := h0 b2; have := h0 b4; simp only [Bool.toNat_false] at *; omega)) (x := { data := #[115, 116, 101, 112, 115] }) (by decide) (rdV (.all n5 n6))
      have hkc := hmap.keepC ho6
      have hFA := (FA rfl).trans (hb6.mono hM)
      go_simp
      (try simp only [Act.put, List.setIfInBounds_toArray, List.set_cons_zero, List.set_cons_succ])
      exact hK.out _ _ ⟨_, _, _, _, _, _, _, _, _, _, _, _, _, _, _, _, _, _, _, _, _, _, _, _, rfl, rfl, (fun _ => hFA), (fun _ => ⟨M, rfl, fun _ => ⟨hM, _, _, hm6, (by simp only [Bool.toNat_false, Bool.toNat_true] at *; omega), (fun h => (if_neg (by decide)).trans (v0 h)), (fun h => (if_neg (by decide)).trans (v1 h)), (fun _ => if_pos rfl)⟩⟩), (fun h => by obtain ⟨c, q, e1, e2⟩ := R1 h; exact ⟨c, q, e1, fun h2 => by obtain ⟨u1, u2, u3, u4⟩ := e2 h2; exact ⟨u1, hkc _ _ _ _ u2, u3, hkc _ _ _ _ u4⟩⟩), (fun h => by obtain ⟨c, q, e1, e2⟩ := R3 h; exact ⟨c, q, e1, fun h2 => by obtain ⟨u1, u2, u3, u4⟩ := e2 h2; exact ⟨u1, hkc _ _ _ _ u2, u3, hkc _ _ _ _ u4⟩⟩), (fun _ => rfl), (fun h => by cases h), (fun h => by obtain ⟨s, e1, e2⟩ := FS h; exact ⟨s, e1, fun h2 => by obtain ⟨u1, u2⟩ := e2 h2; exact ⟨u1, hkc _ _ _ _ u2⟩⟩), (fun h => by cases h), FL, (fun h => by cases h), (fun h => by obtain ⟨f, e1, e2, e3⟩ := FF h; exact ⟨f, e1, e2, hkc _ _ _ _ e3⟩)⟩
    · have hu : b7 = false := ready_un hi
      have ht0 : b0 = true := (ready_dep hi 0 (by kernel_rfl))
      have ht1 : b1 = true := (ready_dep hi 1 (by kernel_rfl))
      have ht2 : b2 = true := (ready_dep hi 2 (by kernel_rfl))
      have ht3 : b3 = true := (ready_dep hi 3 (by kernel_rfl))
      have ht4 : b4 = true := (ready_dep hi 4 (by kernel_rfl))
      have ht5 : b5 = true := (ready_dep hi 5 (by kernel_rfl))
      have ht6 : b6 = true := (ready_dep hi 6 (by kernel_rfl))
      subst hu
      have hn9 : b9 = false := by
        cases hh : b9 with
        | false => rfl
        | true => exact Bool.noConfusion (show false = true from (hcl 9 7 (by kernel_rfl) (show _ = true from hh)))
      have hn11 : b11 = false := by
        cases hh : b11 with
        | false => rfl
        | true => exact Bool.noConfusion (show false = true from (hcl 9 7 (by kernel_rfl) (hcl 11 9 (by kernel_rfl) (show _ = true from hh))))
      have hn13 : b13 = false := by
        cases hh : b13 with
        | false => rfl
        | true => exact Bool.noConfusion (show false = true from (hcl 13 7 (by kernel_rfl) (show _ = true from hh)))
      subst ht0 ht1 ht2 ht3 ht4 ht5 ht6 hn9 hn11 hn13
      clear hi hlt hcl
      refine wpOp_lit rfl (by rfl) (fun K hK => ?_)
      obtain rfl := R5 rfl
      go_simp
      (try simp only [Act.put, List.setIfInBounds_toArray, List.set_cons_zero, List.set_cons_succ])
      exact hK.out _ _ ⟨_, _, _, _, _, _, _, _, _, _, _, _, _, _, _, _, _, _, _, _, _, _, _, _, rfl, rfl, FA, F0, R1, R3, (fun _ => rfl), (fun _ => rfl), FS, (fun h => by cases h), FL, (fun h => by cases h), FF⟩
    · have hu : b8 = false := ready_un hi
      subst hu
      have hn9 : b9 = false := by
        cases hh : b9 with
        | false => rfl
        | true => exact Bool.noConfusion (show false = true from (hcl 9 8 (by kernel_rfl) (show _ = true from hh)))
      have hn11 : b11 = false := by
        cases hh : b11 with
        | false => rfl
        | true => exact Bool.noConfusion (show false = true from (hcl 9 8 (by kernel_rfl) (hcl 11 9 (by kernel_rfl) (show _ = true from hh))))
      have hn13 : b13 = false := by
        cases hh : b13 with
        | false => rfl
        | true => exact Bool.noConfusion (show false = true from (hcl 13 8 (by kernel_rfl) (show _ = true from hh)))
      subst hn9 hn11 hn13
      clear hi hlt hcl
      refine wpOp_lit rfl (by rfl) (fun K hK => ?_)
      have hb : Below W.heap.size W (W.alloc (.cells #[.string { data := #[115, 97, 103, 97] }, .string { data := #[115, 116, 101, 112, 115] }] 9)) := (Below.refl _ _).alloc (Nat.le_refl _) _
      have hnew := World.alloc_heap_new W (.cells #[.string { data := #[115, 97, 103, 97] }, .string { data := #[115, 116, 101, 112, 115] }] 9)
      have hkc := KeepC.of_below hb
      have hFA := bthen (FA rfl) (Nat.le_refl _) hb
      have hsA := (FA rfl).size
      go_simp
      (try simp only [Act.put, List.setIfInBounds_toArray, List.set_cons_zero, List.set_cons_succ])
      exact hK.out _ _ ⟨_, _, _, _, _, _, _, _, _, _, _, _, _, _, _, _, _, _, _, _, _, _, _, _, rfl, rfl, (fun _ => hFA), (fun h => by obtain ⟨M, e1, e2⟩ := F0 h; exact ⟨M, e1, fun h2 => by obtain ⟨u1, n, g, u2, u3⟩ := e2 h2; exact ⟨u1, n, g, u2.block (hb.block _ u2.lt), u3⟩⟩), (fun h => by obtain ⟨c, q, e1, e2⟩ := R1 h; exact ⟨c, q, e1, fun h2 => by obtain ⟨u1, u2, u3, u4⟩ := e2 h2; exact ⟨u1, hkc _ _ _ _ u2, u3, hkc _ _ _ _ u4⟩⟩), (fun h => by obtain ⟨c, q, e1, e2⟩ := R3 h; exact ⟨c, q, e1, fun h2 => by obtain ⟨u1, u2, u3, u4⟩ := e2 h2; exact ⟨u1, hkc _ _ _ _ u2, u3, hkc _ _ _ _ u4⟩⟩), R5, FM, (fun _ => ⟨_, rfl, fun _ => ⟨hsA, hnew⟩⟩), (fun h => by cases h), FL, (fun h => by cases h), (fun h => by obtain ⟨f, e1, e2, e3⟩ := FF h; exact ⟨f, e1, e2, hkc _ _ _ _ e3⟩)⟩
    · have hu : b9 = false := ready_un hi
      have ht0 : b0 = true := (hcl 7 0 (by kernel_rfl) (ready_dep hi 7 (by kernel_rfl)))
      have ht1 : b1 = true := (hcl 3 1 (by kernel_rfl) (ready_dep hi 3 (by kernel_rfl)))
      have ht2 : b2 = true := (hcl 7 2 (by kernel_rfl) (ready_dep hi 7 (by kernel_rfl)))
      have ht3 : b3 = true := (ready_dep hi 3 (by kernel_rfl))
      have ht4 : b4 = true := (hcl 7 4 (by kernel_rfl) (ready_dep hi 7 (by kernel_rfl)))
      have ht5 : b5 = true := (hcl 7 5 (by kernel_rfl) (ready_dep hi 7 (by kernel_rfl)))
      have ht6 : b6 = true := (hcl 7 6 (by kernel_rfl) (ready_dep hi 7 (by kernel_rfl)))
      have ht7 : b7 = true := (ready_dep hi 7 (by kernel_rfl))
      have ht8 : b8 = true := (ready_dep hi 8 (by kernel_rfl))
      subst hu
      have hn11 : b11 = false := by
        cases hh : b11 with
        | false => rfl
        | true => exact Bool.noConfusion (show false = true from (hcl 11 9 (by kernel_rfl) (show _ = true from hh)))
      have hn13 : b13 = false := by
        cases hh : b13 with
        | false => rfl
        | true => exact Bool.noConfusion (show false = true from (hcl 13 9 (by kernel_rfl) (show _ = true from hh)))
      subst ht0 ht1 ht2 ht3 ht4 ht5 ht6 ht7 ht8 hn11 hn13
      clear hi hlt hcl
      refine wpOp_lit rfl (by rfl) (fun K hK => ?_)
      obtain rfl := R5 rfl
      obtain ⟨M, rfl, hm⟩ := F0 rfl
      obtain rfl := FM rfl
      obtain ⟨s, rfl, hs⟩ := FS rfl
      go_simp
      refine (mkKeys_any M (some ⟨s, 0, none⟩) 2 2 W).mono ?_
      rintro e V ⟨p, q, rfl, hp1, hq1, hp2, hq2, hb⟩
      have hkc := KeepC.of_below hb
      have hFA := bthen (FA rfl) (Nat.le_refl _) hb
      have hsA := (FA rfl).size
      (skip)
      exact hK.out _ _ ⟨_, _, _, _, _, _, _, _, _, _, _, _, _, _, _, _, _, _, _, _, _, _, _, _, rfl, rfl, (fun _ => hFA), (fun _ => ⟨M, rfl, fun h2 => by obtain ⟨u1, n, g, u2, u3⟩ := hm h2; exact ⟨u1, n, g, u2.block (hb.block _ u2.lt), u3⟩⟩), (fun h => by obtain ⟨c, q, e1, e2⟩ := R1 h; exact ⟨c, q, e1, fun h2 => by obtain ⟨u1, u2, u3, u4⟩ := e2 h2; exact ⟨u1, hkc _ _ _ _ u2, u3, hkc _ _ _ _ u4⟩⟩), (fun h => by obtain ⟨c, q, e1, e2⟩ := R3 h; exact ⟨c, q, e1, fun h2 => by obtain ⟨u1, u2, u3, u4⟩ := e2 h2; exact ⟨u1, hkc _ _ _ _ u2, u3, hkc _ _ _ _ u4⟩⟩), (fun _ => rfl), (fun _ => rfl), (fun _ => ⟨s, rfl, fun h2 => by obtain ⟨u1, u2⟩ := hs h2; exact ⟨u1, hkc _ _ _ _ u2⟩⟩), (fun _ => ⟨p, q, rfl, fun _ => ⟨Nat.le_trans hsA hp1, Nat.le_trans hsA hq1, ⟨M, rfl, hp2⟩, hq2⟩⟩), FL, (fun h => by cases h), (fun h => by obtain ⟨f, e1, e2, e3⟩ := FF h; exact ⟨f, e1, e2, hkc _ _ _ _ e3⟩)⟩
    · have hu : b10 = false := ready_un hi
      subst hu
      have hn11 : b11 = false := by
        cases hh : b11 with
        | false => rfl
        | true => exact Bool.noConfusion (show false = true from (hcl 11 10 (by kernel_rfl) (show _ = true from hh)))
      have hn13 : b13 = false := by
        cases hh : b13 with
        | false => rfl
        | true => exact Bool.noConfusion (show false = true from (hcl 13 10 (by kernel_rfl) (show _ = true from hh)))
      subst hn11 hn13
      clear hi hlt hcl
      refine wpOp_lit rfl (by rfl) (fun K hK => ?_)
      obtain ⟨q0, q1, q2, q3, q4⟩ := cells5n (t := 34) (((FA rfl).block _ HLT3.out).trans HG3.out)
      go_simp
      clear q0 q1 q2 q3 q4
      (try simp only [Act.put, List.setIfInBounds_toArray, List.set_cons_zero, List.set_cons_succ])
      exact hK.out _ _ ⟨_, _, _, _, _, _, _, _, _, _, _, _, _, _, _, _, _, _, _, _, _, _, _, _, rfl, rfl, FA, F0, R1, R3, R5, FM, FS, FK, (fun _ => rfl), (fun h => by cases h), FF⟩
    · have hu : b11 = false := ready_un hi
      have ht0 : b0 = true := (hcl 7 0 (by kernel_rfl) (hcl 9 7 (by kernel_rfl) (ready_dep hi 9 (by kernel_rfl))))
      have ht1 : b1 = true := (hcl 3 1 (by kernel_rfl) (hcl 9 3 (by kernel_rfl) (ready_dep hi 9 (by kernel_rfl))))
      have ht2 : b2 = true := (hcl 7 2 (by kernel_rfl) (hcl 9 7 (by kernel_rfl) (ready_dep hi 9 (by kernel_rfl))))
      have ht3 : b3 = true := (hcl 9 3 (by kernel_rfl) (ready_dep hi 9 (by kernel_rfl)))
      have ht4 : b4 = true := (hcl 7 4 (by kernel_rfl) (hcl 9 7 (by kernel_rfl) (ready_dep hi 9 (by kernel_rfl))))
      have ht5 : b5 = true := (hcl 7 5 (by kernel_rfl) (hcl 9 7 (by kernel_rfl) (ready_dep hi 9 (by kernel_rfl))))
      have ht6 : b6 = true := (hcl 7 6 (by kernel_rfl) (hcl 9 7 (by kernel_rfl) (ready_dep hi 9 (by kernel_rfl))))
      have ht7 : b7 = true := (hcl 9 7 (by kernel_rfl) (ready_dep hi 9 (by kernel_rfl)))
      have ht8 : b8 = true := (hcl 9 8 (by kernel_rfl) (ready_dep hi 9 (by kernel_rfl)))
      have ht9 : b9 = true := (ready_dep hi 9 (by kernel_rfl))
      have ht10 : b10 = true := (ready_dep hi 10 (by kernel_rfl))
      subst hu
      have hn13 : b13 = false := by
        cases hh : b13 with
        | false => rfl
        | true => exact Bool.noConfusion (show false = true from (hcl 13 11 (by kernel_rfl) (show _ = true from hh)))
      subst ht0 ht1 ht2 ht3 ht4 ht5 ht6 ht7 ht8 ht9 ht10 hn13
      clear hi hlt hcl
      refine wpOp_lit rfl (by rfl) (fun K hK => ?_)
      obtain ⟨M, rfl, hm⟩ := F0 rfl
      obtain ⟨hM, n, g, hmap, hn, v0, v1, v2⟩ := hm rfl
      obtain rfl := FM rfl
      obtain ⟨s, rfl, hs⟩ := FS rfl
      obtain ⟨hs1, hs2⟩ := hs rfl
      obtain ⟨p, q, rfl, hpq⟩ := FK rfl
      obtain ⟨hp1, hq1, ⟨M', hM', hp2⟩, hq2⟩ := hpq rfl
      cases hM'
      obtain rfl := FL rfl
      obtain ⟨c1, q1, rfl, hc1⟩ := R1 rfl
      obtain ⟨ha1, hb1, hd1, he1⟩ := hc1 rfl
      obtain ⟨c3, q3, rfl, hc3⟩ := R3 rfl
      obtain ⟨ha3, hb3, hd3, he3⟩ := hc3 rfl
      obtain rfl := R5 rfl
      have hv0 := v0 rfl
      have hv1 := v1 rfl
      have hv2 := v2 rfl
      have hfa := FA rfl
      have hsW := hfa.size
      have hz3 := HSZ3.out
      obtain ⟨z1, z2, z3, z4, z5, z6⟩ := HEQ.out
      have hw0 := HW3.out.size
      have hM' := hmap.lt
      have hpl := (Array.getElem?_eq_some_iff.1 hp2).1
      have hql := (Array.getElem?_eq_some_iff.1 hq2).1
      have hsl := (Array.getElem?_eq_some_iff.1 hs2).1
      have hml : RdS W (.slice (some ⟨s, 0, none⟩) 2 2) 1 [sSaga, sSteps].length (strsV [sSaga, sSteps]) := rds_row 2 1 hs2 rfl (by decide)
      have i1 := (Array.getElem?_eq_some_iff.1 hb1).1
      have i2 := (Array.getElem?_eq_some_iff.1 he1).1
      have i3 := (Array.getElem?_eq_some_iff.1 hb3).1
      have i4 := (Array.getElem?_eq_some_iff.1 he3).1
      have hbx : BoxD n3 n4 n5 (W.heap.size + 2) (stD d 0) W := ⟨(hfa.block _ (by omega)).trans HI3.out, (hfa.block _ (by omega)).trans HI4.out, ⟨none, 0, [], (hfa.block _ (by omega)).trans HI5.out, rfl, World.ownsRow_nil _ _ _ _, fun j r s h => by cases h⟩⟩
      have hf6 := (hfa.block _ (show n6 < _ by omega)).trans HI6.out
      have HKL : Hid (t.keys.length = t.kids.length) := Lib.hid (by rw [HT.out]; exact def_lens d)
      have HCALL := keys1_any (fun j => n3 ≤ j ∧ j ≤ n5) t [.int .u8 (t.kind : Int), .string t.text, .slice ka t.keys.length kc, .slice ba t.kids.length bc, .int .i64 t.line] p q M n g (.slice (some ⟨s, 0, none⟩) 2 2) [sSaga, sSteps] (InvD n3 n4 n5 c1 q1 c3 q3 n6 (W.heap.size + 2) d) w0 W HN.out (HW3.out.trans (hfa.mono hw0)) (by rw [HT.out]; rfl) HKL.out (by rw [HT.out]; exact Nat.le_trans (defCs_len d) (by decide)) (by intro j h; omega) (by intro h; omega) (by intro h; omega) hp2 (by intro h; omega) hq2 (by intro h; omega) hmap (by intro h; omega) hml (by intro _ b hb h; simp [Value.ownBlock] at hb; omega) (by rw [HT.out]; exact def_must d) (by decide)
        (invD_keep (by rintro j (h | h | h | h | h | h | h | h) <;> omega) (by omega)) (by rw [HT.out]; exact readsD HP.out hv0 hv1 hv2 (by omega) (by omega) (by rintro j (h | h | h | h) <;> omega) (by intro j hj; omega)) ⟨hbx, ⟨hb1, he1, hb3, he3, hf6⟩⟩
      dsimp only [keysV]
      go_simp
      refine HCALL.mono ?_
      rintro e V ⟨rfl, ⟨hbv, -⟩, ht⟩
      have hkn : t.kids.length = (defKs d).length := by rw [← HKL.out, HT.out]; rfl
      rw [hkn, stD_all] at hbv
      unfold zeroF
      have hfn : FinD w3.drew n3 n4 n5 d V b12 x9 := ⟨W.heap.size + 2, V.heap.size, by omega, Nat.le_refl _, hbv.toQ, (TurnS.of_below hfa).trans ht, fun h f hf => by
        obtain ⟨f', e1, e2, e3⟩ := FF h
        rw [hf] at e1
        cases e1
        have := (Array.getElem?_eq_some_iff.1 e3).1
        omega⟩
      have hFF : b12 = true → ∃ f, x9 = .pointer (some ⟨f, 0, none⟩) ∧ w3.drew.heap.size ≤ f ∧ V.heap[f]? = some (.cells #[.int .i64 0, .int .i64 0] 29 (0, 0)) := fun h => by
        obtain ⟨f, e1, e2, e3⟩ := FF h
        exact ⟨f, e1, e2, (ht.block _ (Array.getElem?_eq_some_iff.1 e3).1 (by intro h; omega)).trans e3⟩
      (skip)
      exact hK.out _ _ ⟨_, _, _, _, _, _, _, _, _, _, _, _, _, _, _, _, _, _, _, _, _, _, _, _, rfl, rfl, (fun h => by cases h), (fun _ => ⟨M, rfl, fun h => by cases h⟩), (fun _ => ⟨c1, q1, rfl, fun h => by cases h⟩), (fun _ => ⟨c3, q3, rfl, fun h => by cases h⟩), (fun _ => rfl), (fun _ => rfl), (fun _ => ⟨s, rfl, fun h => by cases h⟩), (fun _ => ⟨p, q, rfl, fun h => by cases h⟩), (fun _ => rfl), (fun _ => ⟨rfl, hfn⟩), hFF⟩
    · have hu : b12 = false := ready_un hi
      subst hu
      have hn13 : b13 = false := by
        cases hh : b13 with
        | false => rfl
        | true => exact Bool.noConfusion (show false = true from (hcl 13 12 (by kernel_rfl) (show _ = true from hh)))
      subst hn13
      clear hi hlt hcl
      refine wpOp_lit rfl (by rfl) (fun K hK => ?_)
      have hb : Below W.heap.size W (W.alloc (.cells #[.int .i64 0, .int .i64 0] 29)) := (Below.refl _ _).alloc (Nat.le_refl _) _
      have hkc := KeepC.of_below hb
      have hnew := World.alloc_heap_new W (.cells #[.int .i64 0, .int .i64 0] 29)
      have hle : w3.drew.heap.size ≤ W.heap.size := by
        cases b11 with
        | false => exact (FA rfl).size
        | true => exact (FC rfl).2.size
      go_simp
      (try simp only [Act.put, List.setIfInBounds_toArray, List.set_cons_zero, List.set_cons_succ])
      exact hK.out _ _ ⟨_, _, _, _, _, _, _, _, _, _, _, _, _, _, _, _, _, _, _, _, _, _, _, _, rfl, rfl, (fun h => bthen (FA h) (Nat.le_refl _) hb), (fun h => by obtain ⟨M, e1, e2⟩ := F0 h; exact ⟨M, e1, fun h2 => by obtain ⟨u1, n, g, u2, u3⟩ := e2 h2; exact ⟨u1, n, g, u2.block (hb.block _ u2.lt), u3⟩⟩), (fun h => by obtain ⟨c, q, e1, e2⟩ := R1 h; exact ⟨c, q, e1, fun h2 => by obtain ⟨u1, u2, u3, u4⟩ := e2 h2; exact ⟨u1, hkc _ _ _ _ u2, u3, hkc _ _ _ _ u4⟩⟩), (fun h => by obtain ⟨c, q, e1, e2⟩ := R3 h; exact ⟨c, q, e1, fun h2 => by obtain ⟨u1, u2, u3, u4⟩ := e2 h2; exact ⟨u1, hkc _ _ _ _ u2, u3, hkc _ _ _ _ u4⟩⟩), R5, FM, (fun h => by obtain ⟨s, e1, e2⟩ := FS h; exact ⟨s, e1, fun h2 => by obtain ⟨u1, u2⟩ := e2 h2; exact ⟨u1, hkc _ _ _ _ u2⟩⟩), (fun h => by obtain ⟨p, q, e1, e2⟩ := FK h; exact ⟨p, q, e1, fun h2 => by obtain ⟨u1, u2, ⟨M, u3, u4⟩, u5⟩ := e2 h2; exact ⟨u1, u2, ⟨M, u3, hkc _ _ _ _ u4⟩, hkc _ _ _ _ u5⟩⟩), FL, (fun h => ⟨(FC h).1, ((FC h).2.alloc hnew)⟩), (fun _ => ⟨_, rfl, hle, hnew⟩)⟩
    · have hu : b13 = false := ready_un hi
      have ht0 : b0 = true := (ready_dep hi 0 (by kernel_rfl))
      have ht1 : b1 = true := (ready_dep hi 1 (by kernel_rfl))
      have ht2 : b2 = true := (ready_dep hi 2 (by kernel_rfl))
      have ht3 : b3 = true := (ready_dep hi 3 (by kernel_rfl))
      have ht4 : b4 = true := (ready_dep hi 4 (by kernel_rfl))
      have ht5 : b5 = true := (ready_dep hi 5 (by kernel_rfl))
      have ht6 : b6 = true := (ready_dep hi 6 (by kernel_rfl))
      have ht7 : b7 = true := (ready_dep hi 7 (by kernel_rfl))
      have ht8 : b8 = true := (ready_dep hi 8 (by kernel_rfl))
      have ht9 : b9 = true := (ready_dep hi 9 (by kernel_rfl))
      have ht10 : b10 = true := (ready_dep hi 10 (by kernel_rfl))
      have ht11 : b11 = true := (ready_dep hi 11 (by kernel_rfl))
      have ht12 : b12 = true := (ready_dep hi 12 (by kernel_rfl))
      subst hu
      subst ht0 ht1 ht2 ht3 ht4 ht5 ht6 ht7 ht8 ht9 ht10 ht11 ht12
      clear hi hlt hcl
      refine wpOp_lit rfl (by rfl) (fun K hK => ?_)
      obtain ⟨f, rfl, hf1, hf2⟩ := FF rfl
      obtain ⟨rfl, hfin⟩ := FC rfl
      obtain ⟨y0, y1, y2, y3⟩ := cells2 hf2
      have hset := two_set (x := .int .i64 0) (y := .int .i64 0) hf2
      obtain ⟨z1, z2, z3, z4, z5, z6⟩ := HEQ.out
      have hz3 := HSZ3.out
      have hfn2 := hfin.set (f := f) hf1 (by omega)
      replace F0 := Lib.hid F0
      replace FM := Lib.hid FM
      replace FL := Lib.hid FL
      replace FK := Lib.hid FK
      replace FS := Lib.hid FS
      replace R1 := Lib.hid R1
      replace R3 := Lib.hid R3
      replace R5 := Lib.hid R5
      go_simp
      replace F0 := F0.out
      replace FM := FM.out
      replace FL := FL.out
      replace FK := FK.out
      replace FS := FS.out
      replace R1 := R1.out
      replace R3 := R3.out
      replace R5 := R5.out
      (try simp only [Act.put, List.setIfInBounds_toArray, List.set_cons_zero, List.set_cons_succ])
      exact hK.out _ _ ⟨_, _, _, _, _, _, _, _, _, _, _, _, _, _, _, _, _, _, _, _, _, _, _, _, rfl, rfl, (fun h => by cases h), (fun h => by obtain ⟨M, e1, e2⟩ := F0 h; exact ⟨M, e1, fun h => by cases h⟩), (fun h => by obtain ⟨c, q, e1, e2⟩ := R1 h; exact ⟨c, q, e1, fun h => by cases h⟩), (fun h => by obtain ⟨c, q, e1, e2⟩ := R3 h; exact ⟨c, q, e1, fun h => by cases h⟩), R5, FM, (fun h => by obtain ⟨s, e1, e2⟩ := FS h; exact ⟨s, e1, fun h => by cases h⟩), (fun h => by obtain ⟨p, q, e1, e2⟩ := FK h; exact ⟨p, q, e1, fun h => by cases h⟩), FL, (fun _ => ⟨rfl, hfn2⟩), (fun _ => ⟨_, rfl, hf1, hset⟩)⟩
  case fdone =>
    rintro listed act0 W - hall ⟨b0, b1, b2, b3, b4, b5, b6, b7, b8, b9, b10, b11, b12, b13, x9, x12, x13, x14, x15, x16, x17, x18, x19, x20, rfl, rfl, FA, F0, R1, R3, R5, FM, FS, FK, FL, FC, FF⟩
    obtain rfl : b0 = true := hall 0 (by decide)
    obtain rfl : b1 = true := hall 1 (by decide)
    obtain rfl : b2 = true := hall 2 (by decide)
    obtain rfl : b3 = true := hall 3 (by decide)
    obtain rfl : b4 = true := hall 4 (by decide)
    obtain rfl : b5 = true := hall 5 (by decide)
    obtain rfl : b6 = true := hall 6 (by decide)
    obtain rfl : b7 = true := hall 7 (by decide)
    obtain rfl : b8 = true := hall 8 (by decide)
    obtain rfl : b9 = true := hall 9 (by decide)
    obtain rfl : b10 = true := hall 10 (by decide)
    obtain rfl : b11 = true := hall 11 (by decide)
    obtain rfl : b12 = true := hall 12 (by decide)
    obtain rfl : b13 = true := hall 13 (by decide)
    clear hall
    obtain ⟨f, rfl, hf1, hf2⟩ := FF rfl
    obtain ⟨rfl, hfin⟩ := FC rfl
    obtain ⟨M, rfl, -⟩ := F0 rfl
    obtain rfl := FM rfl
    obtain rfl := FL rfl
    obtain ⟨ms, rfl, -⟩ := FS rfl
    obtain ⟨kp, kq, rfl, -⟩ := FK rfl
    obtain ⟨c1, q1, rfl, -⟩ := R1 rfl
    obtain ⟨c3, q3, rfl, -⟩ := R3 rfl
    obtain rfl := R5 rfl
    clear FA F0 R1 R3 R5 FM FS FK FL FC FF
    rename World => W5
    have hz3 := HSZ3.out
    obtain ⟨z1, z2, z3, z4, z5, z6⟩ := HEQ.out
    obtain ⟨E, E2, hE1, hE2, hbx, ht, hfE⟩ := hfin
    have hfE := hfE rfl f rfl
    have hsW := ht.size
    generalize hse : normD d = s at *
    obtain ⟨b3, b4, va, vc, rows, b5, b5l, b5r, b5p, b5q⟩ := hbx
    have HA5 := Lib.hid b5r
    have HP5 := Lib.hid b5p
    have HQ5 := Lib.hid b5q
    have HL5 := Lib.hid b5l
    have hsr5 := (ht.block n1 (by omega) (by intro h; omega)).trans HSR.out
    have hfr5 := (ht.block n2 (by omega) (by intro h; omega)).trans HFR.out
    have HSR5 : Hid (W5.drew.heap[n1]? = _) := Lib.hid hsr5
    have HFR5 : Hid (W5.drew.heap[n2]? = _) := Lib.hid hfr5
    have HBW5 : Hid (Below n0 w W5) := Lib.hid (ht.below HBW.out (by intro j hj; omega) (by omega))
    obtain ⟨y0, -⟩ := cell1n b3
    obtain ⟨y1, -⟩ := cell1n b4
    obtain ⟨y2, -⟩ := cell1n b5
    obtain ⟨y3, y4, -, -⟩ := cells2 hf2
    have hal : s.steps.length ≤ vc ∧ vc ≤ 9223372036854775807 := by
      obtain ⟨_, _, _, hve, h1, h2, _⟩ := b5r
      cases hve
      unfold maxLen at h2
      exact ⟨h1, h2⟩
    clear b3 b4 b5 b5r b5p b5q b5l hsr5 hfr5 ht
    go_upto_region 8 with fail
    have hsr := HSR5.out
    change W5.heap[n1]? = _ at hsr
    obtain ⟨l0, l1, l2, k0, k1, k2⟩ := cells3h hsr
    have hot : ∀ j, j ≠ n1 → ((((W5.setCell ⟨n1, 0, none⟩ (.string s.name)).setCell ⟨n1, 1, none⟩ (.string s.text)).setCell ⟨n1, 2, none⟩ (.slice va s.steps.length vc))).heap[j]? = W5.heap[j]? := fun j hj => by rw [Below.heap_setCell _ _ _ _ hj, Below.heap_setCell _ _ _ _ hj, Below.heap_setCell _ _ _ _ hj]
    have hnew := set3d (x := .string s.name) (y := .string s.text) (z := .slice va s.steps.length vc) hsr
    have hszs : ((((W5.setCell ⟨n1, 0, none⟩ (.string s.name)).setCell ⟨n1, 1, none⟩ (.string s.text)).setCell ⟨n1, 2, none⟩ (.slice va s.steps.length vc))).heap.size = W5.heap.size := by simp
    have HTS : Hid (Below n0 w ((((W5.setCell ⟨n1, 0, none⟩ (.string s.name)).setCell ⟨n1, 1, none⟩ (.string s.text)).setCell ⟨n1, 2, none⟩ (.slice va s.steps.length vc)))) := Lib.hid (((HBW5.out.setCell (p := ⟨n1, 0, none⟩) (by show n0 ≤ n1; omega) _).setCell (p := ⟨n1, 1, none⟩) (by show n0 ≤ n1; omega) _).setCell (p := ⟨n1, 2, none⟩) (by show n0 ≤ n1; omega) _)
    have hfr9 := (hot n2 (by omega)).trans HFR5.out
    have HFR9 := Lib.hid hfr9
    have HN9 := Lib.hid hnew
    obtain ⟨u0, u1, u2, u3⟩ := cells2 hfr9
    clear hsr hfr9 hnew
    go_wp2_with fail
    clear y0 y1 y2 y3 y4 u0 u1 u2 u3 l0 l1 l2 k0 k1 k2
    generalize (((W5.setCell ⟨n1, 0, none⟩ (.string s.name)).setCell ⟨n1, 1, none⟩ (.string s.text)).setCell ⟨n1, 2, none⟩ (.slice va s.steps.length vc)) = w9 at *
    have hset := two_set (x := .int .i64 0) (y := .int .i64 0) HFR9.out
    have hne : n1 ≠ n2 := by omega
    have hot2 : ∀ j, j ≠ n2 → ((w9.setCell ⟨n2, 0, none⟩ (.int .i64 0)).setCell ⟨n2, 1, none⟩ (.int .i64 0)).heap[j]? = w9.heap[j]? := fun j hj => by rw [Below.heap_setCell _ _ _ _ hj, Below.heap_setCell _ _ _ _ hj]
    have hn10 := (hot2 n1 hne).trans HN9.out
    have hbl : Below n0 w ((w9.setCell ⟨n2, 0, none⟩ (.int .i64 0)).setCell ⟨n2, 1, none⟩ (.int .i64 0)) := (HTS.out.setCell (p := ⟨n2, 0, none⟩) (by show n0 ≤ n2; omega) _).setCell (p := ⟨n2, 1, none⟩) (by show n0 ≤ n2; omega) _
    generalize (w9.setCell ⟨n2, 0, none⟩ (.int .i64 0)).setCell ⟨n2, 1, none⟩ (.int .i64 0) = w10 at *
    obtain ⟨a0, a1, a2, -, -, -⟩ := cells3h hn10
    obtain ⟨d0, d1, -, -⟩ := cells2 hset
    have hall : ∀ g, inSpan E E2 g → g < W5.heap.size → w10.heap[g]? = W5.heap[g]? := fun g hg _ => by
      have h1 := hg.1
      exact (hot2 g (by omega)).trans (hot g (by omega))
    refine bodyPost_ret (v := .tuple #[.agg #[.string s.name, .string s.text, .slice va s.steps.length vc], .agg #[.int .i64 0, .int .i64 0]]) (by simp [results, Try.results9, go_sem, a0, a1, a2, d0, d1]) rfl ?_
    refine ⟨[.string s.name, .string s.text, .slice va s.steps.length vc], rfl, ⟨va, vc, rfl, ?_, ?_, rows, HL5.out, HA5.out.keepB (fun g hg hl => hall g (HP5.out g hg) hl), fun j r x hr hx => ?_⟩, hbl⟩
    · rw [← hse]
      have := HS.out.name
      show d.name.size ≤ _
      unfold maxLen
      omega
    · rw [← hse]
      have := HS.out.text
      show d.text.size ≤ _
      unfold maxLen
      omega
    · have hq := (HQ5.out j r x hr hx).keep hall (fun _ h => h)
      rw [← hse] at hx
      change (d.steps.map normS)[j]? = some x at hx
      rw [List.getElem?_map] at hx
      cases hsd : d.steps[j]? with
      | none => rw [hsd] at hx; cases hx
      | some sd =>
        rw [hsd] at hx
        cases hx
        exact hq.toX (stepOk_norm (HP.out.each sd (List.mem_of_getElem? hsd)) (HS.out.each sd (List.mem_of_getElem? hsd)))
end Go.Proofs.Ytgafjjgnbcjmpaa

/-
  WholeSteps: the plain part.
-/
namespace Go.Proofs.Ytgafjjgnbcjmpaa
open Go Go.RowKit Go.Maps Go.WideShapes

/-- A definition whose steps are turned round by k. -/
def rotD (k : Nat) (d : DefD) : DefD := { d with steps := d.steps.drop k ++ d.steps.take k }
theorem rotD_len (k : Nat) (d : DefD) : (rotD k d).steps.length = d.steps.length := by
  show (d.steps.drop k ++ d.steps.take k).length = _
  rw [List.length_append, List.length_drop, List.length_take]
  omega
theorem rotD_mem {k : Nat} {d : DefD} {s : StepD} (h : s ∈ (rotD k d).steps) : s ∈ d.steps := by
  rcases List.mem_append.1 h with h | h
  · exact List.mem_of_mem_drop h
  · exact List.mem_of_mem_take h
theorem rotD_mem' {k : Nat} {d : DefD} {s : StepD} (h : s ∈ d.steps) : s ∈ (rotD k d).steps := by
  rw [← List.take_append_drop k d.steps] at h
  rcases List.mem_append.1 h with h | h
  · exact List.mem_append.2 (.inr h)
  · exact List.mem_append.2 (.inl h)
theorem rotD_zero (d : DefD) : rotD 0 d = d := by
  unfold rotD
  simp
theorem DefP.rot {d : DefD} (h : DefP d) (k : Nat) : DefP (rotD k d) := ⟨h.name, h.text, by rw [rotD_len]; exact h.slen, fun s hs => h.each s (rotD_mem hs)⟩
theorem SmallD.rot {d : DefD} (h : SmallD d) (k : Nat) : SmallD (rotD k d) := ⟨h.name, h.text, by rw [rotD_len]; exact h.steps, fun s hs => h.each s (rotD_mem hs)⟩
theorem defT_rot (k : Nat) (d : DefD) : defT (rotD k d) = mapT (defKs d) (consIf (hasText d) [scalarT d.name] (scalarT d.text) ++ [seqT ((d.steps.map stepT).drop k ++ (d.steps.map stepT).take k)]) := by
  show mapT (defKs d) (consIf (hasText d) [scalarT d.name] (scalarT d.text) ++ [seqT ((d.steps.drop k ++ d.steps.take k).map stepT)]) = _
  rw [List.map_append, List.map_drop, List.map_take]
theorem hasNote_norm (s : StepD) : hasNote (normS s) = hasNote s := by
  unfold normS
  cases h : hasNote s with
  | false => rfl
  | true => exact h
theorem stepT_norm (s : StepD) : stepT (normS s) = stepT s := by
  have h := hasNote_norm s
  have hk : stepKs (normS s) = stepKs s := by
    unfold stepKs
    rw [h]
    rfl
  have hc : stepCs (normS s) = stepCs s := by
    unfold stepCs
    rw [h]
    cases hn : hasNote s with
    | false => rfl
    | true =>
      have hnt : (normS s).note = s.note := by
        unfold normS
        rw [hn]
        rfl
      rw [hnt]
      rfl
  unfold stepT
  rw [hk, hc]
theorem defT_norm (d : DefD) : defT (normD d) = defT d := by
  show mapT (defKs d) (consIf (hasText d) [scalarT d.name] (scalarT d.text) ++ [seqT ((d.steps.map normS).map stepT)]) = mapT (defKs d) (consIf (hasText d) [scalarT d.name] (scalarT d.text) ++ [seqT (d.steps.map stepT)])
  rw [List.map_map]
  have : stepT ∘ normS = stepT := funext stepT_norm
  rw [this]
theorem sameS_norm (s : StepD) : sameS (normS s) s = true := by
  have hn : sameT (normS s).note s.note = true := by
    unfold normS
    cases h : hasNote s with
    | false =>
      show sameT zeroTree s.note = true
      rw [sameT_symm]
      unfold zeroTree
      rw [noneT_same]
      unfold hasNote at h
      simpa using h
    | true => exact sameT_refl _
  unfold sameS
  rw [hn]
  simp [normS]
theorem sameSs_norm : ∀ l : List StepD, sameSs (l.map normS) l = true
  | [] => rfl
  | a :: l => by
    show (sameS (normS a) a && sameSs (l.map normS) l) = true
    rw [sameS_norm, sameSs_norm l]
    rfl
theorem sameD_norm (d : DefD) : sameD (normD d) d = true := by
  unfold sameD
  show (decide (d.name = d.name) && decide (d.text = d.text) && sameSs (d.steps.map normS) d.steps) = true
  rw [sameSs_norm]
  simp
theorem idxStep_found {n : ByteArray} : ∀ {l : List StepD} {i : Nat}, (∃ s ∈ l, s.name = n) → ∃ k, ∃ hk : k < l.length, idxStep l n i = ((i + k : Nat) : Int) ∧ l[k].name = n
  | [], i, h => by
    obtain ⟨s, hs, _⟩ := h
    cases hs
  | a :: l, i, h => by
    rw [idxStep]
    by_cases ha : a.name = n
    · rw [if_pos ha]
      exact ⟨0, by simp, rfl, ha⟩
    · rw [if_neg ha]
      obtain ⟨s, hs, he⟩ := h
      rcases List.mem_cons.1 hs with rfl | hs
      · exact absurd he ha
      · obtain ⟨k, hk, h1, h2⟩ := idxStep_found (i := i + 1) ⟨s, hs, he⟩
        exact ⟨k + 1, by simp; omega, by rw [h1]; congr 1; omega, h2⟩
/-- A step's name is found in what is read of the definition turned round. -/
theorem rot_found (d : DefD) (k i : Nat) (hi : i < d.steps.length) : ∃ j, ∃ hj : j < (normD (rotD k d)).steps.length, idxStep (normD (rotD k d)).steps d.steps[i].name 0 = (j : Int) ∧ ((normD (rotD k d)).steps[j]).name = d.steps[i].name := by
  have hm : normS d.steps[i] ∈ (normD (rotD k d)).steps := List.mem_map.2 ⟨_, rotD_mem' (List.getElem_mem hi), rfl⟩
  obtain ⟨j, hj, h1, h2⟩ := idxStep_found (i := 0) ⟨_, hm, (rfl : (normS d.steps[i]).name = d.steps[i].name)⟩
  exact ⟨j, hj, h1.trans (by rw [Nat.zero_add]), h2⟩
end Go.Proofs.Ytgafjjgnbcjmpaa

/-
  def.Tree: contract; the root's kids lie in memory of their own.
-/
namespace Go.Proofs.Ytgafjjgnbcjmpaa
open Go Go.RowKit Go.Maps Go.WideShapes

/-- A mapping whose row of kids is no other part's memory. -/
def RootD (w : World) (P : Nat → Prop) (cs : List Value) (ks : List ByteArray) (kids : List Tree) : Prop := ∃ (ka : Option Addr) (kc : Nat) (ba : Option Addr) (bc : Nat) (base : Nat) (rows : List (List Value)), cs = [.int .u8 3, .string { data := #[] }, .slice ka ks.length kc, .slice ba kids.length bc, .int .i64 0] ∧
  w.ownsRow base 9 1 (.slice ka ks.length kc) ks.length (strsV ks) ∧ (∀ g, (Value.slice ka ks.length kc).ownBlock = some g → P g) ∧ (∀ s ∈ ks, s.size ≤ maxLen) ∧ rows.length = kids.length ∧ w.ownsRow base 34 5 (.slice ba kids.length bc) kids.length rows.flatten ∧ (∀ g, (Value.slice ba kids.length bc).ownBlock = some g → P g) ∧
  ∀ (i : Nat) (r : List Value) (x : Tree), rows[i]? = some r → kids[i]? = some x → NodeO w (fun g => P g ∧ (Value.slice ba kids.length bc).ownBlock ≠ some g) r x
theorem RootD.keep {w w' : World} {P Q : Nat → Prop} {cs : List Value} {ks : List ByteArray} {kids : List Tree} (h : RootD w P cs ks kids) (hk : ∀ g, P g → g < w.heap.size → w'.heap[g]? = w.heap[g]?) (hPQ : ∀ g, P g → Q g) : RootD w' Q cs ks kids := by
  obtain ⟨ka, kc, ba, bc, base, rows, h1, h2, h3, h4, h5, h6, h7, h8⟩ := h
  exact ⟨ka, kc, ba, bc, base, rows, h1, ownsRow_keepB h2 (fun g hg => hk g (h3 g hg) (World.ownsRow.lt h2 g hg).2), fun g hg => hPQ g (h3 g hg), h4, h5, ownsRow_keepB h6 (fun g hg => hk g (h7 g hg) (World.ownsRow.lt h6 g hg).2), fun g hg => hPQ g (h7 g hg), fun i r x hr hx => (h8 i r x hr hx).keep (fun g hg hl => hk g hg.1 hl) (fun g hg => ⟨hPQ g hg.1, hg.2⟩)⟩
theorem RootD.toO {w : World} {P : Nat → Prop} {cs : List Value} {ks : List ByteArray} {kids : List Tree} (h : RootD w P cs ks kids) : NodeO w P cs (mapT ks kids) := by
  obtain ⟨ka, kc, ba, bc, base, rows, rfl, h2, h3, h4, h5, h6, h7, h8⟩ := h
  exact .mk (k := 3) rows (by decide) (by simp [ByteArray.size]) h4 (by decide) (RdS.of_owns h2) h5 (RdS.of_owns h6) (fun _ g hg => h3 g hg) (fun _ g hg => h7 g hg) (fun i r x hr hx => (h8 i r x hr hx).keep (fun _ _ _ => rfl) (fun g hg => hg.1))
theorem Built2.cells2 {w : World} {lo N B0 : Nat} {keys : List ByteArray} {kids : List Tree} (h : Built2 w lo N B0 keys kids) : ∃ ka kc ba bc, RootD w (inSpan lo w.heap.size) [.int .u8 3, .string { data := #[] }, .slice ka keys.length kc, .slice ba kids.length bc, .int .i64 0] keys kids ∧
    w.cell? ⟨N, 0, none⟩ = some (.int .u8 3) ∧ w.cell? ⟨N, 1, none⟩ = some (.string { data := #[] }) ∧ w.cell? ⟨N, 2, none⟩ = some (.slice ka keys.length kc) ∧ w.cell? ⟨N, 3, none⟩ = some (.slice ba kids.length bc) ∧ w.cell? ⟨N, 4, none⟩ = some (.int .i64 0) := by
  obtain ⟨vk, vc, h1, h2⟩ := h.ex
  obtain ⟨ka, kc, ba, bc, rfl, rfl⟩ := h1.form
  have h3 := cells5 h2.node
  have hz : ∀ g, g < w.heap.size → ¬ Zb lo N B0 g → inSpan lo w.heap.size g := fun g hg hn => ⟨by
    rcases Nat.lt_or_ge g lo with h4 | h4
    · exact absurd (.inl h4) hn
    · exact h4, hg⟩
  obtain ⟨rows, r1, r2, r3⟩ := h1.cown
  exact ⟨ka, kc, ba, bc, ⟨ka, kc, ba, bc, B0, rows, rfl, h1.kown, fun g hg => hz g (h1.kown.lt g hg).2 (h1.kZ g hg), h1.keyok, r1, r2, fun g hg => hz g (r2.lt g hg).2 (h1.cZ g hg), fun i r x hr hx => (r3 i r x hr hx).keep (fun _ _ _ => rfl) (fun g hg => ⟨hz g hg.1 hg.2.1, hg.2.2.2⟩)⟩, h3⟩

set_option maxRecDepth 100000 in
set_option maxHeartbeats 4000000 in
theorem dTree2_any (d : DefD) (cs : List Value) (sa : Option Addr) (sc : Nat) (w : World) (h : DefR w cs d sa sc) (hs : SmallD d) :
    Calls Try.prog 7 #[.agg cs.toArray] w fun e w' => ∃ cs' : List Value, e = .returned (.agg cs'.toArray) ∧ RootD w' (inSpan w.heap.size w'.heap.size) cs' (defKs d) (defCs d) ∧ Below w.heap.size w w' := by
  obtain ⟨i0, hi, hz0, hz1, hz2⟩ := info_parts Try.info_node
  obtain ⟨rfl, hnm, htx, hst⟩ := h
  have HST := Lib.hid hst
  have HSM := Lib.hid hs
  have hds := hs.steps
  clear hst hs
  go_enter Try.func7, Try.ntmps7
  go_wp2_with fail
  obtain ⟨hb0, g0, g1, hsz⟩ := alloc2 w 24 34 #[.string d.name, .string d.text, .slice sa d.steps.length sc] #[.int .u8 0, .string { data := #[] }, .slice none 0 0, .slice none 0 0, .int .i64 0]
  generalize hwz : (w.alloc (.cells #[.string d.name, .string d.text, .slice sa d.steps.length sc] 24)).alloc (.cells #[.int .u8 0, .string { data := #[] }, .slice none 0 0, .slice none 0 0, .int .i64 0] 34) = wz at *
  have HSZ := Lib.hid hsz
  have HB0 := Lib.hid hb0
  have G0 := Lib.hid g0
  have G1 := Lib.hid g1
  clear hsz hb0 g0 g1 hwz
  refine (drow_any [] (.slice none 0 0) wz ⟨rfl, none, 0, rfl, Nat.le_refl _, Nat.zero_le _, .inl rfl⟩ (by simp) (by simp)).mono ?_
  rintro e w1 ⟨cs1, rfl, -, hcs1, hb1⟩
  obtain rfl := hcs1 rfl
  have hN1 : Below (w.heap.size + 2) wz w1 := hb1.mono (by have := HSZ.out; omega)
  have hlt1 : w.heap.size < w1.heap.size := by have := hN1.size; have := HSZ.out; omega
  have hb2 : Below w1.heap.size w1 (w1.alloc (.cells #[.int .u8 2, .string { data := #[] }, .slice none 0 0, .slice none 0 0, .int .i64 0] 34)) := (Below.refl _ _).alloc (Nat.le_refl _) _
  obtain ⟨x0, x1, x2⟩ := cells3 ((hb2.block _ hlt1).trans ((hN1.block _ (by omega)).trans G0.out))
  have HN1 := Lib.hid hN1
  have HB2 := Lib.hid hb2
  clear hcs1 hb1 hN1 hb2
  go_wp2
  have hsq0 := World.alloc_heap_new w1 (.cells #[.int .u8 2, .string { data := #[] }, .slice none 0 0, .slice none 0 0, .int .i64 0] 34)
  have hsz2 : (w1.alloc (.cells #[.int .u8 2, .string { data := #[] }, .slice none 0 0, .slice none 0 0, .int .i64 0] 34)).heap.size = w1.heap.size + 1 := by simp
  clear x0 x1 x2
  generalize w1.alloc (.cells #[.int .u8 2, .string { data := #[] }, .slice none 0 0, .slice none 0 0, .int .i64 0] 34) = w2 at *
  have HSQ := Lib.hid (SeqB.new (B0 := w1.heap.size + 1) hsq0 (by omega) (by omega))
  have HSZ2 := Lib.hid hsz2
  clear hsq0 hsz2
  have hle1 : w.heap.size + 2 ≤ w1.heap.size := by have := HN1.out.size; have := HSZ.out; omega
  go_loopw [12] (fun i wr => ∃ (j : Nat) (vc : Value), j ≤ d.steps.length ∧ i = .int .i64 j ∧ Hid (SeqB wr w1.heap.size (w1.heap.size + 1) vc ((d.steps.take j).map stepT)) ∧ Hid (Below w1.heap.size w2 wr)) (fun i _ => d.steps.length - (intOf i).toNat)
  case atStart => exact ⟨0, _, by omega, rfl, HSQ, Lib.hid (Below.refl _ _)⟩
  case round =>
    obtain ⟨j, vc, hj, rfl, HR, HB⟩ := hrel
    have hbw : Below w.heap.size w wr := HB0.out.trans ((HN1.out.mono (by omega)).trans ((HB2.out.mono (by omega)).trans (HB.out.mono (by omega))))
    have HBW := Lib.hid hbw
    by_cases hlt : j < d.steps.length
    · obtain ⟨g, off, cap, aa, ac, ka, kc, ba, bc, he, q1, q2, hsr, ⟨a0, a1, a2, a3, a4, a5, a6, a7, a8, a9, a10, a11, a12⟩⟩ := (HST.out.below hbw).at hlt
      cases he
      have hO := HR.out.at'
      have hA : Below wr.heap.size wr (wr.alloc (.cells #[.string d.steps[j].name, .string d.steps[j].action, .string d.steps[j].undo, .slice aa d.steps[j].after.length ac, .int .i64 d.steps[j].most, .int .i64 d.steps[j].first, .int .i64 d.steps[j].factor, .int .i64 d.steps[j].limit, .int .u8 (d.steps[j].note.kind : Int), .string d.steps[j].note.text, .slice ka d.steps[j].note.keys.length kc, .slice ba d.steps[j].note.kids.length bc, .int .i64 d.steps[j].note.line] 45)) := (Below.refl _ _).alloc (Nat.le_refl _) _
      have hKB := World.alloc_heap_new wr (.cells #[.string d.steps[j].name, .string d.steps[j].action, .string d.steps[j].undo, .slice aa d.steps[j].after.length ac, .int .i64 d.steps[j].most, .int .i64 d.steps[j].first, .int .i64 d.steps[j].factor, .int .i64 d.steps[j].limit, .int .u8 (d.steps[j].note.kind : Int), .string d.steps[j].note.text, .slice ka d.steps[j].note.keys.length kc, .slice ba d.steps[j].note.kids.length bc, .int .i64 d.steps[j].note.line] 45)
      have hszA : (wr.alloc (.cells #[.string d.steps[j].name, .string d.steps[j].action, .string d.steps[j].undo, .slice aa d.steps[j].after.length ac, .int .i64 d.steps[j].most, .int .i64 d.steps[j].first, .int .i64 d.steps[j].factor, .int .i64 d.steps[j].limit, .int .u8 (d.steps[j].note.kind : Int), .string d.steps[j].note.text, .slice ka d.steps[j].note.keys.length kc, .slice ba d.steps[j].note.kids.length bc, .int .i64 d.steps[j].note.line] 45)).heap.size = wr.heap.size + 1 := by simp
      have hOA := (hA.block _ (Array.getElem?_eq_some_iff.1 hO).1).trans hO
      have hOL := (Array.getElem?_eq_some_iff.1 hO).1
      have hrs := HR.out.le
      obtain ⟨xs, hxs⟩ := HR.out.owns
      have HXS := Lib.hid hxs
      have HSR := Lib.hid (hsr.below hA)
      have hj0 : (0 : Int) ≤ (j : Int) := by omega
      have hj1 : (j : Int) < (d.steps.length : Int) := by omega
      have hlk : (d.steps.take j).length = j := by simp; omega
      clear hO hsr hxs hbw
      go_wp2_with fail
      clear a0 a1 a2 a3 a4 a5 a6 a7 a8 a9 a10 a11 a12
      generalize wr.alloc (.cells #[.string d.steps[j].name, .string d.steps[j].action, .string d.steps[j].undo, .slice aa d.steps[j].after.length ac, .int .i64 d.steps[j].most, .int .i64 d.steps[j].first, .int .i64 d.steps[j].factor, .int .i64 d.steps[j].limit, .int .u8 (d.steps[j].note.kind : Int), .string d.steps[j].note.text, .slice ka d.steps[j].note.keys.length kc, .slice ba d.steps[j].note.kids.length bc, .int .i64 d.steps[j].note.line] 45) = wA at *
      obtain ⟨a0, a1, a2, a3, a4, a5, a6, a7, a8, a9, a10, a11, a12⟩ := at13_block hKB
      obtain ⟨-, -, -, x3, -⟩ := cells5 hOA
      have HOA := Lib.hid hOA
      have hOAL := (Array.getElem?_eq_some_iff.1 hOA).1
      have HA := Lib.hid hA
      have HXA := Lib.hid (ownsB HXS.out hA)
      clear hKB hOA hA
      refine E_region (S := (fun W => W.cell? ⟨w1.heap.size, 3, none⟩ = some vc ∧ W.cell? ⟨wr.heap.size, 0, none⟩ = some (.string d.steps[j].name) ∧ W.cell? ⟨wr.heap.size, 1, none⟩ = some (.string d.steps[j].action) ∧ W.cell? ⟨wr.heap.size, 2, none⟩ = some (.string d.steps[j].undo) ∧ W.cell? ⟨wr.heap.size, 3, none⟩ = some (.slice aa d.steps[j].after.length ac) ∧ W.cell? ⟨wr.heap.size, 4, none⟩ = some (.int .i64 d.steps[j].most) ∧ W.cell? ⟨wr.heap.size, 5, none⟩ = some (.int .i64 d.steps[j].first) ∧ W.cell? ⟨wr.heap.size, 6, none⟩ = some (.int .i64 d.steps[j].factor) ∧ W.cell? ⟨wr.heap.size, 7, none⟩ = some (.int .i64 d.steps[j].limit) ∧ W.cell? ⟨wr.heap.size, 8, none⟩ = some (.int .u8 (d.steps[j].note.kind : Int)) ∧ W.cell? ⟨wr.heap.size, 9, none⟩ = some (.string d.steps[j].note.text) ∧ W.cell? ⟨wr.heap.size, 10, none⟩ = some (.slice ka d.steps[j].note.keys.length kc) ∧ W.cell? ⟨wr.heap.size, 11, none⟩ = some (.slice ba d.steps[j].note.kids.length bc) ∧ W.cell? ⟨wr.heap.size, 12, none⟩ = some (.int .i64 d.steps[j].note.line))) 5 (by kernel_rfl) ⟨x3, a0, a1, a2, a3, a4, a5, a6, a7, a8, a9, a10, a11, a12⟩ (fun _ _ _ _ _ h => h) (fun Q' hQ hK' hHeld => ?_)
      refine E_take0 hQ (fun _ => hHeld) 0 (v := ?ev1) rfl rfl (by kernel_rfl) (by kernel_rfl) (by kernel_rfl) (by decide) (by rfl) ?ey1 ?er1
      case ey1 => (intro w; go_simp; (try with_reducible rfl))
      (try simp only [Act.put, List.setIfInBounds_toArray, List.set_cons_zero, List.set_cons_succ])
      refine E_take hQ hHeld 1 (v := ?ev2) rfl rfl (by kernel_rfl) (by kernel_rfl) (by kernel_rfl) (by kernel_rfl) (by kernel_rfl) (by rfl) ?ey2 ?er2
      case ey2 => (intro w hSw; (try dsimp only at hSw); go_simp; (try with_reducible rfl))
      (try simp only [Act.put, List.setIfInBounds_toArray, List.set_cons_zero, List.set_cons_succ])
      refine E_take hQ hHeld 2 (v := ?ev3) rfl rfl (by kernel_rfl) (by kernel_rfl) (by kernel_rfl) (by kernel_rfl) (by kernel_rfl) (by rfl) ?ey3 ?er3
      case ey3 => (intro w hSw; (try dsimp only at hSw); go_simp; (try with_reducible rfl))
      (try simp only [Act.put, List.setIfInBounds_toArray, List.set_cons_zero, List.set_cons_succ])
      refine E_one 3 (by kernel_rfl) rfl (by rfl) (fun K hK => ?_)
      go_simp
      refine (dtree_any d.steps[j] _ aa ka ba ac kc bc _ (HSR.out.below ((Below.refl _ wA).drew)) (HSM.out.each _ (List.getElem_mem hlt))).mono ?_
      rintro e w5 ⟨cs5, rfl, hn5, hb5⟩
      obtain ⟨ka5, kc5, ba5, bc5, rfl⟩ := hn5.cells
      have HBD := Lib.hid hb5
      have hb5 : Below wA.heap.size wA w5 := ((Below.refl _ wA).drew).trans hb5
      have h6 : Below w5.heap.size w5 (w5.alloc (.cells #[.int .u8 ((stepT d.steps[j]).kind : Int), .string (stepT d.steps[j]).text, .slice ka5 (stepT d.steps[j]).keys.length kc5, .slice ba5 (stepT d.steps[j]).kids.length bc5, .int .i64 (stepT d.steps[j]).line] 34)) := (Below.refl _ _).alloc (Nat.le_refl _) _
      have HB6 := Lib.hid (hb5.trans (h6.mono hb5.size))
      have HOW6 := Lib.hid (ownsB HXA.out HB6.out)
      have HNK := Lib.hid (hn5.keep (w' := w5.alloc (.cells #[.int .u8 ((stepT d.steps[j]).kind : Int), .string (stepT d.steps[j]).text, .slice ka5 (stepT d.steps[j]).keys.length kc5, .slice ba5 (stepT d.steps[j]).kids.length bc5, .int .i64 (stepT d.steps[j]).line] 34)) (Q := inSpan wA.heap.size (w5.alloc (.cells #[.int .u8 ((stepT d.steps[j]).kind : Int), .string (stepT d.steps[j]).text, .slice ka5 (stepT d.steps[j]).keys.length kc5, .slice ba5 (stepT d.steps[j]).kids.length bc5, .int .i64 (stepT d.steps[j]).line] 34)).heap.size) (fun g hP hl => h6.block g hl) (fun g hP => ⟨hP.1, by have := hP.2; have := h6.size; omega⟩))
      have H6 := Lib.hid h6
      have hsz5 := hb5.size
      clear h6 hb5 hn5
      (skip)
      refine hK.out _ _ (fun _ _ => held14 hHeld HBD.out) (fun hHeld' => ?_)
      replace hHeld := hHeld' (by rfl) (by decide)
      clear hK hHeld'
      (try simp only [Act.put, List.setIfInBounds_toArray, List.set_cons_zero, List.set_cons_succ])
      refine E_one 4 (by kernel_rfl) rfl (by rfl) (fun K hK => ?_)
      go_simp
      (try simp only [Act.put, List.setIfInBounds_toArray, List.set_cons_zero, List.set_cons_succ])
      refine hK.out _ _ (fun _ _ => held14 hHeld H6.out) (fun hHeld' => ?_)
      replace hHeld := hHeld' (by rfl) (by decide)
      clear hK hHeld'
      (try simp only [Act.put, List.setIfInBounds_toArray, List.set_cons_zero, List.set_cons_succ])
      refine E_one 5 (by kernel_rfl) rfl (by rfl) (fun K hK => ?_)
      refine wp_append_lies _ (.tmp 17) (.tmp 20) 32 (by rfl) (w1.heap.size + 1) 34 i0 (.agg #[.int .u8 0, .string { data := #[] }, .slice none 0 0, .slice none 0 0, .int .i64 0]) 5 80 Try.underlying32 hi hz0 hz1 hz2 rfl (by decide) vc ((d.steps.take j).map stepT).length xs (by rfl) HOW6.out ⟨w5.heap.size, 0, none⟩ 1 1 _ (by rfl) rfl (World.news_of_block (World.alloc_heap_new w5 _)) (by simp [Value.oneCell']) (by omega) (by unfold maxLen; simp; omega) (by simp; omega) (by simp; omega) _ rfl ?_
      intro g7 cap7 w7 hown7 hgrow hat hlt7
      have hx8 := hgrow.block w1.heap.size (by have := H6.out.size; omega) (fun e => by have := (HXS.out.lt _ e.symm).1; omega)
      have hO7 := hx8.trans ((HB6.out.block _ hOAL).trans HOA.out)
      obtain ⟨-, -, -, x7, -⟩ := cells5 hO7
      obtain ⟨-, -, -, f7, -⟩ := cells5w hO7
      have HG7 := Lib.hid hgrow
      have HO7 := Lib.hid hown7
      have HAT := Lib.hid hat
      clear hgrow hown7 hat hx8 hO7
      (try simp only [Act.put, List.setIfInBounds_toArray, List.set_cons_zero, List.set_cons_succ])
      refine hK.out _ _ (fun _ h => absurd rfl h) (fun _ => ?_)
      clear hK hHeld
      (try simp only [Act.put, List.setIfInBounds_toArray, List.set_cons_zero, List.set_cons_succ])
      refine E_take0 hQ (fun h => absurd h (by decide)) 6 (v := ?ev4) rfl rfl (by kernel_rfl) (by kernel_rfl) (by kernel_rfl) (by decide) (by rfl) ?ey4 ?er4
      case ey4 => (intro w; go_simp; (try with_reducible rfl))
      (try simp only [Act.put, List.setIfInBounds_toArray, List.set_cons_zero, List.set_cons_succ])
      refine E_one 7 (by kernel_rfl) rfl (by rfl) (fun K hK => ?_)
      go_simp
      (try simp only [Act.put, List.setIfInBounds_toArray, List.set_cons_zero, List.set_cons_succ])
      refine hK.out _ _ (fun h => absurd h (by decide)) (fun _ => ?_)
      clear hK
      (try simp only [Act.put, List.setIfInBounds_toArray, List.set_cons_zero, List.set_cons_succ])
      refine E_done (by kernel_rfl) ?_ _
      refine hK'.out _ _ ?_
      have HSTP := HR.out.step (HA.out.trans (HB6.out.mono (by omega))) (by omega) HNK.out HG7.out HOW6.out HO7.out (by rcases HAT.out with h | h; exact .inl (by rw [h]; rfl); exact .inr (by rw [h]; rfl))
      have hll : ((d.steps.take j).map stepT).length = j := by rw [List.length_map]; exact hlk
      rw [hll] at HSTP
      have HS1 := Lib.hid HSTP.1
      have HS2 := Lib.hid HSTP.2
      clear HSTP x7 f7 x3 a0 a1 a2 a3 a4 a5 a6 a7 a8 a9 a10 a11 a12
      go_wp2
      go_roundw
      case rel =>
        have e1 : (d.steps.take j).map stepT ++ [stepT d.steps[j]] = (d.steps.take (j + 1)).map stepT := by rw [List.take_succ_eq_append_getElem hlt, List.map_append]; rfl
        rw [e1] at HS1
        exact ⟨j + 1, _, by omega, by go_num, HS1, Lib.hid (HB.out.trans HS2.out)⟩
      case measure => simp [intOf]; omega
    · obtain rfl : j = d.steps.length := by omega
      rw [List.take_length] at HR
      have hg0 : wr.heap[w.heap.size]? = _ := (HB.out.block _ (by omega)).trans ((HB2.out.block _ (by omega)).trans ((HN1.out.block _ (by omega)).trans G0.out))
      have hg1 : wr.heap[w.heap.size + 1]? = _ := (HB.out.block _ (by omega)).trans ((HB2.out.block _ (by omega)).trans ((HN1.out.block _ (by omega)).trans G1.out))
      have hl0 := (Array.getElem?_eq_some_iff.1 hg0).1
      have hl1 := (Array.getElem?_eq_some_iff.1 hg1).1
      have GR0 := Lib.hid hg0
      have GR1 := Lib.hid hg1
      have hrs := HR.out.le
      clear hg0 hg1 hbw
      go_wp2_with fail
      refine (builder_new2 (w.heap.size + 2) wr.heap.size wr rfl (by omega)).mono ?_
      rintro e wb ⟨rfl, hB1, hb1⟩
      have HNB := Lib.hid hb1
      obtain ⟨x0, x1, x2⟩ := cells3 ((hb1.block _ (by omega)).trans GR0.out)
      have HBb := Lib.hid hB1
      clear hB1 hb1
      go_wp2_with fail
      refine (dtext_any d.name _).mono ?_
      rintro e wc ⟨rfl, hbwc⟩
      clear x0 x1 x2
      go_wp2_with fail
      refine (put_any2 true (w.heap.size + 2) wr.heap.size (wr.heap.size + 2) wb.heap.size sSaga (scalarT d.name) [] [] _ wb wc HBb.out hbwc (Nat.le_refl _) (scalar_node _ _ hnm) (by decide) (by simp) (by simp)).mono ?_
      rintro e wd ⟨rfl, hB', hb'⟩
      have hN' : Below wr.heap.size wr wd := (HNB.out.trans (hbwc.mono (by have := HBb.out.le; omega))).trans hb'
      obtain ⟨x0, x1, x2⟩ := cells3 ((hN'.block _ (by omega)).trans GR0.out)
      have HBd := Lib.hid hB'
      have HNd := Lib.hid hN'
      clear hB' hb' hN' hbwc
      go_wp2
      refine E_region (S := (fun W => W.cell? ⟨w.heap.size, 1, none⟩ = some (.string d.text))) 7 (by kernel_rfl) x1 (fun _ _ _ _ _ h => h) (fun Q' hQ hK' hHeld => ?_)
      refine E_take0 hQ (fun _ => hHeld) 0 (v := ?fv1) rfl rfl (by kernel_rfl) (by kernel_rfl) (by kernel_rfl) (by decide) (by rfl) ?fy1 ?fr1
      case fy1 => (intro w; go_simp; (try with_reducible rfl))
      (try simp only [Act.put, List.setIfInBounds_toArray, List.set_cons_zero, List.set_cons_succ])
      refine E_take0 hQ (fun _ => hHeld) 1 (v := ?fv2) rfl rfl (by kernel_rfl) (by kernel_rfl) (by kernel_rfl) (by decide) (by rfl) ?fy2 ?fr2
      case fy2 => (intro w; go_simp; (try with_reducible rfl))
      (try simp only [Act.put, List.setIfInBounds_toArray, List.set_cons_zero, List.set_cons_succ])
      refine E_take hQ hHeld 2 (v := ?fv3) rfl rfl (by kernel_rfl) (by kernel_rfl) (by kernel_rfl) (by kernel_rfl) (by kernel_rfl) (by rfl) ?fy3 ?fr3
      case fy3 => (intro w hSw; (try dsimp only at hSw); go_simp; (try with_reducible rfl))
      (try simp only [Act.put, List.setIfInBounds_toArray, List.set_cons_zero, List.set_cons_succ])
      refine E_take0 hQ (fun _ => hHeld) 3 (v := ?fv4) rfl rfl (by kernel_rfl) (by kernel_rfl) (by kernel_rfl) (by decide) (by rfl) ?fy4 ?fr4
      case fy4 => (intro w; go_simp; (try with_reducible rfl))
      (try simp only [Act.put, List.setIfInBounds_toArray, List.set_cons_zero, List.set_cons_succ])
      refine E_take0 hQ (fun _ => hHeld) 4 (v := ?fv5) rfl rfl (by kernel_rfl) (by kernel_rfl) (by kernel_rfl) (by decide) (by rfl) ?fy5 ?fr5
      case fy5 => (intro w; go_simp; (try with_reducible rfl))
      (try simp only [Act.put, List.setIfInBounds_toArray, List.set_cons_zero, List.set_cons_succ])
      refine E_take hQ hHeld 5 (v := ?fv6) rfl rfl (by kernel_rfl) (by kernel_rfl) (by kernel_rfl) (by kernel_rfl) (by kernel_rfl) (by rfl) ?fy6 ?fr6
      case fy6 => (intro w hSw; (try dsimp only at hSw); go_simp; (try with_reducible rfl))
      (try simp only [Act.put, List.setIfInBounds_toArray, List.set_cons_zero, List.set_cons_succ])
      refine E_one 6 (by kernel_rfl) rfl (by rfl) (fun K hK => ?_)
      go_simp
      refine (dtext_any d.text _).mono ?_
      rintro e we ⟨rfl, hbwe⟩
      have HDe := Lib.hid hbwe
      have hbwe : Below wd.heap.size wd we := ((Below.refl _ wd).drew).trans hbwe
      (skip)
      refine hK.out _ _ (fun _ _ => held1 hHeld HDe.out) (fun hHeld' => ?_)
      replace hHeld := hHeld' (by rfl) (by decide)
      clear hK hHeld'
      (try simp only [Act.put, List.setIfInBounds_toArray, List.set_cons_zero, List.set_cons_succ])
      refine E_one 7 (by kernel_rfl) rfl (by rfl) (fun K hK => ?_)
      go_simp
      refine (put_any2 (hasText d) (w.heap.size + 2) wr.heap.size (wr.heap.size + 2) wd.heap.size sText (scalarT d.text) [sSaga] [scalarT d.name] _ wd we HBd.out hbwe (Nat.le_refl _) (scalar_node _ _ htx) (by decide) (by simp) (by simp)).mono ?_
      rintro e wf ⟨rfl, hB', hb'⟩
      have hN' : Below wr.heap.size wr wf := (HNd.out.trans (hbwe.mono (by have := HBd.out.le; omega))).trans hb'
      have HBf := Lib.hid hB'
      have HNf := Lib.hid hN'
      clear hB' hb' hN' hbwe
      (skip)
      refine hK.out _ _ (fun _ h => absurd rfl h) (fun _ => ?_)
      clear hK hHeld
      (try simp only [Act.put, List.setIfInBounds_toArray, List.set_cons_zero, List.set_cons_succ])
      refine E_done (by kernel_rfl) ?_ _
      refine hK'.out _ _ ?_
      obtain ⟨baS, bcS, rfl⟩ := HR.out.form
      rw [List.length_map] at *
      have hso := (HNf.out.block w1.heap.size (by omega)).trans HR.out.at'
      obtain ⟨y0, y1, y2, y3, y4⟩ := cells5 hso
      have HNS := Lib.hid (HR.out.node.keep (w' := wf) (Q := fun g => inSpan (w.heap.size + 2) wr.heap.size g ∨ inSpan wf.heap.size wf.heap.size g) (fun g hP hl => HNf.out.block g hl) (fun g hP => .inl ⟨by have := hP.1; omega, hP.2⟩))
      clear x0 x1 x2 hso
      go_wp2_with fail
      refine (put_any2 true (w.heap.size + 2) wr.heap.size (wr.heap.size + 2) wf.heap.size sSteps (seqT (d.steps.map stepT)) (consIf (hasText d) [sSaga] sText) (consIf (hasText d) [scalarT d.name] (scalarT d.text)) _ wf wf HBf.out (Below.refl _ _) (Nat.le_refl _) HNS.out (by decide) (Nat.le_trans (consIf_le (Nat.le_refl 1)) (by decide)) (Nat.le_trans (consIf_le (Nat.le_refl 1)) (by decide))).mono ?_
      rintro e wg ⟨rfl, hB', hb'⟩
      have hN' : Below wr.heap.size wr wg := HNf.out.trans hb'
      obtain ⟨kaF, kcF, baF, bcF, hno, n0, n1, n2, n3, n4⟩ := hB'.cells2
      rw [show consIf true (consIf (hasText d) [sSaga] sText) sSteps = defKs d from rfl, show consIf true (consIf (hasText d) [scalarT d.name] (scalarT d.text)) (seqT (d.steps.map stepT)) = defCs d from rfl] at *
      have HNOF := Lib.hid hno
      have g1 := (hN'.block _ (by omega)).trans GR1.out
      have HG := Lib.hid g1
      have HNG := Lib.hid hN'
      obtain ⟨q0, q1, q2, q3, q4⟩ := cells5 g1
      obtain ⟨f0, f1, f2, f3, f4⟩ := cells5w g1
      clear g1 hno hB' hb' hN' y0 y1 y2 y3 y4
      go_wp2
      have hset := set5w (x0 := .int .u8 3) (x1 := .string { data := #[] }) (x2 := .slice kaF (defKs d).length kcF) (x3 := .slice baF (defCs d).length bcF) (x4 := .int .i64 0) HG.out
      have hbf := set5w_below (x0 := .int .u8 3) (x1 := .string { data := #[] }) (x2 := .slice kaF (defKs d).length kcF) (x3 := .slice baF (defCs d).length bcF) (x4 := .int .i64 0) (HBW.out.trans (HNG.out.mono (by omega))) (B := w.heap.size + 1) (by omega)
      have hof : ∀ g, g ≠ w.heap.size + 1 → (((((wg.setCell ⟨w.heap.size + 1, 0, none⟩ (.int .u8 3)).setCell ⟨w.heap.size + 1, 1, none⟩ (.string { data := #[] })).setCell ⟨w.heap.size + 1, 2, none⟩ (.slice kaF (defKs d).length kcF)).setCell ⟨w.heap.size + 1, 3, none⟩ (.slice baF (defCs d).length bcF)).setCell ⟨w.heap.size + 1, 4, none⟩ (.int .i64 0)).heap[g]? = wg.heap[g]? := fun g hg => set5w_other hg
      have hsf : (((((wg.setCell ⟨w.heap.size + 1, 0, none⟩ (.int .u8 3)).setCell ⟨w.heap.size + 1, 1, none⟩ (.string { data := #[] })).setCell ⟨w.heap.size + 1, 2, none⟩ (.slice kaF (defKs d).length kcF)).setCell ⟨w.heap.size + 1, 3, none⟩ (.slice baF (defCs d).length bcF)).setCell ⟨w.heap.size + 1, 4, none⟩ (.int .i64 0)).heap.size = wg.heap.size := by simp
      clear q0 q1 q2 q3 q4 f0 f1 f2 f3 f4 n0 n1 n2 n3 n4
      generalize (((((wg.setCell ⟨w.heap.size + 1, 0, none⟩ (.int .u8 3)).setCell ⟨w.heap.size + 1, 1, none⟩ (.string { data := #[] })).setCell ⟨w.heap.size + 1, 2, none⟩ (.slice kaF (defKs d).length kcF)).setCell ⟨w.heap.size + 1, 3, none⟩ (.slice baF (defCs d).length bcF)).setCell ⟨w.heap.size + 1, 4, none⟩ (.int .i64 0)) = wz9 at *
      obtain ⟨y0, y1, y2, y3, y4⟩ := cells5 hset
      have HOF := Lib.hid hof
      have HSF := Lib.hid hsf
      have HBF := Lib.hid hbf
      clear hof hsf hbf hset
      refine bodyPost_ret (v := .agg #[.int .u8 3, .string { data := #[] }, .slice kaF (defKs d).length kcF, .slice baF (defCs d).length bcF, .int .i64 0]) (by simp [results, Try.results7, go_sem, y0, y1, y2, y3, y4]) rfl ?_
      refine ⟨_, rfl, HNOF.out.keep (fun g hP _ => HOF.out g (by have := hP.1; omega)) (fun g hP => ⟨by have := hP.1; omega, by have := hP.2; have := HSF.out; omega⟩), HBF.out⟩
end Go.Proofs.Ytgafjjgnbcjmpaa
