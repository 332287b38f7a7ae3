/-
  parse.step: contract.
-/
import Derived.Test.YtgafjjgnbcjmpaaBq23
import Derived.Test.YtgafjjgnbcjmpaaBq24
import Derived.Test.YtgafjjgnbcjmpaaBq26
namespace Go.Proofs.Ytgafjjgnbcjmpaa
open Go Go.RowKit Go.Maps Go.WideShapes

theorem allocs_facts : ∀ (os : List Obj) (w : World), Below w.heap.size w (os.foldl World.alloc w) ∧ (os.foldl World.alloc w).heap.size = w.heap.size + os.length ∧ ∀ (i : Nat) (o : Obj), os[i]? = some o → (os.foldl World.alloc w).heap[w.heap.size + i]? = some o
  | [], w => ⟨Below.refl _ _, rfl, fun i o h => by cases h⟩
  | a :: os, w => by
    obtain ⟨h1, h2, h3⟩ := allocs_facts os (w.alloc a)
    rw [World.size_alloc] at h1 h2 h3
    have hb : Below w.heap.size w (w.alloc a) := (Below.refl _ w).alloc (Nat.le_refl _) _
    refine ⟨hb.trans (h1.mono (Nat.le_succ _)), by rw [List.foldl_cons, h2, List.length_cons]; omega, fun i o h => ?_⟩
    rcases i with _ | i
    · cases h
      exact (h1.block _ (Nat.lt_succ_self _)).trans (World.alloc_heap_new w a)
    · rw [List.getElem?_cons_succ] at h
      have := h3 i o h
      rw [List.foldl_cons, show w.heap.size + (i + 1) = w.heap.size + 1 + i by omega]
      exact this
theorem zero_node (W : World) (P : Nat → Prop) : NodeO W P [.int .u8 0, .string { data := #[] }, .slice none 0 0, .slice none 0 0, .int .i64 0] zeroTree :=
  NodeO.mk [] (by decide) (Nat.zero_le _) (fun _ h => by cases h) (by decide) ⟨rfl, none, 0, rfl, Nat.le_refl _, Nat.zero_le _, .inl rfl⟩ rfl ⟨rfl, none, 0, rfl, Nat.le_refl _, Nat.zero_le _, .inl rfl⟩ (fun h => absurd rfl h) (fun h => absurd rfl h) (fun i r x h => by cases h)
theorem stepCs_len (s : StepD) : (stepCs s).length ≤ 7 := by
  unfold stepCs
  exact consIf_le (consIf_le (consIf_le (consIf_le (consIf_le (Nat.le_refl _)))))
theorem mem_consIf' {α : Type} {b : Bool} {l : List α} {x y : α} (h : y ∈ l) : y ∈ consIf b l x := by
  cases b
  · exact h
  · exact List.mem_append.2 (.inl h)
theorem step_must (s : StepD) : ∀ k ∈ [sName, sAction], k ∈ (stepT s).keys := by
  intro k hk
  show k ∈ stepKs s
  unfold stepKs
  exact mem_consIf' (mem_consIf' (mem_consIf' (mem_consIf' (mem_consIf' hk))))
/-- The boxes, their memory in P. -/
structure BoxP (n0 n1 n2 n3 n4 n5 n6 : Nat) (P : Nat → Prop) (σ : StepD) (W : World) : Prop where
  name : W.heap[n0]? = some (.cells #[.string σ.name] 9 (0, 0))
  action : W.heap[n1]? = some (.cells #[.string σ.action] 9 (0, 0))
  undo : W.heap[n2]? = some (.cells #[.string σ.undo] 9 (0, 0))
  after : ∃ va vc, W.heap[n3]? = some (.cells #[.slice va σ.after.length vc] 31 (0, 0)) ∧ RdS W (.slice va σ.after.length vc) 1 σ.after.length (strsV σ.after) ∧ ∀ g, (Value.slice va σ.after.length vc).ownBlock = some g → P g
  tries : W.heap[n4]? = some (.cells #[.int .i64 σ.most, .int .i64 σ.first, .int .i64 σ.factor] 43 (0, 0))
  limit : W.heap[n5]? = some (.cells #[.int .i64 σ.limit] 3 (0, 0))
  note : ∃ e0 e1 e2 e3 e4, W.heap[n6]? = some (.cells #[e0, e1, e2, e3, e4] 34 (0, 0)) ∧ NodeO W P [e0, e1, e2, e3, e4] σ.note
theorem BoxS.toP {n0 n1 n2 n3 n4 n5 n6 E : Nat} {σ : StepD} {W : World} (h : BoxS n0 n1 n2 n3 n4 n5 n6 E σ W) : BoxP n0 n1 n2 n3 n4 n5 n6 (inSpan E W.heap.size) σ W := by
  obtain ⟨h0, h1, h2, ⟨va, vc, h3, h4⟩, h5, h6, ⟨e0, e1, e2, e3, e4, h7, h8⟩⟩ := h
  exact ⟨h0, h1, h2, ⟨va, vc, h3, RdS.of_owns h4, fun g hg => World.ownsRow.lt h4 g hg⟩, h5, h6, ⟨e0, e1, e2, e3, e4, h7, h8.span⟩⟩
theorem BoxP.keep {n0 n1 n2 n3 n4 n5 n6 : Nat} {P : Nat → Prop} {σ : StepD} {W W' : World} (h : BoxP n0 n1 n2 n3 n4 n5 n6 P σ W) (hk : ∀ (j : Nat), (j = n0 ∨ j = n1 ∨ j = n2 ∨ j = n3 ∨ j = n4 ∨ j = n5 ∨ j = n6 ∨ P j) → j < W.heap.size → W'.heap[j]? = W.heap[j]?) : BoxP n0 n1 n2 n3 n4 n5 n6 P σ W' := by
  have hh : ∀ (j : Nat) (ob : Obj), (j = n0 ∨ j = n1 ∨ j = n2 ∨ j = n3 ∨ j = n4 ∨ j = n5 ∨ j = n6 ∨ P j) → W.heap[j]? = some ob → W'.heap[j]? = some ob := fun j ob hj ho => (hk j hj (Array.getElem?_eq_some_iff.1 ho).1).trans ho
  obtain ⟨h0, h1, h2, ⟨va, vc, h3, h4, h4p⟩, h5, h6, ⟨e0, e1, e2, e3, e4, h7, h8⟩⟩ := h
  exact ⟨hh _ _ (by simp) h0, hh _ _ (by simp) h1, hh _ _ (by simp) h2, ⟨va, vc, hh _ _ (by simp) h3, h4.keepB (fun g hg hl => hk g (by simp [h4p g hg]) hl), h4p⟩, hh _ _ (by simp) h5, hh _ _ (by simp) h6, ⟨e0, e1, e2, e3, e4, hh _ _ (by simp) h7, h8.keep (fun g hg hl => hk g (by simp [hg]) hl) (fun _ h => h)⟩⟩
theorem invS_keep {n0 n1 n2 n3 n4 n5 n6 c0 q0 c1 q1 c2 q2 c3 c4 c5 c6 E N : Nat} {s : StepD} (hc : ∀ j, (j = c0 ∨ j = q0 ∨ j = c1 ∨ j = q1 ∨ j = c2 ∨ j = q2 ∨ j = c3 ∨ j = c4 ∨ j = c5 ∨ j = c6) → j < N) (hn : n0 < N ∧ n1 < N ∧ n2 < N ∧ n3 < N ∧ n4 < N ∧ n5 < N ∧ n6 < N) (hE : N + 2 ≤ E) : ∀ i W W', InvS n0 n1 n2 n3 n4 n5 n6 c0 q0 c1 q1 c2 q2 c3 c4 c5 c6 E s i W → Keep2 N W W' → InvS n0 n1 n2 n3 n4 n5 n6 c0 q0 c1 q1 c2 q2 c3 c4 c5 c6 E s i W' := by
  rintro i W W' ⟨h1, h2⟩ hk
  exact ⟨h1.keep (fun j ob hj ho => (hk.block j (Array.getElem?_eq_some_iff.1 ho).1 (by omega) (by omega)).trans ho), h2.keep (fun j ob hj ho => (hk.block j (Array.getElem?_eq_some_iff.1 ho).1 (by have := hc j hj; omega) (by have := hc j hj; omega)).trans ho)⟩
/-- The cells of a step, all of whose memory lies in P. -/
def StepQ (W : World) (P : Nat → Prop) (r : List Value) (s : StepD) : Prop := ∃ aa ac ka kc ba bc, r = [.string s.name, .string s.action, .string s.undo, .slice aa s.after.length ac, .int .i64 s.most, .int .i64 s.first, .int .i64 s.factor, .int .i64 s.limit, .int .u8 (s.note.kind : Int), .string s.note.text, .slice ka s.note.keys.length kc, .slice ba s.note.kids.length bc, .int .i64 s.note.line] ∧ RdS W (.slice aa s.after.length ac) 1 s.after.length (strsV s.after) ∧ (∀ g, (Value.slice aa s.after.length ac).ownBlock = some g → P g) ∧ NodeO W P [.int .u8 (s.note.kind : Int), .string s.note.text, .slice ka s.note.keys.length kc, .slice ba s.note.kids.length bc, .int .i64 s.note.line] s.note
theorem StepQ.keep {W W' : World} {P Q : Nat → Prop} {r : List Value} {s : StepD} (h : StepQ W P r s) (hk : ∀ g, P g → g < W.heap.size → W'.heap[g]? = W.heap[g]?) (hPQ : ∀ g, P g → Q g) : StepQ W' Q r s := by
  obtain ⟨aa, ac, ka, kc, ba, bc, h1, h2, h3, h4⟩ := h
  exact ⟨aa, ac, ka, kc, ba, bc, h1, h2.keepB (fun g hg hl => hk g (h3 g hg) hl), fun g hg => hPQ g (h3 g hg), h4.keep hk hPQ⟩
theorem StepQ.toX {W : World} {P : Nat → Prop} {r : List Value} {s : StepD} (h : StepQ W P r s) (hok : StepOk s) : StepX W r s := by
  obtain ⟨aa, ac, ka, kc, ba, bc, h1, h2, h3, h4⟩ := h
  exact ⟨aa, ac, ka, kc, ba, bc, h1, hok, h2, h4.toR⟩
theorem set13_other0 {W : World} {g k : Nat} {x0 x1 x2 x3 x4 x5 x6 x7 x8 x9 x10 x11 x12 : Value} (h : k ≠ g) : (((((((((((((W.setCell ⟨g, 0, none⟩ (x0)).setCell ⟨g, 1, none⟩ (x1)).setCell ⟨g, 2, none⟩ (x2)).setCell ⟨g, 3, none⟩ (x3)).setCell ⟨g, 4, none⟩ (x4)).setCell ⟨g, 5, none⟩ (x5)).setCell ⟨g, 6, none⟩ (x6)).setCell ⟨g, 7, none⟩ (x7)).setCell ⟨g, 8, none⟩ (x8)).setCell ⟨g, 9, none⟩ (x9)).setCell ⟨g, 10, none⟩ (x10)).setCell ⟨g, 11, none⟩ (x11)).setCell ⟨g, 12, none⟩ (x12)).heap[k]? = W.heap[k]? := by
  rw [Below.heap_setCell _ _ _ _ h, Below.heap_setCell _ _ _ _ h, Below.heap_setCell _ _ _ _ h, Below.heap_setCell _ _ _ _ h, Below.heap_setCell _ _ _ _ h, Below.heap_setCell _ _ _ _ h, Below.heap_setCell _ _ _ _ h, Below.heap_setCell _ _ _ _ h, Below.heap_setCell _ _ _ _ h, Below.heap_setCell _ _ _ _ h, Below.heap_setCell _ _ _ _ h, Below.heap_setCell _ _ _ _ h, Below.heap_setCell _ _ _ _ h]
theorem set13_size0 {W : World} {g : Nat} {x0 x1 x2 x3 x4 x5 x6 x7 x8 x9 x10 x11 x12 : Value} : (((((((((((((W.setCell ⟨g, 0, none⟩ (x0)).setCell ⟨g, 1, none⟩ (x1)).setCell ⟨g, 2, none⟩ (x2)).setCell ⟨g, 3, none⟩ (x3)).setCell ⟨g, 4, none⟩ (x4)).setCell ⟨g, 5, none⟩ (x5)).setCell ⟨g, 6, none⟩ (x6)).setCell ⟨g, 7, none⟩ (x7)).setCell ⟨g, 8, none⟩ (x8)).setCell ⟨g, 9, none⟩ (x9)).setCell ⟨g, 10, none⟩ (x10)).setCell ⟨g, 11, none⟩ (x11)).setCell ⟨g, 12, none⟩ (x12)).heap.size = W.heap.size := by simp
theorem set13_below0 {W w : World} {g B : Nat} {x0 x1 x2 x3 x4 x5 x6 x7 x8 x9 x10 x11 x12 : Value} (h : Below B w W) (hB : B ≤ g) : Below B w (((((((((((((W.setCell ⟨g, 0, none⟩ (x0)).setCell ⟨g, 1, none⟩ (x1)).setCell ⟨g, 2, none⟩ (x2)).setCell ⟨g, 3, none⟩ (x3)).setCell ⟨g, 4, none⟩ (x4)).setCell ⟨g, 5, none⟩ (x5)).setCell ⟨g, 6, none⟩ (x6)).setCell ⟨g, 7, none⟩ (x7)).setCell ⟨g, 8, none⟩ (x8)).setCell ⟨g, 9, none⟩ (x9)).setCell ⟨g, 10, none⟩ (x10)).setCell ⟨g, 11, none⟩ (x11)).setCell ⟨g, 12, none⟩ (x12)) :=
  ((((((((((((h.setCell (p := ⟨g, 0, none⟩) hB _).setCell (p := ⟨g, 1, none⟩) hB _).setCell (p := ⟨g, 2, none⟩) hB _).setCell (p := ⟨g, 3, none⟩) hB _).setCell (p := ⟨g, 4, none⟩) hB _).setCell (p := ⟨g, 5, none⟩) hB _).setCell (p := ⟨g, 6, none⟩) hB _).setCell (p := ⟨g, 7, none⟩) hB _).setCell (p := ⟨g, 8, none⟩) hB _).setCell (p := ⟨g, 9, none⟩) hB _).setCell (p := ⟨g, 10, none⟩) hB _).setCell (p := ⟨g, 11, none⟩) hB _).setCell (p := ⟨g, 12, none⟩) hB _
theorem set13_new {W : World} {g : Nat} {t : TypeId} {x0 x1 x2 x3 x4 x5 x6 x7 x8 x9 x10 x11 x12 a0 a1 a2 a3 a4 a5 a6 a7 a8 a9 a10 a11 a12 : Value} (h : W.heap[g]? = some (.cells #[a0, a1, a2, a3, a4, a5, a6, a7, a8, a9, a10, a11, a12] t (0, 0))) : (((((((((((((W.setCell ⟨g, 0, none⟩ (x0)).setCell ⟨g, 1, none⟩ (x1)).setCell ⟨g, 2, none⟩ (x2)).setCell ⟨g, 3, none⟩ (x3)).setCell ⟨g, 4, none⟩ (x4)).setCell ⟨g, 5, none⟩ (x5)).setCell ⟨g, 6, none⟩ (x6)).setCell ⟨g, 7, none⟩ (x7)).setCell ⟨g, 8, none⟩ (x8)).setCell ⟨g, 9, none⟩ (x9)).setCell ⟨g, 10, none⟩ (x10)).setCell ⟨g, 11, none⟩ (x11)).setCell ⟨g, 12, none⟩ (x12)).heap[g]? = some (.cells #[x0, x1, x2, x3, x4, x5, x6, x7, x8, x9, x10, x11, x12] t (0, 0)) := by
  simp [World.setCell, h, Array.getElem?_modify]
/-- What the reader of keys leaves. -/
def FinS (W0 : World) (n0 n1 n2 n3 n4 n5 n6 : Nat) (s : StepD) (W : World) (b : Bool) (xf : Value) : Prop :=
  ∃ E E2, W0.heap.size ≤ E ∧ E2 ≤ W.heap.size ∧ BoxP n0 n1 n2 n3 n4 n5 n6 (inSpan E E2) (normS s) W ∧ TurnS (fun j => n0 ≤ j ∧ j ≤ n6) W0 W ∧ (b = true → ∀ f, xf = .pointer (some ⟨f, 0, none⟩) → f < E ∨ E2 ≤ f)
theorem FinS.size {W0 : World} {n0 n1 n2 n3 n4 n5 n6 : Nat} {s : StepD} {W : World} {b : Bool} {xf : Value} (h : FinS W0 n0 n1 n2 n3 n4 n5 n6 s W b xf) : W0.heap.size ≤ W.heap.size := by
  obtain ⟨_, _, _, _, _, h, _⟩ := h
  exact h.size
theorem FinS.alloc {W0 : World} {n0 n1 n2 n3 n4 n5 n6 : Nat} {s : StepD} {W : World} {b b' : Bool} {xf : Value} {o ob : Obj} (h : FinS W0 n0 n1 n2 n3 n4 n5 n6 s W b xf) (_ : (W.alloc o).heap[W.heap.size]? = some ob) : FinS W0 n0 n1 n2 n3 n4 n5 n6 s (W.alloc o) b' (.pointer (some ⟨W.heap.size, 0, none⟩)) := by
  obtain ⟨E, E2, h1, h2, h3, h4, _⟩ := h
  refine ⟨E, E2, h1, by rw [World.size_alloc]; omega, h3.keep (fun j _ hj => Below.heap_alloc _ _ _ hj), h4.alloc o, fun _ f hf => ?_⟩
  cases hf
  exact .inr h2
theorem FinS.set {W0 : World} {n0 n1 n2 n3 n4 n5 n6 f : Nat} {s : StepD} {W : World} (h : FinS W0 n0 n1 n2 n3 n4 n5 n6 s W true (.pointer (some ⟨f, 0, none⟩))) (hf : W0.heap.size ≤ f) (hn : n0 < W0.heap.size ∧ n1 < W0.heap.size ∧ n2 < W0.heap.size ∧ n3 < W0.heap.size ∧ n4 < W0.heap.size ∧ n5 < W0.heap.size ∧ n6 < W0.heap.size) : FinS W0 n0 n1 n2 n3 n4 n5 n6 s ((W.setCell ⟨f, 0, none⟩ (.int .i64 0)).setCell ⟨f, 1, none⟩ (.int .i64 0)) true (.pointer (some ⟨f, 0, none⟩)) := by
  obtain ⟨E, E2, h1, h2, h3, h4, h5⟩ := h
  have h6 := h5 rfl f rfl
  have hot : ∀ j, j ≠ f → ((W.setCell ⟨f, 0, none⟩ (.int .i64 0)).setCell ⟨f, 1, none⟩ (.int .i64 0)).heap[j]? = W.heap[j]? := fun j hj => by rw [Below.heap_setCell _ _ _ _ hj, Below.heap_setCell _ _ _ _ hj]
  refine ⟨E, E2, h1, by simpa using h2, h3.keep (fun j hj _ => hot j (by
    rcases hj with hj | hj | hj | hj | hj | hj | hj | hj
    · omega
    · omega
    · omega
    · omega
    · omega
    · omega
    · omega
    · have := hj.1; have := hj.2; omega)), (h4.setCell (p := ⟨f, 0, none⟩) (fun h => absurd h (by show ¬ f < _; omega)) _).setCell (p := ⟨f, 1, none⟩) (fun h => absurd h (by show ¬ f < _; omega)) _, h5⟩

abbrev ParseSt (w3 : World) (_n0 _n1 _n2 n3 n4 n5 n6 n7 n8 n9 : Nat) (t : Tree) (ka : Option Addr) (kc : Nat) (ba : Option Addr) (bc : Nat) (sd : StepD) (b0 b1 b2 b3 b4 b5 b6 b7 b8 b9 b10 b11 b12 b13 b14 b15 b16 b17 b18 b19 b20 _b21 : Bool) (x11 x12 x13 x14 x15 x16 x17 x18 x19 x20 x21 x22 x23 x24 : Value) (W : World) : Prop :=
  (b19 = false → Below w3.drew.heap.size w3.drew W) ∧ (b0 = true → ∃ M, x12 = .map (some M) ∧ (b19 = false → w3.drew.heap.size ≤ M ∧ ∃ n g, MapF W M n g ∧ n ≤ b2.toNat + b4.toNat + b6.toNat + b8.toNat + b10.toNat + b12.toNat + b14.toNat ∧ (b2 = true → g sName = some x13) ∧ (b4 = true → g sAction = some x14) ∧ (b6 = true → g sUndo = some x15) ∧ (b8 = true → g sAfter = some x16) ∧ (b10 = true → g sRetry = some x17) ∧ (b12 = true → g sLimit = some x18) ∧ (b14 = true → g sNote = some x19))) ∧ (b1 = true → ∃ c q, x13 = rdV (.text c q) ∧ (b19 = false → w3.drew.heap.size ≤ c ∧ W.heap[c]? = some (.cells #[.pointer (some ⟨n3, 0, none⟩)] 68 (0, 0)) ∧ w3.drew.heap.size ≤ q ∧ W.heap[q]? = some (.cells #[.int .i64 64] 3 (0, 0)))) ∧ (b3 = true → ∃ c q, x14 = rdV (.text c q) ∧ (b19 = false → w3.drew.heap.size ≤ c ∧ W.heap[c]? = some (.cells #[.pointer (some ⟨n4, 0, none⟩)] 68 (0, 0)) ∧ w3.drew.heap.size ≤ q ∧ W.heap[q]? = some (.cells #[.int .i64 64] 3 (0, 0)))) ∧ (b5 = true → ∃ c q, x15 = rdV (.text c q) ∧ (b19 = false → w3.drew.heap.size ≤ c ∧ W.heap[c]? = some (.cells #[.pointer (some ⟨n5, 0, none⟩)] 68 (0, 0)) ∧ w3.drew.heap.size ≤ q ∧ W.heap[q]? = some (.cells #[.int .i64 64] 3 (0, 0)))) ∧ (b7 = true → ∃ c, x16 = rdV (.names c) ∧ (b19 = false → w3.drew.heap.size ≤ c ∧ W.heap[c]? = some (.cells #[.pointer (some ⟨n6, 0, none⟩)] 86 (0, 0)))) ∧ (b9 = true → ∃ c, x17 = rdV (.retry c) ∧ (b19 = false → w3.drew.heap.size ≤ c ∧ W.heap[c]? = some (.cells #[.pointer (some ⟨n7, 0, none⟩)] 88 (0, 0)))) ∧ (b11 = true → ∃ c, x18 = rdV (.number c) ∧ (b19 = false → w3.drew.heap.size ≤ c ∧ W.heap[c]? = some (.cells #[.pointer (some ⟨n8, 0, none⟩)] 77 (0, 0)))) ∧ (b13 = true → ∃ c, x19 = rdV (.note c) ∧ (b19 = false → w3.drew.heap.size ≤ c ∧ W.heap[c]? = some (.cells #[.pointer (some ⟨n9, 0, none⟩)] 53 (0, 0)))) ∧ (b15 = true → x20 = x12) ∧ (b16 = true → ∃ s, x21 = .slice (some ⟨s, 0, none⟩) 2 2 ∧ (b19 = false → w3.drew.heap.size ≤ s ∧ W.heap[s]? = some (.cells #[.string { data := #[110, 97, 109, 101] }, .string { data := #[97, 99, 116, 105, 111, 110] }] 9 (0, 0)))) ∧ (b17 = true → ∃ p q, x22 = keysV p q ∧ (b19 = false → w3.drew.heap.size ≤ p ∧ w3.drew.heap.size ≤ q ∧ (∃ M, x12 = .map (some M) ∧ W.heap[p]? = some (.cells #[.map (some M)] 69 (0, 0))) ∧ W.heap[q]? = some (.cells #[x21] 31 (0, 0)))) ∧ (b18 = true → x23 = .agg #[.int .u8 (t.kind : Int), .string t.text, .slice ka t.keys.length kc, .slice ba t.kids.length bc, .int .i64 t.line]) ∧ (b19 = true → x24 = .agg #[.int .i64 0, .int .i64 0] ∧ FinS w3.drew n3 n4 n5 n6 n7 n8 n9 sd W b20 x11) ∧ (b20 = true → ∃ f, x11 = .pointer (some ⟨f, 0, none⟩) ∧ w3.drew.heap.size ≤ f ∧ W.heap[f]? = some (.cells #[.int .i64 0, .int .i64 0] 29 (0, 0)))

set_option maxRecDepth 100000 in
set_option maxHeartbeats 16000000 in
theorem step_any (sd : StepD) (t : Tree) (cs : List Value) (w0 w : World) (hT : t = stepT sd) (h : NodeR w0 cs t) (hb : Below w0.heap.size w0 w) (hp : StepP sd) :
    Calls Try.prog 25 #[.agg cs.toArray] w fun e w' => ∃ r, e = .returned (.tuple #[.agg r.toArray, zeroF]) ∧ StepQ w' (inSpan w.heap.size w'.heap.size) r (normS sd) ∧ Below w.heap.size w w' := by
  obtain ⟨ka, kc, ba, bc, rfl⟩ := h.cells
  have HN := Lib.hid h
  have HT := Lib.hid hT
  have HP := Lib.hid hp
  have hw0 := hb.size
  clear h hT hp
  go_enter Try.func25, Try.ntmps25
  go_upto_region 6 with fail
  obtain ⟨hb3, hsz, hf⟩ := allocs_facts [(.cells #[.int .u8 (t.kind : Int), .string t.text, .slice ka t.keys.length kc, .slice ba t.kids.length bc, .int .i64 t.line] 34), (.cells #[.string { data := #[] }, .string { data := #[] }, .string { data := #[] }, .slice none 0 0, .int .i64 0, .int .i64 0, .int .i64 0, .int .i64 0, .int .u8 0, .string { data := #[] }, .slice none 0 0, .slice none 0 0, .int .i64 0] 45), (.cells #[.int .i64 0, .int .i64 0] 29), (.cells #[.string { data := #[] }] 9), (.cells #[.string { data := #[] }] 9), (.cells #[.string { data := #[] }] 9), (.cells #[.slice none 0 0] 31), (.cells #[.int .i64 0, .int .i64 0, .int .i64 0] 43), (.cells #[.int .i64 0] 3), (.cells #[.int .u8 0, .string { data := #[] }, .slice none 0 0, .slice none 0 0, .int .i64 0] 34)] w
  have g0 := hf 0 _ rfl
  have g1 := hf 1 _ rfl
  have g2 := hf 2 _ rfl
  have g3 := hf 3 _ rfl
  have g4 := hf 4 _ rfl
  have g5 := hf 5 _ rfl
  have g6 := hf 6 _ rfl
  have g7 := hf 7 _ rfl
  have g8 := hf 8 _ rfl
  have g9 := hf 9 _ rfl
  clear hf
  simp only [List.foldl_cons, List.foldl_nil, List.length_cons, List.length_nil, Nat.reduceAdd] at hb3 hsz g0 g1 g2 g3 g4 g5 g6 g7 g8 g9
  generalize ((((((((((w.alloc (.cells #[.int .u8 (t.kind : Int), .string t.text, .slice ka t.keys.length kc, .slice ba t.kids.length bc, .int .i64 t.line] 34)).alloc (.cells #[.string { data := #[] }, .string { data := #[] }, .string { data := #[] }, .slice none 0 0, .int .i64 0, .int .i64 0, .int .i64 0, .int .i64 0, .int .u8 0, .string { data := #[] }, .slice none 0 0, .slice none 0 0, .int .i64 0] 45)).alloc (.cells #[.int .i64 0, .int .i64 0] 29)).alloc (.cells #[.string { data := #[] }] 9)).alloc (.cells #[.string { data := #[] }] 9)).alloc (.cells #[.string { data := #[] }] 9)).alloc (.cells #[.slice none 0 0] 31)).alloc (.cells #[.int .i64 0, .int .i64 0, .int .i64 0] 43)).alloc (.cells #[.int .i64 0] 3)).alloc (.cells #[.int .u8 0, .string { data := #[] }, .slice none 0 0, .slice none 0 0, .int .i64 0] 34)) = w3 at *
  have hz0 : w.heap.size + 0 = w.heap.size := rfl
  rw [hz0] at g0
  have HEQ0 : ∃ n1 n2 n3 n4 n5 n6 n7 n8 n9, w.heap.size + 1 = n1 ∧ n1 + 1 = n2 ∧ n2 + 1 = n3 ∧ n3 + 1 = n4 ∧ n4 + 1 = n5 ∧ n5 + 1 = n6 ∧ n6 + 1 = n7 ∧ n7 + 1 = n8 ∧ n8 + 1 = n9 := ⟨_, _, _, _, _, _, _, _, _, rfl, rfl, rfl, rfl, rfl, rfl, rfl, rfl, rfl⟩
  obtain ⟨n1, n2, n3, n4, n5, n6, n7, n8, n9, e1, e2, e3, e4, e5, e6, e7, e8, e9⟩ := HEQ0
  rw [e1, e2, e3, e4, e5, e6, e7, e8, e9]
  generalize hn0 : w.heap.size = n0 at *
  rw [show n0 + 2 = n2 by omega] at g2
  rw [show n0 + 3 = n3 by omega] at g3
  rw [show n0 + 4 = n4 by omega] at g4
  rw [show n0 + 5 = n5 by omega] at g5
  rw [show n0 + 6 = n6 by omega] at g6
  rw [show n0 + 7 = n7 by omega] at g7
  rw [show n0 + 8 = n8 by omega] at g8
  rw [show n0 + 9 = n9 by omega] at g9
  rw [e1] at g1
  have HEQ : Hid (n0 + 1 = n1 ∧ n1 + 1 = n2 ∧ n2 + 1 = n3 ∧ n3 + 1 = n4 ∧ n4 + 1 = n5 ∧ n5 + 1 = n6 ∧ n6 + 1 = n7 ∧ n7 + 1 = n8 ∧ n8 + 1 = n9) := Lib.hid ⟨e1, e2, e3, e4, e5, e6, e7, e8, e9⟩
  have HG3 : Hid (w3.drew.heap[n0]? = _) := Lib.hid g0
  have HSR : Hid (w3.drew.heap[n1]? = _) := Lib.hid g1
  have HFR : Hid (w3.drew.heap[n2]? = _) := Lib.hid g2
  have HI3 : Hid (w3.drew.heap[n3]? = _) := Lib.hid g3
  have HI4 : Hid (w3.drew.heap[n4]? = _) := Lib.hid g4
  have HI5 : Hid (w3.drew.heap[n5]? = _) := Lib.hid g5
  have HI6 : Hid (w3.drew.heap[n6]? = _) := Lib.hid g6
  have HI7 : Hid (w3.drew.heap[n7]? = _) := Lib.hid g7
  have HI8 : Hid (w3.drew.heap[n8]? = _) := Lib.hid g8
  have HI9 : Hid (w3.drew.heap[n9]? = _) := Lib.hid g9
  have HSZ3 : Hid (w3.drew.heap.size = n0 + 10) := Lib.hid hsz
  have HLT3 : Hid (n0 < w3.drew.heap.size) := Lib.hid (by rw [HSZ3.out]; omega)
  have HW3 : Hid (Below w0.heap.size w0 w3.drew) := Lib.hid (hb.trans (hb3.mono hw0)).drew
  have HBW : Hid (Below n0 w w3.drew) := Lib.hid hb3.drew
  clear g0 g1 g2 g3 g4 g5 g6 g7 g8 g9 e1 e2 e3 e4 e5 e6 e7 e8 e9 hsz hb hb3 hz0
  refine E_inv (fun listed act0 W => ∃ (b0 b1 b2 b3 b4 b5 b6 b7 b8 b9 b10 b11 b12 b13 b14 b15 b16 b17 b18 b19 b20 b21 : Bool) (x11 x12 x13 x14 x15 x16 x17 x18 x19 x20 x21 x22 x23 x24 : Value), listed = #[b0, b1, b2, b3, b4, b5, b6, b7, b8, b9, b10, b11, b12, b13, b14, b15, b16, b17, b18, b19, b20, b21] ∧ act0 = { tmps := #[.agg #[.int .u8 (t.kind : Int), .string t.text, .slice ka t.keys.length kc, .slice ba t.kids.length bc, .int .i64 t.line], .pointer (some ⟨n0, 0, none⟩), .pointer (some ⟨n1, 0, none⟩), .pointer (some ⟨n2, 0, none⟩), .pointer (some ⟨n3, 0, none⟩), .pointer (some ⟨n4, 0, none⟩), .pointer (some ⟨n5, 0, none⟩), .pointer (some ⟨n6, 0, none⟩), .pointer (some ⟨n7, 0, none⟩), .pointer (some ⟨n8, 0, none⟩), .pointer (some ⟨n9, 0, none⟩), x11, x12, x13, x14, x15, x16, x17, x18, x19, x20, x21, x22, x23, x24, undef, undef, undef, undef, undef, undef, undef, undef, undef], defers := [] } ∧ ParseSt w3 n0 n1 n2 n3 n4 n5 n6 n7 n8 n9 t ka kc ba bc sd b0 b1 b2 b3 b4 b5 b6 b7 b8 b9 b10 b11 b12 b13 b14 b15 b16 b17 b18 b19 b20 b21 x11 x12 x13 x14 x15 x16 x17 x18 x19 x20 x21 x22 x23 x24 W) (by kernel_rfl) (by kernel_rfl) ?fstep ?fdone ?fstart
  case fstart => exact ⟨false, false, false, false, false, false, false, false, false, false, false, false, false, false, false, false, false, false, false, false, false, false, undef, undef, undef, undef, undef, undef, undef, undef, undef, undef, undef, undef, undef, undef, rfl, rfl, (fun _ => Below.refl _ _), (fun h => by cases h), (fun h => by cases h), (fun h => by cases h), (fun h => by cases h), (fun h => by cases h), (fun h => by cases h), (fun h => by cases h), (fun h => by cases h), (fun h => by cases h), (fun h => by cases h), (fun h => by cases h), (fun h => by cases h), (fun h => by cases h), (fun h => by cases h)⟩
  case fstep =>
    rintro Q0 listed act0 W hcl ⟨b0, b1, b2, b3, b4, b5, b6, b7, b8, b9, b10, b11, b12, b13, b14, b15, b16, b17, b18, b19, b20, b21, x11, x12, x13, x14, x15, x16, x17, x18, x19, x20, x21, x22, x23, x24, rfl, rfl, FA, F0, R1, R3, R5, R7, R9, R11, R13, FM, FS, FK, FL, FC, FF⟩ i hi
    have hlt : i < 22 := ready_lt hi
    obtain rfl | rfl | rfl | rfl | rfl | rfl | rfl | rfl | rfl | rfl | rfl | rfl | rfl | rfl | rfl | rfl | rfl | rfl | rfl | rfl | rfl | rfl : i = 0 ∨ i = 1 ∨ i = 2 ∨ i = 3 ∨ i = 4 ∨ i = 5 ∨ i = 6 ∨ i = 7 ∨ i = 8 ∨ i = 9 ∨ i = 10 ∨ i = 11 ∨ i = 12 ∨ i = 13 ∨ i = 14 ∨ i = 15 ∨ i = 16 ∨ i = 17 ∨ i = 18 ∨ i = 19 ∨ i = 20 ∨ i = 21 := by omega
    · have hu : b0 = false := ready_un hi
      subst hu
      have hn2 : b2 = false := by
        cases hh : b2 with
        | false => rfl
        | true => exact Bool.noConfusion (show false = true from (hcl 2 0 (by kernel_rfl) (show _ = true from hh)))
      have hn4 : b4 = false := by
        cases hh : b4 with
        | false => rfl
        | true => exact Bool.noConfusion (show false = true from (hcl 4 0 (by kernel_rfl) (show _ = true from hh)))
      have hn6 : b6 = false := by
        cases hh : b6 with
        | false => rfl
        | true => exact Bool.noConfusion (show false = true from (hcl 6 0 (by kernel_rfl) (show _ = true from hh)))
      have hn8 : b8 = false := by
        cases hh : b8 with
        | false => rfl
        | true => exact Bool.noConfusion (show false = true from (hcl 8 0 (by kernel_rfl) (show _ = true from hh)))
      have hn10 : b10 = false := by
        cases hh : b10 with
        | false => rfl
        | true => exact Bool.noConfusion (show false = true from (hcl 10 0 (by kernel_rfl) (show _ = true from hh)))
      have hn12 : b12 = false := by
        cases hh : b12 with
        | false => rfl
        | true => exact Bool.noConfusion (show false = true from (hcl 12 0 (by kernel_rfl) (show _ = true from hh)))
      have hn14 : b14 = false := by
        cases hh : b14 with
        | false => rfl
        | true => exact Bool.noConfusion (show false = true from (hcl 14 0 (by kernel_rfl) (show _ = true from hh)))
      have hn15 : b15 = false := by
        cases hh : b15 with
        | false => rfl
        | true => exact Bool.noConfusion (show false = true from (hcl 15 0 (by kernel_rfl) (show _ = true from hh)))
      have hn17 : b17 = false := by
        cases hh : b17 with
        | false => rfl
        | true => exact Bool.noConfusion (show false = true from (hcl 15 0 (by kernel_rfl) (hcl 17 15 (by kernel_rfl) (show _ = true from hh))))
      have hn19 : b19 = false := by
        cases hh : b19 with
        | false => rfl
        | true => exact Bool.noConfusion (show false = true from (hcl 15 0 (by kernel_rfl) (hcl 17 15 (by kernel_rfl) (hcl 19 17 (by kernel_rfl) (show _ = true from hh)))))
      have hn21 : b21 = false := by
        cases hh : b21 with
        | false => rfl
        | true => exact Bool.noConfusion (show false = true from (hcl 21 0 (by kernel_rfl) (show _ = true from hh)))
      subst hn2 hn4 hn6 hn8 hn10 hn12 hn14 hn15 hn17 hn19 hn21
      clear hi hlt hcl
      refine wpOp_lit rfl (by rfl) (fun K hK => ?_)
      have hb : Below W.heap.size W (W.alloc (.map #[] 0)) := (Below.refl _ _).alloc (Nat.le_refl _) _
      have hkc := KeepC.of_below hb
      have hFA := bthen (FA rfl) (Nat.le_refl _) hb
      have hsA := (FA rfl).size
      have hmade := MapF.made W
      have hmm := @run_makeMap Try.prog
      go_simp
      (try simp only [Act.put, List.setIfInBounds_toArray, List.set_cons_zero, List.set_cons_succ])
      exact hK.out _ _ ⟨_, _, _, _, _, _, _, _, _, _, _, _, _, _, _, _, _, _, _, _, _, _, _, _, _, _, _, _, _, _, _, _, _, _, _, _, rfl, rfl, (fun _ => hFA), (fun _ => ⟨_, rfl, fun _ => ⟨hsA, 0, _, hmade, Nat.zero_le _, (fun h => by cases h), (fun h => by cases h), (fun h => by cases h), (fun h => by cases h), (fun h => by cases h), (fun h => by cases h), (fun h => by cases h)⟩⟩), (fun h => by obtain ⟨c, q, e1, e2⟩ := R1 h; exact ⟨c, q, e1, fun h2 => by obtain ⟨u1, u2, u3, u4⟩ := e2 h2; exact ⟨u1, hkc _ _ _ _ u2, u3, hkc _ _ _ _ u4⟩⟩), (fun h => by obtain ⟨c, q, e1, e2⟩ := R3 h; exact ⟨c, q, e1, fun h2 => by obtain ⟨u1, u2, u3, u4⟩ := e2 h2; exact ⟨u1, hkc _ _ _ _ u2, u3, hkc _ _ _ _ u4⟩⟩), (fun h => by obtain ⟨c, q, e1, e2⟩ := R5 h; exact ⟨c, q, e1, fun h2 => by obtain ⟨u1, u2, u3, u4⟩ := e2 h2; exact ⟨u1, hkc _ _ _ _ u2, u3, hkc _ _ _ _ u4⟩⟩), (fun h => by obtain ⟨c, e1, e2⟩ := R7 h; exact ⟨c, e1, fun h2 => by obtain ⟨u1, u2⟩ := e2 h2; exact ⟨u1, hkc _ _ _ _ u2⟩⟩), (fun h => by obtain ⟨c, e1, e2⟩ := R9 h; exact ⟨c, e1, fun h2 => by obtain ⟨u1, u2⟩ := e2 h2; exact ⟨u1, hkc _ _ _ _ u2⟩⟩), (fun h => by obtain ⟨c, e1, e2⟩ := R11 h; exact ⟨c, e1, fun h2 => by obtain ⟨u1, u2⟩ := e2 h2; exact ⟨u1, hkc _ _ _ _ u2⟩⟩), (fun h => by obtain ⟨c, e1, e2⟩ := R13 h; exact ⟨c, e1, fun h2 => by obtain ⟨u1, u2⟩ := e2 h2; exact ⟨u1, hkc _ _ _ _ u2⟩⟩), (fun h => by cases h), (fun h => by obtain ⟨s, e1, e2⟩ := FS h; exact ⟨s, e1, fun h2 => by obtain ⟨u1, u2⟩ := e2 h2; exact ⟨u1, hkc _ _ _ _ u2⟩⟩), (fun h => by cases h), FL, (fun h => by cases h), (fun h => by obtain ⟨f, e1, e2, e3⟩ := FF h; exact ⟨f, e1, e2, hkc _ _ _ _ e3⟩)⟩
    · have hu : b1 = false := ready_un hi
      subst hu
      have hn2 : b2 = false := by
        cases hh : b2 with
        | false => rfl
        | true => exact Bool.noConfusion (show false = true from (hcl 2 1 (by kernel_rfl) (show _ = true from hh)))
      have hn3 : b3 = false := by
        cases hh : b3 with
        | false => rfl
        | true => exact Bool.noConfusion (show false = true from (hcl 3 1 (by kernel_rfl) (show _ = true from hh)))
      have hn4 : b4 = false := by
        cases hh : b4 with
        | false => rfl
        | true => exact Bool.noConfusion (show false = true from (hcl 3 1 (by kernel_rfl) (hcl 4 3 (by kernel_rfl) (show _ = true from hh))))
      have hn5 : b5 = false := by
        cases hh : b5 with
        | false => rfl
        | true => exact Bool.noConfusion (show false = true from (hcl 3 1 (by kernel_rfl) (hcl 5 3 (by kernel_rfl) (show _ = true from hh))))
      have hn6 : b6 = false := by
        cases hh : b6 with
        | false => rfl
        | true => exact Bool.noConfusion (show false = true from (hcl 3 1 (by kernel_rfl) (hcl 5 3 (by kernel_rfl) (hcl 6 5 (by kernel_rfl) (show _ = true from hh)))))
      have hn7 : b7 = false := by
        cases hh : b7 with
        | false => rfl
        | true => exact Bool.noConfusion (show false = true from (hcl 3 1 (by kernel_rfl) (hcl 5 3 (by kernel_rfl) (hcl 7 5 (by kernel_rfl) (show _ = true from hh)))))
      have hn8 : b8 = false := by
        cases hh : b8 with
        | false => rfl
        | true => exact Bool.noConfusion (show false = true from (hcl 3 1 (by kernel_rfl) (hcl 5 3 (by kernel_rfl) (hcl 7 5 (by kernel_rfl) (hcl 8 7 (by kernel_rfl) (show _ = true from hh))))))
      have hn9 : b9 = false := by
        cases hh : b9 with
        | false => rfl
        | true => exact Bool.noConfusion (show false = true from (hcl 3 1 (by kernel_rfl) (hcl 5 3 (by kernel_rfl) (hcl 7 5 (by kernel_rfl) (hcl 9 7 (by kernel_rfl) (show _ = true from hh))))))
      have hn10 : b10 = false := by
        cases hh : b10 with
        | false => rfl
        | true => exact Bool.noConfusion (show false = true from (hcl 3 1 (by kernel_rfl) (hcl 5 3 (by kernel_rfl) (hcl 7 5 (by kernel_rfl) (hcl 9 7 (by kernel_rfl) (hcl 10 9 (by kernel_rfl) (show _ = true from hh)))))))
      have hn11 : b11 = false := by
        cases hh : b11 with
        | false => rfl
        | true => exact Bool.noConfusion (show false = true from (hcl 3 1 (by kernel_rfl) (hcl 5 3 (by kernel_rfl) (hcl 7 5 (by kernel_rfl) (hcl 9 7 (by kernel_rfl) (hcl 11 9 (by kernel_rfl) (show _ = true from hh)))))))
      have hn12 : b12 = false := by
        cases hh : b12 with
        | false => rfl
        | true => exact Bool.noConfusion (show false = true from (hcl 3 1 (by kernel_rfl) (hcl 5 3 (by kernel_rfl) (hcl 7 5 (by kernel_rfl) (hcl 9 7 (by kernel_rfl) (hcl 11 9 (by kernel_rfl) (hcl 12 11 (by kernel_rfl) (show _ = true from hh))))))))
      have hn13 : b13 = false := by
        cases hh : b13 with
        | false => rfl
        | true => exact Bool.noConfusion (show false = true from (hcl 3 1 (by kernel_rfl) (hcl 5 3 (by kernel_rfl) (hcl 7 5 (by kernel_rfl) (hcl 9 7 (by kernel_rfl) (hcl 11 9 (by kernel_rfl) (hcl 13 11 (by kernel_rfl) (show _ = true from hh))))))))
      have hn14 : b14 = false := by
        cases hh : b14 with
        | false => rfl
        | true => exact Bool.noConfusion (show false = true from (hcl 3 1 (by kernel_rfl) (hcl 5 3 (by kernel_rfl) (hcl 7 5 (by kernel_rfl) (hcl 9 7 (by kernel_rfl) (hcl 11 9 (by kernel_rfl) (hcl 13 11 (by kernel_rfl) (hcl 14 13 (by kernel_rfl) (show _ = true from hh)))))))))
      have hn15 : b15 = false := by
        cases hh : b15 with
        | false => rfl
        | true => exact Bool.noConfusion (show false = true from (hcl 15 1 (by kernel_rfl) (show _ = true from hh)))
      have hn17 : b17 = false := by
        cases hh : b17 with
        | false => rfl
        | true => exact Bool.noConfusion (show false = true from (hcl 15 1 (by kernel_rfl) (hcl 17 15 (by kernel_rfl) (show _ = true from hh))))
      have hn19 : b19 = false := by
        cases hh : b19 with
        | false => rfl
        | true => exact Bool.noConfusion (show false = true from (hcl 15 1 (by kernel_rfl) (hcl 17 15 (by kernel_rfl) (hcl 19 17 (by kernel_rfl) (show _ = true from hh)))))
      have hn21 : b21 = false := by
        cases hh : b21 with
        | false => rfl
        | true => exact Bool.noConfusion (show false = true from (hcl 21 1 (by kernel_rfl) (show _ = true from hh)))
      subst hn2 hn3 hn4 hn5 hn6 hn7 hn8 hn9 hn10 hn11 hn12 hn13 hn14 hn15 hn17 hn19 hn21
      clear hi hlt hcl
      refine wpOp_lit rfl (by rfl) (fun K hK => ?_)
      go_simp
      refine (mkText_any n3 64 W).mono ?_
      rintro e V ⟨c, q, rfl, hc1, hc3, hc2, hc4, hb⟩
      have hkc := KeepC.of_below hb
      have hFA := bthen (FA rfl) (Nat.le_refl _) hb
      have hsA := (FA rfl).size
      (skip)
      exact hK.out _ _ ⟨_, _, _, _, _, _, _, _, _, _, _, _, _, _, _, _, _, _, _, _, _, _, _, _, _, _, _, _, _, _, _, _, _, _, _, _, rfl, rfl, (fun _ => hFA), (fun h => by obtain ⟨M, e1, e2⟩ := F0 h; exact ⟨M, e1, fun h2 => by obtain ⟨u1, n, g, u2, u3, v0, v1, v2, v3, v4, v5, v6⟩ := e2 h2; exact ⟨u1, n, g, u2.block (hb.block _ u2.lt), u3, (fun h => by cases h), v1, v2, v3, v4, v5, v6⟩⟩), (fun _ => ⟨c, q, rfl, fun _ => ⟨Nat.le_trans hsA hc1, hc2, Nat.le_trans hsA hc3, hc4⟩⟩), (fun h => by cases h), (fun h => by cases h), (fun h => by cases h), (fun h => by cases h), (fun h => by cases h), (fun h => by cases h), (fun h => by cases h), (fun h => by obtain ⟨s, e1, e2⟩ := FS h; exact ⟨s, e1, fun h2 => by obtain ⟨u1, u2⟩ := e2 h2; exact ⟨u1, hkc _ _ _ _ u2⟩⟩), (fun h => by cases h), FL, (fun h => by cases h), (fun h => by obtain ⟨f, e1, e2, e3⟩ := FF h; exact ⟨f, e1, e2, hkc _ _ _ _ e3⟩)⟩
    · have hu : b2 = false := ready_un hi
      have ht0 : b0 = true := (ready_dep hi 0 (by kernel_rfl))
      have ht1 : b1 = true := (ready_dep hi 1 (by kernel_rfl))
      subst hu
      have hn15 : b15 = false := by
        cases hh : b15 with
        | false => rfl
        | true => exact Bool.noConfusion (show false = true from (hcl 15 2 (by kernel_rfl) (show _ = true from hh)))
      have hn17 : b17 = false := by
        cases hh : b17 with
        | false => rfl
        | true => exact Bool.noConfusion (show false = true from (hcl 15 2 (by kernel_rfl) (hcl 17 15 (by kernel_rfl) (show _ = true from hh))))
      have hn19 : b19 = false := by
        cases hh : b19 with
        | false => rfl
        | true => exact Bool.noConfusion (show false = true from (hcl 15 2 (by kernel_rfl) (hcl 17 15 (by kernel_rfl) (hcl 19 17 (by kernel_rfl) (show _ = true from hh)))))
      have hn21 : b21 = false := by
        cases hh : b21 with
        | false => rfl
        | true => exact Bool.noConfusion (show false = true from (hcl 21 2 (by kernel_rfl) (show _ = true from hh)))
      subst ht0 ht1 hn15 hn17 hn19 hn21
      clear hi hlt hcl
      refine wpOp_lit rfl (by rfl) (fun K hK => ?_)
      obtain ⟨M, rfl, hm⟩ := F0 rfl
      obtain ⟨hM, n, g, hmap, hn, v0, v1, v2, v3, v4, v5, v6⟩ := hm rfl
      obtain ⟨c, q, rfl, hc⟩ := R1 rfl
      obtain ⟨w6, hup, hm6, hb6, hs6, ho6⟩ := hmap.store (show n < maxLen from Nat.lt_of_le_of_lt hn (by have h0 := toNat_le; unfold maxLen; have := h0 b4; have := h0 b6; have := h0 b8; have := h0 b10; have := h0 b12; have := h0 b14; simp only [Bool.toNat_false] at *; omega)) (x := { data := #[110, 97, 109, 101] }) (by decide) (rdV (.text c q))
      have hkc := hmap.keepC ho6
      have hFA := (FA rfl).trans (hb6.mono hM)
      go_simp
      (try simp only [Act.put, List.setIfInBounds_toArray, List.set_cons_zero, List.set_cons_succ])
      exact hK.out _ _ ⟨_, _, _, _, _, _, _, _, _, _, _, _, _, _, _, _, _, _, _, _, _, _, _, _, _, _, _, _, _, _, _, _, _, _, _, _, rfl, rfl, (fun _ => hFA), (fun _ => ⟨M, rfl, fun _ => ⟨hM, _, _, hm6, (by simp only [Bool.toNat_false, Bool.toNat_true] at *; omega), (fun _ => if_pos rfl), (fun h => (if_neg (by decide)).trans (v1 h)), (fun h => (if_neg (by decide)).trans (v2 h)), (fun h => (if_neg (by decide)).trans (v3 h)), (fun h => (if_neg (by decide)).trans (v4 h)), (fun h => (if_neg (by decide)).trans (v5 h)), (fun h => (if_neg (by decide)).trans (v6 h))⟩⟩), (fun _ => ⟨c, q, rfl, fun h2 => by obtain ⟨u1, u2, u3, u4⟩ := hc h2; exact ⟨u1, hkc _ _ _ _ u2, u3, hkc _ _ _ _ u4⟩⟩), (fun h => by obtain ⟨c, q, e1, e2⟩ := R3 h; exact ⟨c, q, e1, fun h2 => by obtain ⟨u1, u2, u3, u4⟩ := e2 h2; exact ⟨u1, hkc _ _ _ _ u2, u3, hkc _ _ _ _ u4⟩⟩), (fun h => by obtain ⟨c, q, e1, e2⟩ := R5 h; exact ⟨c, q, e1, fun h2 => by obtain ⟨u1, u2, u3, u4⟩ := e2 h2; exact ⟨u1, hkc _ _ _ _ u2, u3, hkc _ _ _ _ u4⟩⟩), (fun h => by obtain ⟨c, e1, e2⟩ := R7 h; exact ⟨c, e1, fun h2 => by obtain ⟨u1, u2⟩ := e2 h2; exact ⟨u1, hkc _ _ _ _ u2⟩⟩), (fun h => by obtain ⟨c, e1, e2⟩ := R9 h; exact ⟨c, e1, fun h2 => by obtain ⟨u1, u2⟩ := e2 h2; exact ⟨u1, hkc _ _ _ _ u2⟩⟩), (fun h => by obtain ⟨c, e1, e2⟩ := R11 h; exact ⟨c, e1, fun h2 => by obtain ⟨u1, u2⟩ := e2 h2; exact ⟨u1, hkc _ _ _ _ u2⟩⟩), (fun h => by obtain ⟨c, e1, e2⟩ := R13 h; exact ⟨c, e1, fun h2 => by obtain ⟨u1, u2⟩ := e2 h2; exact ⟨u1, hkc _ _ _ _ u2⟩⟩), (fun h => by cases h), (fun h => by obtain ⟨s, e1, e2⟩ := FS h; exact ⟨s, e1, fun h2 => by obtain ⟨u1, u2⟩ := e2 h2; exact ⟨u1, hkc _ _ _ _ u2⟩⟩), (fun h => by cases h), FL, (fun h => by cases h), (fun h => by obtain ⟨f, e1, e2, e3⟩ := FF h; exact ⟨f, e1, e2, hkc _ _ _ _ e3⟩)⟩
    · have hu : b3 = false := ready_un hi
      have ht1 : b1 = true := (ready_dep hi 1 (by kernel_rfl))
      subst hu
      have hn4 : b4 = false := by
        cases hh : b4 with
        | false => rfl
        | true => exact Bool.noConfusion (show false = true from (hcl 4 3 (by kernel_rfl) (show _ = true from hh)))
      have hn5 : b5 = false := by
        cases hh : b5 with
        | false => rfl
        | true => exact Bool.noConfusion (show false = true from (hcl 5 3 (by kernel_rfl) (show _ = true from hh)))
      have hn6 : b6 = false := by
        cases hh : b6 with
        | false => rfl
        | true => exact Bool.noConfusion (show false = true from (hcl 5 3 (by kernel_rfl) (hcl 6 5 (by kernel_rfl) (show _ = true from hh))))
      have hn7 : b7 = false := by
        cases hh : b7 with
        | false => rfl
        | true => exact Bool.noConfusion (show false = true from (hcl 5 3 (by kernel_rfl) (hcl 7 5 (by kernel_rfl) (show _ = true from hh))))
      have hn8 : b8 = false := by
        cases hh : b8 with
        | false => rfl
        | true => exact Bool.noConfusion (show false = true from (hcl 5 3 (by kernel_rfl) (hcl 7 5 (by kernel_rfl) (hcl 8 7 (by kernel_rfl) (show _ = true from hh)))))
      have hn9 : b9 = false := by
        cases hh : b9 with
        | false => rfl
        | true => exact Bool.noConfusion (show false = true from (hcl 5 3 (by kernel_rfl) (hcl 7 5 (by kernel_rfl) (hcl 9 7 (by kernel_rfl) (show _ = true from hh)))))
      have hn10 : b10 = false := by
        cases hh : b10 with
        | false => rfl
        | true => exact Bool.noConfusion (show false = true from (hcl 5 3 (by kernel_rfl) (hcl 7 5 (by kernel_rfl) (hcl 9 7 (by kernel_rfl) (hcl 10 9 (by kernel_rfl) (show _ = true from hh))))))
      have hn11 : b11 = false := by
        cases hh : b11 with
        | false => rfl
        | true => exact Bool.noConfusion (show false = true from (hcl 5 3 (by kernel_rfl) (hcl 7 5 (by kernel_rfl) (hcl 9 7 (by kernel_rfl) (hcl 11 9 (by kernel_rfl) (show _ = true from hh))))))
      have hn12 : b12 = false := by
        cases hh : b12 with
        | false => rfl
        | true => exact Bool.noConfusion (show false = true from (hcl 5 3 (by kernel_rfl) (hcl 7 5 (by kernel_rfl) (hcl 9 7 (by kernel_rfl) (hcl 11 9 (by kernel_rfl) (hcl 12 11 (by kernel_rfl) (show _ = true from hh)))))))
      have hn13 : b13 = false := by
        cases hh : b13 with
        | false => rfl
        | true => exact Bool.noConfusion (show false = true from (hcl 5 3 (by kernel_rfl) (hcl 7 5 (by kernel_rfl) (hcl 9 7 (by kernel_rfl) (hcl 11 9 (by kernel_rfl) (hcl 13 11 (by kernel_rfl) (show _ = true from hh)))))))
      have hn14 : b14 = false := by
        cases hh : b14 with
        | false => rfl
        | true => exact Bool.noConfusion (show false = true from (hcl 5 3 (by kernel_rfl) (hcl 7 5 (by kernel_rfl) (hcl 9 7 (by kernel_rfl) (hcl 11 9 (by kernel_rfl) (hcl 13 11 (by kernel_rfl) (hcl 14 13 (by kernel_rfl) (show _ = true from hh))))))))
      have hn15 : b15 = false := by
        cases hh : b15 with
        | false => rfl
        | true => exact Bool.noConfusion (show false = true from (hcl 15 3 (by kernel_rfl) (show _ = true from hh)))
      have hn17 : b17 = false := by
        cases hh : b17 with
        | false => rfl
        | true => exact Bool.noConfusion (show false = true from (hcl 15 3 (by kernel_rfl) (hcl 17 15 (by kernel_rfl) (show _ = true from hh))))
      have hn19 : b19 = false := by
        cases hh : b19 with
        | false => rfl
        | true => exact Bool.noConfusion (show false = true from (hcl 15 3 (by kernel_rfl) (hcl 17 15 (by kernel_rfl) (hcl 19 17 (by kernel_rfl) (show _ = true from hh)))))
      have hn21 : b21 = false := by
        cases hh : b21 with
        | false => rfl
        | true => exact Bool.noConfusion (show false = true from (hcl 21 3 (by kernel_rfl) (show _ = true from hh)))
      subst ht1 hn4 hn5 hn6 hn7 hn8 hn9 hn10 hn11 hn12 hn13 hn14 hn15 hn17 hn19 hn21
      clear hi hlt hcl
      refine wpOp_lit rfl (by rfl) (fun K hK => ?_)
      go_simp
      refine (mkText_any n4 64 W).mono ?_
      rintro e V ⟨c, q, rfl, hc1, hc3, hc2, hc4, hb⟩
      have hkc := KeepC.of_below hb
      have hFA := bthen (FA rfl) (Nat.le_refl _) hb
      have hsA := (FA rfl).size
      (skip)
      exact hK.out _ _ ⟨_, _, _, _, _, _, _, _, _, _, _, _, _, _, _, _, _, _, _, _, _, _, _, _, _, _, _, _, _, _, _, _, _, _, _, _, rfl, rfl, (fun _ => hFA), (fun h => by obtain ⟨M, e1, e2⟩ := F0 h; exact ⟨M, e1, fun h2 => by obtain ⟨u1, n, g, u2, u3, v0, v1, v2, v3, v4, v5, v6⟩ := e2 h2; exact ⟨u1, n, g, u2.block (hb.block _ u2.lt), u3, v0, (fun h => by cases h), v2, v3, v4, v5, v6⟩⟩), (fun h => by obtain ⟨c, q, e1, e2⟩ := R1 h; exact ⟨c, q, e1, fun h2 => by obtain ⟨u1, u2, u3, u4⟩ := e2 h2; exact ⟨u1, hkc _ _ _ _ u2, u3, hkc _ _ _ _ u4⟩⟩), (fun _ => ⟨c, q, rfl, fun _ => ⟨Nat.le_trans hsA hc1, hc2, Nat.le_trans hsA hc3, hc4⟩⟩), (fun h => by cases h), (fun h => by cases h), (fun h => by cases h), (fun h => by cases h), (fun h => by cases h), (fun h => by cases h), (fun h => by obtain ⟨s, e1, e2⟩ := FS h; exact ⟨s, e1, fun h2 => by obtain ⟨u1, u2⟩ := e2 h2; exact ⟨u1, hkc _ _ _ _ u2⟩⟩), (fun h => by cases h), FL, (fun h => by cases h), (fun h => by obtain ⟨f, e1, e2, e3⟩ := FF h; exact ⟨f, e1, e2, hkc _ _ _ _ e3⟩)⟩
    · have hu : b4 = false := ready_un hi
      have ht0 : b0 = true := (ready_dep hi 0 (by kernel_rfl))
      have ht1 : b1 = true := (hcl 3 1 (by kernel_rfl) (ready_dep hi 3 (by kernel_rfl)))
      have ht3 : b3 = true := (ready_dep hi 3 (by kernel_rfl))
      subst hu
      have hn15 : b15 = false := by
        cases hh : b15 with
        | false => rfl
        | true => exact Bool.noConfusion (show false = true from (hcl 15 4 (by kernel_rfl) (show _ = true from hh)))
      have hn17 : b17 = false := by
        cases hh : b17 with
        | false => rfl
        | true => exact Bool.noConfusion (show false = true from (hcl 15 4 (by kernel_rfl) (hcl 17 15 (by kernel_rfl) (show _ = true from hh))))
      have hn19 : b19 = false := by
        cases hh : b19 with
        | false => rfl
        | true => exact Bool.noConfusion (show false = true from (hcl 15 4 (by kernel_rfl) (hcl 17 15 (by kernel_rfl) (hcl 19 17 (by kernel_rfl) (show _ = true from hh)))))
      have hn21 : b21 = false := by
        cases hh : b21 with
        | false => rfl
        | true => exact Bool.noConfusion (show false = true from (hcl 21 4 (by kernel_rfl) (show _ = true from hh)))
      subst ht0 ht1 ht3 hn15 hn17 hn19 hn21
      clear hi hlt hcl
      refine wpOp_lit rfl (by rfl) (fun K hK => ?_)
      obtain ⟨M, rfl, hm⟩ := F0 rfl
      obtain ⟨hM, n, g, hmap, hn, v0, v1, v2, v3, v4, v5, v6⟩ := hm rfl
      obtain ⟨c, q, rfl, hc⟩ := R3 rfl
      obtain ⟨w6, hup, hm6, hb6, hs6, ho6⟩ := hmap.store (show n < maxLen from Nat.lt_of_le_of_lt hn (by have h0 := toNat_le; unfold maxLen; have := h0 b2; have := h0 b6; have := h0 b8; have := h0 b10; have := h0 b12; have := h0 b14; simp only [Bool.toNat_false] at *; omega)) (x := { data := #[97, 99, 116, 105, 111, 110] }) (by decide) (rdV (.text c q))
      have hkc := hmap.keepC ho6
      have hFA := (FA rfl).trans (hb6.mono hM)
      go_simp
      (try simp only [Act.put, List.setIfInBounds_toArray, List.set_cons_zero, List.set_cons_succ])
      exact hK.out _ _ ⟨_, _, _, _, _, _, _, _, _, _, _, _, _, _, _, _, _, _, _, _, _, _, _, _, _, _, _, _, _, _, _, _, _, _, _, _, rfl, rfl, (fun _ => hFA), (fun _ => ⟨M, rfl, fun _ => ⟨hM, _, _, hm6, (by simp only [Bool.toNat_false, Bool.toNat_true] at *; omega), (fun h => (if_neg (by decide)).trans (v0 h)), (fun _ => if_pos rfl), (fun h => (if_neg (by decide)).trans (v2 h)), (fun h => (if_neg (by decide)).trans (v3 h)), (fun h => (if_neg (by decide)).trans (v4 h)), (fun h => (if_neg (by decide)).trans (v5 h)), (fun h => (if_neg (by decide)).trans (v6 h))⟩⟩), (fun h => by obtain ⟨c, q, e1, e2⟩ := R1 h; exact ⟨c, q, e1, fun h2 => by obtain ⟨u1, u2, u3, u4⟩ := e2 h2; exact ⟨u1, hkc _ _ _ _ u2, u3, hkc _ _ _ _ u4⟩⟩), (fun _ => ⟨c, q, rfl, fun h2 => by obtain ⟨u1, u2, u3, u4⟩ := hc h2; exact ⟨u1, hkc _ _ _ _ u2, u3, hkc _ _ _ _ u4⟩⟩), (fun h => by obtain ⟨c, q, e1, e2⟩ := R5 h; exact ⟨c, q, e1, fun h2 => by obtain ⟨u1, u2, u3, u4⟩ := e2 h2; exact ⟨u1, hkc _ _ _ _ u2, u3, hkc _ _ _ _ u4⟩⟩), (fun h => by obtain ⟨c, e1, e2⟩ := R7 h; exact ⟨c, e1, fun h2 => by obtain ⟨u1, u2⟩ := e2 h2; exact ⟨u1, hkc _ _ _ _ u2⟩⟩), (fun h => by obtain ⟨c, e1, e2⟩ := R9 h; exact ⟨c, e1, fun h2 => by obtain ⟨u1, u2⟩ := e2 h2; exact ⟨u1, hkc _ _ _ _ u2⟩⟩), (fun h => by obtain ⟨c, e1, e2⟩ := R11 h; exact ⟨c, e1, fun h2 => by obtain ⟨u1, u2⟩ := e2 h2; exact ⟨u1, hkc _ _ _ _ u2⟩⟩), (fun h => by obtain ⟨c, e1, e2⟩ := R13 h; exact ⟨c, e1, fun h2 => by obtain ⟨u1, u2⟩ := e2 h2; exact ⟨u1, hkc _ _ _ _ u2⟩⟩), (fun h => by cases h), (fun h => by obtain ⟨s, e1, e2⟩ := FS h; exact ⟨s, e1, fun h2 => by obtain ⟨u1, u2⟩ := e2 h2; exact ⟨u1, hkc _ _ _ _ u2⟩⟩), (fun h => by cases h), FL, (fun h => by cases h), (fun h => by obtain ⟨f, e1, e2, e3⟩ := FF h; exact ⟨f, e1, e2, hkc _ _ _ _ e3⟩)⟩
    · have hu : b5 = false := ready_un hi
      have ht1 : b1 = true := (hcl 3 1 (by kernel_rfl) (ready_dep hi 3 (by kernel_rfl)))
      have ht3 : b3 = true := (ready_dep hi 3 (by kernel_rfl))
      subst hu
      have hn6 : b6 = false := by
        cases hh : b6 with
        | false => rfl
        | true => exact Bool.noConfusion (show false = true from (hcl 6 5 (by kernel_rfl) (show _ = true from hh)))
      have hn7 : b7 = false := by
        cases hh : b7 with
        | false => rfl
        | true => exact Bool.noConfusion (show false = true from (hcl 7 5 (by kernel_rfl) (show _ = true from hh)))
      have hn8 : b8 = false := by
        cases hh : b8 with
        | false => rfl
        | true => exact Bool.noConfusion (show false = true from (hcl 7 5 (by kernel_rfl) (hcl 8 7 (by kernel_rfl) (show _ = true from hh))))
      have hn9 : b9 = false := by
        cases hh : b9 with
        | false => rfl
        | true => exact Bool.noConfusion (show false = true from (hcl 7 5 (by kernel_rfl) (hcl 9 7 (by kernel_rfl) (show _ = true from hh))))
      have hn10 : b10 = false := by
        cases hh : b10 with
        | false => rfl
        | true => exact Bool.noConfusion (show false = true from (hcl 7 5 (by kernel_rfl) (hcl 9 7 (by kernel_rfl) (hcl 10 9 (by kernel_rfl) (show _ = true from hh)))))
      have hn11 : b11 = false := by
        cases hh : b11 with
        | false => rfl
        | true => exact Bool.noConfusion (show false = true from (hcl 7 5 (by kernel_rfl) (hcl 9 7 (by kernel_rfl) (hcl 11 9 (by kernel_rfl) (show _ = true from hh)))))
      have hn12 : b12 = false := by
        cases hh : b12 with
        | false => rfl
        | true => exact Bool.noConfusion (show false = true from (hcl 7 5 (by kernel_rfl) (hcl 9 7 (by kernel_rfl) (hcl 11 9 (by kernel_rfl) (hcl 12 11 (by kernel_rfl) (show _ = true from hh))))))
      have hn13 : b13 = false := by
        cases hh : b13 with
        | false => rfl
        | true => exact Bool.noConfusion (show false = true from (hcl 7 5 (by kernel_rfl) (hcl 9 7 (by kernel_rfl) (hcl 11 9 (by kernel_rfl) (hcl 13 11 (by kernel_rfl) (show _ = true from hh))))))
      have hn14 : b14 = false := by
        cases hh : b14 with
        | false => rfl
        | true => exact Bool.noConfusion (show false = true from (hcl 7 5 (by kernel_rfl) (hcl 9 7 (by kernel_rfl) (hcl 11 9 (by kernel_rfl) (hcl 13 11 (by kernel_rfl) (hcl 14 13 (by kernel_rfl) (show _ = true from hh)))))))
      have hn15 : b15 = false := by
        cases hh : b15 with
        | false => rfl
        | true => exact Bool.noConfusion (show false = true from (hcl 15 5 (by kernel_rfl) (show _ = true from hh)))
      have hn17 : b17 = false := by
        cases hh : b17 with
        | false => rfl
        | true => exact Bool.noConfusion (show false = true from (hcl 15 5 (by kernel_rfl) (hcl 17 15 (by kernel_rfl) (show _ = true from hh))))
      have hn19 : b19 = false := by
        cases hh : b19 with
        | false => rfl
        | true => exact Bool.noConfusion (show false = true from (hcl 15 5 (by kernel_rfl) (hcl 17 15 (by kernel_rfl) (hcl 19 17 (by kernel_rfl) (show _ = true from hh)))))
      have hn21 : b21 = false := by
        cases hh : b21 with
        | false => rfl
        | true => exact Bool.noConfusion (show false = true from (hcl 21 5 (by kernel_rfl) (show _ = true from hh)))
      subst ht1 ht3 hn6 hn7 hn8 hn9 hn10 hn11 hn12 hn13 hn14 hn15 hn17 hn19 hn21
      clear hi hlt hcl
      refine wpOp_lit rfl (by rfl) (fun K hK => ?_)
      go_simp
      refine (mkText_any n5 64 W).mono ?_
      rintro e V ⟨c, q, rfl, hc1, hc3, hc2, hc4, hb⟩
      have hkc := KeepC.of_below hb
      have hFA := bthen (FA rfl) (Nat.le_refl _) hb
      have hsA := (FA rfl).size
      (skip)
      exact hK.out _ _ ⟨_, _, _, _, _, _, _, _, _, _, _, _, _, _, _, _, _, _, _, _, _, _, _, _, _, _, _, _, _, _, _, _, _, _, _, _, rfl, rfl, (fun _ => hFA), (fun h => by obtain ⟨M, e1, e2⟩ := F0 h; exact ⟨M, e1, fun h2 => by obtain ⟨u1, n, g, u2, u3, v0, v1, v2, v3, v4, v5, v6⟩ := e2 h2; exact ⟨u1, n, g, u2.block (hb.block _ u2.lt), u3, v0, v1, (fun h => by cases h), v3, v4, v5, v6⟩⟩), (fun h => by obtain ⟨c, q, e1, e2⟩ := R1 h; exact ⟨c, q, e1, fun h2 => by obtain ⟨u1, u2, u3, u4⟩ := e2 h2; exact ⟨u1, hkc _ _ _ _ u2, u3, hkc _ _ _ _ u4⟩⟩), (fun h => by obtain ⟨c, q, e1, e2⟩ := R3 h; exact ⟨c, q, e1, fun h2 => by obtain ⟨u1, u2, u3, u4⟩ := e2 h2; exact ⟨u1, hkc _ _ _ _ u2, u3, hkc _ _ _ _ u4⟩⟩), (fun _ => ⟨c, q, rfl, fun _ => ⟨Nat.le_trans hsA hc1, hc2, Nat.le_trans hsA hc3, hc4⟩⟩), (fun h => by cases h), (fun h => by cases h), (fun h => by cases h), (fun h => by cases h), (fun h => by cases h), (fun h => by obtain ⟨s, e1, e2⟩ := FS h; exact ⟨s, e1, fun h2 => by obtain ⟨u1, u2⟩ := e2 h2; exact ⟨u1, hkc _ _ _ _ u2⟩⟩), (fun h => by cases h), FL, (fun h => by cases h), (fun h => by obtain ⟨f, e1, e2, e3⟩ := FF h; exact ⟨f, e1, e2, hkc _ _ _ _ e3⟩)⟩
    · have hu : b6 = false := ready_un hi
      have ht0 : b0 = true := (ready_dep hi 0 (by kernel_rfl))
      have ht1 : b1 = true := (hcl 3 1 (by kernel_rfl) (hcl 5 3 (by kernel_rfl) (ready_dep hi 5 (by kernel_rfl))))
      have ht3 : b3 = true := (hcl 5 3 (by kernel_rfl) (ready_dep hi 5 (by kernel_rfl)))
      have ht5 : b5 = true := (ready_dep hi 5 (by kernel_rfl))
      subst hu
      have hn15 : b15 = false := by
        cases hh : b15 with
        | false => rfl
        | true => exact Bool.noConfusion (show false = true from (hcl 15 6 (by kernel_rfl) (show _ = true from hh)))
      have hn17 : b17 = false := by
        cases hh : b17 with
        | false => rfl
        | true => exact Bool.noConfusion (show false = true from (hcl 15 6 (by kernel_rfl) (hcl 17 15 (by kernel_rfl) (show _ = true from hh))))
      have hn19 : b19 = false := by
        cases hh : b19 with
        | false => rfl
        | true => exact Bool.noConfusion (show false = true from (hcl 15 6 (by kernel_rfl) (hcl 17 15 (by kernel_rfl) (hcl 19 17 (by kernel_rfl) (show _ = true from hh)))))
      have hn21 : b21 = false := by
        cases hh : b21 with
        | false => rfl
        | true => exact Bool.noConfusion (show false = true from (hcl 21 6 (by kernel_rfl) (show _ = true from hh)))
      subst ht0 ht1 ht3 ht5 hn15 hn17 hn19 hn21
      clear hi hlt hcl
      refine wpOp_lit rfl (by rfl) (fun K hK => ?_)
      obtain ⟨M, rfl, hm⟩ := F0 rfl
      obtain ⟨hM, n, g, hmap, hn, v0, v1, v2, v3, v4, v5, v6⟩ := hm rfl
      obtain ⟨c, q, rfl, hc⟩ := R5 rfl
      obtain ⟨w6, hup, hm6, hb6, hs6, ho6⟩ := hmap.store (show n < maxLen from Nat.lt_of_le_of_lt hn (by have h0 := toNat_le; unfold maxLen; have := h0 b2; have := h0 b4; have := h0 b8; have := h0 b10; have := h0 b12; have := h0 b14; simp only [Bool.toNat_false] at *; omega)) (x := { data := #[117, 110, 100, 111] }) (by decide) (rdV (.text c q))
      have hkc := hmap.keepC ho6
      have hFA := (FA rfl).trans (hb6.mono hM)
      go_simp
      (try simp only [Act.put, List.setIfInBounds_toArray, List.set_cons_zero, List.set_cons_succ])
      exact hK.out _ _ ⟨_, _, _, _, _, _, _, _, _, _, _, _, _, _, _, _, _, _, _, _, _, _, _, _, _, _, _, _, _, _, _, _, _, _, _, _, rfl, rfl, (fun _ => hFA), (fun _ => ⟨M, rfl, fun _ => ⟨hM, _, _, hm6, (by simp only [Bool.toNat_false, Bool.toNat_true] at *; omega), (fun h => (if_neg (by decide)).trans (v0 h)), (fun h => (if_neg (by decide)).trans (v1 h)), (fun _ => if_pos rfl), (fun h => (if_neg (by decide)).trans (v3 h)), (fun h => (if_neg (by decide)).trans (v4 h)), (fun h => (if_neg (by decide)).trans (v5 h)), (fun h => (if_neg (by decide)).trans (v6 h))⟩⟩), (fun h => by obtain ⟨c, q, e1, e2⟩ := R1 h; exact ⟨c, q, e1, fun h2 => by obtain ⟨u1, u2, u3, u4⟩ := e2 h2; exact ⟨u1, hkc _ _ _ _ u2, u3, hkc _ _ _ _ u4⟩⟩), (fun h => by obtain ⟨c, q, e1, e2⟩ := R3 h; exact ⟨c, q, e1, fun h2 => by obtain ⟨u1, u2, u3, u4⟩ := e2 h2; exact ⟨u1, hkc _ _ _ _ u2, u3, hkc _ _ _ _ u4⟩⟩), (fun _ => ⟨c, q, rfl, fun h2 => by obtain ⟨u1, u2, u3, u4⟩ := hc h2; exact ⟨u1, hkc _ _ _ _ u2, u3, hkc _ _ _ _ u4⟩⟩), (fun h => by obtain ⟨c, e1, e2⟩ := R7 h; exact ⟨c, e1, fun h2 => by obtain ⟨u1, u2⟩ := e2 h2; exact ⟨u1, hkc _ _ _ _ u2⟩⟩), (fun h => by obtain ⟨c, e1, e2⟩ := R9 h; exact ⟨c, e1, fun h2 => by obtain ⟨u1, u2⟩ := e2 h2; exact ⟨u1, hkc _ _ _ _ u2⟩⟩), (fun h => by obtain ⟨c, e1, e2⟩ := R11 h; exact ⟨c, e1, fun h2 => by obtain ⟨u1, u2⟩ := e2 h2; exact ⟨u1, hkc _ _ _ _ u2⟩⟩), (fun h => by obtain ⟨c, e1, e2⟩ := R13 h; exact ⟨c, e1, fun h2 => by obtain ⟨u1, u2⟩ := e2 h2; exact ⟨u1, hkc _ _ _ _ u2⟩⟩), (fun h => by cases h), (fun h => by obtain ⟨s, e1, e2⟩ := FS h; exact ⟨s, e1, fun h2 => by obtain ⟨u1, u2⟩ := e2 h2; exact ⟨u1, hkc _ _ _ _ u2⟩⟩), (fun h => by cases h), FL, (fun h => by cases h), (fun h => by obtain ⟨f, e1, e2, e3⟩ := FF h; exact ⟨f, e1, e2, hkc _ _ _ _ e3⟩)⟩
    · have hu : b7 = false := ready_un hi
      have ht1 : b1 = true := (hcl 3 1 (by kernel_rfl) (hcl 5 3 (by kernel_rfl) (ready_dep hi 5 (by kernel_rfl))))
      have ht3 : b3 = true := (hcl 5 3 (by kernel_rfl) (ready_dep hi 5 (by kernel_rfl)))
      have ht5 : b5 = true := (ready_dep hi 5 (by kernel_rfl))
      subst hu
      have hn8 : b8 = false := by
        cases hh : b8 with
        | false => rfl
        | true => exact Bool.noConfusion (show false = true from (hcl 8 7 (by kernel_rfl) (show _ = true from hh)))
      have hn9 : b9 = false := by
        cases hh : b9 with
        | false => rfl
        | true => exact Bool.noConfusion (show false = true from (hcl 9 7 (by kernel_rfl) (show _ = true from hh)))
      have hn10 : b10 = false := by
        cases hh : b10 with
        | false => rfl
        | true => exact Bool.noConfusion (show false = true from (hcl 9 7 (by kernel_rfl) (hcl 10 9 (by kernel_rfl) (show _ = true from hh))))
      have hn11 : b11 = false := by
        cases hh : b11 with
        | false => rfl
        | true => exact Bool.noConfusion (show false = true from (hcl 9 7 (by kernel_rfl) (hcl 11 9 (by kernel_rfl) (show _ = true from hh))))
      have hn12 : b12 = false := by
        cases hh : b12 with
        | false => rfl
        | true => exact Bool.noConfusion (show false = true from (hcl 9 7 (by kernel_rfl) (hcl 11 9 (by kernel_rfl) (hcl 12 11 (by kernel_rfl) (show _ = true from hh)))))
      have hn13 : b13 = false := by
        cases hh : b13 with
        | false => rfl
        | true => exact Bool.noConfusion (show false = true from (hcl 9 7 (by kernel_rfl) (hcl 11 9 (by kernel_rfl) (hcl 13 11 (by kernel_rfl) (show _ = true from hh)))))
      have hn14 : b14 = false := by
        cases hh : b14 with
        | false => rfl
        | true => exact Bool.noConfusion (show false = true from (hcl 9 7 (by kernel_rfl) (hcl 11 9 (by kernel_rfl) (hcl 13 11 (by kernel_rfl) (hcl 14 13 (by kernel_rfl) (show _ = true from hh))))))
      have hn15 : b15 = false := by
        cases hh : b15 with
        | false => rfl
        | true => exact Bool.noConfusion (show false = true from (hcl 15 7 (by kernel_rfl) (show _ = true from hh)))
      have hn17 : b17 = false := by
        cases hh : b17 with
        | false => rfl
        | true => exact Bool.noConfusion (show false = true from (hcl 15 7 (by kernel_rfl) (hcl 17 15 (by kernel_rfl) (show _ = true from hh))))
      have hn19 : b19 = false := by
        cases hh : b19 with
        | false => rfl
        | true => exact Bool.noConfusion (show false = true from (hcl 15 7 (by kernel_rfl) (hcl 17 15 (by kernel_rfl) (hcl 19 17 (by kernel_rfl) (show _ = true from hh)))))
      have hn21 : b21 = false := by
        cases hh : b21 with
        | false => rfl
        | true => exact Bool.noConfusion (show false = true from (hcl 21 7 (by kernel_rfl) (show _ = true from hh)))
      subst ht1 ht3 ht5 hn8 hn9 hn10 hn11 hn12 hn13 hn14 hn15 hn17 hn19 hn21
      clear hi hlt hcl
      refine wpOp_lit rfl (by rfl) (fun K hK => ?_)
      go_simp
      refine (mkNames_any n6 W).mono ?_
      rintro e V ⟨c, rfl, hc1, hc2, hb⟩
      have hkc := KeepC.of_below hb
      have hFA := bthen (FA rfl) (Nat.le_refl _) hb
      have hsA := (FA rfl).size
      (skip)
      exact hK.out _ _ ⟨_, _, _, _, _, _, _, _, _, _, _, _, _, _, _, _, _, _, _, _, _, _, _, _, _, _, _, _, _, _, _, _, _, _, _, _, rfl, rfl, (fun _ => hFA), (fun h => by obtain ⟨M, e1, e2⟩ := F0 h; exact ⟨M, e1, fun h2 => by obtain ⟨u1, n, g, u2, u3, v0, v1, v2, v3, v4, v5, v6⟩ := e2 h2; exact ⟨u1, n, g, u2.block (hb.block _ u2.lt), u3, v0, v1, v2, (fun h => by cases h), v4, v5, v6⟩⟩), (fun h => by obtain ⟨c, q, e1, e2⟩ := R1 h; exact ⟨c, q, e1, fun h2 => by obtain ⟨u1, u2, u3, u4⟩ := e2 h2; exact ⟨u1, hkc _ _ _ _ u2, u3, hkc _ _ _ _ u4⟩⟩), (fun h => by obtain ⟨c, q, e1, e2⟩ := R3 h; exact ⟨c, q, e1, fun h2 => by obtain ⟨u1, u2, u3, u4⟩ := e2 h2; exact ⟨u1, hkc _ _ _ _ u2, u3, hkc _ _ _ _ u4⟩⟩), (fun h => by obtain ⟨c, q, e1, e2⟩ := R5 h; exact ⟨c, q, e1, fun h2 => by obtain ⟨u1, u2, u3, u4⟩ := e2 h2; exact ⟨u1, hkc _ _ _ _ u2, u3, hkc _ _ _ _ u4⟩⟩), (fun _ => ⟨c, rfl, fun _ => ⟨Nat.le_trans hsA hc1, hc2⟩⟩), (fun h => by cases h), (fun h => by cases h), (fun h => by cases h), (fun h => by cases h), (fun h => by obtain ⟨s, e1, e2⟩ := FS h; exact ⟨s, e1, fun h2 => by obtain ⟨u1, u2⟩ := e2 h2; exact ⟨u1, hkc _ _ _ _ u2⟩⟩), (fun h => by cases h), FL, (fun h => by cases h), (fun h => by obtain ⟨f, e1, e2, e3⟩ := FF h; exact ⟨f, e1, e2, hkc _ _ _ _ e3⟩)⟩
    · have hu : b8 = false := ready_un hi
      have ht0 : b0 = true := (ready_dep hi 0 (by kernel_rfl))
      have ht1 : b1 = true := (hcl 3 1 (by kernel_rfl) (hcl 5 3 (by kernel_rfl) (hcl 7 5 (by kernel_rfl) (ready_dep hi 7 (by kernel_rfl)))))
      have ht3 : b3 = true := (hcl 5 3 (by kernel_rfl) (hcl 7 5 (by kernel_rfl) (ready_dep hi 7 (by kernel_rfl))))
      have ht5 : b5 = true := (hcl 7 5 (by kernel_rfl) (ready_dep hi 7 (by kernel_rfl)))
      have ht7 : b7 = true := (ready_dep hi 7 (by kernel_rfl))
      subst hu
      have hn15 : b15 = false := by
        cases hh : b15 with
        | false => rfl
        | true => exact Bool.noConfusion (show false = true from (hcl 15 8 (by kernel_rfl) (show _ = true from hh)))
      have hn17 : b17 = false := by
        cases hh : b17 with
        | false => rfl
        | true => exact Bool.noConfusion (show false = true from (hcl 15 8 (by kernel_rfl) (hcl 17 15 (by kernel_rfl) (show _ = true from hh))))
      have hn19 : b19 = false := by
        cases hh : b19 with
        | false => rfl
        | true => exact Bool.noConfusion (show false = true from (hcl 15 8 (by kernel_rfl) (hcl 17 15 (by kernel_rfl) (hcl 19 17 (by kernel_rfl) (show _ = true from hh)))))
      have hn21 : b21 = false := by
        cases hh : b21 with
        | false => rfl
        | true => exact Bool.noConfusion (show false = true from (hcl 21 8 (by kernel_rfl) (show _ = true from hh)))
      subst ht0 ht1 ht3 ht5 ht7 hn15 hn17 hn19 hn21
      clear hi hlt hcl
      refine wpOp_lit rfl (by rfl) (fun K hK => ?_)
      obtain ⟨M, rfl, hm⟩ := F0 rfl
      obtain ⟨hM, n, g, hmap, hn, v0, v1, v2, v3, v4, v5, v6⟩ := hm rfl
      obtain ⟨c, rfl, hc⟩ := R7 rfl
      obtain ⟨w6, hup, hm6, hb6, hs6, ho6⟩ := hmap.store (show n < maxLen from Nat.lt_of_le_of_lt hn (by have h0 := toNat_le; unfold maxLen; have := h0 b2; have := h0 b4; have := h0 b6; have := h0 b10; have := h0 b12; have := h0 b14; simp only [Bool.toNat_false] at *; omega)) (x := { data := #[97, 102, 116, 101, 114] }) (by decide) (rdV (.names c))
      have hkc := hmap.keepC ho6
      have hFA := (FA rfl).trans (hb6.mono hM)
      go_simp
      (try simp only [Act.put, List.setIfInBounds_toArray, List.set_cons_zero, List.set_cons_succ])
      exact hK.out _ _ ⟨_, _, _, _, _, _, _, _, _, _, _, _, _, _, _, _, _, _, _, _, _, _, _, _, _, _, _, _, _, _, _, _, _, _, _, _, rfl, rfl, (fun _ => hFA), (fun _ => ⟨M, rfl, fun _ => ⟨hM, _, _, hm6, (by simp only [Bool.toNat_false, Bool.toNat_true] at *; omega), (fun h => (if_neg (by decide)).trans (v0 h)), (fun h => (if_neg (by decide)).trans (v1 h)), (fun h => (if_neg (by decide)).trans (v2 h)), (fun _ => if_pos rfl), (fun h => (if_neg (by decide)).trans (v4 h)), (fun h => (if_neg (by decide)).trans (v5 h)), (fun h => (if_neg (by decide)).trans (v6 h))⟩⟩), (fun h => by obtain ⟨c, q, e1, e2⟩ := R1 h; exact ⟨c, q, e1, fun h2 => by obtain ⟨u1, u2, u3, u4⟩ := e2 h2; exact ⟨u1, hkc _ _ _ _ u2, u3, hkc _ _ _ _ u4⟩⟩), (fun h => by obtain ⟨c, q, e1, e2⟩ := R3 h; exact ⟨c, q, e1, fun h2 => by obtain ⟨u1, u2, u3, u4⟩ := e2 h2; exact ⟨u1, hkc _ _ _ _ u2, u3, hkc _ _ _ _ u4⟩⟩), (fun h => by obtain ⟨c, q, e1, e2⟩ := R5 h; exact ⟨c, q, e1, fun h2 => by obtain ⟨u1, u2, u3, u4⟩ := e2 h2; exact ⟨u1, hkc _ _ _ _ u2, u3, hkc _ _ _ _ u4⟩⟩), (fun _ => ⟨c, rfl, fun h2 => by obtain ⟨u1, u2⟩ := hc h2; exact ⟨u1, hkc _ _ _ _ u2⟩⟩), (fun h => by obtain ⟨c, e1, e2⟩ := R9 h; exact ⟨c, e1, fun h2 => by obtain ⟨u1, u2⟩ := e2 h2; exact ⟨u1, hkc _ _ _ _ u2⟩⟩), (fun h => by obtain ⟨c, e1, e2⟩ := R11 h; exact ⟨c, e1, fun h2 => by obtain ⟨u1, u2⟩ := e2 h2; exact ⟨u1, hkc _ _ _ _ u2⟩⟩), (fun h => by obtain ⟨c, e1, e2⟩ := R13 h; exact ⟨c, e1, fun h2 => by obtain ⟨u1, u2⟩ := e2 h2; exact ⟨u1, hkc _ _ _ _ u2⟩⟩), (fun h => by cases h), (fun h => by obtain ⟨s, e1, e2⟩ := FS h; exact ⟨s, e1, fun h2 => by obtain ⟨u1, u2⟩ := e2 h2; exact ⟨u1, hkc _ _ _ _ u2⟩⟩), (fun h => by cases h), FL, (fun h => by cases h), (fun h => by obtain ⟨f, e1, e2, e3⟩ := FF h; exact ⟨f, e1, e2, hkc _ _ _ _ e3⟩)⟩
    · have hu : b9 = false := ready_un hi
      have ht1 : b1 = true := (hcl 3 1 (by kernel_rfl) (hcl 5 3 (by kernel_rfl) (hcl 7 5 (by kernel_rfl) (ready_dep hi 7 (by kernel_rfl)))))
      have ht3 : b3 = true := (hcl 5 3 (by kernel_rfl) (hcl 7 5 (by kernel_rfl) (ready_dep hi 7 (by kernel_rfl))))
      have ht5 : b5 = true := (hcl 7 5 (by kernel_rfl) (ready_dep hi 7 (by kernel_rfl)))
      have ht7 : b7 = true := (ready_dep hi 7 (by kernel_rfl))
      subst hu
      have hn10 : b10 = false := by
        cases hh : b10 with
        | false => rfl
        | true => exact Bool.noConfusion (show false = true from (hcl 10 9 (by kernel_rfl) (show _ = true from hh)))
      have hn11 : b11 = false := by
        cases hh : b11 with
        | false => rfl
        | true => exact Bool.noConfusion (show false = true from (hcl 11 9 (by kernel_rfl) (show _ = true from hh)))
      have hn12 : b12 = false := by
        cases hh : b12 with
        | false => rfl
        | true => exact Bool.noConfusion (show false = true from (hcl 11 9 (by kernel_rfl) (hcl 12 11 (by kernel_rfl) (show _ = true from hh))))
      have hn13 : b13 = false := by
        cases hh : b13 with
        | false => rfl
        | true => exact Bool.noConfusion (show false = true from (hcl 11 9 (by kernel_rfl) (hcl 13 11 (by kernel_rfl) (show _ = true from hh))))
      have hn14 : b14 = false := by
        cases hh : b14 with
        | false => rfl
        | true => exact Bool.noConfusion (show false = true from (hcl 11 9 (by kernel_rfl) (hcl 13 11 (by kernel_rfl) (hcl 14 13 (by kernel_rfl) (show _ = true from hh)))))
      have hn15 : b15 = false := by
        cases hh : b15 with
        | false => rfl
        | true => exact Bool.noConfusion (show false = true from (hcl 15 9 (by kernel_rfl) (show _ = true from hh)))
      have hn17 : b17 = false := by
        cases hh : b17 with
        | false => rfl
        | true => exact Bool.noConfusion (show false = true from (hcl 15 9 (by kernel_rfl) (hcl 17 15 (by kernel_rfl) (show _ = true from hh))))
      have hn19 : b19 = false := by
        cases hh : b19 with
        | false => rfl
        | true => exact Bool.noConfusion (show false = true from (hcl 15 9 (by kernel_rfl) (hcl 17 15 (by kernel_rfl) (hcl 19 17 (by kernel_rfl) (show _ = true from hh)))))
      have hn21 : b21 = false := by
        cases hh : b21 with
        | false => rfl
        | true => exact Bool.noConfusion (show false = true from (hcl 21 9 (by kernel_rfl) (show _ = true from hh)))
      subst ht1 ht3 ht5 ht7 hn10 hn11 hn12 hn13 hn14 hn15 hn17 hn19 hn21
      clear hi hlt hcl
      refine wpOp_lit rfl (by rfl) (fun K hK => ?_)
      go_simp
      refine (mkRetry_any n7 W).mono ?_
      rintro e V ⟨c, rfl, hc1, hc2, hb⟩
      have hkc := KeepC.of_below hb
      have hFA := bthen (FA rfl) (Nat.le_refl _) hb
      have hsA := (FA rfl).size
      (skip)
      exact hK.out _ _ ⟨_, _, _, _, _, _, _, _, _, _, _, _, _, _, _, _, _, _, _, _, _, _, _, _, _, _, _, _, _, _, _, _, _, _, _, _, rfl, rfl, (fun _ => hFA), (fun h => by obtain ⟨M, e1, e2⟩ := F0 h; exact ⟨M, e1, fun h2 => by obtain ⟨u1, n, g, u2, u3, v0, v1, v2, v3, v4, v5, v6⟩ := e2 h2; exact ⟨u1, n, g, u2.block (hb.block _ u2.lt), u3, v0, v1, v2, v3, (fun h => by cases h), v5, v6⟩⟩), (fun h => by obtain ⟨c, q, e1, e2⟩ := R1 h; exact ⟨c, q, e1, fun h2 => by obtain ⟨u1, u2, u3, u4⟩ := e2 h2; exact ⟨u1, hkc _ _ _ _ u2, u3, hkc _ _ _ _ u4⟩⟩), (fun h => by obtain ⟨c, q, e1, e2⟩ := R3 h; exact ⟨c, q, e1, fun h2 => by obtain ⟨u1, u2, u3, u4⟩ := e2 h2; exact ⟨u1, hkc _ _ _ _ u2, u3, hkc _ _ _ _ u4⟩⟩), (fun h => by obtain ⟨c, q, e1, e2⟩ := R5 h; exact ⟨c, q, e1, fun h2 => by obtain ⟨u1, u2, u3, u4⟩ := e2 h2; exact ⟨u1, hkc _ _ _ _ u2, u3, hkc _ _ _ _ u4⟩⟩), (fun h => by obtain ⟨c, e1, e2⟩ := R7 h; exact ⟨c, e1, fun h2 => by obtain ⟨u1, u2⟩ := e2 h2; exact ⟨u1, hkc _ _ _ _ u2⟩⟩), (fun _ => ⟨c, rfl, fun _ => ⟨Nat.le_trans hsA hc1, hc2⟩⟩), (fun h => by cases h), (fun h => by cases h), (fun h => by cases h), (fun h => by obtain ⟨s, e1, e2⟩ := FS h; exact ⟨s, e1, fun h2 => by obtain ⟨u1, u2⟩ := e2 h2; exact ⟨u1, hkc _ _ _ _ u2⟩⟩), (fun h => by cases h), FL, (fun h => by cases h), (fun h => by obtain ⟨f, e1, e2, e3⟩ := FF h; exact ⟨f, e1, e2, hkc _ _ _ _ e3⟩)⟩
    · have hu : b10 = false := ready_un hi
      have ht0 : b0 = true := (ready_dep hi 0 (by kernel_rfl))
      have ht1 : b1 = true := (hcl 3 1 (by kernel_rfl) (hcl 5 3 (by kernel_rfl) (hcl 7 5 (by kernel_rfl) (hcl 9 7 (by kernel_rfl) (ready_dep hi 9 (by kernel_rfl))))))
      have ht3 : b3 = true := (hcl 5 3 (by kernel_rfl) (hcl 7 5 (by kernel_rfl) (hcl 9 7 (by kernel_rfl) (ready_dep hi 9 (by kernel_rfl)))))
      have ht5 : b5 = true := (hcl 7 5 (by kernel_rfl) (hcl 9 7 (by kernel_rfl) (ready_dep hi 9 (by kernel_rfl))))
      have ht7 : b7 = true := (hcl 9 7 (by kernel_rfl) (ready_dep hi 9 (by kernel_rfl)))
      have ht9 : b9 = true := (ready_dep hi 9 (by kernel_rfl))
      subst hu
      have hn15 : b15 = false := by
        cases hh : b15 with
        | false => rfl
        | true => exact Bool.noConfusion (show false = true from (hcl 15 10 (by kernel_rfl) (show _ = true from hh)))
      have hn17 : b17 = false := by
        cases hh : b17 with
        | false => rfl
        | true => exact Bool.noConfusion (show false = true from (hcl 15 10 (by kernel_rfl) (hcl 17 15 (by kernel_rfl) (show _ = true from hh))))
      have hn19 : b19 = false := by
        cases hh : b19 with
        | false => rfl
        | true => exact Bool.noConfusion (show false = true from (hcl 15 10 (by kernel_rfl) (hcl 17 15 (by kernel_rfl) (hcl 19 17 (by kernel_rfl) (show _ = true from hh)))))
      have hn21 : b21 = false := by
        cases hh : b21 with
        | false => rfl
        | true => exact Bool.noConfusion (show false = true from (hcl 21 10 (by kernel_rfl) (show _ = true from hh)))
      subst ht0 ht1 ht3 ht5 ht7 ht9 hn15 hn17 hn19 hn21
      clear hi hlt hcl
      refine wpOp_lit rfl (by rfl) (fun K hK => ?_)
      obtain ⟨M, rfl, hm⟩ := F0 rfl
      obtain ⟨hM, n, g, hmap, hn, v0, v1, v2, v3, v4, v5, v6⟩ := hm rfl
      obtain ⟨c, rfl, hc⟩ := R9 rfl
      obtain ⟨w6, hup, hm6, hb6, hs6, ho6⟩ := hmap.store (show n < maxLen from Nat.lt_of_le_of_lt hn (by have h0 := toNat_le; unfold maxLen; have := h0 b2; have := h0 b4; have := h0 b6; have := h0 b8; have := h0 b12; have := h0 b14; simp only [Bool.toNat_false] at *; omega)) (x := { data := #[114, 101, 116, 114, 121] }) (by decide) (rdV (.retry c))
      have hkc := hmap.keepC ho6
      have hFA := (FA rfl).trans (hb6.mono hM)
      go_simp
      (try simp only [Act.put, List.setIfInBounds_toArray, List.set_cons_zero, List.set_cons_succ])
      exact hK.out _ _ ⟨_, _, _, _, _, _, _, _, _, _, _, _, _, _, _, _, _, _, _, _, _, _, _, _, _, _, _, _, _, _, _, _, _, _, _, _, rfl, rfl, (fun _ => hFA), (fun _ => ⟨M, rfl, fun _ => ⟨hM, _, _, hm6, (by simp only [Bool.toNat_false, Bool.toNat_true] at *; omega), (fun h => (if_neg (by decide)).trans (v0 h)), (fun h => (if_neg (by decide)).trans (v1 h)), (fun h => (if_neg (by decide)).trans (v2 h)), (fun h => (if_neg (by decide)).trans (v3 h)), (fun _ => if_pos rfl), (fun h => (if_neg (by decide)).trans (v5 h)), (fun h => (if_neg (by decide)).trans (v6 h))⟩⟩), (fun h => by obtain ⟨c, q, e1, e2⟩ := R1 h; exact ⟨c, q, e1, fun h2 => by obtain ⟨u1, u2, u3, u4⟩ := e2 h2; exact ⟨u1, hkc _ _ _ _ u2, u3, hkc _ _ _ _ u4⟩⟩), (fun h => by obtain ⟨c, q, e1, e2⟩ := R3 h; exact ⟨c, q, e1, fun h2 => by obtain ⟨u1, u2, u3, u4⟩ := e2 h2; exact ⟨u1, hkc _ _ _ _ u2, u3, hkc _ _ _ _ u4⟩⟩), (fun h => by obtain ⟨c, q, e1, e2⟩ := R5 h; exact ⟨c, q, e1, fun h2 => by obtain ⟨u1, u2, u3, u4⟩ := e2 h2; exact ⟨u1, hkc _ _ _ _ u2, u3, hkc _ _ _ _ u4⟩⟩), (fun h => by obtain ⟨c, e1, e2⟩ := R7 h; exact ⟨c, e1, fun h2 => by obtain ⟨u1, u2⟩ := e2 h2; exact ⟨u1, hkc _ _ _ _ u2⟩⟩), (fun _ => ⟨c, rfl, fun h2 => by obtain ⟨u1, u2⟩ := hc h2; exact ⟨u1, hkc _ _ _ _ u2⟩⟩), (fun h => by obtain ⟨c, e1, e2⟩ := R11 h; exact ⟨c, e1, fun h2 => by obtain ⟨u1, u2⟩ := e2 h2; exact ⟨u1, hkc _ _ _ _ u2⟩⟩), (fun h => by obtain ⟨c, e1, e2⟩ := R13 h; exact ⟨c, e1, fun h2 => by obtain ⟨u1, u2⟩ := e2 h2; exact ⟨u1, hkc _ _ _ _ u2⟩⟩), (fun h => by cases h), (fun h => by obtain ⟨s, e1, e2⟩ := FS h; exact ⟨s, e1, fun h2 => by obtain ⟨u1, u2⟩ := e2 h2; exact ⟨u1, hkc _ _ _ _ u2⟩⟩), (fun h => by cases h), FL, (fun h => by cases h), (fun h => by obtain ⟨f, e1, e2, e3⟩ := FF h; exact ⟨f, e1, e2, hkc _ _ _ _ e3⟩)⟩
    · have hu : b11 = false := ready_un hi
      have ht1 : b1 = true := (hcl 3 1 (by kernel_rfl) (hcl 5 3 (by kernel_rfl) (hcl 7 5 (by kernel_rfl) (hcl 9 7 (by kernel_rfl) (ready_dep hi 9 (by kernel_rfl))))))
      have ht3 : b3 = true := (hcl 5 3 (by kernel_rfl) (hcl 7 5 (by kernel_rfl) (hcl 9 7 (by kernel_rfl) (ready_dep hi 9 (by kernel_rfl)))))
      have ht5 : b5 = true := (hcl 7 5 (by kernel_rfl) (hcl 9 7 (by kernel_rfl) (ready_dep hi 9 (by kernel_rfl))))
      have ht7 : b7 = true := (hcl 9 7 (by kernel_rfl) (ready_dep hi 9 (by kernel_rfl)))
      have ht9 : b9 = true := (ready_dep hi 9 (by kernel_rfl))
      subst hu
      have hn12 : b12 = false := by
        cases hh : b12 with
        | false => rfl
        | true => exact Bool.noConfusion (show false = true from (hcl 12 11 (by kernel_rfl) (show _ = true from hh)))
      have hn13 : b13 = false := by
        cases hh : b13 with
        | false => rfl
        | true => exact Bool.noConfusion (show false = true from (hcl 13 11 (by kernel_rfl) (show _ = true from hh)))
      have hn14 : b14 = false := by
        cases hh : b14 with
        | false => rfl
        | true => exact Bool.noConfusion (show false = true from (hcl 13 11 (by kernel_rfl) (hcl 14 13 (by kernel_rfl) (show _ = true from hh))))
      have hn15 : b15 = false := by
        cases hh : b15 with
        | false => rfl
        | true => exact Bool.noConfusion (show false = true from (hcl 15 11 (by kernel_rfl) (show _ = true from hh)))
      have hn17 : b17 = false := by
        cases hh : b17 with
        | false => rfl
        | true => exact Bool.noConfusion (show false = true from (hcl 13 11 (by kernel_rfl) (hcl 17 13 (by kernel_rfl) (show _ = true from hh))))
      have hn19 : b19 = false := by
        cases hh : b19 with
        | false => rfl
        | true => exact Bool.noConfusion (show false = true from (hcl 13 11 (by kernel_rfl) (hcl 17 13 (by kernel_rfl) (hcl 19 17 (by kernel_rfl) (show _ = true from hh)))))
      have hn21 : b21 = false := by
        cases hh : b21 with
        | false => rfl
        | true => exact Bool.noConfusion (show false = true from (hcl 21 11 (by kernel_rfl) (show _ = true from hh)))
      subst ht1 ht3 ht5 ht7 ht9 hn12 hn13 hn14 hn15 hn17 hn19 hn21
      clear hi hlt hcl
      refine wpOp_lit rfl (by rfl) (fun K hK => ?_)
      go_simp
      refine (mkNumber_any n8 W).mono ?_
      rintro e V ⟨c, rfl, hc1, hc2, hb⟩
      have hkc := KeepC.of_below hb
      have hFA := bthen (FA rfl) (Nat.le_refl _) hb
      have hsA := (FA rfl).size
      (skip)
      exact hK.out _ _ ⟨_, _, _, _, _, _, _, _, _, _, _, _, _, _, _, _, _, _, _, _, _, _, _, _, _, _, _, _, _, _, _, _, _, _, _, _, rfl, rfl, (fun _ => hFA), (fun h => by obtain ⟨M, e1, e2⟩ := F0 h; exact ⟨M, e1, fun h2 => by obtain ⟨u1, n, g, u2, u3, v0, v1, v2, v3, v4, v5, v6⟩ := e2 h2; exact ⟨u1, n, g, u2.block (hb.block _ u2.lt), u3, v0, v1, v2, v3, v4, (fun h => by cases h), v6⟩⟩), (fun h => by obtain ⟨c, q, e1, e2⟩ := R1 h; exact ⟨c, q, e1, fun h2 => by obtain ⟨u1, u2, u3, u4⟩ := e2 h2; exact ⟨u1, hkc _ _ _ _ u2, u3, hkc _ _ _ _ u4⟩⟩), (fun h => by obtain ⟨c, q, e1, e2⟩ := R3 h; exact ⟨c, q, e1, fun h2 => by obtain ⟨u1, u2, u3, u4⟩ := e2 h2; exact ⟨u1, hkc _ _ _ _ u2, u3, hkc _ _ _ _ u4⟩⟩), (fun h => by obtain ⟨c, q, e1, e2⟩ := R5 h; exact ⟨c, q, e1, fun h2 => by obtain ⟨u1, u2, u3, u4⟩ := e2 h2; exact ⟨u1, hkc _ _ _ _ u2, u3, hkc _ _ _ _ u4⟩⟩), (fun h => by obtain ⟨c, e1, e2⟩ := R7 h; exact ⟨c, e1, fun h2 => by obtain ⟨u1, u2⟩ := e2 h2; exact ⟨u1, hkc _ _ _ _ u2⟩⟩), (fun h => by obtain ⟨c, e1, e2⟩ := R9 h; exact ⟨c, e1, fun h2 => by obtain ⟨u1, u2⟩ := e2 h2; exact ⟨u1, hkc _ _ _ _ u2⟩⟩), (fun _ => ⟨c, rfl, fun _ => ⟨Nat.le_trans hsA hc1, hc2⟩⟩), (fun h => by cases h), (fun h => by cases h), (fun h => by obtain ⟨s, e1, e2⟩ := FS h; exact ⟨s, e1, fun h2 => by obtain ⟨u1, u2⟩ := e2 h2; exact ⟨u1, hkc _ _ _ _ u2⟩⟩), (fun h => by cases h), FL, (fun h => by cases h), (fun h => by obtain ⟨f, e1, e2, e3⟩ := FF h; exact ⟨f, e1, e2, hkc _ _ _ _ e3⟩)⟩
    · have hu : b12 = false := ready_un hi
      have ht0 : b0 = true := (ready_dep hi 0 (by kernel_rfl))
      have ht1 : b1 = true := (hcl 3 1 (by kernel_rfl) (hcl 5 3 (by kernel_rfl) (hcl 7 5 (by kernel_rfl) (hcl 9 7 (by kernel_rfl) (hcl 11 9 (by kernel_rfl) (ready_dep hi 11 (by kernel_rfl)))))))
      have ht3 : b3 = true := (hcl 5 3 (by kernel_rfl) (hcl 7 5 (by kernel_rfl) (hcl 9 7 (by kernel_rfl) (hcl 11 9 (by kernel_rfl) (ready_dep hi 11 (by kernel_rfl))))))
      have ht5 : b5 = true := (hcl 7 5 (by kernel_rfl) (hcl 9 7 (by kernel_rfl) (hcl 11 9 (by kernel_rfl) (ready_dep hi 11 (by kernel_rfl)))))
      have ht7 : b7 = true := (hcl 9 7 (by kernel_rfl) (hcl 11 9 (by kernel_rfl) (ready_dep hi 11 (by kernel_rfl))))
      have ht9 : b9 = true := (hcl 11 9 (by kernel_rfl) (ready_dep hi 11 (by kernel_rfl)))
      have ht11 : b11 = true := (ready_dep hi 11 (by kernel_rfl))
      subst hu
      have hn15 : b15 = false := by
        cases hh : b15 with
        | false => rfl
        | true => exact Bool.noConfusion (show false = true from (hcl 15 12 (by kernel_rfl) (show _ = true from hh)))
      have hn17 : b17 = false := by
        cases hh : b17 with
        | false => rfl
        | true => exact Bool.noConfusion (show false = true from (hcl 15 12 (by kernel_rfl) (hcl 17 15 (by kernel_rfl) (show _ = true from hh))))
      have hn19 : b19 = false := by
        cases hh : b19 with
        | false => rfl
        | true => exact Bool.noConfusion (show false = true from (hcl 15 12 (by kernel_rfl) (hcl 17 15 (by kernel_rfl) (hcl 19 17 (by kernel_rfl) (show _ = true from hh)))))
      have hn21 : b21 = false := by
        cases hh : b21 with
        | false => rfl
        | true => exact Bool.noConfusion (show false = true from (hcl 21 12 (by kernel_rfl) (show _ = true from hh)))
      subst ht0 ht1 ht3 ht5 ht7 ht9 ht11 hn15 hn17 hn19 hn21
      clear hi hlt hcl
      refine wpOp_lit rfl (by rfl) (fun K hK => ?_)
      obtain ⟨M, rfl, hm⟩ := F0 rfl
      obtain ⟨hM, n, g, hmap, hn, v0, v1, v2, v3, v4, v5, v6⟩ := hm rfl
      obtain ⟨c, rfl, hc⟩ := R11 rfl
      obtain ⟨w6, hup, hm6, hb6, hs6, ho6⟩ := hmap.store (show n < maxLen from Nat.lt_of_le_of_lt hn (by have h0 := toNat_le; unfold maxLen; have := h0 b2; have := h0 b4; have := h0 b6; have := h0 b8; have := h0 b10; have := h0 b14; simp only [Bool.toNat_false] at *; omega)) (x := { data := #[108, 105, 109, 105, 116] }) (by decide) (rdV (.number c))
      have hkc := hmap.keepC ho6
      have hFA := (FA rfl).trans (hb6.mono hM)
      go_simp
      (try simp only [Act.put, List.setIfInBounds_toArray, List.set_cons_zero, List.set_cons_succ])
      exact hK.out _ _ ⟨_, _, _, _, _, _, _, _, _, _, _, _, _, _, _, _, _, _, _, _, _, _, _, _, _, _, _, _, _, _, _, _, _, _, _, _, rfl, rfl, (fun _ => hFA), (fun _ => ⟨M, rfl, fun _ => ⟨hM, _, _, hm6, (by simp only [Bool.toNat_false, Bool.toNat_true] at *; omega), (fun h => (if_neg (by decide)).trans (v0 h)), (fun h => (if_neg (by decide)).trans (v1 h)), (fun h => (if_neg (by decide)).trans (v2 h)), (fun h => (if_neg (by decide)).trans (v3 h)), (fun h => (if_neg (by decide)).trans (v4 h)), (fun _ => if_pos rfl), (fun h => (if_neg (by decide)).trans (v6 h))⟩⟩), (fun h => by obtain ⟨c, q, e1, e2⟩ := R1 h; exact ⟨c, q, e1, fun h2 => by obtain ⟨u1, u2, u3, u4⟩ := e2 h2; exact ⟨u1, hkc _ _ _ _ u2, u3, hkc _ _ _ _ u4⟩⟩), (fun h => by obtain ⟨c, q, e1, e2⟩ := R3 h; exact ⟨c, q, e1, fun h2 => by obtain ⟨u1, u2, u3, u4⟩ := e2 h2; exact ⟨u1, hkc _ _ _ _ u2, u3, hkc _ _ _ _ u4⟩⟩), (fun h => by obtain ⟨c, q, e1, e2⟩ := R5 h; exact ⟨c, q, e1, fun h2 => by obtain ⟨u1, u2, u3, u4⟩ := e2 h2; exact ⟨u1, hkc _ _ _ _ u2, u3, hkc _ _ _ _ u4⟩⟩), (fun h => by obtain ⟨c, e1, e2⟩ := R7 h; exact ⟨c, e1, fun h2 => by obtain ⟨u1, u2⟩ := e2 h2; exact ⟨u1, hkc _ _ _ _ u2⟩⟩), (fun h => by obtain ⟨c, e1, e2⟩ := R9 h; exact ⟨c, e1, fun h2 => by obtain ⟨u1, u2⟩ := e2 h2; exact ⟨u1, hkc _ _ _ _ u2⟩⟩), (fun _ => ⟨c, rfl, fun h2 => by obtain ⟨u1, u2⟩ := hc h2; exact ⟨u1, hkc _ _ _ _ u2⟩⟩), (fun h => by obtain ⟨c, e1, e2⟩ := R13 h; exact ⟨c, e1, fun h2 => by obtain ⟨u1, u2⟩ := e2 h2; exact ⟨u1, hkc _ _ _ _ u2⟩⟩), (fun h => by cases h), (fun h => by obtain ⟨s, e1, e2⟩ := FS h; exact ⟨s, e1, fun h2 => by obtain ⟨u1, u2⟩ := e2 h2; exact ⟨u1, hkc _ _ _ _ u2⟩⟩), (fun h => by cases h), FL, (fun h => by cases h), (fun h => by obtain ⟨f, e1, e2, e3⟩ := FF h; exact ⟨f, e1, e2, hkc _ _ _ _ e3⟩)⟩
    · have hu : b13 = false := ready_un hi
      have ht1 : b1 = true := (hcl 3 1 (by kernel_rfl) (hcl 5 3 (by kernel_rfl) (hcl 7 5 (by kernel_rfl) (hcl 9 7 (by kernel_rfl) (hcl 11 9 (by kernel_rfl) (ready_dep hi 11 (by kernel_rfl)))))))
      have ht3 : b3 = true := (hcl 5 3 (by kernel_rfl) (hcl 7 5 (by kernel_rfl) (hcl 9 7 (by kernel_rfl) (hcl 11 9 (by kernel_rfl) (ready_dep hi 11 (by kernel_rfl))))))
      have ht5 : b5 = true := (hcl 7 5 (by kernel_rfl) (hcl 9 7 (by kernel_rfl) (hcl 11 9 (by kernel_rfl) (ready_dep hi 11 (by kernel_rfl)))))
      have ht7 : b7 = true := (hcl 9 7 (by kernel_rfl) (hcl 11 9 (by kernel_rfl) (ready_dep hi 11 (by kernel_rfl))))
      have ht9 : b9 = true := (hcl 11 9 (by kernel_rfl) (ready_dep hi 11 (by kernel_rfl)))
      have ht11 : b11 = true := (ready_dep hi 11 (by kernel_rfl))
      subst hu
      have hn14 : b14 = false := by
        cases hh : b14 with
        | false => rfl
        | true => exact Bool.noConfusion (show false = true from (hcl 14 13 (by kernel_rfl) (show _ = true from hh)))
      have hn15 : b15 = false := by
        cases hh : b15 with
        | false => rfl
        | true => exact Bool.noConfusion (show false = true from (hcl 15 13 (by kernel_rfl) (show _ = true from hh)))
      have hn17 : b17 = false := by
        cases hh : b17 with
        | false => rfl
        | true => exact Bool.noConfusion (show false = true from (hcl 17 13 (by kernel_rfl) (show _ = true from hh)))
      have hn19 : b19 = false := by
        cases hh : b19 with
        | false => rfl
        | true => exact Bool.noConfusion (show false = true from (hcl 17 13 (by kernel_rfl) (hcl 19 17 (by kernel_rfl) (show _ = true from hh))))
      have hn21 : b21 = false := by
        cases hh : b21 with
        | false => rfl
        | true => exact Bool.noConfusion (show false = true from (hcl 21 13 (by kernel_rfl) (show _ = true from hh)))
      subst ht1 ht3 ht5 ht7 ht9 ht11 hn14 hn15 hn17 hn19 hn21
      clear hi hlt hcl
      refine wpOp_lit rfl (by rfl) (fun K hK => ?_)
      go_simp
      refine (mkNote_any n9 W).mono ?_
      rintro e V ⟨c, rfl, hc1, hc2, hb⟩
      have hkc := KeepC.of_below hb
      have hFA := bthen (FA rfl) (Nat.le_refl _) hb
      have hsA := (FA rfl).size
      (skip)
      exact hK.out _ _ ⟨_, _, _, _, _, _, _, _, _, _, _, _, _, _, _, _, _, _, _, _, _, _, _, _, _, _, _, _, _, _, _, _, _, _, _, _, rfl, rfl, (fun _ => hFA), (fun h => by obtain ⟨M, e1, e2⟩ := F0 h; exact ⟨M, e1, fun h2 => by obtain ⟨u1, n, g, u2, u3, v0, v1, v2, v3, v4, v5, v6⟩ := e2 h2; exact ⟨u1, n, g, u2.block (hb.block _ u2.lt), u3, v0, v1, v2, v3, v4, v5, (fun h => by cases h)⟩⟩), (fun h => by obtain ⟨c, q, e1, e2⟩ := R1 h; exact ⟨c, q, e1, fun h2 => by obtain ⟨u1, u2, u3, u4⟩ := e2 h2; exact ⟨u1, hkc _ _ _ _ u2, u3, hkc _ _ _ _ u4⟩⟩), (fun h => by obtain ⟨c, q, e1, e2⟩ := R3 h; exact ⟨c, q, e1, fun h2 => by obtain ⟨u1, u2, u3, u4⟩ := e2 h2; exact ⟨u1, hkc _ _ _ _ u2, u3, hkc _ _ _ _ u4⟩⟩), (fun h => by obtain ⟨c, q, e1, e2⟩ := R5 h; exact ⟨c, q, e1, fun h2 => by obtain ⟨u1, u2, u3, u4⟩ := e2 h2; exact ⟨u1, hkc _ _ _ _ u2, u3, hkc _ _ _ _ u4⟩⟩), (fun h => by obtain ⟨c, e1, e2⟩ := R7 h; exact ⟨c, e1, fun h2 => by obtain ⟨u1, u2⟩ := e2 h2; exact ⟨u1, hkc _ _ _ _ u2⟩⟩), (fun h => by obtain ⟨c, e1, e2⟩ := R9 h; exact ⟨c, e1, fun h2 => by obtain ⟨u1, u2⟩ := e2 h2; exact ⟨u1, hkc _ _ _ _ u2⟩⟩), (fun h => by obtain ⟨c, e1, e2⟩ := R11 h; exact ⟨c, e1, fun h2 => by obtain ⟨u1, u2⟩ := e2 h2; exact ⟨u1, hkc _ _ _ _ u2⟩⟩), (fun _ => ⟨c, rfl, fun _ => ⟨Nat.le_trans hsA hc1, hc2⟩⟩), (fun h => by cases h), (fun h => by obtain ⟨s, e1, e2⟩ := FS h; exact ⟨s, e1, fun h2 => by obtain ⟨u1, u2⟩ := e2 h2; exact ⟨u1, hkc _ _ _ _ u2⟩⟩), (fun h => by cases h), FL, (fun h => by cases h), (fun h => by obtain ⟨f, e1, e2, e3⟩ := FF h; exact ⟨f, e1, e2, hkc _ _ _ _ e3⟩)⟩
    · have hu : b14 = false := ready_un hi
      have ht0 : b0 = true := (ready_dep hi 0 (by kernel_rfl))
      have ht1 : b1 = true := (hcl 3 1 (by kernel_rfl) (hcl 5 3 (by kernel_rfl) (hcl 7 5 (by kernel_rfl) (hcl 9 7 (by kernel_rfl) (hcl 11 9 (by kernel_rfl) (hcl 13 11 (by kernel_rfl) (ready_dep hi 13 (by kernel_rfl))))))))
      have ht3 : b3 = true := (hcl 5 3 (by kernel_rfl) (hcl 7 5 (by kernel_rfl) (hcl 9 7 (by kernel_rfl) (hcl 11 9 (by kernel_rfl) (hcl 13 11 (by kernel_rfl) (ready_dep hi 13 (by kernel_rfl)))))))
      have ht5 : b5 = true := (hcl 7 5 (by kernel_rfl) (hcl 9 7 (by kernel_rfl) (hcl 11 9 (by kernel_rfl) (hcl 13 11 (by kernel_rfl) (ready_dep hi 13 (by kernel_rfl))))))
      have ht7 : b7 = true := (hcl 9 7 (by kernel_rfl) (hcl 11 9 (by kernel_rfl) (hcl 13 11 (by kernel_rfl) (ready_dep hi 13 (by kernel_rfl)))))
      have ht9 : b9 = true := (hcl 11 9 (by kernel_rfl) (hcl 13 11 (by kernel_rfl) (ready_dep hi 13 (by kernel_rfl))))
      have ht11 : b11 = true := (hcl 13 11 (by kernel_rfl) (ready_dep hi 13 (by kernel_rfl)))
      have ht13 : b13 = true := (ready_dep hi 13 (by kernel_rfl))
      subst hu
      have hn15 : b15 = false := by
        cases hh : b15 with
        | false => rfl
        | true => exact Bool.noConfusion (show false = true from (hcl 15 14 (by kernel_rfl) (show _ = true from hh)))
      have hn17 : b17 = false := by
        cases hh : b17 with
        | false => rfl
        | true => exact Bool.noConfusion (show false = true from (hcl 15 14 (by kernel_rfl) (hcl 17 15 (by kernel_rfl) (show _ = true from hh))))
      have hn19 : b19 = false := by
        cases hh : b19 with
        | false => rfl
        | true => exact Bool.noConfusion (show false = true from (hcl 15 14 (by kernel_rfl) (hcl 17 15 (by kernel_rfl) (hcl 19 17 (by kernel_rfl) (show _ = true from hh)))))
      have hn21 : b21 = false := by
        cases hh : b21 with
        | false => rfl
        | true => exact Bool.noConfusion (show false = true from (hcl 21 14 (by kernel_rfl) (show _ = true from hh)))
      subst ht0 ht1 ht3 ht5 ht7 ht9 ht11 ht13 hn15 hn17 hn19 hn21
      clear hi hlt hcl
      refine wpOp_lit rfl (by rfl) (fun K hK => ?_)
      obtain ⟨M, rfl, hm⟩ := F0 rfl
      obtain ⟨hM, n, g, hmap, hn, v0, v1, v2, v3, v4, v5, v6⟩ := hm rfl
      obtain ⟨c, rfl, hc⟩ := R13 rfl
      obtain ⟨w6, hup, hm6, hb6, hs6, ho6⟩ := hmap.store (show n < maxLen from Nat.lt_of_le_of_lt hn (by have h0 := toNat_le; unfold maxLen; have := h0 b2; have := h0 b4; have := h0 b6; have := h0 b8; have := h0 b10; have := h0 b12; simp only [Bool.toNat_false] at *; omega)) (x := { data := #[110, 111, 116, 101] }) (by decide) (rdV (.note c))
      have hkc := hmap.keepC ho6
      have hFA := (FA rfl).trans (hb6.mono hM)
      go_simp
      (try simp only [Act.put, List.setIfInBounds_toArray, List.set_cons_zero, List.set_cons_succ])
      exact hK.out _ _ ⟨_, _, _, _, _, _, _, _, _, _, _, _, _, _, _, _, _, _, _, _, _, _, _, _, _, _, _, _, _, _, _, _, _, _, _, _, rfl, rfl, (fun _ => hFA), (fun _ => ⟨M, rfl, fun _ => ⟨hM, _, _, hm6, (by simp only [Bool.toNat_false, Bool.toNat_true] at *; omega), (fun h => (if_neg (by decide)).trans (v0 h)), (fun h => (if_neg (by decide)).trans (v1 h)), (fun h => (if_neg (by decide)).trans (v2 h)), (fun h => (if_neg (by decide)).trans (v3 h)), (fun h => (if_neg (by decide)).trans (v4 h)), (fun h => (if_neg (by decide)).trans (v5 h)), (fun _ => if_pos rfl)⟩⟩), (fun h => by obtain ⟨c, q, e1, e2⟩ := R1 h; exact ⟨c, q, e1, fun h2 => by obtain ⟨u1, u2, u3, u4⟩ := e2 h2; exact ⟨u1, hkc _ _ _ _ u2, u3, hkc _ _ _ _ u4⟩⟩), (fun h => by obtain ⟨c, q, e1, e2⟩ := R3 h; exact ⟨c, q, e1, fun h2 => by obtain ⟨u1, u2, u3, u4⟩ := e2 h2; exact ⟨u1, hkc _ _ _ _ u2, u3, hkc _ _ _ _ u4⟩⟩), (fun h => by obtain ⟨c, q, e1, e2⟩ := R5 h; exact ⟨c, q, e1, fun h2 => by obtain ⟨u1, u2, u3, u4⟩ := e2 h2; exact ⟨u1, hkc _ _ _ _ u2, u3, hkc _ _ _ _ u4⟩⟩), (fun h => by obtain ⟨c, e1, e2⟩ := R7 h; exact ⟨c, e1, fun h2 => by obtain ⟨u1, u2⟩ := e2 h2; exact ⟨u1, hkc _ _ _ _ u2⟩⟩), (fun h => by obtain ⟨c, e1, e2⟩ := R9 h; exact ⟨c, e1, fun h2 => by obtain ⟨u1, u2⟩ := e2 h2; exact ⟨u1, hkc _ _ _ _ u2⟩⟩), (fun h => by obtain ⟨c, e1, e2⟩ := R11 h; exact ⟨c, e1, fun h2 => by obtain ⟨u1, u2⟩ := e2 h2; exact ⟨u1, hkc _ _ _ _ u2⟩⟩), (fun _ => ⟨c, rfl, fun h2 => by obtain ⟨u1, u2⟩ := hc h2; exact ⟨u1, hkc _ _ _ _ u2⟩⟩), (fun h => by cases h), (fun h => by obtain ⟨s, e1, e2⟩ := FS h; exact ⟨s, e1, fun h2 => by obtain ⟨u1, u2⟩ := e2 h2; exact ⟨u1, hkc _ _ _ _ u2⟩⟩), (fun h => by cases h), FL, (fun h => by cases h), (fun h => by obtain ⟨f, e1, e2, e3⟩ := FF h; exact ⟨f, e1, e2, hkc _ _ _ _ e3⟩)⟩
    · have hu : b15 = false := ready_un hi
      have ht0 : b0 = true := (ready_dep hi 0 (by kernel_rfl))
      have ht1 : b1 = true := (ready_dep hi 1 (by kernel_rfl))
      have ht2 : b2 = true := (ready_dep hi 2 (by kernel_rfl))
      have ht3 : b3 = true := (ready_dep hi 3 (by kernel_rfl))
      have ht4 : b4 = true := (ready_dep hi 4 (by kernel_rfl))
      have ht5 : b5 = true := (ready_dep hi 5 (by kernel_rfl))
      have ht6 : b6 = true := (ready_dep hi 6 (by kernel_rfl))
      have ht7 : b7 = true := (ready_dep hi 7 (by kernel_rfl))
      have ht8 : b8 = true := (ready_dep hi 8 (by kernel_rfl))
      have ht9 : b9 = true := (ready_dep hi 9 (by kernel_rfl))
      have ht10 : b10 = true := (ready_dep hi 10 (by kernel_rfl))
      have ht11 : b11 = true := (ready_dep hi 11 (by kernel_rfl))
      have ht12 : b12 = true := (ready_dep hi 12 (by kernel_rfl))
      have ht13 : b13 = true := (ready_dep hi 13 (by kernel_rfl))
      have ht14 : b14 = true := (ready_dep hi 14 (by kernel_rfl))
      subst hu
      have hn17 : b17 = false := by
        cases hh : b17 with
        | false => rfl
        | true => exact Bool.noConfusion (show false = true from (hcl 17 15 (by kernel_rfl) (show _ = true from hh)))
      have hn19 : b19 = false := by
        cases hh : b19 with
        | false => rfl
        | true => exact Bool.noConfusion (show false = true from (hcl 17 15 (by kernel_rfl) (hcl 19 17 (by kernel_rfl) (show _ = true from hh))))
      have hn21 : b21 = false := by
        cases hh : b21 with
        | false => rfl
        | true => exact Bool.noConfusion (show false = true from (hcl 21 15 (by kernel_rfl) (show _ = true from hh)))
      subst ht0 ht1 ht2 ht3 ht4 ht5 ht6 ht7 ht8 ht9 ht10 ht11 ht12 ht13 ht14 hn17 hn19 hn21
      clear hi hlt hcl
      refine wpOp_lit rfl (by rfl) (fun K hK => ?_)
      go_simp
      (try simp only [Act.put, List.setIfInBounds_toArray, List.set_cons_zero, List.set_cons_succ])
      exact hK.out _ _ ⟨_, _, _, _, _, _, _, _, _, _, _, _, _, _, _, _, _, _, _, _, _, _, _, _, _, _, _, _, _, _, _, _, _, _, _, _, rfl, rfl, FA, F0, R1, R3, R5, R7, R9, R11, R13, (fun _ => rfl), FS, (fun h => by cases h), FL, (fun h => by cases h), FF⟩
    · have hu : b16 = false := ready_un hi
      subst hu
      have hn17 : b17 = false := by
        cases hh : b17 with
        | false => rfl
        | true => exact Bool.noConfusion (show false = true from (hcl 17 16 (by kernel_rfl) (show _ = true from hh)))
      have hn19 : b19 = false := by
        cases hh : b19 with
        | false => rfl
        | true => exact Bool.noConfusion (show false = true from (hcl 17 16 (by kernel_rfl) (hcl 19 17 (by kernel_rfl) (show _ = true from hh))))
      have hn21 : b21 = false := by
        cases hh : b21 with
        | false => rfl
        | true => exact Bool.noConfusion (show false = true from (hcl 21 16 (by kernel_rfl) (show _ = true from hh)))
      subst hn17 hn19 hn21
      clear hi hlt hcl
      refine wpOp_lit rfl (by rfl) (fun K hK => ?_)
      have hb : Below W.heap.size W (W.alloc (.cells #[.string { data := #[110, 97, 109, 101] }, .string { data := #[97, 99, 116, 105, 111, 110] }] 9)) := (Below.refl _ _).alloc (Nat.le_refl _) _
      have hnew := World.alloc_heap_new W (.cells #[.string { data := #[110, 97, 109, 101] }, .string { data := #[97, 99, 116, 105, 111, 110] }] 9)
      have hkc := KeepC.of_below hb
      have hFA := bthen (FA rfl) (Nat.le_refl _) hb
      have hsA := (FA rfl).size
      go_simp
      (try simp only [Act.put, List.setIfInBounds_toArray, List.set_cons_zero, List.set_cons_succ])
      exact hK.out _ _ ⟨_, _, _, _, _, _, _, _, _, _, _, _, _, _, _, _, _, _, _, _, _, _, _, _, _, _, _, _, _, _, _, _, _, _, _, _, rfl, rfl, (fun _ => hFA), (fun h => by obtain ⟨M, e1, e2⟩ := F0 h; exact ⟨M, e1, fun h2 => by obtain ⟨u1, n, g, u2, u3⟩ := e2 h2; exact ⟨u1, n, g, u2.block (hb.block _ u2.lt), u3⟩⟩), (fun h => by obtain ⟨c, q, e1, e2⟩ := R1 h; exact ⟨c, q, e1, fun h2 => by obtain ⟨u1, u2, u3, u4⟩ := e2 h2; exact ⟨u1, hkc _ _ _ _ u2, u3, hkc _ _ _ _ u4⟩⟩), (fun h => by obtain ⟨c, q, e1, e2⟩ := R3 h; exact ⟨c, q, e1, fun h2 => by obtain ⟨u1, u2, u3, u4⟩ := e2 h2; exact ⟨u1, hkc _ _ _ _ u2, u3, hkc _ _ _ _ u4⟩⟩), (fun h => by obtain ⟨c, q, e1, e2⟩ := R5 h; exact ⟨c, q, e1, fun h2 => by obtain ⟨u1, u2, u3, u4⟩ := e2 h2; exact ⟨u1, hkc _ _ _ _ u2, u3, hkc _ _ _ _ u4⟩⟩), (fun h => by obtain ⟨c, e1, e2⟩ := R7 h; exact ⟨c, e1, fun h2 => by obtain ⟨u1, u2⟩ := e2 h2; exact ⟨u1, hkc _ _ _ _ u2⟩⟩), (fun h => by obtain ⟨c, e1, e2⟩ := R9 h; exact ⟨c, e1, fun h2 => by obtain ⟨u1, u2⟩ := e2 h2; exact ⟨u1, hkc _ _ _ _ u2⟩⟩), (fun h => by obtain ⟨c, e1, e2⟩ := R11 h; exact ⟨c, e1, fun h2 => by obtain ⟨u1, u2⟩ := e2 h2; exact ⟨u1, hkc _ _ _ _ u2⟩⟩), (fun h => by obtain ⟨c, e1, e2⟩ := R13 h; exact ⟨c, e1, fun h2 => by obtain ⟨u1, u2⟩ := e2 h2; exact ⟨u1, hkc _ _ _ _ u2⟩⟩), FM, (fun _ => ⟨_, rfl, fun _ => ⟨hsA, hnew⟩⟩), (fun h => by cases h), FL, (fun h => by cases h), (fun h => by obtain ⟨f, e1, e2, e3⟩ := FF h; exact ⟨f, e1, e2, hkc _ _ _ _ e3⟩)⟩
    · have hu : b17 = false := ready_un hi
      have ht0 : b0 = true := (hcl 15 0 (by kernel_rfl) (ready_dep hi 15 (by kernel_rfl)))
      have ht1 : b1 = true := (hcl 15 1 (by kernel_rfl) (ready_dep hi 15 (by kernel_rfl)))
      have ht2 : b2 = true := (hcl 15 2 (by kernel_rfl) (ready_dep hi 15 (by kernel_rfl)))
      have ht3 : b3 = true := (hcl 15 3 (by kernel_rfl) (ready_dep hi 15 (by kernel_rfl)))
      have ht4 : b4 = true := (hcl 15 4 (by kernel_rfl) (ready_dep hi 15 (by kernel_rfl)))
      have ht5 : b5 = true := (hcl 15 5 (by kernel_rfl) (ready_dep hi 15 (by kernel_rfl)))
      have ht6 : b6 = true := (hcl 15 6 (by kernel_rfl) (ready_dep hi 15 (by kernel_rfl)))
      have ht7 : b7 = true := (hcl 15 7 (by kernel_rfl) (ready_dep hi 15 (by kernel_rfl)))
      have ht8 : b8 = true := (hcl 15 8 (by kernel_rfl) (ready_dep hi 15 (by kernel_rfl)))
      have ht9 : b9 = true := (hcl 15 9 (by kernel_rfl) (ready_dep hi 15 (by kernel_rfl)))
      have ht10 : b10 = true := (hcl 15 10 (by kernel_rfl) (ready_dep hi 15 (by kernel_rfl)))
      have ht11 : b11 = true := (hcl 13 11 (by kernel_rfl) (ready_dep hi 13 (by kernel_rfl)))
      have ht12 : b12 = true := (hcl 15 12 (by kernel_rfl) (ready_dep hi 15 (by kernel_rfl)))
      have ht13 : b13 = true := (ready_dep hi 13 (by kernel_rfl))
      have ht14 : b14 = true := (hcl 15 14 (by kernel_rfl) (ready_dep hi 15 (by kernel_rfl)))
      have ht15 : b15 = true := (ready_dep hi 15 (by kernel_rfl))
      have ht16 : b16 = true := (ready_dep hi 16 (by kernel_rfl))
      subst hu
      have hn19 : b19 = false := by
        cases hh : b19 with
        | false => rfl
        | true => exact Bool.noConfusion (show false = true from (hcl 19 17 (by kernel_rfl) (show _ = true from hh)))
      have hn21 : b21 = false := by
        cases hh : b21 with
        | false => rfl
        | true => exact Bool.noConfusion (show false = true from (hcl 21 17 (by kernel_rfl) (show _ = true from hh)))
      subst ht0 ht1 ht2 ht3 ht4 ht5 ht6 ht7 ht8 ht9 ht10 ht11 ht12 ht13 ht14 ht15 ht16 hn19 hn21
      clear hi hlt hcl
      refine wpOp_lit rfl (by rfl) (fun K hK => ?_)
      obtain ⟨M, rfl, hm⟩ := F0 rfl
      obtain rfl := FM rfl
      obtain ⟨s, rfl, hs⟩ := FS rfl
      go_simp
      refine (mkKeys_any M (some ⟨s, 0, none⟩) 2 2 W).mono ?_
      rintro e V ⟨p, q, rfl, hp1, hq1, hp2, hq2, hb⟩
      have hkc := KeepC.of_below hb
      have hFA := bthen (FA rfl) (Nat.le_refl _) hb
      have hsA := (FA rfl).size
      (skip)
      exact hK.out _ _ ⟨_, _, _, _, _, _, _, _, _, _, _, _, _, _, _, _, _, _, _, _, _, _, _, _, _, _, _, _, _, _, _, _, _, _, _, _, rfl, rfl, (fun _ => hFA), (fun _ => ⟨M, rfl, fun h2 => by obtain ⟨u1, n, g, u2, u3⟩ := hm h2; exact ⟨u1, n, g, u2.block (hb.block _ u2.lt), u3⟩⟩), (fun h => by obtain ⟨c, q, e1, e2⟩ := R1 h; exact ⟨c, q, e1, fun h2 => by obtain ⟨u1, u2, u3, u4⟩ := e2 h2; exact ⟨u1, hkc _ _ _ _ u2, u3, hkc _ _ _ _ u4⟩⟩), (fun h => by obtain ⟨c, q, e1, e2⟩ := R3 h; exact ⟨c, q, e1, fun h2 => by obtain ⟨u1, u2, u3, u4⟩ := e2 h2; exact ⟨u1, hkc _ _ _ _ u2, u3, hkc _ _ _ _ u4⟩⟩), (fun h => by obtain ⟨c, q, e1, e2⟩ := R5 h; exact ⟨c, q, e1, fun h2 => by obtain ⟨u1, u2, u3, u4⟩ := e2 h2; exact ⟨u1, hkc _ _ _ _ u2, u3, hkc _ _ _ _ u4⟩⟩), (fun h => by obtain ⟨c, e1, e2⟩ := R7 h; exact ⟨c, e1, fun h2 => by obtain ⟨u1, u2⟩ := e2 h2; exact ⟨u1, hkc _ _ _ _ u2⟩⟩), (fun h => by obtain ⟨c, e1, e2⟩ := R9 h; exact ⟨c, e1, fun h2 => by obtain ⟨u1, u2⟩ := e2 h2; exact ⟨u1, hkc _ _ _ _ u2⟩⟩), (fun h => by obtain ⟨c, e1, e2⟩ := R11 h; exact ⟨c, e1, fun h2 => by obtain ⟨u1, u2⟩ := e2 h2; exact ⟨u1, hkc _ _ _ _ u2⟩⟩), (fun h => by obtain ⟨c, e1, e2⟩ := R13 h; exact ⟨c, e1, fun h2 => by obtain ⟨u1, u2⟩ := e2 h2; exact ⟨u1, hkc _ _ _ _ u2⟩⟩), (fun _ => rfl), (fun _ => ⟨s, rfl, fun h2 => by obtain ⟨u1, u2⟩ := hs h2; exact ⟨u1, hkc _ _ _ _ u2⟩⟩), (fun _ => ⟨p, q, rfl, fun _ => ⟨Nat.le_trans hsA hp1, Nat.le_trans hsA hq1, ⟨M, rfl, hp2⟩, hq2⟩⟩), FL, (fun h => by cases h), (fun h => by obtain ⟨f, e1, e2, e3⟩ := FF h; exact ⟨f, e1, e2, hkc _ _ _ _ e3⟩)⟩
    · have hu : b18 = false := ready_un hi
      subst hu
      have hn19 : b19 = false := by
        cases hh : b19 with
        | false => rfl
        | true => exact Bool.noConfusion (show false = true from (hcl 19 18 (by kernel_rfl) (show _ = true from hh)))
      have hn21 : b21 = false := by
        cases hh : b21 with
        | false => rfl
        | true => exact Bool.noConfusion (show false = true from (hcl 21 18 (by kernel_rfl) (show _ = true from hh)))
      subst hn19 hn21
      clear hi hlt hcl
      refine wpOp_lit rfl (by rfl) (fun K hK => ?_)
      obtain ⟨q0, q1, q2, q3, q4⟩ := cells5n (t := 34) (((FA rfl).block _ HLT3.out).trans HG3.out)
      go_simp
      clear q0 q1 q2 q3 q4
      (try simp only [Act.put, List.setIfInBounds_toArray, List.set_cons_zero, List.set_cons_succ])
      exact hK.out _ _ ⟨_, _, _, _, _, _, _, _, _, _, _, _, _, _, _, _, _, _, _, _, _, _, _, _, _, _, _, _, _, _, _, _, _, _, _, _, rfl, rfl, FA, F0, R1, R3, R5, R7, R9, R11, R13, FM, FS, FK, (fun _ => rfl), (fun h => by cases h), FF⟩
    · have hu : b19 = false := ready_un hi
      have ht0 : b0 = true := (hcl 15 0 (by kernel_rfl) (hcl 17 15 (by kernel_rfl) (ready_dep hi 17 (by kernel_rfl))))
      have ht1 : b1 = true := (hcl 15 1 (by kernel_rfl) (hcl 17 15 (by kernel_rfl) (ready_dep hi 17 (by kernel_rfl))))
      have ht2 : b2 = true := (hcl 15 2 (by kernel_rfl) (hcl 17 15 (by kernel_rfl) (ready_dep hi 17 (by kernel_rfl))))
      have ht3 : b3 = true := (hcl 15 3 (by kernel_rfl) (hcl 17 15 (by kernel_rfl) (ready_dep hi 17 (by kernel_rfl))))
      have ht4 : b4 = true := (hcl 15 4 (by kernel_rfl) (hcl 17 15 (by kernel_rfl) (ready_dep hi 17 (by kernel_rfl))))
      have ht5 : b5 = true := (hcl 15 5 (by kernel_rfl) (hcl 17 15 (by kernel_rfl) (ready_dep hi 17 (by kernel_rfl))))
      have ht6 : b6 = true := (hcl 15 6 (by kernel_rfl) (hcl 17 15 (by kernel_rfl) (ready_dep hi 17 (by kernel_rfl))))
      have ht7 : b7 = true := (hcl 15 7 (by kernel_rfl) (hcl 17 15 (by kernel_rfl) (ready_dep hi 17 (by kernel_rfl))))
      have ht8 : b8 = true := (hcl 15 8 (by kernel_rfl) (hcl 17 15 (by kernel_rfl) (ready_dep hi 17 (by kernel_rfl))))
      have ht9 : b9 = true := (hcl 15 9 (by kernel_rfl) (hcl 17 15 (by kernel_rfl) (ready_dep hi 17 (by kernel_rfl))))
      have ht10 : b10 = true := (hcl 15 10 (by kernel_rfl) (hcl 17 15 (by kernel_rfl) (ready_dep hi 17 (by kernel_rfl))))
      have ht11 : b11 = true := (hcl 13 11 (by kernel_rfl) (hcl 17 13 (by kernel_rfl) (ready_dep hi 17 (by kernel_rfl))))
      have ht12 : b12 = true := (hcl 15 12 (by kernel_rfl) (hcl 17 15 (by kernel_rfl) (ready_dep hi 17 (by kernel_rfl))))
      have ht13 : b13 = true := (hcl 17 13 (by kernel_rfl) (ready_dep hi 17 (by kernel_rfl)))
      have ht14 : b14 = true := (hcl 15 14 (by kernel_rfl) (hcl 17 15 (by kernel_rfl) (ready_dep hi 17 (by kernel_rfl))))
      have ht15 : b15 = true := (hcl 17 15 (by kernel_rfl) (ready_dep hi 17 (by kernel_rfl)))
      have ht16 : b16 = true := (hcl 17 16 (by kernel_rfl) (ready_dep hi 17 (by kernel_rfl)))
      have ht17 : b17 = true := (ready_dep hi 17 (by kernel_rfl))
      have ht18 : b18 = true := (ready_dep hi 18 (by kernel_rfl))
      subst hu
      have hn21 : b21 = false := by
        cases hh : b21 with
        | false => rfl
        | true => exact Bool.noConfusion (show false = true from (hcl 21 19 (by kernel_rfl) (show _ = true from hh)))
      subst ht0 ht1 ht2 ht3 ht4 ht5 ht6 ht7 ht8 ht9 ht10 ht11 ht12 ht13 ht14 ht15 ht16 ht17 ht18 hn21
      clear hi hlt hcl
      refine wpOp_lit rfl (by rfl) (fun K hK => ?_)
      obtain ⟨M, rfl, hm⟩ := F0 rfl
      obtain ⟨hM, n, g, hmap, hn, v0, v1, v2, v3, v4, v5, v6⟩ := hm rfl
      obtain rfl := FM rfl
      obtain ⟨s, rfl, hs⟩ := FS rfl
      obtain ⟨hs1, hs2⟩ := hs rfl
      obtain ⟨p, q, rfl, hpq⟩ := FK rfl
      obtain ⟨hp1, hq1, ⟨M', hM', hp2⟩, hq2⟩ := hpq rfl
      cases hM'
      obtain rfl := FL rfl
      obtain ⟨c1, q1, rfl, hc1⟩ := R1 rfl
      obtain ⟨ha1, hb1, hd1, he1⟩ := hc1 rfl
      obtain ⟨c3, q3, rfl, hc3⟩ := R3 rfl
      obtain ⟨ha3, hb3, hd3, he3⟩ := hc3 rfl
      obtain ⟨c5, q5, rfl, hc5⟩ := R5 rfl
      obtain ⟨ha5, hb5, hd5, he5⟩ := hc5 rfl
      obtain ⟨c7, rfl, hc7⟩ := R7 rfl
      obtain ⟨ha7, hb7⟩ := hc7 rfl
      obtain ⟨c9, rfl, hc9⟩ := R9 rfl
      obtain ⟨ha9, hb9⟩ := hc9 rfl
      obtain ⟨c11, rfl, hc11⟩ := R11 rfl
      obtain ⟨ha11, hb11⟩ := hc11 rfl
      obtain ⟨c13, rfl, hc13⟩ := R13 rfl
      obtain ⟨ha13, hb13⟩ := hc13 rfl
      have hv0 := v0 rfl
      have hv1 := v1 rfl
      have hv2 := v2 rfl
      have hv3 := v3 rfl
      have hv4 := v4 rfl
      have hv5 := v5 rfl
      have hv6 := v6 rfl
      have hfa := FA rfl
      have hsW := hfa.size
      have hz3 := HSZ3.out
      obtain ⟨z1, z2, z3, z4, z5, z6, z7, z8, z9⟩ := HEQ.out
      have hw0 := HW3.out.size
      have hM' := hmap.lt
      have hpl := (Array.getElem?_eq_some_iff.1 hp2).1
      have hql := (Array.getElem?_eq_some_iff.1 hq2).1
      have hsl := (Array.getElem?_eq_some_iff.1 hs2).1
      have hml : RdS W (.slice (some ⟨s, 0, none⟩) 2 2) 1 [sName, sAction].length (strsV [sName, sAction]) := rds_row 2 1 hs2 rfl (by decide)
      have hclt : ∀ j, (j = c1 ∨ j = q1 ∨ j = c3 ∨ j = q3 ∨ j = c5 ∨ j = q5 ∨ j = c7 ∨ j = c9 ∨ j = c11 ∨ j = c13) → n9 < j ∧ j < W.heap.size := by
        have i1 := (Array.getElem?_eq_some_iff.1 hb1).1
        have i2 := (Array.getElem?_eq_some_iff.1 he1).1
        have i3 := (Array.getElem?_eq_some_iff.1 hb3).1
        have i4 := (Array.getElem?_eq_some_iff.1 he3).1
        have i5 := (Array.getElem?_eq_some_iff.1 hb5).1
        have i6 := (Array.getElem?_eq_some_iff.1 he5).1
        have i7 := (Array.getElem?_eq_some_iff.1 hb7).1
        have i8 := (Array.getElem?_eq_some_iff.1 hb9).1
        have i9 := (Array.getElem?_eq_some_iff.1 hb11).1
        have i10 := (Array.getElem?_eq_some_iff.1 hb13).1
        intro j hj
        omega
      have hbx : BoxS n3 n4 n5 n6 n7 n8 n9 (W.heap.size + 2) (stS sd 0) W := ⟨(hfa.block _ (by omega)).trans HI3.out, (hfa.block _ (by omega)).trans HI4.out, (hfa.block _ (by omega)).trans HI5.out, ⟨none, 0, (hfa.block _ (by omega)).trans HI6.out, World.ownsRow_nil _ _ _ _⟩, (hfa.block _ (by omega)).trans HI7.out, (hfa.block _ (by omega)).trans HI8.out, ⟨_, _, _, _, _, (hfa.block _ (by omega)).trans HI9.out, zero_node W _⟩⟩
      have HKL : Hid (t.keys.length = t.kids.length) := Lib.hid (by rw [HT.out]; exact step_lens sd)
      have HCALL := keys1_any (fun j => n3 ≤ j ∧ j ≤ n9) t [.int .u8 (t.kind : Int), .string t.text, .slice ka t.keys.length kc, .slice ba t.kids.length bc, .int .i64 t.line] p q M n g (.slice (some ⟨s, 0, none⟩) 2 2) [sName, sAction] (InvS n3 n4 n5 n6 n7 n8 n9 c1 q1 c3 q3 c5 q5 c7 c9 c11 c13 (W.heap.size + 2) sd) w0 W HN.out (HW3.out.trans (hfa.mono hw0)) (by rw [HT.out]; rfl) HKL.out (by rw [HT.out]; exact Nat.le_trans (stepCs_len sd) (by decide)) (by intro j h; omega) (by intro h; omega) (by intro h; omega) hp2 (by intro h; omega) hq2 (by intro h; omega) hmap (by intro h; omega) hml (by intro _ b hb h; simp [Value.ownBlock] at hb; omega) (by rw [HT.out]; exact step_must sd) (by decide)
        (invS_keep (by intro j hj; have := hclt j hj; omega) (by omega) (by omega)) (by rw [HT.out]; exact readsS HP.out hv0 hv1 hv2 hv3 hv4 hv5 hv6 (by omega) (by omega) (fun j hj => (hclt j hj).1) (by intro j hj; omega)) ⟨hbx, ⟨hb1, he1, hb3, he3, hb5, he5, hb7, hb9, hb11, hb13⟩⟩
      dsimp only [keysV]
      go_simp
      refine HCALL.mono ?_
      rintro e V ⟨rfl, ⟨hbv, -⟩, ht⟩
      have hkn : t.kids.length = (stepKs sd).length := by rw [← HKL.out, HT.out]; rfl
      rw [hkn, stS_all] at hbv
      unfold zeroF
      have hfn : FinS w3.drew n3 n4 n5 n6 n7 n8 n9 sd V b20 x11 := ⟨W.heap.size + 2, V.heap.size, by omega, Nat.le_refl _, hbv.toP, (TurnS.of_below hfa).trans ht, fun h f hf => by
        obtain ⟨f', e1, e2, e3⟩ := FF h
        rw [hf] at e1
        cases e1
        have := (Array.getElem?_eq_some_iff.1 e3).1
        omega⟩
      have hFF : b20 = true → ∃ f, x11 = .pointer (some ⟨f, 0, none⟩) ∧ w3.drew.heap.size ≤ f ∧ V.heap[f]? = some (.cells #[.int .i64 0, .int .i64 0] 29 (0, 0)) := fun h => by
        obtain ⟨f, e1, e2, e3⟩ := FF h
        exact ⟨f, e1, e2, (ht.block _ (Array.getElem?_eq_some_iff.1 e3).1 (by intro h; omega)).trans e3⟩
      (skip)
      exact hK.out _ _ ⟨_, _, _, _, _, _, _, _, _, _, _, _, _, _, _, _, _, _, _, _, _, _, _, _, _, _, _, _, _, _, _, _, _, _, _, _, rfl, rfl, (fun h => by cases h), (fun _ => ⟨M, rfl, fun h => by cases h⟩), (fun _ => ⟨c1, q1, rfl, fun h => by cases h⟩), (fun _ => ⟨c3, q3, rfl, fun h => by cases h⟩), (fun _ => ⟨c5, q5, rfl, fun h => by cases h⟩), (fun _ => ⟨c7, rfl, fun h => by cases h⟩), (fun _ => ⟨c9, rfl, fun h => by cases h⟩), (fun _ => ⟨c11, rfl, fun h => by cases h⟩), (fun _ => ⟨c13, rfl, fun h => by cases h⟩), (fun _ => rfl), (fun _ => ⟨s, rfl, fun h => by cases h⟩), (fun _ => ⟨p, q, rfl, fun h => by cases h⟩), (fun _ => rfl), (fun _ => ⟨rfl, hfn⟩), hFF⟩
    · have hu : b20 = false := ready_un hi
      subst hu
      have hn21 : b21 = false := by
        cases hh : b21 with
        | false => rfl
        | true => exact Bool.noConfusion (show false = true from (hcl 21 20 (by kernel_rfl) (show _ = true from hh)))
      subst hn21
      clear hi hlt hcl
      refine wpOp_lit rfl (by rfl) (fun K hK => ?_)
      have hb : Below W.heap.size W (W.alloc (.cells #[.int .i64 0, .int .i64 0] 29)) := (Below.refl _ _).alloc (Nat.le_refl _) _
      have hkc := KeepC.of_below hb
      have hnew := World.alloc_heap_new W (.cells #[.int .i64 0, .int .i64 0] 29)
      have hle : w3.drew.heap.size ≤ W.heap.size := by
        cases b19 with
        | false => exact (FA rfl).size
        | true => exact (FC rfl).2.size
      go_simp
      (try simp only [Act.put, List.setIfInBounds_toArray, List.set_cons_zero, List.set_cons_succ])
      exact hK.out _ _ ⟨_, _, _, _, _, _, _, _, _, _, _, _, _, _, _, _, _, _, _, _, _, _, _, _, _, _, _, _, _, _, _, _, _, _, _, _, rfl, rfl, (fun h => bthen (FA h) (Nat.le_refl _) hb), (fun h => by obtain ⟨M, e1, e2⟩ := F0 h; exact ⟨M, e1, fun h2 => by obtain ⟨u1, n, g, u2, u3⟩ := e2 h2; exact ⟨u1, n, g, u2.block (hb.block _ u2.lt), u3⟩⟩), (fun h => by obtain ⟨c, q, e1, e2⟩ := R1 h; exact ⟨c, q, e1, fun h2 => by obtain ⟨u1, u2, u3, u4⟩ := e2 h2; exact ⟨u1, hkc _ _ _ _ u2, u3, hkc _ _ _ _ u4⟩⟩), (fun h => by obtain ⟨c, q, e1, e2⟩ := R3 h; exact ⟨c, q, e1, fun h2 => by obtain ⟨u1, u2, u3, u4⟩ := e2 h2; exact ⟨u1, hkc _ _ _ _ u2, u3, hkc _ _ _ _ u4⟩⟩), (fun h => by obtain ⟨c, q, e1, e2⟩ := R5 h; exact ⟨c, q, e1, fun h2 => by obtain ⟨u1, u2, u3, u4⟩ := e2 h2; exact ⟨u1, hkc _ _ _ _ u2, u3, hkc _ _ _ _ u4⟩⟩), (fun h => by obtain ⟨c, e1, e2⟩ := R7 h; exact ⟨c, e1, fun h2 => by obtain ⟨u1, u2⟩ := e2 h2; exact ⟨u1, hkc _ _ _ _ u2⟩⟩), (fun h => by obtain ⟨c, e1, e2⟩ := R9 h; exact ⟨c, e1, fun h2 => by obtain ⟨u1, u2⟩ := e2 h2; exact ⟨u1, hkc _ _ _ _ u2⟩⟩), (fun h => by obtain ⟨c, e1, e2⟩ := R11 h; exact ⟨c, e1, fun h2 => by obtain ⟨u1, u2⟩ := e2 h2; exact ⟨u1, hkc _ _ _ _ u2⟩⟩), (fun h => by obtain ⟨c, e1, e2⟩ := R13 h; exact ⟨c, e1, fun h2 => by obtain ⟨u1, u2⟩ := e2 h2; exact ⟨u1, hkc _ _ _ _ u2⟩⟩), FM, (fun h => by obtain ⟨s, e1, e2⟩ := FS h; exact ⟨s, e1, fun h2 => by obtain ⟨u1, u2⟩ := e2 h2; exact ⟨u1, hkc _ _ _ _ u2⟩⟩), (fun h => by obtain ⟨p, q, e1, e2⟩ := FK h; exact ⟨p, q, e1, fun h2 => by obtain ⟨u1, u2, ⟨M, u3, u4⟩, u5⟩ := e2 h2; exact ⟨u1, u2, ⟨M, u3, hkc _ _ _ _ u4⟩, hkc _ _ _ _ u5⟩⟩), FL, (fun h => ⟨(FC h).1, ((FC h).2.alloc hnew)⟩), (fun _ => ⟨_, rfl, hle, hnew⟩)⟩
    · have hu : b21 = false := ready_un hi
      have ht0 : b0 = true := (ready_dep hi 0 (by kernel_rfl))
      have ht1 : b1 = true := (ready_dep hi 1 (by kernel_rfl))
      have ht2 : b2 = true := (ready_dep hi 2 (by kernel_rfl))
      have ht3 : b3 = true := (ready_dep hi 3 (by kernel_rfl))
      have ht4 : b4 = true := (ready_dep hi 4 (by kernel_rfl))
      have ht5 : b5 = true := (ready_dep hi 5 (by kernel_rfl))
      have ht6 : b6 = true := (ready_dep hi 6 (by kernel_rfl))
      have ht7 : b7 = true := (ready_dep hi 7 (by kernel_rfl))
      have ht8 : b8 = true := (ready_dep hi 8 (by kernel_rfl))
      have ht9 : b9 = true := (ready_dep hi 9 (by kernel_rfl))
      have ht10 : b10 = true := (ready_dep hi 10 (by kernel_rfl))
      have ht11 : b11 = true := (ready_dep hi 11 (by kernel_rfl))
      have ht12 : b12 = true := (ready_dep hi 12 (by kernel_rfl))
      have ht13 : b13 = true := (ready_dep hi 13 (by kernel_rfl))
      have ht14 : b14 = true := (ready_dep hi 14 (by kernel_rfl))
      have ht15 : b15 = true := (ready_dep hi 15 (by kernel_rfl))
      have ht16 : b16 = true := (ready_dep hi 16 (by kernel_rfl))
      have ht17 : b17 = true := (ready_dep hi 17 (by kernel_rfl))
      have ht18 : b18 = true := (ready_dep hi 18 (by kernel_rfl))
      have ht19 : b19 = true := (ready_dep hi 19 (by kernel_rfl))
      have ht20 : b20 = true := (ready_dep hi 20 (by kernel_rfl))
      subst hu
      subst ht0 ht1 ht2 ht3 ht4 ht5 ht6 ht7 ht8 ht9 ht10 ht11 ht12 ht13 ht14 ht15 ht16 ht17 ht18 ht19 ht20
      clear hi hlt hcl
      refine wpOp_lit rfl (by rfl) (fun K hK => ?_)
      obtain ⟨f, rfl, hf1, hf2⟩ := FF rfl
      obtain ⟨rfl, hfin⟩ := FC rfl
      obtain ⟨y0, y1, y2, y3⟩ := cells2 hf2
      have hset := two_set (x := .int .i64 0) (y := .int .i64 0) hf2
      obtain ⟨z1, z2, z3, z4, z5, z6, z7, z8, z9⟩ := HEQ.out
      have hz3 := HSZ3.out
      have hfn2 := hfin.set (f := f) hf1 (by omega)
      replace F0 := Lib.hid F0
      replace FM := Lib.hid FM
      replace FL := Lib.hid FL
      replace FK := Lib.hid FK
      replace FS := Lib.hid FS
      replace R1 := Lib.hid R1
      replace R3 := Lib.hid R3
      replace R5 := Lib.hid R5
      replace R7 := Lib.hid R7
      replace R9 := Lib.hid R9
      replace R11 := Lib.hid R11
      replace R13 := Lib.hid R13
      go_simp
      replace F0 := F0.out
      replace FM := FM.out
      replace FL := FL.out
      replace FK := FK.out
      replace FS := FS.out
      replace R1 := R1.out
      replace R3 := R3.out
      replace R5 := R5.out
      replace R7 := R7.out
      replace R9 := R9.out
      replace R11 := R11.out
      replace R13 := R13.out
      (try simp only [Act.put, List.setIfInBounds_toArray, List.set_cons_zero, List.set_cons_succ])
      exact hK.out _ _ ⟨_, _, _, _, _, _, _, _, _, _, _, _, _, _, _, _, _, _, _, _, _, _, _, _, _, _, _, _, _, _, _, _, _, _, _, _, rfl, rfl, (fun h => by cases h), (fun h => by obtain ⟨M, e1, e2⟩ := F0 h; exact ⟨M, e1, fun h => by cases h⟩), (fun h => by obtain ⟨c, q, e1, e2⟩ := R1 h; exact ⟨c, q, e1, fun h => by cases h⟩), (fun h => by obtain ⟨c, q, e1, e2⟩ := R3 h; exact ⟨c, q, e1, fun h => by cases h⟩), (fun h => by obtain ⟨c, q, e1, e2⟩ := R5 h; exact ⟨c, q, e1, fun h => by cases h⟩), (fun h => by obtain ⟨c, e1, e2⟩ := R7 h; exact ⟨c, e1, fun h => by cases h⟩), (fun h => by obtain ⟨c, e1, e2⟩ := R9 h; exact ⟨c, e1, fun h => by cases h⟩), (fun h => by obtain ⟨c, e1, e2⟩ := R11 h; exact ⟨c, e1, fun h => by cases h⟩), (fun h => by obtain ⟨c, e1, e2⟩ := R13 h; exact ⟨c, e1, fun h => by cases h⟩), FM, (fun h => by obtain ⟨s, e1, e2⟩ := FS h; exact ⟨s, e1, fun h => by cases h⟩), (fun h => by obtain ⟨p, q, e1, e2⟩ := FK h; exact ⟨p, q, e1, fun h => by cases h⟩), FL, (fun _ => ⟨rfl, hfn2⟩), (fun _ => ⟨_, rfl, hf1, hset⟩)⟩
  case fdone =>
    rintro listed act0 W - hall ⟨b0, b1, b2, b3, b4, b5, b6, b7, b8, b9, b10, b11, b12, b13, b14, b15, b16, b17, b18, b19, b20, b21, x11, x12, x13, x14, x15, x16, x17, x18, x19, x20, x21, x22, x23, x24, rfl, rfl, FA, F0, R1, R3, R5, R7, R9, R11, R13, FM, FS, FK, FL, FC, FF⟩
    obtain rfl : b0 = true := hall 0 (by decide)
    obtain rfl : b1 = true := hall 1 (by decide)
    obtain rfl : b2 = true := hall 2 (by decide)
    obtain rfl : b3 = true := hall 3 (by decide)
    obtain rfl : b4 = true := hall 4 (by decide)
    obtain rfl : b5 = true := hall 5 (by decide)
    obtain rfl : b6 = true := hall 6 (by decide)
    obtain rfl : b7 = true := hall 7 (by decide)
    obtain rfl : b8 = true := hall 8 (by decide)
    obtain rfl : b9 = true := hall 9 (by decide)
    obtain rfl : b10 = true := hall 10 (by decide)
    obtain rfl : b11 = true := hall 11 (by decide)
    obtain rfl : b12 = true := hall 12 (by decide)
    obtain rfl : b13 = true := hall 13 (by decide)
    obtain rfl : b14 = true := hall 14 (by decide)
    obtain rfl : b15 = true := hall 15 (by decide)
    obtain rfl : b16 = true := hall 16 (by decide)
    obtain rfl : b17 = true := hall 17 (by decide)
    obtain rfl : b18 = true := hall 18 (by decide)
    obtain rfl : b19 = true := hall 19 (by decide)
    obtain rfl : b20 = true := hall 20 (by decide)
    obtain rfl : b21 = true := hall 21 (by decide)
    clear hall
    obtain ⟨f, rfl, hf1, hf2⟩ := FF rfl
    obtain ⟨rfl, hfin⟩ := FC rfl
    obtain ⟨M, rfl, -⟩ := F0 rfl
    obtain rfl := FM rfl
    obtain rfl := FL rfl
    obtain ⟨ms, rfl, -⟩ := FS rfl
    obtain ⟨kp, kq, rfl, -⟩ := FK rfl
    obtain ⟨c1, q1, rfl, -⟩ := R1 rfl
    obtain ⟨c3, q3, rfl, -⟩ := R3 rfl
    obtain ⟨c5, q5, rfl, -⟩ := R5 rfl
    obtain ⟨c7, rfl, -⟩ := R7 rfl
    obtain ⟨c9, rfl, -⟩ := R9 rfl
    obtain ⟨c11, rfl, -⟩ := R11 rfl
    obtain ⟨c13, rfl, -⟩ := R13 rfl
    clear FA F0 R1 R3 R5 R7 R9 R11 R13 FM FS FK FL FC FF
    rename World => W5
    have hz3 := HSZ3.out
    obtain ⟨z1, z2, z3, z4, z5, z6, z7, z8, z9⟩ := HEQ.out
    obtain ⟨E, E2, hE1, hE2, hbx, ht, hfE⟩ := hfin
    have hfE := hfE rfl f rfl
    have hsW := ht.size
    have HNS : Hid (normS sd = normS sd) := Lib.hid rfl
    generalize hse : normS sd = s at *
    obtain ⟨b3, b4, b5, ⟨va, vc, b6, b6r, b6p⟩, b7, b8, ⟨v0, v1, v2, v3, v4, b9, b9n⟩⟩ := hbx
    obtain ⟨na, nc, oa, oc, hve⟩ := b9n.cells
    cases hve
    have HA6 := Lib.hid b6r
    have HP6 := Lib.hid b6p
    have HO9 := Lib.hid b9n
    have hsr5 := (ht.block n1 (by omega) (by intro h; omega)).trans HSR.out
    have hfr5 := (ht.block n2 (by omega) (by intro h; omega)).trans HFR.out
    have HSR5 : Hid (W5.drew.heap[n1]? = _) := Lib.hid hsr5
    have HFR5 : Hid (W5.drew.heap[n2]? = _) := Lib.hid hfr5
    have HBW5 : Hid (Below n0 w W5) := Lib.hid (ht.below HBW.out (by intro j hj; omega) (by omega))
    obtain ⟨y0, -⟩ := cell1n b3
    obtain ⟨y1, -⟩ := cell1n b4
    obtain ⟨y2, -⟩ := cell1n b5
    obtain ⟨y3, -⟩ := cell1n b6
    obtain ⟨y4, y5, y6, -, -, -⟩ := cells3h b7
    obtain ⟨y7, -⟩ := cell1n b8
    obtain ⟨y8, y9, y10, y11, y12⟩ := cells5n b9
    obtain ⟨y13, y14, -, -⟩ := cells2 hf2
    have hal : s.after.length ≤ 9223372036854775807 := by
      obtain ⟨_, _, _, hve, h1, h2, _⟩ := b6r
      cases hve
      unfold maxLen at h2
      omega
    clear b3 b4 b5 b6 b6r b6p b7 b8 b9 b9n hsr5 hfr5 ht
    go_upto_region 7 with fail
    refine E_region (S := (fun W => W.cell? ⟨n3, 0, none⟩ = some (.string s.name) ∧ W.cell? ⟨n4, 0, none⟩ = some (.string s.action) ∧ W.cell? ⟨n5, 0, none⟩ = some (.string s.undo) ∧ W.cell? ⟨n6, 0, none⟩ = some (.slice va s.after.length vc) ∧ W.cell? ⟨n7, 0, none⟩ = some (.int .i64 s.most) ∧ W.cell? ⟨n7, 1, none⟩ = some (.int .i64 s.first) ∧ W.cell? ⟨n7, 2, none⟩ = some (.int .i64 s.factor) ∧ W.cell? ⟨n8, 0, none⟩ = some (.int .i64 s.limit) ∧ W.cell? ⟨n9, 0, none⟩ = some (.int .u8 (s.note.kind : Int)) ∧ W.cell? ⟨n9, 1, none⟩ = some (.string s.note.text) ∧ W.cell? ⟨n9, 2, none⟩ = some (.slice na s.note.keys.length nc) ∧ W.cell? ⟨n9, 3, none⟩ = some (.slice oa s.note.kids.length oc) ∧ W.cell? ⟨n9, 4, none⟩ = some (.int .i64 s.note.line) ∧ W.cell? ⟨f, 0, none⟩ = some (.int .i64 0) ∧ W.cell? ⟨f, 1, none⟩ = some (.int .i64 0))) 10 (by kernel_rfl) ⟨y0, y1, y2, y3, y4, y5, y6, y7, y8, y9, y10, y11, y12, y13, y14⟩ (fun _ _ _ _ _ h => h) (fun Q' hQ hK' hHeld => ?_)
    refine E_take hQ hHeld 0 (v := ?hv1) rfl rfl (by kernel_rfl) (by kernel_rfl) (by kernel_rfl) (by kernel_rfl) (by kernel_rfl) (by rfl) ?hy1 ?hr1
    case hy1 => (intro w hSw; (try dsimp only at hSw); go_simp; (try with_reducible rfl))
    (try simp only [Act.put, List.setIfInBounds_toArray, List.set_cons_zero, List.set_cons_succ])
    refine E_take hQ hHeld 1 (v := ?hv2) rfl rfl (by kernel_rfl) (by kernel_rfl) (by kernel_rfl) (by kernel_rfl) (by kernel_rfl) (by rfl) ?hy2 ?hr2
    case hy2 => (intro w hSw; (try dsimp only at hSw); go_simp; (try with_reducible rfl))
    (try simp only [Act.put, List.setIfInBounds_toArray, List.set_cons_zero, List.set_cons_succ])
    refine E_take hQ hHeld 2 (v := ?hv3) rfl rfl (by kernel_rfl) (by kernel_rfl) (by kernel_rfl) (by kernel_rfl) (by kernel_rfl) (by rfl) ?hy3 ?hr3
    case hy3 => (intro w hSw; (try dsimp only at hSw); go_simp; (try with_reducible rfl))
    (try simp only [Act.put, List.setIfInBounds_toArray, List.set_cons_zero, List.set_cons_succ])
    refine E_take hQ hHeld 3 (v := ?hv4) rfl rfl (by kernel_rfl) (by kernel_rfl) (by kernel_rfl) (by kernel_rfl) (by kernel_rfl) (by rfl) ?hy4 ?hr4
    case hy4 => (intro w hSw; (try dsimp only at hSw); go_simp; (try with_reducible rfl))
    (try simp only [Act.put, List.setIfInBounds_toArray, List.set_cons_zero, List.set_cons_succ])
    refine E_take hQ hHeld 4 (v := ?hv5) rfl rfl (by kernel_rfl) (by kernel_rfl) (by kernel_rfl) (by kernel_rfl) (by kernel_rfl) (by rfl) ?hy5 ?hr5
    case hy5 => (intro w hSw; (try dsimp only at hSw); go_simp; (try with_reducible rfl))
    (try simp only [Act.put, List.setIfInBounds_toArray, List.set_cons_zero, List.set_cons_succ])
    refine E_take hQ hHeld 5 (v := ?hv6) rfl rfl (by kernel_rfl) (by kernel_rfl) (by kernel_rfl) (by kernel_rfl) (by kernel_rfl) (by rfl) ?hy6 ?hr6
    case hy6 => (intro w hSw; (try dsimp only at hSw); go_simp; (try with_reducible rfl))
    (try simp only [Act.put, List.setIfInBounds_toArray, List.set_cons_zero, List.set_cons_succ])
    refine E_take hQ hHeld 6 (v := ?hv7) rfl rfl (by kernel_rfl) (by kernel_rfl) (by kernel_rfl) (by kernel_rfl) (by kernel_rfl) (by rfl) ?hy7 ?hr7
    case hy7 => (intro w hSw; (try dsimp only at hSw); go_simp; (try with_reducible rfl))
    (try simp only [Act.put, List.setIfInBounds_toArray, List.set_cons_zero, List.set_cons_succ])
    refine E_take0 hQ (fun _ => hHeld) 7 (v := ?hv8) rfl rfl (by kernel_rfl) (by kernel_rfl) (by kernel_rfl) (by decide) (by rfl) ?hy8 ?hr8
    case hy8 => (intro w; go_simp; (try with_reducible rfl))
    (try simp only [Act.put, List.setIfInBounds_toArray, List.set_cons_zero, List.set_cons_succ])
    refine E_take hQ hHeld 8 (v := ?hv9) rfl rfl (by kernel_rfl) (by kernel_rfl) (by kernel_rfl) (by kernel_rfl) (by kernel_rfl) (by rfl) ?hy9 ?hr9
    case hy9 => (intro w hSw; (try dsimp only at hSw); go_simp; (try with_reducible rfl))
    (try simp only [Act.put, List.setIfInBounds_toArray, List.set_cons_zero, List.set_cons_succ])
    refine E_one 9 (by kernel_rfl) rfl (by rfl) (fun K hK => ?_)
    have hsr := HSR5.out
    change W5.heap[n1]? = _ at hsr
    obtain ⟨k0, k1, k2, k3, k4, k5, k6, k7, k8, k9, k10, k11, k12⟩ := cells13w hsr
    obtain ⟨l0, l1, l2, l3, l4, l5, l6, l7, l8, l9, l10, l11, l12⟩ := cells13q hsr
    go_simp
    clear k0 k1 k2 k3 k4 k5 k6 k7 k8 k9 k10 k11 k12 l0 l1 l2 l3 l4 l5 l6 l7 l8 l9 l10 l11 l12
    have hot0 : ∀ j, j ≠ n1 → ((((((((((((((W5.setCell ⟨n1, 0, none⟩ (.string s.name)).setCell ⟨n1, 1, none⟩ (.string s.action)).setCell ⟨n1, 2, none⟩ (.string s.undo)).setCell ⟨n1, 3, none⟩ (.slice va s.after.length vc)).setCell ⟨n1, 4, none⟩ (.int .i64 s.most)).setCell ⟨n1, 5, none⟩ (.int .i64 s.first)).setCell ⟨n1, 6, none⟩ (.int .i64 s.factor)).setCell ⟨n1, 7, none⟩ (.int .i64 s.limit)).setCell ⟨n1, 8, none⟩ (.int .u8 (s.note.kind : Int))).setCell ⟨n1, 9, none⟩ (.string s.note.text)).setCell ⟨n1, 10, none⟩ (.slice na s.note.keys.length nc)).setCell ⟨n1, 11, none⟩ (.slice oa s.note.kids.length oc)).setCell ⟨n1, 12, none⟩ (.int .i64 s.note.line))).heap[j]? = W5.heap[j]? := fun j hj => set13_other0 hj
    have hnew0 := set13_new (x0 := .string s.name) (x1 := .string s.action) (x2 := .string s.undo) (x3 := .slice va s.after.length vc) (x4 := .int .i64 s.most) (x5 := .int .i64 s.first) (x6 := .int .i64 s.factor) (x7 := .int .i64 s.limit) (x8 := .int .u8 (s.note.kind : Int)) (x9 := .string s.note.text) (x10 := .slice na s.note.keys.length nc) (x11 := .slice oa s.note.kids.length oc) (x12 := .int .i64 s.note.line) hsr
    have hszs0 : ((((((((((((((W5.setCell ⟨n1, 0, none⟩ (.string s.name)).setCell ⟨n1, 1, none⟩ (.string s.action)).setCell ⟨n1, 2, none⟩ (.string s.undo)).setCell ⟨n1, 3, none⟩ (.slice va s.after.length vc)).setCell ⟨n1, 4, none⟩ (.int .i64 s.most)).setCell ⟨n1, 5, none⟩ (.int .i64 s.first)).setCell ⟨n1, 6, none⟩ (.int .i64 s.factor)).setCell ⟨n1, 7, none⟩ (.int .i64 s.limit)).setCell ⟨n1, 8, none⟩ (.int .u8 (s.note.kind : Int))).setCell ⟨n1, 9, none⟩ (.string s.note.text)).setCell ⟨n1, 10, none⟩ (.slice na s.note.keys.length nc)).setCell ⟨n1, 11, none⟩ (.slice oa s.note.kids.length oc)).setCell ⟨n1, 12, none⟩ (.int .i64 s.note.line))).heap.size = W5.heap.size := set13_size0
    have HTS0 : Below n0 w ((((((((((((((W5.setCell ⟨n1, 0, none⟩ (.string s.name)).setCell ⟨n1, 1, none⟩ (.string s.action)).setCell ⟨n1, 2, none⟩ (.string s.undo)).setCell ⟨n1, 3, none⟩ (.slice va s.after.length vc)).setCell ⟨n1, 4, none⟩ (.int .i64 s.most)).setCell ⟨n1, 5, none⟩ (.int .i64 s.first)).setCell ⟨n1, 6, none⟩ (.int .i64 s.factor)).setCell ⟨n1, 7, none⟩ (.int .i64 s.limit)).setCell ⟨n1, 8, none⟩ (.int .u8 (s.note.kind : Int))).setCell ⟨n1, 9, none⟩ (.string s.note.text)).setCell ⟨n1, 10, none⟩ (.slice na s.note.keys.length nc)).setCell ⟨n1, 11, none⟩ (.slice oa s.note.kids.length oc)).setCell ⟨n1, 12, none⟩ (.int .i64 s.note.line))) := set13_below0 HBW5.out (by omega)
    generalize (((((((((((((W5.setCell ⟨n1, 0, none⟩ (.string s.name)).setCell ⟨n1, 1, none⟩ (.string s.action)).setCell ⟨n1, 2, none⟩ (.string s.undo)).setCell ⟨n1, 3, none⟩ (.slice va s.after.length vc)).setCell ⟨n1, 4, none⟩ (.int .i64 s.most)).setCell ⟨n1, 5, none⟩ (.int .i64 s.first)).setCell ⟨n1, 6, none⟩ (.int .i64 s.factor)).setCell ⟨n1, 7, none⟩ (.int .i64 s.limit)).setCell ⟨n1, 8, none⟩ (.int .u8 (s.note.kind : Int))).setCell ⟨n1, 9, none⟩ (.string s.note.text)).setCell ⟨n1, 10, none⟩ (.slice na s.note.keys.length nc)).setCell ⟨n1, 11, none⟩ (.slice oa s.note.kids.length oc)).setCell ⟨n1, 12, none⟩ (.int .i64 s.note.line)) = w8 at *
    have hot : ∀ j, j ≠ n1 → w8.drew.heap[j]? = W5.heap[j]? := fun j hj => hot0 j hj
    have hnew : w8.drew.heap[n1]? = _ := hnew0
    have hszs : w8.drew.heap.size = W5.heap.size := hszs0
    have HTS : Hid (Below n0 w w8.drew) := Lib.hid HTS0.drew
    clear hot0 hnew0 hszs0 HTS0
    generalize w8.drew = w9 at *
    have hfr9 := (hot n2 (by omega)).trans HFR5.out
    have HFR9 := Lib.hid hfr9
    have HN9 := Lib.hid hnew
    obtain ⟨u0, u1, u2, u3⟩ := cells2 hfr9
    clear hfr9 hnew
    (try simp only [Act.put, List.setIfInBounds_toArray, List.set_cons_zero, List.set_cons_succ])
    refine hK.out _ _ (fun _ _ => ⟨(World.cell?_of_block (w := W5) (hot n3 (by omega))).trans hHeld.1, (World.cell?_of_block (w := W5) (hot n4 (by omega))).trans hHeld.2.1, (World.cell?_of_block (w := W5) (hot n5 (by omega))).trans hHeld.2.2.1, (World.cell?_of_block (w := W5) (hot n6 (by omega))).trans hHeld.2.2.2.1, (World.cell?_of_block (w := W5) (hot n7 (by omega))).trans hHeld.2.2.2.2.1, (World.cell?_of_block (w := W5) (hot n7 (by omega))).trans hHeld.2.2.2.2.2.1, (World.cell?_of_block (w := W5) (hot n7 (by omega))).trans hHeld.2.2.2.2.2.2.1, (World.cell?_of_block (w := W5) (hot n8 (by omega))).trans hHeld.2.2.2.2.2.2.2.1, (World.cell?_of_block (w := W5) (hot n9 (by omega))).trans hHeld.2.2.2.2.2.2.2.2.1, (World.cell?_of_block (w := W5) (hot n9 (by omega))).trans hHeld.2.2.2.2.2.2.2.2.2.1, (World.cell?_of_block (w := W5) (hot n9 (by omega))).trans hHeld.2.2.2.2.2.2.2.2.2.2.1, (World.cell?_of_block (w := W5) (hot n9 (by omega))).trans hHeld.2.2.2.2.2.2.2.2.2.2.2.1, (World.cell?_of_block (w := W5) (hot n9 (by omega))).trans hHeld.2.2.2.2.2.2.2.2.2.2.2.2.1, (World.cell?_of_block (w := W5) (hot f (by omega))).trans hHeld.2.2.2.2.2.2.2.2.2.2.2.2.2.1, (World.cell?_of_block (w := W5) (hot f (by omega))).trans hHeld.2.2.2.2.2.2.2.2.2.2.2.2.2.2⟩) (fun hHeld' => ?_)
    replace hHeld := hHeld' (by rfl) (by decide)
    clear hK hHeld'
    (try simp only [Act.put, List.setIfInBounds_toArray, List.set_cons_zero, List.set_cons_succ])
    refine E_one 10 (by kernel_rfl) rfl (by rfl) (fun K hK => ?_)
    go_simp
    (try simp only [Act.put, List.setIfInBounds_toArray, List.set_cons_zero, List.set_cons_succ])
    refine hK.out _ _ (fun _ h => absurd rfl h) (fun _ => ?_)
    clear hK hHeld
    (try simp only [Act.put, List.setIfInBounds_toArray, List.set_cons_zero, List.set_cons_succ])
    refine E_done (by kernel_rfl) ?_ _
    refine hK'.out _ _ ?_
    clear y0 y1 y2 y3 y4 y5 y6 y7 y8 y9 y10 y11 y12 y13 y14 hK' hQ u0 u1 u2 u3
    have hset := two_set (x := .int .i64 0) (y := .int .i64 0) HFR9.out
    have hne : n1 ≠ n2 := by omega
    have hot2 : ∀ j, j ≠ n2 → ((w9.setCell ⟨n2, 0, none⟩ (.int .i64 0)).setCell ⟨n2, 1, none⟩ (.int .i64 0)).heap[j]? = w9.heap[j]? := fun j hj => by rw [Below.heap_setCell _ _ _ _ hj, Below.heap_setCell _ _ _ _ hj]
    have hn10 := (hot2 n1 hne).trans HN9.out
    have hbl : Below n0 w ((w9.setCell ⟨n2, 0, none⟩ (.int .i64 0)).setCell ⟨n2, 1, none⟩ (.int .i64 0)) := (HTS.out.setCell (p := ⟨n2, 0, none⟩) (by show n0 ≤ n2; omega) _).setCell (p := ⟨n2, 1, none⟩) (by show n0 ≤ n2; omega) _
    have hsz10 : ((w9.setCell ⟨n2, 0, none⟩ (.int .i64 0)).setCell ⟨n2, 1, none⟩ (.int .i64 0)).heap.size = w9.heap.size := by simp
    go_wp2_with fail
    generalize (w9.setCell ⟨n2, 0, none⟩ (.int .i64 0)).setCell ⟨n2, 1, none⟩ (.int .i64 0) = w10 at *
    obtain ⟨a0, a1, a2, a3, a4, a5, a6, a7, a8, a9, a10, a11, a12⟩ := cells13q hn10
    obtain ⟨d0, d1, -, -⟩ := cells2 hset
    have hall : ∀ g, inSpan E E2 g → g < W5.heap.size → w10.heap[g]? = W5.heap[g]? := fun g hg _ => by
      have h1 := hg.1
      exact (hot2 g (by omega)).trans (hot g (by omega))
    refine bodyPost_ret (v := .tuple #[.agg #[.string s.name, .string s.action, .string s.undo, .slice va s.after.length vc, .int .i64 s.most, .int .i64 s.first, .int .i64 s.factor, .int .i64 s.limit, .int .u8 (s.note.kind : Int), .string s.note.text, .slice na s.note.keys.length nc, .slice oa s.note.kids.length oc, .int .i64 s.note.line], .agg #[.int .i64 0, .int .i64 0]]) (by simp [results, Try.results25, go_sem, a0, a1, a2, a3, a4, a5, a6, a7, a8, a9, a10, a11, a12, d0, d1]) rfl ?_
    refine ⟨[.string s.name, .string s.action, .string s.undo, .slice va s.after.length vc, .int .i64 s.most, .int .i64 s.first, .int .i64 s.factor, .int .i64 s.limit, .int .u8 (s.note.kind : Int), .string s.note.text, .slice na s.note.keys.length nc, .slice oa s.note.kids.length oc, .int .i64 s.note.line], rfl, ⟨va, vc, na, nc, oa, oc, rfl, HA6.out.keepB (fun g hg hl => hall g (HP6.out g hg) hl), fun g hg => ?_, HO9.out.keep hall (fun g hg => ?_)⟩, hbl⟩
    · have := HP6.out g hg
      exact ⟨by have := this.1; omega, by have := this.2; omega⟩
    · exact ⟨by have := hg.1; omega, by have := hg.2; omega⟩
end Go.Proofs.Ytgafjjgnbcjmpaa
