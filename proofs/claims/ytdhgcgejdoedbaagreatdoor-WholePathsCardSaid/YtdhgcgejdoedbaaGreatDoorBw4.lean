/-
  A law for 'for x := range f' over a function, at the wide fence, in which the iterator and the loop's body own blocks of their own. Conditions: none of the program's.
-/
import Derived.RangeFuncNested
import Derived.RangeFuncBound
import Derived.RangeFuncCalls
import Derived.RangeFuncLeaves
import Derived.WalkKit
import Derived.OwnWalkIn
import Derived.TacticsInMore
import Derived.LoopNIn
import Derived.LoopIn
namespace Go.Proofs.YtdhgcgejdoedbaaGreatDoor
open Go Go.RowKit

theorem wide_fn (f : FuncId) : Fence.wide.fn f = True := rfl
theorem wide_depth : Fence.wide.depth = none := rfl
theorem wide_fn' (l : Nat) (f : FuncId) : (Fence.wide.inRound l).fn f = True := rfl
theorem wide_depth' (l : Nat) : (Fence.wide.inRound l).depth = none := rfl

structure Step (n0 : Nat) (S S' : Nat → Prop) (W W' : World) : Prop where
  below : Below n0 W W'
  sub : ∀ k, S k → S' k
  new : ∀ k, S' k → S k ∨ (W.heap.size ≤ k ∧ k < W'.heap.size)
  same : ∀ k, k < W.heap.size → ¬ S k → W'.heap[k]? = W.heap[k]?

structure Keep (n0 : Nat) (S : Nat → Prop) (W W' : World) : Prop where
  below : Below n0 W W'
  same : ∀ k, S k → W'.heap[k]? = W.heap[k]?

def Stable {α : Type} (n0 : Nat) (J : (Nat → Prop) → List α → World → Prop) : Prop :=
  ∀ S S' s W W', (∀ k, S k → n0 ≤ k ∧ k < W.heap.size) → J S s W → Step n0 S S' W W' → J S' s W'

theorem Keep.refl (n0 : Nat) (S : Nat → Prop) (W : World) : Keep n0 S W W := ⟨Below.refl _ _, fun _ _ => rfl⟩
theorem Keep.trans {n0 : Nat} {S : Nat → Prop} {A B C : World} (h : Keep n0 S A B) (k : Keep n0 S B C) : Keep n0 S A C :=
  ⟨h.below.trans k.below, fun i hi => (k.same i hi).trans (h.same i hi)⟩
theorem Step.refl (n0 : Nat) (S : Nat → Prop) (W : World) : Step n0 S S W W := ⟨Below.refl _ _, fun _ h => h, fun _ h => .inl h, fun _ _ _ => rfl⟩
theorem Step.alloc {n0 : Nat} {S : Nat → Prop} {W : World} (h : n0 ≤ W.heap.size) (o : Obj) : Step n0 S (fun k => S k ∨ k = W.heap.size) W (W.alloc o) :=
  ⟨(Below.refl n0 W).alloc h o, fun _ h => .inl h, fun k hk => by rcases hk with h | rfl; exact .inl h; exact .inr ⟨Nat.le_refl _, by simp⟩, fun k hk _ => Below.heap_alloc _ _ _ hk⟩
theorem Step.trans {n0 : Nat} {S S' S'' : Nat → Prop} {A B C : World} (h : Step n0 S S' A B) (k : Step n0 S' S'' B C) : Step n0 S S'' A C :=
  ⟨h.below.trans k.below, fun i hi => k.sub i (h.sub i hi), fun i hi => by
    rcases k.new i hi with h1 | ⟨h1, h2⟩
    · rcases h.new i h1 with h3 | ⟨h3, h4⟩
      · exact .inl h3
      · exact .inr ⟨h3, Nat.lt_of_lt_of_le h4 k.below.size⟩
    · exact .inr ⟨Nat.le_trans h.below.size h1, h2⟩,
   fun i hi hs => by
    refine (k.same i (Nat.lt_of_lt_of_le hi h.below.size) (fun hs' => ?_)).trans (h.same i hi hs)
    rcases h.new i hs' with h1 | ⟨h1, _⟩
    · exact hs h1
    · omega⟩
theorem Step.putObj {n0 : Nat} {S : Nat → Prop} {W : World} {l : Nat} (o : Obj) (hl : S l) (hn : n0 ≤ l) : Step n0 S S W (W.putObj l o) :=
  ⟨⟨rfl, rfl, rfl, by simp, fun k hk => World.putObj_heap_other (by omega)⟩, fun _ h => h, fun _ h => .inl h, fun k _ hs => World.putObj_heap_other (fun e => hs (e ▸ hl))⟩
theorem Step.setCell {n0 : Nat} {S : Nat → Prop} {W : World} {p : Addr} (v : Value) (hl : S p.block) (hn : n0 ≤ p.block) : Step n0 S S W (W.setCell p v) :=
  ⟨(Below.refl n0 W).setCell hn v, fun _ h => h, fun _ h => .inl h, fun k _ hs => Below.heap_setCell _ _ _ k (fun e => hs (e ▸ hl))⟩
theorem Step.drew {n0 : Nat} {S : Nat → Prop} {W : World} : Step n0 S S W W.drew := ⟨(Below.refl _ _).drew, fun _ h => h, fun _ h => .inl h, fun _ _ _ => rfl⟩
theorem below_putObj {B : Nat} (W : World) {l : Nat} (o : Obj) (h : B ≤ l) : Below B W (W.putObj l o) :=
  ⟨rfl, rfl, rfl, by simp, fun k hk => World.putObj_heap_other (by omega)⟩
theorem Step.of_below {n0 : Nat} {S : Nat → Prop} {W W' : World} (hn : n0 ≤ W.heap.size) (h : Below W.heap.size W W') : Step n0 S S W W' :=
  ⟨h.mono hn, fun _ h => h, fun _ h => .inl h, fun k hk _ => h.block k hk⟩
theorem Step.bound {n0 : Nat} {S S' : Nat → Prop} {W W' : World} (h : Step n0 S S' W W') (hn : n0 ≤ W.heap.size) (hS : ∀ k, S k → n0 ≤ k ∧ k < W.heap.size) : ∀ k, S' k → n0 ≤ k ∧ k < W'.heap.size := fun k hk => by
  rcases h.new k hk with h1 | h1
  · have := hS k h1; have := h.below.size; omega
  · omega
theorem Step.boxed {n0 : Nat} {S S' : Nat → Prop} {W W' : World} (h : Step n0 S S' W W') {B : Nat} {t : TypeId} {v : Value} (hb : Boxed W B t v) (hs : ¬ S B) : Boxed W' B t v ∧ ¬ S' B :=
  ⟨(h.same B hb.lt hs).trans hb, fun hs' => by rcases h.new B hs' with h1 | ⟨h1, _⟩; exact hs h1; have := hb.lt; omega⟩
theorem Step.owns {n0 : Nat} {S S' : Nat → Prop} {W W' : World} (h : Step n0 S S' W W') {base : Nat} {e : TypeId} {size : Nat} {v : Value} {n : Nat} {xs : List Value} (hb : W.ownsRow base e size v n xs)
    (hs : ∀ g, v.ownBlock = some g → ¬ S g) : W'.ownsRow base e size v n xs ∧ (∀ g, v.ownBlock = some g → ¬ S' g) := by
  refine ⟨⟨hb.1, ?_⟩, fun g hg hs' => ?_⟩
  · rcases hb.2 with h1 | ⟨g, cap, cur, rfl, hbg, hgg, rest⟩
    · exact .inl h1
    · exact .inr ⟨g, cap, cur, rfl, hbg, (h.same g (Array.getElem?_eq_some_iff.1 hgg).1 (hs g rfl)).trans hgg, rest⟩
  · have hl := hb.lt g hg
    rcases h.new g hs' with h1 | ⟨h1, _⟩
    · exact hs g hg h1
    · omega

def IterAt {α : Type} (P : Program) (n0 : Nat) (g : Nat) (lb : Array Value) (encs : α → Array Value) (xs : List α) (fin : Prop) (S0 : Nat → Prop) (w : World) : Prop :=
  ∀ (l : Nat) (J Jx : (Nat → Prop) → List α → World → Prop) (W : World), (¬ fin → ∀ S W, ¬ J S xs W) →
    (∀ k, S0 k → n0 ≤ k ∧ k < W.heap.size) → n0 ≤ W.heap.size → Below w.heap.size w W → Stable n0 J → Stable n0 Jx →
    (∀ S pre x W1, (∀ k, S k → n0 ≤ k ∧ k < W1.heap.size) → J S pre W1 → pre ++ [x] <+: xs → YieldAt Fence.wide 0 P l (encs x) W1 fun e W' =>
      (e = .returned (.bool true) ∧ J S (pre ++ [x]) W' ∧ Keep n0 S W1 W') ∨ (e = .returned (.bool false) ∧ Jx S (pre ++ [x]) W' ∧ Keep n0 S W1 W')) →
    J S0 [] W →
    CallsIn Fence.wide 0 P g (#[.func (.yield l) #[] #[]] ++ lb) W fun e W' => (∃ v, e = .returned v) ∧ ∃ S, (∀ k, S k → n0 ≤ k ∧ k < W'.heap.size) ∧ (J S xs W' ∨ (∃ pre, pre <+: xs ∧ Jx S pre W'))

def rfPost {α : Type} (n0 : Nat) (S : Nat → Prop) (J : (Nat → Prop) → List α → World → Prop) (Jx : Code → (Nat → Prop) → List α → World → Prop) (xs : List α) (W : World) : Exit → Act → World → Prop
  | .normal, _, W' => J S xs W' ∧ Keep n0 S W W'
  | .ret, _, W' => Jx .ret S xs W' ∧ Keep n0 S W W'
  | .exit id, _, W' => Jx (.exit id) S xs W' ∧ Keep n0 S W W'
  | .goto t, _, W' => Jx (.goto t) S xs W' ∧ Keep n0 S W W'
  | .panic _, _, _ => False
  | .outgrown, _, _ => False

def with2 (S : Nat → Prop) (D : Nat) : Nat → Prop := fun k => S k ∨ k = D ∨ k = D + 1

theorem Step.with2 {n0 : Nat} {S S' : Nat → Prop} {W W' : World} {D : Nat} (h : Step n0 S S' W W') : Step n0 (with2 S D) (with2 S' D) W W' :=
  ⟨h.below, fun k hk => by rcases hk with h1 | h1; exact .inl (h.sub k h1); exact .inr h1, fun k hk => by
    rcases hk with h1 | h1
    · rcases h.new k h1 with h2 | h2
      · exact .inl (.inl h2)
      · exact .inr h2
    · exact .inl (.inr h1), fun k hk hs => h.same k hk (fun hs' => hs (.inl hs'))⟩
theorem wpIn_rf {P : Program} {α : Type} {g : Operand} {ps : Array Tmp} {assign body : Code} {Q : Exit → Act → World → Prop} {a : Act} {w : World}
    {gf : Nat} {lb : Array Value} (hg : a.eval g = .func (.func gf) #[] lb) (eg : ∀ args w, (callFunc gf args).run P w = .ok (.enter gf args) w)
    {encs : α → Array Value} {xs : List α} {n0 : Nat} {S0 : Nat → Prop} {fin : Prop} (hit : IterAt P n0 gf lb encs xs fin S0 w)
    (hn0 : n0 ≤ w.heap.size) (hS0 : ∀ k, S0 k → n0 ≤ k ∧ k < w.heap.size) (hps : ∀ x, (encs x).size = ps.size)
    (J : (Nat → Prop) → List α → World → Prop) (Jx : Code → (Nat → Prop) → List α → World → Prop) (hfin : ¬ fin → ∀ S W, ¬ J S xs W) (hJ : Stable n0 J) (hJx : ∀ c, Stable n0 (Jx c)) (h0 : J S0 [] w)
    (Ax : α → Act → World → Prop) (hAx : ∀ x a' l W W', n0 ≤ l → l < W.heap.size → Ax x a' W → Step n0 (· = l) (· = l) W W' → (∃ r, W.heap[l]? = some (.loop r)) → Ax x a' W')
    (hassign : ∀ (l : Nat) (S : Nat → Prop) (pre : List α) (x : α) (W : World) (K : Act → World → Prop), (∀ k, S k → n0 ≤ k ∧ k < W.heap.size) → w.heap.size ≤ W.heap.size → J S pre W → pre ++ [x] <+: xs → (∀ a' W', Keep n0 S W W' → J S pre W' → Ax x a' W' → K a' W') →
      assign.wpIn (Fence.wide.inRound l) 0 P (Exit.then K (fun _ _ _ => False)) { tmps := (ps.zip (encs x)).foldl (fun t (p, v) => t.setIfInBounds p v) a.tmps, defers := [] } W)
    (hbody : ∀ (l : Nat) (S : Nat → Prop) (pre : List α) (x : α) (a' : Act) (W : World), (∀ k, S k → n0 ≤ k ∧ k < W.heap.size) → w.heap.size ≤ W.heap.size → S l → (∃ r, W.heap[l]? = some (.loop r)) → J S pre W → Ax x a' W → pre ++ [x] <+: xs →
      body.wpIn (Fence.wide.inRound l) 0 P (rfPost n0 S J Jx (pre ++ [x]) W) a' W)
    (hdone : ∀ (D : Nat) (S : Nat → Prop) (W : World), w.heap.size ≤ D → (∀ k, S k → n0 ≤ k ∧ k < W.heap.size) → S D → J S xs W → W.heap[D]? = some (.deferred (some [])) → Q .normal { a with defers := { target := .collected D, args := #[] } :: a.defers } W)
    (hstop : ∀ (D : Nat) (c : Code) (S : Nat → Prop) (pre : List α) (W : World), w.heap.size ≤ D → (∀ k, S k → n0 ≤ k ∧ k < W.heap.size) → S D → pre <+: xs → Jx c S pre W → W.heap[D]? = some (.deferred (some [])) → c.wpIn Fence.wide 0 P Q { a with defers := { target := .collected D, args := #[] } :: a.defers } W) :
    (Code.rangeFunc g ps assign body).wpIn Fence.wide 0 P Q a w := by
  refine wpIn_rangeFunc ?_
  intro fn hfn
  obtain ⟨rec, hrec⟩ : ∃ rec : LoopState → Option Code → Loop, rec = fun st pe => { state := st, pending := pe, fn, tmps := a.tmps, params := ps, assign, body, defers := w.heap.size } := ⟨_, rfl⟩
  obtain ⟨D, hD⟩ : ∃ D, D = w.heap.size := ⟨_, rfl⟩
  obtain ⟨W1, hW1⟩ : ∃ W1, (w.alloc (.deferred (some []))).alloc (.loop (rec .ready none)) = W1 := ⟨_, rfl⟩
  have hL1 : W1.heap[D + 1]? = some (.loop (rec .ready none)) := by
    rw [← hW1, hD]; have := World.alloc_heap_new (w.alloc (.deferred (some []))) (.loop (rec .ready none)); rwa [World.size_alloc] at this
  have hK1 : W1.heap[D]? = some (.deferred (some [])) := by
    rw [← hW1, hD]; exact (Below.heap_alloc _ _ _ (by simp)).trans (World.alloc_heap_new w _)
  have hst : Step n0 S0 (with2 S0 D) w W1 := by
    rw [← hW1, hD]
    have h1 := Step.alloc (S := S0) hn0 (.deferred (some []))
    have h2 := Step.alloc (n0 := n0) (S := fun k => S0 k ∨ k = w.heap.size) (W := w.alloc (.deferred (some []))) (by simp; omega) (.loop (rec .ready none))
    rw [World.size_alloc] at h2
    have h3 := h1.trans h2
    have e : (fun k => (S0 k ∨ k = w.heap.size) ∨ k = w.heap.size + 1) = with2 S0 w.heap.size := by funext k; simp only [with2, or_assoc]
    rw [e] at h3; exact h3
  have hI1 : J (with2 S0 D) [] W1 := hJ _ _ _ _ _ hS0 h0 hst
  have hsz1 : W1.heap.size = D + 2 := by rw [← hW1, hD]; simp
  have hb1 : Below w.heap.size w W1 := by
    rw [← hW1]; exact (((Below.refl _ w).alloc (Nat.le_refl _) _).alloc (by simp) _)
  have hw2 : ∀ (S : Nat → Prop) (W : World), (∀ k, S k → n0 ≤ k ∧ k < W.heap.size) → W.heap[D + 1]? ≠ none → ∀ k, with2 S D k → n0 ≤ k ∧ k < W.heap.size := by
    intro S W hS hne k hk
    have : D + 1 < W.heap.size := by
      rcases Nat.lt_or_ge (D + 1) W.heap.size with h | h
      · exact h
      · exact absurd (Array.getElem?_eq_none h) hne
    rcases hk with h | h | h
    · exact hS k h
    · omega
    · omega
  have hstep : ∀ {S : Nat → Prop} {W : World} (o : Obj), Step n0 (with2 S D) (with2 S D) W (W.putObj (D + 1) o) := fun o => Step.putObj o (.inr (.inr rfl)) (by omega)
  have hJs : ∀ S S' s A B, (∀ k, S k → n0 ≤ k ∧ k < A.heap.size) → A.heap[D + 1]? ≠ none → J (with2 S D) s A → Step n0 S S' A B → J (with2 S' D) s B := fun S S' s A B hS hne hj hs => hJ _ _ _ _ _ (hw2 _ _ hS hne) hj hs.with2
  refine ⟨D + 1, [{ target := .collected D, args := #[] }], W1, { target := .fn (.func gf) lb, args := #[.func (.yield (D + 1)) #[] #[]] }, W1, gf,
    #[.func (.yield (D + 1)) #[] #[]] ++ lb, W1, ?_, ?_, ?_, ?_, (fun h => by cases h), ?_⟩
  · rw [← hW1, hrec, hD]; exact run_enterLoop_outer _ _ _ _ _
  · simp only [resolve, hg]
    simp [go_sem]
  · intro f' hf'; trivial
  · simp [invoke, go_sem, eg]
  · refine (hit (D + 1)
      (fun S pre W => J (with2 S D) pre W ∧ (¬ S D ∧ ¬ S (D + 1)) ∧ W.heap[D + 1]? = some (.loop (rec .ready none)) ∧ W.heap[D]? = some (.deferred (some [])) ∧ w.heap.size ≤ W.heap.size)
      (fun S pre W => ∃ c, Jx c (with2 S D) pre W ∧ (¬ S D ∧ ¬ S (D + 1)) ∧ W.heap[D + 1]? = some (.loop (rec .done (some c))) ∧ W.heap[D]? = some (.deferred (some [])) ∧ w.heap.size ≤ W.heap.size)
      W1 (fun hf S W h => hfin hf _ _ h.1) (fun k hk => by have := hS0 k hk; omega) (by omega) hb1 ?_ ?_ ?_ ⟨hI1, ⟨fun h => by have := hS0 _ h; omega, fun h => by have := hS0 _ h; omega⟩, hL1, hK1, by omega⟩).mono ?_
    · rintro S S' s A B hS ⟨h1, ⟨h2, h3⟩, h4, h5, h6⟩ hs
      have hlt4 := (Array.getElem?_eq_some_iff.1 h4).1
      exact ⟨hJs _ _ _ _ _ hS (by rw [h4]; simp) h1 hs, ⟨fun h => by rcases hs.new _ h with h | h; exact h2 h; omega, fun h => by rcases hs.new _ h with h | h; exact h3 h; omega⟩,
        (hs.same _ hlt4 h3).trans h4, (hs.same _ (by omega) h2).trans h5, Nat.le_trans h6 hs.below.size⟩
    · rintro S S' s A B hS ⟨c, h1, ⟨h2, h3⟩, h4, h5, h6⟩ hs
      have hlt4 := (Array.getElem?_eq_some_iff.1 h4).1
      exact ⟨c, hJx c _ _ _ _ _ (hw2 _ _ hS (by rw [h4]; simp)) h1 hs.with2, ⟨fun h => by rcases hs.new _ h with h | h; exact h2 h; omega, fun h => by rcases hs.new _ h with h | h; exact h3 h; omega⟩,
        (hs.same _ hlt4 h3).trans h4, (hs.same _ (by omega) h2).trans h5, Nat.le_trans h6 hs.below.size⟩
    · rintro S pre x W hS ⟨hi, hnS, hl, hk, hsz⟩ hpre
      have hlt : D + 1 < W.heap.size := (Array.getElem?_eq_some_iff.1 hl).1
      have hy := run_yield (P := P) (args := encs x) hl (by rw [hrec]; exact hps x)
      have hS2 := hw2 S W hS (by rw [hl]; simp)
      rw [hrec] at hy
      refine ⟨fn, _, assign, body, hy, roundIn_of_wpIn trivial (hassign _ (with2 S D) pre x W _ hS2 hsz hi hpre ?_)⟩
      clear hy
      intro a' Wa hka hia hax
      have hla := (hka.same (D + 1) (.inr (.inr rfl))).trans hl
      have hka' := (hka.same D (.inr (.inl rfl))).trans hk
      have hlta : D + 1 < Wa.heap.size := (Array.getElem?_eq_some_iff.1 hla).1
      refine ⟨_, run_beginRound hla (by rw [hrec]), ?_⟩
      have hl2 : (Wa.putObj (D + 1) (.loop { rec .ready none with state := .busy })).heap[D + 1]? = some (.loop { rec .ready none with state := .busy }) := World.putObj_heap_same hlta
      have hk2 : (Wa.putObj (D + 1) (.loop { rec .ready none with state := .busy })).heap[D]? = some (.deferred (some [])) := (World.putObj_heap_other (by omega)).trans hka'
      have hSa : ∀ k, with2 S D k → n0 ≤ k ∧ k < Wa.heap.size := fun k hk => by have := hS2 k hk; have := hka.below.size; omega
      refine wpIn_mono (hbody _ (with2 S D) pre x a' _ (by simpa using hSa) (by have := hka.below.size; simp; omega) (.inr (.inr rfl)) ⟨_, hl2⟩ (hJ _ _ _ _ _ hSa hia (hstep _))
        (hAx x a' (D + 1) Wa _ (by omega) hlta hax (Step.putObj _ rfl (by omega)) ⟨_, hla⟩) hpre) ?_
      have fin : ∀ (jump : Option Code) (W3 : World), Keep n0 (with2 S D) (Wa.putObj (D + 1) (.loop { rec .ready none with state := .busy })) W3 →
          (Instr.endRound (D + 1) jump).run P W3 = .ok (.bool jump.isNone) (W3.putObj (D + 1) (.loop (rec (if jump.isNone then .ready else .done) jump))) ∧
          (∀ k, with2 S D k → n0 ≤ k ∧ k < W3.heap.size) ∧
          (W3.putObj (D + 1) (.loop (rec (if jump.isNone then .ready else .done) jump))).heap[D + 1]? = some (.loop (rec (if jump.isNone then .ready else .done) jump)) ∧
          (W3.putObj (D + 1) (.loop (rec (if jump.isNone then .ready else .done) jump))).heap[D]? = some (.deferred (some [])) ∧
          w.heap.size ≤ (W3.putObj (D + 1) (.loop (rec (if jump.isNone then .ready else .done) jump))).heap.size ∧
          Keep n0 S W (W3.putObj (D + 1) (.loop (rec (if jump.isNone then .ready else .done) jump))) := fun jump W3 hk3 => by
        have hl3 := (hk3.same (D + 1) (.inr (.inr rfl))).trans hl2
        have := run_endRound (P := P) jump hl3
        rw [hrec] at this ⊢
        have hszz := hk3.below.size
        simp at hszz
        refine ⟨this, fun k hk => ?_, World.putObj_heap_same (Array.getElem?_eq_some_iff.1 hl3).1, (World.putObj_heap_other (by omega)).trans ((hk3.same D (.inr (.inl rfl))).trans hk2), by have := hka.below.size; simp; omega, ?_, ?_⟩
        · have := hSa k hk; omega
        · refine (hka.below.trans ?_).trans (hk3.below.trans ?_)
          · exact (hstep (S := S) _).below
          · exact (hstep (S := S) _).below
        · intro k hk
          have hne : k ≠ D + 1 := fun e => hnS.2 (e ▸ hk)
          rw [World.putObj_heap_other hne, hk3.same k (.inl hk), World.putObj_heap_other hne, hka.same k (.inl hk)]
      rintro e a3 W3 hp
      cases e with
      | normal =>
        obtain ⟨hi3, hk3⟩ := hp
        obtain ⟨hr, hS3, hl4, hk4, hs4, hK4⟩ := fin none W3 hk3
        exact ⟨_, _, hr, .inl ⟨rfl, ⟨hJ _ _ _ _ _ hS3 hi3 (hstep _), hnS, hl4, hk4, hs4⟩, hK4⟩⟩
      | ret =>
        obtain ⟨hi3, hk3⟩ := hp
        obtain ⟨hr, hS3, hl4, hk4, hs4, hK4⟩ := fin (some .ret) W3 hk3
        exact ⟨_, _, hr, .inr ⟨rfl, ⟨.ret, hJx _ _ _ _ _ _ hS3 hi3 (hstep _), hnS, hl4, hk4, hs4⟩, hK4⟩⟩
      | exit id =>
        obtain ⟨hi3, hk3⟩ := hp
        obtain ⟨hr, hS3, hl4, hk4, hs4, hK4⟩ := fin (some (.exit id)) W3 hk3
        exact ⟨_, _, hr, .inr ⟨rfl, ⟨.exit id, hJx _ _ _ _ _ _ hS3 hi3 (hstep _), hnS, hl4, hk4, hs4⟩, hK4⟩⟩
      | goto t =>
        obtain ⟨hi3, hk3⟩ := hp
        obtain ⟨hr, hS3, hl4, hk4, hs4, hK4⟩ := fin (some (.goto t)) W3 hk3
        exact ⟨_, _, hr, .inr ⟨rfl, ⟨.goto t, hJx _ _ _ _ _ _ hS3 hi3 (hstep _), hnS, hl4, hk4, hs4⟩, hK4⟩⟩
      | panic ch => exact hp.elim
      | outgrown => exact hp.elim
    · rintro e W2 ⟨⟨v, rfl⟩, S, hS, (⟨hi, hnS, hl, hk, hsz⟩ | ⟨pre, hpre, c, hi, hnS, hl, hk, hsz⟩)⟩
      · have hS2 := hw2 S W2 hS (by rw [hl]; simp)
        have := run_endLoop (P := P) hl (by rw [hrec]; simp)
        rw [hrec] at this
        exact ⟨none, _, this, hdone D (with2 S D) _ (by omega) (by simpa using hS2) (.inr (.inl rfl)) (hJ _ _ _ _ _ hS2 hi (hstep _)) ((World.putObj_heap_other (by omega)).trans hk)⟩
      · have hS2 := hw2 S W2 hS (by rw [hl]; simp)
        have := run_endLoop (P := P) hl (by rw [hrec]; simp)
        rw [hrec] at this
        exact ⟨some c, _, this, hstop D c (with2 S D) pre _ (by omega) (by simpa using hS2) (.inr (.inl rfl)) hpre (hJx c _ _ _ _ _ hS2 hi (hstep _)) ((World.putObj_heap_other (by omega)).trans hk)⟩

theorem wpIn_rf1 {P : Program} {α : Type} {g : Operand} {ps : Array Tmp} {assign body : Code} {Q : Exit → Act → World → Prop} {a : Act} {w : World}
    {gf : Nat} {lb : Array Value} (hg : a.eval g = .func (.func gf) #[] lb) (eg : ∀ args w, (callFunc gf args).run P w = .ok (.enter gf args) w)
    {encs : α → Array Value} {xs : List α} {n0 : Nat} {S0 : Nat → Prop} {fin : Prop} (hit : IterAt P n0 gf lb encs xs fin S0 w)
    (hn0 : n0 ≤ w.heap.size) (hS0 : ∀ k, S0 k → n0 ≤ k ∧ k < w.heap.size) (hps : ∀ x, (encs x).size = ps.size)
    (J : (Nat → Prop) → List α → World → Prop) (Jx : Code → (Nat → Prop) → List α → World → Prop) (hfin : ¬ fin → ∀ S W, ¬ J S xs W) (hJ : Stable n0 J) (hJx : ∀ c, Stable n0 (Jx c)) (h0 : J S0 [] w)
    (a₁ : α → Act)
    (hassign : ∀ (l : Nat) (x : α) (W : World) (K : Act → World → Prop), K (a₁ x) W →
      assign.wpIn (Fence.wide.inRound l) 0 P (Exit.then K (fun _ _ _ => False)) { tmps := (ps.zip (encs x)).foldl (fun t (p, v) => t.setIfInBounds p v) a.tmps, defers := [] } W)
    (hbody : ∀ (l : Nat) (S : Nat → Prop) (pre : List α) (x : α) (W : World), (∀ k, S k → n0 ≤ k ∧ k < W.heap.size) → w.heap.size ≤ W.heap.size → S l → (∃ r, W.heap[l]? = some (.loop r)) → J S pre W → pre ++ [x] <+: xs →
      body.wpIn (Fence.wide.inRound l) 0 P (rfPost n0 S J Jx (pre ++ [x]) W) (a₁ x) W)
    (hdone : ∀ (D : Nat) (S : Nat → Prop) (W : World), w.heap.size ≤ D → (∀ k, S k → n0 ≤ k ∧ k < W.heap.size) → S D → J S xs W → W.heap[D]? = some (.deferred (some [])) → Q .normal { a with defers := { target := .collected D, args := #[] } :: a.defers } W)
    (hstop : ∀ (D : Nat) (c : Code) (S : Nat → Prop) (pre : List α) (W : World), w.heap.size ≤ D → (∀ k, S k → n0 ≤ k ∧ k < W.heap.size) → S D → pre <+: xs → Jx c S pre W → W.heap[D]? = some (.deferred (some [])) → c.wpIn Fence.wide 0 P Q { a with defers := { target := .collected D, args := #[] } :: a.defers } W) :
    (Code.rangeFunc g ps assign body).wpIn Fence.wide 0 P Q a w :=
  wpIn_rf hg eg hit hn0 hS0 hps J Jx hfin hJ hJx h0 (fun x a' _ => a' = a₁ x) (fun _ _ _ _ _ _ _ h _ _ => h)
    (fun l _ _ x W K _ _ hj _ hk => hassign l x W K (hk _ _ (Keep.refl _ _ _) hj rfl))
    (fun l S pre x a' W h1 h2 h3 h4 h5 h6 h7 => by subst h6; exact hbody l S pre x W h1 h2 h3 h4 h5 h7) hdone hstop

end Go.Proofs.YtdhgcgejdoedbaaGreatDoor

/-
  A scope through which the run goes without a goto, at a fence. Conditions: none of the program's.
-/
namespace Go.Proofs.YtdhgcgejdoedbaaGreatDoor
open Go Go.RowKit

theorem stepR_scope {P : Program} {b : Frame} {a : Act} {k : List Item} {cs : List Frame} {w : World} {c : Code} :
    step P (lone (b.atR a (.code (.scope c) :: k)) cs w) = .next (lone (b.atR a (.code c :: .inScope c :: k)) cs w) :=
  step_lone_go (by simp [stepG, stepG.exec, Frame.atR])
theorem stepR_inScope {P : Program} {b : Frame} {a : Act} {k : List Item} {cs : List Frame} {w : World} {c : Code} :
    step P (lone (b.atR a (.inScope c :: k)) cs w) = .next (lone (b.atR a k) cs w) :=
  step_lone_go (by simp [stepG, stepG.exec, Frame.atR])

theorem wpIn_scope {F : Fence} {n : Nat} {P : Program} {Q : Exit → Act → World → Prop} {a : Act} {w : World} {c : Code} (h : c.wpIn F n P (Exit.noGoto Q) a w) : (Code.scope c).wpIn F n P Q a w := by
  intro b k cs hro hb hr
  obtain ⟨e, a₁, w₁, hq, harr⟩ := h b (.inScope c :: k) cs hro hb hr
  have h0 : StepsIn (Machine.fenced P F) P (lone (b.atR a (.code (.scope c) :: k)) cs w) (lone (b.atR a (.code c :: .inScope c :: k)) cs w) :=
    .one (fenced_calm hb hr rfl) stepR_scope
  cases e with
  | normal => exact ⟨.normal, a₁, w₁, hq, h0.trans (StepsIn.trans harr (.one (fenced_calm hb hr rfl) stepR_inScope))⟩
  | exit id =>
    refine ⟨.exit id, a₁, w₁, hq, fun k' hk => h0.trans (harr.1 k' (by simp [exitTo, hk])), fun hs hk => ?_⟩
    obtain ⟨k₁, hk₁, hs₁⟩ := harr.2 hs (by simp [exitTo, hk])
    exact ⟨k₁, hk₁, h0.trans hs₁⟩
  | goto l => exact hq.elim
  | ret => exact ⟨.ret, a₁, w₁, hq, ArrivesIn.of_steps h0 (k := k) (e := .ret) harr⟩
  | panic ch => exact ⟨.panic ch, a₁, w₁, hq, ArrivesIn.of_steps h0 (k := k) (e := .panic ch) harr⟩
  | outgrown => exact ⟨.outgrown, a₁, w₁, hq, ArrivesIn.of_steps h0 (k := k) (e := .outgrown) harr⟩
end Go.Proofs.YtdhgcgejdoedbaaGreatDoor
