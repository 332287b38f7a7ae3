/-
  Marks: what loops over functions leave among the deferred calls, and a law for a loop in whose rounds such a loop stands. Conditions: none of the program's.
-/
import Derived.Sort.LoopGhostIn
import Derived.Test.YtgfiogjfgbegpaaGreatBz6
namespace Go.Proofs.YtgfiogjfgbegpaaGreat
open Go Go.RowKit

def marks (Ds : List Nat) : List Deferred := Ds.map fun D => { target := .collected D, args := #[] }
def Marks (Ds : List Nat) (W : World) : Prop := Ds.Nodup ∧ ∀ D ∈ Ds, W.heap[D]? = some (.deferred (some []))
theorem Marks.nil (W : World) : Marks [] W := ⟨List.nodup_nil, fun D h => by cases h⟩
theorem Marks.lt {Ds : List Nat} {W : World} (h : Marks Ds W) : ∀ D ∈ Ds, D < W.heap.size := fun D hD => (Array.getElem?_eq_some_iff.1 (h.2 D hD)).1
theorem Marks.kept {Ds : List Nat} {W W' : World} (h : Marks Ds W) (hk : ∀ D ∈ Ds, W'.heap[D]? = W.heap[D]?) : Marks Ds W' := ⟨h.1, fun D hD => (hk D hD).trans (h.2 D hD)⟩
theorem Marks.alloc {Ds : List Nat} {W : World} (h : Marks Ds W) (o : Obj) : Marks Ds (W.alloc o) := h.kept fun D hD => Below.heap_alloc _ _ _ (h.lt D hD)
theorem Marks.below {Ds : List Nat} {W W' : World} (h : Marks Ds W) (hb : Below W.heap.size W W') : Marks Ds W' := h.kept fun D hD => hb.block D (h.lt D hD)
theorem Marks.not_cells {Ds : List Nat} {W : World} (h : Marks Ds W) {B : Nat} {cs : Array Value} {t : TypeId} {fr : Nat × Nat} (hb : W.heap[B]? = some (.cells cs t fr)) : B ∉ Ds := fun hm => by
  have := h.2 B hm; rw [hb] at this; cases this
theorem Marks.setCell {Ds : List Nat} {W : World} (h : Marks Ds W) {B i : Nat} {cs : Array Value} {t : TypeId} {fr : Nat × Nat} (hb : W.heap[B]? = some (.cells cs t fr)) (v : Value) : Marks Ds (W.setCell ⟨B, i, none⟩ v) :=
  h.kept fun D hD => Below.heap_setCell _ _ _ _ (fun e => h.not_cells hb (by rw [show D = B from e] at hD; exact hD))
theorem owns_cells {W : World} {base : Nat} {e : TypeId} {size : Nat} {v : Value} {n : Nat} {xs : List Value} (h : W.ownsRow base e size v n xs) {g : Nat} (hg : v.ownBlock = some g) : ∃ cur, W.heap[g]? = some (.cells cur e (0, 0)) := by
  rcases h.2 with ⟨rfl, _⟩ | ⟨g', cap, cur, rfl, _, hgg, _⟩
  · cases hg
  · simp [Value.ownBlock] at hg; subst hg; exact ⟨_, hgg⟩
theorem Marks.grown {Ds : List Nat} {W W' : World} (h : Marks Ds W) {base : Nat} {e : TypeId} {size : Nat} {v : Value} {n : Nat} {xs : List Value} (ho : W.ownsRow base e size v n xs) (tmp : Obj) (hg : (W.alloc tmp).grownBy W' v.ownBlock) : Marks Ds W' :=
  h.kept fun D hD => by
    have hl := h.lt D hD
    rw [hg.block D (by simp; omega) (fun e => by obtain ⟨cur, hc⟩ := owns_cells ho e.symm; exact h.not_cells hc hD)]
    exact Below.heap_alloc _ _ _ hl
theorem pushed_other {W w1 : World} {B : Nat} {v v' : Value} {tmp o : Obj} (hgrow : (W.alloc tmp).grownBy w1 v.ownBlock) {k : Nat} (hk : W.heap[k]? = some o) (hB : k ≠ B) (hv : v.ownBlock ≠ some k) : (w1.setCell ⟨B, 0, none⟩ v').heap[k]? = some o := by
  have hl := (Array.getElem?_eq_some_iff.1 hk).1
  rw [Below.heap_setCell _ _ _ _ hB, hgrow.block k (by simp; omega) (fun e => hv e.symm)]
  exact (Below.heap_alloc _ _ _ hl).trans hk
theorem Marks.cons {Ds : List Nat} {W : World} (h : Marks Ds W) {D n : Nat} (hD : W.heap[D]? = some (.deferred (some []))) (hn : ∀ d ∈ Ds, d < n) (hnD : n ≤ D) : Marks (D :: Ds) W :=
  ⟨List.nodup_cons.2 ⟨fun hm => by have := hn D hm; omega, h.1⟩, fun d hd => by
    rcases List.mem_cons.1 hd with rfl | hd
    · exact hD
    · exact h.2 d hd⟩
theorem Step.marks {n0 : Nat} {S S' : Nat → Prop} {W W' : World} (h : Step n0 S S' W W') {Ds : List Nat} (hm : Marks Ds W) (hs : ∀ D ∈ Ds, ¬ S D) : Marks Ds W' ∧ ∀ D ∈ Ds, ¬ S' D :=
  ⟨hm.kept fun D hD => h.same D (hm.lt D hD) (hs D hD), fun D hD hs' => by
    rcases h.new D hs' with h1 | ⟨h1, _⟩
    · exact hs D hD h1
    · have := hm.lt D hD; omega⟩

structure Took (n0 : Nat) (W W' : World) : Prop where
  below : Below n0 W W'
  same : ∀ (k : Nat) (o : Obj), W.heap[k]? = some o → o ≠ Obj.deferred (some []) → W'.heap[k]? = some o
theorem Took.boxed {n0 : Nat} {W W' : World} (h : Took n0 W W') {B : Nat} {t : TypeId} {v : Value} (hb : Boxed W B t v) : Boxed W' B t v := h.same B _ hb (by simp)
theorem Took.owns {n0 : Nat} {W W' : World} (h : Took n0 W W') {base : Nat} {e : TypeId} {size : Nat} {v : Value} {n : Nat} {xs : List Value} (hb : W.ownsRow base e size v n xs) : W'.ownsRow base e size v n xs := by
  refine ⟨hb.1, ?_⟩
  rcases hb.2 with h1 | ⟨g, cap, cur, rfl, hbg, hgg, rest⟩
  · exact .inl h1
  · exact .inr ⟨g, cap, cur, rfl, hbg, h.same g _ hgg (by simp), rest⟩
theorem Took.put {n0 : Nat} {W : World} {D : Nat} (hD : W.heap[D]? = some (.deferred (some []))) (hn : n0 ≤ D) : Took n0 W (W.putObj D (.deferred none)) :=
  ⟨below_putObj _ _ hn, fun k o hk ho => (World.putObj_heap_other (fun e => ho (by have e' : k = D := e; subst e'; rw [hD] at hk; injection hk with hk; exact hk.symm))).trans hk⟩
theorem Took.trans {n0 : Nat} {A B C : World} (h : Took n0 A B) (k : Took n0 B C) : Took n0 A C := ⟨h.below.trans k.below, fun i o hi ho => k.same i o (h.same i o hi ho) ho⟩
def over (l : List Value) (slots : List Nat) (u : Nat → Value) : List Value := slots.foldl (fun t k => t.set k (u k)) l
end Go.Proofs.YtgfiogjfgbegpaaGreat
