/-
  def: text, number, builder: contracts.
-/
import Derived.Laws.EntriesVeiled
import Derived.Test.YtdhgcgejdoedbaaDoorBd14
import Derived.Test.YtdhgcgejdoedbaaDoorBd16
import Derived.Test.YtdhgcgejdoedbaaDoorBd17
import Derived.Test.YtdhgcgejdoedbaaDoorBd19
namespace Go.Proofs.YtdhgcgejdoedbaaDoor
open Go Go.RowKit Go.WideShapes

def zeroN : Array Value := #[.int .u8 0, .string { data := #[] }, .slice none 0 0, .slice none 0 0, .int .i64 0]
end Go.Proofs.YtdhgcgejdoedbaaDoor

/-
  def.builder's function that puts a key: contract.
-/
namespace Go.Proofs.YtdhgcgejdoedbaaDoor
open Go Go.RowKit Go.WideShapes

theorem newS (W : World) (t : TypeId) (s : ByteArray) : ∀ j u, [Value.string s][j]? = some u → (W.alloc (.cells #[.string s] t)).cell? ((⟨W.heap.size, 0, none⟩ : Addr).add j) = some u := World.news_of_block (World.alloc_heap_new W (.cells #[.string s] t))
theorem heldVN {W W' : World} {p q : Addr} {a b : Value} (h : W.cell? p = some a ∧ W.cell? q = some b) (hb : Below W.heap.size W W') : W'.cell? p = some a ∧ W'.cell? q = some b := ⟨cellB hb h.1, cellB hb h.2⟩
theorem heldVNK {W W' : World} {p q r0 r1 r2 r3 r4 : Addr} {a b c0 c1 c2 c3 c4 : Value} (h : W.cell? p = some a ∧ W.cell? q = some b ∧ W.cell? r0 = some c0 ∧ W.cell? r1 = some c1 ∧ W.cell? r2 = some c2 ∧ W.cell? r3 = some c3 ∧ W.cell? r4 = some c4) (hb : Below W.heap.size W W') :
    W'.cell? p = some a ∧ W'.cell? q = some b ∧ W'.cell? r0 = some c0 ∧ W'.cell? r1 = some c1 ∧ W'.cell? r2 = some c2 ∧ W'.cell? r3 = some c3 ∧ W'.cell? r4 = some c4 := ⟨cellB hb h.1, cellB hb h.2.1, cellB hb h.2.2.1, cellB hb h.2.2.2.1, cellB hb h.2.2.2.2.1, cellB hb h.2.2.2.2.2.1, cellB hb h.2.2.2.2.2.2⟩

end Go.Proofs.YtdhgcgejdoedbaaDoor

/-
  def.builder's function, def.row, def.retry: contracts.
-/
namespace Go.Proofs.YtdhgcgejdoedbaaDoor
open Go Go.RowKit Go.WideShapes

/-- A row, with a thing behind it if it is to be there. -/
def consIf {α : Type} (b : Bool) (l : List α) (x : α) : List α := if b then l ++ [x] else l
theorem consIf_len {α : Type} (b : Bool) (l : List α) (x : α) : (consIf b l x).length ≤ l.length + 1 := by cases b <;> simp [consIf]
end Go.Proofs.YtdhgcgejdoedbaaDoor

/-
  def.retry, def.row: contracts.
-/
namespace Go.Proofs.YtdhgcgejdoedbaaDoor
open Go Go.RowKit Go.WideShapes

def mapT (keys : List ByteArray) (kids : List Tree) : Tree := .mk 3 { data := #[] } keys kids 0
def seqT (kids : List Tree) : Tree := .mk 2 { data := #[] } [] kids 0
def sMost : ByteArray := { data := #[109, 111, 115, 116] }
def sFirst : ByteArray := { data := #[102, 105, 114, 115, 116] }
def sFactor : ByteArray := { data := #[102, 97, 99, 116, 111, 114] }
def numT (n : Int) : Tree := scalarT (digS n)
def retryT (a b c : Int) : Tree := mapT [sMost, sFirst, sFactor] [numT a, numT b, numT c]
theorem digS_size (n : Int) : (digS n).size ≤ 9 := by
  unfold digS
  split
  · rw [mkS_size]; exact (digN_len n.toNat 8 (by omega)).2
  · simp [ByteArray.size]
theorem num_node (w : World) (P : Nat → Prop) (n : Int) : NodeO w P [.int .u8 1, .string (digS n), .slice none 0 0, .slice none 0 0, .int .i64 0] (numT n) := scalar_node w P (by have := digS_size n; unfold maxLen; omega)

theorem cells3 {W : World} {B : Nat} {t : TypeId} {fr : Nat × Nat} {a b c : Value} (h : W.heap[B]? = some (.cells #[a, b, c] t fr)) : W.cell? ⟨B, 0, none⟩ = some a ∧ W.cell? ⟨B, 1, none⟩ = some b ∧ W.cell? ⟨B, 2, none⟩ = some c := by simp [World.cell?, h]

end Go.Proofs.YtdhgcgejdoedbaaDoor

/-
  def.row: contract; a Seq under construction.
-/
namespace Go.Proofs.YtdhgcgejdoedbaaDoor
open Go Go.RowKit Go.WideShapes

theorem held1 {W W' : World} {p : Addr} {a : Value} (h : W.cell? p = some a) (hb : Below W.heap.size W W') : W'.cell? p = some a := cellB hb h
theorem alloc2 (w : World) (t1 t2 : TypeId) (c1 c2 : Array Value) : Below w.heap.size w ((w.alloc (.cells c1 t1)).alloc (.cells c2 t2)) ∧ ((w.alloc (.cells c1 t1)).alloc (.cells c2 t2)).heap[w.heap.size]? = some (.cells c1 t1 (0, 0)) ∧ ((w.alloc (.cells c1 t1)).alloc (.cells c2 t2)).heap[w.heap.size + 1]? = some (.cells c2 t2 (0, 0)) ∧ ((w.alloc (.cells c1 t1)).alloc (.cells c2 t2)).heap.size = w.heap.size + 2 := by
  refine ⟨((Below.refl _ w).alloc (Nat.le_refl _) _).alloc (by simp) _, (((Below.refl _ _).alloc (Nat.le_refl _) _).block _ (by simp)).trans (World.alloc_heap_new w _), ?_, by simp⟩
  have h := World.alloc_heap_new (w.alloc (.cells c1 t1)) (.cells c2 t2)
  simpa using h

end Go.Proofs.YtdhgcgejdoedbaaDoor
