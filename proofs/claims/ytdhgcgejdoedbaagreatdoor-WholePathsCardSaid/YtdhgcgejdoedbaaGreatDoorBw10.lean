/-
  Trees of nodes: the plain data (no program).
-/
import Derived.Test.YtdhgcgejdoedbaaGreatDoorRows
import Derived.Test.YtdhgcgejdoedbaaGreatDoorBw6
namespace Go.Proofs.YtdhgcgejdoedbaaGreatDoor
open Go Go.RowKit

inductive Tree where
  | mk (kind : Nat) (text : ByteArray) (keys : List ByteArray) (kids : List Tree) (line : Int)

instance instInhabitedTree : Inhabited Tree := ⟨.mk 0 ByteArray.empty [] [] 0⟩
theorem Tree.ind {P : Tree → Prop} (h : ∀ k t ks kids l, (∀ x ∈ kids, P x) → P (.mk k t ks kids l)) : ∀ t, P t := by
  intro t
  exact Tree.rec (motive_1 := P) (motive_2 := fun l => ∀ x ∈ l, P x) (fun k t ks kids l ih => h k t ks kids l ih) (by simp) (fun a l ha hl x hx => by
    rcases List.mem_cons.1 hx with rfl | hx
    · exact ha
    · exact hl x hx) t

def Tree.kind : Tree → Nat | .mk k _ _ _ _ => k
def Tree.text : Tree → ByteArray | .mk _ t _ _ _ => t
def Tree.keys : Tree → List ByteArray | .mk _ _ ks _ _ => ks
def Tree.kids : Tree → List Tree | .mk _ _ _ kids _ => kids
def Tree.line : Tree → Int | .mk _ _ _ _ l => l

def strsV (l : List ByteArray) : List Value := l.map .string
@[simp] theorem strsV_length (l : List ByteArray) : (strsV l).length = l.length := by simp [strsV]
theorem strsV_get {l : List ByteArray} {i : Nat} (h : i < l.length) : (strsV l)[i]? = some (.string l[i]) := by simp [strsV, h]
inductive NodeR (w : World) : List Value → Tree → Prop
  | mk {k : Nat} {t : ByteArray} {ks : List ByteArray} {kids : List Tree} {line : Int} {vk vc : Value} (rows : List (List Value)) (hk8 : k < 256) (ht : t.size ≤ maxLen) (hks : ∀ s ∈ ks, s.size ≤ maxLen) (hline : -9223372036854775808 ≤ line ∧ line ≤ 9223372036854775807)
      (hk : RdS w vk 1 ks.length (strsV ks)) (hl : rows.length = kids.length) (hc : RdS w vc 5 kids.length rows.flatten)
      (hr : ∀ (i : Nat) (r : List Value) (x : Tree), rows[i]? = some r → kids[i]? = some x → NodeR w r x) :
      NodeR w [.int .u8 (k : Int), .string t, vk, vc, .int .i64 line] (.mk k t ks kids line)

theorem NodeR.keep {w w' : World} (hk : ∀ {v : Value} {size n : Nat} {cs : List Value}, RdS w v size n cs → RdS w' v size n cs) {cs : List Value} {t : Tree} (h : NodeR w cs t) : NodeR w' cs t := by
  induction h with
  | mk rows h1 h2 h3 h4 h5 h6 h7 _ ih => exact .mk rows h1 h2 h3 h4 (hk h5) h6 (hk h7) ih
theorem NodeR.belowW {w w' : World} {cs : List Value} {t : Tree} (h : NodeR w cs t) (hb : Below w.heap.size w w') : NodeR w' cs t := h.keep (fun hr => hr.below hb)
theorem NodeR.len {w : World} {cs : List Value} {t : Tree} (h : NodeR w cs t) : cs.length = 5 := by cases h; rfl

def NodesR (w : World) (v : Value) (l : List Tree) : Prop := ∃ rows : List (List Value), rows.length = l.length ∧ RdS w v 5 l.length rows.flatten ∧ ∀ (i : Nat) (r : List Value) (x : Tree), rows[i]? = some r → l[i]? = some x → NodeR w r x
theorem NodesR.below {w w' : World} {v : Value} {l : List Tree} (h : NodesR w v l) (hb : Below w.heap.size w w') : NodesR w' v l := by
  obtain ⟨rows, h1, h2, h3⟩ := h
  exact ⟨rows, h1, h2.below hb, fun i r x hr hx => (h3 i r x hr hx).belowW hb⟩
theorem NodeR.parts {w : World} {cs : List Value} {k : Nat} {t : ByteArray} {ks : List ByteArray} {kids : List Tree} {line : Int} (h : NodeR w cs (.mk k t ks kids line)) :
    ∃ vk vc, cs = [.int .u8 (k : Int), .string t, vk, vc, .int .i64 line] ∧ k < 256 ∧ t.size ≤ maxLen ∧ (∀ s ∈ ks, s.size ≤ maxLen) ∧ (-9223372036854775808 ≤ line ∧ line ≤ 9223372036854775807) ∧ RdS w vk 1 ks.length (strsV ks) ∧ NodesR w vc kids := by
  cases h with
  | mk rows h1 h2 h3 h4 h5 h6 h7 h8 => exact ⟨_, _, rfl, h1, h2, h3, h4, h5, rows, h6, h7, h8⟩
theorem flatten_get {rows : List (List Value)} {m : Nat} (hm : ∀ r ∈ rows, r.length = m) : rows.flatten.length = rows.length * m ∧ ∀ (i : Nat) (r : List Value), rows[i]? = some r → ∀ j, j < m → rows.flatten[i * m + j]? = r[j]? := by
  induction rows with
  | nil => exact ⟨by simp, fun i r h => by simp at h⟩
  | cons a l ih =>
    obtain ⟨h1, h2⟩ := ih (fun r hr => hm r (List.mem_cons_of_mem _ hr))
    have ha := hm a (List.mem_cons_self ..)
    refine ⟨by simp only [List.flatten_cons, List.length_append, List.length_cons, h1, ha]; rw [Nat.add_mul, Nat.one_mul, Nat.add_comm], fun i r hi j hj => ?_⟩
    cases i with
    | zero =>
      simp only [List.getElem?_cons_zero, Option.some.injEq] at hi
      subst hi
      rw [List.flatten_cons, List.getElem?_append_left (by omega)]; congr 1; omega
    | succ i =>
      simp only [List.getElem?_cons_succ] at hi
      rw [List.flatten_cons, List.getElem?_append_right (by rw [ha, Nat.add_mul]; omega), ← h2 i r hi j hj]
      congr 1
      rw [ha, Nat.add_mul]; omega

theorem NodeR.cells {w : World} {cs : List Value} {x : Tree} (h : NodeR w cs x) : ∃ ka kc ba bc, cs = [.int .u8 (x.kind : Int), .string x.text, .slice ka x.keys.length kc, .slice ba x.kids.length bc, .int .i64 x.line] := by
  obtain ⟨k, t, ks, kids, ln⟩ := x
  obtain ⟨vk, vc, rfl, _, _, _, _, h5, rows, h6, h7, h8⟩ := h.parts
  obtain ⟨_, ka, kc, rfl, _⟩ := h5
  obtain ⟨_, ba, bc, rfl, _⟩ := h7
  exact ⟨ka, kc, ba, bc, rfl⟩
theorem NodesR.at {w : World} {v : Value} {l : List Tree} (h : NodesR w v l) {i : Nat} (hi : i < l.length) :
    ∃ g off cap ka kc ba bc, v = .slice (some ⟨g, off, none⟩) l.length cap ∧ l.length ≤ cap ∧ cap ≤ 9223372036854775807 ∧ NodeR w [.int .u8 (l[i].kind : Int), .string l[i].text, .slice ka l[i].keys.length kc, .slice ba l[i].kids.length bc, .int .i64 l[i].line] l[i] ∧
      w.cell? ⟨g, off + i * 5, none⟩ = some (.int .u8 (l[i].kind : Int)) ∧ w.cell? ⟨g, off + i * 5 + 1, none⟩ = some (.string l[i].text) ∧ w.cell? ⟨g, off + i * 5 + 2, none⟩ = some (.slice ka l[i].keys.length kc) ∧ w.cell? ⟨g, off + i * 5 + 3, none⟩ = some (.slice ba l[i].kids.length bc) ∧ w.cell? ⟨g, off + i * 5 + 4, none⟩ = some (.int .i64 l[i].line) := by
  obtain ⟨rows, h1, h2, h3⟩ := h
  have hri : i < rows.length := by omega
  have hn := h3 i _ _ (List.getElem?_eq_getElem hri) (List.getElem?_eq_getElem hi)
  have hm : ∀ r ∈ rows, r.length = 5 := by
    intro r hr
    obtain ⟨j, hj, rfl⟩ := List.getElem_of_mem hr
    exact (h3 j _ _ (List.getElem?_eq_getElem hj) (List.getElem?_eq_getElem (by omega))).len
  have hf := (flatten_get hm).2 i _ (List.getElem?_eq_getElem hri)
  obtain ⟨ka, kc, ba, bc, hrow⟩ := hn.cells
  rw [hrow] at hf hn
  rcases h2.cases (by decide) with ⟨h0, _⟩ | ⟨hn0, _, g, off, cap, rfl, q1, q2, q3⟩
  · omega
  · have gg : ∀ j c, j < 5 → [.int .u8 (l[i].kind : Int), .string l[i].text, .slice ka l[i].keys.length kc, .slice ba l[i].kids.length bc, .int .i64 l[i].line][j]? = some c → w.cell? ⟨g, off + i * 5 + j, none⟩ = some c := fun j c hj hc => by
      rw [Nat.add_assoc]; exact q3 _ _ ((hf j hj).trans hc)
    exact ⟨g, off, cap, ka, kc, ba, bc, rfl, q1, q2, hn, gg 0 _ (by omega) rfl, gg 1 _ (by omega) rfl, gg 2 _ (by omega) rfl, gg 3 _ (by omega) rfl, gg 4 _ (by omega) rfl⟩
theorem NodesR.form {w : World} {v : Value} {l : List Tree} (h : NodesR w v l) : ∃ a c, v = .slice a l.length c ∧ l.length ≤ c ∧ c ≤ 9223372036854775807 := by
  obtain ⟨rows, h1, h2, h3⟩ := h
  obtain ⟨_, a, c, he, h4, h5, _⟩ := h2
  exact ⟨a, c, he, h4, by unfold maxLen at h5; exact h5⟩
end Go.Proofs.YtdhgcgejdoedbaaGreatDoor
