/-
  A node under construction: rows of keys and kids that the call owns. Conditions: none of the program's.
-/
import Derived.Laws.OwnMore
import Derived.Test.YtlakmfhpinljjaaBp6
import Derived.Test.YtlakmfhpinljjaaBp19
namespace Go.Proofs.Ytlakmfhpinljjaa
open Go Go.RowKit

theorem apartB {w : World} {b1 b2 : Nat} {e1 e2 : TypeId} {s1 s2 n1 n2 : Nat} {v1 v2 : Value} {x1 x2 : List Value} (h1 : w.ownsRow b1 e1 s1 v1 n1 x1) (h2 : w.ownsRow b2 e2 s2 v2 n2 x2) (hne : e1 ≠ e2) : ∀ g, v1.ownBlock = some g → v2.ownBlock ≠ some g := by
  intro g hg1 hg2
  rcases h1.2 with ⟨rfl, _⟩ | ⟨g1, _, _, rfl, _, hh1, _⟩
  · simp [Value.ownBlock] at hg1
  · rcases h2.2 with ⟨rfl, _⟩ | ⟨g2, _, _, rfl, _, hh2, _⟩
    · simp [Value.ownBlock] at hg2
    · have : g1 = g := by simpa [Value.ownBlock] using hg1
      have : g2 = g := by simpa [Value.ownBlock] using hg2
      subst_vars
      rw [hh1] at hh2; injection hh2 with hh2; injection hh2 with _ ht; exact hne ht

theorem ownsRow_inj {w : World} {base : Nat} {e : TypeId} {size n : Nat} {v : Value} {xs ys : List Value} (h1 : w.ownsRow base e size v n xs) (h2 : w.ownsRow base e size v n ys) : xs = ys := by
  rcases h1.2 with ⟨rfl, h0⟩ | ⟨g, cap, cur, rfl, _, hg, _, _, _, ht⟩
  · have e1 := h1.1; have e2 := h2.1
    rw [h0, Nat.zero_mul] at e1 e2
    rw [List.eq_nil_of_length_eq_zero e1, List.eq_nil_of_length_eq_zero e2]
  · rcases h2.2 with ⟨h3, _⟩ | ⟨g', cap', cur', h3, _, hg', _, _, _, ht'⟩
    · cases h3
    · injection h3 with h3 _ _
      injection h3 with h3
      injection h3 with h3 _ _
      subst h3
      rw [hg] at hg'; injection hg' with hg'; injection hg' with hc _ _
      subst hc
      rw [← ht, ← ht']
/-- Blocks that are not written any more: none of Z, none of the two rows'. -/
def okB (Z : Nat → Prop) (w : World) (vk vc : Value) (g : Nat) : Prop := g < w.heap.size ∧ ¬ Z g ∧ vk.ownBlock ≠ some g ∧ vc.ownBlock ≠ some g

structure MapB (w : World) (B0 : Nat) (Z : Nat → Prop) (vk vc : Value) (keys : List ByteArray) (kids : List Tree) : Prop where
  kown : w.ownsRow B0 9 1 vk keys.length (strsV keys)
  cown : ∃ rows : List (List Value), rows.length = kids.length ∧ w.ownsRow B0 34 5 vc kids.length rows.flatten ∧ ∀ (i : Nat) (r : List Value) (x : Tree), rows[i]? = some r → kids[i]? = some x → NodeO w (okB Z w vk vc) r x
  kZ : ∀ g, vk.ownBlock = some g → ¬ Z g
  cZ : ∀ g, vc.ownBlock = some g → ¬ Z g
  keyok : ∀ s ∈ keys, s.size ≤ maxLen

theorem MapB.nil (w : World) (B0 : Nat) (Z : Nat → Prop) : MapB w B0 Z (.slice none 0 0) (.slice none 0 0) [] [] :=
  ⟨World.ownsRow_nil _ _ _ _, ⟨[], rfl, World.ownsRow_nil _ _ _ _, fun i r x hr => by simp at hr⟩, by simp [Value.ownBlock], by simp [Value.ownBlock], by simp⟩
theorem MapB.frm {w w' : World} {B0 : Nat} {Z : Nat → Prop} {vk vc : Value} {keys : List ByteArray} {kids : List Tree} (h : MapB w B0 Z vk vc keys kids) (hf : ∀ g, g < w.heap.size → ¬ Z g → w'.heap[g]? = w.heap[g]?) (hs : w.heap.size ≤ w'.heap.size) : MapB w' B0 Z vk vc keys kids := by
  obtain ⟨rows, h1, h2, h3⟩ := h.cown
  refine ⟨ownsRow_keepB h.kown fun g hg => hf g (h.kown.lt g hg).2 (h.kZ g hg), ⟨rows, h1, ownsRow_keepB h2 fun g hg => hf g (h2.lt g hg).2 (h.cZ g hg), fun i r x hr hx => ?_⟩, h.kZ, h.cZ, h.keyok⟩
  exact (h3 i r x hr hx).keep (fun g hP _ => hf g hP.1 hP.2.1) (fun g hP => ⟨by have := hP.1; omega, hP.2⟩)
theorem MapB.below {w w' : World} {B0 : Nat} {Z : Nat → Prop} {vk vc : Value} {keys : List ByteArray} {kids : List Tree} (h : MapB w B0 Z vk vc keys kids) (hb : Below w.heap.size w w') : MapB w' B0 Z vk vc keys kids := h.frm (fun g hg _ => hb.block g hg) hb.size
theorem MapB.pushKF {w w1 w2 : World} {B0 : Nat} {Z : Nat → Prop} {vk vc vk' : Value} {keys : List ByteArray} {kids : List Tree} {key : ByteArray} (h : MapB w B0 Z vk vc keys kids) (hb : Below w.heap.size w w1) (hg : w1.grownBy w2 vk.ownBlock)
    (hown : w2.ownsRow B0 9 1 vk' (keys.length + 1) (strsV keys ++ [.string key])) (hv' : ∀ g, vk'.ownBlock = some g → vk.ownBlock = some g ∨ w1.heap.size ≤ g) (hZ : ∀ g, Z g → g < w1.heap.size) (hk : key.size ≤ maxLen) : MapB w2 B0 Z vk' vc (keys ++ [key]) kids := by
  have hA := h.below hb
  obtain ⟨rows, h1, h2, h3⟩ := hA.cown
  have hap := apartB h2 hA.kown (by decide : (34 : TypeId) ≠ 9)
  have hs := hg.size
  have old : ∀ g, g < w1.heap.size → vk.ownBlock ≠ some g → w2.heap[g]? = w1.heap[g]? := fun g hl hne => hg.block g hl (fun e => hne e.symm)
  refine ⟨by rw [List.length_append, List.length_singleton, show strsV (keys ++ [key]) = strsV keys ++ [.string key] by simp [strsV]]; exact hown, ⟨rows, h1, ownsRow_keepB h2 fun g hg' => old g (h2.lt g hg').2 (fun e => hap g hg' e), fun i r x hr hx => ?_⟩, fun g hg' hz => ?_, hA.cZ, fun s hs' => ?_⟩
  · refine (h3 i r x hr hx).keep (fun g hP _ => old g hP.1 hP.2.2.1) (fun g hP => ⟨by have := hP.1; omega, hP.2.1, fun e => ?_, hP.2.2.2⟩)
    rcases hv' g e with hv' | hv'
    · exact hP.2.2.1 hv'
    · have := hP.1; omega
  · rcases hv' g hg' with hv' | hv'
    · exact hA.kZ g hv' hz
    · have := hZ g hz; omega
  · rcases List.mem_append.1 hs' with hs' | hs'
    · exact h.keyok s hs'
    · rw [List.mem_singleton.1 hs']; exact hk
theorem MapB.pushCF {w w1 w2 : World} {B0 : Nat} {Z : Nat → Prop} {vk vc vc' : Value} {keys : List ByteArray} {kids : List Tree} {cs : List Value} {kid : Tree} (h : MapB w B0 Z vk vc keys kids) (hb : Below w.heap.size w w1) (hkid : NodeO w1 (okB Z w1 vk vc) cs kid) (hg : w1.grownBy w2 vc.ownBlock)
    {xs : List Value} (hxs : w1.ownsRow B0 34 5 vc kids.length xs) (hown : w2.ownsRow B0 34 5 vc' (kids.length + 1) (xs ++ cs)) (hv' : ∀ g, vc'.ownBlock = some g → vc.ownBlock = some g ∨ w1.heap.size ≤ g) (hZ : ∀ g, Z g → g < w1.heap.size) : MapB w2 B0 Z vk vc' keys (kids ++ [kid]) := by
  have hA := h.below hb
  obtain ⟨rows, h1, h2, h3⟩ := hA.cown
  have hap := apartB hA.kown h2 (by decide : (9 : TypeId) ≠ 34)
  have hs := hg.size
  have old : ∀ g, g < w1.heap.size → vc.ownBlock ≠ some g → w2.heap[g]? = w1.heap[g]? := fun g hl hne => hg.block g hl (fun e => hne e.symm)
  have mon : ∀ g, okB Z w1 vk vc g → okB Z w2 vk vc' g := fun g hP => ⟨by have := hP.1; omega, hP.2.1, hP.2.2.1, fun e => by
    rcases hv' g e with hv' | hv'
    · exact hP.2.2.2 hv'
    · have := hP.1; omega⟩
  refine ⟨ownsRow_keepB hA.kown fun g hg' => old g (hA.kown.lt g hg').2 (hap g hg'), ⟨rows ++ [cs], by simp [h1], by rw [List.length_append, List.length_singleton, flatten_snoc, ownsRow_inj h2 hxs]; exact hown, fun i r x hr hx => ?_⟩, hA.kZ, fun g hg' hz => ?_, h.keyok⟩
  · rcases Nat.lt_trichotomy i rows.length with hlt | heq | hgt
    · rw [List.getElem?_append_left hlt] at hr
      rw [List.getElem?_append_left (by omega)] at hx
      exact (h3 i r x hr hx).keep (fun g hP _ => old g hP.1 hP.2.2.2) mon
    · subst heq
      simp at hr
      subst hr
      rw [h1] at hx
      simp at hx
      subst hx
      exact hkid.keep (fun g hP _ => old g hP.1 hP.2.2.2) mon
    · rw [List.getElem?_eq_none (by simp; omega)] at hr; cases hr
  · rcases hv' g hg' with hv' | hv'
    · exact hA.cZ g hv' hz
    · have := hZ g hz; omega
theorem fresh_of {v v' : Value} {n : Nat} (h : v'.ownBlock = v.ownBlock ∨ v'.ownBlock = some n) : ∀ g, v'.ownBlock = some g → v.ownBlock = some g ∨ n ≤ g := fun g hg => by
  rcases h with h | h
  · exact .inl (h ▸ hg)
  · rw [h] at hg; injection hg with e; exact .inr (by omega)
theorem MapB.pushK {w w1 w2 : World} {B0 : Nat} {Z : Nat → Prop} {vk vc vk' : Value} {keys : List ByteArray} {kids : List Tree} {key : ByteArray} (h : MapB w B0 Z vk vc keys kids) (hb : Below w.heap.size w w1) (hg : w1.grownBy w2 vk.ownBlock)
    (hown : w2.ownsRow B0 9 1 vk' (keys.length + 1) (strsV keys ++ [.string key])) (hv' : vk'.ownBlock = vk.ownBlock ∨ vk'.ownBlock = some w1.heap.size) (hZ : ∀ g, Z g → g < w1.heap.size) (hk : key.size ≤ maxLen) : MapB w2 B0 Z vk' vc (keys ++ [key]) kids := h.pushKF hb hg hown (fresh_of hv') hZ hk
theorem MapB.pushC {w w1 w2 : World} {B0 : Nat} {Z : Nat → Prop} {vk vc vc' : Value} {keys : List ByteArray} {kids : List Tree} {cs : List Value} {kid : Tree} (h : MapB w B0 Z vk vc keys kids) (hb : Below w.heap.size w w1) (hkid : NodeO w1 (okB Z w1 vk vc) cs kid) (hg : w1.grownBy w2 vc.ownBlock)
    {xs : List Value} (hxs : w1.ownsRow B0 34 5 vc kids.length xs) (hown : w2.ownsRow B0 34 5 vc' (kids.length + 1) (xs ++ cs)) (hv' : vc'.ownBlock = vc.ownBlock ∨ vc'.ownBlock = some w1.heap.size) (hZ : ∀ g, Z g → g < w1.heap.size) : MapB w2 B0 Z vk vc' keys (kids ++ [kid]) := h.pushCF hb hkid hg hxs hown (fresh_of hv') hZ
/-- Another choice of blocks that may be written. -/
theorem MapB.reZ {w : World} {B0 : Nat} {Z Z' : Nat → Prop} {vk vc : Value} {keys : List ByteArray} {kids : List Tree} (h : MapB w B0 Z vk vc keys kids) (hz : ∀ g, g < w.heap.size → Z' g → Z g) : MapB w B0 Z' vk vc keys kids := by
  obtain ⟨rows, h1, h2, h3⟩ := h.cown
  exact ⟨h.kown, ⟨rows, h1, h2, fun i r x hr hx => (h3 i r x hr hx).keep (fun _ _ _ => rfl) (fun g hP => ⟨hP.1, fun e => hP.2.1 (hz g hP.1 e), hP.2.2⟩)⟩, fun g hg e => h.kZ g hg (hz g (h.kown.lt g hg).2 e), fun g hg e => h.cZ g hg (hz g (h2.lt g hg).2 e), h.keyok⟩
/-- The last row of a row that the call owns, written anew. -/
theorem own_last5 {w : World} {base : Nat} {e : TypeId} {g n cap : Nat} {xs : List Value} {z0 z1 z2 z3 z4 c0 c1 c2 c3 c4 : Value} (h : w.ownsRow base e 5 (.slice (some ⟨g, 0, none⟩) (n + 1) cap) (n + 1) (xs ++ [z0, z1, z2, z3, z4])) (hx : xs.length = n * 5) :
    (((((w.setCell ⟨g, n * 5, none⟩ c0).setCell ⟨g, n * 5 + 1, none⟩ c1).setCell ⟨g, n * 5 + 2, none⟩ c2).setCell ⟨g, n * 5 + 3, none⟩ c3).setCell ⟨g, n * 5 + 4, none⟩ c4).ownsRow base e 5 (.slice (some ⟨g, 0, none⟩) (n + 1) cap) (n + 1) (xs ++ [c0, c1, c2, c3, c4]) := by
  have h5 := ((((((((h.stored (n * 5) c0).1.stored (n * 5 + 1) c1).1.stored (n * 5 + 2) c2).1).stored (n * 5 + 3) c3).1).stored (n * 5 + 4) c4).1)
  have e : (((((xs ++ [z0, z1, z2, z3, z4]).set (n * 5) c0).set (n * 5 + 1) c1).set (n * 5 + 2) c2).set (n * 5 + 3) c3).set (n * 5 + 4) c4 = xs ++ [c0, c1, c2, c3, c4] := by
    rw [← hx]
    simp [List.set_append]
  rw [e] at h5
  exact h5
theorem MapB.form {w : World} {B0 : Nat} {Z : Nat → Prop} {vk vc : Value} {keys : List ByteArray} {kids : List Tree} (h : MapB w B0 Z vk vc keys kids) : ∃ ka kc ba bc, vk = .slice ka keys.length kc ∧ vc = .slice ba kids.length bc := by
  obtain ⟨rows, _, h2, _⟩ := h.cown
  obtain ⟨_, ka, kc, e1, _⟩ := RdS.of_owns h.kown
  obtain ⟨_, ba, bc, e2, _⟩ := RdS.of_owns h2
  exact ⟨ka, kc, ba, bc, e1, e2⟩
/-- The node that it is. -/
theorem MapB.node {w : World} {B0 : Nat} {Z : Nat → Prop} {vk vc : Value} {keys : List ByteArray} {kids : List Tree} (h : MapB w B0 Z vk vc keys kids) {P : Nat → Prop} (hP : ∀ g, g < w.heap.size → ¬ Z g → P g) {k : Nat} {t : ByteArray} {ln : Int} (hk : k < 256) (ht : t.size ≤ maxLen) (hl : -9223372036854775808 ≤ ln ∧ ln ≤ 9223372036854775807) :
    NodeO w P [.int .u8 (k : Int), .string t, vk, vc, .int .i64 ln] (.mk k t keys kids ln) := by
  obtain ⟨rows, h1, h2, h3⟩ := h.cown
  exact .mk rows hk ht h.keyok hl (RdS.of_owns h.kown) h1 (RdS.of_owns h2) (fun _ g hg => hP g (h.kown.lt g hg).2 (h.kZ g hg)) (fun _ g hg => hP g (h2.lt g hg).2 (h.cZ g hg)) (fun i r x hr hx => (h3 i r x hr hx).keep (fun _ _ _ => rfl) (fun g hg => hP g hg.1 hg.2.1))

def scalarT (s : ByteArray) : Tree := .mk 1 s [] [] 0
theorem scalar_node (w : World) (P : Nat → Prop) {s : ByteArray} (h : s.size ≤ maxLen) : NodeO w P [.int .u8 1, .string s, .slice none 0 0, .slice none 0 0, .int .i64 0] (scalarT s) :=
  .mk (k := 1) [] (by decide) h (by simp) (by decide) ⟨rfl, none, 0, rfl, Nat.le_refl _, Nat.zero_le _, .inl rfl⟩ rfl ⟨rfl, none, 0, rfl, Nat.le_refl _, Nat.zero_le _, .inl rfl⟩ (by simp [Value.ownBlock]) (by simp [Value.ownBlock]) (fun i r x hr => by simp at hr)
end Go.Proofs.Ytlakmfhpinljjaa
