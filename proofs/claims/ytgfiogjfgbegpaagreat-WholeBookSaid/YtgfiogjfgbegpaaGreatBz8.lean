/-
  A map whose elements are values as they stand, told by a function of the keys; its keys of any kind.
-/
import Derived.Maps.OwnSet
import Derived.Maps.OwnOps
import Derived.Maps.OwnIn
import Derived.Maps.Views
import Derived.DeepKeys4
import Derived.StringKeys
import Derived.Test.YtgfiogjfgbegpaaGreatBz6
namespace Go.Proofs.YtgfiogjfgbegpaaGreat
open Go Go.RowKit Go.Maps Go.MapKept Go.ChangeMaps

def heldH (v : Value) : Option (DataW Value × List MemPlace) := some (.held v, [])
structure KeyH (P : Program) (k e t : TypeId) (κ : Type) (enc : κ → Value) (ok : κ → Prop) (z : Value) : Prop where
  keyed : Keyed P k
  map : P.underlying t = some (.map k e)
  zero : ∀ w, (zeroValue e).run P w = .ok z w
  inj : ∀ {x y}, enc x = enc y → x = y
  key : ∀ {x}, ok x → ∃ kl, keyOf P k (enc x) = some kl
def MapH (P : Program) (k : TypeId) {κ : Type} (enc : κ → Value) (w : World) (b : Nat) (L : List κ) (g : κ → Option Value) : Prop :=
  ∃ D : DataW Value, w.ownsMap P k heldH b L.length D ∧ Maps.size D = L.length ∧ (∀ x kl, keyOf P k (enc x) = some kl → ∀ z, D.atKey kl z = match g x with | some v => .held v | none => z) ∧ L.Nodup ∧ ∀ x, x ∈ L ↔ (g x).isSome = true
section
variable {P : Program} {k e t : TypeId} {κ : Type} {enc : κ → Value} {ok : κ → Prop} {z0 : Value} {w w' : World} {b : Nat} {L : List κ} {g : κ → Option Value}
theorem MapH.made (P : Program) (k : TypeId) (enc : κ → Value) (w : World) : MapH P k enc (w.alloc (.map #[] 0)) w.heap.size [] fun _ => none :=
  ⟨.map [], World.ownsMap_made _ _ _ _, rfl, fun _ _ _ _ => rfl, List.nodup_nil, fun x => by simp⟩
theorem MapH.lt (h : MapH P k enc w b L g) : b < w.heap.size := h.choose_spec.1.lt
theorem MapH.block (h : MapH P k enc w b L g) (hg : w'.heap[b]? = w.heap[b]?) : MapH P k enc w' b L g := by
  obtain ⟨D, ⟨es, clock, hb, F, hs, hD⟩, h2⟩ := h
  exact ⟨D, ⟨es, clock, hg.trans hb, F, hs, hD⟩, h2⟩
theorem MapH.below (h : MapH P k enc w b L g) (hb : Below w.heap.size w w') : MapH P k enc w' b L g := h.block (hb.block b h.lt)
theorem MapH.congr (h : MapH P k enc w b L g) {g' : κ → Option Value} (e : ∀ x, g x = g' x) : MapH P k enc w b L g' := by
  obtain ⟨D, h1, h2, h3, h4, h5⟩ := h
  exact ⟨D, h1, h2, fun x kl hk z => by rw [← e x]; exact h3 x kl hk z, h4, fun x => by rw [← e x]; exact h5 x⟩
theorem MapH.ne (h : MapH P k enc w b L g) {q : Nat} {c : Array Value} {ty : TypeId} {fr : Nat × Nat} (hq : w.heap[q]? = some (.cells c ty fr)) : q ≠ b := by
  rintro rfl
  obtain ⟨D, ⟨es, clock, hb, _⟩, _⟩ := h
  rw [hq] at hb
  cases hb
theorem MapH.has {D : DataW Value} {kl : Lit} {v : Option Value} (h : ∀ z, D.atKey kl z = match v with | some v => .held v | none => z) : Maps.has D kl = v.isSome := by
  cases v with
  | none => exact has_false_of_atKey h
  | some c => exact has_true_of_atKey (y := .held c) h
theorem MapH.len (h : MapH P k enc w b L g) (ht : P.underlying t = some (.map k e)) (ty : TypeId) : (Builtin.len_ #[t] ty #[.map (some b)]).run P w = .ok (.int .i64 (L.length : Int)) w := by
  obtain ⟨D, h1, h2, -⟩ := h
  rw [h1.len ht ty, h2]
theorem MapH.look_ok (h : MapH P k enc w b L g) (K : KeyH P k e t κ enc ok z0) {x : κ} (hx : ok x) :
    (Instr.lookup t (.map (some b)) (enc x) true).run P w = .ok (.tuple #[(g x).getD z0, .bool (g x).isSome]) w := by
  obtain ⟨D, h1, h2, h3, h5, h6⟩ := h
  obtain ⟨kl, hkey⟩ := K.key hx
  obtain ⟨v, ps, hr, hv⟩ := h1.look_ok K.keyed K.map (K.zero w) (zd := .held z0) (zp := []) rfl hkey
  have h4 := h3 x kl hkey
  rw [hr, MapH.has h4]
  rw [h4] at hv
  simp only [heldH, Option.some.injEq, Prod.mk.injEq] at hv
  cases hg : g x with
  | none => rw [hg] at hv; cases hv.1; rfl
  | some c => rw [hg] at hv; cases hv.1; rfl
theorem MapH.look (h : MapH P k enc w b L g) (K : KeyH P k e t κ enc ok z0) {x : κ} (hx : ok x) :
    (Instr.lookup t (.map (some b)) (enc x) false).run P w = .ok ((g x).getD z0) w := by
  obtain ⟨D, h1, h2, h3, h5, h6⟩ := h
  obtain ⟨kl, hkey⟩ := K.key hx
  obtain ⟨v, ps, hr, hv⟩ := h1.lookup K.keyed K.map (K.zero w) (zd := .held z0) (zp := []) rfl hkey
  have h4 := h3 x kl hkey
  rw [h4] at hv
  simp only [heldH, Option.some.injEq, Prod.mk.injEq] at hv
  rw [hr]
  cases hg : g x with
  | none => rw [hg] at hv; cases hv.1; rfl
  | some c => rw [hg] at hv; cases hv.1; rfl
def putK [DecidableEq κ] (L : List κ) (x : κ) : List κ := if x ∈ L then L else L ++ [x]
theorem mem_putK [DecidableEq κ] {L : List κ} {x y : κ} : y ∈ putK L x ↔ y = x ∨ y ∈ L := by
  unfold putK
  split
  · rename_i h
    exact ⟨.inr, fun e => e.elim (fun e => e ▸ h) id⟩
  · simp [or_comm]
theorem putK_nodup [DecidableEq κ] {L : List κ} (h : L.Nodup) (x : κ) : (putK L x).Nodup := by
  unfold putK
  split
  · exact h
  · rename_i hx
    rw [List.nodup_append]
    exact ⟨h, by simp, fun a ha b hb e => hx (by simp at hb; rw [← hb, ← e]; exact ha)⟩
set_option maxRecDepth 100000 in
theorem MapH.store [DecidableEq κ] (h : MapH P k enc w b L g) (K : KeyH P k e t κ enc ok z0) (hn : L.length < maxLen) {x : κ} (hx : ok x) (v : Value) :
    ∃ w', (Instr.mapUpdate t (.map (some b)) (enc x) v).run P w = .ok () w' ∧ MapH P k enc w' b (putK L x) (fun y => if y = x then some v else g y) ∧ Below b w w' ∧ w'.heap.size = w.heap.size ∧ ∀ j, j ≠ b → w'.heap[j]? = w.heap[j]? := by
  obtain ⟨D, h1, h2, h3, hnd, h6⟩ := h
  obtain ⟨kl, hkey⟩ := K.key hx
  obtain ⟨w', hr, h4, h5⟩ := h1.store K.keyed K.map hn hkey (val := v) (d := .held v) (ps := []) rfl
  have hs : Maps.size (D.put kl (.held v)) = (putK L x).length := by
    rw [Maps.size_put (h1.tidy K.keyed), MapH.has (h3 x kl hkey)]
    unfold putK
    by_cases hm : x ∈ L
    · rw [if_pos ((h6 x).1 hm), if_pos hm, h2]
    · rw [if_neg (fun e => hm ((h6 x).2 e)), if_neg hm, h2, List.length_append]
      rfl
  have h4' : w'.ownsMap P k heldH b (putK L x).length (D.put kl (.held v)) := by
    obtain ⟨es, clock, q1, q2, q3, q4⟩ := h4
    refine ⟨es, clock, q1, q2, ?_, q4⟩
    have : es.size = Maps.size (D.put kl (.held v)) := by
      rw [q4]
      simp [Maps.size, length_sorted]
    omega
  refine ⟨w', hr, ⟨_, h4', hs, fun y kl' hkey' z => ?_, putK_nodup hnd x, fun y => ?_⟩, ?_⟩
  · by_cases hk : y = x
    · subst hk
      rw [hkey] at hkey'
      cases hkey'
      simp only [if_true]
      rw [Maps.atKey_put_same h1.isMap (K.keyed.key hkey)]
    · simp only [if_neg hk]
      rw [Maps.atKey_put_other (fun hh => hk (K.inj (K.keyed.inj hkey' (by rw [hh]; exact hkey))))]
      exact h3 y kl' hkey' z
  · rw [mem_putK]
    by_cases hk : y = x
    · simp [hk]
    · simp only [hk, false_or, if_false]
      exact h6 y
  · obtain ⟨es, clock, es', clock', hb, rfl⟩ := h5
    refine ⟨⟨rfl, rfl, rfl, by simp [setBlock], fun i hi => heap_setBlock_other hb _ (by omega)⟩, by simp [setBlock], fun j hj => heap_setBlock_other hb _ hj⟩
end
theorem nodup_sub_len {α : Type} [DecidableEq α] : ∀ {L M : List α}, L.Nodup → (∀ x ∈ L, x ∈ M) → L.length ≤ M.length
  | [], _, _, _ => Nat.zero_le _
  | a :: L, M, h, hs => by
    have ha : a ∈ M := hs a (by simp)
    have hn := List.nodup_cons.1 h
    have := nodup_sub_len (M := M.erase a) hn.2 (fun x hx => (List.mem_erase_of_ne (fun e => hn.1 (by rw [← e]; exact hx))).2 (hs x (by simp [hx])))
    rw [List.length_erase_of_mem ha] at this
    have := List.length_pos_of_mem ha
    rw [List.length_cons]
    omega
end Go.Proofs.YtgfiogjfgbegpaaGreat
