/-
  A map of the call's own with numbers for elements, told by a function of the keys.
-/
import Derived.Maps.OwnSet
import Derived.Maps.OwnOps
import Derived.Maps.OwnIn
import Derived.Maps.Views
import Derived.WideKeyEntry
import Derived.Test.YtgfiogjfgbegpaaGreatBz6
namespace Go.Proofs.YtgfiogjfgbegpaaGreat
open Go Go.RowKit Go.MapKept
open Go.Maps (Keyed)
open Go.ChangeMaps Go.MapKept

structure KeyI (P : Program) (k e t : TypeId) (κ : Type) (enc : κ → Value) (ok : κ → Prop) : Prop where
  keyed : Keyed P k
  map : P.underlying t = some (.map k e)
  num : P.underlying e = some (.int .i64)
  zero : ∀ w, (zeroValue e).run P w = .ok (.int .i64 0) w
  inj : ∀ {x y}, enc x = enc y → x = y
  key : ∀ {x}, ok x → ∃ kl, keyOf P k (enc x) = some kl
def MapO (P : Program) (k e : TypeId) {κ : Type} (enc : κ → Value) (w : World) (b n : Nat) (g : κ → Option Int) : Prop :=
  ∃ D : DataW Unit, w.ownsMap P k (plainElem P e) b n D ∧ ∀ x kl, keyOf P k (enc x) = some kl → ∀ z, D.atKey kl z = match g x with | some c => .lit (.int .i64 c) | none => z
section
variable {P : Program} {k e t : TypeId} {κ : Type} {enc : κ → Value} {ok : κ → Prop} {w w' : World} {b n : Nat} {g : κ → Option Int}
theorem MapO.made (P : Program) (k e : TypeId) (enc : κ → Value) (w : World) : MapO P k e enc (w.alloc (.map #[] 0)) w.heap.size 0 fun _ => none :=
  ⟨.map [], World.ownsMap_made _ _ _ _, fun _ _ _ _ => rfl⟩
theorem MapO.lt (h : MapO P k e enc w b n g) : b < w.heap.size := h.choose_spec.1.lt
theorem MapO.block (h : MapO P k e enc w b n g) (hg : w'.heap[b]? = w.heap[b]?) : MapO P k e enc w' b n g := by
  obtain ⟨D, ⟨es, clock, hb, F, hs, hD⟩, h2⟩ := h
  exact ⟨D, ⟨es, clock, hg.trans hb, F, hs, hD⟩, h2⟩
theorem MapO.below (h : MapO P k e enc w b n g) {B : Nat} (hb : Below B w w') (hB : b < B) : MapO P k e enc w' b n g := h.block (hb.block b hB)
theorem MapO.drew (h : MapO P k e enc w b n g) : MapO P k e enc w.drew b n g := h
theorem MapO.drewN (h : MapO P k e enc w b n g) (q : Nat) : MapO P k e enc (w.drewN q) b n g := h.block rfl
theorem MapO.alloc (h : MapO P k e enc w b n g) (o : Obj) : MapO P k e enc (w.alloc o) b n g := by
  obtain ⟨D, h1, h2⟩ := h
  exact ⟨D, h1.alloc o, h2⟩
theorem MapO.ne (h : MapO P k e enc w b n g) {q : Nat} {c : Array Value} {ty : TypeId} {fr : Nat × Nat} (hq : w.heap[q]? = some (.cells c ty fr)) : q ≠ b := by
  rintro rfl
  obtain ⟨D, ⟨es, clock, hb, _⟩, _⟩ := h
  rw [hq] at hb
  cases hb
theorem MapO.look_ok (h : MapO P k e enc w b n g) (K : KeyI P k e t κ enc ok) {x : κ} (hx : ok x) :
    (Instr.lookup t (.map (some b)) (enc x) true).run P w = .ok (.tuple #[.int .i64 ((g x).getD 0), .bool (g x).isSome]) w := by
  obtain ⟨D, h1, h3⟩ := h
  obtain ⟨kl, hkey⟩ := K.key hx
  obtain ⟨v, ps, hr, hv⟩ := h1.look_ok K.keyed K.map (K.zero w) (plainElem_int K.num (by rfl)) hkey
  have h4 := h3 x kl hkey
  obtain ⟨a, rfl, ha, -⟩ := plainElem_int_inv K.num hv
  rw [h4] at ha
  have h5 : Maps.has D kl = (g x).isSome := by
    cases hg : g x with
    | none => exact Maps.has_false_of_atKey (fun z => by rw [h4, hg])
    | some c => exact Maps.has_true_of_atKey (y := .lit (.int .i64 c)) (fun z => by rw [h4, hg])
  rw [hr, h5]
  cases hg : g x with
  | none => rw [hg] at ha; cases ha; rfl
  | some c => rw [hg] at ha; cases ha; rfl
theorem MapO.look (h : MapO P k e enc w b n g) (K : KeyI P k e t κ enc ok) {x : κ} (hx : ok x) :
    (Instr.lookup t (.map (some b)) (enc x) false).run P w = .ok (.int .i64 ((g x).getD 0)) w := by
  obtain ⟨D, h1, h3⟩ := h
  obtain ⟨kl, hkey⟩ := K.key hx
  obtain ⟨c, hr, ha, -⟩ := h1.lookup_int K.keyed K.map K.num (K.zero w) hkey
  have h4 := h3 x kl hkey
  rw [h4] at ha
  rw [hr]
  cases hg : g x with
  | none => rw [hg] at ha; cases ha; rfl
  | some c => rw [hg] at ha; cases ha; rfl
theorem MapO.store [DecidableEq κ] (h : MapO P k e enc w b n g) (K : KeyI P k e t κ enc ok) (hn : n < maxLen) {x : κ} (hx : ok x) {c : Int} (hc : (Lit.int .i64 c).wf = true) :
    ∃ w', (Instr.mapUpdate t (.map (some b)) (enc x) (.int .i64 c)).run P w = .ok () w' ∧ MapO P k e enc w' b (n + 1) (fun y => if y = x then some c else g y) ∧ Below b w w' ∧ w'.heap.size = w.heap.size ∧ ∀ j, j ≠ b → w'.heap[j]? = w.heap[j]? := by
  obtain ⟨D, h1, h3⟩ := h
  obtain ⟨kl, hkey⟩ := K.key hx
  obtain ⟨w', hr, h4, h5⟩ := h1.store K.keyed K.map hn hkey (plainElem_int K.num hc)
  refine ⟨w', hr, ⟨_, h4, fun y kl' hkey' z => ?_⟩, ?_⟩
  · by_cases hk : y = x
    · subst hk
      rw [hkey] at hkey'
      cases hkey'
      simp only [if_true]
      rw [Maps.atKey_put_same h1.isMap (K.keyed.key hkey)]
    · simp only [if_neg hk]
      rw [Maps.atKey_put_other (fun hh => hk (K.inj (K.keyed.inj hkey' (by rw [hh]; exact hkey))))]
      exact h3 y kl' hkey' z
  · obtain ⟨es, clock, es', clock', hb, rfl⟩ := h5
    refine ⟨⟨rfl, rfl, rfl, by simp [setBlock], fun i hi => heap_setBlock_other hb _ (by omega)⟩, by simp [setBlock], fun j hj => heap_setBlock_other hb _ hj⟩
theorem MapO.entry [DecidableEq κ] (h : MapO P k e enc w b n g) (L : WideMaps.KeyLaw P k) (K : KeyI P k e t κ enc ok) (hn : n < maxLen) {x : κ} (hx : ok x) (hg : ∀ c, g x = some c → (Lit.int .i64 c).wf = true) :
    ∃ st w1, (Instr.mapEntry t (.map (some b)) (enc x)).run P w = .ok (.tuple #[.int .i64 ((g x).getD 0), goInt st]) w1 ∧ MapO P k e enc w1 b (n + 1) (fun y => if y = x then some ((g x).getD 0) else g y) ∧ Below b w w1 ∧ w1.heap.size = w.heap.size ∧ (∀ j, j ≠ b → w1.heap[j]? = w.heap[j]?) ∧
      ∀ c, (Lit.int .i64 c).wf = true → ∃ w3, (Instr.entryStore t (.map (some b)) (goInt st) (.int .i64 c)).run P w1 = .ok () w3 ∧ MapO P k e enc w3 b (n + 1) (fun y => if y = x then some c else g y) ∧ Below b w w3 ∧ w3.heap.size = w.heap.size ∧ ∀ j, j ≠ b → w3.heap[j]? = w.heap[j]? := by
  have h0 := h
  have hlk := h.look K hx
  obtain ⟨D, ⟨es, clock, hb, F, hs, hD⟩, h3⟩ := h
  obtain ⟨kl, hkey⟩ := K.key hx
  obtain ⟨v0, st, es1, clock1, hE, hv, hS⟩ := WideElems.entry_then_store L K.map (fun u => K.zero u) hb F hkey
  have hv0 : v0 = .int .i64 ((g x).getD 0) := by
    rcases K.keyed.find w hkey es.toList F.keys with ⟨q1, q2⟩ | ⟨j, e0, q1, q2, q3⟩
    · have hl : (Instr.lookup t (.map (some b)) (enc x) false).run P w = .ok (.int .i64 0) w := by simp [Instr.lookup, run_underlying K.map, MapKept.run_getObj_map hb, K.keyed.check w _ hkey, q1, K.zero, Result.andThen]
      rw [hl] at hlk
      rcases hv with ⟨e0, he, hk, _⟩ | ⟨_, hv⟩
      · exact absurd hk (q2 e0 he)
      · rw [hv]
        injection hlk
    · have hl : (Instr.lookup t (.map (some b)) (enc x) false).run P w = .ok e0.val w := by simp [Instr.lookup, run_underlying K.map, MapKept.run_getObj_map hb, K.keyed.check w _ hkey, q1, Result.andThen]
      rw [hl] at hlk
      have hj : es[j]? = some e0 := by simpa using q2
      have hE' := hE
      simp [Instr.mapEntry, run_underlying K.map, MapKept.run_getObj_map hb, K.keyed.check w false hkey, q1, hj, q3, K.keyed.stays w hkey, MapKept.run_setObj_map _ hb, Result.andThen] at hE'
      rw [← hE'.1.1]
      injection hlk
  have hw0 : (Lit.int .i64 ((g x).getD 0)).wf = true := by
    cases hgx : g x with
    | none => rfl
    | some c => exact hg c hgx
  subst hv0
  have hup : (Instr.mapUpdate t (.map (some b)) (enc x) (.int .i64 ((g x).getD 0))).run P w = .ok () (setBlock w b (.map es1 clock1)) := by
    rcases K.keyed.find w hkey es.toList F.keys with ⟨q1, q2⟩ | ⟨j, e0, q1, q2, q3⟩
    · have hE' := hE
      simp [Instr.mapEntry, run_underlying K.map, MapKept.run_getObj_map hb, K.keyed.check w false hkey, q1, K.zero, MapKept.run_setObj_map _ hb, Result.andThen] at hE'
      rw [← hE'.2, ← hE'.1.1]
      simp [Instr.mapUpdate, run_underlying K.map, MapKept.run_getObj_map hb, K.keyed.check w false hkey, q1, MapKept.run_setObj_map _ hb, Result.andThen]
    · have hj : es[j]? = some e0 := by simpa using q2
      have hE' := hE
      simp [Instr.mapEntry, run_underlying K.map, MapKept.run_getObj_map hb, K.keyed.check w false hkey, q1, hj, q3, K.keyed.stays w hkey, MapKept.run_setObj_map _ hb, Result.andThen] at hE'
      rw [← hE'.2, ← hE'.1.1]
      have hsame : es.modify j (fun e' => { e' with key := enc x, val := e0.val }) = es.modify j (fun e' => { e' with key := enc x }) := by
        apply Array.ext'
        rw [Array.toList_modify, Array.toList_modify, ChangeMaps.modify_eq_set _ _ _ _ q2, ChangeMaps.modify_eq_set _ _ _ _ q2]
      simp [Instr.mapUpdate, run_underlying K.map, MapKept.run_getObj_map hb, K.keyed.check w false hkey, q1, hj, q3, K.keyed.stays w hkey, MapKept.run_setObj_map _ hb, Result.andThen, hsame]
  obtain ⟨w1, hr1, m1, m2, m3, m4⟩ := h0.store K hn hx hw0
  rw [hup] at hr1
  cases hr1
  refine ⟨st, _, hE, m1, m2, m3, m4, fun c hc => ?_⟩
  obtain ⟨es', clock', hst, hup'⟩ := hS _ (.int .i64 c) (heap_setBlock_same hb _)
  obtain ⟨w3, hr3, r1, r2, r3, r4⟩ := h0.store K hn hx hc
  rw [hup'] at hr3
  cases hr3
  refine ⟨_, hst, ?_⟩
  have he : setBlock (setBlock w b (.map es1 clock1)) b (.map es' clock') = setBlock w b (.map es' clock') := by simp [setBlock]
  rw [he]
  exact ⟨r1, r2, r3, r4⟩
end
def cntN {κ : Type} [DecidableEq κ] (l : List κ) (x : κ) : Nat := l.count x
theorem cntN_le {κ : Type} [DecidableEq κ] (l : List κ) (x : κ) : cntN l x ≤ l.length := List.count_le_length
theorem cntN_zero {κ : Type} [DecidableEq κ] (l : List κ) (x : κ) : cntN l x = 0 ↔ x ∉ l := List.count_eq_zero
def cntI {κ : Type} [DecidableEq κ] (l : List κ) (x : κ) : Option Int := if x ∈ l then some (cntN l x : Nat) else none
theorem cntI_zero {κ : Type} [DecidableEq κ] (l : List κ) (x : κ) : (cntI l x).getD 0 = (cntN l x : Nat) := by
  unfold cntI
  split
  · rfl
  · rename_i h; rw [(cntN_zero l x).2 h]; rfl
theorem cntI_push {κ : Type} [DecidableEq κ] (l : List κ) (x : κ) : (fun y => if y = x then some (((cntN l x : Nat) : Int) + 1) else cntI l y) = cntI (l ++ [x]) := by
  funext y
  unfold cntI cntN
  by_cases h : y = x
  · subst h; simp
  · simp [h, List.count_append, Ne.symm h]
theorem snocRec {α : Type} {p : List α → Prop} (h0 : p []) (h1 : ∀ l x, p l → p (l ++ [x])) (l : List α) : p l := by
  have h : ∀ m : List α, p m.reverse := by
    intro m
    induction m with
    | nil => exact h0
    | cons x m ih => rw [List.reverse_cons]; exact h1 _ _ ih
  have := h l.reverse
  rwa [List.reverse_reverse] at this
def onceL {κ : Type} [DecidableEq κ] (l : List κ) : List κ := l.foldl (fun a x => if x ∈ a then a else a ++ [x]) []
theorem onceL_snoc {κ : Type} [DecidableEq κ] (l : List κ) (x : κ) : onceL (l ++ [x]) = if x ∈ onceL l then onceL l else onceL l ++ [x] := by
  unfold onceL; rw [List.foldl_append]; rfl
theorem onceL_mem {κ : Type} [DecidableEq κ] (l : List κ) : ∀ x, x ∈ onceL l ↔ x ∈ l := by
  induction l using snocRec with
  | h0 => intro x; rfl
  | h1 l y ih =>
    intro x
    rw [onceL_snoc]
    split
    · rename_i h
      rw [ih] at h ⊢
      simp only [List.mem_append, List.mem_singleton]
      constructor
      · exact .inl
      · rintro (h1 | rfl)
        · exact h1
        · exact h
    · simp [ih]
theorem onceL_nodup {κ : Type} [DecidableEq κ] (l : List κ) : (onceL l).Nodup := by
  induction l using snocRec with
  | h0 => exact .nil
  | h1 l y ih =>
    rw [onceL_snoc]
    split
    · exact ih
    · rename_i h
      rw [List.nodup_append]
      exact ⟨ih, by simp, fun a ha b hb => by simp at hb; rintro rfl; subst hb; exact h ha⟩
theorem onceL_len {κ : Type} [DecidableEq κ] (l : List κ) : (onceL l).length ≤ l.length := by
  induction l using snocRec with
  | h0 => exact Nat.le_refl _
  | h1 l y ih =>
    rw [onceL_snoc]
    split <;> simp <;> omega
end Go.Proofs.YtgfiogjfgbegpaaGreat
