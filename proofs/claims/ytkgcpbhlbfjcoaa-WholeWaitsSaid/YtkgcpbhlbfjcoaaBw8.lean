/-
  ticks: a clock in memory; New, Len, Set: contracts.
-/
import Derived.Maps.OwnSet
import Derived.Maps.OwnOps
import Derived.Maps.OwnIn
import Derived.Maps.Views
import Derived.Maps.RangeWalk
import Derived.Carry
import Derived.Deep.DeepMust
import Derived.Deep.QuietTactic
import Derived.BigQuiet
import Derived.Test.YtkgcpbhlbfjcoaaRows
import Derived.Test.YtkgcpbhlbfjcoaaBw4
namespace Go.Proofs.Ytkgcpbhlbfjcoaa
open Go Go.RowKit Go.Maps Go.MapKept Go.ChangeMaps

/-- Block b is a map of numbers, at most n. -/
abbrev MapI (w : World) (b n : Nat) (D : DataW Unit) : Prop := w.ownsMap Try.prog 3 (plainElem Try.prog 2) b n D
def WfI (x : Int) : Prop := (Lit.int .i64 x).wf = true
theorem wfI {x : Int} (h1 : -9223372036854775808 ≤ x) (h2 : x ≤ 9223372036854775807) : WfI x := by
  simp [WfI, Lit.wf, IntKind.min, IntKind.max, IntKind.bits, IntKind.signed]
  omega
/-- What a map says of each number. -/
def Says (D : DataW Unit) (g : Int → Option Int) : Prop := ∀ x : Int, WfI x → ∀ z, D.atKey (.int .i64 x) z = match g x with | some c => .lit (.int .i64 c) | none => z
theorem Says.has {D : DataW Unit} {g : Int → Option Int} (h : Says D g) {x : Int} (hx : WfI x) : Maps.has D (.int .i64 x) = (g x).isSome := by
  cases hg : g x with
  | none => exact has_false_of_atKey (fun z => by rw [h x hx, hg])
  | some c => exact has_true_of_atKey (y := .lit (.int .i64 c)) (fun z => by rw [h x hx, hg])
theorem litNe {x y : Int} (h : x ≠ y) : Lit.int .i64 x ≠ Lit.int .i64 y := fun e => h (by injection e)
theorem keyI {x : Int} (hx : WfI x) : keyOf Try.prog 3 (.int .i64 x) = some (.int .i64 x) := keyOf_int_mk Try.underlying3 hx
theorem Try.keyedInt : Keyed Try.prog 3 := int_keyed Try.underlying3
theorem Try.zeroI64 (w : World) : (zeroValue 2).run Try.prog w = .ok (.int .i64 0) w := by kernel_rfl
theorem Says.put {D : DataW Unit} {g : Int → Option Int} (h : Says D g) (hD : IsMap D) {x : Int} (hx : WfI x) (c : Int) : Says (D.put (.int .i64 x) (.lit (.int .i64 c))) fun y => if y = x then some c else g y := by
  intro y hy z
  by_cases e : y = x
  · subst e
    simp only [if_true]
    rw [atKey_put_same hD (Try.keyedInt.key (keyI hy))]
  · simp only [if_neg e]
    rw [atKey_put_other (litNe e)]
    exact h y hy z
theorem Says.del {D : DataW Unit} {g : Int → Option Int} (h : Says D g) (x : Int) : Says (D.del (.int .i64 x)) fun y => if y = x then none else g y := by
  intro y hy z
  by_cases e : y = x
  · subst e
    simp only [if_true]
    rw [atKey_del_same]
  · simp only [if_neg e]
    rw [atKey_del_other (litNe e)]
    exact h y hy z
theorem Says.congr {D : DataW Unit} {g g' : Int → Option Int} (h : Says D g) (e : ∀ x, g x = g' x) : Says D g' := fun x hx z => by rw [← e x]; exact h x hx z
/-- Each key is a number. -/
theorem MapI.keys {w : World} {b n : Nat} {D : DataW Unit} (h : MapI w b n D) {kl : Lit} (hk : Maps.has D kl = true) : ∃ x, kl = .int .i64 x ∧ WfI x := by
  obtain ⟨es, clock, hb, F, hs, rfl⟩ := h
  rw [has_eq, List.any_eq_true] at hk
  obtain ⟨p, hp, he⟩ := hk
  obtain ⟨v, hv⟩ := fit_keys F p (mem_sorted.1 hp)
  obtain ⟨x, _, e2, hx⟩ := keyOf_int_inv Try.underlying3 hv
  exact ⟨x, by rw [← WideAt.sameKey_eq he, e2], hx⟩
theorem MapI.empty {w : World} {b n : Nat} {D : DataW Unit} {g : Int → Option Int} (h : MapI w b n D) (hg : Says D g) (h0 : ∀ x, g x = none) : Maps.size D = 0 := by
  obtain ⟨es, rfl⟩ := h.isMap
  rw [size_eq]
  rcases es with _ | ⟨p, es⟩
  · rfl
  · exfalso
    obtain ⟨es', he, _, hkey⟩ := h.entries Try.keyedInt
    cases he
    have hk := hkey p (by simp)
    have hh : Maps.has (.map (p :: es)) p.1 = true := by
      rw [has_eq, List.any_eq_true]
      exact ⟨p, by simp, WideAt.sameKey_self hk⟩
    obtain ⟨x, hx, hw⟩ := MapI.keys h hh
    rw [hx, hg.has hw, h0 x] at hh
    cases hh
/-- A clock: its cells, and the map that they lead to. -/
structure ClkR (w : World) (cb b n : Nat) (g : Int → Option Int) : Prop where
  cell : w.heap[cb]? = some (.cells #[.map (some b)] 112 (0, 0))
  map : ∃ D, MapI w b n D ∧ Says D g
theorem ClkR.lt {w : World} {cb b n : Nat} {g : Int → Option Int} (h : ClkR w cb b n g) : cb < w.heap.size ∧ b < w.heap.size := ⟨(Array.getElem?_eq_some_iff.1 h.cell).1, h.map.choose_spec.1.lt⟩
theorem ClkR.ne {w : World} {cb b n : Nat} {g : Int → Option Int} (h : ClkR w cb b n g) : cb ≠ b := by
  rintro rfl
  obtain ⟨D, ⟨es, clock, hb, _⟩, _⟩ := h.map
  rw [h.cell] at hb
  cases hb
theorem ClkR.below {w w' : World} {cb b n : Nat} {g : Int → Option Int} (h : ClkR w cb b n g) (hb : Below w.heap.size w w') : ClkR w' cb b n g := by
  obtain ⟨l1, l2⟩ := h.lt
  obtain ⟨h1, D, ⟨es, clock, h2, h3⟩, h4⟩ := h
  exact ⟨(hb.block _ l1).trans h1, D, ⟨es, clock, (hb.block _ l2).trans h2, h3⟩, h4⟩
theorem ClkR.read {w : World} {cb b n : Nat} {g : Int → Option Int} (h : ClkR w cb b n g) : w.cell? ⟨cb, 0, none⟩ = some (.map (some b)) := by
  simp [World.cell?, h.cell]
theorem ClkR.congr {w : World} {cb b n : Nat} {g g' : Int → Option Int} (h : ClkR w cb b n g) (e : ∀ x, g x = g' x) : ClkR w cb b n g' := by
  obtain ⟨h1, D, h2, h3⟩ := h
  exact ⟨h1, D, h2, h3.congr e⟩
theorem ClkR.mono {w : World} {cb b n n' : Nat} {g : Int → Option Int} (h : ClkR w cb b n g) (hn : n ≤ n') : ClkR w cb b n' g := by
  obtain ⟨h1, D, h2, h3⟩ := h
  exact ⟨h1, D, h2.mono hn, h3⟩
/-- All but one block stays; what is new may be anything. -/
structure Turn (b : Nat) (w w' : World) : Prop where
  low : Below 0 w w'
  block : ∀ j, j < w.heap.size → j ≠ b → w'.heap[j]? = w.heap[j]?
theorem Turn.trans {b : Nat} {w w' w'' : World} (h : Turn b w w') (k : Turn b w' w'') : Turn b w w'' :=
  ⟨h.low.trans k.low, fun j h1 h2 => (k.block j (Nat.lt_of_lt_of_le h1 h.low.size) h2).trans (h.block j h1 h2)⟩
theorem Turn.of_below {b : Nat} {w w' : World} (h : Below w.heap.size w w') : Turn b w w' := ⟨h.mono (Nat.zero_le _), fun j h1 _ => h.block j h1⟩
theorem Turn.below {b B : Nat} {v w w' : World} (h : Turn b w w') (k : Below B v w) (hb : B ≤ b) (hB : B ≤ w.heap.size) : Below B v w' :=
  ⟨h.low.os.trans k.os, h.low.tape.trans k.tape, h.low.output.trans k.output, Nat.le_trans k.size h.low.size, fun i hi => (h.block i (by omega) (by omega)).trans (k.block i hi)⟩
theorem Turn.of_turned {b : Nat} {w w' : World} (h : w.mapTurned w' b) : Turn b w w' := by
  have := h.grown
  exact ⟨⟨this.os, this.tape, this.output, this.size, fun k hk => absurd hk (Nat.not_lt_zero k)⟩, fun j h1 h2 => this.block j h1 (fun e => h2 (Option.some.inj e))⟩
theorem ClkR.look {w : World} {cb b n : Nat} {g : Int → Option Int} (h : ClkR w cb b n g) {x : Int} (hx : WfI x) :
    (Instr.lookup 110 (.map (some b)) (.int .i64 x) false).run Try.prog w = .ok (.int .i64 ((g x).getD 0)) w := by
  obtain ⟨h0, D, h1, h2⟩ := h
  obtain ⟨c, hr, ha, -⟩ := h1.lookup_int Try.keyedInt Try.underlying110 Try.underlying2 (Try.zeroI64 w) (keyI hx)
  rw [h2 x hx] at ha
  rw [hr]
  cases hg : g x with
  | none => rw [hg] at ha; cases ha; rfl
  | some c => rw [hg] at ha; cases ha; rfl
theorem ClkR.look_ok {w : World} {cb b n : Nat} {g : Int → Option Int} (h : ClkR w cb b n g) {x : Int} (hx : WfI x) :
    (Instr.lookup 110 (.map (some b)) (.int .i64 x) true).run Try.prog w = .ok (.tuple #[.int .i64 ((g x).getD 0), .bool (g x).isSome]) w := by
  obtain ⟨h0, D, h1, h2⟩ := h
  obtain ⟨v, ps, hr, hv⟩ := h1.look_ok Try.keyedInt Try.underlying110 (Try.zeroI64 w) (plainElem_int Try.underlying2 (by rfl)) (keyI hx)
  obtain ⟨a, rfl, ha, -⟩ := plainElem_int_inv Try.underlying2 hv
  rw [h2 x hx] at ha
  rw [hr, h2.has hx]
  cases hg : g x with
  | none => rw [hg] at ha; cases ha; rfl
  | some c => rw [hg] at ha; cases ha; rfl
theorem ClkR.store {w : World} {cb b n : Nat} {g : Int → Option Int} (h : ClkR w cb b n g) (hn : n < maxLen) {x c : Int} (hx : WfI x) (hc : WfI c) :
    ∃ w', (Instr.mapUpdate 110 (.map (some b)) (.int .i64 x) (.int .i64 c)).run Try.prog w = .ok () w' ∧ ClkR w' cb b (n + 1) (fun y => if y = x then some c else g y) ∧ Turn b w w' ∧ w'.heap.size = w.heap.size := by
  have hne := h.ne
  have hlt := h.lt.1
  obtain ⟨h0, D, h1, h2⟩ := h
  obtain ⟨w', hr, h4, h5⟩ := h1.store Try.keyedInt Try.underlying110 hn (keyI hx) (plainElem_int Try.underlying2 hc)
  have ht := Turn.of_turned h5
  refine ⟨w', hr, ⟨(ht.block _ hlt hne).trans h0, _, h4, h2.put h1.isMap hx c⟩, ht, ?_⟩
  obtain ⟨es, clock, es', clock', hb, rfl⟩ := h5
  simp [setBlock]
theorem ClkR.drop {w : World} {cb b n : Nat} {g : Int → Option Int} (h : ClkR w cb b n g) {x : Int} (hx : WfI x) (ty : TypeId) :
    ∃ w', (Builtin.delete_ #[110, 3] ty #[.map (some b), .int .i64 x]).run Try.prog w = .ok (.tuple #[]) w' ∧ ClkR w' cb b n (fun y => if y = x then none else g y) ∧ Turn b w w' ∧ w'.heap.size = w.heap.size := by
  have hne := h.ne
  have hlt := h.lt.1
  obtain ⟨h0, D, h1, h2⟩ := h
  obtain ⟨w', hr, h4, h5⟩ := h1.drop Try.keyedInt Try.underlying110 (keyI hx) ty
  have ht := Turn.of_turned h5
  refine ⟨w', hr, ⟨(ht.block _ hlt hne).trans h0, _, h4, h2.del x⟩, ht, ?_⟩
  obtain ⟨es, clock, es', clock', hb, rfl⟩ := h5
  simp [setBlock]

set_option maxRecDepth 100000 in
theorem cNew_any (w : World) : Calls Try.prog 24 #[] w fun e w' => ∃ cb b, e = .returned (.pointer (some ⟨cb, 0, none⟩)) ∧ w.heap.size ≤ cb ∧ w.heap.size ≤ b ∧ ClkR w' cb b 0 (fun _ => none) ∧ Below w.heap.size w w' := by
  have hmm := @run_makeMap Try.prog
  have hm : (w.alloc (.map #[] 0)).ownsMap Try.prog 3 (plainElem Try.prog 2) w.heap.size 0 (.map [] : DataW Unit) := World.ownsMap_made _ _ _ _
  have h2 := hm.alloc (.cells #[.map (some w.heap.size)] 112)
  have h3 := World.alloc_heap_new (w.alloc (.map #[] 0)) (.cells #[.map (some w.heap.size)] 112)
  have h4 : Below w.heap.size w ((w.alloc (.map #[] 0)).alloc (.cells #[.map (some w.heap.size)] 112)) := ((Below.refl _ w).alloc (Nat.le_refl _) _).alloc (by simp) _
  rw [World.size_alloc] at h3
  have HM := Lib.hid h2
  have H3 := Lib.hid h3
  clear hm h2 h3
  go_enter Try.func24, Try.ntmps24
  go_wp2_with fail
  go_ret
  exact ⟨_, w.heap.size, rfl, by simp, Nat.le_refl _, ⟨H3.out, _, HM.out, fun _ _ _ => rfl⟩, h4⟩
set_option maxRecDepth 100000 in
theorem cSet_any (cb b n : Nat) (g : Int → Option Int) (x c : Int) (w : World) (h : ClkR w cb b n g) (hn : n < 4096) (hx : WfI x) (hc : WfI c) :
    Calls Try.prog 26 #[.pointer (some ⟨cb, 0, none⟩), .int .i64 x, .int .i64 c] w fun e w' => e = .returned (.bool true) ∧ ClkR w' cb b (n + 1) (fun y => if y = x then some c else g y) ∧ Turn b w w' ∧ w'.heap.size = w.heap.size := by
  have hlk := h.look_ok hx
  obtain ⟨w6, hup, hm6, ht6, hs6⟩ := h.store (by unfold maxLen; omega) hx hc
  have hrd := h.read
  have HM6 := Lib.hid hm6
  have HT6 := Lib.hid ht6
  obtain ⟨h0, D, h1, h2⟩ := h
  have hsz := h1.size_le
  have hlen : ∀ ty, (Builtin.len_ #[110] ty #[.map (some b)]).run Try.prog w = .ok (.int .i64 (Maps.size D)) w := fun ty => h1.len Try.underlying110 ty
  have d1 : decide ((4096 : Int) ≤ (Maps.size D : Int)) = false := decide_eq_false (by omega)
  clear h0 h1 h2 hm6 ht6
  generalize (g x).isSome = is at *
  generalize (g x).getD 0 = old at *
  generalize Maps.size D = sz at *
  cases is
  all_goals
    go_enter Try.func26, Try.ntmps26
    go_wp2_with fail
    go_ret
    exact ⟨rfl, HM6.out, HT6.out, hs6⟩
set_option maxRecDepth 100000 in
theorem cLen_zero (cb b n : Nat) (g : Int → Option Int) (w : World) (h : ClkR w cb b n g) (h0 : ∀ x, g x = none) :
    Calls Try.prog 30 #[.pointer (some ⟨cb, 0, none⟩)] w fun e w' => e = .returned (.int .i64 0) ∧ w = w' := by
  have hrd := h.read
  obtain ⟨_, D, h1, h2⟩ := h
  have hz : Maps.size D = 0 := MapI.empty h1 h2 h0
  have hlen : ∀ ty, (Builtin.len_ #[110] ty #[.map (some b)]).run Try.prog w = .ok (.int .i64 0) w := fun ty => by have := h1.len Try.underlying110 ty; rw [hz] at this; exact this
  clear h1 h2
  go_enter Try.func30, Try.ntmps30
  go_wp2_with fail
  go_ret
  exact ⟨rfl, rfl⟩
end Go.Proofs.Ytkgcpbhlbfjcoaa

/-
  ticks: Next: contract.
-/
namespace Go.Proofs.Ytkgcpbhlbfjcoaa
open Go Go.RowKit Go.Maps Go.MapKept Go.ChangeMaps

theorem Says.at {D : DataW Unit} {g : Int → Option Int} (h : Says D g) {x c : Int} (hx : WfI x) (hat : ∀ z, D.atKey (.int .i64 x) z = .lit (.int .i64 c)) : g x = some c := by
  have h1 := h x hx
  cases hg : g x with
  | some c' =>
    rw [hg] at h1
    have := (h1 (.lit (.int .i64 0))).symm.trans (hat _)
    cases this
    rfl
  | none =>
    rw [hg] at h1
    have e1 := (h1 (.lit (.int .i64 c))).symm.trans (hat _)
    have e2 := (h1 (.lit (.int .i64 (c + 1)))).symm.trans (hat _)
    simp at e2
    omega
/-- What has been seen of a clock so far: the least tick, if any. -/
def Seen (g : Int → Option Int) (left : Lit → Bool) (t : Int) (is : Bool) : Prop :=
  (is = false → ∀ x, WfI x → (g x).isSome = true → left (.int .i64 x) = true) ∧ (is = true → (∃ x, WfI x ∧ g x = some t) ∧ ∀ x c, WfI x → g x = some c → left (.int .i64 x) = false → t ≤ c)
theorem Seen.start {D : DataW Unit} {g : Int → Option Int} (h : Says D g) : Seen g (Maps.has D) 0 false :=
  ⟨fun _ x hx hs => by rw [h.has hx]; exact hs, fun e => by cases e⟩
theorem left_strike {left : Lit → Bool} {x y : Int} (h : (left (.int .i64 y) && !(Lit.int .i64 y).sameKey (.int .i64 x)) = false) : left (.int .i64 y) = false ∨ y = x := by
  cases hl : left (.int .i64 y) with
  | false => exact .inl rfl
  | true =>
    rw [hl] at h
    simp only [Bool.true_and, Bool.not_eq_false'] at h
    have := WideAt.sameKey_eq h
    injection this with _ e
    exact .inr e
theorem Seen.take {g : Int → Option Int} {left : Lit → Bool} {t : Int} {is : Bool} (h : Seen g left t is) {x c : Int} (hx : WfI x) (hc : g x = some c) (hlt : is = true → c < t) : Seen g (fun z => left z && !z.sameKey (.int .i64 x)) c true := by
  refine ⟨fun e => (by cases e), fun _ => ⟨⟨x, hx, hc⟩, fun y d hy hd hl => ?_⟩⟩
  rcases left_strike hl with hl | rfl
  · cases is with
    | false =>
      have := h.1 rfl y hy (by rw [hd]; rfl)
      rw [hl] at this
      cases this
    | true =>
      have := (h.2 rfl).2 y d hy hd hl
      have := hlt rfl
      omega
  · rw [hc] at hd
    cases hd
    exact Int.le_refl _
theorem Seen.pass {g : Int → Option Int} {left : Lit → Bool} {t : Int} (h : Seen g left t true) {x c : Int} (hc : g x = some c) (hlt : ¬ c < t) : Seen g (fun z => left z && !z.sameKey (.int .i64 x)) t true := by
  refine ⟨fun e => (by cases e), fun _ => ⟨(h.2 rfl).1, fun y d hy hd hl => ?_⟩⟩
  rcases left_strike hl with hl | rfl
  · exact (h.2 rfl).2 y d hy hd hl
  · rw [hc] at hd
    cases hd
    omega

set_option maxRecDepth 100000 in
set_option maxHeartbeats 1000000 in
theorem cNext_any (cb b n : Nat) (g : Int → Option Int) (w : World) (h : ClkR w cb b n g) :
    Calls Try.prog 28 #[.pointer (some ⟨cb, 0, none⟩)] w fun e w' => ∃ (t : Int) (is : Bool), e = .returned (.tuple #[.int .i64 t, .bool is]) ∧ (is = false → ∀ x, WfI x → g x = none) ∧ (is = true → (∃ x, WfI x ∧ g x = some t) ∧ ∀ x c, WfI x → g x = some c → t ≤ c) ∧ Below w.heap.size w w' := by
  have hrd := h.read
  obtain ⟨_, D, hown, hsay⟩ := h
  have HSAY := Lib.hid hsay
  have HST := Lib.hid (Seen.start hsay)
  clear hsay
  go_enter Try.func28, Try.ntmps28
  go_wp2_with (first | (at_range; refine wpList_range_own _ rfl _ 110 rfl 3 2 Try.keyedInt Try.underlying110 _ b n D rfl hown ?_; intro w0 hrg0 hg0 hs0) | fail)
  go_frame
  have HB0 := Lib.hid ((Below.refl w.heap.size w).grown hg0 (Nat.le_refl _) (fun j e => by cases e))
  clear hg0 hs0 hrd
  go_loopw [4, 5] (fun a e wr => ∃ (left : Lit → Bool) (cnt : Nat) (t : Int) (is : Bool), a = .int .i64 t ∧ e = .bool is ∧ Hid (wr.ranges Try.prog 3 (plainElem Try.prog 2) b w.heap.size n D left cnt) ∧ Hid (Seen g left t is) ∧ Hid (Below w.heap.size w wr)) (fun _ _ wr => wr.rangeLeft b w.heap.size)
  case atStart => exact ⟨_, _, 0, false, rfl, rfl, Lib.hid hrg0, HST, HB0⟩
  case round =>
    obtain ⟨left, cnt, t, is, rfl, rfl, HRG, HSE, HB⟩ := hrel
    have hrg := HRG.out
    go_wp2_with (first | (at_next; refine wpList_next_ranges_ii _ rfl _ rfl 3 2 .i64 .i64 Try.keyedInt Try.underlying3 Try.underlying2 b w.heap.size n _ _ _ rfl hrg ?_ ?_) | fail)
    · intro hc0 hl0
      go_wp2
      go_ret2
      refine ⟨t, is, rfl, fun e x hx => ?_, fun e => ⟨(HSE.out.2 e).1, fun x c hx hc => (HSE.out.2 e).2 x c hx hc (hl0 _)⟩, HB.out⟩
      have := HSE.out.1 e x hx
      rw [hl0] at this
      cases hg : g x with
      | none => rfl
      | some c => rw [hg] at this; cases this rfl
    · intro x c w1 cnt1 hwx hwc hlx hat hrg1 hlt hg1 hs1 hen
      have hgx : g x = some c := HSAY.out.at hwx hat
      have HRG1 := Lib.hid hrg1
      have HB1 := Lib.hid (HB.out.grown hg1 HB.out.size (fun j e => by cases e; exact Nat.le_refl _))
      have hm := hrg1.left_eq
      have hm0 := hrg.left_eq
      have HM : Hid (w1.rangeLeft b w.heap.size < wr.rangeLeft b w.heap.size) := Lib.hid (by rw [hm, hm0]; exact hlt)
      clear hrg hrg1 hat hlx hg1 hs1 hlt hm hm0
      cases is with
      | false =>
        have HS1 := Lib.hid (HSE.out.take hwx hgx (fun e => by cases e))
        clear hgx
        go_wp2_with fail
        go_roundw
        case rel => exact ⟨_, cnt1, c, true, rfl, rfl, HRG1, HS1, HB1⟩
        case measure => exact HM.out
      | true =>
        by_cases hct : c < t
        · have d1 : decide (c < t) = true := decide_eq_true hct
          have HS1 := Lib.hid (HSE.out.take hwx hgx (fun _ => hct))
          clear hgx
          go_wp2_with fail
          go_roundw
          case rel => exact ⟨_, cnt1, c, true, rfl, rfl, HRG1, HS1, HB1⟩
          case measure => exact HM.out
        · have d1 : decide (c < t) = false := decide_eq_false hct
          have HS1 := Lib.hid (HSE.out.pass hgx hct)
          clear hgx
          go_wp2_with fail
          go_roundw
          case rel => exact ⟨_, cnt1, t, true, rfl, rfl, HRG1, HS1, HB1⟩
          case measure => exact HM.out
end Go.Proofs.Ytkgcpbhlbfjcoaa
