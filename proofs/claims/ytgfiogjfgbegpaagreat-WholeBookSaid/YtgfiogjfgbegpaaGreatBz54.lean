/-
  quota: a book in memory; contracts of counts, NewBook and of the shelf.
-/
import Derived.Test.YtgfiogjfgbegpaaGreatBz10
import Derived.Test.YtgfiogjfgbegpaaGreatBz27
import Derived.Test.YtgfiogjfgbegpaaGreatBz39
import Derived.Test.YtgfiogjfgbegpaaGreatBz43
import Derived.Test.YtgfiogjfgbegpaaGreatBz53
namespace Go.Proofs.YtgfiogjfgbegpaaGreat
open Go Go.RowKit Go.Maps Go.WideShapes

def noneD : DefD := ⟨{ data := #[] }, { data := #[] }, []⟩
theorem noneD_small : SmallD noneD := ⟨by show ByteArray.size { data := #[] } ≤ _; decide, by show ByteArray.size { data := #[] } ≤ _; decide, by show 0 ≤ 30; decide, fun s hs => by cases hs⟩
theorem noneD_r (w : World) : DefR w [.string noneD.name, .string noneD.text, .slice none noneD.steps.length 0] noneD none 0 :=
  ⟨rfl, by show ByteArray.size { data := #[] } ≤ _; unfold maxLen; decide, by show ByteArray.size { data := #[] } ≤ _; unfold maxLen; decide, [], rfl, ⟨rfl, none, 0, rfl, Nat.le_refl _, Nat.zero_le _, .inl rfl⟩, fun i r s hr _ => by cases hr⟩
def DefS (w : World) (B : Nat) (d : DefD) (va : Option Addr) (vc : Nat) : Prop := ∀ w' : World, (∀ j, B ≤ j → j < w.heap.size → w'.heap[j]? = w.heap[j]?) → DefR w' [.string d.name, .string d.text, .slice va d.steps.length vc] d va vc
theorem DefS.keep {w w' : World} {B : Nat} {d : DefD} {va : Option Addr} {vc : Nat} (h : DefS w B d va vc) (hs : w.heap.size ≤ w'.heap.size) (hk : ∀ j, B ≤ j → j < w.heap.size → w'.heap[j]? = w.heap[j]?) : DefS w' B d va vc :=
  fun w2 h2 => h w2 (fun j hj hl => (h2 j hj (by omega)).trans (hk j hj hl))
theorem DefS.now {w : World} {B : Nat} {d : DefD} {va : Option Addr} {vc : Nat} (h : DefS w B d va vc) : DefR w [.string d.name, .string d.text, .slice va d.steps.length vc] d va vc := h w (fun _ _ _ => rfl)
theorem DefS.mono {w : World} {B B' : Nat} {d : DefD} {va : Option Addr} {vc : Nat} (h : DefS w B d va vc) (hb : B' ≤ B) : DefS w B' d va vc := fun w2 h2 => h w2 (fun j hj hl => h2 j (by omega) hl)
def ValR (w : World) (B : Nat) : Option DefD → Option Value → Prop
  | none, v => v = none
  | some d, v => SmallD d ∧ ∃ va vc, v = some (.agg #[.string d.name, .string d.text, .slice va d.steps.length vc]) ∧ DefS w B d va vc
theorem ValR.keep {w w' : World} {B : Nat} {d : Option DefD} {v : Option Value} (h : ValR w B d v) (hs : w.heap.size ≤ w'.heap.size) (hk : ∀ j, B ≤ j → j < w.heap.size → w'.heap[j]? = w.heap[j]?) : ValR w' B d v := by
  cases d with
  | none => exact h
  | some d =>
    obtain ⟨h1, va, vc, h2, h3⟩ := h
    exact ⟨h1, va, vc, h2, h3.keep hs hk⟩
theorem ValR.some {w : World} {B : Nat} {d : Option DefD} {v : Option Value} (h : ValR w B d v) : v.isSome = d.isSome := by
  cases d with
  | none => rw [show v = none from h]; rfl
  | some d =>
    obtain ⟨h1, va, vc, h2, h3⟩ := h
    rw [h2]; rfl
def noneV : Value := .agg #[.string { data := #[] }, .string { data := #[] }, .slice none 0 0]
theorem Tryz.keyBook : KeyH Tryz.prog 9 24 108 ByteArray Value.string (fun s => s.size ≤ maxLen) noneV where
  keyed := string_keyed Tryz.underlying9
  map := Tryz.underlying108
  zero := fun w => by kernel_rfl
  inj := fun {x y} h => by injection h
  key := fun {x} h => ⟨_, WideMaps.keyOf_string_mk Tryz.underlying9 h⟩
structure BookR (w : World) (B p m : Nat) (most : Int) (L : List ByteArray) (kv : ByteArray → Option DefD) : Prop where
  cell : w.heap[p]? = some (.cells #[.int .i64 most, .map (some m)] 112 (0, 0))
  hp : p < B
  hm : m < B
  hB : B ≤ w.heap.size
  map : ∃ g, MapH Tryz.prog 9 Value.string w m L g ∧ ∀ x, ValR w B (kv x) (g x)
  few : L.length ≤ 100
  sizes : ∀ x ∈ L, x.size ≤ 200
section
variable {w w' : World} {B p m : Nat} {most : Int} {L : List ByteArray} {kv : ByteArray → Option DefD}
theorem BookR.keep (h : BookR w B p m most L kv) (hs : w.heap.size ≤ w'.heap.size) (hk : ∀ j, j < w.heap.size → (j = p ∨ j = m ∨ B ≤ j) → w'.heap[j]? = w.heap[j]?) : BookR w' B p m most L kv := by
  obtain ⟨h1, h2, h3, h4, ⟨g, h5, h6⟩, h7, h8⟩ := h
  exact ⟨(hk p (by omega) (.inl rfl)).trans h1, h2, h3, by omega, ⟨g, h5.block (hk m (by omega) (.inr (.inl rfl))), fun x => (h6 x).keep hs (fun j hj hl => hk j hl (.inr (.inr hj)))⟩, h7, h8⟩
theorem BookR.below (h : BookR w B p m most L kv) (hb : Below w.heap.size w w') : BookR w' B p m most L kv := h.keep hb.size (fun j hj _ => hb.block j hj)
theorem BookR.ne (h : BookR w B p m most L kv) : p ≠ m := by
  obtain ⟨h1, h2, h3, h4, ⟨g, h5, h6⟩, h7, h8⟩ := h
  exact h5.ne h1
theorem BookR.read0 (h : BookR w B p m most L kv) : w.cell? ⟨p, 0, none⟩ = some (.int .i64 most) := by simp [World.cell?, h.cell]
theorem BookR.read1 (h : BookR w B p m most L kv) : w.cell? ⟨p, 1, none⟩ = some (.map (some m)) := by simp [World.cell?, h.cell]
theorem BookR.len (h : BookR w B p m most L kv) (ty : TypeId) : (Builtin.len_ #[108] ty #[.map (some m)]).run Tryz.prog w = .ok (.int .i64 (L.length : Int)) w := by
  obtain ⟨g, h5, h6⟩ := h.map
  exact h5.len Tryz.underlying108 ty
theorem BookR.look (h : BookR w B p m most L kv) {x : ByteArray} (hx : x.size ≤ maxLen) : ∃ va vc, (∀ w' : World, w'.heap[m]? = w.heap[m]? → (Instr.lookup 108 (.map (some m)) (.string x) true).run Tryz.prog w' = .ok (.tuple #[.agg #[.string ((kv x).getD noneD).name, .string ((kv x).getD noneD).text, .slice va ((kv x).getD noneD).steps.length vc], .bool (kv x).isSome]) w') ∧ DefR w [.string ((kv x).getD noneD).name, .string ((kv x).getD noneD).text, .slice va ((kv x).getD noneD).steps.length vc] ((kv x).getD noneD) va vc := by
  obtain ⟨g, h5, h6⟩ := h.map
  have h7 : ∀ w' : World, w'.heap[m]? = w.heap[m]? → _ := fun w' hw => (h5.block hw).look_ok Tryz.keyBook (x := x) hx
  have h8 := h6 x
  have h9 := h8.some
  cases hk : kv x with
  | none =>
    rw [hk] at h8 h9
    rw [show g x = none from h8] at h7
    exact ⟨none, 0, h7, noneD_r w⟩
  | some d =>
    rw [hk] at h8 h9
    obtain ⟨_, va, vc, e, hd⟩ := h8
    rw [e] at h7
    exact ⟨va, vc, h7, hd.now⟩
end
theorem results_row_tmp {fn : Func} {p u : Tmp} {ty : TypeId} (h : fn.results = #[.cell p ty, .tmp u]) (tmps : Array Value) (P : Program) (w : World) (g : Nat) (t : TypeId) (cs : Array Value) (fr : Nat × Nat) (fs : Array Field) (x : Value)
    (hp : tmps.getD p undef = .pointer (some ⟨g, 0, none⟩)) (hx : tmps.getD u undef = x) (hg : w.heap[g]? = some (.cells cs t fr))
    (hu : P.underlying ty = some (.struct fs)) (hi : (P.info? ty).map (·.size) = some cs.size) :
    (results fn tmps).run P w = .ok (.tuple #[.agg cs, x]) w := by
  have hp' : tmps[p]?.getD undef = .pointer (some ⟨g, 0, none⟩) := by simpa using hp
  have hx' : tmps[u]?.getD undef = x := by simpa using hx
  simp [results, h, hp', hx', asAddr, run_loadVar_row w g t ty cs fr _ hg hu rfl hi]
theorem counts_any (n : Int) (hn : n = 1 ∨ n = 12) (w : World) : Calls Tryz.prog 50 #[.int .i64 n] w fun e w' => e = .returned (.int .i64 n) ∧ w' = w := by
  rcases hn with rfl | rfl
  all_goals
    go_enter Tryz.func50, Tryz.ntmps50
    go_wp2_with fail
    go_ret
    exact ⟨rfl, rfl⟩
set_option maxRecDepth 100000 in
theorem NewBook_any (n : Int) (hn : n = 1 ∨ n = 12) (w : World) : Calls Tryz.prog 22 #[.int .i64 n] w fun e w' => e = .returned (.pointer (some ⟨w.heap.size + 1, 0, none⟩)) ∧ w' = (w.alloc (.map #[] 0)).alloc (.cells #[.int .i64 n, .map (some w.heap.size)] 112) := by
  have hmm := @run_makeMap Tryz.prog
  have HC := Lib.hid (counts_any n hn)
  go_enter Tryz.func22, Tryz.ntmps22
  go_wp2_with (refine (HC.out _).mono ?_; rintro e w1 ⟨rfl, rfl⟩)
  go_ret
  exact ⟨by simp, by simp⟩
theorem bookNew (n : Int) (w : World) : BookR ((w.alloc (.map #[] 0)).alloc (.cells #[.int .i64 n, .map (some w.heap.size)] 112)) (w.heap.size + 2) (w.heap.size + 1) w.heap.size n [] (fun _ => none) := by
  have h3 := World.alloc_heap_new (w.alloc (.map #[] 0)) (.cells #[.int .i64 n, .map (some w.heap.size)] 112)
  rw [World.size_alloc] at h3
  exact ⟨h3, by omega, by omega, by simp, ⟨_, (MapH.made Tryz.prog 9 Value.string w).below ((Below.refl _ _).alloc (Nat.le_refl _) _), fun x => rfl⟩, by simp, fun x hx => by cases hx⟩
section
variable {w : World} {B p m : Nat} {most : Int} {L : List ByteArray} {kv : ByteArray → Option DefD}
set_option maxRecDepth 100000 in
theorem kGet_any (h : BookR w B p m most L kv) {x : ByteArray} (hx : x.size ≤ maxLen) :
    Calls Tryz.prog 51 #[.pointer (some ⟨p, 0, none⟩), .string x] w fun e w' => ∃ va vc, e = .returned (.tuple #[.agg #[.string ((kv x).getD noneD).name, .string ((kv x).getD noneD).text, .slice va ((kv x).getD noneD).steps.length vc], .bool (kv x).isSome]) ∧ DefR w' [.string ((kv x).getD noneD).name, .string ((kv x).getD noneD).text, .slice va ((kv x).getD noneD).steps.length vc] ((kv x).getD noneD) va vc ∧ Below w.heap.size w w' := by
  have hb1 : Below w.heap.size w (w.alloc (.cells #[.string { data := #[] }, .string { data := #[] }, .slice none 0 0] 24)) := (Below.refl _ w).alloc (Nat.le_refl _) _
  have hrd := (h.below hb1).read1
  obtain ⟨va, vc, hlk0, hd⟩ := h.look hx
  have hlk := hlk0 _ (hb1.block m (Nat.lt_of_lt_of_le h.hm h.hB))
  have HD := Lib.hid hd
  have HB1 := Lib.hid hb1
  clear hd hb1 h hlk0
  generalize hdd : (kv x).getD noneD = d at *
  generalize (kv x).isSome = is at *
  clear hdd
  go_enter Tryz.func51, Tryz.ntmps51
  go_wp2_with fail
  have hb2 : Below w.heap.size w ((w.alloc (Obj.cells #[Value.string d.name, Value.string d.text, Value.slice va d.steps.length vc] 24)).alloc (Obj.cells #[Value.string d.name, Value.string d.text, Value.slice va d.steps.length vc] 24)) := ((Below.refl _ w).alloc (Nat.le_refl _) _).alloc (by simp) _
  refine bodyPost_ret (results_row_tmp rfl _ _ _ w.heap.size 24 #[.string d.name, .string d.text, .slice va d.steps.length vc] (0, 0) _ (.bool is) rfl rfl ((Below.heap_alloc _ _ _ (by simp)).trans (World.alloc_heap_new _ _)) Tryz.underlying24 (by kernel_rfl)) rfl ⟨va, vc, rfl, ?_, hb2⟩
  exact HD.out.below hb2
set_option maxRecDepth 100000 in
theorem kFull_any (h : BookR w B p m most L kv) (hf : (L.length : Int) < most) (_hm : most ≤ 1048576) :
    Calls Tryz.prog 52 #[.pointer (some ⟨p, 0, none⟩)] w fun e w' => e = .returned (.bool false) ∧ Below w.heap.size w w' := by
  have hb1 : Below w.heap.size w w.drew := (Below.refl _ w).drew
  have h1 := h.below hb1
  have hr0 := h1.read0
  have hr1 := h1.read1
  have hlen := h1.len
  have d1 : decide (most ≤ (L.length : Int)) = false := decide_eq_false (by omega)
  generalize (L.length : Int) = z at *
  clear h h1 hf
  go_enter Tryz.func52, Tryz.ntmps52
  go_wp2_with fail
  go_region
  go_wp2_with fail
  go_ret
  exact ⟨rfl, hb1⟩
set_option maxRecDepth 100000 in
theorem kPut_any (h : BookR w B p m most L kv) (hf : L.length < 100) {x : ByteArray} (hx : x.size ≤ 200) {d : DefD} (hs : SmallD d) {va : Option Addr} {vc : Nat} (hd : DefS w B d va vc) (hk : kv x = none) :
    Calls Tryz.prog 53 #[.pointer (some ⟨p, 0, none⟩), .string x, .agg #[.string d.name, .string d.text, .slice va d.steps.length vc]] w fun e w' => e = .returned (.tuple #[]) ∧ BookR w' B p m most (L ++ [x]) (fun y => if y = x then some d else kv y) ∧ Chg (fun j => j = m) w w' := by
  have hb1 : Below w.heap.size w (w.alloc (.cells #[.string d.name, .string d.text, .slice va d.steps.length vc] 24)).drew := ((Below.refl _ w).alloc (Nat.le_refl _) _).drew
  have h1 := h.below hb1
  have hr1 := h1.read1
  have hg := World.alloc_heap_new w (.cells #[.string d.name, .string d.text, .slice va d.steps.length vc] 24)
  obtain ⟨q0, q1, q2, -, -, -⟩ := cells3h (W := (w.alloc (.cells #[.string d.name, .string d.text, .slice va d.steps.length vc] 24)).drew) hg
  have hnx : x ∉ L := fun hm => by
    obtain ⟨g, h5, h6⟩ := h.map
    have := h6 x
    rw [hk] at this
    obtain ⟨_, _, _, _, _, h7⟩ := h5
    have h8 := (h7 x).1 hm
    rw [show g x = none from this] at h8
    cases h8
  obtain ⟨g, h5, h6⟩ := h1.map
  obtain ⟨w6, hup, hm6, hb6, hs6, ho6⟩ := h5.store Tryz.keyBook (by unfold maxLen; omega) (x := x) (by unfold maxLen; omega) (.agg #[.string d.name, .string d.text, .slice va d.steps.length vc])
  have hmB := Nat.lt_of_lt_of_le h.hm h.hB
  have hne := h.ne
  have hpB := h.hp
  have hmB' := h.hm
  have hbk : ∀ j, j < w.heap.size → j ≠ m → w6.heap[j]? = w.heap[j]? := fun j hj hjm => (ho6 j hjm).trans (hb1.block j hj)
  have hbs := hb1.size
  have hv6 : ∀ y, ValR w6 B (if y = x then some d else kv y) (if y = x then some (.agg #[.string d.name, .string d.text, .slice va d.steps.length vc]) else g y) := fun y => by
    by_cases e : y = x
    · rw [if_pos e, if_pos e]
      exact ⟨hs, va, vc, rfl, hd.keep (by omega) (fun j hj hl => hbk j hl (by omega))⟩
    · rw [if_neg e, if_neg e]
      exact (h6 y).keep (by omega) (fun j hj hl => ho6 j (by omega))
  have hL6 : putK L x = L ++ [x] := if_neg hnx
  rw [hL6] at hm6
  have HR := Lib.hid (show BookR w6 B p m most (L ++ [x]) (fun y => if y = x then some d else kv y) from ⟨(hbk p (by have := h.hB; omega) hne).trans h.cell, h.hp, h.hm, by have := h.hB; omega, ⟨_, hm6, hv6⟩, by rw [List.length_append]; show L.length + 1 ≤ 100; omega, fun y hy => by
    rcases List.mem_append.1 hy with hy | hy
    · exact h.sizes y hy
    · rw [List.mem_singleton.1 hy]; exact hx⟩)
  have HC := Lib.hid (show Chg (fun j => j = m) w w6 from ⟨⟨hb6.os.trans hb1.os, hb6.tape.trans hb1.tape, hb6.output.trans hb1.output, by omega, fun j hj => by omega⟩, fun j hj hn => hbk j hj hn⟩)
  clear h h1 h5 h6 hm6 hb6 ho6 hv6 hbk hb1 hd hs hg
  go_enter Tryz.func53, Tryz.ntmps53
  go_wp2_with fail
  go_region
  go_wp2_with fail
  refine bodyPost_end (results_none rfl _ _ _) rfl ?_
  exact ⟨rfl, HR.out, HC.out⟩
theorem strsV_enc (ss : List (List UInt8)) : strsV (ss.map fun y => ⟨y.toArray⟩) = ss.map encStr := by
  unfold strsV
  rw [List.map_map]
  rfl
set_option maxRecDepth 100000 in
theorem kNames_any (h : BookR w B p m most L kv) :
    Calls Tryz.prog 54 #[.pointer (some ⟨p, 0, none⟩)] w fun e w' => ∃ (v : Value) (ns : List ByteArray), e = .returned v ∧ RdS w' v 1 ns.length (strsV ns) ∧ ns.Pairwise (fun a b => a.data.toList < b.data.toList) ∧ (∀ x, x ∈ ns ↔ x ∈ L) ∧ Below w.heap.size w w' := by
  have hr1 := h.read1
  have hfew := h.few
  have hsz := h.sizes
  obtain ⟨g, h5, h6⟩ := h.map
  obtain ⟨D, k1, k2, k3, k4, k5⟩ := h5
  have HS := Lib.hid (bsorted_any m _ D heldH w k1 (by unfold maxLen; omega) (by omega))
  have HN := Lib.hid (fun (ss : List (List UInt8)) (hp : ss.Perm (strKeys D)) => names_sorted k1 k3 k5 (fun x hx => by have := hsz x hx; unfold maxLen; omega) hp)
  have HK := Lib.hid (bkeys_any (some m) w)
  clear h h6 k1 k2 k3 k4 k5
  go_enter Tryz.func54, Tryz.ntmps54
  go_wp2_with fail
  refine HK.out.mono ?_
  rintro e w1 ⟨rfl, rfl⟩
  go_wp2_with fail
  refine HS.out.mono ?_
  rintro e w2 ⟨v, ss, rfl, hp, hrow, hb2⟩
  go_wp2_with fail
  go_ret
  obtain ⟨n1, n2, n3⟩ := HN.out ss hp
  refine ⟨v, (ss.mergeSort (fun x y => decide (x ≤ y))).map fun y => ⟨y.toArray⟩, rfl, ?_, ?_, fun x => ?_, hb2⟩
  · rw [strsV_enc, List.length_map, List.length_mergeSort]
    exact RdS.of_owns hrow
  · refine List.pairwise_map.2 (n1.imp ?_)
    intro a b hab
    simpa using hab
  · rw [← n2 x, List.mem_map]
    constructor
    · rintro ⟨y, hy, rfl⟩
      simpa using hy
    · intro hx
      exact ⟨_, hx, by simp⟩
end
end Go.Proofs.YtgfiogjfgbegpaaGreat

/-
  quota.Book: Put, Get, Names: contracts.
-/
namespace Go.Proofs.YtgfiogjfgbegpaaGreat
open Go Go.RowKit Go.Maps Go.WideShapes

section
variable {w : World} {B p m : Nat} {most : Int} {L : List ByteArray} {kv : ByteArray → Option DefD}
def bkL (L : List ByteArray) (x : ByteArray) (d : DefD) : List ByteArray := if (rightB x && cleanB d) = true then L ++ [x] else L
def bkF (kv : ByteArray → Option DefD) (x : ByteArray) (d : DefD) : ByteArray → Option DefD := if (rightB x && cleanB d) = true then fun y => if y = x then some d else kv y else kv
set_option maxRecDepth 100000 in
set_option maxHeartbeats 4000000 in
theorem bPut_any (h : BookR w B p m most L kv) (hf : (L.length : Int) < most) (hm : most ≤ 12) {x : ByteArray} (hx : x.size ≤ 200) {d : DefD} {cs : List Value} {sa : Option Addr} {sc : Nat} (hd : DefR w cs d sa sc) (hs : SmallD d) (hk : kv x = none) :
    Calls Tryz.prog 23 #[.pointer (some ⟨p, 0, none⟩), .string x, .agg cs.toArray, .bool false] w fun e w' => ∃ er : Int, e = .returned (.int .i64 er) ∧ ((rightB x && cleanB d) = true → er = 0) ∧ BookR w' B p m most (bkL L x d) (bkF kv x d) ∧ Chg (fun j => j = m) w w' := by
  obtain ⟨rfl, hnm, htx, hst⟩ := hd
  have hb1 : Below w.heap.size w (w.alloc (.cells #[.string d.name, .string d.text, .slice sa d.steps.length sc] 24)) := (Below.refl _ w).alloc (Nat.le_refl _) _
  have hg1 := World.alloc_heap_new w (.cells #[.string d.name, .string d.text, .slice sa d.steps.length sc] 24)
  have HDR := Lib.hid (show DefR w [.string d.name, .string d.text, .slice sa d.steps.length sc] d sa sc from ⟨rfl, hnm, htx, hst⟩)
  have HLE : Hid (L.length < 100) := Lib.hid (by omega)
  have HLM : Hid ((L.length : Int) < most ∧ most ≤ 1048576) := Lib.hid ⟨hf, by omega⟩
  have HX := Lib.hid hx
  have HS := Lib.hid hs
  have HKN := Lib.hid hk
  have HBK := Lib.hid h
  have HNM := Lib.hid hnm
  have HTX := Lib.hid htx
  have HB1 := Lib.hid hb1
  have HG1 := Lib.hid hg1
  have HRI := Lib.hid (fun W => nRight_any x W (by omega))
  have HGET := Lib.hid (kGet_any (h.below hb1) (x := x) (by unfold maxLen; omega))
  rw [hk] at HGET
  simp only [Option.getD_none, Option.isSome_none, World.size_alloc] at HGET
  unfold bkL bkF
  clear h hf hm hx hs hk hnm htx hst hb1 hg1
  cases hri : rightB x
  case false =>
    rw [hri] at HRI
    simp only [Bool.false_and, Bool.false_eq_true, if_false, false_implies]
    go_enter Tryz.func23, Tryz.ntmps23
    go_wp2_with fail
    refine HGET.out.mono ?_
    rintro e w2 ⟨va0, vc0, rfl, -, hb2⟩
    have hb3 : Below w.heap.size w (w2.alloc (.cells #[.string noneD.name, .string noneD.text, .slice va0 noneD.steps.length vc0] 24)) := ((HB1.out).trans (hb2.mono (by omega))).alloc (by have h1 := HB1.out.size; have h2 := hb2.size; simp at h1 h2; omega) _
    have hg3 : (w2.alloc (.cells #[.string noneD.name, .string noneD.text, .slice va0 noneD.steps.length vc0] 24)).heap[w.heap.size]? = _ := (Below.heap_alloc _ _ _ (by have h2 := hb2.size; rw [World.size_alloc] at h2; omega)).trans ((hb2.block _ (by omega)).trans HG1.out)
    have HB3 := Lib.hid hb3
    obtain ⟨c0, c1, c2, -, -, -⟩ := cells3h hg3
    have HG3 := Lib.hid hg3
    have HDR3 := Lib.hid (HDR.out.below HB3.out)
    clear hb2 hb3 hg3
    go_wp2_with fail
    refine (HRI.out _).mono ?_
    rintro e w3 ⟨rfl, rfl⟩
    go_wp2_with fail
    go_ret
    refine ⟨18, rfl, trivial, HBK.out.below HB3.out, Chg.of_below HB3.out⟩
  case true =>
    rw [hri] at HRI
    simp only [Bool.true_and]
    have HCL := Lib.hid (fun W (hW : DefR W [.string d.name, .string d.text, .slice sa d.steps.length sc] d sa sc) => Clean_any d _ sa sc W hW HS.out)
    cases hcl : cleanB d
    case false =>
      rw [hcl] at HCL
      simp only [Bool.false_eq_true, if_false, false_implies]
      go_enter Tryz.func23, Tryz.ntmps23
      go_wp2_with fail
      refine HGET.out.mono ?_
      rintro e w2 ⟨va0, vc0, rfl, -, hb2⟩
      have hb3 : Below w.heap.size w (w2.alloc (.cells #[.string noneD.name, .string noneD.text, .slice va0 noneD.steps.length vc0] 24)) := ((HB1.out).trans (hb2.mono (by omega))).alloc (by have h1 := HB1.out.size; have h2 := hb2.size; simp at h1 h2; omega) _
      have hg3 : (w2.alloc (.cells #[.string noneD.name, .string noneD.text, .slice va0 noneD.steps.length vc0] 24)).heap[w.heap.size]? = _ := (Below.heap_alloc _ _ _ (by have h2 := hb2.size; rw [World.size_alloc] at h2; omega)).trans ((hb2.block _ (by omega)).trans HG1.out)
      have HB3 := Lib.hid hb3
      obtain ⟨c0, c1, c2, -, -, -⟩ := cells3h hg3
      have HG3 := Lib.hid hg3
      have HDR3 := Lib.hid (HDR.out.below HB3.out)
      clear hb2 hb3 hg3
      go_wp2_with fail
      refine (HRI.out _).mono ?_
      rintro e w3 ⟨rfl, rfl⟩
      go_wp2_with fail
      refine (HCL.out _ HDR3.out).mono ?_
      rintro e w4 ⟨rfl, hb4⟩
      have HB4 := Lib.hid (HB3.out.trans (hb4.mono HB3.out.size))
      have HG4 := Lib.hid ((hb4.block _ (Array.getElem?_eq_some_iff.1 HG3.out).1).trans HG3.out)
      clear HG3 HDR3 hb4 c0 c1 c2
      go_wp2_with fail
      go_ret
      refine ⟨3, rfl, trivial, HBK.out.below HB4.out, Chg.of_below HB4.out⟩
    case true =>
      rw [hcl] at HCL
      simp only [if_true]
      have HCP := Lib.hid (fun W (hW : DefR W [.string d.name, .string d.text, .slice sa d.steps.length sc] d sa sc) => dCopy_any d _ sa sc W hW HS.out)
      go_enter Tryz.func23, Tryz.ntmps23
      go_wp2_with fail
      refine HGET.out.mono ?_
      rintro e w2 ⟨va0, vc0, rfl, -, hb2⟩
      have hb3 : Below w.heap.size w (w2.alloc (.cells #[.string noneD.name, .string noneD.text, .slice va0 noneD.steps.length vc0] 24)) := ((HB1.out).trans (hb2.mono (by omega))).alloc (by have h1 := HB1.out.size; have h2 := hb2.size; simp at h1 h2; omega) _
      have hg3 : (w2.alloc (.cells #[.string noneD.name, .string noneD.text, .slice va0 noneD.steps.length vc0] 24)).heap[w.heap.size]? = _ := (Below.heap_alloc _ _ _ (by have h2 := hb2.size; rw [World.size_alloc] at h2; omega)).trans ((hb2.block _ (by omega)).trans HG1.out)
      have HB3 := Lib.hid hb3
      obtain ⟨c0, c1, c2, -, -, -⟩ := cells3h hg3
      have HG3 := Lib.hid hg3
      have HDR3 := Lib.hid (HDR.out.below HB3.out)
      clear hb2 hb3 hg3
      go_wp2_with fail
      refine (HRI.out _).mono ?_
      rintro e w3 ⟨rfl, rfl⟩
      go_wp2_with fail
      refine (HCL.out _ HDR3.out).mono ?_
      rintro e w4 ⟨rfl, hb4⟩
      have HB4 := Lib.hid (HB3.out.trans (hb4.mono HB3.out.size))
      have HG4 := Lib.hid ((hb4.block _ (Array.getElem?_eq_some_iff.1 HG3.out).1).trans HG3.out)
      clear HG3 HDR3 hb4 c0 c1 c2
      go_wp2_with fail
      have HFU := Lib.hid (kFull_any (HBK.out.below HB4.out) HLM.out.1 HLM.out.2)
      refine HFU.out.mono ?_
      rintro e w5 ⟨rfl, hb5⟩
      have HB5 := Lib.hid (HB4.out.trans (hb5.mono HB4.out.size))
      have hg5 := (hb5.block _ (Array.getElem?_eq_some_iff.1 HG4.out).1).trans HG4.out
      clear HB3 HB4 HG4 hb5
      obtain ⟨c0, c1, c2, -, -, -⟩ := cells3h hg5
      have HDR5 := Lib.hid (HDR.out.below HB5.out)
      have HCP5 := Lib.hid (HCP.out w5.drew (HDR5.out.below (Below.refl _ _).drew))
      clear hg5
      go_wp2_with fail
      refine E_region (S := (fun W => W.cell? ⟨w.heap.size, 0, none⟩ = some (.string d.name) ∧ W.cell? ⟨w.heap.size, 1, none⟩ = some (.string d.text) ∧ W.cell? ⟨w.heap.size, 2, none⟩ = some (.slice sa d.steps.length sc))) 5 (by kernel_rfl) ⟨c0, c1, c2⟩ (fun _ _ _ _ _ h => h) (fun Q' hQ hK' hHeld => ?_)
      refine E_take0 hQ (fun _ => hHeld) 0 (v := ?rav1) rfl rfl (by kernel_rfl) (by kernel_rfl) (by kernel_rfl) (by decide) (by rfl) ?ray1 ?rar1
      case ray1 => (intro w; go_simp; (try with_reducible rfl))
      (try simp only [layE])
      refine E_take0 hQ (fun _ => hHeld) 1 (v := ?rav2) rfl rfl (by kernel_rfl) (by kernel_rfl) (by kernel_rfl) (by decide) (by rfl) ?ray2 ?rar2
      case ray2 => (intro w; go_simp; (try with_reducible rfl))
      (try simp only [layE])
      refine E_take0 hQ (fun _ => hHeld) 2 (v := ?rav3) rfl rfl (by kernel_rfl) (by kernel_rfl) (by kernel_rfl) (by decide) (by rfl) ?ray3 ?rar3
      case ray3 => (intro w; go_simp; (try with_reducible rfl))
      (try simp only [layE])
      refine E_take0 hQ (fun _ => hHeld) 3 (v := ?rav4) rfl rfl (by kernel_rfl) (by kernel_rfl) (by kernel_rfl) (by decide) (by rfl) ?ray4 ?rar4
      case ray4 => (intro w; go_simp; (try with_reducible rfl))
      (try simp only [layE])
      refine E_take hQ hHeld 4 (v := ?rav5) rfl rfl (by kernel_rfl) (by kernel_rfl) (by kernel_rfl) (by kernel_rfl) (by kernel_rfl) (by rfl) ?ray5 ?rar5
      case ray5 => (intro w hSw; (try dsimp only at hSw); go_simp; (try with_reducible rfl))
      (try simp only [layE])
      refine E_one 5 (by kernel_rfl) rfl (by rfl) (fun K hK => ?_)
      go_simp
      refine HCP5.out.mono ?_
      rintro e w6 ⟨va, vc, rows, rfl, hr1, hr2, hr3, hb6⟩
      have HB6 := Lib.hid (show Below w.heap.size w w6 from bthen HB5.out.drew (Nat.le_refl _) hb6)
      have HDS := Lib.hid (show DefS w6 B d va vc from DefS.mono (defF_keep HNM.out HTX.out hr1 hr2 hr3) (by have h1 := HB5.out.size; have h2 := HBK.out.hB; show B ≤ w5.heap.size; omega))
      clear hr1 hr2 hr3 hb6 HCP5 HCP
      (skip)
      refine hK.out _ _ (fun _ h => absurd rfl h) (fun _ => ?_)
      clear hK hHeld
      (try simp only [layE])
      refine E_one 6 (by kernel_rfl) rfl (by rfl) (fun K hK => ?_)
      go_simp
      have HBK6 := Lib.hid (HBK.out.below HB6.out)
      refine (kPut_any HBK6.out HLE.out HX.out HS.out HDS.out HKN.out).mono ?_
      rintro e w7 ⟨rfl, hbk7, hch7⟩
      have HBK7 := Lib.hid hbk7
      have HCH7 := Lib.hid ((Chg.of_below HB6.out).trans hch7 (fun j hj _ => hj))
      clear hbk7 hch7
      (skip)
      refine hK.out _ _ (fun h => absurd h (by decide)) (fun _ => ?_)
      clear hK
      (try simp only [layE])
      refine E_done (by kernel_rfl) ?_ _
      refine hK'.out _ _ ?_
      clear hK' hQ
      go_wp2_with fail
      go_ret
      exact ⟨0, rfl, fun _ => rfl, HBK7.out, HCH7.out⟩
set_option maxRecDepth 100000 in
set_option maxHeartbeats 4000000 in
theorem bGet_any (h : BookR w B p m most L kv) {x : ByteArray} (hx : x.size ≤ maxLen) :
    Calls Tryz.prog 26 #[.pointer (some ⟨p, 0, none⟩), .string x] w fun e w' => ∃ va vc, e = .returned (.tuple #[.agg #[.string ((kv x).getD noneD).name, .string ((kv x).getD noneD).text, .slice va ((kv x).getD noneD).steps.length vc], .bool (kv x).isSome]) ∧ DefR w' [.string ((kv x).getD noneD).name, .string ((kv x).getD noneD).text, .slice va ((kv x).getD noneD).steps.length vc] ((kv x).getD noneD) va vc ∧ Below w.heap.size w w' := by
  have hsm : SmallD ((kv x).getD noneD) := by
    obtain ⟨g, _, h6⟩ := h.map
    have h7 := h6 x
    cases hk : kv x with
    | none => exact noneD_small
    | some d => rw [hk] at h7; exact h7.1
  have hb1 : Below w.heap.size w (w.alloc (.cells #[.string { data := #[] }, .string { data := #[] }, .slice none 0 0] 24)) := (Below.refl _ w).alloc (Nat.le_refl _) _
  have hg1 := World.alloc_heap_new w (.cells #[.string { data := #[] }, .string { data := #[] }, .slice none 0 0] 24)
  have HGET := Lib.hid (kGet_any (h.below hb1) (x := x) hx)
  have HSM := Lib.hid hsm
  have HB1 := Lib.hid hb1
  have HG1 := Lib.hid hg1
  clear h hsm hb1 hg1
  generalize (kv x).getD noneD = d at *
  generalize (kv x).isSome = is at *
  go_enter Tryz.func26, Tryz.ntmps26
  go_wp2_with fail
  refine HGET.out.mono ?_
  rintro e w2 ⟨va0, vc0, rfl, hd2, hb2⟩
  have h1 := HB1.out.size
  have h2 := hb2.size
  rw [World.size_alloc] at h2
  have hb3 : Below w.heap.size w (w2.alloc (.cells #[.string d.name, .string d.text, .slice va0 d.steps.length vc0] 24)) := (HB1.out.trans (hb2.mono HB1.out.size)).alloc (by omega) _
  have hd3 := hd2.below ((Below.refl _ w2).alloc (Nat.le_refl _) (.cells #[.string d.name, .string d.text, .slice va0 d.steps.length vc0] 24))
  have hg3 : (w2.alloc (.cells #[.string d.name, .string d.text, .slice va0 d.steps.length vc0] 24)).heap[w.heap.size]? = _ := (Below.heap_alloc _ _ _ (by omega)).trans ((hb2.block _ (by simp)).trans HG1.out)
  have HD3 := Lib.hid hd3
  have HB3 := Lib.hid hb3
  have HG3 := Lib.hid hg3
  have HL2 := Lib.hid h2
  clear hd2 hb2 hb3 hd3 hg3 HGET h1 h2
  go_wp2_with fail
  refine (dCopy_any d _ va0 vc0 _ HD3.out HSM.out).mono ?_
  rintro e w5 ⟨va, vc, rows, rfl, hr1, hr2, hr3, hb5⟩
  have hds : DefS w5 _ d va vc := defF_keep HD3.out.name HD3.out.text hr1 hr2 hr3
  have hg5 := (hb5.block _ (Array.getElem?_eq_some_iff.1 HG3.out).1).trans HG3.out
  have HB5 := Lib.hid (bthen HB3.out (Nat.le_refl _) hb5)
  have h3 := set3 (.string d.name) (.string d.text) (.slice va d.steps.length vc) hg5
  have hb7 : Below w.heap.size w (((w5.setCell ⟨w.heap.size, 0, none⟩ (.string d.name)).setCell ⟨w.heap.size, 1, none⟩ (.string d.text)).setCell ⟨w.heap.size, 2, none⟩ (.slice va d.steps.length vc)) := ((HB5.out.setCell (p := ⟨w.heap.size, 0, none⟩) (Nat.le_refl _) _).setCell (p := ⟨w.heap.size, 1, none⟩) (Nat.le_refl _) _).setCell (p := ⟨w.heap.size, 2, none⟩) (Nat.le_refl _) _
  have hd7 := hds (((w5.setCell ⟨w.heap.size, 0, none⟩ (.string d.name)).setCell ⟨w.heap.size, 1, none⟩ (.string d.text)).setCell ⟨w.heap.size, 2, none⟩ (.slice va d.steps.length vc)) (fun j hj _ => by
    rw [World.size_alloc] at hj
    have h2 := HL2.out
    have hne : j ≠ w.heap.size := by omega
    rw [Below.heap_setCell _ _ _ _ hne, Below.heap_setCell _ _ _ _ hne, Below.heap_setCell _ _ _ _ hne])
  obtain ⟨c0, c1, c2, f0, f1, f2⟩ := cells3h hg5
  have HG7 := Lib.hid h3
  have HB7 := Lib.hid hb7
  have HD7 := Lib.hid hd7
  clear hr1 hr2 hr3 hb5 hds h3 hb7 hd7 hg5
  go_wp2_with fail
  refine bodyPost_ret (results_row_tmp rfl _ _ _ w.heap.size 24 #[.string d.name, .string d.text, .slice va d.steps.length vc] (0, 0) _ (.bool is) rfl rfl HG7.out Tryz.underlying24 (by kernel_rfl)) rfl ⟨va, vc, rfl, HD7.out, HB7.out⟩
set_option maxRecDepth 100000 in
theorem bNames_any (h : BookR w B p m most L kv) :
    Calls Tryz.prog 24 #[.pointer (some ⟨p, 0, none⟩)] w fun e w' => ∃ (v : Value) (ns : List ByteArray), e = .returned v ∧ RdS w' v 1 ns.length (strsV ns) ∧ ns.Pairwise (fun a b => a.data.toList < b.data.toList) ∧ (∀ x, x ∈ ns ↔ x ∈ L) ∧ Below w.heap.size w w' := by
  have HN := Lib.hid (kNames_any h)
  clear h
  go_enter Tryz.func24, Tryz.ntmps24
  go_wp2_with fail
  refine HN.out.mono ?_
  rintro e w2 ⟨v, ns, rfl, h1, h2, h3, h4⟩
  have H1 := Lib.hid h1
  have H2 := Lib.hid h2
  have H3 := Lib.hid h3
  have H4 := Lib.hid h4
  clear h1 h2 h3 h4
  go_wp2_with fail
  go_ret
  exact ⟨v, ns, rfl, H1.out, H2.out, H3.out, H4.out⟩
end
end Go.Proofs.YtgfiogjfgbegpaaGreat

/-
  hello.Choose, rescripttop.awakeBook: contracts.
-/
namespace Go.Proofs.YtgfiogjfgbegpaaGreat
open Go Go.RowKit Go.Maps Go.WideShapes

theorem choose_any (w : World) : Calls Tryz.prog 49 #[.int .u64 1, .int .u64 9] w fun e w' => e = .returned (.tuple #[.int .i64 3, .bool true]) ∧ w' = w := by
  go_enter Tryz.func49, Tryz.ntmps49
  go_wp2_with fail
  go_ret2
  exact ⟨rfl, rfl⟩
def dBk : DefD := uniD { data := #[97] } { data := #[120] } 0 0 0 0
theorem dBk_ok : (rightB { data := #[115] } && cleanB dBk) = true := by decide +kernel
theorem rise_one {ns : List ByteArray} {s : ByteArray} (h : ns.Pairwise (fun a b => a.data.toList < b.data.toList)) (hm : ∀ x, x ∈ ns ↔ x ∈ [s]) : ns = [s] := by
  match ns, h, hm with
  | [], _, hm => exact absurd ((hm s).2 (by simp)) (by simp)
  | [a], _, hm => rw [List.mem_singleton.1 ((hm a).1 (by simp))]
  | a :: b :: t, h, hm =>
    have ha := List.mem_singleton.1 ((hm a).1 (by simp))
    have hb := List.mem_singleton.1 ((hm b).1 (by simp))
    have h1 := List.rel_of_pairwise_cons h (a' := b) (by simp)
    rw [ha, hb] at h1
    exact absurd h1 (List.lt_irrefl _)
set_option maxRecDepth 100000 in
set_option maxHeartbeats 4000000 in
theorem awakeBook_any (w : World) : Calls Tryz.prog 21 #[] w fun e w' => e = .returned (.bool true) ∧ Below w.heap.size w w' := by
  have hbk := bookNew 1 w
  have hb2 : Below w.heap.size w ((w.alloc (.map #[] 0)).alloc (.cells #[.int .i64 1, .map (some w.heap.size)] 112)) := ((Below.refl _ w).alloc (Nat.le_refl _) _).alloc (by simp) _
  go_enter Tryz.func21, Tryz.ntmps21
  go_wp2_with fail
  refine (NewBook_any 1 (.inl rfl) _).mono ?_
  rintro e w2 ⟨rfl, he⟩
  rw [← he] at hbk hb2
  have HBK := Lib.hid hbk
  have HB2 := Lib.hid hb2
  clear hbk hb2 he
  go_wp2_with fail
  refine (choose_any _).mono ?_
  rintro e w3 ⟨rfl, h⟩
  obtain rfl := h.symm
  have hb3 : Below w2.heap.size w2 (w2.alloc (.cells #[.string { data := #[97] }, .string { data := #[120] }, .string { data := #[] }, .slice none 0 0, .int .i64 0, .int .i64 0, .int .i64 0, .int .i64 0, .int .u8 0, .string { data := #[] }, .slice none 0 0, .slice none 0 0, .int .i64 0] 47)) := (Below.refl _ _).alloc (Nat.le_refl _) _
  have g0 := World.alloc_heap_new w2 (.cells #[.string { data := #[97] }, .string { data := #[120] }, .string { data := #[] }, .slice none 0 0, .int .i64 0, .int .i64 0, .int .i64 0, .int .i64 0, .int .u8 0, .string { data := #[] }, .slice none 0 0, .slice none 0 0, .int .i64 0] 47)
  have HD := Lib.hid (uniD_r (W := (w2.alloc (.cells #[.string { data := #[97] }, .string { data := #[120] }, .string { data := #[] }, .slice none 0 0, .int .i64 0, .int .i64 0, .int .i64 0, .int .i64 0, .int .u8 0, .string { data := #[] }, .slice none 0 0, .slice none 0 0, .int .i64 0] 47))) (name := { data := #[97] }) (act := { data := #[120] }) (m := 0) (f := 0) (k := 0) (l := 0) (by decide) (by decide) (by unfold I64w; decide) (by unfold I64w; decide) (by unfold I64w; decide) (by unfold I64w; decide) g0)
  have HBK3 := Lib.hid (HBK.out.below hb3)
  have HB3 := Lib.hid (bthen HB2.out (Nat.le_refl _) hb3)
  clear hb3 g0
  go_wp2_with fail
  refine (bPut_any HBK3.out (by decide) (by decide) (x := { data := #[115] }) (by decide) (d := dBk) HD.out (uniD_small (by decide) (by decide)) rfl).mono ?_
  rintro e w4 ⟨er, rfl, he, hbk4, hch4⟩
  cases he dBk_ok
  have hL : bkL [] { data := #[115] } dBk = [{ data := #[115] }] := by
    unfold bkL
    rw [if_pos dBk_ok]
    rfl
  rw [hL] at hbk4
  have HBK4 := Lib.hid hbk4
  have HB4 := Lib.hid (Below.trans HB3.out (hch4.below (B := w.heap.size) (fun j hj => by rw [hj]; exact Nat.le_refl _) HB3.out.size))
  clear hbk4 hch4 hL
  go_wp2_with fail
  refine (bNames_any HBK4.out).mono ?_
  rintro e w5 ⟨v, ns, rfl, h1, h2, h3, h4⟩
  cases rise_one h2 h3
  obtain ⟨a, cap, rfl⟩ := h1.form
  have HB5 := Lib.hid (bthen HB4.out (Nat.le_refl _) h4)
  clear h1 h2 h3 h4
  go_wp2_with fail
  go_ret
  exact ⟨rfl, HB5.out⟩
end Go.Proofs.YtgfiogjfgbegpaaGreat

/-
  Rows of definitions and names that came in; the plain law of books: what was put in whatever order stands as it was.
-/
namespace Go.Proofs.YtgfiogjfgbegpaaGreat
open Go Go.RowKit Go.ChangeShapes Go.WideShapes Go.ChangeAt

def DefsR (w : World) (v : Value) (l : List DefD) : Prop := ∃ rows : List (List Value), rows.length = l.length ∧ RdS w v 3 l.length rows.flatten ∧ ∀ (i : Nat) (r : List Value) (d : DefD), rows[i]? = some r → l[i]? = some d → ∃ sa sc, DefR w r d sa sc
theorem DefsR.below {w w' : World} {v : Value} {l : List DefD} (h : DefsR w v l) (hb : Below w.heap.size w w') : DefsR w' v l := by
  obtain ⟨rows, h1, h2, h3⟩ := h
  exact ⟨rows, h1, h2.below hb, fun i r s hr hs => by
    obtain ⟨sa, sc, h⟩ := h3 i r s hr hs
    exact ⟨sa, sc, h.below hb⟩⟩
theorem DefsR.form {w : World} {v : Value} {l : List DefD} (h : DefsR w v l) : ∃ a c, v = .slice a l.length c := by
  obtain ⟨rows, _, h2, _⟩ := h
  exact h2.form
theorem DefsR.at {w : World} {v : Value} {l : List DefD} (h : DefsR w v l) {i : Nat} (hi : i < l.length) :
    ∃ g off cap sa sc, v = .slice (some ⟨g, off, none⟩) l.length cap ∧ l.length ≤ cap ∧ cap ≤ 9223372036854775807 ∧ DefR w [.string l[i].name, .string l[i].text, .slice sa l[i].steps.length sc] l[i] sa sc ∧
      w.cell? ⟨g, off + i * 3, none⟩ = some (.string l[i].name) ∧ w.cell? ⟨g, off + i * 3 + 1, none⟩ = some (.string l[i].text) ∧ w.cell? ⟨g, off + i * 3 + 2, none⟩ = some (.slice sa l[i].steps.length sc) := by
  obtain ⟨rows, h1, h2, h3⟩ := h
  have hri : i < rows.length := by omega
  obtain ⟨sa, sc, hn⟩ := h3 i _ _ (List.getElem?_eq_getElem hri) (List.getElem?_eq_getElem hi)
  have hm : ∀ r ∈ rows, r.length = 3 := by
    intro r hr
    obtain ⟨j, hj, rfl⟩ := List.getElem_of_mem hr
    obtain ⟨_, _, hd⟩ := h3 j _ _ (List.getElem?_eq_getElem hj) (List.getElem?_eq_getElem (by omega))
    rw [hd.eq]
    rfl
  have hf := (flatten_get hm).2 i _ (List.getElem?_eq_getElem hri)
  have hrow := hn.eq
  rw [hrow] at hf hn
  rcases h2.cases (by decide) with ⟨h0, _⟩ | ⟨hn0, _, g, off, cap, rfl, q1, q2, q3⟩
  · omega
  · have gg : ∀ j c, j < 3 → [Value.string l[i].name, .string l[i].text, .slice sa l[i].steps.length sc][j]? = some c → w.cell? ⟨g, off + i * 3 + j, none⟩ = some c := fun j c hj hc => by
      rw [Nat.add_assoc]
      exact q3 _ _ ((hf j hj).trans hc)
    exact ⟨g, off, cap, sa, sc, rfl, q1, q2, hn, gg 0 _ (by omega) rfl, gg 1 _ (by omega) rfl, gg 2 _ (by omega) rfl⟩
set_option maxRecDepth 100000 in
theorem open_defsR {H : Type} {enc : TypeId × Value → H} {W : World} {base : Nat} {v : Value} {d : DataW H} {ps : List MemPlace} (hv : Value.okWide Tryz.prog W .any base 62 v) (h : DataW.Trod enc Tryz.prog W 0 (fun _ => true) true 62 v d ps) :
    ∃ l : List DefD, DefsR W v l := by
  obtain ⟨n, C, hC, hr⟩ := open_rowsR (m := 3) Tryz.underlying62 (by kernel_rfl) (by decide) hv h
  have hx : ∀ i, i < n → ∃ d : DefD, ∃ sa sc, DefR W (C i) d sa sc := fun i hi => by
    obtain ⟨_, f, y', hy'⟩ := hC i hi
    exact open_defF hy'
  obtain ⟨g, hg⟩ := Go.Deep.choose_lt hx
  rw [flat_rows] at hr
  refine ⟨(List.range n).map g, (List.range n).map C, by simp, by simpa using hr, fun i r s hri hs => ?_⟩
  obtain ⟨h1, rfl⟩ := rows_get hri
  rw [List.getElem?_map, List.getElem?_range h1] at hs
  cases hs
  exact hg i h1
set_option maxRecDepth 100000 in
theorem open_wordsR {H : Type} {enc : TypeId × Value → H} {W : World} {base : Nat} {v : Value} {d : DataW H} {ps : List MemPlace} (hv : Value.okWide Tryz.prog W .any base 40 v) (h : DataW.Trod enc Tryz.prog W 0 (fun _ => true) true 40 v d ps) :
    ∃ l : List ByteArray, (∀ s ∈ l, s.size ≤ maxLen) ∧ RdS W v 1 l.length (strsV l) := by
  obtain ⟨n, C, hC, hr⟩ := open_rowsR (m := 1) Tryz.underlying40 (by kernel_rfl) (by decide) hv h
  obtain ⟨l, hl, hp, hf⟩ := rows_of (f := fun s : ByteArray => [Value.string s]) (p := fun s => s.size ≤ maxLen) (C := C) (n := n) (fun i hi => by
    obtain ⟨_, f, y, hy⟩ := hC i hi
    obtain ⟨s, e, _, hs⟩ := DataW.trod_string Tryz.underlying9 hy
    exact ⟨s, hs, e⟩)
  refine ⟨l, hp, ?_⟩
  rw [hf, show l.flatMap (fun s => [Value.string s]) = strsV l from (List.map_eq_flatMap).symm] at hr
  rw [hl]
  exact hr
def okP (q : ByteArray × DefD) : Bool := rightB q.1 && cleanB q.2
def bookedL (xs : List (ByteArray × DefD)) : List ByteArray := (xs.filter okP).map (·.1)
def bookedF (xs : List (ByteArray × DefD)) (x : ByteArray) : Option DefD := ((xs.filter okP).find? (fun q => decide (q.1 = x))).map (·.2)
theorem bookedL_le (xs : List (ByteArray × DefD)) : (bookedL xs).length ≤ xs.length := by
  unfold bookedL
  rw [List.length_map]
  exact List.length_filter_le _ _
theorem bookedF_none {xs : List (ByteArray × DefD)} {x : ByteArray} (h : ∀ q ∈ xs, q.1 ≠ x) : bookedF xs x = none := by
  unfold bookedF
  rw [List.find?_eq_none.2 (fun q hq => by simpa using h q (List.mem_filter.1 hq).1)]
  rfl
theorem bookedL_snoc (xs : List (ByteArray × DefD)) (q : ByteArray × DefD) : bookedL (xs ++ [q]) = bkL (bookedL xs) q.1 q.2 := by
  unfold bookedL bkL
  rw [List.filter_append]
  by_cases h : (rightB q.1 && cleanB q.2) = true
  · rw [if_pos h, List.filter_cons_of_pos (by exact h)]
    simp
  · rw [if_neg h, List.filter_cons_of_neg (by exact h)]
    simp
theorem bookedF_snoc (xs : List (ByteArray × DefD)) (q : ByteArray × DefD) (h : ∀ r ∈ xs, r.1 ≠ q.1) : bookedF (xs ++ [q]) = bkF (bookedF xs) q.1 q.2 := by
  funext x
  unfold bkF
  by_cases hok : (rightB q.1 && cleanB q.2) = true
  · rw [if_pos hok]
    unfold bookedF
    rw [List.filter_append, List.filter_cons_of_pos (by exact hok), List.filter_nil, List.find?_append]
    by_cases e : x = q.1
    · subst e
      rw [if_pos rfl, List.find?_eq_none.2 (fun r hr => by simpa using h r (List.mem_filter.1 hr).1)]
      simp
    · rw [if_neg e, List.find?_cons_of_neg (by simpa using fun h => e h.symm)]
      simp
  · rw [if_neg hok]
    unfold bookedF
    rw [List.filter_append, List.filter_cons_of_neg (by exact hok)]
    simp
theorem bookedF_at : ∀ {xs : List (ByteArray × DefD)}, (xs.map (·.1)).Nodup → ∀ q ∈ xs, bookedF xs q.1 = if okP q then some q.2 else none
  | [], _, _, h => by cases h
  | r :: xs, hn, q, hq => by
    rw [List.map_cons, List.nodup_cons] at hn
    rcases List.mem_cons.1 hq with rfl | hq
    · unfold bookedF
      by_cases hok : okP q = true
      · rw [List.filter_cons_of_pos hok, if_pos hok]
        simp
      · rw [List.filter_cons_of_neg hok, if_neg hok, List.find?_eq_none.2 (fun s hs => by
          have h1 := (List.mem_filter.1 hs).1
          simpa using fun e => hn.1 (List.mem_map.2 ⟨s, h1, e⟩))]
        rfl
    · have ih := bookedF_at hn.2 q hq
      rw [← ih]
      have hne : r.1 ≠ q.1 := fun e => hn.1 (List.mem_map.2 ⟨q, hq, e.symm⟩)
      unfold bookedF
      by_cases hok : okP r = true
      · rw [List.filter_cons_of_pos hok, List.find?_cons_of_neg (by simpa using hne)]
      · rw [List.filter_cons_of_neg hok]
theorem bookedL_mem {xs : List (ByteArray × DefD)} {x : ByteArray} : x ∈ bookedL xs ↔ ∃ q ∈ xs, okP q = true ∧ q.1 = x := by
  unfold bookedL
  simp [List.mem_filter, and_assoc]
theorem take_booked {P : List (ByteArray × DefD)} (hn : (P.map (·.1)).Nodup) {t : Nat} (h : t < P.length) :
    bookedF (P.take t) P[t].1 = none ∧ bkL (bookedL (P.take t)) P[t].1 P[t].2 = bookedL (P.take (t + 1)) ∧ bkF (bookedF (P.take t)) P[t].1 P[t].2 = bookedF (P.take (t + 1)) ∧ (bookedL (P.take t)).length ≤ t := by
  have hne : ∀ q ∈ P.take t, q.1 ≠ P[t].1 := fun q hq e => by
    obtain ⟨j, hj, rfl⟩ := List.getElem_of_mem hq
    rw [List.length_take] at hj
    rw [List.getElem_take] at e
    have h1 : (P.map (·.1))[j]'(by rw [List.length_map]; omega) = (P.map (·.1))[t]'(by rw [List.length_map]; omega) := by
      rw [List.getElem_map, List.getElem_map]
      exact e
    have := (List.getElem_inj hn).1 h1
    omega
  have ht : P.take (t + 1) = P.take t ++ [P[t]] := List.take_succ_eq_append_getElem h
  refine ⟨bookedF_none hne, ?_, ?_, ?_⟩
  · rw [ht, bookedL_snoc]
  · rw [ht, bookedF_snoc _ _ hne]
  · have := bookedL_le (P.take t)
    rw [List.length_take] at this
    omega
theorem rise_uniq : ∀ {ns ms : List ByteArray}, ns.Pairwise (fun a b => a.data.toList < b.data.toList) → ms.Pairwise (fun a b => a.data.toList < b.data.toList) → (∀ x, x ∈ ns ↔ x ∈ ms) → ns = ms
  | [], [], _, _, _ => rfl
  | [], b :: ms, _, _, h => by have := (h b).2 (by simp); cases this
  | a :: ns, [], _, _, h => by have := (h a).1 (by simp); cases this
  | a :: ns, b :: ms, h1, h2, h => by
    rw [List.pairwise_cons] at h1 h2
    have hab : a = b := by
      rcases List.mem_cons.1 ((h a).1 (by simp)) with e | e
      · exact e
      · rcases List.mem_cons.1 ((h b).2 (by simp)) with e2 | e2
        · exact e2.symm
        · exact absurd (List.lt_trans (h2.1 a e) (h1.1 b e2)) (List.lt_irrefl _)
    subst hab
    rw [rise_uniq h1.2 h2.2 (fun x => ⟨fun hx => ?_, fun hx => ?_⟩)]
    · rcases List.mem_cons.1 ((h x).1 (List.mem_cons_of_mem _ hx)) with e | e
      · subst e; exact absurd (h1.1 x hx) (List.lt_irrefl _)
      · exact e
    · rcases List.mem_cons.1 ((h x).2 (List.mem_cons_of_mem _ hx)) with e | e
      · subst e; exact absurd (h2.1 x hx) (List.lt_irrefl _)
      · exact e
theorem BookR.raise {w : World} {B B' p m : Nat} {most : Int} (h : BookR w B p m most [] (fun _ => none)) (hB : B ≤ B') (h' : B' ≤ w.heap.size) : BookR w B' p m most [] (fun _ => none) := by
  obtain ⟨h1, h2, h3, h4, ⟨g, h5, h6⟩, h7, h8⟩ := h
  exact ⟨h1, by omega, by omega, h', ⟨g, h5, fun x => h6 x⟩, h7, h8⟩
theorem BookR.other {w w' : World} {B p m m' : Nat} {most : Int} {L : List ByteArray} {kv : ByteArray → Option DefD} (h : BookR w B p m most L kv) (hc : Chg (fun j => j = m') w w') (h1 : m' ≠ p) (h2 : m' ≠ m) (h3 : m' < B) : BookR w' B p m most L kv :=
  h.keep hc.size (fun j hj hq => hc.block j hj (fun e => by rcases hq with q | q | q <;> omega))
end Go.Proofs.YtgfiogjfgbegpaaGreat

/-
  WholeBook: the law's walk.
-/
namespace Go.Proofs.YtgfiogjfgbegpaaGreat
open Go Go.RowKit Go.Maps Go.WideShapes

theorem twoBooks {w w3 w4 : World} (h3 : w3 = (w.alloc (.map #[] 0)).alloc (.cells #[.int .i64 12, .map (some w.heap.size)] 112)) (h4 : w4 = (w3.alloc (.map #[] 0)).alloc (.cells #[.int .i64 12, .map (some w3.heap.size)] 112)) :
    BookR w4 w4.heap.size (w.heap.size + 1) w.heap.size 12 [] (fun _ => none) ∧ BookR w4 w4.heap.size (w3.heap.size + 1) w3.heap.size 12 [] (fun _ => none) ∧ w.heap.size ≠ w3.heap.size ∧ w.heap.size ≠ w3.heap.size + 1 ∧ w3.heap.size ≠ w.heap.size + 1 ∧ Below w.heap.size w w4 ∧ w.heap.size ≤ w3.heap.size ∧ w3.heap.size < w4.heap.size := by
  have k3 : w3.heap.size = w.heap.size + 2 := by rw [h3]; simp
  have k4 : w4.heap.size = w3.heap.size + 2 := by rw [h4]; simp
  have b3 : Below w.heap.size w w3 := by rw [h3]; exact ((Below.refl _ w).alloc (Nat.le_refl _) _).alloc (by simp) _
  have b4 : Below w3.heap.size w3 w4 := by rw [h4]; exact ((Below.refl _ w3).alloc (Nat.le_refl _) _).alloc (by simp) _
  have a3 := bookNew 12 w
  have a4 := bookNew 12 w3
  rw [← h3] at a3
  rw [← h4] at a4
  exact ⟨(a3.below b4).raise (by omega) (Nat.le_refl _), a4.raise (by omega) (Nat.le_refl _), by omega, by omega, by omega, bthen b3 (Nat.le_refl _) b4, by omega, by omega⟩
set_option maxRecDepth 100000 in
set_option maxHeartbeats 8000000 in
theorem WholeBook_any (l : List DefD) (v : Value) (ks : List ByteArray) (u : Value) (w : World) (hv : DefsR w v l) (_hks : ∀ s ∈ ks, s.size ≤ maxLen) (hk : RdS w u 1 ks.length (strsV ks)) :
    Calls Tryz.prog 6 #[v, u] w fun e w' => e = .returned (.bool true) ∧ Below w.heap.size w w' := by
  have HV := Lib.hid hv
  have HK := Lib.hid hk
  have hl63 : l.length ≤ 9223372036854775807 := by
    obtain ⟨rows, _, h2, _⟩ := hv
    exact rds_len2 h2
  have hk63 := rds_len2 hk
  obtain ⟨a, cap, rfl⟩ := hv.form
  obtain ⟨b, cap2, rfl⟩ := hk.form
  clear hv hk
  go_enter Tryz.func6, Tryz.ntmps6
  go_wp2_with fail
  refine (awakeBook_any _).mono ?_
  rintro e w1 ⟨rfl, hb1⟩
  have HB1 := Lib.hid hb1
  clear hb1
  by_cases h12 : 12 < l.length
  · have d1 : decide ((12 : Int) < (l.length : Int)) = true := decide_eq_true (by omega)
    go_wp2_with fail
    go_ret
    exact ⟨rfl, HB1.out⟩
  have d1 : decide ((12 : Int) < (l.length : Int)) = false := decide_eq_false (by omega)
  by_cases hkl : ks.length < l.length
  · have d2 : decide ((ks.length : Int) < (l.length : Int)) = true := decide_eq_true (by omega)
    go_wp2_with fail
    go_ret
    exact ⟨rfl, HB1.out⟩
  have d2 : decide ((ks.length : Int) < (l.length : Int)) = false := decide_eq_false (by omega)
  go_wp2_with fail
  clear d1 d2
  go_loopw [5] (fun i wr => ∃ t : Nat, t ≤ l.length ∧ i = .int .i64 t ∧ Hid (∀ j (hj : j < l.length), j < t → SmallD l[j] ∧ (ks[j]'(by omega)).size ≤ 100 ∧ ∀ k (hkj : k < j), ks[k]'(by omega) ≠ ks[j]'(by omega)) ∧ Hid (Below w.heap.size w wr)) (fun i _ => l.length - (intOf i).toNat)
  case atStart => exact ⟨0, by omega, rfl, Lib.hid (fun j _ hj => by omega), HB1⟩
  case round =>
    obtain ⟨t, ht, rfl, HP, HB⟩ := hrel
    by_cases hlt : t < l.length
    · have hlt2 : t < ks.length := by omega
      obtain ⟨g, off, cap', sa, sc, he, q1, q2, hd, c0, c1, c2⟩ := (HV.out.below HB.out).at hlt
      cases he
      obtain ⟨g2, off2, rfl, q3, q4, c3⟩ := strs_at (HK.out.below HB.out) hlt2
      have hk0 : (0 : Int) ≤ (t : Int) := by omega
      have hk1 : (t : Int) < (l.length : Int) := by omega
      have hk2 : (t : Int) < (ks.length : Int) := by omega
      have HD := Lib.hid hd
      have HC3 := Lib.hid c3
      clear hd
      go_wp2_with fail
      refine (rdSmall_any l[t] _ sa sc _ HD.out).mono ?_
      rintro e w5 ⟨rfl, hb5⟩
      have HB5 := Lib.hid (bthen HB.out (Nat.le_refl _) hb5)
      have c4 := cellB hb5 HC3.out
      clear hb5 c0 c1 c2 c3
      rcases hsm : smallDef l[t] with _ | _
      · go_wp2_with fail
        go_ret
        exact ⟨rfl, HB5.out⟩
      have HSM := Lib.hid (smallDef_of hsm)
      clear hsm
      generalize hkt : ks[t] = kt at *
      by_cases hsz : kt.size ≤ 100
      · have d3 : decide ((100 : Int) < (kt.size : Int)) = false := decide_eq_false (by omega)
        have hsz2 := hsz
        clear hsz
        go_wp2_with fail
        clear d3
        go_loopw [6] (fun i wi => ∃ u : Nat, u ≤ t ∧ i = .int .i64 u ∧ Hid (∀ k (hk : k < t), k < u → ks[k]'(by omega) ≠ kt) ∧ Hid (Below w.heap.size w wi)) (fun i _ => t - (intOf i).toNat)
        case atStart => exact ⟨0, by omega, rfl, Lib.hid (fun k _ hk => by omega), HB5⟩
        case round =>
          obtain ⟨u, hu, rfl, HU, HBI⟩ := hrel
          rename World => wi
          by_cases hut : u < t
          · obtain ⟨g3, off3, he3, -, -, c5⟩ := strs_at (HK.out.below HBI.out) (show u < ks.length by omega)
            cases he3
            obtain ⟨g4, off4, he4, -, -, c6⟩ := strs_at (HK.out.below HBI.out) hlt2
            cases he4
            have hu0 : (0 : Int) ≤ (u : Int) := by omega
            have hu1 : (u : Int) < (t : Int) := by omega
            have hu2 : (u : Int) < (ks.length : Int) := by omega
            have HUN := Lib.hid (show ∀ (hne : ks[u]'(show u < ks.length by omega) ≠ kt), ∀ k (hk : k < t), k < u + 1 → ks[k]'(by omega) ≠ kt from fun hne k hk hku => by
              rcases Nat.lt_or_eq_of_le (Nat.le_of_lt_succ hku) with h | h
              · exact HU.out k hk h
              · subst h; exact hne)
            rw [hkt] at c6
            generalize ks[u]'(show u < ks.length by omega) = ku at *
            by_cases hee : ku = kt
            · have hq := beqS_yes hee
              clear hee HUN
              go_wp2_with fail
              go_quiet (fail)
              go_wp2_with fail
              go_ret
              exact ⟨rfl, belowN HBI.out nq⟩
            · have hq := beqS_no hee
              have HUN2 := Lib.hid (HUN.out hee)
              clear hee HUN
              go_wp2_with fail
              go_quiet (fail)
              go_wp2_with fail
              go_roundw
              case rel => exact ⟨u + 1, by omega, by go_num, HUN2, Lib.hid (belowN HBI.out nq)⟩
              case measure => simp [intOf]; omega
          · have hut2 : u = t := by omega
            subst hut2
            have d4 : decide ((u : Int) < (u : Int)) = false := decide_eq_false (by omega)
            have HPN := Lib.hid (show ∀ j (hj : j < l.length), j < u + 1 → SmallD l[j] ∧ (ks[j]'(by omega)).size ≤ 100 ∧ ∀ k (hkj : k < j), ks[k]'(by omega) ≠ ks[j]'(by omega) from fun j hj hju => by
              rcases Nat.lt_or_eq_of_le (Nat.le_of_lt_succ hju) with h | h
              · exact HP.out j hj h
              · subst h
                exact ⟨HSM.out, by rw [hkt]; exact hsz2, fun k hkj => by rw [hkt]; exact HU.out k hkj hkj⟩)
            go_wp2_with fail
            go_roundw
            case rel => exact ⟨u + 1, by omega, by go_num, HPN, HBI⟩
            case measure => simp [intOf]; omega
      · have d3 : decide ((100 : Int) < (kt.size : Int)) = true := decide_eq_true (by omega)
        go_wp2_with fail
        go_ret
        exact ⟨rfl, HB5.out⟩
    · have d3 : decide ((t : Int) < (l.length : Int)) = false := decide_eq_false (by omega)
      go_wp2_with fail
      have htl : t = l.length := by omega
      subst htl
      have HPP := Lib.hid HP.out
      clear HP d3 hlt ht
      refine (NewBook_any 12 (.inr rfl) _).mono ?_
      rintro e w3 ⟨rfl, he3⟩
      have HE3 := Lib.hid he3
      clear he3
      go_wp2_with fail
      refine (NewBook_any 12 (.inr rfl) _).mono ?_
      rintro e w4 ⟨rfl, he4⟩
      obtain ⟨hA, hB, hn1, hn2, hn3, hw4, hw5, hw6⟩ := twoBooks HE3.out he4
      have HBA0 := Lib.hid hA
      have HBB0 := Lib.hid hB
      have HB4 := Lib.hid (bthen HB.out (Nat.le_refl _) hw4)
      have HMA := Lib.hid (show w.heap.size ≤ wr.heap.size from HB.out.size)
      have HMB := Lib.hid (show w.heap.size ≤ w3.heap.size from Nat.le_trans HB.out.size hw5)
      clear hA hB hw4 HE3 he4
      generalize wr.heap.size + 1 = pa at *
      generalize wr.heap.size = ma at *
      generalize w3.heap.size + 1 = pb at *
      generalize w3.heap.size = mb at *
      have hw7 := HBA0.out.hB
      generalize hBq : w4.heap.size = B at *
      clear hBq hw7
      obtain ⟨P, hP⟩ : ∃ P, P = ks.zip l := ⟨_, rfl⟩
      have hPL : P.length = l.length := by rw [hP, List.length_zip]; omega
      have hPA : ∀ j (hj : j < l.length), P[j]'(by omega) = (ks[j]'(by omega), l[j]) := fun j hj => by subst hP; exact List.getElem_zip
      have hPN : (P.map (·.1)).Nodup := by
        refine List.pairwise_iff_getElem.2 (fun i j hi hj hij => ?_)
        rw [List.length_map] at hi hj
        rw [List.getElem_map, List.getElem_map, hPA i (by omega), hPA j (by omega)]
        exact (HPP.out j (by omega) (by omega)).2.2 i hij
      have hQN : (P.reverse.map (·.1)).Nodup := by rw [List.map_reverse]; exact (List.reverse_perm _).nodup_iff.2 hPN
      have hQA : ∀ j (hj : j < l.length), P.reverse[j]'(by rw [List.length_reverse]; omega) = (ks[l.length - 1 - j]'(by omega), l[l.length - 1 - j]'(by omega)) := fun j hj => by
        rw [List.getElem_reverse]
        have := hPA (l.length - 1 - j) (by omega)
        simpa only [hPL] using this
      have hQL : P.reverse.length = l.length := by rw [List.length_reverse, hPL]
      have HPN := Lib.hid hPN
      have HQN := Lib.hid hQN
      have HPA := Lib.hid hPA
      have HQA := Lib.hid hQA
      have HPL := Lib.hid hPL
      have HQL := Lib.hid hQL
      have HMM := Lib.hid (show ma < B ∧ mb < B from ⟨by omega, hw6⟩)
      have HNE := Lib.hid (show ma ≠ mb ∧ ma ≠ pb ∧ mb ≠ pa from ⟨hn1, hn2, hn3⟩)
      clear hP hPN hQN hPA hQA hn1 hn2 hn3 hw5 hw6 HB
      go_wp2_with fail
      go_loopw [9] (fun i wr => ∃ t : Nat, t ≤ l.length ∧ i = .int .i64 t ∧ Hid (BookR wr B pa ma 12 (bookedL (P.take t)) (bookedF (P.take t))) ∧ Hid (BookR wr B pb mb 12 (bookedL (P.reverse.take t)) (bookedF (P.reverse.take t))) ∧ Hid (Below w.heap.size w wr)) (fun i _ => l.length - (intOf i).toNat)
      case atStart => exact ⟨0, by omega, rfl, HBA0, HBB0, HB4⟩
      case round =>
        obtain ⟨t, ht, rfl, HBA, HBB, HB⟩ := hrel
        rename World => wr
        by_cases hlt : t < l.length
        · have hlt2 : t < ks.length := by omega
          obtain ⟨g, off, cap', sa, sc, he, -, -, hd, c0, c1, c2⟩ := (HV.out.below HB.out).at (show t < l.length by omega)
          cases he
          obtain ⟨g2, off2, he2, -, -, c3⟩ := strs_at (HK.out.below HB.out) (show t < ks.length by omega)
          cases he2
          have htb := take_booked HPN.out (t := t) (by omega)
          rw [HPA.out t hlt] at htb
          dsimp only at htb
          obtain ⟨tb1, tb2, tb3, tb4⟩ := htb
          have HTB := Lib.hid (And.intro tb1 (show ((bookedL (P.take t)).length : Int) < 12 by omega))
          have HT1 := Lib.hid tb2
          have HT2 := Lib.hid tb3
          have hsq := HPP.out (t) (by omega) (by omega)
          have HSM := Lib.hid hsq.1
          have HSZ := Lib.hid (show (ks[t]'(by omega)).size ≤ 200 by have := hsq.2.1; omega)
          have HD := Lib.hid hd
          have hk0 : (0 : Int) ≤ (t : Int) := by omega
          have hk1 : (t : Int) < (l.length : Int) := by omega
          have hk2 : (t : Int) < (ks.length : Int) := by omega
          clear tb1 tb2 tb3 tb4 hsq hd
          generalize l[t]'(by omega) = dq at *
          generalize ks[t]'(by omega) = xq at *
          go_upto_region 19 with fail
          refine E_region (S := (fun W => W.cell? ⟨g, off + t * 3, none⟩ = some (.string dq.name) ∧ W.cell? ⟨g, off + t * 3 + 1, none⟩ = some (.string dq.text) ∧ W.cell? ⟨g, off + t * 3 + 2, none⟩ = some (.slice sa dq.steps.length sc) ∧ W.cell? ⟨g2, off2 + t, none⟩ = some (.string xq))) 9 (by kernel_rfl) ⟨c0, c1, c2, c3⟩ (fun _ _ _ _ _ h => h) (fun Q' hQ hK' hHeld => ?_)
          refine E_take0 hQ (fun _ => hHeld) 0 (v := ?rav1) rfl rfl (by kernel_rfl) (by kernel_rfl) (by kernel_rfl) (by decide) (by rfl) ?ray1 ?rar1
          case ray1 => (intro w; go_simp; (try with_reducible rfl))
          (try simp only [layE])
          refine E_take0 hQ (fun _ => hHeld) 1 (v := ?rav2) rfl rfl (by kernel_rfl) (by kernel_rfl) (by kernel_rfl) (by decide) (by rfl) ?ray2 ?rar2
          case ray2 => (intro w; go_simp; (try with_reducible rfl))
          (try simp only [layE])
          refine E_take0 hQ (fun _ => hHeld) 2 (v := ?rav3) rfl rfl (by kernel_rfl) (by kernel_rfl) (by kernel_rfl) (by decide) (by rfl) ?ray3 ?rar3
          case ray3 => (intro w; go_simp; (try with_reducible rfl))
          (try simp only [layE])
          refine E_take0 hQ (fun _ => hHeld) 3 (v := ?rav4) rfl rfl (by kernel_rfl) (by kernel_rfl) (by kernel_rfl) (by decide) (by rfl) ?ray4 ?rar4
          case ray4 => (intro w; go_simp; (try with_reducible rfl))
          (try simp only [layE])
          refine E_take hQ hHeld 4 (v := ?rav5) rfl rfl (by kernel_rfl) (by kernel_rfl) (by kernel_rfl) (by kernel_rfl) (by kernel_rfl) (by rfl) ?ray5 ?rar5
          case ray5 => (intro w hSw; (try dsimp only at hSw); go_simp; (try with_reducible rfl))
          (try simp only [layE])
          refine E_take0 hQ (fun _ => hHeld) 5 (v := ?rav6) rfl rfl (by kernel_rfl) (by kernel_rfl) (by kernel_rfl) (by decide) (by rfl) ?ray6 ?rar6
          case ray6 => (intro w; go_simp; (try with_reducible rfl))
          (try simp only [layE])
          refine E_take0 hQ (fun _ => hHeld) 6 (v := ?rav7) rfl rfl (by kernel_rfl) (by kernel_rfl) (by kernel_rfl) (by decide) (by rfl) ?ray7 ?rar7
          case ray7 => (intro w; go_simp; (try with_reducible rfl))
          (try simp only [layE])
          refine E_take0 hQ (fun _ => hHeld) 7 (v := ?rav8) rfl rfl (by kernel_rfl) (by kernel_rfl) (by kernel_rfl) (by decide) (by rfl) ?ray8 ?rar8
          case ray8 => (intro w; go_simp; (try with_reducible rfl))
          (try simp only [layE])
          refine E_take hQ hHeld 8 (v := ?rav9) rfl rfl (by kernel_rfl) (by kernel_rfl) (by kernel_rfl) (by kernel_rfl) (by kernel_rfl) (by rfl) ?ray9 ?rar9
          case ray9 => (intro w hSw; (try dsimp only at hSw); go_simp; (try with_reducible rfl))
          (try simp only [layE])
          refine E_one 9 (by kernel_rfl) rfl (by rfl) (fun K hK => ?_)
          go_simp
          refine (bPut_any (HBA.out.below (Below.refl wr.heap.size wr).drew) HTB.out.2 (by decide) HSZ.out (HD.out.below (Below.refl wr.heap.size wr).drew) HSM.out HTB.out.1).mono ?_
          rintro e w5 ⟨er, rfl, -, hbk, hch⟩
          rw [HT1.out] at hbk
          rw [HT2.out] at hbk
          have HBA5 := Lib.hid hbk
          have HBB5 := Lib.hid ((HBB.out.below (Below.refl wr.heap.size wr).drew).other hch HNE.out.2.1 HNE.out.1 HMM.out.1)
          have HB5 := Lib.hid (HB.out.drew.trans (hch.below (B := w.heap.size) (fun j hj => by rw [hj]; exact HMA.out) HB.out.size))
          clear hbk hch
          (skip)
          refine hK.out _ _ (fun _ h => absurd rfl h) (fun _ => ?_)
          clear hK hHeld
          (try simp only [layE])
          refine E_done (by kernel_rfl) ?_ _
          refine hK'.out _ _ ?_
          clear hK' hQ c0 c1 c2 c3 HTB HT1 HT2 HD HSM HSZ hk0 hk1 hk2
          have hk1 : (t : Int) < (l.length : Int) := by omega
          go_upto_region 21 with fail
          obtain ⟨q, hq⟩ : ∃ q, q = l.length - 1 - t := ⟨_, rfl⟩
          have hql : q < l.length := by omega
          have hqi : (l.length : Int) - 1 - (t : Int) = (q : Int) := by omega
          rw [hqi]
          clear hqi hk1
          have hqk : q < ks.length := by omega
          have hqr : t < P.reverse.length := by rw [List.length_reverse]; omega
          have hqt : P.reverse[t] = (ks[q], l[q]) := by subst hq; exact HQA.out t hlt
          clear hq
          obtain ⟨g', off', cap', sa, sc, he, -, -, hd, c0, c1, c2⟩ := (HV.out.below HB5.out).at (show q < l.length by omega)
          cases he
          obtain ⟨g2', off2', he2, -, -, c3⟩ := strs_at (HK.out.below HB5.out) (show q < ks.length by omega)
          cases he2
          have htb := take_booked HQN.out (t := t) (by omega)
          rw [hqt] at htb
          dsimp only at htb
          obtain ⟨tb1, tb2, tb3, tb4⟩ := htb
          have HTB := Lib.hid (And.intro tb1 (show ((bookedL (P.reverse.take t)).length : Int) < 12 by omega))
          have HT1 := Lib.hid tb2
          have HT2 := Lib.hid tb3
          have hsq := HPP.out (q) (by omega) (by omega)
          have HSM := Lib.hid hsq.1
          have HSZ := Lib.hid (show (ks[q]'(by omega)).size ≤ 200 by have := hsq.2.1; omega)
          have HD := Lib.hid hd
          have hk0 : (0 : Int) ≤ (q : Int) := by omega
          have hk1 : (q : Int) < (l.length : Int) := by omega
          have hk2 : (q : Int) < (ks.length : Int) := by omega
          clear tb1 tb2 tb3 tb4 hsq hd
          generalize l[q]'(by omega) = dq at *
          generalize ks[q]'(by omega) = xq at *
          go_upto_region 21 with fail
          refine E_region (S := (fun W => W.cell? ⟨g, off + q * 3, none⟩ = some (.string dq.name) ∧ W.cell? ⟨g, off + q * 3 + 1, none⟩ = some (.string dq.text) ∧ W.cell? ⟨g, off + q * 3 + 2, none⟩ = some (.slice sa dq.steps.length sc) ∧ W.cell? ⟨g2, off2 + q, none⟩ = some (.string xq))) 9 (by kernel_rfl) ⟨c0, c1, c2, c3⟩ (fun _ _ _ _ _ h => h) (fun Q' hQ hK' hHeld => ?_)
          refine E_take0 hQ (fun _ => hHeld) 0 (v := ?rbv1) rfl rfl (by kernel_rfl) (by kernel_rfl) (by kernel_rfl) (by decide) (by rfl) ?rby1 ?rbr1
          case rby1 => (intro w; go_simp; (try with_reducible rfl))
          (try simp only [layE])
          refine E_take0 hQ (fun _ => hHeld) 1 (v := ?rbv2) rfl rfl (by kernel_rfl) (by kernel_rfl) (by kernel_rfl) (by decide) (by rfl) ?rby2 ?rbr2
          case rby2 => (intro w; go_simp; (try with_reducible rfl))
          (try simp only [layE])
          refine E_take0 hQ (fun _ => hHeld) 2 (v := ?rbv3) rfl rfl (by kernel_rfl) (by kernel_rfl) (by kernel_rfl) (by decide) (by rfl) ?rby3 ?rbr3
          case rby3 => (intro w; go_simp; (try with_reducible rfl))
          (try simp only [layE])
          refine E_take0 hQ (fun _ => hHeld) 3 (v := ?rbv4) rfl rfl (by kernel_rfl) (by kernel_rfl) (by kernel_rfl) (by decide) (by rfl) ?rby4 ?rbr4
          case rby4 => (intro w; go_simp; (try with_reducible rfl))
          (try simp only [layE])
          refine E_take hQ hHeld 4 (v := ?rbv5) rfl rfl (by kernel_rfl) (by kernel_rfl) (by kernel_rfl) (by kernel_rfl) (by kernel_rfl) (by rfl) ?rby5 ?rbr5
          case rby5 => (intro w hSw; (try dsimp only at hSw); go_simp; (try with_reducible rfl))
          (try simp only [layE])
          refine E_take0 hQ (fun _ => hHeld) 5 (v := ?rbv6) rfl rfl (by kernel_rfl) (by kernel_rfl) (by kernel_rfl) (by decide) (by rfl) ?rby6 ?rbr6
          case rby6 => (intro w; go_simp; (try with_reducible rfl))
          (try simp only [layE])
          refine E_take0 hQ (fun _ => hHeld) 6 (v := ?rbv7) rfl rfl (by kernel_rfl) (by kernel_rfl) (by kernel_rfl) (by decide) (by rfl) ?rby7 ?rbr7
          case rby7 => (intro w; go_simp; (try with_reducible rfl))
          (try simp only [layE])
          refine E_take0 hQ (fun _ => hHeld) 7 (v := ?rbv8) rfl rfl (by kernel_rfl) (by kernel_rfl) (by kernel_rfl) (by decide) (by rfl) ?rby8 ?rbr8
          case rby8 => (intro w; go_simp; (try with_reducible rfl))
          (try simp only [layE])
          refine E_take hQ hHeld 8 (v := ?rbv9) rfl rfl (by kernel_rfl) (by kernel_rfl) (by kernel_rfl) (by kernel_rfl) (by kernel_rfl) (by rfl) ?rby9 ?rbr9
          case rby9 => (intro w hSw; (try dsimp only at hSw); go_simp; (try with_reducible rfl))
          (try simp only [layE])
          refine E_one 9 (by kernel_rfl) rfl (by rfl) (fun K hK => ?_)
          go_simp
          refine (bPut_any (HBB5.out.below (Below.refl w5.heap.size w5).drew) HTB.out.2 (by decide) HSZ.out (HD.out.below (Below.refl w5.heap.size w5).drew) HSM.out HTB.out.1).mono ?_
          rintro e w6 ⟨er, rfl, -, hbk, hch⟩
          rw [HT1.out] at hbk
          rw [HT2.out] at hbk
          have HBB55 := Lib.hid hbk
          have HBA55 := Lib.hid ((HBA5.out.below (Below.refl w5.heap.size w5).drew).other hch HNE.out.2.2 HNE.out.1.symm HMM.out.2)
          have HB6 := Lib.hid (HB5.out.drew.trans (hch.below (B := w.heap.size) (fun j hj => by rw [hj]; exact HMB.out) HB5.out.size))
          clear hbk hch
          (skip)
          refine hK.out _ _ (fun _ h => absurd rfl h) (fun _ => ?_)
          clear hK hHeld
          (try simp only [layE])
          refine E_done (by kernel_rfl) ?_ _
          refine hK'.out _ _ ?_
          clear hK' hQ c0 c1 c2 c3 HTB HT1 HT2 HD HSM HSZ hk0 hk1 hk2
          clear hqt
          go_wp2_with fail
          go_roundw
          case rel => exact ⟨t + 1, by omega, by go_num, HBA55, HBB55, HB6⟩
          case measure => simp [intOf]; omega
        · have d3 : decide ((t : Int) < (l.length : Int)) = false := decide_eq_false (by omega)
          go_wp2_with fail
          have htl : t = l.length := by omega
          subst htl
          have hql2 : P.reverse.length = l.length := by rw [List.length_reverse, hPL]
          rw [List.take_of_length_le (by omega)] at HBA
          rw [List.take_of_length_le (by omega)] at HBB
          clear hlt d3 ht
          refine (bNames_any HBA.out).mono ?_
          rintro e w5 ⟨v5, ns, rfl, h1, h2, h3, h4⟩
          obtain ⟨na, nc, rfl⟩ := h1.form
          have HRI := Lib.hid h2
          have HM1 := Lib.hid h3
          have HN5 := Lib.hid h1
          have HB5 := Lib.hid (bthen HB.out (Nat.le_refl _) h4)
          have HBA5 := Lib.hid (HBA.out.below h4)
          have HBB5 := Lib.hid (HBB.out.below h4)
          clear h1 h2 h3 h4 HBA HBB HB
          go_wp2_with fail
          refine (bNames_any HBB5.out).mono ?_
          rintro e w6 ⟨v6, ms, rfl, h1, h2, h3, h4⟩
          obtain rfl : ns = ms := rise_uniq HRI.out h2 (fun x => by rw [HM1.out x, h3 x, bookedL_mem, bookedL_mem]; simp only [List.mem_reverse])
          obtain ⟨na2, nc2, rfl⟩ := h1.form
          have HN6 := Lib.hid (HN5.out.below h4)
          have HN62 := Lib.hid h1
          have HB6 := Lib.hid (bthen HB5.out (Nat.le_refl _) h4)
          have HBA6 := Lib.hid (HBA5.out.below h4)
          have HBB6 := Lib.hid (HBB5.out.below h4)
          clear h1 h2 h3 h4 HBA5 HBB5 HB5 HN5 HM1
          go_wp2_with fail
          refine (Texts_any ns ns _ _ w6 HN6.out HN62.out).mono ?_
          rintro e w7 ⟨rfl, hb7⟩
          have HN7 := Lib.hid (HN6.out.below hb7)
          have HB7 := Lib.hid (bthen HB6.out (Nat.le_refl _) hb7)
          have HBA7 := Lib.hid (HBA6.out.below hb7)
          have HBB7 := Lib.hid (HBB6.out.below hb7)
          clear hb7 HBA6 HBB6 HB6 HN6 HN62
          have hns63 := rds_len2 HN7.out
          have hdn : decide (ns = ns) = true := decide_eq_true rfl
          rw [hdn]
          clear hdn
          go_wp2_with fail
          go_loopw [12] (fun i wr => ∃ t : Nat, t ≤ l.length ∧ i = .int .i64 t ∧ Hid (Below w7.heap.size w7 wr)) (fun i _ => l.length - (intOf i).toNat)
          case atStart => exact ⟨0, by omega, rfl, Lib.hid (Below.refl _ _)⟩
          case round =>
            obtain ⟨t, ht, rfl, HB⟩ := hrel
            rename World => wr
            by_cases hlt : t < l.length
            · have hlt2 : t < ks.length := by omega
              have hwr := HB7.out.trans (HB.out.mono HB7.out.size)
              obtain ⟨g, off, cap', sa, sc, he, -, -, hd, c0, c1, c2⟩ := (HV.out.below hwr).at hlt
              cases he
              obtain ⟨g2, off2, he2, -, -, c3⟩ := strs_at (HK.out.below hwr) hlt2
              cases he2
              have HC0 := Lib.hid c0
              have HC1 := Lib.hid c1
              have HC2 := Lib.hid c2
              have HC3 := Lib.hid c3
              have HD := Lib.hid hd
              have HSM := Lib.hid (HPP.out t hlt hlt).1
              have HXS := Lib.hid (HPP.out t hlt hlt).2.1
              have hmp : (ks[t], l[t]) ∈ P := by rw [← HPA.out t hlt]; exact List.getElem_mem _
              have hfa := bookedF_at HPN.out _ hmp
              have hfb := bookedF_at HQN.out _ (List.mem_reverse.2 hmp)
              unfold okP at hfa hfb
              dsimp only at hfa hfb
              have HFA := Lib.hid hfa
              have HFB := Lib.hid hfb
              have hk0 : (0 : Int) ≤ (t : Int) := by omega
              have hk1 : (t : Int) < (l.length : Int) := by omega
              have hk2 : (t : Int) < (ks.length : Int) := by omega
              clear hd c0 c1 c2 hfa hfb hmp hwr
              generalize l[t] = dq at *
              generalize ks[t] = xq at *
              have HXQ := Lib.hid (show xq.size ≤ maxLen from by have := HXS.out; unfold maxLen; omega)
              have HGA := Lib.hid (fun W (hW : Below w7.heap.size w7 W) => bGet_any (HBA7.out.below hW) HXQ.out)
              have HGB := Lib.hid (fun W (hW : Below w7.heap.size w7 W) => bGet_any (HBB7.out.below hW) HXQ.out)
              rw [HFA.out] at HGA
              rw [HFB.out] at HGB
              clear HFA HFB
              have HRT := Lib.hid (fun W => nRight_any xq W (by have := HXS.out; omega))
              have HCL := Lib.hid (fun W (hW : DefR W [.string dq.name, .string dq.text, .slice sa dq.steps.length sc] dq sa sc) => Clean_any dq _ sa sc W hW HSM.out)
              rcases hri : rightB xq with _ | _
              · rw [hri] at HRT
                rw [hri, Bool.false_and, if_neg (by decide)] at HGA HGB
                simp only [Option.getD_none, Option.isSome_none] at HGA HGB
                clear hri
                go_wp2_with fail
                refine (HGA.out wr HB.out).mono ?_
                rintro e w8 ⟨va, vc, rfl, hd8, hb8⟩
                have hb9 : Below wr.heap.size wr (w8.alloc (.cells #[.string noneD.name, .string noneD.text, .slice va noneD.steps.length vc] 24)) := hb8.alloc hb8.size _
                have hg9 := World.alloc_heap_new w8 (.cells #[.string noneD.name, .string noneD.text, .slice va noneD.steps.length vc] 24)
                have hd9 := hd8.below ((Below.refl _ w8).alloc (Nat.le_refl _) (.cells #[.string noneD.name, .string noneD.text, .slice va noneD.steps.length vc] 24))
                have HB9 := Lib.hid hb9
                have HG9 := Lib.hid hg9
                have HD9 := Lib.hid hd9
                have c4 := cellB hb9 HC3.out
                clear hb8 hb9 hg9 hd8 hd9 c3 HGA
                go_upto_region 29 with fail
                generalize hw9 : (w8.alloc (.cells #[.string noneD.name, .string noneD.text, .slice va noneD.steps.length vc] 24)) = w9 at *
                generalize w8.heap.size = e1 at *
                clear hw9
                go_wp2_with fail
                refine (HGB.out w9 (bthen HB.out (Nat.le_refl _) HB9.out)).mono ?_
                rintro e w10 ⟨vb, vd, rfl, hd10, hb10⟩
                have hb11 : Below w9.heap.size w9 (w10.alloc (.cells #[.string noneD.name, .string noneD.text, .slice vb noneD.steps.length vd] 24)) := hb10.alloc hb10.size _
                have hg11 := World.alloc_heap_new w10 (.cells #[.string noneD.name, .string noneD.text, .slice vb noneD.steps.length vd] 24)
                have hd11 := hd10.below ((Below.refl _ w10).alloc (Nat.le_refl _) (.cells #[.string noneD.name, .string noneD.text, .slice vb noneD.steps.length vd] 24))
                have hg91 := (hb11.block _ (Array.getElem?_eq_some_iff.1 HG9.out).1).trans HG9.out
                have HX11 := Lib.hid (HD9.out.below hb11)
                have HY11 := Lib.hid hd11
                have HG11 := Lib.hid hg11
                have HG91 := Lib.hid hg91
                have HB11 := Lib.hid (bthen HB9.out (Nat.le_refl _) hb11)
                clear hb10 hb11 hg11 hg91 hd10 hd11 HGB c4 HD9 HG9 HB9
                go_upto_region 30 with fail
                generalize hw11 : (w10.alloc (.cells #[.string noneD.name, .string noneD.text, .slice vb noneD.steps.length vd] 24)) = w11 at *
                generalize w10.heap.size = e2 at *
                clear hw11
                obtain ⟨p0, p1, p2, -, -, -⟩ := cells3h HG91.out
                obtain ⟨r0, r1, r2, -, -, -⟩ := cells3h HG11.out
                have t0 := cellB HB11.out HC0.out
                have t1 := cellB HB11.out HC1.out
                have t2 := cellB HB11.out HC2.out
                have t3 := cellB HB11.out HC3.out
                have HD11 := Lib.hid (HD.out.below HB11.out)
                have HS1 := Lib.hid (fun W (hW : Below w11.heap.size w11 W) => dSame_any noneD noneD _ _ _ _ _ _ W (HX11.out.below hW) (HY11.out.below hW))
                rw [sameD_refl] at HS1
                refine E_region (S := (fun W => W.cell? ⟨e1, 0, none⟩ = some (.string noneD.name) ∧ W.cell? ⟨e1, 1, none⟩ = some (.string noneD.text) ∧ W.cell? ⟨e1, 2, none⟩ = some (.slice va noneD.steps.length vc) ∧ W.cell? ⟨e2, 0, none⟩ = some (.string noneD.name) ∧ W.cell? ⟨e2, 1, none⟩ = some (.string noneD.text) ∧ W.cell? ⟨e2, 2, none⟩ = some (.slice vb noneD.steps.length vd) ∧ W.cell? ⟨g, off + t * 3, none⟩ = some (.string dq.name) ∧ W.cell? ⟨g, off + t * 3 + 1, none⟩ = some (.string dq.text) ∧ W.cell? ⟨g, off + t * 3 + 2, none⟩ = some (.slice sa dq.steps.length sc) ∧ W.cell? ⟨g2, off2 + t, none⟩ = some (.string xq))) 27 (by kernel_rfl) ⟨p0, p1, p2, r0, r1, r2, t0, t1, t2, t3⟩ (fun _ _ _ _ _ h => h) (fun Q' hQ hK' hHeld => ?_)
                refine E_take0 hQ (fun _ => hHeld) 0 (v := ?xv1) rfl rfl (by kernel_rfl) (by kernel_rfl) (by kernel_rfl) (by decide) (by rfl) ?xy1 ?xr1
                case xy1 => (intro w; go_simp; (try with_reducible rfl))
                (try simp only [layE])
                refine E_take0 hQ (fun _ => hHeld) 1 (v := ?xv2) rfl rfl (by kernel_rfl) (by kernel_rfl) (by kernel_rfl) (by decide) (by rfl) ?xy2 ?xr2
                case xy2 => (intro w; go_simp; (try with_reducible rfl))
                (try simp only [layE])
                refine E_take0 hQ (fun _ => hHeld) 2 (v := (.bool false)) rfl rfl (by kernel_rfl) (by kernel_rfl) (by kernel_rfl) (by decide) (by rfl) ?xy3 ?xr3
                case xy3 => (intro w; go_simp; (try with_reducible rfl))
                (try simp only [layE])
                refine E_take0 hQ (fun _ => hHeld) 3 (v := (.bool false)) rfl rfl (by kernel_rfl) (by kernel_rfl) (by kernel_rfl) (by decide) (by rfl) ?xy4 ?xr4
                case xy4 => (intro w; go_simp; (try with_reducible rfl))
                (try simp only [layE])
                refine E_take hQ hHeld 4 (v := ?xv5) rfl rfl (by kernel_rfl) (by kernel_rfl) (by kernel_rfl) (by kernel_rfl) (by kernel_rfl) (by rfl) ?xy5 ?xr5
                case xy5 => (intro w hSw; (try dsimp only at hSw); go_simp; (try with_reducible rfl))
                (try simp only [layE])
                refine E_take hQ hHeld 5 (v := ?xv6) rfl rfl (by kernel_rfl) (by kernel_rfl) (by kernel_rfl) (by kernel_rfl) (by kernel_rfl) (by rfl) ?xy6 ?xr6
                case xy6 => (intro w hSw; (try dsimp only at hSw); go_simp; (try with_reducible rfl))
                (try simp only [layE])
                refine E_one 6 (by kernel_rfl) rfl (by rfl) (fun K hK => ?_)
                go_simp
                refine (HS1.out _ (Below.refl w11.heap.size w11).drew).mono ?_
                rintro e v1 ⟨rfl, hb6k⟩
                have hbv1 : Below w11.heap.size w11 v1 := bthen (Below.refl w11.heap.size w11).drew (Nat.le_refl _) hb6k
                (skip)
                refine hK.out _ _ (fun _ _ => ⟨cellB hb6k hHeld.1, cellB hb6k hHeld.2.1, cellB hb6k hHeld.2.2.1, cellB hb6k hHeld.2.2.2.1, cellB hb6k hHeld.2.2.2.2.1, cellB hb6k hHeld.2.2.2.2.2.1, cellB hb6k hHeld.2.2.2.2.2.2.1, cellB hb6k hHeld.2.2.2.2.2.2.2.1, cellB hb6k hHeld.2.2.2.2.2.2.2.2.1, cellB hb6k hHeld.2.2.2.2.2.2.2.2.2⟩) (fun hHeld' => ?_)
                replace hHeld := hHeld' (by rfl) (by decide)
                clear hK hHeld'
                (try simp only [layE])
                refine E_take0 hQ (fun _ => hHeld) 7 (v := (.bool false)) rfl rfl (by kernel_rfl) (by kernel_rfl) (by kernel_rfl) (by decide) (by rfl) ?xy7 ?xr7
                case xy7 => (intro w; go_simp; (try with_reducible rfl))
                (try simp only [layE])
                refine E_take0 hQ (fun _ => hHeld) 8 (v := (.bool false)) rfl rfl (by kernel_rfl) (by kernel_rfl) (by kernel_rfl) (by decide) (by rfl) ?xy8 ?xr8
                case xy8 => (intro w; go_simp; (try with_reducible rfl))
                (try simp only [layE])
                refine E_take0 hQ (fun _ => hHeld) 9 (v := (.bool false)) rfl rfl (by kernel_rfl) (by kernel_rfl) (by kernel_rfl) (by decide) (by rfl) ?xy9 ?xr9
                case xy9 => (intro w; go_simp; (try with_reducible rfl))
                (try simp only [layE])
                refine E_take0 hQ (fun _ => hHeld) 10 (v := (.bool false)) rfl rfl (by kernel_rfl) (by kernel_rfl) (by kernel_rfl) (by decide) (by rfl) ?xy10 ?xr10
                case xy10 => (intro w; go_simp; (try with_reducible rfl))
                (try simp only [layE])
                refine E_take0 hQ (fun _ => hHeld) 11 (v := (.bool false)) rfl rfl (by kernel_rfl) (by kernel_rfl) (by kernel_rfl) (by decide) (by rfl) ?xy11 ?xr11
                case xy11 => (intro w; go_simp; (try with_reducible rfl))
                (try simp only [layE])
                refine E_off hQ (fun _ => hHeld) 12 rfl rfl (by kernel_rfl) (by kernel_rfl) (by kernel_rfl) (by decide) (by rfl) ?_
                (try simp only [layE])
                refine E_off hQ (fun _ => hHeld) 13 rfl rfl (by kernel_rfl) (by kernel_rfl) (by kernel_rfl) (by decide) (by rfl) ?_
                (try simp only [layE])
                refine E_off hQ (fun _ => hHeld) 14 rfl rfl (by kernel_rfl) (by kernel_rfl) (by kernel_rfl) (by decide) (by rfl) ?_
                (try simp only [layE])
                refine E_off hQ (fun _ => hHeld) 15 rfl rfl (by kernel_rfl) (by kernel_rfl) (by kernel_rfl) (by decide) (by rfl) ?_
                (try simp only [layE])
                refine E_off hQ (fun _ => hHeld) 16 rfl rfl (by kernel_rfl) (by kernel_rfl) (by kernel_rfl) (by decide) (by rfl) ?_
                (try simp only [layE])
                refine E_off hQ (fun _ => hHeld) 17 rfl rfl (by kernel_rfl) (by kernel_rfl) (by kernel_rfl) (by decide) (by rfl) ?_
                (try simp only [layE])
                refine E_off hQ (fun _ => hHeld) 18 rfl rfl (by kernel_rfl) (by kernel_rfl) (by kernel_rfl) (by decide) (by rfl) ?_
                (try simp only [layE])
                refine E_take0 hQ (fun _ => hHeld) 19 (v := (.bool false)) rfl rfl (by kernel_rfl) (by kernel_rfl) (by kernel_rfl) (by decide) (by rfl) ?xy19 ?xr19
                case xy19 => (intro w; go_simp; (try with_reducible rfl))
                (try simp only [layE])
                refine E_take0 hQ (fun _ => hHeld) 20 (v := (.bool false)) rfl rfl (by kernel_rfl) (by kernel_rfl) (by kernel_rfl) (by decide) (by rfl) ?xy20 ?xr20
                case xy20 => (intro w; go_simp; (try with_reducible rfl))
                (try simp only [layE])
                refine E_take0 hQ (fun _ => hHeld) 21 (v := (.bool false)) rfl rfl (by kernel_rfl) (by kernel_rfl) (by kernel_rfl) (by decide) (by rfl) ?xy21 ?xr21
                case xy21 => (intro w; go_simp; (try with_reducible rfl))
                (try simp only [layE])
                refine E_take0 hQ (fun _ => hHeld) 22 (v := (.bool false)) rfl rfl (by kernel_rfl) (by kernel_rfl) (by kernel_rfl) (by decide) (by rfl) ?xy22 ?xr22
                case xy22 => (intro w; go_simp; (try with_reducible rfl))
                (try simp only [layE])
                refine E_take0 hQ (fun _ => hHeld) 23 (v := ?xv23) rfl rfl (by kernel_rfl) (by kernel_rfl) (by kernel_rfl) (by decide) (by rfl) ?xy23 ?xr23
                case xy23 => (intro w; go_simp; (try with_reducible rfl))
                (try simp only [layE])
                refine E_take0 hQ (fun _ => hHeld) 24 (v := ?xv24) rfl rfl (by kernel_rfl) (by kernel_rfl) (by kernel_rfl) (by decide) (by rfl) ?xy24 ?xr24
                case xy24 => (intro w; go_simp; (try with_reducible rfl))
                (try simp only [layE])
                refine E_take0 hQ (fun _ => hHeld) 25 (v := ?xv25) rfl rfl (by kernel_rfl) (by kernel_rfl) (by kernel_rfl) (by decide) (by rfl) ?xy25 ?xr25
                case xy25 => (intro w; go_simp; (try with_reducible rfl))
                (try simp only [layE])
                refine E_take hQ hHeld 26 (v := ?xv26) rfl rfl (by kernel_rfl) (by kernel_rfl) (by kernel_rfl) (by kernel_rfl) (by kernel_rfl) (by rfl) ?xy26 ?xr26
                case xy26 => (intro w hSw; (try dsimp only at hSw); go_simp; (try with_reducible rfl))
                (try simp only [layE])
                refine E_one 27 (by kernel_rfl) rfl (by rfl) (fun K hK => ?_)
                go_simp
                refine (HRT.out v1).mono ?_
                rintro e v3 ⟨rfl, hv3⟩
                obtain rfl := hv3.symm
                (skip)
                refine hK.out _ _ (fun _ h => absurd rfl h) (fun _ => ?_)
                clear hK hHeld
                (try simp only [layE])
                refine E_take0 hQ (fun h => absurd h (by decide)) 28 (v := (.bool false)) rfl rfl (by kernel_rfl) (by kernel_rfl) (by kernel_rfl) (by decide) (by rfl) ?xy27 ?xr27
                case xy27 => (intro w; go_simp; (try with_reducible rfl))
                (try simp only [layE])
                refine E_off hQ (fun h => absurd h (by decide)) 29 rfl rfl (by kernel_rfl) (by kernel_rfl) (by kernel_rfl) (by decide) (by rfl) ?_
                (try simp only [layE])
                refine E_off hQ (fun h => absurd h (by decide)) 30 rfl rfl (by kernel_rfl) (by kernel_rfl) (by kernel_rfl) (by decide) (by rfl) ?_
                (try simp only [layE])
                refine E_off hQ (fun h => absurd h (by decide)) 31 rfl rfl (by kernel_rfl) (by kernel_rfl) (by kernel_rfl) (by decide) (by rfl) ?_
                (try simp only [layE])
                refine E_off hQ (fun h => absurd h (by decide)) 32 rfl rfl (by kernel_rfl) (by kernel_rfl) (by kernel_rfl) (by decide) (by rfl) ?_
                (try simp only [layE])
                refine E_off hQ (fun h => absurd h (by decide)) 33 rfl rfl (by kernel_rfl) (by kernel_rfl) (by kernel_rfl) (by decide) (by rfl) ?_
                (try simp only [layE])
                refine E_take0 hQ (fun h => absurd h (by decide)) 34 (v := (.bool false)) rfl rfl (by kernel_rfl) (by kernel_rfl) (by kernel_rfl) (by decide) (by rfl) ?xy33 ?xr33
                case xy33 => (intro w; go_simp; (try with_reducible rfl))
                (try simp only [layE])
                refine E_take0 hQ (fun h => absurd h (by decide)) 35 (v := (.bool false)) rfl rfl (by kernel_rfl) (by kernel_rfl) (by kernel_rfl) (by decide) (by rfl) ?xy34 ?xr34
                case xy34 => (intro w; go_simp; (try with_reducible rfl))
                (try simp only [layE])
                refine E_take0 hQ (fun h => absurd h (by decide)) 36 (v := (.bool false)) rfl rfl (by kernel_rfl) (by kernel_rfl) (by kernel_rfl) (by decide) (by rfl) ?xy35 ?xr35
                case xy35 => (intro w; go_simp; (try with_reducible rfl))
                (try simp only [layE])
                refine E_done (by kernel_rfl) ?_ _
                refine hK'.out _ _ ?_
                clear hK' hQ p0 p1 p2 r0 r1 r2 t0 t1 t2 t3
                have HBF := Lib.hid (bthen (bthen HB.out (Nat.le_refl _) HB11.out) (Nat.le_refl _) hbv1)
                clear hbv1
                go_wp2_with fail
                go_roundw
                case rel => exact ⟨t + 1, by omega, by go_num, HBF⟩
                case measure => simp [intOf]; omega
              rcases hcl : cleanB dq with _ | _
              · rw [hri] at HRT
                rw [hcl] at HCL
                rw [hri, hcl, Bool.and_false, if_neg (by decide)] at HGA HGB
                simp only [Option.getD_none, Option.isSome_none] at HGA HGB
                clear hri hcl
                go_wp2_with fail
                refine (HGA.out wr HB.out).mono ?_
                rintro e w8 ⟨va, vc, rfl, hd8, hb8⟩
                have hb9 : Below wr.heap.size wr (w8.alloc (.cells #[.string noneD.name, .string noneD.text, .slice va noneD.steps.length vc] 24)) := hb8.alloc hb8.size _
                have hg9 := World.alloc_heap_new w8 (.cells #[.string noneD.name, .string noneD.text, .slice va noneD.steps.length vc] 24)
                have hd9 := hd8.below ((Below.refl _ w8).alloc (Nat.le_refl _) (.cells #[.string noneD.name, .string noneD.text, .slice va noneD.steps.length vc] 24))
                have HB9 := Lib.hid hb9
                have HG9 := Lib.hid hg9
                have HD9 := Lib.hid hd9
                have c4 := cellB hb9 HC3.out
                clear hb8 hb9 hg9 hd8 hd9 c3 HGA
                go_upto_region 29 with fail
                generalize hw9 : (w8.alloc (.cells #[.string noneD.name, .string noneD.text, .slice va noneD.steps.length vc] 24)) = w9 at *
                generalize w8.heap.size = e1 at *
                clear hw9
                go_wp2_with fail
                refine (HGB.out w9 (bthen HB.out (Nat.le_refl _) HB9.out)).mono ?_
                rintro e w10 ⟨vb, vd, rfl, hd10, hb10⟩
                have hb11 : Below w9.heap.size w9 (w10.alloc (.cells #[.string noneD.name, .string noneD.text, .slice vb noneD.steps.length vd] 24)) := hb10.alloc hb10.size _
                have hg11 := World.alloc_heap_new w10 (.cells #[.string noneD.name, .string noneD.text, .slice vb noneD.steps.length vd] 24)
                have hd11 := hd10.below ((Below.refl _ w10).alloc (Nat.le_refl _) (.cells #[.string noneD.name, .string noneD.text, .slice vb noneD.steps.length vd] 24))
                have hg91 := (hb11.block _ (Array.getElem?_eq_some_iff.1 HG9.out).1).trans HG9.out
                have HX11 := Lib.hid (HD9.out.below hb11)
                have HY11 := Lib.hid hd11
                have HG11 := Lib.hid hg11
                have HG91 := Lib.hid hg91
                have HB11 := Lib.hid (bthen HB9.out (Nat.le_refl _) hb11)
                clear hb10 hb11 hg11 hg91 hd10 hd11 HGB c4 HD9 HG9 HB9
                go_upto_region 30 with fail
                generalize hw11 : (w10.alloc (.cells #[.string noneD.name, .string noneD.text, .slice vb noneD.steps.length vd] 24)) = w11 at *
                generalize w10.heap.size = e2 at *
                clear hw11
                obtain ⟨p0, p1, p2, -, -, -⟩ := cells3h HG91.out
                obtain ⟨r0, r1, r2, -, -, -⟩ := cells3h HG11.out
                have t0 := cellB HB11.out HC0.out
                have t1 := cellB HB11.out HC1.out
                have t2 := cellB HB11.out HC2.out
                have t3 := cellB HB11.out HC3.out
                have HD11 := Lib.hid (HD.out.below HB11.out)
                have HS1 := Lib.hid (fun W (hW : Below w11.heap.size w11 W) => dSame_any noneD noneD _ _ _ _ _ _ W (HX11.out.below hW) (HY11.out.below hW))
                rw [sameD_refl] at HS1
                refine E_region (S := (fun W => W.cell? ⟨e1, 0, none⟩ = some (.string noneD.name) ∧ W.cell? ⟨e1, 1, none⟩ = some (.string noneD.text) ∧ W.cell? ⟨e1, 2, none⟩ = some (.slice va noneD.steps.length vc) ∧ W.cell? ⟨e2, 0, none⟩ = some (.string noneD.name) ∧ W.cell? ⟨e2, 1, none⟩ = some (.string noneD.text) ∧ W.cell? ⟨e2, 2, none⟩ = some (.slice vb noneD.steps.length vd) ∧ W.cell? ⟨g, off + t * 3, none⟩ = some (.string dq.name) ∧ W.cell? ⟨g, off + t * 3 + 1, none⟩ = some (.string dq.text) ∧ W.cell? ⟨g, off + t * 3 + 2, none⟩ = some (.slice sa dq.steps.length sc) ∧ W.cell? ⟨g2, off2 + t, none⟩ = some (.string xq))) 33 (by kernel_rfl) ⟨p0, p1, p2, r0, r1, r2, t0, t1, t2, t3⟩ (fun _ _ _ _ _ h => h) (fun Q' hQ hK' hHeld => ?_)
                refine E_take0 hQ (fun _ => hHeld) 0 (v := ?yv1) rfl rfl (by kernel_rfl) (by kernel_rfl) (by kernel_rfl) (by decide) (by rfl) ?yy1 ?yr1
                case yy1 => (intro w; go_simp; (try with_reducible rfl))
                (try simp only [layE])
                refine E_take0 hQ (fun _ => hHeld) 1 (v := ?yv2) rfl rfl (by kernel_rfl) (by kernel_rfl) (by kernel_rfl) (by decide) (by rfl) ?yy2 ?yr2
                case yy2 => (intro w; go_simp; (try with_reducible rfl))
                (try simp only [layE])
                refine E_take0 hQ (fun _ => hHeld) 2 (v := (.bool false)) rfl rfl (by kernel_rfl) (by kernel_rfl) (by kernel_rfl) (by decide) (by rfl) ?yy3 ?yr3
                case yy3 => (intro w; go_simp; (try with_reducible rfl))
                (try simp only [layE])
                refine E_take0 hQ (fun _ => hHeld) 3 (v := (.bool false)) rfl rfl (by kernel_rfl) (by kernel_rfl) (by kernel_rfl) (by decide) (by rfl) ?yy4 ?yr4
                case yy4 => (intro w; go_simp; (try with_reducible rfl))
                (try simp only [layE])
                refine E_take hQ hHeld 4 (v := ?yv5) rfl rfl (by kernel_rfl) (by kernel_rfl) (by kernel_rfl) (by kernel_rfl) (by kernel_rfl) (by rfl) ?yy5 ?yr5
                case yy5 => (intro w hSw; (try dsimp only at hSw); go_simp; (try with_reducible rfl))
                (try simp only [layE])
                refine E_take hQ hHeld 5 (v := ?yv6) rfl rfl (by kernel_rfl) (by kernel_rfl) (by kernel_rfl) (by kernel_rfl) (by kernel_rfl) (by rfl) ?yy6 ?yr6
                case yy6 => (intro w hSw; (try dsimp only at hSw); go_simp; (try with_reducible rfl))
                (try simp only [layE])
                refine E_one 6 (by kernel_rfl) rfl (by rfl) (fun K hK => ?_)
                go_simp
                refine (HS1.out _ (Below.refl w11.heap.size w11).drew).mono ?_
                rintro e v1 ⟨rfl, hb6k⟩
                have hbv1 : Below w11.heap.size w11 v1 := bthen (Below.refl w11.heap.size w11).drew (Nat.le_refl _) hb6k
                (skip)
                refine hK.out _ _ (fun _ _ => ⟨cellB hb6k hHeld.1, cellB hb6k hHeld.2.1, cellB hb6k hHeld.2.2.1, cellB hb6k hHeld.2.2.2.1, cellB hb6k hHeld.2.2.2.2.1, cellB hb6k hHeld.2.2.2.2.2.1, cellB hb6k hHeld.2.2.2.2.2.2.1, cellB hb6k hHeld.2.2.2.2.2.2.2.1, cellB hb6k hHeld.2.2.2.2.2.2.2.2.1, cellB hb6k hHeld.2.2.2.2.2.2.2.2.2⟩) (fun hHeld' => ?_)
                replace hHeld := hHeld' (by rfl) (by decide)
                clear hK hHeld'
                (try simp only [layE])
                refine E_take0 hQ (fun _ => hHeld) 7 (v := (.bool false)) rfl rfl (by kernel_rfl) (by kernel_rfl) (by kernel_rfl) (by decide) (by rfl) ?yy7 ?yr7
                case yy7 => (intro w; go_simp; (try with_reducible rfl))
                (try simp only [layE])
                refine E_take0 hQ (fun _ => hHeld) 8 (v := (.bool false)) rfl rfl (by kernel_rfl) (by kernel_rfl) (by kernel_rfl) (by decide) (by rfl) ?yy8 ?yr8
                case yy8 => (intro w; go_simp; (try with_reducible rfl))
                (try simp only [layE])
                refine E_take0 hQ (fun _ => hHeld) 9 (v := (.bool false)) rfl rfl (by kernel_rfl) (by kernel_rfl) (by kernel_rfl) (by decide) (by rfl) ?yy9 ?yr9
                case yy9 => (intro w; go_simp; (try with_reducible rfl))
                (try simp only [layE])
                refine E_take0 hQ (fun _ => hHeld) 10 (v := (.bool false)) rfl rfl (by kernel_rfl) (by kernel_rfl) (by kernel_rfl) (by decide) (by rfl) ?yy10 ?yr10
                case yy10 => (intro w; go_simp; (try with_reducible rfl))
                (try simp only [layE])
                refine E_take0 hQ (fun _ => hHeld) 11 (v := (.bool false)) rfl rfl (by kernel_rfl) (by kernel_rfl) (by kernel_rfl) (by decide) (by rfl) ?yy11 ?yr11
                case yy11 => (intro w; go_simp; (try with_reducible rfl))
                (try simp only [layE])
                refine E_off hQ (fun _ => hHeld) 12 rfl rfl (by kernel_rfl) (by kernel_rfl) (by kernel_rfl) (by decide) (by rfl) ?_
                (try simp only [layE])
                refine E_off hQ (fun _ => hHeld) 13 rfl rfl (by kernel_rfl) (by kernel_rfl) (by kernel_rfl) (by decide) (by rfl) ?_
                (try simp only [layE])
                refine E_off hQ (fun _ => hHeld) 14 rfl rfl (by kernel_rfl) (by kernel_rfl) (by kernel_rfl) (by decide) (by rfl) ?_
                (try simp only [layE])
                refine E_off hQ (fun _ => hHeld) 15 rfl rfl (by kernel_rfl) (by kernel_rfl) (by kernel_rfl) (by decide) (by rfl) ?_
                (try simp only [layE])
                refine E_off hQ (fun _ => hHeld) 16 rfl rfl (by kernel_rfl) (by kernel_rfl) (by kernel_rfl) (by decide) (by rfl) ?_
                (try simp only [layE])
                refine E_off hQ (fun _ => hHeld) 17 rfl rfl (by kernel_rfl) (by kernel_rfl) (by kernel_rfl) (by decide) (by rfl) ?_
                (try simp only [layE])
                refine E_off hQ (fun _ => hHeld) 18 rfl rfl (by kernel_rfl) (by kernel_rfl) (by kernel_rfl) (by decide) (by rfl) ?_
                (try simp only [layE])
                refine E_take0 hQ (fun _ => hHeld) 19 (v := (.bool false)) rfl rfl (by kernel_rfl) (by kernel_rfl) (by kernel_rfl) (by decide) (by rfl) ?yy19 ?yr19
                case yy19 => (intro w; go_simp; (try with_reducible rfl))
                (try simp only [layE])
                refine E_take0 hQ (fun _ => hHeld) 20 (v := (.bool false)) rfl rfl (by kernel_rfl) (by kernel_rfl) (by kernel_rfl) (by decide) (by rfl) ?yy20 ?yr20
                case yy20 => (intro w; go_simp; (try with_reducible rfl))
                (try simp only [layE])
                refine E_take0 hQ (fun _ => hHeld) 21 (v := (.bool false)) rfl rfl (by kernel_rfl) (by kernel_rfl) (by kernel_rfl) (by decide) (by rfl) ?yy21 ?yr21
                case yy21 => (intro w; go_simp; (try with_reducible rfl))
                (try simp only [layE])
                refine E_take0 hQ (fun _ => hHeld) 22 (v := (.bool false)) rfl rfl (by kernel_rfl) (by kernel_rfl) (by kernel_rfl) (by decide) (by rfl) ?yy22 ?yr22
                case yy22 => (intro w; go_simp; (try with_reducible rfl))
                (try simp only [layE])
                refine E_take0 hQ (fun _ => hHeld) 23 (v := ?yv23) rfl rfl (by kernel_rfl) (by kernel_rfl) (by kernel_rfl) (by decide) (by rfl) ?yy23 ?yr23
                case yy23 => (intro w; go_simp; (try with_reducible rfl))
                (try simp only [layE])
                refine E_take0 hQ (fun _ => hHeld) 24 (v := ?yv24) rfl rfl (by kernel_rfl) (by kernel_rfl) (by kernel_rfl) (by decide) (by rfl) ?yy24 ?yr24
                case yy24 => (intro w; go_simp; (try with_reducible rfl))
                (try simp only [layE])
                refine E_take0 hQ (fun _ => hHeld) 25 (v := ?yv25) rfl rfl (by kernel_rfl) (by kernel_rfl) (by kernel_rfl) (by decide) (by rfl) ?yy25 ?yr25
                case yy25 => (intro w; go_simp; (try with_reducible rfl))
                (try simp only [layE])
                refine E_take hQ hHeld 26 (v := ?yv26) rfl rfl (by kernel_rfl) (by kernel_rfl) (by kernel_rfl) (by kernel_rfl) (by kernel_rfl) (by rfl) ?yy26 ?yr26
                case yy26 => (intro w hSw; (try dsimp only at hSw); go_simp; (try with_reducible rfl))
                (try simp only [layE])
                refine E_one 27 (by kernel_rfl) rfl (by rfl) (fun K hK => ?_)
                go_simp
                refine (HRT.out v1).mono ?_
                rintro e v3 ⟨rfl, hv3⟩
                obtain rfl := hv3.symm
                (skip)
                refine hK.out _ _ (fun _ _ => hHeld) (fun hHeld' => ?_)
                replace hHeld := hHeld' (by rfl) (by decide)
                clear hK hHeld'
                (try simp only [layE])
                refine E_take0 hQ (fun _ => hHeld) 28 (v := (.bool true)) rfl rfl (by kernel_rfl) (by kernel_rfl) (by kernel_rfl) (by decide) (by rfl) ?yy27 ?yr27
                case yy27 => (intro w; go_simp; (try with_reducible rfl))
                (try simp only [layE])
                refine E_take0 hQ (fun _ => hHeld) 29 (v := ?yv28) rfl rfl (by kernel_rfl) (by kernel_rfl) (by kernel_rfl) (by decide) (by rfl) ?yy28 ?yr28
                case yy28 => (intro w; go_simp; (try with_reducible rfl))
                (try simp only [layE])
                refine E_take0 hQ (fun _ => hHeld) 30 (v := ?yv29) rfl rfl (by kernel_rfl) (by kernel_rfl) (by kernel_rfl) (by decide) (by rfl) ?yy29 ?yr29
                case yy29 => (intro w; go_simp; (try with_reducible rfl))
                (try simp only [layE])
                refine E_take0 hQ (fun _ => hHeld) 31 (v := ?yv30) rfl rfl (by kernel_rfl) (by kernel_rfl) (by kernel_rfl) (by decide) (by rfl) ?yy30 ?yr30
                case yy30 => (intro w; go_simp; (try with_reducible rfl))
                (try simp only [layE])
                refine E_take hQ hHeld 32 (v := ?yv31) rfl rfl (by kernel_rfl) (by kernel_rfl) (by kernel_rfl) (by kernel_rfl) (by kernel_rfl) (by rfl) ?yy31 ?yr31
                case yy31 => (intro w hSw; (try dsimp only at hSw); go_simp; (try with_reducible rfl))
                (try simp only [layE])
                refine E_one 33 (by kernel_rfl) rfl (by rfl) (fun K hK => ?_)
                go_simp
                refine (HCL.out _ (HD11.out.below hbv1)).mono ?_
                rintro e v4 ⟨rfl, hb9k⟩
                have hbv4 : Below w11.heap.size w11 v4 := bthen hbv1 (Nat.le_refl _) hb9k
                (skip)
                refine hK.out _ _ (fun _ h => absurd rfl h) (fun _ => ?_)
                clear hK hHeld
                (try simp only [layE])
                refine E_take0 hQ (fun h => absurd h (by decide)) 34 (v := (.bool false)) rfl rfl (by kernel_rfl) (by kernel_rfl) (by kernel_rfl) (by decide) (by rfl) ?yy32 ?yr32
                case yy32 => (intro w; go_simp; (try with_reducible rfl))
                (try simp only [layE])
                refine E_take0 hQ (fun h => absurd h (by decide)) 35 (v := (.bool false)) rfl rfl (by kernel_rfl) (by kernel_rfl) (by kernel_rfl) (by decide) (by rfl) ?yy33 ?yr33
                case yy33 => (intro w; go_simp; (try with_reducible rfl))
                (try simp only [layE])
                refine E_take0 hQ (fun h => absurd h (by decide)) 36 (v := (.bool false)) rfl rfl (by kernel_rfl) (by kernel_rfl) (by kernel_rfl) (by decide) (by rfl) ?yy34 ?yr34
                case yy34 => (intro w; go_simp; (try with_reducible rfl))
                (try simp only [layE])
                refine E_done (by kernel_rfl) ?_ _
                refine hK'.out _ _ ?_
                clear hK' hQ p0 p1 p2 r0 r1 r2 t0 t1 t2 t3
                have HBF := Lib.hid (bthen (bthen HB.out (Nat.le_refl _) HB11.out) (Nat.le_refl _) hbv4)
                clear hbv4
                go_wp2_with fail
                go_roundw
                case rel => exact ⟨t + 1, by omega, by go_num, HBF⟩
                case measure => simp [intOf]; omega
              · rw [hri] at HRT
                rw [hcl] at HCL
                rw [hri, hcl, Bool.and_self, if_pos rfl] at HGA HGB
                simp only [Option.getD_some, Option.isSome_some] at HGA HGB
                clear hri hcl
                go_wp2_with fail
                refine (HGA.out wr HB.out).mono ?_
                rintro e w8 ⟨va, vc, rfl, hd8, hb8⟩
                have hb9 : Below wr.heap.size wr (w8.alloc (.cells #[.string dq.name, .string dq.text, .slice va dq.steps.length vc] 24)) := hb8.alloc hb8.size _
                have hg9 := World.alloc_heap_new w8 (.cells #[.string dq.name, .string dq.text, .slice va dq.steps.length vc] 24)
                have hd9 := hd8.below ((Below.refl _ w8).alloc (Nat.le_refl _) (.cells #[.string dq.name, .string dq.text, .slice va dq.steps.length vc] 24))
                have HB9 := Lib.hid hb9
                have HG9 := Lib.hid hg9
                have HD9 := Lib.hid hd9
                have c4 := cellB hb9 HC3.out
                clear hb8 hb9 hg9 hd8 hd9 c3 HGA
                go_upto_region 29 with fail
                generalize hw9 : (w8.alloc (.cells #[.string dq.name, .string dq.text, .slice va dq.steps.length vc] 24)) = w9 at *
                generalize w8.heap.size = e1 at *
                clear hw9
                go_wp2_with fail
                refine (HGB.out w9 (bthen HB.out (Nat.le_refl _) HB9.out)).mono ?_
                rintro e w10 ⟨vb, vd, rfl, hd10, hb10⟩
                have hb11 : Below w9.heap.size w9 (w10.alloc (.cells #[.string dq.name, .string dq.text, .slice vb dq.steps.length vd] 24)) := hb10.alloc hb10.size _
                have hg11 := World.alloc_heap_new w10 (.cells #[.string dq.name, .string dq.text, .slice vb dq.steps.length vd] 24)
                have hd11 := hd10.below ((Below.refl _ w10).alloc (Nat.le_refl _) (.cells #[.string dq.name, .string dq.text, .slice vb dq.steps.length vd] 24))
                have hg91 := (hb11.block _ (Array.getElem?_eq_some_iff.1 HG9.out).1).trans HG9.out
                have HX11 := Lib.hid (HD9.out.below hb11)
                have HY11 := Lib.hid hd11
                have HG11 := Lib.hid hg11
                have HG91 := Lib.hid hg91
                have HB11 := Lib.hid (bthen HB9.out (Nat.le_refl _) hb11)
                clear hb10 hb11 hg11 hg91 hd10 hd11 HGB c4 HD9 HG9 HB9
                go_upto_region 30 with fail
                generalize hw11 : (w10.alloc (.cells #[.string dq.name, .string dq.text, .slice vb dq.steps.length vd] 24)) = w11 at *
                generalize w10.heap.size = e2 at *
                clear hw11
                obtain ⟨p0, p1, p2, -, -, -⟩ := cells3h HG91.out
                obtain ⟨r0, r1, r2, -, -, -⟩ := cells3h HG11.out
                have t0 := cellB HB11.out HC0.out
                have t1 := cellB HB11.out HC1.out
                have t2 := cellB HB11.out HC2.out
                have t3 := cellB HB11.out HC3.out
                have HD11 := Lib.hid (HD.out.below HB11.out)
                have HS1 := Lib.hid (fun W (hW : Below w11.heap.size w11 W) => dSame_any dq dq _ _ _ _ _ _ W (HX11.out.below hW) (HY11.out.below hW))
                rw [sameD_refl] at HS1
                have HS2 := Lib.hid (fun W (hW : Below w11.heap.size w11 W) => dSame_any dq dq _ _ _ _ _ _ W (HX11.out.below hW) (HD11.out.below hW))
                rw [sameD_refl] at HS2
                refine E_region (S := (fun W => W.cell? ⟨e1, 0, none⟩ = some (.string dq.name) ∧ W.cell? ⟨e1, 1, none⟩ = some (.string dq.text) ∧ W.cell? ⟨e1, 2, none⟩ = some (.slice va dq.steps.length vc) ∧ W.cell? ⟨e2, 0, none⟩ = some (.string dq.name) ∧ W.cell? ⟨e2, 1, none⟩ = some (.string dq.text) ∧ W.cell? ⟨e2, 2, none⟩ = some (.slice vb dq.steps.length vd) ∧ W.cell? ⟨g, off + t * 3, none⟩ = some (.string dq.name) ∧ W.cell? ⟨g, off + t * 3 + 1, none⟩ = some (.string dq.text) ∧ W.cell? ⟨g, off + t * 3 + 2, none⟩ = some (.slice sa dq.steps.length sc) ∧ W.cell? ⟨g2, off2 + t, none⟩ = some (.string xq))) 33 (by kernel_rfl) ⟨p0, p1, p2, r0, r1, r2, t0, t1, t2, t3⟩ (fun _ _ _ _ _ h => h) (fun Q' hQ hK' hHeld => ?_)
                refine E_take0 hQ (fun _ => hHeld) 0 (v := ?zv1) rfl rfl (by kernel_rfl) (by kernel_rfl) (by kernel_rfl) (by decide) (by rfl) ?zy1 ?zr1
                case zy1 => (intro w; go_simp; (try with_reducible rfl))
                (try simp only [layE])
                refine E_take0 hQ (fun _ => hHeld) 1 (v := ?zv2) rfl rfl (by kernel_rfl) (by kernel_rfl) (by kernel_rfl) (by decide) (by rfl) ?zy2 ?zr2
                case zy2 => (intro w; go_simp; (try with_reducible rfl))
                (try simp only [layE])
                refine E_take0 hQ (fun _ => hHeld) 2 (v := (.bool false)) rfl rfl (by kernel_rfl) (by kernel_rfl) (by kernel_rfl) (by decide) (by rfl) ?zy3 ?zr3
                case zy3 => (intro w; go_simp; (try with_reducible rfl))
                (try simp only [layE])
                refine E_take0 hQ (fun _ => hHeld) 3 (v := (.bool false)) rfl rfl (by kernel_rfl) (by kernel_rfl) (by kernel_rfl) (by decide) (by rfl) ?zy4 ?zr4
                case zy4 => (intro w; go_simp; (try with_reducible rfl))
                (try simp only [layE])
                refine E_take hQ hHeld 4 (v := ?zv5) rfl rfl (by kernel_rfl) (by kernel_rfl) (by kernel_rfl) (by kernel_rfl) (by kernel_rfl) (by rfl) ?zy5 ?zr5
                case zy5 => (intro w hSw; (try dsimp only at hSw); go_simp; (try with_reducible rfl))
                (try simp only [layE])
                refine E_take hQ hHeld 5 (v := ?zv6) rfl rfl (by kernel_rfl) (by kernel_rfl) (by kernel_rfl) (by kernel_rfl) (by kernel_rfl) (by rfl) ?zy6 ?zr6
                case zy6 => (intro w hSw; (try dsimp only at hSw); go_simp; (try with_reducible rfl))
                (try simp only [layE])
                refine E_one 6 (by kernel_rfl) rfl (by rfl) (fun K hK => ?_)
                go_simp
                refine (HS1.out _ (Below.refl w11.heap.size w11).drew).mono ?_
                rintro e v1 ⟨rfl, hb6k⟩
                have hbv1 : Below w11.heap.size w11 v1 := bthen (Below.refl w11.heap.size w11).drew (Nat.le_refl _) hb6k
                (skip)
                refine hK.out _ _ (fun _ _ => ⟨cellB hb6k hHeld.1, cellB hb6k hHeld.2.1, cellB hb6k hHeld.2.2.1, cellB hb6k hHeld.2.2.2.1, cellB hb6k hHeld.2.2.2.2.1, cellB hb6k hHeld.2.2.2.2.2.1, cellB hb6k hHeld.2.2.2.2.2.2.1, cellB hb6k hHeld.2.2.2.2.2.2.2.1, cellB hb6k hHeld.2.2.2.2.2.2.2.2.1, cellB hb6k hHeld.2.2.2.2.2.2.2.2.2⟩) (fun hHeld' => ?_)
                replace hHeld := hHeld' (by rfl) (by decide)
                clear hK hHeld'
                (try simp only [layE])
                refine E_take0 hQ (fun _ => hHeld) 7 (v := (.bool false)) rfl rfl (by kernel_rfl) (by kernel_rfl) (by kernel_rfl) (by decide) (by rfl) ?zy7 ?zr7
                case zy7 => (intro w; go_simp; (try with_reducible rfl))
                (try simp only [layE])
                refine E_take0 hQ (fun _ => hHeld) 8 (v := (.bool false)) rfl rfl (by kernel_rfl) (by kernel_rfl) (by kernel_rfl) (by decide) (by rfl) ?zy8 ?zr8
                case zy8 => (intro w; go_simp; (try with_reducible rfl))
                (try simp only [layE])
                refine E_take0 hQ (fun _ => hHeld) 9 (v := (.bool false)) rfl rfl (by kernel_rfl) (by kernel_rfl) (by kernel_rfl) (by decide) (by rfl) ?zy9 ?zr9
                case zy9 => (intro w; go_simp; (try with_reducible rfl))
                (try simp only [layE])
                refine E_take0 hQ (fun _ => hHeld) 10 (v := (.bool true)) rfl rfl (by kernel_rfl) (by kernel_rfl) (by kernel_rfl) (by decide) (by rfl) ?zy10 ?zr10
                case zy10 => (intro w; go_simp; (try with_reducible rfl))
                (try simp only [layE])
                refine E_take0 hQ (fun _ => hHeld) 11 (v := (.bool true)) rfl rfl (by kernel_rfl) (by kernel_rfl) (by kernel_rfl) (by decide) (by rfl) ?zy11 ?zr11
                case zy11 => (intro w; go_simp; (try with_reducible rfl))
                (try simp only [layE])
                refine E_take hQ hHeld 12 (v := ?zv12) rfl rfl (by kernel_rfl) (by kernel_rfl) (by kernel_rfl) (by kernel_rfl) (by kernel_rfl) (by rfl) ?zy12 ?zr12
                case zy12 => (intro w hSw; (try dsimp only at hSw); go_simp; (try with_reducible rfl))
                (try simp only [layE])
                refine E_take0 hQ (fun _ => hHeld) 13 (v := ?zv13) rfl rfl (by kernel_rfl) (by kernel_rfl) (by kernel_rfl) (by decide) (by rfl) ?zy13 ?zr13
                case zy13 => (intro w; go_simp; (try with_reducible rfl))
                (try simp only [layE])
                refine E_take0 hQ (fun _ => hHeld) 14 (v := ?zv14) rfl rfl (by kernel_rfl) (by kernel_rfl) (by kernel_rfl) (by decide) (by rfl) ?zy14 ?zr14
                case zy14 => (intro w; go_simp; (try with_reducible rfl))
                (try simp only [layE])
                refine E_take0 hQ (fun _ => hHeld) 15 (v := ?zv15) rfl rfl (by kernel_rfl) (by kernel_rfl) (by kernel_rfl) (by decide) (by rfl) ?zy15 ?zr15
                case zy15 => (intro w; go_simp; (try with_reducible rfl))
                (try simp only [layE])
                refine E_take hQ hHeld 16 (v := ?zv16) rfl rfl (by kernel_rfl) (by kernel_rfl) (by kernel_rfl) (by kernel_rfl) (by kernel_rfl) (by rfl) ?zy16 ?zr16
                case zy16 => (intro w hSw; (try dsimp only at hSw); go_simp; (try with_reducible rfl))
                (try simp only [layE])
                refine E_one 17 (by kernel_rfl) rfl (by rfl) (fun K hK => ?_)
                go_simp
                refine (HS2.out _ hbv1).mono ?_
                rintro e v2 ⟨rfl, hb7k⟩
                have hbv2 : Below w11.heap.size w11 v2 := bthen hbv1 (Nat.le_refl _) hb7k
                (skip)
                refine hK.out _ _ (fun _ _ => ⟨cellB hb7k hHeld.1, cellB hb7k hHeld.2.1, cellB hb7k hHeld.2.2.1, cellB hb7k hHeld.2.2.2.1, cellB hb7k hHeld.2.2.2.2.1, cellB hb7k hHeld.2.2.2.2.2.1, cellB hb7k hHeld.2.2.2.2.2.2.1, cellB hb7k hHeld.2.2.2.2.2.2.2.1, cellB hb7k hHeld.2.2.2.2.2.2.2.2.1, cellB hb7k hHeld.2.2.2.2.2.2.2.2.2⟩) (fun hHeld' => ?_)
                replace hHeld := hHeld' (by rfl) (by decide)
                clear hK hHeld'
                (try simp only [layE])
                refine E_take0 hQ (fun _ => hHeld) 18 (v := (.bool false)) rfl rfl (by kernel_rfl) (by kernel_rfl) (by kernel_rfl) (by decide) (by rfl) ?zy17 ?zr17
                case zy17 => (intro w; go_simp; (try with_reducible rfl))
                (try simp only [layE])
                refine E_take0 hQ (fun _ => hHeld) 19 (v := (.bool false)) rfl rfl (by kernel_rfl) (by kernel_rfl) (by kernel_rfl) (by decide) (by rfl) ?zy18 ?zr18
                case zy18 => (intro w; go_simp; (try with_reducible rfl))
                (try simp only [layE])
                refine E_take0 hQ (fun _ => hHeld) 20 (v := (.bool false)) rfl rfl (by kernel_rfl) (by kernel_rfl) (by kernel_rfl) (by decide) (by rfl) ?zy19 ?zr19
                case zy19 => (intro w; go_simp; (try with_reducible rfl))
                (try simp only [layE])
                refine E_take0 hQ (fun _ => hHeld) 21 (v := (.bool false)) rfl rfl (by kernel_rfl) (by kernel_rfl) (by kernel_rfl) (by decide) (by rfl) ?zy20 ?zr20
                case zy20 => (intro w; go_simp; (try with_reducible rfl))
                (try simp only [layE])
                refine E_take0 hQ (fun _ => hHeld) 22 (v := (.bool true)) rfl rfl (by kernel_rfl) (by kernel_rfl) (by kernel_rfl) (by decide) (by rfl) ?zy21 ?zr21
                case zy21 => (intro w; go_simp; (try with_reducible rfl))
                (try simp only [layE])
                refine E_take0 hQ (fun _ => hHeld) 23 (v := ?zv22) rfl rfl (by kernel_rfl) (by kernel_rfl) (by kernel_rfl) (by decide) (by rfl) ?zy22 ?zr22
                case zy22 => (intro w; go_simp; (try with_reducible rfl))
                (try simp only [layE])
                refine E_take0 hQ (fun _ => hHeld) 24 (v := ?zv23) rfl rfl (by kernel_rfl) (by kernel_rfl) (by kernel_rfl) (by decide) (by rfl) ?zy23 ?zr23
                case zy23 => (intro w; go_simp; (try with_reducible rfl))
                (try simp only [layE])
                refine E_take0 hQ (fun _ => hHeld) 25 (v := ?zv24) rfl rfl (by kernel_rfl) (by kernel_rfl) (by kernel_rfl) (by decide) (by rfl) ?zy24 ?zr24
                case zy24 => (intro w; go_simp; (try with_reducible rfl))
                (try simp only [layE])
                refine E_take hQ hHeld 26 (v := ?zv25) rfl rfl (by kernel_rfl) (by kernel_rfl) (by kernel_rfl) (by kernel_rfl) (by kernel_rfl) (by rfl) ?zy25 ?zr25
                case zy25 => (intro w hSw; (try dsimp only at hSw); go_simp; (try with_reducible rfl))
                (try simp only [layE])
                refine E_one 27 (by kernel_rfl) rfl (by rfl) (fun K hK => ?_)
                go_simp
                refine (HRT.out v2).mono ?_
                rintro e v3 ⟨rfl, hv3⟩
                obtain rfl := hv3.symm
                (skip)
                refine hK.out _ _ (fun _ _ => hHeld) (fun hHeld' => ?_)
                replace hHeld := hHeld' (by rfl) (by decide)
                clear hK hHeld'
                (try simp only [layE])
                refine E_take0 hQ (fun _ => hHeld) 28 (v := (.bool true)) rfl rfl (by kernel_rfl) (by kernel_rfl) (by kernel_rfl) (by decide) (by rfl) ?zy26 ?zr26
                case zy26 => (intro w; go_simp; (try with_reducible rfl))
                (try simp only [layE])
                refine E_take0 hQ (fun _ => hHeld) 29 (v := ?zv27) rfl rfl (by kernel_rfl) (by kernel_rfl) (by kernel_rfl) (by decide) (by rfl) ?zy27 ?zr27
                case zy27 => (intro w; go_simp; (try with_reducible rfl))
                (try simp only [layE])
                refine E_take0 hQ (fun _ => hHeld) 30 (v := ?zv28) rfl rfl (by kernel_rfl) (by kernel_rfl) (by kernel_rfl) (by decide) (by rfl) ?zy28 ?zr28
                case zy28 => (intro w; go_simp; (try with_reducible rfl))
                (try simp only [layE])
                refine E_take0 hQ (fun _ => hHeld) 31 (v := ?zv29) rfl rfl (by kernel_rfl) (by kernel_rfl) (by kernel_rfl) (by decide) (by rfl) ?zy29 ?zr29
                case zy29 => (intro w; go_simp; (try with_reducible rfl))
                (try simp only [layE])
                refine E_take hQ hHeld 32 (v := ?zv30) rfl rfl (by kernel_rfl) (by kernel_rfl) (by kernel_rfl) (by kernel_rfl) (by kernel_rfl) (by rfl) ?zy30 ?zr30
                case zy30 => (intro w hSw; (try dsimp only at hSw); go_simp; (try with_reducible rfl))
                (try simp only [layE])
                refine E_one 33 (by kernel_rfl) rfl (by rfl) (fun K hK => ?_)
                go_simp
                refine (HCL.out _ (HD11.out.below hbv2)).mono ?_
                rintro e v4 ⟨rfl, hb9k⟩
                have hbv4 : Below w11.heap.size w11 v4 := bthen hbv2 (Nat.le_refl _) hb9k
                (skip)
                refine hK.out _ _ (fun _ h => absurd rfl h) (fun _ => ?_)
                clear hK hHeld
                (try simp only [layE])
                refine E_take0 hQ (fun h => absurd h (by decide)) 34 (v := (.bool true)) rfl rfl (by kernel_rfl) (by kernel_rfl) (by kernel_rfl) (by decide) (by rfl) ?zy31 ?zr31
                case zy31 => (intro w; go_simp; (try with_reducible rfl))
                (try simp only [layE])
                refine E_take0 hQ (fun h => absurd h (by decide)) 35 (v := (.bool false)) rfl rfl (by kernel_rfl) (by kernel_rfl) (by kernel_rfl) (by decide) (by rfl) ?zy32 ?zr32
                case zy32 => (intro w; go_simp; (try with_reducible rfl))
                (try simp only [layE])
                refine E_take0 hQ (fun h => absurd h (by decide)) 36 (v := (.bool false)) rfl rfl (by kernel_rfl) (by kernel_rfl) (by kernel_rfl) (by decide) (by rfl) ?zy33 ?zr33
                case zy33 => (intro w; go_simp; (try with_reducible rfl))
                (try simp only [layE])
                refine E_done (by kernel_rfl) ?_ _
                refine hK'.out _ _ ?_
                clear hK' hQ p0 p1 p2 r0 r1 r2 t0 t1 t2 t3
                have HBF := Lib.hid (bthen (bthen HB.out (Nat.le_refl _) HB11.out) (Nat.le_refl _) hbv4)
                clear hbv4
                go_wp2_with fail
                go_roundw
                case rel => exact ⟨t + 1, by omega, by go_num, HBF⟩
                case measure => simp [intOf]; omega
            · have d3 : decide ((t : Int) < (l.length : Int)) = false := decide_eq_false (by omega)
              go_wp2_with fail
              clear hlt d3 ht
              have HB8 := Lib.hid (HB7.out.trans (HB.out.mono HB7.out.size))
              have HN8 := Lib.hid (HN7.out.below HB.out)
              clear HB
              rename World => w8
              go_loopw [17] (fun i wi => ∃ q : Nat, q ≤ ns.length ∧ i = .int .i64 ((q : Int) + 1) ∧ Hid (Below w8.heap.size w8 wi)) (fun i _ => ns.length + 1 - (intOf i).toNat)
              case atStart => exact ⟨0, by omega, rfl, Lib.hid (Below.refl _ _)⟩
              case round =>
                obtain ⟨q, hq, rfl, HBI⟩ := hrel
                rename World => wi
                by_cases hlt : q + 1 < ns.length
                · obtain ⟨g3, off3, he3, -, -, c5⟩ := strs_at (HN8.out.below HBI.out) (show q < ns.length by omega)
                  cases he3
                  obtain ⟨g4, off4, he4, -, -, c6⟩ := strs_at (HN8.out.below HBI.out) hlt
                  cases he4
                  have hu0 : (0 : Int) ≤ (q : Int) := by omega
                  have hu1 : (q : Int) < (ns.length : Int) := by omega
                  have hu2 : (q : Int) + 1 < (ns.length : Int) := by omega
                  have hu3 : (0 : Int) ≤ (q : Int) + 1 := by omega
                  have hrise := List.pairwise_iff_getElem.1 HRI.out q (q + 1) (by omega) hlt (by omega)
                  generalize ns[q]'(by omega) = s1 at *
                  generalize ns[q + 1] = s2 at *
                  have hless : Op.bytesLess s1.toList s2.toList = true := by
                    rw [Go.Proofs.bytesLess_eq, Lib.toList_data, Lib.toList_data]
                    exact decide_eq_true hrise
                  clear hrise
                  go_wp2_with fail
                  go_quiet (fail)
                  go_wp2_with fail
                  go_roundw
                  case rel => exact ⟨q + 1, by omega, by go_num, Lib.hid (belowN HBI.out nq)⟩
                  case measure => simp [intOf]; omega
                · have d3 : decide ((q : Int) + 1 < (ns.length : Int)) = false := decide_eq_false (by omega)
                  go_wp2_with fail
                  go_ret
                  exact ⟨rfl, HB8.out.trans (HBI.out.mono HB8.out.size)⟩
end Go.Proofs.YtgfiogjfgbegpaaGreat
