/-
  names.places: contract.
-/
import Derived.Deep.DeepCutAuto
import Derived.Test.YtgfiogjfgbegpaaGreatBz35
import Derived.Test.YtgfiogjfgbegpaaGreatBz40
import Derived.Test.YtgfiogjfgbegpaaGreatBz45
namespace Go.Proofs.YtgfiogjfgbegpaaGreat
open Go Go.RowKit Go.Maps Go.WideShapes

theorem idxStep_snoc (s : StepD) (n : ByteArray) : ∀ (l : List StepD) (i : Nat), idxStep (l ++ [s]) n i = if 0 ≤ idxStep l n i then idxStep l n i else if s.name = n then ((i + l.length : Nat) : Int) else -1
  | [], i => by simp [idxStep]
  | a :: l, i => by
    rw [List.cons_append, idxStep, idxStep]
    split
    · rename_i h
      rw [if_pos (by omega)]
    · rename_i h
      rw [idxStep_snoc s n l (i + 1), List.length_cons, show i + 1 + l.length = i + (l.length + 1) by omega]
theorem idxStep_lt (n : ByteArray) : ∀ (l : List StepD) (i : Nat), -1 ≤ idxStep l n i ∧ idxStep l n i < ((i + l.length : Nat) : Int) ∧ (0 ≤ idxStep l n i → (i : Int) ≤ idxStep l n i)
  | [], i => by simp [idxStep]; omega
  | a :: l, i => by
    rw [idxStep]
    have := idxStep_lt n l (i + 1)
    split
    · simp; omega
    · simp at this ⊢; omega
def plN (l : List StepD) (n : ByteArray) : Option Int := if 0 ≤ idxStep l n 0 then some (idxStep l n 0) else none
theorem plN_old {l : List StepD} {s : StepD} {c : Int} (h : plN l s.name = some c) : plN (l ++ [s]) = plN l := by
  funext n
  unfold plN at *
  rw [idxStep_snoc]
  by_cases h1 : 0 ≤ idxStep l n 0
  · rw [if_pos h1]
  · rw [if_neg h1]
    have : s.name ≠ n := by
      rintro rfl
      rw [if_neg h1] at h
      cases h
    rw [if_neg h1, if_neg this, if_neg (by omega)]
theorem plN_new {l : List StepD} {s : StepD} (h : plN l s.name = none) : (fun y => if y = s.name then some ((l.length : Nat) : Int) else plN l y) = plN (l ++ [s]) := by
  funext n
  unfold plN at *
  rw [idxStep_snoc]
  by_cases h1 : 0 ≤ idxStep l n 0
  · have : n ≠ s.name := by
      rintro rfl
      rw [if_pos h1] at h
      cases h
    rw [if_neg this, if_pos h1, if_pos h1, if_pos h1]
  · by_cases h2 : n = s.name
    · rw [if_pos h2, if_neg h1, if_pos h2.symm, if_pos (by omega)]
      simp
    · rw [if_neg h2, if_neg h1, if_neg h1, if_neg (Ne.symm h2), if_neg (by omega)]
theorem take_succ_getS {l : List StepD} {k : Nat} (h : k < l.length) : l.take (k + 1) = l.take k ++ [l[k]] := by
  rw [List.take_add_one, List.getElem?_eq_getElem h]; rfl

set_option maxRecDepth 100000 in
set_option maxHeartbeats 4000000 in
theorem places_any (d : DefD) (cs : List Value) (sa : Option Addr) (sc : Nat) (w : World) (h : DefR w cs d sa sc) (hlen : d.steps.length ≤ 1000000) :
    Calls Tryz.prog 76 #[.agg cs.toArray] w fun e w' => ∃ M n, e = .returned (.map (some M)) ∧ w.heap.size ≤ M ∧ MapO Tryz.prog 9 3 Value.string w' M n (plN d.steps) ∧ Below w.heap.size w w' := by
  obtain ⟨rfl, hna, hta, hva⟩ := h
  obtain ⟨_, _, he1, hl1, hl2⟩ := hva.form
  cases he1
  have hmm := @run_makeMap Tryz.prog
  have g0 := World.alloc_heap_new w (.cells #[.string d.name, .string d.text, .slice sa d.steps.length sc] 24)
  have hb0 : Below w.heap.size w (w.alloc (.cells #[.string d.name, .string d.text, .slice sa d.steps.length sc] 24)) := (Below.refl _ _).alloc (Nat.le_refl _) _
  have hm := MapO.made Tryz.prog 9 3 Value.string (w.alloc (.cells #[.string d.name, .string d.text, .slice sa d.steps.length sc] 24))
  have hb1 : Below w.heap.size w ((w.alloc (.cells #[.string d.name, .string d.text, .slice sa d.steps.length sc] 24)).alloc (.map #[] 0)) := hb0.alloc hb0.size _
  have hs0 : (w.alloc (.cells #[.string d.name, .string d.text, .slice sa d.steps.length sc] 24)).heap.size = w.heap.size + 1 := by simp
  have g1 : ((w.alloc (.cells #[.string d.name, .string d.text, .slice sa d.steps.length sc] 24)).alloc (.map #[] 0)).heap[w.heap.size]? = some (.cells #[.string d.name, .string d.text, .slice sa d.steps.length sc] 24 (0, 0)) := (Below.heap_alloc _ _ _ (by simp)).trans g0
  rw [hs0] at hm
  obtain ⟨p0, p1, p2, -, -, -⟩ := cells3h g1
  have HVA := Lib.hid hva
  clear hva g0 hb0 g1
  go_enter Tryz.func76, Tryz.ntmps76
  go_wp2_with fail
  generalize ((w.alloc (.cells #[.string d.name, .string d.text, .slice sa d.steps.length sc] 24)).alloc (.map #[] 0)) = w1 at *
  have HM0 := Lib.hid hm
  have HB0 := Lib.hid hb1
  have hM : w.heap.size ≤ w.heap.size + 1 := by omega
  generalize w.heap.size + 1 = M at *
  clear hm hb1 hs0 hmm p0 p1 p2
  go_loopg [12] (d.steps.length + 1) (fun gk i wr => ∃ (k : Nat), k + gk = d.steps.length + 1 ∧ k ≤ d.steps.length ∧ i = .int .i64 k ∧ Hid (MapO Tryz.prog 9 3 Value.string wr M k (plN (d.steps.take k))) ∧ Hid (Below w.heap.size w wr))
  case atStart => exact ⟨0, by omega, by omega, rfl, HM0, HB0⟩
  case round =>
    obtain ⟨k, hgk, hk, rfl, HM, HB⟩ := hrel
    have hg : gk = d.steps.length + 1 - k := by omega
    subst hg
    by_cases hkl : k < d.steps.length
    · have d1 : decide ((k : Int) < (d.steps.length : Int)) = true := decide_eq_true (by omega)
      have hk1 : (k : Int) < (d.steps.length : Int) := by omega
      obtain ⟨g, off, cap, aa1, ac1, ka1, kc1, ba1, bc1, he, q1, q2, hn1, z0, z1, z2, z3, z4, z5, z6, z7, z8, z9, z10, z11, z12⟩ := (HVA.out.below HB.out).at hkl
      cases he
      have hnm := hn1.ok.name
      have HT := Lib.hid (take_succ_getS hkl)
      have hlt : (d.steps.take k).length = k := by simp; omega
      have HLT := Lib.hid hlt
      clear hlt hn1
      generalize d.steps[k] = s at *
      go_upto_region 5 with fail
      have hx := World.alloc_heap_new wr (.cells #[.string s.name, .string s.action, .string s.undo, .slice aa1 s.after.length ac1, .int .i64 s.most, .int .i64 s.first, .int .i64 s.factor, .int .i64 s.limit, .int .u8 (s.note.kind : Int), .string s.note.text, .slice ka1 s.note.keys.length kc1, .slice ba1 s.note.kids.length bc1, .int .i64 s.note.line] 47)
      have hm1 := HM.out.alloc (.cells #[.string s.name, .string s.action, .string s.undo, .slice aa1 s.after.length ac1, .int .i64 s.most, .int .i64 s.first, .int .i64 s.factor, .int .i64 s.limit, .int .u8 (s.note.kind : Int), .string s.note.text, .slice ka1 s.note.keys.length kc1, .slice ba1 s.note.kids.length bc1, .int .i64 s.note.line] 47)
      have hbx : Below w.heap.size w (wr.alloc (.cells #[.string s.name, .string s.action, .string s.undo, .slice aa1 s.after.length ac1, .int .i64 s.most, .int .i64 s.first, .int .i64 s.factor, .int .i64 s.limit, .int .u8 (s.note.kind : Int), .string s.note.text, .slice ka1 s.note.keys.length kc1, .slice ba1 s.note.kids.length bc1, .int .i64 s.note.line] 47)) := HB.out.alloc HB.out.size _
      generalize (wr.alloc (.cells #[.string s.name, .string s.action, .string s.undo, .slice aa1 s.after.length ac1, .int .i64 s.most, .int .i64 s.first, .int .i64 s.factor, .int .i64 s.limit, .int .u8 (s.note.kind : Int), .string s.note.text, .slice ka1 s.note.keys.length kc1, .slice ba1 s.note.kids.length bc1, .int .i64 s.note.line] 47)) = wx at *
      generalize wr.heap.size = T at *
      clear z0 z1 z2 z3 z4 z5 z6 z7 z8 z9 z10 z11 z12
      obtain ⟨z0, -⟩ := cells13q hx
      have hlk := hm1.look_ok Tryz.keyText hnm
      cases hpl : plN (d.steps.take k) s.name with
      | some c =>
        rw [hpl] at hlk
        dsimp only [Option.getD_some, Option.isSome_some] at hlk
        have HM1 := Lib.hid hm1
        have HBX := Lib.hid hbx
        have HE := Lib.hid (plN_old hpl)
        clear hm1 hbx hpl hx
        go_wp2_with fail
        go_roundg (d.steps.length + 1 - (k + 1))
        case measure => omega
        case rel => exact ⟨k + 1, by omega, by omega, by go_num, Lib.hid (by rw [HT.out, HE.out]; obtain ⟨D, h1, h2⟩ := HM1.out; exact ⟨D, h1.mono (by omega), h2⟩), HBX⟩
      | none =>
        rw [hpl] at hlk
        dsimp only [Option.getD_none, Option.isSome_none] at hlk
        obtain ⟨w6, hup, hm6, hb6, hs6, ho6⟩ := hm1.store Tryz.keyText (by unfold maxLen; omega) hnm (c := ((k : Nat) : Int)) (i64_wf ⟨by omega, by omega⟩)
        have HM6 := Lib.hid hm6
        have HB6 := Lib.hid (hbx.trans (hb6.mono hM))
        have HE := Lib.hid (plN_new hpl)
        clear hm1 hbx hpl hx hm6 hb6 hs6 ho6
        go_wp2_with fail
        go_roundg (d.steps.length + 1 - (k + 1))
        case measure => omega
        case rel => exact ⟨k + 1, by omega, by omega, by go_num, Lib.hid (by rw [HT.out, ← HE.out, HLT.out]; exact HM6.out), HB6⟩
    · have d1 : decide ((k : Int) < (d.steps.length : Int)) = false := decide_eq_false (by omega)
      have hk1 : ¬ (k : Int) < (d.steps.length : Int) := by omega
      go_wp2_with fail
      go_ret
      rw [List.take_of_length_le (by omega)] at HM
      exact ⟨_, rfl, hM, ⟨k, HM.out⟩, HB.out⟩
end Go.Proofs.YtgfiogjfgbegpaaGreat
