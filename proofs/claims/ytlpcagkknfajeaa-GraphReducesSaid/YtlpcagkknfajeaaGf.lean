/-
  graph.Order: contract.
-/
import Derived.Test.YtlpcagkknfajeaaGe
import Derived.Laws.MakeOwn
import Derived.Test.YtlpcagkknfajeaaSc
import Derived.Sort.LoopGhostIn
namespace Go.Proofs.Ytlpcagkknfajeaa
open Go.RowKit
attribute [local go_sem] Oper.semAt_some wide_fn wide_depth wide_fn' wide_depth'

/-- The greedy order: what is there, and the order so far. -/
def ordF (rows : List (List Int)) : Nat → List Bool × List Nat → List Bool × List Nat
  | 0, s => s
  | f + 1, (th, out) => match (List.range rows.length).find? (rdyB rows th) with
    | none => (th, out)
    | some i => ordF rows f (th.set i true, out ++ [i])
def ordO (rows : List (List Int)) : List Nat := (ordF rows rows.length (List.replicate rows.length false, [])).2
def natI (l : List Nat) : List Value := l.map fun (j : Nat) => Value.int .i64 (j : Int)

theorem ordF_none {rows : List (List Int)} {f : Nat} {th : List Bool} {out : List Nat} (h : (List.range rows.length).find? (rdyB rows th) = none) : ordF rows f (th, out) = (th, out) := by
  cases f with
  | zero => rfl
  | succ f => simp only [ordF, h]
theorem find_none {p : Nat → Bool} {n : Nat} (h : ∀ j, j < n → p j = false) : (List.range n).find? p = none := by
  rw [List.find?_eq_none]
  intro x hx
  rw [h x (List.mem_range.1 hx)]
  simp
theorem find_some {p : Nat → Bool} {n k : Nat} (hk : k < n) (h : ∀ j, j < k → p j = false) (hp : p k = true) : (List.range n).find? p = some k := by
  obtain ⟨m, rfl⟩ : ∃ m, n = k + (m + 1) := ⟨n - k - 1, by omega⟩
  rw [List.range_add, List.find?_append, find_none h, Option.none_or, List.range_succ_eq_map]
  simp [hp]

theorem madeFalse (n : Nat) : madeCells #[Value.bool false] n = (bls (List.replicate n false)).toArray := by
  apply Array.ext
  · simp [madeCells, bls]
  · intro i h1 h2
    simp [madeCells, bls, Nat.mod_one]

theorem Try.info_boolg : (Try.prog.info? 4).map (fun i => (i.zero, i.size, i.bytes)) = some (some (.bool false), 1, 1) := by kernel_rfl
theorem make_bools (n : Nat) (w : World) (h : n ≤ 1073741824) : (Instr.makeSlice 60 (.int .i64 n) (.int .i64 n)).run Try.prog w = .ok (.slice (some ⟨w.heap.size, 0, none⟩) n n) (w.alloc (.cells (bls (List.replicate n false)).toArray 4)) := by
  obtain ⟨i0, hi, hz0, hz1, hz2⟩ := info_parts Try.info_boolg
  have := run_make (P := Try.prog) w 60 4 i0 (.bool false) Try.underlying60 hi hz0 .i64 .i64 n n (by omega) (by omega) (by rw [hz2]; omega) (by omega)
  rw [this, hz1]
  simp only [Int.toNat_natCast, Nat.mul_one]
  rw [show (Value.bool false).cells = #[.bool false] from rfl, madeFalse]

theorem bools_rds {W : World} {g : Nat} {th : List Bool} {fr : Nat × Nat} (h : W.heap[g]? = some (.cells (bls th).toArray 4 fr)) (hl : th.length ≤ 1073741824) : RdS W (.slice (some ⟨g, 0, none⟩) th.length th.length) 1 th.length (bls th) := by
  refine ⟨by simp [bls], _, _, rfl, Nat.le_refl _, by unfold maxLen; omega, .inr ⟨g, 0, rfl, fun i c hi => ?_⟩⟩
  simp only [World.cell?, h, Nat.zero_add, Option.bind_some]
  simpa using hi

theorem own_set {W : World} {base : Nat} {e : TypeId} {size n : Nat} {v : Value} {xs : List Value} {B i : Nat} (x : Value) (h : W.ownsRow base e size v n xs) (hB : B < base) : (W.setCell ⟨B, i, none⟩ x).ownsRow base e size v n xs :=
  h.kept (row := some B) ⟨rfl, rfl, rfl, (KeepsWalks.setCell W _ x).size, fun k _ hk => Below.heap_setCell _ _ _ k (fun e => hk (by rw [e]))⟩ (.inr (fun e => by have := (h.lt B e).1; omega))

set_option maxRecDepth 100000 in
set_option maxHeartbeats 1000000 in
theorem Order_any (rows : List (List Int)) (v : Value) (w : World) (hr : Rows2 w v rows) (hlen : rows.length ≤ 1073741824) :
    Calls Try.prog 18 #[v] w fun e w' => ∃ v', e = .returned (.tuple #[v', .bool (decide ((ordO rows).length = rows.length))]) ∧ w'.ownsRow w.heap.size 3 1 v' (ordO rows).length (natI (ordO rows)) ∧ Below w.heap.size w w' := by
  obtain ⟨i0, hi, hz0, hz1, hz2⟩ := info_parts Try.info_i64g
  have HR := Lib.hid hr
  obtain ⟨a, cap, rfl⟩ := hr.form
  clear hr
  have hmk : ∀ w : World, (Instr.makeSlice 60 (.int .i64 rows.length) (.int .i64 rows.length)).run Try.prog w = .ok (.slice (some ⟨w.heap.size, 0, none⟩) rows.length rows.length) (w.alloc (.cells (bls (List.replicate rows.length false)).toArray 4)) := fun w => make_bools rows.length w hlen
  refine (callsIn_wide (n := 0)).1 ?_
  refine callsIn_of_wp Try.func18 rfl trivial ?_ rfl
  simp only [Try.ntmps18, List.size_toArray, List.length_cons, List.length_nil, Nat.reduceAdd, Nat.reduceSub, Array.replicate_succ, Array.replicate_zero, List.push_toArray, List.append_toArray, List.nil_append, List.cons_append]
  gi_wp2
  refine wpIn_scope ?_
  gi_wp2
  clear hmk
  refine wpIn_label ?_
  have hrow0 : (w.alloc (.cells (bls (List.replicate rows.length false)).toArray 4)).heap[w.heap.size]? = some (.cells (bls (List.replicate rows.length false)).toArray 4 (0, 0)) := World.alloc_heap_new w _
  have hbl0 : Below w.heap.size w (w.alloc (.cells (bls (List.replicate rows.length false)).toArray 4)) := (Below.refl _ w).alloc (Nat.le_refl _) _
  generalize w.alloc (.cells (bls (List.replicate rows.length false)).toArray 4) = w1 at *
  have HROW := Lib.hid hrow0
  clear hrow0
  gi_wp2
  gi_loopg [5] (rows.length + 1) (fun gk out wr => ∃ (th : List Bool) (ol : List Nat), ol.length + gk = rows.length + 1 ∧ ol.length ≤ rows.length ∧ th.length = rows.length ∧ Hid (wr.heap[w.heap.size]? = some (.cells (bls th).toArray 4 (0, 0))) ∧ wr.ownsRow (w.heap.size + 1) 3 1 out ol.length (natI ol) ∧ Hid (ordF rows (rows.length - ol.length) (th, ol) = ordF rows rows.length (List.replicate rows.length false, [])) ∧ Below w.heap.size w wr)
  case atStart => exact ⟨_, [], by simp, by simp, by simp, HROW, by simpa [natI] using World.ownsRow_nil w1 (w.heap.size + 1) 3 1, Lib.hid (by simp), hbl0⟩
  case round =>
    obtain ⟨th, ol, hg, hol, hth, HB, hown, HO, hb⟩ := hrel
    have hgk : gk = rows.length + 1 - ol.length := by omega
    subst hgk
    clear hg HROW
    rename World => wo
    obtain ⟨oa, oc, rfl⟩ := (RdS.of_owns hown).form
    by_cases hfull : ol.length = rows.length
    · have HE : Hid (ordO rows = ol) := Lib.hid (by have := HO.out; rw [hfull, Nat.sub_self] at this; unfold ordO; rw [← this]; rfl)
      gi_wp2
      rw [Exit.noGoto_ret]
      gi_wp2
      rw [HE.out]
      refine bodyPost_ret (results_tmp2 rfl _ _ _) rfl ⟨.slice oa ol.length oc, ?_, ownsRow_mono hown (by omega), hb⟩
      simp [hfull]
    · have hlt : ol.length < rows.length := by omega
      have hlt' : (ol.length : Int) < rows.length := by omega
      have HL := Lib.hid hfull
      clear hfull
      gi_wp2
      gi_loopg [5, 17] (rows.length + 1) (fun gk out i wi => ∃ k : Nat, k + gk = rows.length + 1 ∧ k ≤ rows.length ∧ out = .slice oa ol.length oc ∧ i = .int .i64 k ∧ Below wo.heap.size wo wi ∧ Hid (∀ j, j < k → rdyB rows th j = false)) 
      case atStart => exact ⟨0, by omega, by omega, rfl, rfl, Below.refl _ _, Lib.hid (fun j h => by omega)⟩
      case round =>
        obtain ⟨k, hkg, hk, rfl, rfl, hbi, HA⟩ := hrel
        have hgk : gk = rows.length + 1 - k := by omega
        subst hgk
        clear hkg
        have HBI : Hid (wr.heap[w.heap.size]? = some (.cells (bls th).toArray 4 (0, 0))) := Lib.hid (by have h := HB.out; rw [hbi.block _ (Array.getElem?_eq_some_iff.1 h).1]; exact h)
        have HSZ : Hid (w.heap.size < wo.heap.size) := Lib.hid (Array.getElem?_eq_some_iff.1 HB.out).1
        have hbw : Below w.heap.size w wr := bthen hb (Nat.le_refl _) hbi
        by_cases hkn : k < rows.length
        · have hkn' : (k : Int) < rows.length := by omega
          have hkt : k < th.length := by omega
          have HM : Hid (∀ W : World, W = wr → Calls Try.prog 37 #[.slice a rows.length cap, .slice (some ⟨w.heap.size, 0, none⟩) rows.length rows.length, .int .i64 k] W fun e w' => e = .returned (.bool (mayB rows th k)) ∧ Below W.heap.size W w') :=
            Lib.hid (fun W hW => by subst hW; exact may_any rows th k _ _ W (HR.out.below hbw) (by rw [← hth]; exact bools_rds HBI.out (by omega)) hkn)
          have tcell : wr.cell? ⟨w.heap.size, k, none⟩ = some (.bool th[k]) := by
            simp only [World.cell?, HBI.out, Option.bind_some]
            simp [bls, hkt]
          have HBD : Hid (rdyB rows th k = (!th[k] && mayB rows th k)) := Lib.hid (by unfold rdyB thereB; simp [hkt])
          have HNO : Hid (rdyB rows th k = false → ∀ j, j < k + 1 → rdyB rows th j = false) := Lib.hid (fun h j hj => by
            rcases Nat.lt_or_ge j k with h' | h'
            · exact HA.out j h'
            · have : j = k := by omega
              subst this; exact h)
          have HYES : Hid (rdyB rows th k = true → ordF rows (rows.length - ol.length) (th, ol) = ordF rows (rows.length - (ol.length + 1)) (th.set k true, ol ++ [k])) := Lib.hid (fun h => by
            obtain ⟨m, hm⟩ : ∃ m, rows.length - ol.length = m + 1 := ⟨rows.length - ol.length - 1, by omega⟩
            have hm2 : rows.length - (ol.length + 1) = m := by omega
            rw [hm, hm2]
            simp only [ordF, find_some hkn HA.out h])
          generalize mayB rows th k = m at *
          generalize th[k] = bt at *
          cases bt with
          | true =>
            have HK := Lib.hid (HNO.out (by rw [HBD.out]; rfl))
            gi_wp2
            gi_roundg (rows.length + 1 - (k + 1))
            case measure => omega
            case rel => exact ⟨k + 1, by omega, by omega, rfl, by go_num, hbi, HK⟩
          | false =>
            cases m with
            | false =>
              have HK := Lib.hid (HNO.out (by rw [HBD.out]; rfl))
              gi_wp2_with (gi_at_call 37; refine (callsIn_wide.2 (HM.out _ rfl)).mono ?_; rintro e w3 ⟨rfl, hb3⟩)
              gi_roundg (rows.length + 1 - (k + 1))
              case measure => omega
              case rel => exact ⟨k + 1, by omega, by omega, rfl, by go_num, bthen hbi (Nat.le_refl _) hb3, HK⟩
            | true =>
              have HK := Lib.hid (HYES.out (by rw [HBD.out]; rfl))
              gi_wp2_with (first | (gi_at_call 37; refine (callsIn_wide.2 (HM.out _ rfl)).mono ?_; rintro e w3 ⟨rfl, hb3⟩; have hB3 := (hb3.block _ (Array.getElem?_eq_some_iff.1 HBI.out).1).trans HBI.out; have HB4 := Lib.hid (setCell_heap k (.bool true) hB3); have hc3 : w3.cell? ⟨w.heap.size, k, none⟩ = some (.bool false) := cellB hb3 tcell; have hf3 : w3.frozen? ⟨w.heap.size, k, none⟩ = false := (by simp [World.frozen?, hB3]); clear hB3) | (gi_at_builtin; go_must (refine wpListIn_push rfl _ _ 46 rfl (w.heap.size + 1) 3 i0 (.int .i64 0) 1 8 Try.underlying46 hi hz0 hz1 hz2 rfl (by decide) _ _ _ rfl ((own_set (.bool true) (ownsB (ownsB hown hbi) hb3) (Nat.lt_succ_self _)).alloc _) ⟨w3.heap.size, 0, none⟩ 1 1 [_] rfl rfl (by first | exact cell_one_new _ _ _ | simpa using cell_one_new (w3.setCell ⟨w.heap.size, k, none⟩ (.bool true)) _ _) (by simp [Value.oneCell']) (by unfold maxLen; omega) (by omega) (by have := (HSZ.out); have := hb3.size; have := hbi.size; simp; omega) ?_; intro v' w5 hown' hgrow hfr)))
              have hgrow : ((w3.setCell ⟨w.heap.size, k, none⟩ (.bool true)).alloc _).grownBy w5 (Value.slice oa ol.length oc).ownBlock := hgrow
              have hset : (bls th).toArray.setIfInBounds k (.bool true) = (bls (th.set k true)).toArray := by simp [bls, List.map_set]
              have HB5 := Lib.hid (kept_push HB4.out hgrow (fun e => by have := (hown.lt _ e).1; omega))
              rw [hset] at HB5
              gi_roundg (rows.length + 1 - (ol.length + 1))
              case measure => omega
              case rel => exact ⟨th.set k true, ol ++ [k], by simp; omega, by simp; omega, by simpa using hth, HB5, by simpa [natI] using hown', Lib.hid (by rw [List.length_append, List.length_singleton, ← HK.out]; exact HO.out), below_push ((bthen hbw (Nat.le_refl _) hb3).setCell (p := ⟨w.heap.size, k, none⟩) (Nat.le_refl _) _) (by have := HSZ.out; have := hb3.size; have := hbi.size; simp; omega) (own_set (.bool true) (ownsB (ownsB hown hbi) hb3) (Nat.lt_succ_self _)) (Nat.le_succ _) hgrow⟩
        · have hd : ∀ j, j < rows.length → rdyB rows th j = false := fun j hj => HA.out j (by omega)
          have HE : Hid (ordO rows = ol) := Lib.hid (by have := HO.out; rw [ordF_none (find_none hd)] at this; unfold ordO; rw [← this])
          have hkk : k = rows.length := by omega
          clear hd
          gi_wp2
          rw [Exit.noGoto_ret]
          gi_wp2
          have hne : ((ol.length : Int) == (rows.length : Int)) = decide (ol.length = rows.length) := by rw [Bool.eq_iff_iff]; simp; try omega
          rw [HE.out]
          refine bodyPost_ret (results_tmp2 rfl _ _ _) rfl ⟨.slice oa ol.length oc, ?_, ownsRow_mono (ownsB hown hbi) (by omega), hbw⟩
          simp [hne]
end Go.Proofs.Ytlpcagkknfajeaa
