/-
  graph: the reference's Order: contract.
-/
import Derived.Test.YtigeedaihbpjiaaGf
namespace Go.Proofs.Ytigeedaihbpjiaa
open Go.RowKit

set_option maxRecDepth 100000 in
set_option maxHeartbeats 1000000 in
theorem rOrder_any (rows : List (List Int)) (v : Value) (w : World) (hr : Rows2 w v rows) (hlen : rows.length ≤ 1073741824) :
    Calls Try.prog 62 #[v] w fun e w' => ∃ v', e = .returned v' ∧ w'.ownsRow w.heap.size 3 1 v' (ordO rows).length (natI (ordO rows)) ∧ Below w.heap.size w w' := by
  obtain ⟨i0, hi, hz0, hz1, hz2⟩ := info_parts Try.info_i64g
  have HR := Lib.hid hr
  obtain ⟨a, cap, rfl⟩ := hr.form
  clear hr
  have hmk : ∀ w : World, (Instr.makeSlice 110 (.int .i64 rows.length) (.int .i64 rows.length)).run Try.prog w = .ok (.slice (some ⟨w.heap.size, 0, none⟩) rows.length rows.length) (w.alloc (.cells (bls (List.replicate rows.length false)).toArray 4)) := fun w => make_bools rows.length w hlen
  go_enter Try.func62, Try.ntmps62
  go_wp2
  clear hmk
  have hrow0 : (w.alloc (.cells (bls (List.replicate rows.length false)).toArray 4)).heap[w.heap.size]? = some (.cells (bls (List.replicate rows.length false)).toArray 4 (0, 0)) := World.alloc_heap_new w _
  have hbl0 : Below w.heap.size w (w.alloc (.cells (bls (List.replicate rows.length false)).toArray 4)) := (Below.refl _ w).alloc (Nat.le_refl _) _
  generalize w.alloc (.cells (bls (List.replicate rows.length false)).toArray 4) = w1 at *
  have HROW := Lib.hid hrow0
  clear hrow0
  go_loopw [4, 5] (fun out r wr => ∃ (th : List Bool) (ol : List Nat) (q : Nat), q ≤ rows.length ∧ r = .int .i64 q ∧ ol.length ≤ q ∧ th.length = rows.length ∧ Hid (wr.heap[w.heap.size]? = some (.cells (bls th).toArray 4 (0, 0))) ∧ wr.ownsRow (w.heap.size + 1) 3 1 out ol.length (natI ol) ∧ Hid (ordF rows (rows.length - q) (th, ol) = ordF rows rows.length (List.replicate rows.length false, [])) ∧ Below w.heap.size w wr) (fun _ r _ => rows.length - (intOf r).toNat)
  case atStart => exact ⟨_, [], 0, by omega, rfl, by simp, by simp, HROW, by simpa [natI] using World.ownsRow_nil w1 (w.heap.size + 1) 3 1, Lib.hid (by simp), hbl0⟩
  case round =>
    obtain ⟨th, ol, q, hq, rfl, hol, hth, HB, hown, HO, hb⟩ := hrel
    clear HROW
    rename World => wo
    obtain ⟨oa, oc, rfl⟩ := (RdS.of_owns hown).form
    by_cases hlt : q < rows.length
    · have hlt' : (q : Int) < rows.length := by omega
      go_wp2
      go_loopw [4, 6] (fun out i wi => ∃ k : Nat, k ≤ rows.length ∧ out = .slice oa ol.length oc ∧ i = .int .i64 k ∧ Below wo.heap.size wo wi ∧ Hid (∀ j, j < k → rdyB rows th j = false)) (fun _ i _ => rows.length - (intOf i).toNat)
      case atStart => exact ⟨0, by omega, rfl, rfl, Below.refl _ _, Lib.hid (fun j h => by omega)⟩
      case round =>
        obtain ⟨k, hk, rfl, rfl, hbi, HA⟩ := hrel
        have HBI : Hid (wr.heap[w.heap.size]? = some (.cells (bls th).toArray 4 (0, 0))) := Lib.hid (by have h := HB.out; rw [hbi.block _ (Array.getElem?_eq_some_iff.1 h).1]; exact h)
        have HSZ : Hid (w.heap.size < wo.heap.size) := Lib.hid (Array.getElem?_eq_some_iff.1 HB.out).1
        have hbw : Below w.heap.size w wr := bthen hb (Nat.le_refl _) hbi
        by_cases hkn : k < rows.length
        · have hkn' : (k : Int) < rows.length := by omega
          have hkt : k < th.length := by omega
          have HM : Hid (∀ W : World, W = wr → Calls Try.prog 66 #[.slice a rows.length cap, .slice (some ⟨w.heap.size, 0, none⟩) rows.length rows.length, .int .i64 k] W fun e w' => e = .returned (.bool (mayB rows th k)) ∧ W = w') :=
            Lib.hid (fun W hW => by subst hW; exact rMay_any rows th k _ _ W (HR.out.below hbw) (by rw [← hth]; exact bools_rds HBI.out (by omega)) hkn)
          have tcell : wr.cell? ⟨w.heap.size, k, none⟩ = some (.bool th[k]) := by
            simp only [World.cell?, HBI.out, Option.bind_some]
            simp [bls, hkt]
          have HBD : Hid (rdyB rows th k = (!th[k] && mayB rows th k)) := Lib.hid (by unfold rdyB thereB; simp [hkt])
          have HNO : Hid (rdyB rows th k = false → ∀ j, j < k + 1 → rdyB rows th j = false) := Lib.hid (fun h j hj => by
            rcases Nat.lt_or_ge j k with h' | h'
            · exact HA.out j h'
            · have : j = k := by omega
              subst this; exact h)
          have HYES : Hid (rdyB rows th k = true → ordF rows (rows.length - q) (th, ol) = ordF rows (rows.length - (q + 1)) (th.set k true, ol ++ [k])) := Lib.hid (fun h => by
            obtain ⟨m, hm⟩ : ∃ m, rows.length - q = m + 1 := ⟨rows.length - q - 1, by omega⟩
            have hm2 : rows.length - (q + 1) = m := by omega
            rw [hm, hm2]
            simp only [ordF, find_some hkn HA.out h])
          generalize mayB rows th k = m at *
          generalize th[k] = bt at *
          cases bt with
          | true =>
            have HK := Lib.hid (HNO.out (by rw [HBD.out]; rfl))
            go_wp2
            go_roundw
            case rel => exact ⟨k + 1, by omega, rfl, by go_num, hbi, HK⟩
            case measure => simp [intOf]; omega
          | false =>
            cases m with
            | false =>
              have HK := Lib.hid (HNO.out (by rw [HBD.out]; rfl))
              go_wp2_with (go_at_call 66; refine (HM.out _ rfl).mono ?_; rintro e w3 ⟨rfl, rfl⟩)
              go_roundw
              case rel => exact ⟨k + 1, by omega, rfl, by go_num, hbi, HK⟩
              case measure => simp [intOf]; omega
            | true =>
              have HK := Lib.hid (HYES.out (by rw [HBD.out]; rfl))
              have HB4 := Lib.hid (setCell_heap k (.bool true) HBI.out)
              have hf3 : wr.frozen? ⟨w.heap.size, k, none⟩ = false := by simp [World.frozen?, HBI.out]
              go_wp2_with (first | (go_at_call 66; refine (HM.out _ rfl).mono ?_; rintro e w3 ⟨rfl, rfl⟩) | (at_builtin; go_must (refine wpList_push rfl _ _ 104 rfl (w.heap.size + 1) 3 i0 (.int .i64 0) 1 8 Try.underlying104 hi hz0 hz1 hz2 rfl (by decide) _ _ _ rfl ((own_set (.bool true) (ownsB hown hbi) (Nat.lt_succ_self _)).alloc _) ⟨wr.heap.size, 0, none⟩ 1 1 [_] rfl rfl (by first | exact cell_one_new _ _ _ | simpa using cell_one_new (wr.setCell ⟨w.heap.size, k, none⟩ (.bool true)) _ _) (by simp [Value.oneCell']) (by unfold maxLen; omega) (by omega) (by have := (HSZ.out); have := hbi.size; simp; omega) ?_; intro v' w5 hown' hgrow hfr)))
              have hgrow : ((wr.setCell ⟨w.heap.size, k, none⟩ (.bool true)).alloc _).grownBy w5 (Value.slice oa ol.length oc).ownBlock := hgrow
              have hset : (bls th).toArray.setIfInBounds k (.bool true) = (bls (th.set k true)).toArray := by simp [bls, List.map_set]
              have HB5 := Lib.hid (kept_push HB4.out hgrow (fun e => by have := (hown.lt _ e).1; omega))
              rw [hset] at HB5
              go_roundw
              case rel => exact ⟨th.set k true, ol ++ [k], q + 1, by omega, by go_num, by simp; omega, by simpa using hth, HB5, by simpa [natI] using hown', Lib.hid (by rw [← HK.out]; exact HO.out), below_push (hbw.setCell (p := ⟨w.heap.size, k, none⟩) (Nat.le_refl _) _) (by have := HSZ.out; have := hbi.size; simp; omega) (own_set (.bool true) (ownsB hown hbi) (Nat.lt_succ_self _)) (Nat.le_succ _) hgrow⟩
              case measure => simp [intOf]; omega
        · have hd : ∀ j, j < rows.length → rdyB rows th j = false := fun j hj => HA.out j (by omega)
          have HO2 : Hid (ordF rows (rows.length - (q + 1)) (th, ol) = ordF rows rows.length (List.replicate rows.length false, [])) := Lib.hid (by have := HO.out; rw [ordF_none (find_none hd)] at this; rw [ordF_none (find_none hd)]; exact this)
          have hkk : k = rows.length := by omega
          clear hd
          go_wp2
          go_roundw
          case rel => exact ⟨th, ol, q + 1, by omega, by go_num, by omega, hth, HBI, ownsB hown hbi, HO2, hbw⟩
          case measure => simp [intOf]; omega
    · have HE : Hid (ordO rows = ol) := Lib.hid (by have := HO.out; rw [show rows.length - q = 0 by omega] at this; unfold ordO; rw [← this]; rfl)
      go_wp2
      go_ret
      rw [HE.out]
      exact ⟨_, rfl, ownsRow_mono hown (by omega), hb⟩
end Go.Proofs.Ytigeedaihbpjiaa
