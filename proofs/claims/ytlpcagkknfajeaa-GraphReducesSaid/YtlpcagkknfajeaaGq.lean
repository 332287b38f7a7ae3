/-
  graph.Waves, the reference's Waves, Rows: contracts.
-/
import Derived.Test.YtlpcagkknfajeaaMr
import Derived.Test.YtlpcagkknfajeaaPi
import Derived.Test.YtlpcagkknfajeaaGn
import Derived.Deep.LoopGhost
import Derived.Deep.RegionHeld3
namespace Go.Proofs.Ytlpcagkknfajeaa
open Go.RowKit

set_option maxRecDepth 100000 in
set_option maxHeartbeats 1000000 in
theorem Waves_any (rows : List (List Int)) (v : Value) (w : World) (hr : Rows2 w v rows) (hlen : rows.length ≤ 1073741824) :
    Calls Try.prog 14 #[v] w fun e w' => ∃ v', e = .returned v' ∧ OwnR w' w.heap.size v' (wavL rows) ∧ Below w.heap.size w w' := by
  obtain ⟨i0, hi, hz0, hz1, hz2⟩ := info_parts Try.info_rowsg
  have HR := Lib.hid hr
  obtain ⟨a, cap, rfl⟩ := hr.form
  clear hr
  have hmk : ∀ w : World, (Instr.makeSlice 60 (.int .i64 rows.length) (.int .i64 rows.length)).run Try.prog w = .ok (.slice (some ⟨w.heap.size, 0, none⟩) rows.length rows.length) (w.alloc (.cells (bls (List.replicate rows.length false)).toArray 4)) := fun w => make_bools rows.length w hlen
  go_enter Try.func14, Try.ntmps14
  go_wp2
  clear hmk
  have c0 : Hid ((w.alloc (.cells (bls (List.replicate rows.length false)).toArray 4)).heap[w.heap.size]? = some (.cells (bls (List.replicate rows.length false)).toArray 4 (0, 0))) := Lib.hid (World.alloc_heap_new w _)
  have hbl0 : Below w.heap.size w (w.alloc (.cells (bls (List.replicate rows.length false)).toArray 4)) := (Below.refl _ w).alloc (Nat.le_refl _) _
  generalize w.alloc (.cells (bls (List.replicate rows.length false)).toArray 4) = w1 at *
  go_loopg [4] (rows.length + 1) (fun gk out wr => ∃ (th : List Bool) (outs : List (List Int)) (f : Nat), gk = f + 1 ∧ th.length = rows.length ∧ rows.length ≤ f + th.count true ∧ f ≤ rows.length ∧ outs.length + f ≤ rows.length ∧ Hid (wavF rows f (th, outs) = wavL rows) ∧ Hid (wr.heap[w.heap.size]? = some (.cells (bls th).toArray 4 (0, 0))) ∧ Hid (OwnR wr (w.heap.size + 1) out outs) ∧ Below w.heap.size w wr)
  case atStart => exact ⟨_, [], rows.length, rfl, by simp, by omega, Nat.le_refl _, by simp, Lib.hid rfl, c0, Lib.hid (OwnR.nil _ _), hbl0⟩
  case round =>
    obtain ⟨th, outs, f, hgk, hth, hf, hfn, hol, HF, HB, HO, hb⟩ := hrel
    subst hgk
    clear c0
    have hn0 : w.heap.size < wr.heap.size := (Array.getElem?_eq_some_iff.1 HB.out).1
    have HRD := Lib.hid (Ready_any rows th _ (.slice (some ⟨w.heap.size, 0, none⟩) rows.length rows.length) wr (HR.out.below hb) (by rw [← hth]; exact bools_rds HB.out (by omega)) hlen)
    have HST := Lib.hid (wave_step (rows := rows) hth)
    have HNIL := Lib.hid (fun (h : rows.length ≤ th.count true) => all_ready_nil (rows := rows) hth h)
    have hll := rdyL_len rows th rows.length
    have HLT : Hid (∀ z ∈ rdyL rows th rows.length, ∃ x : Nat, z = x ∧ x < rows.length) := Lib.hid (fun z hz => by obtain ⟨x, e, hx, _⟩ := mem_rdyL.1 hz; exact ⟨x, e, hx⟩)
    have HSTOP : Hid (rdyL rows th rows.length = [] → wavL rows = outs) := Lib.hid (fun h => by
      rw [← HF.out]
      cases f with
      | zero => rfl
      | succ f => exact wavF_stop h)
    have HGO : Hid (¬ rdyL rows th rows.length = [] → ∃ f', f = f' + 1 ∧ wavF rows f' (rbRow (rdyL rows th rows.length) th, outs ++ [rdyL rows th rows.length]) = wavL rows) := Lib.hid (fun h => by
      cases f with
      | zero => exact absurd (HNIL.out (by omega)) h
      | succ f => exact ⟨f, rfl, by rw [← HF.out, wavF_go h]⟩)
    generalize rdyL rows th rows.length = l at *
    go_wp2_with fail
    refine HRD.out.mono ?_
    rintro e w2 ⟨v2, rfl, o2, b2⟩
    have O2 := Lib.hid (ownsRow_mono o2 (show w.heap.size + 1 ≤ wr.heap.size by omega))
    have HB2 : Hid (w2.heap[w.heap.size]? = some (.cells (bls th).toArray 4 (0, 0))) := Lib.hid (by rw [b2.block _ hn0]; exact HB.out)
    have HO2 := Lib.hid (HO.out.below b2)
    have hb2 := bthen hb (Nat.le_refl _) b2
    obtain ⟨va, vc, rfl⟩ := (RdS.of_owns o2).form
    have hcc : l.length ≤ vc ∧ vc ≤ 9223372036854775807 := by
      obtain ⟨_, a', c', he, h1, h2, _⟩ := RdS.of_owns o2
      injection he with _ _ e3; subst e3; unfold maxLen at h2; exact ⟨h1, h2⟩
    obtain ⟨hc1, hc2⟩ := hcc
    clear o2 b2 HRD HB HO hb hn0
    by_cases hl0 : l.length = 0
    · have hle : l = [] := List.eq_nil_of_length_eq_zero hl0
      have e0 : ((l.length : Int) == 0) = true := by simpa using hl0
      go_wp2
      go_ret
      rw [HSTOP.out hle]
      exact ⟨_, rfl, HO2.out.mono (Nat.le_succ _), hb2⟩
    · have e0 : ((l.length : Int) == 0) = false := by simpa using hl0
      obtain ⟨f', hf', HG⟩ := HGO.out (fun e => hl0 (by rw [e]; rfl))
      subst hf'
      have HGF := Lib.hid HG
      clear HG HGO HSTOP HNIL
      rename World => w2
      go_wp2
      go_loopw [20] (fun r wr => ∃ m : Nat, m ≤ l.length ∧ r = .int .i64 m ∧ Hid (wr.heap[w.heap.size]? = some (.cells (bls (rbRow (l.take m) th)).toArray 4 (0, 0))) ∧ Hid (OwnR wr (w.heap.size + 1) u4 outs) ∧ Hid (wr.ownsRow (w.heap.size + 1) 3 1 (.slice va l.length vc) l.length (ints .i64 l)) ∧ Below w.heap.size w wr) (fun r _ => l.length - (intOf r).toNat)
      case atStart => exact ⟨0, by omega, rfl, HB2, HO2, O2, hb2⟩
      case round =>
        obtain ⟨m, hm, rfl, HB3, HO3, O3, hb3⟩ := hrel
        by_cases hml : m < l.length
        · have hml' : (m : Int) < l.length := by omega
          obtain ⟨lg, loff, hq, r1, r2, lcell⟩ := ints_at (RdS.of_owns O3.out) hml
          subst hq
          obtain ⟨x, hx, hxn⟩ := HLT.out _ (List.getElem_mem hml)
          have HTK : Hid (rbRow (l.take (m + 1)) th = (rbRow (l.take m) th).set x true) := Lib.hid (by rw [take_snocG l m hml, rbRow_snoc, hx, Int.toNat_natCast])
          rw [hx] at lcell
          have htl := rbRow_len (l.take m) th
          clear hx
          generalize rbRow (l.take m) th = tm at *
          have hxt : x < tm.length := by omega
          have hxn' : (x : Int) < rows.length := by omega
          obtain ⟨bc, bf⟩ := bool_cell HB3.out hxt
          simp at bf
          have HS := Lib.hid (bset_cells (i := x) HB3.out)
          go_wp2
          go_roundw
          case rel => exact ⟨m + 1, by omega, by go_num, Lib.hid (by rw [HTK.out]; exact HS.out), Lib.hid (HO3.out.set _ (Nat.lt_succ_self _)), Lib.hid (own_set _ O3.out (Nat.lt_succ_self _)), hb3.setCell (p := ⟨w.heap.size, x, none⟩) (Nat.le_refl _) _⟩
          case measure => simp [intOf]; omega
        · have hml2 : l.take m = l := List.take_of_length_le (by omega)
          rw [hml2] at HB3
          obtain ⟨cs, hcs, hrs⟩ := HO3.out
          have HRS := Lib.hid hrs
          clear hrs hml2
          have hn3 : w.heap.size < wr.heap.size := (Array.getElem?_eq_some_iff.1 HB3.out).1
          go_wp2_with (at_builtin; go_must (refine wpList_push rfl _ _ 41 rfl (w.heap.size + 1) 46 i0 (.slice none 0 0) 1 24 Try.underlying41 hi hz0 hz1 hz2 rfl (by decide) _ _ _ rfl (hcs.alloc _) ⟨wr.heap.size, 0, none⟩ 1 1 [_] rfl rfl (cell_one_new _ _ _) (by simp [Value.oneCell']) (by unfold maxLen; omega) (by omega) (by simp; omega) ?_; intro v' w5 hown' hgrow hfr))
          have hgrow : (wr.alloc _).grownBy w5 u4.ownBlock := hgrow
          have HP := OwnR.pushed hcs HRS.out O3.out hown' hgrow
          have HK := kept_push HB3.out hgrow (fun e => by have := (hcs.lt _ e).1; omega)
          go_roundg (f' + 1)
          case measure => omega
          case rel => exact ⟨_, _, f', rfl, HST.out.1, by have := HST.out.2.1; omega, by omega, by simp; omega, HGF, Lib.hid HK, Lib.hid HP, below_push hb3 (by omega) hcs (by omega) hgrow⟩

set_option maxRecDepth 100000 in
set_option maxHeartbeats 1000000 in
theorem rWaves_any (rows : List (List Int)) (v : Value) (w : World) (hr : Rows2 w v rows) (hlen : rows.length ≤ 1073741824) :
    Calls Try.prog 16 #[v] w fun e w' => ∃ v', e = .returned v' ∧ OwnR w' w.heap.size v' (wavL rows) ∧ Below w.heap.size w w' := by
  obtain ⟨i0, hi, hz0, hz1, hz2⟩ := info_parts Try.info_rowsg
  obtain ⟨j0, hj, hy0, hy1, hy2⟩ := info_parts Try.info_i64g
  have HR := Lib.hid hr
  obtain ⟨a, cap, rfl⟩ := hr.form
  clear hr
  have hmk : ∀ w : World, (Instr.makeSlice 60 (.int .i64 rows.length) (.int .i64 rows.length)).run Try.prog w = .ok (.slice (some ⟨w.heap.size, 0, none⟩) rows.length rows.length) (w.alloc (.cells (bls (List.replicate rows.length false)).toArray 4)) := fun w => make_bools rows.length w hlen
  go_enter Try.func16, Try.ntmps16
  go_wp2
  clear hmk
  have c0 : Hid ((w.alloc (.cells (bls (List.replicate rows.length false)).toArray 4)).heap[w.heap.size]? = some (.cells (bls (List.replicate rows.length false)).toArray 4 (0, 0))) := Lib.hid (World.alloc_heap_new w _)
  have hbl0 : Below w.heap.size w (w.alloc (.cells (bls (List.replicate rows.length false)).toArray 4)) := (Below.refl _ w).alloc (Nat.le_refl _) _
  generalize w.alloc (.cells (bls (List.replicate rows.length false)).toArray 4) = w1 at *
  go_loopw [4, 5] (fun out r wr => ∃ (q : Nat) (th : List Bool) (outs : List (List Int)), q ≤ rows.length ∧ r = .int .i64 q ∧ th.length = rows.length ∧ outs.length ≤ q ∧ Hid (wavF rows (rows.length - q) (th, outs) = wavL rows) ∧ Hid (wr.heap[w.heap.size]? = some (.cells (bls th).toArray 4 (0, 0))) ∧ Hid (OwnR wr (w.heap.size + 1) out outs) ∧ Below w.heap.size w wr) (fun _ r _ => rows.length - (intOf r).toNat)
  case atStart => exact ⟨0, _, [], by omega, rfl, by simp, by simp, Lib.hid rfl, c0, Lib.hid (OwnR.nil _ _), hbl0⟩
  case round =>
    obtain ⟨q, th, outs, hq, rfl, hth, hol, HF, HB, HO, hb⟩ := hrel
    clear c0
    rename World => wo
    by_cases hqn : q < rows.length
    · have hqn' : (q : Int) < rows.length := by omega
      have HST := Lib.hid (wave_step (rows := rows) hth)
      have HLT : Hid (∀ z ∈ rdyL rows th rows.length, ∃ x : Nat, z = x ∧ x < rows.length) := Lib.hid (fun z hz => by obtain ⟨x, e, hx, _⟩ := mem_rdyL.1 hz; exact ⟨x, e, hx⟩)
      have HSTOP : Hid (rdyL rows th rows.length = [] → wavL rows = outs) := Lib.hid (fun h => by
        rw [← HF.out]
        obtain ⟨f, hf⟩ : ∃ f, rows.length - q = f + 1 := ⟨rows.length - q - 1, by omega⟩
        rw [hf]; exact wavF_stop h)
      have HGO : Hid (¬ rdyL rows th rows.length = [] → wavF rows (rows.length - (q + 1)) (rbRow (rdyL rows th rows.length) th, outs ++ [rdyL rows th rows.length]) = wavL rows) := Lib.hid (fun h => by
        obtain ⟨f, hf⟩ : ∃ f, rows.length - q = f + 1 := ⟨rows.length - q - 1, by omega⟩
        rw [show rows.length - (q + 1) = f by omega, ← HF.out, hf, wavF_go h])
      clear HF
      go_wp2
      go_loopw [6, 7] (fun l r wr => ∃ k : Nat, k ≤ rows.length ∧ r = .int .i64 k ∧ Hid (wr.heap[w.heap.size]? = some (.cells (bls th).toArray 4 (0, 0))) ∧ Hid (OwnR wr (w.heap.size + 1) u4 outs) ∧ wr.ownsRow wo.heap.size 3 1 l (rdyL rows th k).length (ints .i64 (rdyL rows th k)) ∧ Below wo.heap.size wo wr) (fun _ r _ => rows.length - (intOf r).toNat)
      case atStart => exact ⟨0, by omega, rfl, HB, HO, by simpa [rdyL, ints] using World.ownsRow_nil wo wo.heap.size 3 1, Below.refl _ _⟩
      case round =>
        obtain ⟨k, hk, rfl, HB2, HO2, hown, hbi⟩ := hrel
        have hn0 : w.heap.size < wo.heap.size := (Array.getElem?_eq_some_iff.1 HB.out).1
        by_cases hkn : k < rows.length
        · have hkn' : (k : Int) < rows.length := by omega
          have hkt : k < th.length := by omega
          have HM := Lib.hid (rMay_any rows th k _ (.slice (some ⟨w.heap.size, 0, none⟩) rows.length rows.length) wr (HR.out.below (bthen hb (Nat.le_refl _) hbi)) (by rw [← hth]; exact bools_rds HB2.out (by omega)) hkn)
          obtain ⟨bc, _⟩ := bool_cell HB2.out hkt
          have HBD : Hid (rdyB rows th k = (!th[k] && mayB rows th k)) := Lib.hid (by unfold rdyB thereB; simp [hkt])
          have HYES := Lib.hid (rdyL_yes (rows := rows) (there := th) (k := k))
          have HNO := Lib.hid (rdyL_no (rows := rows) (there := th) (k := k))
          have hlk := rdyL_len rows th k
          generalize mayB rows th k = mb at *
          generalize th[k] = bt at *
          cases bt with
          | true =>
            have HK := Lib.hid (HNO.out (by rw [HBD.out]; rfl))
            go_wp2
            go_roundw
            case rel => exact ⟨k + 1, by omega, by go_num, HB2, HO2, by rw [HK.out]; exact hown, hbi⟩
            case measure => simp [intOf]; omega
          | false =>
            cases mb with
            | false =>
              have HK := Lib.hid (HNO.out (by rw [HBD.out]; rfl))
              go_wp2_with fail
              refine HM.out.mono ?_
              rintro e w3 ⟨rfl, rfl⟩
              go_wp2
              go_roundw
              case rel => exact ⟨k + 1, by omega, by go_num, HB2, HO2, by rw [HK.out]; exact hown, hbi⟩
              case measure => simp [intOf]; omega
            | true =>
              have HK := Lib.hid (HYES.out (by rw [HBD.out]; rfl))
              go_wp2_with fail
              refine HM.out.mono ?_
              rintro e w3 ⟨rfl, rfl⟩
              go_wp2_with (at_builtin; go_must (refine wpList_push rfl _ _ 46 rfl wo.heap.size 3 j0 (.int .i64 0) 1 8 Try.underlying46 hj hy0 hy1 hy2 rfl (by decide) _ _ _ rfl (hown.alloc _) ⟨wr.heap.size, 0, none⟩ 1 1 [_] rfl rfl (cell_one_new _ _ _) (by simp [Value.oneCell']) (by unfold maxLen; omega) (by omega) (by have := hbi.size; simp; omega) ?_; intro v' w5 hown' hgrow hfr))
              have hgrow : (wr.alloc _).grownBy w5 u6.ownBlock := hgrow
              have hbp := below_push hbi (by have := hbi.size; omega) hown (Nat.le_refl _) hgrow
              have HB5 : Hid (w5.heap[w.heap.size]? = some (.cells (bls th).toArray 4 (0, 0))) := Lib.hid (kept_push HB2.out hgrow (fun e => by have := (hown.lt _ e).1; omega))
              have HO5 : Hid (OwnR w5 (w.heap.size + 1) u4 outs) := Lib.hid (HO.out.below hbp)
              go_roundw
              case rel => exact ⟨k + 1, by omega, by go_num, HB5, HO5, by rw [HK.out]; simpa [ints] using hown', hbp⟩
              case measure => simp [intOf]; omega
        · have hkl : k = rows.length := by omega
          subst hkl
          have hll := rdyL_len rows th rows.length
          have O2 := Lib.hid (ownsRow_mono hown (show w.heap.size + 1 ≤ wo.heap.size by omega))
          have hb2 := bthen hb (Nat.le_refl _) hbi
          clear hbi
          generalize rdyL rows th rows.length = l at *
          obtain ⟨va, vc, rfl⟩ := (RdS.of_owns hown).form
          have hcc : l.length ≤ vc ∧ vc ≤ 9223372036854775807 := by
            obtain ⟨_, a', c', he, h1, h2, _⟩ := RdS.of_owns hown
            injection he with _ _ e3; subst e3; unfold maxLen at h2; exact ⟨h1, h2⟩
          obtain ⟨hc1, hc2⟩ := hcc
          clear hown
          by_cases hl0 : l.length = 0
          · have hle : l = [] := List.eq_nil_of_length_eq_zero hl0
            have e0 : ((l.length : Int) == 0) = true := by simpa using hl0
            go_wp2
            go_ret
            rw [HSTOP.out hle]
            exact ⟨_, rfl, HO2.out.mono (Nat.le_succ _), hb2⟩
          · have e0 : ((l.length : Int) == 0) = false := by simpa using hl0
            have HGF := Lib.hid (HGO.out (fun e => hl0 (by rw [e]; rfl)))
            clear HGO HSTOP
            rename World => w2
            go_wp2
            go_loopw [8] (fun r wr => ∃ m : Nat, m ≤ l.length ∧ r = .int .i64 m ∧ Hid (wr.heap[w.heap.size]? = some (.cells (bls (rbRow (l.take m) th)).toArray 4 (0, 0))) ∧ Hid (OwnR wr (w.heap.size + 1) u4 outs) ∧ Hid (wr.ownsRow (w.heap.size + 1) 3 1 (.slice va l.length vc) l.length (ints .i64 l)) ∧ Below w.heap.size w wr) (fun r _ => l.length - (intOf r).toNat)
            case atStart => exact ⟨0, by omega, rfl, HB2, HO2, O2, hb2⟩
            case round =>
              obtain ⟨m, hm, rfl, HB3, HO3, O3, hb3⟩ := hrel
              by_cases hml : m < l.length
              · have hml' : (m : Int) < l.length := by omega
                obtain ⟨lg, loff, hq, r1, r2, lcell⟩ := ints_at (RdS.of_owns O3.out) hml
                subst hq
                obtain ⟨x, hx, hxn⟩ := HLT.out _ (List.getElem_mem hml)
                have HTK : Hid (rbRow (l.take (m + 1)) th = (rbRow (l.take m) th).set x true) := Lib.hid (by rw [take_snocG l m hml, rbRow_snoc, hx, Int.toNat_natCast])
                rw [hx] at lcell
                have htl := rbRow_len (l.take m) th
                clear hx
                generalize rbRow (l.take m) th = tm at *
                have hxt : x < tm.length := by omega
                have hxn' : (x : Int) < rows.length := by omega
                obtain ⟨bc, bf⟩ := bool_cell HB3.out hxt
                simp at bf
                have HS := Lib.hid (bset_cells (i := x) HB3.out)
                go_wp2
                go_roundw
                case rel => exact ⟨m + 1, by omega, by go_num, Lib.hid (by rw [HTK.out]; exact HS.out), Lib.hid (HO3.out.set _ (Nat.lt_succ_self _)), Lib.hid (own_set _ O3.out (Nat.lt_succ_self _)), hb3.setCell (p := ⟨w.heap.size, x, none⟩) (Nat.le_refl _) _⟩
                case measure => simp [intOf]; omega
              · have hml2 : l.take m = l := List.take_of_length_le (by omega)
                rw [hml2] at HB3
                obtain ⟨cs, hcs, hrs⟩ := HO3.out
                have HRS := Lib.hid hrs
                clear hrs hml2
                have hn3 : w.heap.size < wr.heap.size := (Array.getElem?_eq_some_iff.1 HB3.out).1
                go_wp2_with (at_builtin; go_must (refine wpList_push rfl _ _ 41 rfl (w.heap.size + 1) 46 i0 (.slice none 0 0) 1 24 Try.underlying41 hi hz0 hz1 hz2 rfl (by decide) _ _ _ rfl (hcs.alloc _) ⟨wr.heap.size, 0, none⟩ 1 1 [_] rfl rfl (cell_one_new _ _ _) (by simp [Value.oneCell']) (by unfold maxLen; omega) (by omega) (by simp; omega) ?_; intro v' w5 hown' hgrow hfr))
                have hgrow : (wr.alloc _).grownBy w5 u4.ownBlock := hgrow
                have HP := OwnR.pushed hcs HRS.out O3.out hown' hgrow
                have HK := kept_push HB3.out hgrow (fun e => by have := (hcs.lt _ e).1; omega)
                go_roundw
                case rel => exact ⟨q + 1, _, _, by omega, by go_num, HST.out.1, by simp; omega, HGF, Lib.hid HK, Lib.hid HP, below_push hb3 (by omega) hcs (by omega) hgrow⟩
                case measure => simp [intOf]; omega
    · have HE : Hid (wavL rows = outs) := Lib.hid (by have := HF.out; rw [show rows.length - q = 0 by omega] at this; exact this.symm)
      go_wp2
      go_ret
      rw [HE.out]
      exact ⟨_, rfl, HO.out.mono (Nat.le_succ _), hb⟩

theorem heldS {w1 W W' : World} {p q : Addr} {a b : Value} (h : Below w1.heap.size w1 W ∧ W.cell? p = some a ∧ W.cell? q = some b) (hb : Below W.heap.size W W') : Below w1.heap.size w1 W' ∧ W'.cell? p = some a ∧ W'.cell? q = some b :=
  ⟨bthen h.1 (Nat.le_refl _) hb, cellB hb h.2.1, cellB hb h.2.2⟩
set_option maxRecDepth 100000 in
set_option maxHeartbeats 1000000 in
theorem gRows_true (rows : List (List Int)) (v v' : Value) (w : World) (hr : Rows2 w v rows) (hr' : Rows2 w v' rows) :
    Calls Try.prog 15 #[v, v'] w fun e w' => e = .returned (.bool true) ∧ Below w.heap.size w w' := by
  have HR := Lib.hid hr
  have HR' := Lib.hid hr'
  have hlen : rows.length ≤ 9223372036854775807 := by obtain ⟨_, h1, _⟩ := hr; exact rds_len h1
  obtain ⟨a, cap, rfl⟩ := hr.form
  obtain ⟨a', cap', rfl⟩ := hr'.form
  clear hr hr'
  go_enter Try.func15, Try.ntmps15
  go_wp2
  go_loopw [5] (fun r wr => ∃ k : Nat, k ≤ rows.length ∧ r = .int .i64 k ∧ Below w.heap.size w wr) (fun r _ => rows.length - (intOf r).toNat)
  case atStart => exact ⟨0, by omega, rfl, Below.refl _ _⟩
  case round =>
    obtain ⟨k, hk, rfl, hb⟩ := hrel
    by_cases hkn : k < rows.length
    · have hkn' : (k : Int) < rows.length := by omega
      obtain ⟨g, off, ra, rc, rfl, h1, h2, hcell, hrow⟩ := (HR.out.below hb).at hkn
      obtain ⟨g', off', ra', rc', rfl, h1', h2', hcell', hrow'⟩ := (HR'.out.below hb).at hkn
      have HS : Hid (∀ W, (Below wr.heap.size wr W ∧ W.cell? ⟨g, off + k, none⟩ = some (.slice ra (rows[k]).length rc) ∧ W.cell? ⟨g', off' + k, none⟩ = some (.slice ra' (rows[k]).length rc')) → Calls Try.prog 21 #[.slice ra (rows[k]).length rc, .slice ra' (rows[k]).length rc'] W fun e w' => e = .returned (.bool true) ∧ Below W.heap.size W w') :=
        Lib.hid (fun W hW => gSame_true _ _ rows[k] W (hrow.below hW.1) (hrow'.below hW.1))
      clear hrow hrow'
      generalize rows[k].length = rl at *
      go_wp2_with fail
      first | go_region_held3 (fun W' => Below wr.heap.size wr W' ∧ W'.cell? ⟨g, off + k, none⟩ = some (.slice ra rl rc) ∧ W'.cell? ⟨g', off' + k, none⟩ = some (.slice ra' rl rc'))
        (first | assumption | exact ⟨(Below.refl _ _).drew, hcell, hcell'⟩ | exact heldS (by assumption) (by assumption)) (first
          | (go_at_call 21; refine (HS.out _ (by assumption)).mono ?_; rintro e w7 ⟨rfl, hb7⟩)) | fail
      rename_i hS
      go_wp2
      go_roundw
      case rel => exact ⟨k + 1, by omega, by go_num, bthen hb (Nat.le_refl _) hS.1⟩
      case measure => simp [intOf]; omega
    · have hkl : k = rows.length := by omega
      subst hkl
      go_wp2
      go_ret
      exact ⟨rfl, hb⟩
end Go.Proofs.Ytlpcagkknfajeaa
