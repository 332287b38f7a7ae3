/-
  The law WholeSteps: walk.
-/
import Derived.Test.YtgafjjgnbcjmpaaBq23
import Derived.Test.YtgafjjgnbcjmpaaBq30
import Derived.Test.YtgafjjgnbcjmpaaBq31
namespace Go.Proofs.Ytgafjjgnbcjmpaa
open Go Go.RowKit Go.Maps Go.WideShapes

theorem field_faultY (c0 c1 : Value) (w : World) : (Instr.field 29 (.agg #[c0, c1]) 0).run Try.prog w = .ok c0 w := by kernel_rfl
theorem opwp_pushS {P : Program} {w : World} {o : Oper} {a : Act} {K : Act → World → Prop} {Q : Exit → Act → World → Prop} (s x : Operand) (t : TypeId)
    (ho : o.op = .call { callee := .builtin .append, args := #[s, x], argTypes := #[t, t] })
    (base : Nat) (e : TypeId) (i : TypeInfo) (z : Value) (size bytes : Nat) (ht : P.underlying t = some (.slice e)) (hi : P.info? e = some i) (hz : i.zero = some z)
    (hsize : i.size = size) (hby : i.bytes = bytes) (hzs : z.cells.size = size) (hsz : 0 < size)
    (v : Value) (n : Nat) (xs : List Value) (hs : a.eval s = v) (hown : w.ownsRow base e size v n xs)
    (u : Value) (m : Nat) (news : List Value) (hx : a.eval x = u) (hr : RdS w u size m news) (h1 : ∀ u ∈ news, u.oneCell' = true)
    (h63 : n + m ≤ maxLen) (hbytes : (n + m) * bytes ≤ 140737488355328) (hbase : base ≤ w.heap.size)
    (h : ∀ v' w', w'.ownsRow base e size v' (n + m) (xs ++ news) → w.grownBy w' v.ownBlock → Fresh w v v' → K (a.put o.dst v') w') : o.wp P a w K Q := by
  obtain ⟨v', w', hr, h2, h3, h4⟩ := run_pushS (P := P) w base t o.type e i z size bytes ht hi hz hsize hby hzs hsz v n xs hown u m news hr h1 h63 hbytes hbase
  unfold Oper.wp execOp
  simp only [ho, resolve, invoke, builtin, Sem.run_bind, Sem.run_pure, Result.andThen_ok, List.map_toArray, List.map_cons, List.map_nil, hs, hx, hr]
  exact h v' w' h2 h3 h4
set_option maxRecDepth 100000 in
set_option maxHeartbeats 8000000 in
theorem WholeSteps_any (d : DefD) (sa : Option Addr) (sc : Nat) (m : Nat) (w : World) (h : DefR w [.string d.name, .string d.text, .slice sa d.steps.length sc] d sa sc) (hm : m < 256) :
    Calls Try.prog 3 #[.agg #[.string d.name, .string d.text, .slice sa d.steps.length sc], .int .u8 (m : Int)] w fun e w' => e = .returned (.bool true) ∧ Below w.heap.size w w' := by
  have hff := field_faultY
  have hb0 := (Below.refl w.heap.size w).alloc (Nat.le_refl _) (.cells #[.string d.name, .string d.text, .slice sa d.steps.length sc] 24)
  have HD := Lib.hid (h.below hb0)
  have HG := Lib.hid (World.alloc_heap_new w (.cells #[.string d.name, .string d.text, .slice sa d.steps.length sc] 24))
  clear h
  go_enter Try.func3, Try.ntmps3
  go_upto_region 1 with fail
  generalize w.alloc (.cells #[.string d.name, .string d.text, .slice sa d.steps.length sc] 24) = w0 at *
  have HB0 := Lib.hid hb0
  have hlt := (Array.getElem?_eq_some_iff.1 HG.out).1
  clear hb0
  go_wp2_with fail
  refine (awakeDef_any _).mono ?_
  rintro e w1 ⟨rfl, hb1⟩
  have HB1 := Lib.hid (bthen HB0.out (Nat.le_refl _) hb1)
  have HD1 := Lib.hid (HD.out.below hb1)
  have HG1 := Lib.hid ((hb1.block _ hlt).trans HG.out)
  obtain ⟨q0, q1, q2, -, -, -⟩ := cells3h HG1.out
  clear hb1
  go_wp2_with fail
  refine (rdSmall_any d _ _ _ w1 HD1.out).mono ?_
  rintro e w2 ⟨rfl, hb2⟩
  clear q0 q1 q2
  have HB2 := Lib.hid (bthen HB1.out (Nat.le_refl _) hb2)
  have HD2 := Lib.hid (HD1.out.below hb2)
  have hlt1 := (Array.getElem?_eq_some_iff.1 HG1.out).1
  have HG2 := Lib.hid ((hb2.block _ hlt1).trans HG1.out)
  obtain ⟨q0, q1, q2, -, -, -⟩ := cells3h HG2.out
  clear hb2
  rcases hsm : smallDef d with _ | _
  · clear hsm
    go_wp2
    go_ret
    exact ⟨rfl, HB2.out⟩
  have HSM := Lib.hid (smallDef_of hsm)
  clear hsm
  go_wp2_with fail
  refine (dCheck_any d _ _ _ w2 HD2.out HSM.out).mono ?_
  rintro e w3 ⟨rfl, hb3⟩
  clear q0 q1 q2
  have HB3 := Lib.hid (bthen HB2.out (Nat.le_refl _) hb3)
  have HD3 := Lib.hid (HD2.out.below hb3)
  have hlt2 := (Array.getElem?_eq_some_iff.1 HG2.out).1
  have HG3 := Lib.hid ((hb3.block _ hlt2).trans HG2.out)
  obtain ⟨q0, q1, q2, -, -, -⟩ := cells3h HG3.out
  clear hb3
  unfold faultV
  by_cases hc : (defC d).1 = 0
  case neg =>
    have hd : ((defC d).1 != 0) = true := by simpa using hc
    clear hc
    go_wp2
    go_ret
    exact ⟨rfl, HB3.out⟩
  have hd : ((defC d).1 != 0) = false := by simpa using hc
  have HP := Lib.hid (defP_of hc HSM.out)
  clear hc
  go_wp2_with fail
  refine (dTree2_any d _ _ _ w3 HD3.out HSM.out).mono ?_
  rintro e w4 ⟨cs, rfl, hroot, hb4⟩
  obtain ⟨ka, kc, ba, bc, -, -, hcs, -⟩ := id hroot
  subst hcs
  have HB4 := Lib.hid (bthen HB3.out (Nat.le_refl _) hb4)
  have HD4 := Lib.hid (HD3.out.below hb4)
  have hlt3 := (Array.getElem?_eq_some_iff.1 HG3.out).1
  have HG4 := Lib.hid ((hb4.block _ hlt3).trans HG3.out)
  have HRT4 := Lib.hid hroot
  have HQ4 := Lib.hid hb4
  clear hb4 hroot q0 q1 q2
  go_upto_region 6 with fail
  have hb5 := (Below.refl w4.heap.size w4).alloc (Nat.le_refl _) (.cells #[.int .u8 3, .string { data := #[] }, .slice ka (defKs d).length kc, .slice ba (defCs d).length bc, .int .i64 0] 34)
  have hn5 := World.alloc_heap_new w4 (.cells #[.int .u8 3, .string { data := #[] }, .slice ka (defKs d).length kc, .slice ba (defCs d).length bc, .int .i64 0] 34)
  have hlt4 := (Array.getElem?_eq_some_iff.1 HG4.out).1
  generalize w4.alloc (.cells #[.int .u8 3, .string { data := #[] }, .slice ka (defKs d).length kc, .slice ba (defCs d).length bc, .int .i64 0] 34) = w5 at *
  generalize hR5 : w4.heap.size = eR at *
  have HB5 := Lib.hid (HB4.out.trans (hb5.mono (by omega)))
  have HD5 := Lib.hid (HD4.out.below (hR5 ▸ hb5))
  have HQ5 := Lib.hid (HQ4.out.trans (hb5.mono (by have := HQ4.out.size; omega)))
  have HG5 := Lib.hid ((hb5.block _ (by omega)).trans HG4.out)
  have HRT5 : Hid (RootD w5 (inSpan w3.heap.size eR) _ _ _) := Lib.hid (HRT4.out.keep (Q := inSpan w3.heap.size eR) (fun g hg hl => hb5.block g (by omega)) (fun g hg => hg))
  have HN5 := Lib.hid hn5
  obtain ⟨q0, q1, q2, -, -, -⟩ := cells3h HG5.out
  clear hb5 hn5
  go_wp2_with fail
  refine (dCopy_any d _ _ _ w5 HD5.out HSM.out).mono ?_
  rintro e wc ⟨va, vc, rowsC, rfl, hrlC, hownC, hstC, hbc⟩
  have hlt5 := (Array.getElem?_eq_some_iff.1 HG5.out).1
  have hlr5 := (Array.getElem?_eq_some_iff.1 HN5.out).1
  have HBC := Lib.hid (bthen HB5.out (Nat.le_refl _) hbc)
  have HDC := Lib.hid (HD5.out.below hbc)
  have HQC := Lib.hid (bthen HQ5.out (Nat.le_refl _) hbc)
  have HGC := Lib.hid ((hbc.block _ hlt5).trans HG5.out)
  have HNC := Lib.hid ((hbc.block _ hlr5).trans HN5.out)
  have HRTC : Hid (RootD wc (inSpan w3.heap.size eR) _ _ _) := Lib.hid (HRT5.out.keep (Q := inSpan w3.heap.size eR) (fun g hg hl => hbc.block g hl) (fun g hg => hg))
  have HOWC := Lib.hid hownC
  have HSTC := Lib.hid hstC
  have hszc := hbc.size
  clear hbc hownC hstC q0 q1 q2
  go_upto_region 8 with fail
  have hbz := (Below.refl wc.heap.size wc).alloc (Nat.le_refl _) (.cells #[.string d.name, .string d.text, .slice va d.steps.length vc] 24)
  have hnz := World.alloc_heap_new wc (.cells #[.string d.name, .string d.text, .slice va d.steps.length vc] 24)
  generalize wc.alloc (.cells #[.string d.name, .string d.text, .slice va d.steps.length vc] 24) = wz at *
  generalize hEB : wc.heap.size = eB at *
  have HBZ := Lib.hid (HBC.out.trans (hbz.mono (by have := HBC.out.size; omega)))
  have HDZ := Lib.hid (HDC.out.below (hEB ▸ hbz))
  have HGZ := Lib.hid ((hbz.block _ (by omega)).trans HGC.out)
  have HNZ := Lib.hid ((hbz.block _ (by omega)).trans HNC.out)
  have HRTZ : Hid (RootD wz (inSpan w3.heap.size eR) _ _ _) := Lib.hid (HRTC.out.keep (Q := inSpan w3.heap.size eR) (fun g hg hl => hbz.block g (by omega)) (fun g hg => hg))
  have HOWZ := Lib.hid (ownsRow_keepB HOWC.out (fun g hg => hbz.block g (by have := (HOWC.out.lt g hg).2; omega)))
  have HEZ := Lib.hid hnz
  have hbz' := hbz.size
  have HBZC := Lib.hid hbz
  have HQZ := Lib.hid (HQC.out.trans (hbz.mono (by have := HQC.out.size; omega)))
  have hqz : w3.heap.size ≤ eR ∧ eR < eB := ⟨by have := HQ4.out.size; omega, by omega⟩
  clear hbz hnz
  have hdl : (defCs d).length = (consIf (hasText d) [scalarT d.name] (scalarT d.text)).length + 1 := by unfold defCs; simp
  have hdl3 := defCs_len d
  obtain ⟨n0, n1, n2, n3, n4⟩ := cells5n HNZ.out
  go_upto_if 38 with fail
  have hds := HSM.out.steps
  go_cut [] (fun wx => ∃ (k : Nat) (xa : Option Addr) (xc : Nat), NodeR wx [.int .u8 3, .string { data := #[] }, .slice ka (defKs d).length kc, .slice ba (defCs d).length bc, .int .i64 0] (defT (rotD k d)) ∧ DefR wx [.string d.name, .string d.text, .slice xa d.steps.length xc] (rotD k d) xa xc ∧ DefR wx [.string d.name, .string d.text, .slice sa d.steps.length sc] d sa sc ∧ wx.heap[w.heap.size]? = some (.cells #[.string d.name, .string d.text, .slice sa d.steps.length sc] 24 (0, 0)) ∧ wx.heap[eR]? = some (.cells #[.int .u8 3, .string { data := #[] }, .slice ka (defKs d).length kc, .slice ba (defCs d).length bc, .int .i64 0] 34 (0, 0)) ∧ wx.heap[eB]? = some (.cells #[.string d.name, .string d.text, .slice xa d.steps.length xc] 24 (0, 0)) ∧ Below w.heap.size w wx)
  case first =>
    rcases Nat.eq_zero_or_pos d.steps.length with hz | hpos
    · have d1 : decide ((0 : Int) < (d.steps.length : Int)) = false := decide_eq_false (by omega)
      have HNT := HRTZ.out.toO.toR
      go_wp2_with fail
      go_meet
      exact ⟨0, va, vc, by rw [rotD_zero]; exact HNT, by rw [rotD_zero]; exact ⟨rfl, HD3.out.name, HD3.out.text, rowsC, hrlC, (RdS.of_owns HOWZ.out), fun i r s hr hs => ((HSTC.out i r s hr hs).toX).below (hEB ▸ HBZC.out)⟩, HDZ.out, HGZ.out, HNZ.out, HEZ.out, HBZ.out⟩
    have d1 : decide ((0 : Int) < (d.steps.length : Int)) = true := decide_eq_true (by omega)
    have d2 : ((d.steps.length : Int) == 0) = false := by simpa using (show (d.steps.length : Int) ≠ 0 by omega)
    have htm : ((m : Int)).tmod (d.steps.length : Int) = ((m % d.steps.length : Nat) : Int) := by
      rw [Int.tmod_eq_emod_of_nonneg (by omega)]
      exact (Int.natCast_emod _ _).symm
    go_upto_region 11 with fail
    have hk : (m : Int) % (d.steps.length : Int) = ((m % d.steps.length : Nat) : Int) := (Int.natCast_emod _ _).symm
    have hkl := Nat.mod_lt m hpos
    rw [hk]
    clear hk htm d1 d2
    generalize m % d.steps.length = k at *
    obtain ⟨p0, p1, p2, -, -, -⟩ := cells3h HGZ.out
    have hkle : k ≤ d.steps.length := by omega
    obtain ⟨_, _, hform, hsc, hsc2⟩ := HDZ.out.steps.form
    cases hform
    have hksc : k ≤ sc := by omega
    have hEBl := (Array.getElem?_eq_some_iff.1 HEZ.out).1
    obtain ⟨i0, hi0, hz0, hz1, hz2⟩ := info_parts Try.info_stepY
    obtain ⟨rows0, hr1, hr2, hr3⟩ := HD3.out.steps
    have hsr := steps_rows hr1 hr3
    have HR0 := Lib.hid (hr2.below HQZ.out)
    have HR1 := Lib.hid hr1
    have HX0 := Lib.hid hr3
    have HL13 := Lib.hid hsr.1
    have HONE := Lib.hid hsr.2
    clear hr2 hr3 hsr
    refine E_region (S := (fun W => W.cell? ⟨w.heap.size, 2, none⟩ = some (.slice sa d.steps.length sc))) 12 (by kernel_rfl) p2 (fun _ _ _ _ _ h => h) (fun Q' hQ hK' hHeld => ?_)
    refine E_take0 hQ (fun _ => hHeld) 1 (v := ?av1) rfl rfl (by kernel_rfl) (by kernel_rfl) (by kernel_rfl) (by decide) (by rfl) ?ay1 ?ar1
    case ay1 => (intro w; go_simp; (try with_reducible rfl))
    (try simp only [Act.put, List.setIfInBounds_toArray, List.set_cons_zero, List.set_cons_succ])
    refine E_take hQ hHeld 2 (v := ?av2) rfl rfl (by kernel_rfl) (by kernel_rfl) (by kernel_rfl) (by kernel_rfl) (by kernel_rfl) (by rfl) ?ay2 ?ar2
    case ay2 => (intro w hSw; (try dsimp only at hSw); go_simp; (try with_reducible rfl))
    (try simp only [Act.put, List.setIfInBounds_toArray, List.set_cons_zero, List.set_cons_succ])
    refine E_take0 hQ (fun _ => hHeld) 3 (v := ?av3) rfl rfl (by kernel_rfl) (by kernel_rfl) (by kernel_rfl) (by decide) (by rfl) ?ay3 ?ar3
    case ay3 => (intro w; go_simp; (try with_reducible rfl))
    (try simp only [Act.put, List.setIfInBounds_toArray, List.set_cons_zero, List.set_cons_succ])
    refine E_take0 hQ (fun _ => hHeld) 4 (v := ?av4) rfl rfl (by kernel_rfl) (by kernel_rfl) (by kernel_rfl) (by decide) (by rfl) ?ay4 ?ar4
    case ay4 => (intro w; go_simp; (try with_reducible rfl))
    (try simp only [Act.put, List.setIfInBounds_toArray, List.set_cons_zero, List.set_cons_succ])
    refine E_take0 hQ (fun _ => hHeld) 6 (v := ?av5) rfl rfl (by kernel_rfl) (by kernel_rfl) (by kernel_rfl) (by decide) (by rfl) ?ay5 ?ar5
    case ay5 => (intro w; go_simp; (try with_reducible rfl))
    (try simp only [Act.put, List.setIfInBounds_toArray, List.set_cons_zero, List.set_cons_succ])
    refine E_take hQ hHeld 7 (v := ?av6) rfl rfl (by kernel_rfl) (by kernel_rfl) (by kernel_rfl) (by kernel_rfl) (by kernel_rfl) (by rfl) ?ay6 ?ar6
    case ay6 => (intro w hSw; (try dsimp only at hSw); go_simp; (try with_reducible rfl))
    (try simp only [Act.put, List.setIfInBounds_toArray, List.set_cons_zero, List.set_cons_succ])
    refine E_take0 hQ (fun _ => hHeld) 8 (v := ?av7) rfl rfl (by kernel_rfl) (by kernel_rfl) (by kernel_rfl) (by decide) (by rfl) ?ay7 ?ar7
    case ay7 => (intro w; go_simp; (try with_reducible rfl))
    (try simp only [Act.put, List.setIfInBounds_toArray, List.set_cons_zero, List.set_cons_succ])
    refine E_take0 hQ (fun _ => hHeld) 9 (v := ?av8) rfl rfl (by kernel_rfl) (by kernel_rfl) (by kernel_rfl) (by decide) (by rfl) ?ay8 ?ar8
    case ay8 => (intro w; go_simp; (try with_reducible rfl))
    (try simp only [Act.put, List.setIfInBounds_toArray, List.set_cons_zero, List.set_cons_succ])
    refine E_one 0 (by kernel_rfl) rfl (by rfl) (fun K hK => ?_)
    go_simp
    have hbA : Below wz.heap.size wz ((wz.alloc (.cells #[] 45)).drew) := ((Below.refl _ wz).alloc (Nat.le_refl _) _).drew
    have hnA : ((wz.alloc (.cells #[] 45)).drew).heap[wz.heap.size]? = some (.cells #[] 45 (0, 0)) := World.alloc_heap_new wz _
    have hownA : ((wz.alloc (.cells #[] 45)).drew).ownsRow wz.heap.size 45 13 (.slice (some ⟨wz.heap.size, 0, none⟩) 0 0) 0 [] := ⟨rfl, .inr ⟨wz.heap.size, 0, #[], rfl, Nat.le_refl _, hnA, Nat.le_refl _, Nat.zero_le _, rfl, rfl⟩⟩
    have hszA : ((wz.alloc (.cells #[] 45)).drew).heap.size = wz.heap.size + 1 := by simp [World.drew]
    generalize (wz.alloc (.cells #[] 45)).drew = wA at *
    have HBA := Lib.hid hbA
    have HOA := Lib.hid hownA
    clear hbA hnA hownA
    (try simp only [Act.put, List.setIfInBounds_toArray, List.set_cons_zero, List.set_cons_succ])
    refine hK.out _ _ (fun _ _ => cellB HBA.out hHeld) (fun hHeld' => ?_)
    replace hHeld := hHeld' (by rfl) (by decide)
    clear hK hHeld'
    (try simp only [Act.put, List.setIfInBounds_toArray, List.set_cons_zero, List.set_cons_succ])
    refine E_one 5 (by kernel_rfl) rfl (by rfl) (fun K hK => ?_)
    refine opwp_pushS _ _ 22 rfl wz.heap.size 45 i0 (.agg #[.string { data := #[] }, .string { data := #[] }, .string { data := #[] }, .slice none 0 0, .int .i64 0, .int .i64 0, .int .i64 0, .int .i64 0, .int .u8 0, .string { data := #[] }, .slice none 0 0, .slice none 0 0, .int .i64 0]) 13 184 Try.underlying22 hi0 hz0 hz1 hz2 rfl (by decide) (.slice (some ⟨wz.heap.size, 0, none⟩) 0 0) 0 [] rfl HOA.out (sliced sa k d.steps.length sc 13) (d.steps.length - k) (rows0.flatten.drop (k * 13)) rfl ((HR0.out.below HBA.out).fromN hkle) (fun u hu => HONE.out u (List.mem_of_mem_drop hu)) (by unfold maxLen; omega) (by omega) (by omega) ?_
    intro v5 wB ho5 hg5 hf5
    obtain ⟨a5, c5, rfl⟩ := (RdS.of_owns ho5).form
    have hBB : Below wz.heap.size wz wB := HBA.out.trans (Below.mono ⟨hg5.os, hg5.tape, hg5.output, hg5.size, fun j hj => hg5.block j (by omega) (fun e => by have : wz.heap.size = j := (by simpa [Value.ownBlock] using e.symm); omega)⟩ (Nat.le_refl wz.heap.size))
    have HBB := Lib.hid hBB
    have HO5 := Lib.hid ho5
    clear ho5 hg5 hf5 hBB
    (try simp only [Act.put, List.setIfInBounds_toArray, List.set_cons_zero, List.set_cons_succ])
    refine hK.out _ _ (fun _ _ => cellB HBB.out p2) (fun hHeld' => ?_)
    replace hHeld := hHeld' (by rfl) (by decide)
    clear hK hHeld'
    (try simp only [Act.put, List.setIfInBounds_toArray, List.set_cons_zero, List.set_cons_succ])
    refine E_one 10 (by kernel_rfl) rfl (by rfl) (fun K hK => ?_)
    refine opwp_pushS _ _ 22 rfl wz.heap.size 45 i0 (.agg #[.string { data := #[] }, .string { data := #[] }, .string { data := #[] }, .slice none 0 0, .int .i64 0, .int .i64 0, .int .i64 0, .int .i64 0, .int .u8 0, .string { data := #[] }, .slice none 0 0, .slice none 0 0, .int .i64 0]) 13 184 Try.underlying22 hi0 hz0 hz1 hz2 rfl (by decide) (.slice a5 (0 + (d.steps.length - k)) c5) (0 + (d.steps.length - k)) ([] ++ rows0.flatten.drop (k * 13)) rfl HO5.out (.slice sa k sc) k (rows0.flatten.take (k * 13)) rfl ((HR0.out.below HBB.out).toN hkle) (fun u hu => HONE.out u (List.mem_of_mem_take hu)) (by unfold maxLen; omega) (by omega) HBB.out.size ?_
    intro v10 wD ho10 hg10 hf10
    obtain ⟨a10, c10, rfl⟩ := (RdS.of_owns ho10).form
    have hBD : Below wz.heap.size wz wD := HBB.out.trans ⟨hg10.os, hg10.tape, hg10.output, hg10.size, fun j hj => hg10.block j (by have := HBB.out.size; omega) (fun e => by have := (HO5.out.lt j e.symm).1; omega)⟩
    have HBD := Lib.hid hBD
    have HO10 := Lib.hid ho10
    clear ho10 hg10 hf10 hBD
    (try simp only [Act.put, List.setIfInBounds_toArray, List.set_cons_zero, List.set_cons_succ])
    refine hK.out _ _ (fun _ _ => cellB HBD.out p2) (fun hHeld' => ?_)
    replace hHeld := hHeld' (by rfl) (by decide)
    clear hK hHeld'
    (try simp only [Act.put, List.setIfInBounds_toArray, List.set_cons_zero, List.set_cons_succ])
    refine E_take0 hQ (fun _ => hHeld) 11 (v := ?av9) rfl rfl (by kernel_rfl) (by kernel_rfl) (by kernel_rfl) (by decide) (by rfl) ?ay9 ?ar9
    case ay9 => (intro w; go_simp; (try with_reducible rfl))
    (try simp only [Act.put, List.setIfInBounds_toArray, List.set_cons_zero, List.set_cons_succ])
    refine E_one 12 (by kernel_rfl) rfl (by rfl) (fun K hK => ?_)
    obtain ⟨e0, e1, e2, e3, e4, e5⟩ := cells3h ((HBD.out.block _ (by omega)).trans HEZ.out)
    go_simp
    clear e0 e1 e2 e3 e4 e5
    (try simp only [Act.put, List.setIfInBounds_toArray, List.set_cons_zero, List.set_cons_succ])
    refine hK.out _ _ (fun _ h => absurd rfl h) (fun _ => ?_)
    clear hK hHeld
    (try simp only [Act.put, List.setIfInBounds_toArray, List.set_cons_zero, List.set_cons_succ])
    refine E_done (by kernel_rfl) ?_ _
    refine hK'.out _ _ ?_
    have hot : ∀ j, j ≠ eB → (wD.setCell ⟨eB, 2, none⟩ (.slice a10 d.steps.length c10)).heap[j]? = wD.heap[j]? := fun j hj => Below.heap_setCell _ _ _ _ hj
    have hnE := set2d (z := .slice a10 d.steps.length c10) ((HBD.out.block _ hEBl).trans HEZ.out)
    have hbE : Below eB wz (wD.setCell ⟨eB, 2, none⟩ (.slice a10 d.steps.length c10)) := (HBD.out.mono (by omega)).setCell (p := ⟨eB, 2, none⟩) (Nat.le_refl eB) _
    have hszE : (wD.setCell ⟨eB, 2, none⟩ (.slice a10 d.steps.length c10)).heap.size = wD.heap.size := by simp
    generalize wD.setCell ⟨eB, 2, none⟩ (.slice a10 d.steps.length c10) = wE at *
    have heRB : eR < eB := by omega
    have HRTE : Hid (RootD wE (inSpan w3.heap.size eR) [.int .u8 3, .string { data := #[] }, .slice ka (defKs d).length kc, .slice ba (defCs d).length bc, .int .i64 0] (defKs d) (defCs d)) := Lib.hid (HRTZ.out.keep (Q := inSpan w3.heap.size eR) (fun g hg hl => hbE.block g (by have := hg.2; omega)) (fun g hg => hg))
    have HNE : Hid (wE.heap[eR]? = some (.cells #[.int .u8 3, .string { data := #[] }, .slice ka (defKs d).length kc, .slice ba (defCs d).length bc, .int .i64 0] 34 (0, 0))) := Lib.hid ((hbE.block _ heRB).trans HNZ.out)
    have HGE : Hid (wE.heap[w.heap.size]? = some (.cells #[.string d.name, .string d.text, .slice sa d.steps.length sc] 24 (0, 0))) := Lib.hid ((hbE.block _ (by omega)).trans HGZ.out)
    have HBE : Hid (Below w.heap.size w wE) := Lib.hid (HBZ.out.trans (hbE.mono (by omega)))
    have HEE := Lib.hid hnE
    have HWD := Lib.hid hbE
    have HSZE := Lib.hid hszE
    have HOT := Lib.hid hot
    obtain ⟨g, bcx, pa, pc, rowsL, hc3, hbcL, hbcM, hgP, hgl, hcl, hfz, hrL1, hrL2, hrL3, hrL4⟩ := RootD.last (kids0 := consIf (hasText d) [scalarT d.name] (scalarT d.text)) (l := d.steps.map stepT) HRTE.out
    simp only [List.getElem?_cons_succ, List.getElem?_cons_zero, Option.some.injEq, Value.slice.injEq] at hc3
    obtain ⟨rfl, -, rfl⟩ := hc3
    obtain ⟨n0, n1, n2, n3', n4⟩ := cells5n HNE.out
    rw [List.length_map] at hcl hrL1 hrL2 hrL3
    clear hnE hbE hot p0 p1 p2 hszE
    obtain ⟨j0, hj0, hy0, hy1, hy2⟩ := info_parts Try.info_node
    have hpc : d.steps.length ≤ pc ∧ pc ≤ 9223372036854775807 := by
      obtain ⟨_, _, _, hve, h1, h2, _⟩ := hrL2
      cases hve
      unfold maxLen at h2
      exact ⟨h1, h2⟩
    have hkpc : k ≤ pc := by omega
    have HLR := Lib.hid hrL2
    have hm5 : ∀ r ∈ rowsL, r.length = 5 := by
      intro r hr
      obtain ⟨i, hi, rfl⟩ := List.getElem_of_mem hr
      exact (hrL4 i _ _ (List.getElem?_eq_getElem hi) (List.getElem?_eq_getElem (by rw [List.length_map]; omega))).len
    have HM5 := Lib.hid hm5
    have hone5 : ∀ u ∈ rowsL.flatten, u.oneCell' = true := by
      intro u hu
      obtain ⟨r, hr, hur⟩ := List.mem_flatten.1 hu
      obtain ⟨i, hi, rfl⟩ := List.getElem_of_mem hr
      obtain ⟨_, _, _, _, e⟩ := (hrL4 i _ _ (List.getElem?_eq_getElem hi) (List.getElem?_eq_getElem (by rw [List.length_map]; omega))).cells
      rw [e] at hur
      simp only [List.mem_cons, List.not_mem_nil, or_false] at hur
      rcases hur with rfl | rfl | rfl | rfl | rfl <;> rfl
    have HONE5 := Lib.hid hone5
    have HL4 := Lib.hid hrL4
    have HL3 := Lib.hid hrL3
    clear hrL2 hrL3 hrL4 hm5 hone5
    go_upto_region 13 with fail
    have hix : ((consIf (hasText d) [scalarT d.name] (scalarT d.text)).length : Int) < ((consIf (hasText d) [scalarT d.name] (scalarT d.text)).length : Int) + 1 := by omega
    refine E_region (S := (fun W => W.cell? ⟨eR, 3, none⟩ = some (.slice (some ⟨g, 0, none⟩) (defCs d).length bc))) 14 (by kernel_rfl) n3' (fun _ _ _ _ _ h => h) (fun Q' hQ hK' hHeld => ?_)
    refine E_take0 hQ (fun _ => hHeld) 0 (v := ?bv1) rfl rfl (by kernel_rfl) (by kernel_rfl) (by kernel_rfl) (by decide) (by rfl) ?by1 ?br1
    case by1 => (intro w; go_simp; (try with_reducible rfl))
    (try simp only [Act.put, List.setIfInBounds_toArray, List.set_cons_zero, List.set_cons_succ])
    refine E_take hQ hHeld 1 (v := ?bv2) rfl rfl (by kernel_rfl) (by kernel_rfl) (by kernel_rfl) (by kernel_rfl) (by kernel_rfl) (by rfl) ?by2 ?br2
    case by2 => (intro w hSw; (try dsimp only at hSw); go_simp; (try with_reducible rfl))
    (try simp only [Act.put, List.setIfInBounds_toArray, List.set_cons_zero, List.set_cons_succ])
    refine E_take0 hQ (fun _ => hHeld) 2 (v := ?bv3) rfl rfl (by kernel_rfl) (by kernel_rfl) (by kernel_rfl) (by decide) (by rfl) ?by3 ?br3
    case by3 => (intro w; go_simp; (try with_reducible rfl))
    (try simp only [Act.put, List.setIfInBounds_toArray, List.set_cons_zero, List.set_cons_succ])
    refine E_take0 hQ (fun _ => hHeld) 4 (v := ?bv4) rfl rfl (by kernel_rfl) (by kernel_rfl) (by kernel_rfl) (by decide) (by rfl) ?by4 ?br4
    case by4 => (intro w; go_simp; (try with_reducible rfl))
    (try simp only [Act.put, List.setIfInBounds_toArray, List.set_cons_zero, List.set_cons_succ])
    refine E_take0 hQ (fun _ => hHeld) 5 (v := ?bv5) rfl rfl (by kernel_rfl) (by kernel_rfl) (by kernel_rfl) (by decide) (by rfl) ?by5 ?br5
    case by5 => (intro w; go_simp; (try with_reducible rfl))
    (try simp only [Act.put, List.setIfInBounds_toArray, List.set_cons_zero, List.set_cons_succ])
    refine E_take0 hQ (fun _ => hHeld) 6 (v := ?bv6) rfl rfl (by kernel_rfl) (by kernel_rfl) (by kernel_rfl) (by decide) (by rfl) ?by6 ?br6
    case by6 => (intro w; go_simp; (try with_reducible rfl))
    (try simp only [Act.put, List.setIfInBounds_toArray, List.set_cons_zero, List.set_cons_succ])
    refine E_take0 hQ (fun _ => hHeld) 8 (v := ?bv7) rfl rfl (by kernel_rfl) (by kernel_rfl) (by kernel_rfl) (by decide) (by rfl) ?by7 ?br7
    case by7 => (intro w; go_simp; (try with_reducible rfl))
    (try simp only [Act.put, List.setIfInBounds_toArray, List.set_cons_zero, List.set_cons_succ])
    refine E_take0 hQ (fun _ => hHeld) 9 (v := ?bv8) rfl rfl (by kernel_rfl) (by kernel_rfl) (by kernel_rfl) (by decide) (by rfl) ?by8 ?br8
    case by8 => (intro w; go_simp; (try with_reducible rfl))
    (try simp only [Act.put, List.setIfInBounds_toArray, List.set_cons_zero, List.set_cons_succ])
    refine E_take0 hQ (fun _ => hHeld) 10 (v := ?bv9) rfl rfl (by kernel_rfl) (by kernel_rfl) (by kernel_rfl) (by decide) (by rfl) ?by9 ?br9
    case by9 => (intro w; go_simp; (try with_reducible rfl))
    (try simp only [Act.put, List.setIfInBounds_toArray, List.set_cons_zero, List.set_cons_succ])
    refine E_one 3 (by kernel_rfl) rfl (by rfl) (fun K hK => ?_)
    go_simp
    have hbF : Below wE.heap.size wE ((wE.alloc (.cells #[] 34)).drew) := ((Below.refl _ wE).alloc (Nat.le_refl _) _).drew
    have hnF : ((wE.alloc (.cells #[] 34)).drew).heap[wE.heap.size]? = some (.cells #[] 34 (0, 0)) := World.alloc_heap_new wE _
    have hownF : ((wE.alloc (.cells #[] 34)).drew).ownsRow wE.heap.size 34 5 (.slice (some ⟨wE.heap.size, 0, none⟩) 0 0) 0 [] := ⟨rfl, .inr ⟨wE.heap.size, 0, #[], rfl, Nat.le_refl _, hnF, Nat.le_refl _, Nat.zero_le _, rfl, rfl⟩⟩
    have hszF : ((wE.alloc (.cells #[] 34)).drew).heap.size = wE.heap.size + 1 := by simp [World.drew]
    generalize (wE.alloc (.cells #[] 34)).drew = wF at *
    have HBF := Lib.hid hbF
    have HOF := Lib.hid hownF
    clear hbF hnF hownF
    (try simp only [Act.put, List.setIfInBounds_toArray, List.set_cons_zero, List.set_cons_succ])
    refine hK.out _ _ (fun _ _ => cellB HBF.out n3') (fun hHeld' => ?_)
    replace hHeld := hHeld' (by rfl) (by decide)
    clear hK hHeld'
    (try simp only [Act.put, List.setIfInBounds_toArray, List.set_cons_zero, List.set_cons_succ])
    refine E_one 7 (by kernel_rfl) rfl (by rfl) (fun K hK => ?_)
    refine opwp_pushS _ _ 32 rfl wE.heap.size 34 j0 (.agg #[.int .u8 0, .string { data := #[] }, .slice none 0 0, .slice none 0 0, .int .i64 0]) 5 80 Try.underlying32 hj0 hy0 hy1 hy2 rfl (by decide) (.slice (some ⟨wE.heap.size, 0, none⟩) 0 0) 0 [] rfl HOF.out (sliced pa k d.steps.length pc 5) (d.steps.length - k) (rowsL.flatten.drop (k * 5)) rfl ((HLR.out.below HBF.out).fromN hkle) (fun u hu => HONE5.out u (List.mem_of_mem_drop hu)) (by unfold maxLen; omega) (by omega) (by omega) ?_
    intro v7 wG ho7 hg7 hf7
    obtain ⟨a7, c7, rfl⟩ := (RdS.of_owns ho7).form
    have hBG : Below wE.heap.size wE wG := HBF.out.trans (Below.mono ⟨hg7.os, hg7.tape, hg7.output, hg7.size, fun j hj => hg7.block j (by omega) (fun e => by have : wE.heap.size = j := (by simpa [Value.ownBlock] using e.symm); omega)⟩ (Nat.le_refl wE.heap.size))
    have HBG := Lib.hid hBG
    have HO7 := Lib.hid ho7
    clear ho7 hg7 hf7 hBG
    (try simp only [Act.put, List.setIfInBounds_toArray, List.set_cons_zero, List.set_cons_succ])
    refine hK.out _ _ (fun _ _ => cellB HBG.out n3') (fun hHeld' => ?_)
    replace hHeld := hHeld' (by rfl) (by decide)
    clear hK hHeld'
    (try simp only [Act.put, List.setIfInBounds_toArray, List.set_cons_zero, List.set_cons_succ])
    refine E_one 11 (by kernel_rfl) rfl (by rfl) (fun K hK => ?_)
    refine opwp_pushS _ _ 32 rfl wE.heap.size 34 j0 (.agg #[.int .u8 0, .string { data := #[] }, .slice none 0 0, .slice none 0 0, .int .i64 0]) 5 80 Try.underlying32 hj0 hy0 hy1 hy2 rfl (by decide) (.slice a7 (0 + (d.steps.length - k)) c7) (0 + (d.steps.length - k)) ([] ++ rowsL.flatten.drop (k * 5)) rfl HO7.out (.slice pa k pc) k (rowsL.flatten.take (k * 5)) rfl ((HLR.out.below HBG.out).toN hkle) (fun u hu => HONE5.out u (List.mem_of_mem_take hu)) (by unfold maxLen; omega) (by omega) HBG.out.size ?_
    intro v11 wH ho11 hg11 hf11
    obtain ⟨a11, c11, rfl⟩ := (RdS.of_owns ho11).form
    have hBH : Below wE.heap.size wE wH := HBG.out.trans ⟨hg11.os, hg11.tape, hg11.output, hg11.size, fun j hj => hg11.block j (by have := HBG.out.size; omega) (fun e => by have := (HO7.out.lt j e.symm).1; omega)⟩
    have HBH := Lib.hid hBH
    have HO11 := Lib.hid ho11
    clear ho11 hg11 hf11 hBH
    (try simp only [Act.put, List.setIfInBounds_toArray, List.set_cons_zero, List.set_cons_succ])
    refine hK.out _ _ (fun _ _ => cellB HBH.out n3') (fun hHeld' => ?_)
    replace hHeld := hHeld' (by rfl) (by decide)
    clear hK hHeld'
    (try simp only [Act.put, List.setIfInBounds_toArray, List.set_cons_zero, List.set_cons_succ])
    refine E_take0 hQ (fun _ => hHeld) 12 (v := ?bv10) rfl rfl (by kernel_rfl) (by kernel_rfl) (by kernel_rfl) (by decide) (by rfl) ?by10 ?br10
    case by10 => (intro w; go_simp; (try with_reducible rfl))
    (try simp only [Act.put, List.setIfInBounds_toArray, List.set_cons_zero, List.set_cons_succ])
    refine E_take0 hQ (fun _ => hHeld) 13 (v := ?bv11) rfl rfl (by kernel_rfl) (by kernel_rfl) (by kernel_rfl) (by decide) (by rfl) ?by11 ?br11
    case by11 => (intro w; go_simp; (try with_reducible rfl))
    (try simp only [Act.put, List.setIfInBounds_toArray, List.set_cons_zero, List.set_cons_succ])
    refine E_one 14 (by kernel_rfl) rfl (by rfl) (fun K hK => ?_)
    have hblk := HBH.out.block g hgl
    have hcH := (World.cell?_of_block (w := wE) (a := ⟨g, (consIf (hasText d) [scalarT d.name] (scalarT d.text)).length * 5 + 3, none⟩) hblk).trans hcl
    have hfH : wH.frozen? ⟨g, (consIf (hasText d) [scalarT d.name] (scalarT d.text)).length * 5 + 3, none⟩ = false := by
      have := hfz
      unfold World.frozen? at this ⊢
      simpa only [hblk] using this
    go_simp
    (try simp only [Act.put, List.setIfInBounds_toArray, List.set_cons_zero, List.set_cons_succ])
    refine hK.out _ _ (fun _ h => absurd rfl h) (fun _ => ?_)
    clear hK hHeld
    (try simp only [Act.put, List.setIfInBounds_toArray, List.set_cons_zero, List.set_cons_succ])
    refine E_done (by kernel_rfl) ?_ _
    refine hK'.out _ _ ?_
    have HRTH : RootD wH (inSpan w3.heap.size eR) _ (defKs d) (consIf (hasText d) [scalarT d.name] (scalarT d.text) ++ [seqT (d.steps.map stepT)]) := HRTE.out.keep (Q := inSpan w3.heap.size eR) (fun b _ hl => HBH.out.block b hl) (fun _ h => h)
    have hlm : (rotL k (d.steps.map stepT)).length = d.steps.length := by rw [rotL_len, List.length_map]
    have hrw : rowsL.flatten.drop (k * 5) ++ rowsL.flatten.take (k * 5) = (rotL k rowsL).flatten := rotL_flat HM5.out k
    obtain ⟨g2, hg2, HNODE⟩ := RootD.turned (l' := rotL k (d.steps.map stepT)) (vn := .slice a11 d.steps.length c11) HRTH (fun g' hg' => by
      obtain rfl : g = g' := by simpa [Value.ownBlock] using hg'
      refine ⟨rotL k rowsL, by rw [rotL_len, rotL_len, hrL1, List.length_map], ?_, fun _ e => by have := (HO11.out.lt g (by rw [show 0 + (d.steps.length - k) + k = d.steps.length by omega]; exact e)).1; omega, rotL_pairs (by rw [hrL1, List.length_map]) (by rw [List.length_map]; exact hkle) (fun i r x hr hx => (HL4.out i r x hr hx).keep (fun b hb hl => HBH.out.block b hl) (fun b hb => hb.2))⟩
      have hq := RdS.of_owns HO11.out
      rw [List.nil_append, hrw, show 0 + (d.steps.length - k) + k = d.steps.length by omega] at hq
      rw [hlm]
      exact hq)
    obtain rfl : g = g2 := by simpa [Value.ownBlock] using hg2
    have hge : w3.heap.size ≤ g ∧ g < eR := hgP
    have hbI : Below w3.heap.size w3 (wH.setCell ⟨g, (consIf (hasText d) [scalarT d.name] (scalarT d.text)).length * 5 + 3, none⟩ (.slice a11 d.steps.length c11)) := ((bthen (HQZ.out.trans (HWD.out.mono (by omega))) (Nat.le_refl _) HBH.out)).setCell (p := ⟨g, _, none⟩) (by show _ ≤ g; omega) _
    have hotI : ∀ j, j ≠ g → j < wE.heap.size → (wH.setCell ⟨g, (consIf (hasText d) [scalarT d.name] (scalarT d.text)).length * 5 + 3, none⟩ (.slice a11 d.steps.length c11)).heap[j]? = wE.heap[j]? := fun j hj hl => (Below.heap_setCell _ _ _ _ hj).trans (HBH.out.block j hl)
    have hszI : (wH.setCell ⟨g, (consIf (hasText d) [scalarT d.name] (scalarT d.text)).length * 5 + 3, none⟩ (.slice a11 d.steps.length c11)).heap.size = wH.heap.size := by simp
    generalize wH.setCell ⟨g, (consIf (hasText d) [scalarT d.name] (scalarT d.text)).length * 5 + 3, none⟩ (.slice a11 d.steps.length c11) = wT at *
    have hwz := HWD.out.size
    have hB3 := HB3.out.size
    have HNT := Lib.hid (show NodeR wT _ (defT (rotD k d)) from by rw [defT_rot]; exact HNODE)
    have HOD : Hid (DefR wT [.string d.name, .string d.text, .slice a10 d.steps.length c10] (rotD k d) a10 c10) := Lib.hid ⟨by rw [rotD_len]; rfl, HD3.out.name, HD3.out.text, by
      refine ⟨rotL k rows0, by rw [rotL_len, rotD_len]; exact HR1.out, ?_, ?_⟩
      · rw [rotD_len, ← rotL_flat HL13.out k]
        have hq := RdS.of_owns HO10.out
        rw [List.nil_append, show 0 + (d.steps.length - k) + k = d.steps.length by omega] at hq
        refine hq.keepB (fun b hb hl => ?_)
        have hlt := HO10.out.lt b (by rw [show 0 + (d.steps.length - k) + k = d.steps.length by omega]; exact hb)
        exact (hotI b (by omega) (by rw [HSZE.out]; exact hlt.2)).trans (HOT.out b (by omega))
      · intro i r s hr hs
        exact (rotL_pairs (C := fun r s => StepX w3 r s) HR1.out hkle HX0.out i r s hr hs).below hbI⟩
    have HDT := Lib.hid (HD3.out.below hbI)
    have HGT := Lib.hid ((hotI w.heap.size (by omega) (by omega)).trans HGE.out)
    have HRT := Lib.hid ((hotI eR (by omega) (by omega)).trans HNE.out)
    have HET := Lib.hid ((hotI eB (by omega) (by omega)).trans HEE.out)
    have HBT := Lib.hid (HB3.out.trans (hbI.mono hB3))
    clear hbI hotI hszI HNODE hg2
    go_wp2_with fail
    go_meet
    exact ⟨k, a10, c10, HNT.out, HOD.out, HDT.out, HGT.out, HRT.out, HET.out, HBT.out⟩
  case rest =>
    obtain ⟨k, xa, xc, hr0, hr1, hr2, hr3, hr4, hr5, hr6⟩ := hcut
    rename World => wT
    have HNT := Lib.hid hr0
    have HOD := Lib.hid hr1
    have HDT := Lib.hid hr2
    have HGT := Lib.hid hr3
    have HRT := Lib.hid hr4
    have HET := Lib.hid hr5
    have HBT := Lib.hid hr6
    clear hr0 hr1 hr2 hr3 hr4 hr5 hr6 hdl hdl3
    obtain ⟨n0, n1, n2, n3, n4⟩ := cells5n HRT.out
    go_wp2_with fail
    refine (of_any (rotD k d) (defT (rotD k d)) _ wT wT rfl HNT.out (Below.refl _ _) (HP.out.rot k) (HSM.out.rot k)).mono ?_
    rintro e wF ⟨cs3, rfl, ⟨fa, fc, hR3⟩, hb3⟩
    have hds := sameD_norm (rotD k d)
    have hdt := defT_norm (rotD k d)
    have HDS := Lib.hid ((HSM.out.rot k).norm)
    have HDF := Lib.hid (fun i hi => rot_found d k i hi)
    have hcs := hR3.eq
    subst hcs
    have HR3 := Lib.hid hR3
    have HB3' := Lib.hid hb3
    clear hR3 hb3 n0 n1 n2 n3 n4
    unfold zeroF
    generalize normD (rotD k d) = D at *
    go_upto_region 15 with fail
    obtain ⟨hb5, hsz5, hf⟩ := allocs_facts [.cells #[.string D.name, .string D.text, .slice fa D.steps.length fc] 24, .cells #[.int .i64 0, .int .i64 0] 29] wF
    have g0 := hf 0 _ rfl
    have g1 := hf 1 _ rfl
    clear hf
    have e0 : wF.heap.size + 0 = wF.heap.size := rfl
    simp only [List.foldl_cons, List.foldl_nil, List.length_cons, List.length_nil, Nat.reduceAdd] at hb5 hsz5 g0 g1
    rw [e0] at g0
    generalize (wF.alloc (.cells #[.string D.name, .string D.text, .slice fa D.steps.length fc] 24)).alloc (.cells #[.int .i64 0, .int .i64 0] 29) = w15 at *
    have hbT5 := (HB3'.out).trans (hb5.mono HB3'.out.size)
    have HB5' := Lib.hid (bthen HBT.out (Nat.le_refl _) hbT5)
    have HR5 := Lib.hid (HR3.out.below hb5)
    have HD5' := Lib.hid (HDT.out.below hbT5)
    have HO5' := Lib.hid (HOD.out.below hbT5)
    have HN5' := Lib.hid (HNT.out.belowW hbT5)
    have hlR := (Array.getElem?_eq_some_iff.1 HRT.out).1
    have hlE := (Array.getElem?_eq_some_iff.1 HET.out).1
    have hlG := (Array.getElem?_eq_some_iff.1 HGT.out).1
    have HRT5 := Lib.hid ((hbT5.block _ hlR).trans HRT.out)
    have HGT5 := Lib.hid ((hbT5.block _ hlG).trans HGT.out)
    obtain ⟨a0, a1, a2, -, -, -⟩ := cells3h g0
    obtain ⟨f0, f1, -, -⟩ := cells2 g1
    obtain ⟨b0, b1, b2, -, -, -⟩ := cells3h ((hbT5.block _ hlE).trans HET.out)
    obtain ⟨n0, n1, n2, n3, n4⟩ := cells5n HRT5.out
    have HG0 := Lib.hid g0
    have hl0 := (Array.getElem?_eq_some_iff.1 g0).1
    clear g0 g1 hb5 hbT5 e0 hsz5
    have HZ0 : Hid (Below w15.heap.size w15 w15.drew) := Lib.hid (Below.refl _ _).drew
    go_upto_region 15 with fail
    refine E_region (S := (fun W => W.cell? ⟨(wF.heap.size + 1), 0, none⟩ = some (.int .i64 0) ∧ W.cell? ⟨wF.heap.size, 0, none⟩ = some (.string D.name) ∧ W.cell? ⟨wF.heap.size, 1, none⟩ = some (.string D.text) ∧ W.cell? ⟨wF.heap.size, 2, none⟩ = some (.slice fa D.steps.length fc) ∧ W.cell? ⟨eB, 0, none⟩ = some (.string d.name) ∧ W.cell? ⟨eB, 1, none⟩ = some (.string d.text) ∧ W.cell? ⟨eB, 2, none⟩ = some (.slice xa d.steps.length xc) ∧ W.cell? ⟨eR, 0, none⟩ = some (.int .u8 3) ∧ W.cell? ⟨eR, 1, none⟩ = some (.string { data := #[] }) ∧ W.cell? ⟨eR, 2, none⟩ = some (.slice ka (defKs d).length kc) ∧ W.cell? ⟨eR, 3, none⟩ = some (.slice ba (defCs d).length bc) ∧ W.cell? ⟨eR, 4, none⟩ = some (.int .i64 0))) 13 (by kernel_rfl) ⟨f0, a0, a1, a2, b0, b1, b2, n0, n1, n2, n3, n4⟩ (fun _ _ _ _ _ h => h) (fun Q' hQ hK' hHeld => ?_)
    refine E_take0 hQ (fun _ => hHeld) 0 (v := ?dv1) rfl rfl (by kernel_rfl) (by kernel_rfl) (by kernel_rfl) (by decide) (by rfl) ?dy1 ?dr1
    case dy1 => (intro w; go_simp; (try with_reducible rfl))
    (try simp only [Act.put, List.setIfInBounds_toArray, List.set_cons_zero, List.set_cons_succ])
    refine E_take hQ hHeld 1 (v := ?dv2) rfl rfl (by kernel_rfl) (by kernel_rfl) (by kernel_rfl) (by kernel_rfl) (by kernel_rfl) (by rfl) ?dy2 ?dr2
    case dy2 => (intro w hSw; (try dsimp only at hSw); go_simp; (try with_reducible rfl))
    (try simp only [Act.put, List.setIfInBounds_toArray, List.set_cons_zero, List.set_cons_succ])
    refine E_take0 hQ (fun _ => hHeld) 2 (v := ?dv3) rfl rfl (by kernel_rfl) (by kernel_rfl) (by kernel_rfl) (by decide) (by rfl) ?dy3 ?dr3
    case dy3 => (intro w; go_simp; (try with_reducible rfl))
    (try simp only [Act.put, List.setIfInBounds_toArray, List.set_cons_zero, List.set_cons_succ])
    refine E_take0 hQ (fun _ => hHeld) 3 (v := ?dv4) rfl rfl (by kernel_rfl) (by kernel_rfl) (by kernel_rfl) (by decide) (by rfl) ?dy4 ?dr4
    case dy4 => (intro w; go_simp; (try with_reducible rfl))
    (try simp only [Act.put, List.setIfInBounds_toArray, List.set_cons_zero, List.set_cons_succ])
    refine E_take hQ hHeld 4 (v := ?dv5) rfl rfl (by kernel_rfl) (by kernel_rfl) (by kernel_rfl) (by kernel_rfl) (by kernel_rfl) (by rfl) ?dy5 ?dr5
    case dy5 => (intro w hSw; (try dsimp only at hSw); go_simp; (try with_reducible rfl))
    (try simp only [Act.put, List.setIfInBounds_toArray, List.set_cons_zero, List.set_cons_succ])
    refine E_take hQ hHeld 5 (v := ?dv6) rfl rfl (by kernel_rfl) (by kernel_rfl) (by kernel_rfl) (by kernel_rfl) (by kernel_rfl) (by rfl) ?dy6 ?dr6
    case dy6 => (intro w hSw; (try dsimp only at hSw); go_simp; (try with_reducible rfl))
    (try simp only [Act.put, List.setIfInBounds_toArray, List.set_cons_zero, List.set_cons_succ])
    refine E_one 6 (by kernel_rfl) rfl (by rfl) (fun K hK => ?_)
    go_simp
    refine (dSame_any D (rotD k d) _ _ _ _ _ _ _ (HR5.out.below HZ0.out) (HO5'.out.below HZ0.out)).mono ?_
    rintro e V6 ⟨rfl, hb⟩
    have HY6 := Lib.hid hb
    have HZ6 := Lib.hid (bthen HZ0.out (Nat.le_refl _) hb)
    clear hb
    rw [hds]
    (skip)
    refine hK.out _ _ (fun _ _ => ⟨cellB HY6.out hHeld.1, cellB HY6.out hHeld.2.1, cellB HY6.out hHeld.2.2.1, cellB HY6.out hHeld.2.2.2.1, cellB HY6.out hHeld.2.2.2.2.1, cellB HY6.out hHeld.2.2.2.2.2.1, cellB HY6.out hHeld.2.2.2.2.2.2.1, cellB HY6.out hHeld.2.2.2.2.2.2.2.1, cellB HY6.out hHeld.2.2.2.2.2.2.2.2.1, cellB HY6.out hHeld.2.2.2.2.2.2.2.2.2.1, cellB HY6.out hHeld.2.2.2.2.2.2.2.2.2.2.1, cellB HY6.out hHeld.2.2.2.2.2.2.2.2.2.2.2⟩) (fun hHeld' => ?_)
    replace hHeld := hHeld' (by rfl) (by decide)
    clear hK hHeld'
    (try simp only [Act.put, List.setIfInBounds_toArray, List.set_cons_zero, List.set_cons_succ])
    refine E_take0 hQ (fun _ => hHeld) 7 (v := ?dv7) rfl rfl (by kernel_rfl) (by kernel_rfl) (by kernel_rfl) (by decide) (by rfl) ?dy7 ?dr7
    case dy7 => (intro w; go_simp; (try with_reducible rfl))
    (try simp only [Act.put, List.setIfInBounds_toArray, List.set_cons_zero, List.set_cons_succ])
    refine E_take0 hQ (fun _ => hHeld) 8 (v := ?dv8) rfl rfl (by kernel_rfl) (by kernel_rfl) (by kernel_rfl) (by decide) (by rfl) ?dy8 ?dr8
    case dy8 => (intro w; go_simp; (try with_reducible rfl))
    (try simp only [Act.put, List.setIfInBounds_toArray, List.set_cons_zero, List.set_cons_succ])
    refine E_take0 hQ (fun _ => hHeld) 9 (v := ?dv9) rfl rfl (by kernel_rfl) (by kernel_rfl) (by kernel_rfl) (by decide) (by rfl) ?dy9 ?dr9
    case dy9 => (intro w; go_simp; (try with_reducible rfl))
    (try simp only [Act.put, List.setIfInBounds_toArray, List.set_cons_zero, List.set_cons_succ])
    refine E_take hQ hHeld 10 (v := ?dv10) rfl rfl (by kernel_rfl) (by kernel_rfl) (by kernel_rfl) (by kernel_rfl) (by kernel_rfl) (by rfl) ?dy10 ?dr10
    case dy10 => (intro w hSw; (try dsimp only at hSw); go_simp; (try with_reducible rfl))
    (try simp only [Act.put, List.setIfInBounds_toArray, List.set_cons_zero, List.set_cons_succ])
    refine E_take hQ hHeld 12 (v := ?dv11) rfl rfl (by kernel_rfl) (by kernel_rfl) (by kernel_rfl) (by kernel_rfl) (by kernel_rfl) (by rfl) ?dy11 ?dr11
    case dy11 => (intro w hSw; (try dsimp only at hSw); go_simp; (try with_reducible rfl))
    (try simp only [Act.put, List.setIfInBounds_toArray, List.set_cons_zero, List.set_cons_succ])
    refine E_one 11 (by kernel_rfl) rfl (by rfl) (fun K hK => ?_)
    go_simp
    refine (dTree_any D _ _ _ _ (HR5.out.below HZ6.out) HDS.out).mono ?_
    rintro e V11 ⟨cs4, rfl, hno, hb⟩
    have HY11 := Lib.hid hb
    have HZ11 := Lib.hid (bthen HZ6.out (Nat.le_refl _) hb)
    clear hb
    have HNO := Lib.hid hno
    clear hno
    (skip)
    refine hK.out _ _ (fun _ _ => ⟨cellB HY11.out hHeld.1, cellB HY11.out hHeld.2.1, cellB HY11.out hHeld.2.2.1, cellB HY11.out hHeld.2.2.2.1, cellB HY11.out hHeld.2.2.2.2.1, cellB HY11.out hHeld.2.2.2.2.2.1, cellB HY11.out hHeld.2.2.2.2.2.2.1, cellB HY11.out hHeld.2.2.2.2.2.2.2.1, cellB HY11.out hHeld.2.2.2.2.2.2.2.2.1, cellB HY11.out hHeld.2.2.2.2.2.2.2.2.2.1, cellB HY11.out hHeld.2.2.2.2.2.2.2.2.2.2.1, cellB HY11.out hHeld.2.2.2.2.2.2.2.2.2.2.2⟩) (fun hHeld' => ?_)
    replace hHeld := hHeld' (by rfl) (by decide)
    clear hK hHeld'
    (try simp only [Act.put, List.setIfInBounds_toArray, List.set_cons_zero, List.set_cons_succ])
    refine E_one 13 (by kernel_rfl) rfl (by rfl) (fun K hK => ?_)
    go_simp
    refine (bSame_any (defT D) (defT (rotD k d)) _ _ _ HNO.out.toR (HN5'.out.belowW HZ11.out)).mono ?_
    rintro e V13 ⟨rfl, hb⟩
    have HY13 := Lib.hid hb
    have HZ13 := Lib.hid (bthen HZ11.out (Nat.le_refl _) hb)
    clear hb
    rw [hdt, sameT_refl]
    (skip)
    refine hK.out _ _ (fun _ h => absurd rfl h) (fun _ => ?_)
    clear hK hHeld
    (try simp only [Act.put, List.setIfInBounds_toArray, List.set_cons_zero, List.set_cons_succ])
    refine E_take0 hQ (fun h => absurd h (by decide)) 14 (v := ?dv12) rfl rfl (by kernel_rfl) (by kernel_rfl) (by kernel_rfl) (by decide) (by rfl) ?dy12 ?dr12
    case dy12 => (intro w; go_simp; (try with_reducible rfl))
    (try simp only [Act.put, List.setIfInBounds_toArray, List.set_cons_zero, List.set_cons_succ])
    refine E_take0 hQ (fun h => absurd h (by decide)) 15 (v := ?dv13) rfl rfl (by kernel_rfl) (by kernel_rfl) (by kernel_rfl) (by decide) (by rfl) ?dy13 ?dr13
    case dy13 => (intro w; go_simp; (try with_reducible rfl))
    (try simp only [Act.put, List.setIfInBounds_toArray, List.set_cons_zero, List.set_cons_succ])
    refine E_done (by kernel_rfl) ?_ _
    refine hK'.out _ _ ?_
    have HB15 := Lib.hid (bthen HB5'.out (Nat.le_refl _) HZ13.out)
    have hl15 := HZ13.out.size
    clear f0 f1 a0 a1 a2 b0 b1 b2 n0 n1 n2 n3 n4 HZ0 HZ6 HZ11 HY6 HY11 HY13 HNO hK' hQ
    go_wp2_with fail
    go_loopg [13] (d.steps.length + 1) (fun gk i wi => ∃ j : Nat, j + gk = d.steps.length + 1 ∧ j ≤ d.steps.length ∧ i = .int .i64 j ∧ Hid (Below V13.heap.size V13 wi))
    case atStart => exact ⟨0, by omega, by omega, rfl, Lib.hid (Below.refl _ _)⟩
    case round =>
      obtain ⟨j, hgk, hjn, rfl, HBK⟩ := hrel
      rename World => wk
      have hg : gk = d.steps.length + 1 - j := by omega
      subst hg
      by_cases hjl : j < d.steps.length
      · have d1 : decide ((j : Int) < (d.steps.length : Int)) = true := decide_eq_true (by omega)
        have hj1 : (j : Int) < (d.steps.length : Int) := by omega
        have hj0 : (0 : Int) ≤ (j : Int) := by omega
        have hZK : Below w15.heap.size w15 wk := bthen HZ13.out (Nat.le_refl _) HBK.out
        have HRk := Lib.hid (HR5.out.below hZK)
        have HDk := Lib.hid (HD5'.out.below hZK)
        obtain ⟨jj, hjj, hidx, hnm⟩ := HDF.out j hjl
        have hq : (D.steps[jj].name.toList == d.steps[j].name.toList) = true := beqS_yes hnm
        have hjj1 : (jj : Int) < (D.steps.length : Int) := by omega
        have hjj0 : (0 : Int) ≤ (jj : Int) := by omega
        have dj : decide ((jj : Int) < 0) = false := decide_eq_false (by omega)
        have djn : ¬ (jj : Int) < 0 := by omega
        obtain ⟨a0, a1, a2, -, -, -⟩ := cells3h ((hZK.block _ hl0).trans HG0.out)
        obtain ⟨q0, q1, q2, -, -, -⟩ := cells3h ((hZK.block _ (Array.getElem?_eq_some_iff.1 HGT5.out).1).trans HGT5.out)
        obtain ⟨g, off, cap, _, _, _, _, _, _, he, _, _, _, hat⟩ := HDk.out.steps.at hjl
        obtain ⟨g2, off2, cap2, _, _, _, _, _, _, he2, _, _, _, hat2⟩ := HRk.out.steps.at hjj
        have z0 := hat.q0
        have y0 := hat2.q0
        clear hat hat2 q0 q1
        cases he
        cases he2
        have HIX := Lib.hid hidx
        clear hidx hnm
        have HZ0 : Hid (Below wk.heap.size wk wk.drew) := Lib.hid (Below.refl _ _).drew
        go_upto_region 20 with fail
        refine E_region (S := (fun W => W.cell? ⟨wF.heap.size, 0, none⟩ = some (.string D.name) ∧ W.cell? ⟨wF.heap.size, 1, none⟩ = some (.string D.text) ∧ W.cell? ⟨wF.heap.size, 2, none⟩ = some (.slice (some ⟨g2, off2, none⟩) D.steps.length fc) ∧ W.cell? ⟨w.heap.size, 2, none⟩ = some (.slice (some ⟨g, off, none⟩) d.steps.length sc) ∧ W.cell? ⟨g, off + j * 13, none⟩ = some (.string d.steps[j].name))) 7 (by kernel_rfl) ⟨a0, a1, a2, q2, z0⟩ (fun _ _ _ _ _ h => h) (fun Q' hQ hK' hHeld => ?_)
        refine E_take hQ hHeld 0 (v := ?ev1) rfl rfl (by kernel_rfl) (by kernel_rfl) (by kernel_rfl) (by kernel_rfl) (by kernel_rfl) (by rfl) ?ey1 ?er1
        case ey1 => (intro w hSw; (try dsimp only at hSw); go_simp; (try with_reducible rfl))
        (try simp only [Act.put, List.setIfInBounds_toArray, List.set_cons_zero, List.set_cons_succ])
        refine E_take0 hQ (fun _ => hHeld) 1 (v := ?ev2) rfl rfl (by kernel_rfl) (by kernel_rfl) (by kernel_rfl) (by decide) (by rfl) ?ey2 ?er2
        case ey2 => (intro w; go_simp; (try with_reducible rfl))
        (try simp only [Act.put, List.setIfInBounds_toArray, List.set_cons_zero, List.set_cons_succ])
        refine E_take hQ hHeld 2 (v := ?ev3) rfl rfl (by kernel_rfl) (by kernel_rfl) (by kernel_rfl) (by kernel_rfl) (by kernel_rfl) (by rfl) ?ey3 ?er3
        case ey3 => (intro w hSw; (try dsimp only at hSw); go_simp; (try with_reducible rfl))
        (try simp only [Act.put, List.setIfInBounds_toArray, List.set_cons_zero, List.set_cons_succ])
        refine E_take0 hQ (fun _ => hHeld) 3 (v := ?ev4) rfl rfl (by kernel_rfl) (by kernel_rfl) (by kernel_rfl) (by decide) (by rfl) ?ey4 ?er4
        case ey4 => (intro w; go_simp; (try with_reducible rfl))
        (try simp only [Act.put, List.setIfInBounds_toArray, List.set_cons_zero, List.set_cons_succ])
        refine E_take0 hQ (fun _ => hHeld) 4 (v := ?ev5) rfl rfl (by kernel_rfl) (by kernel_rfl) (by kernel_rfl) (by decide) (by rfl) ?ey5 ?er5
        case ey5 => (intro w; go_simp; (try with_reducible rfl))
        (try simp only [Act.put, List.setIfInBounds_toArray, List.set_cons_zero, List.set_cons_succ])
        refine E_take0 hQ (fun _ => hHeld) 5 (v := ?ev6) rfl rfl (by kernel_rfl) (by kernel_rfl) (by kernel_rfl) (by decide) (by rfl) ?ey6 ?er6
        case ey6 => (intro w; go_simp; (try with_reducible rfl))
        (try simp only [Act.put, List.setIfInBounds_toArray, List.set_cons_zero, List.set_cons_succ])
        refine E_take hQ hHeld 6 (v := ?ev7) rfl rfl (by kernel_rfl) (by kernel_rfl) (by kernel_rfl) (by kernel_rfl) (by kernel_rfl) (by rfl) ?ey7 ?er7
        case ey7 => (intro w hSw; (try dsimp only at hSw); go_simp; (try with_reducible rfl))
        (try simp only [Act.put, List.setIfInBounds_toArray, List.set_cons_zero, List.set_cons_succ])
        refine E_one 7 (by kernel_rfl) rfl (by rfl) (fun K hK => ?_)
        go_simp
        refine (dIndex_any D d.steps[j].name _ _ _ _ (HRk.out.below HZ0.out)).mono ?_
        rintro e V7 ⟨rfl, hb⟩
        have HY7 := Lib.hid hb
        have HZ7 := Lib.hid (bthen HZ0.out (Nat.le_refl _) hb)
        clear hb
        rw [HIX.out]
        (skip)
        refine hK.out _ _ (fun _ h => absurd rfl h) (fun _ => ?_)
        clear hK hHeld
        (try simp only [Act.put, List.setIfInBounds_toArray, List.set_cons_zero, List.set_cons_succ])
        refine E_take0 hQ (fun h => absurd h (by decide)) 8 (v := ?ev8) rfl rfl (by kernel_rfl) (by kernel_rfl) (by kernel_rfl) (by decide) (by rfl) ?ey8 ?er8
        case ey8 => (intro w; go_simp; (try with_reducible rfl))
        (try simp only [Act.put, List.setIfInBounds_toArray, List.set_cons_zero, List.set_cons_succ])
        refine E_done (by kernel_rfl) ?_ _
        refine hK'.out _ _ ?_
        have b2 := cellB HZ7.out a2
        have c2 := cellB HZ7.out q2
        have v0 := cellB HZ7.out z0
        have u0 := cellB HZ7.out y0
        have HB7 := Lib.hid (bthen HBK.out (Nat.le_refl _) HZ7.out)
        clear a0 a1 a2 q2 z0 y0 hK' hQ
        go_upto_region 21 with fail
        refine E_region (S := (fun W => W.cell? ⟨wF.heap.size, 2, none⟩ = some (.slice (some ⟨g2, off2, none⟩) D.steps.length fc) ∧ W.cell? ⟨g2, off2 + jj * 13, none⟩ = some (.string D.steps[jj].name) ∧ W.cell? ⟨w.heap.size, 2, none⟩ = some (.slice (some ⟨g, off, none⟩) d.steps.length sc) ∧ W.cell? ⟨g, off + j * 13, none⟩ = some (.string d.steps[j].name))) 16 (by kernel_rfl) ⟨b2, u0, c2, v0⟩ (fun _ _ _ _ _ h => h) (fun Q' hQ hK' hHeld => ?_)
        refine E_take0 hQ (fun _ => hHeld) 0 (v := ?fv1) rfl rfl (by kernel_rfl) (by kernel_rfl) (by kernel_rfl) (by decide) (by rfl) ?fy1 ?fr1
        case fy1 => (intro w; go_simp; (try with_reducible rfl))
        (try simp only [Act.put, List.setIfInBounds_toArray, List.set_cons_zero, List.set_cons_succ])
        refine E_take0 hQ (fun _ => hHeld) 1 (v := ?fv2) rfl rfl (by kernel_rfl) (by kernel_rfl) (by kernel_rfl) (by decide) (by rfl) ?fy2 ?fr2
        case fy2 => (intro w; go_simp; (try with_reducible rfl))
        (try simp only [Act.put, List.setIfInBounds_toArray, List.set_cons_zero, List.set_cons_succ])
        refine E_take0 hQ (fun _ => hHeld) 2 (v := ?fv3) rfl rfl (by kernel_rfl) (by kernel_rfl) (by kernel_rfl) (by decide) (by rfl) ?fy3 ?fr3
        case fy3 => (intro w; go_simp; (try with_reducible rfl))
        (try simp only [Act.put, List.setIfInBounds_toArray, List.set_cons_zero, List.set_cons_succ])
        refine E_take0 hQ (fun _ => hHeld) 3 (v := ?fv4) rfl rfl (by kernel_rfl) (by kernel_rfl) (by kernel_rfl) (by decide) (by rfl) ?fy4 ?fr4
        case fy4 => (intro w; go_simp; (try with_reducible rfl))
        (try simp only [Act.put, List.setIfInBounds_toArray, List.set_cons_zero, List.set_cons_succ])
        refine E_take hQ hHeld 4 (v := ?fv5) rfl rfl (by kernel_rfl) (by kernel_rfl) (by kernel_rfl) (by kernel_rfl) (by kernel_rfl) (by rfl) ?fy5 ?fr5
        case fy5 => (intro w hSw; (try dsimp only at hSw); go_simp; (try with_reducible rfl))
        (try simp only [Act.put, List.setIfInBounds_toArray, List.set_cons_zero, List.set_cons_succ])
        refine E_take0 hQ (fun _ => hHeld) 5 (v := ?fv6) rfl rfl (by kernel_rfl) (by kernel_rfl) (by kernel_rfl) (by decide) (by rfl) ?fy6 ?fr6
        case fy6 => (intro w; go_simp; (try with_reducible rfl))
        (try simp only [Act.put, List.setIfInBounds_toArray, List.set_cons_zero, List.set_cons_succ])
        refine E_take0 hQ (fun _ => hHeld) 6 (v := ?fv7) rfl rfl (by kernel_rfl) (by kernel_rfl) (by kernel_rfl) (by decide) (by rfl) ?fy7 ?fr7
        case fy7 => (intro w; go_simp; (try with_reducible rfl))
        (try simp only [Act.put, List.setIfInBounds_toArray, List.set_cons_zero, List.set_cons_succ])
        refine E_take0 hQ (fun _ => hHeld) 7 (v := ?fv8) rfl rfl (by kernel_rfl) (by kernel_rfl) (by kernel_rfl) (by decide) (by rfl) ?fy8 ?fr8
        case fy8 => (intro w; go_simp; (try with_reducible rfl))
        (try simp only [Act.put, List.setIfInBounds_toArray, List.set_cons_zero, List.set_cons_succ])
        refine E_take hQ hHeld 8 (v := ?fv9) rfl rfl (by kernel_rfl) (by kernel_rfl) (by kernel_rfl) (by kernel_rfl) (by kernel_rfl) (by rfl) ?fy9 ?fr9
        case fy9 => (intro w hSw; (try dsimp only at hSw); go_simp; (try with_reducible rfl))
        (try simp only [Act.put, List.setIfInBounds_toArray, List.set_cons_zero, List.set_cons_succ])
        refine E_take0 hQ (fun _ => hHeld) 9 (v := ?fv10) rfl rfl (by kernel_rfl) (by kernel_rfl) (by kernel_rfl) (by decide) (by rfl) ?fy10 ?fr10
        case fy10 => (intro w; go_simp; (try with_reducible rfl))
        (try simp only [Act.put, List.setIfInBounds_toArray, List.set_cons_zero, List.set_cons_succ])
        refine E_take hQ hHeld 10 (v := ?fv11) rfl rfl (by kernel_rfl) (by kernel_rfl) (by kernel_rfl) (by kernel_rfl) (by kernel_rfl) (by rfl) ?fy11 ?fr11
        case fy11 => (intro w hSw; (try dsimp only at hSw); go_simp; (try with_reducible rfl))
        (try simp only [Act.put, List.setIfInBounds_toArray, List.set_cons_zero, List.set_cons_succ])
        refine E_take0 hQ (fun _ => hHeld) 11 (v := ?fv12) rfl rfl (by kernel_rfl) (by kernel_rfl) (by kernel_rfl) (by decide) (by rfl) ?fy12 ?fr12
        case fy12 => (intro w; go_simp; (try with_reducible rfl))
        (try simp only [Act.put, List.setIfInBounds_toArray, List.set_cons_zero, List.set_cons_succ])
        refine E_take0 hQ (fun _ => hHeld) 12 (v := ?fv13) rfl rfl (by kernel_rfl) (by kernel_rfl) (by kernel_rfl) (by decide) (by rfl) ?fy13 ?fr13
        case fy13 => (intro w; go_simp; (try with_reducible rfl))
        (try simp only [Act.put, List.setIfInBounds_toArray, List.set_cons_zero, List.set_cons_succ])
        refine E_take0 hQ (fun _ => hHeld) 13 (v := ?fv14) rfl rfl (by kernel_rfl) (by kernel_rfl) (by kernel_rfl) (by decide) (by rfl) ?fy14 ?fr14
        case fy14 => (intro w; go_simp; (try with_reducible rfl))
        (try simp only [Act.put, List.setIfInBounds_toArray, List.set_cons_zero, List.set_cons_succ])
        refine E_take hQ hHeld 14 (v := ?fv15) rfl rfl (by kernel_rfl) (by kernel_rfl) (by kernel_rfl) (by kernel_rfl) (by kernel_rfl) (by rfl) ?fy15 ?fr15
        case fy15 => (intro w hSw; (try dsimp only at hSw); go_simp; (try with_reducible rfl))
        (try simp only [Act.put, List.setIfInBounds_toArray, List.set_cons_zero, List.set_cons_succ])
        refine E_take0 hQ (fun _ => hHeld) 15 (v := ?fv16) rfl rfl (by kernel_rfl) (by kernel_rfl) (by kernel_rfl) (by decide) (by rfl) ?fy16 ?fr16
        case fy16 => (intro w; go_simp; (try with_reducible rfl))
        (try simp only [Act.put, List.setIfInBounds_toArray, List.set_cons_zero, List.set_cons_succ])
        refine E_one 16 (by kernel_rfl) rfl (by rfl) (fun K hK => ?_)
        go_simp
        (try simp only [Act.put, List.setIfInBounds_toArray, List.set_cons_zero, List.set_cons_succ])
        refine hK.out _ _ (fun _ h => absurd rfl h) (fun _ => ?_)
        clear hK hHeld
        (try simp only [Act.put, List.setIfInBounds_toArray, List.set_cons_zero, List.set_cons_succ])
        refine E_done (by kernel_rfl) ?_ _
        refine hK'.out _ _ ?_
        clear hK' hQ
        go_wp2_with fail
        go_roundg (d.steps.length + 1 - (j + 1))
        case measure => omega
        case rel => exact ⟨j + 1, by omega, by omega, by go_num, Lib.hid HB7.out.drew⟩
      · have d1 : decide ((j : Int) < (d.steps.length : Int)) = false := decide_eq_false (by omega)
        have HBF := Lib.hid (bthen HB15.out (Nat.le_refl _) HBK.out)
        go_wp2_with fail
        go_ret
        exact ⟨rfl, HBF.out⟩
end Go.Proofs.Ytgafjjgnbcjmpaa
