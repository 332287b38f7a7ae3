/-
  varint: the law VarintAll's walk.
-/
import Derived.Test.YtkaadkjbimaodaaVi
namespace Go.Proofs.Ytkaadkjbimaodaa
open Go.RowKit

set_option maxRecDepth 100000 in
set_option maxHeartbeats 1000000 in
theorem VarintAll_any (bs : List Nat) (v : Value) (ls : List Nat) (vl : Value) (w : World) (hb : AllLt 256 bs) (hr : RdS w v 1 bs.length (u8s bs)) (hl : AllLt 18446744073709551616 ls) (hr2 : RdS w vl 1 ls.length (u64s ls)) :
    Calls Try.prog 10 #[v, vl] w fun e w' => e = .returned (.bool true) ∧ Below w.heap.size w w' := by
  obtain ⟨i0, hi, hz0, hz1, hz2⟩ := info_parts Try.info5
  have HRb := Lib.hid hr
  have HRl := Lib.hid hr2
  obtain ⟨ab, cb, rfl⟩ := hr.form
  obtain ⟨al, cl, rfl⟩ := hr2.form
  by_cases hbig : 1000 < bs.length
  · clear hr hr2
    go_enter Try.func10, Try.ntmps10
    go_wp2_with fail
    refine (live_any _).mono ?_
    rintro e w1 ⟨rfl, hb1⟩
    have hdd : decide ((1000 : Int) < bs.length) = true := by simp; omega
    go_wp2
    go_ret
    exact ⟨rfl, hb1⟩
  by_cases hbig2 : 100 < ls.length
  · clear hr hr2
    go_enter Try.func10, Try.ntmps10
    go_wp2_with fail
    refine (live_any _).mono ?_
    rintro e w1 ⟨rfl, hb1⟩
    have hdd : decide ((1000 : Int) < bs.length) = false := by simp; omega
    have hdl : decide ((100 : Int) < ls.length) = true := by simp; omega
    go_wp2
    go_ret
    exact ⟨rfl, hb1⟩
  · have HA := fun w' h => Lib.hid (All_any bs (.slice ab bs.length cb) w' hb h (by omega))
    have HA' := fun w' h => Lib.hid (rAll_any bs (.slice ab bs.length cb) w' hb h (by omega))
    have hbd := allGo_all bs.length 0 [] bs hb (by intro x hx; simp at hx)
    rw [show allGo bs.length 0 [] bs = allL bs from rfl] at hbd
    generalize allL bs = r at *
    obtain ⟨la, ea, pa⟩ := r
    dsimp only at *
    have HBD := Lib.hid hbd
    have HL := Lib.hid hl
    clear hbd hl hb
    have hcl : ls.length = 0 ∧ ls = [] ∨ 0 < ls.length ∧ ∃ g off, al = some ⟨g, off, none⟩ ∧ ls.length ≤ cl ∧ cl ≤ 9223372036854775807 ∧ Hid (∀ i c, (u64s ls)[i]? = some c → w.cell? ⟨g, off + i, none⟩ = some c) := by
      rcases hr2.cases (by decide) with ⟨h0, _⟩ | ⟨hn, _, g, off, cap, hq, h1, h2, h3⟩
      · exact .inl ⟨h0, List.eq_nil_of_length_eq_zero h0⟩
      · simp at hq; exact .inr ⟨hn, g, off, hq.1, by omega, by omega, h3⟩
    have HCL := Lib.hid hcl
    clear hcl hr hr2
    have hdd : decide ((1000 : Int) < bs.length) = false := by simp; omega
    have hdl : decide ((100 : Int) < ls.length) = false := by simp; omega
    have HAL := fun v' w' h h2 => Lib.hid (All_any (putsL ls) v' w' (putsL_all ls HL.out) h h2)
    rw [allL_puts ls HL.out] at HAL
    have hplen := putsL_len ls
    go_enter Try.func10, Try.ntmps10
    go_wp2_with fail
    refine (live_any _).mono ?_
    rintro e w1 ⟨rfl, hb1⟩
    go_wp2_with fail
    refine (HA _ (HRb.out.below hb1)).out.mono ?_
    rintro e w2 ⟨v2, rfl, ho2, hb2⟩
    have hbA := bthen hb1 (Nat.le_refl _) hb2
    have HR2 := Lib.hid (RdS.of_owns ho2)
    obtain ⟨a2, c2, rfl⟩ := (RdS.of_owns ho2).form
    clear ho2
    go_wp2_with fail
    have hbB : Below w2.heap.size w2 (w2.alloc (Obj.cells #[.int .i64 ea, .int .i64 pa] 56)) := (Below.refl _ _).alloc (Nat.le_refl _) _
    have hbB' := bthen hbA (Nat.le_refl _) hbB
    refine (HA' _ (HRb.out.below hbB')).out.mono ?_
    rintro e w3 ⟨v3, rfl, ho3, hb3⟩
    have hbC := bthen hbB' (Nat.le_refl _) hb3
    have hs3 := hb3.size
    rw [World.size_alloc] at hs3
    have hc3 : (w3.alloc (Obj.cells #[.int .i64 ea, .int .i64 pa] 56)).heap[w2.heap.size]? = some (.cells #[.int .i64 ea, .int .i64 pa] 56 (0, 0)) := by
      rw [Below.heap_alloc _ _ _ (by omega), hb3.block _ (by simp)]; exact World.alloc_heap_new w2 _
    have hd3 : (w3.alloc (Obj.cells #[.int .i64 ea, .int .i64 pa] 56)).heap[w3.heap.size]? = some (.cells #[.int .i64 ea, .int .i64 pa] 56 (0, 0)) := World.alloc_heap_new w3 _
    obtain ⟨q0, q1, _, _⟩ := cells2 hc3
    obtain ⟨q2, q3, _, _⟩ := cells2 hd3
    have hbD : Below w3.heap.size w3 (w3.alloc (Obj.cells #[.int .i64 ea, .int .i64 pa] 56)) := (Below.refl _ _).alloc (Nat.le_refl _) _
    have hb23 : Below w2.heap.size w2 (w3.alloc (Obj.cells #[.int .i64 ea, .int .i64 pa] 56)) := (bthen hbB (Nat.le_refl _) hb3).trans (hbD.mono (by omega))
    have HR2' := Lib.hid (HR2.out.below hb23)
    have HR3' := Lib.hid ((RdS.of_owns ho3).below hbD)
    have hbE := bthen hbC (Nat.le_refl _) hbD
    obtain ⟨a3, c3, rfl⟩ := (RdS.of_owns ho3).form
    clear ho3 hc3 hd3
    go_wp2_with fail
    refine (Nums_true _ _ la _ HR2'.out HR3'.out).mono ?_
    rintro e w4 ⟨rfl, hb4⟩
    have hbF := bthen hbE (Nat.le_refl _) hb4
    clear q0 q1 q2 q3
    go_wp2_with fail
    go_loopw [9, 10] (fun out i wr => ∃ (k : Nat), k ≤ ls.length ∧ i = .int .i64 k ∧ wr.ownsRow w.heap.size 5 1 out (putsL (ls.take k)).length (u8s (putsL (ls.take k))) ∧ Below w.heap.size w wr) (fun _ i _ => ls.length - (intOf i).toNat)
    case atStart => exact ⟨0, by omega, rfl, World.ownsRow_nil _ _ _ _, hbF⟩
    case round =>
      obtain ⟨k, hk, rfl, hown, hbw⟩ := hrel
      have hsz := hbw.size
      by_cases hlt : k < ls.length
      · rcases HCL.out with ⟨h0, _⟩ | ⟨_, g, off, hal, hlc, hcm, hcc⟩
        · omega
        · have hcell := cellB hbw (hcc.out k _ (u64s_get ls k hlt))
          have hsn : putsL (ls.take (k + 1)) = putsL (ls.take k) ++ putL 9 (ls[k]?.getD 0) := by
            rw [List.take_succ_eq_append_getElem hlt, putsL_snoc]; simp [hlt]
          have hnb : ls[k]?.getD 0 < 18446744073709551616 := HL.out.get k (by decide)
          have hlen := putsL_len (ls.take k)
          have hlen2 := putL_len 9 (ls[k]?.getD 0)
          rw [List.length_take] at hlen
          generalize ls[k]?.getD 0 = x at *
          have HSN := Lib.hid hsn
          clear hsn
          have hlt' : (k : Int) < ls.length := by omega
          rw [hal]
          go_wp2_with fail
          refine (Put_any x _ hnb).mono ?_
          rintro e w5 ⟨v5, rfl, ho5, hb5⟩
          have hown5 : w5.ownsRow w.heap.size 5 1 u9 (putsL (ls.take k)).length (u8s (putsL (ls.take k))) := ownsB hown hb5
          have hbw5 := bthen hbw (Nat.le_refl _) hb5
          have hsz5 := hbw5.size
          go_wp2_with (at_builtin; go_must (refine wpList_pushS rfl _ _ 41 rfl w.heap.size 5 i0 (.int .u8 0) 1 1 Try.underlying41 hi hz0 hz1 hz2 rfl (by decide) _ _ _ rfl hown5 _ (putL 9 x).length (u8s (putL 9 x)) rfl (RdS.of_owns ho5) (u8s_one _) (by unfold maxLen; omega) (by omega) hsz5 ?_; intro v6 w6 hown6 hgrow6 hfr6))
          have hgrow6 : w5.grownBy w6 u9.ownBlock := hgrow6
          go_roundw
          case rel => exact ⟨k + 1, by omega, by go_num, by rw [HSN.out, u8s_append]; simpa using hown6, hbw5.grown hgrow6 hsz5 (fun j ej => (hown5.lt j ej).1)⟩
          case measure => simp [intOf]; omega
      · have hkl : ls.take k = ls := List.take_of_length_le (by omega)
        rw [hkl] at hown
        clear hkl
        go_wp2_with fail
        have HRA := Lib.hid (RdS.of_owns hown)
        refine (HAL _ _ HRA.out (by omega)).out.mono ?_
        rintro e w7 ⟨v7, rfl, ho7, hb7⟩
        have hbw7 := bthen hbw (Nat.le_refl _) hb7
        have hd7 : (w7.alloc (Obj.cells #[.int .i64 0, .int .i64 0] 56)).heap[w7.heap.size]? = some (.cells #[.int .i64 0, .int .i64 0] 56 (0, 0)) := World.alloc_heap_new w7 _
        obtain ⟨q0, q1, _, _⟩ := cells2 hd7
        have hbX : Below w7.heap.size w7 (w7.alloc (Obj.cells #[.int .i64 0, .int .i64 0] 56)) := (Below.refl _ _).alloc (Nat.le_refl _) _
        have HR7 := Lib.hid ((RdS.of_owns ho7).below hbX)
        have hbw8 := bthen hbw7 (Nat.le_refl _) hbX
        have HRL := Lib.hid (HRl.out.below hbw8)
        obtain ⟨a7, c7, rfl⟩ := (RdS.of_owns ho7).form
        clear ho7 hd7
        go_wp2_with fail
        refine (Nums_true _ _ ls _ HR7.out HRL.out).mono ?_
        rintro e w9 ⟨rfl, hb9⟩
        go_wp2
        go_ret
        exact ⟨rfl, bthen hbw8 (Nat.le_refl _) hb9⟩
end Go.Proofs.Ytkaadkjbimaodaa
