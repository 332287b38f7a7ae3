/-
  varint: All.
-/
import Derived.Test.YtigeedaihbpjiaaVe
namespace Go.Proofs.Ytigeedaihbpjiaa
open Go.RowKit
theorem Try.info40 : (Try.prog.info? 28).map (fun i => (i.zero, i.size, i.bytes)) = some (some (.int .u64 0), 1, 8) := by kernel_rfl

set_option maxRecDepth 100000 in
set_option maxHeartbeats 400000 in
theorem All_any (bs : List Nat) (v : Value) (w : World) (hb : AllLt 256 bs) (hr : RdS w v 1 bs.length (u8s bs)) (hbig : bs.length ≤ 1048576) :
    Calls Try.prog 18 #[v] w fun e w' => ∃ v', e = .returned (.tuple #[v', .agg #[.int .i64 (allL bs).2.1, .int .i64 (allL bs).2.2]]) ∧ w'.ownsRow w.heap.size 28 1 v' (allL bs).1.length (u64s (allL bs).1) ∧ Below w.heap.size w w' := by
  obtain ⟨i0, hi, hz0, hz1, hz2⟩ := info_parts Try.info40
  rcases hr.cases (by decide) with ⟨h0, h1, a, cap, rfl, hm⟩ | ⟨hn, hl, g, off, cap, rfl, hnc, hcm, hc⟩
  · obtain rfl : bs = [] := List.eq_nil_of_length_eq_zero h0
    go_enter Try.func18, Try.ntmps18
    go_wp2
    go_loop [4, 5] (fun v i => v = .slice none 0 0 ∧ i = .int .i64 0) (fun v i => 0)
    case atStart => exact ⟨rfl, rfl⟩
    case round =>
      obtain ⟨rfl, rfl⟩ := hrel
      go_wp2
      refine bodyPost_ret (v := .tuple #[.slice none 0 0, .agg #[.int .i64 0, .int .i64 0]]) (by simp [results, Try.results18, go_sem]) rfl ?_
      exact ⟨_, rfl, World.ownsRow_nil _ _ _ _, (Below.refl _ w).alloc (Nat.le_refl _) _⟩
  · have HC := Lib.hid hc
    have HR := Lib.hid hr
    clear hc hr hl
    go_enter Try.func18, Try.ntmps18
    go_wp2
    go_loopw [4, 5] (fun out i wr => ∃ (k f : Nat) (acc : List Nat), k ≤ bs.length ∧ i = .int .i64 k ∧ wr.ownsRow (w.heap.size + 1) 28 1 out acc.length (u64s acc) ∧ acc.length ≤ k ∧ Hid (allL bs = allGo f k acc (bs.drop k)) ∧ Hid (bs.length ≤ k + f) ∧ Below w.heap.size w wr ∧ Hid (wr.heap[w.heap.size]? = some (.cells #[.int .i64 0, .int .i64 0] 34 (0, 0)))) (fun _ i _ => bs.length - (intOf i).toNat)
    case atStart => exact ⟨0, bs.length, [], by omega, rfl, World.ownsRow_nil _ _ _ _, by simp, rfl, by show _ ≤ _; omega, (Below.refl _ w).alloc (Nat.le_refl _) _, World.alloc_heap_new w _⟩
    case round =>
      obtain ⟨k, f, acc, hk, rfl, hown, hacc, HL, HF, hbw, HB⟩ := hrel
      have hb0 : wr.cell? ⟨w.heap.size, 0, none⟩ = some (.int .i64 0) := by simp [World.cell?, HB.out]
      have hb1 : wr.cell? ⟨w.heap.size, 1, none⟩ = some (.int .i64 0) := by simp [World.cell?, HB.out]
      have hf0 : wr.frozen? ⟨w.heap.size, 0, none⟩ = false := by simp [World.frozen?, HB.out]
      have hf1 : wr.frozen? ⟨w.heap.size, 1, none⟩ = false := by simp [World.frozen?, HB.out]
      by_cases hlt : k < bs.length
      · cases f with
        | zero => have : bs.length ≤ k + 0 := HF.out; omega
        | succ f =>
        have hne : bs.drop k ≠ [] := by intro h; have := congrArg List.length h; simp at this; omega
        have hbd := getGo_bound (bs.drop k) (fun x hx => hb x (List.mem_of_mem_drop hx)) 0 0 (by omega) (by omega)
        have hpos := getGo_pos (bs.drop k) 0 0
        have hok := allGo_ok f k acc (bs.drop k) hne
        have herr := allGo_err f k acc (bs.drop k) hne
        have HG := Lib.hid (Get_any (bs.drop k) _ wr (fun x hx => hb x (List.mem_of_mem_drop hx)) (rds_drop u8s_drop u8s_length hbw HC.out hnc hcm k hk))
        rw [show getGo 0 0 (bs.drop k) = getL (bs.drop k) from rfl] at hbd hpos
        generalize getL (bs.drop k) = r at *
        obtain ⟨n, j, e⟩ := r
        dsimp only [tup3] at *
        rw [List.length_drop] at hbd
        by_cases he : e = 0
        · subst he
          have HO := Lib.hid (hok rfl)
          have hj := hpos rfl
          have hjk : k + j ≤ bs.length := by omega
          have hbd1 := hbd.1
          have HBD := Lib.hid hbd
          have hsz : w.heap.size + 1 ≤ wr.heap.size := (Array.getElem?_eq_some_iff.1 HB.out).1
          clear hok herr hpos hbd hne
          go_wp2_with (first | (go_at_call 74; refine HG.out.mono ?_; rintro e w' ⟨rfl, rfl⟩) | (at_builtin; go_must (refine wpList_push rfl _ _ 32 rfl (w.heap.size + 1) 28 i0 (.int .u64 0) 1 8 Try.underlying32 hi hz0 hz1 hz2 rfl (by decide) _ _ _ rfl (hown.alloc _) ⟨wr.heap.size, 0, none⟩ 1 1 [_] rfl rfl (cell_one_new _ _ _) (by simp [Value.oneCell']) (by unfold maxLen; omega) (by omega) (by simp; omega) ?_; intro v' w1 hown' hgrow hfr)))
          have hgrow : (wr.alloc _).grownBy w1 u4.ownBlock := hgrow
          go_roundw
          case rel => exact ⟨k + j, f, acc ++ [n], hjk, by go_num, by simpa [u64s] using hown', by simp; omega, by show allL bs = _; rw [HL.out, HO.out, List.drop_drop], by have := HF.out; show _ ≤ _; omega, below_push hbw (by omega) hown (by omega) hgrow, kept_push HB.out hgrow (fun e => by have := (hown.lt _ e).1; omega)⟩
          case measure => simp [intOf]; omega
        · have HE := Lib.hid (herr he)
          have hee : ((e : Int) == 0) = false := by simp; omega
          clear hok herr hpos hne
          go_wp2_with (go_at_call 74; refine HG.out.mono ?_; rintro e w' ⟨rfl, rfl⟩)
          have hs2 := cells2 (set2 (.int .i64 e) (.int .i64 k) HB.out)
          obtain ⟨q0, q1, _, _⟩ := hs2
          refine bodyPost_ret (v := .tuple #[.slice none 0 0, .agg #[.int .i64 e, .int .i64 k]]) (by simp [results, Try.results18, go_sem, q0, q1]) rfl ?_
          refine ⟨_, by rw [HL.out, HE.out], by rw [HL.out, HE.out]; exact World.ownsRow_nil _ _ _ _, (hbw.setCell (p := ⟨w.heap.size, 0, none⟩) (Nat.le_refl _) _).setCell (p := ⟨w.heap.size, 1, none⟩) (Nat.le_refl _) _⟩
      · go_wp2
        have hs2 := cells2 (set2 (.int .i64 0) (.int .i64 0) HB.out)
        obtain ⟨q0, q1, _, _⟩ := hs2
        refine bodyPost_ret (v := .tuple #[u4, .agg #[.int .i64 0, .int .i64 0]]) (by simp [results, Try.results18, go_sem, q0, q1]) rfl ?_
        have hE : allL bs = (acc, 0, 0) := by rw [HL.out, List.drop_of_length_le (by omega), allGo_nil]
        rw [hE]
        refine ⟨_, rfl, ownsRow_mono (ownsRow_setCell_below (ownsRow_setCell_below hown (a := ⟨w.heap.size, 0, none⟩) (by simp) _) (a := ⟨w.heap.size, 1, none⟩) (by simp) _) (by omega), (hbw.setCell (p := ⟨w.heap.size, 0, none⟩) (Nat.le_refl _) _).setCell (p := ⟨w.heap.size, 1, none⟩) (Nat.le_refl _) _⟩

end Go.Proofs.Ytigeedaihbpjiaa
