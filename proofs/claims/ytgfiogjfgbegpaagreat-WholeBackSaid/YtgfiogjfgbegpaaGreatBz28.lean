/-
  backoff.waits: the iterator's contract.
-/
import Derived.Sort.LoopGhostIn
import Derived.Shelf.RegionOpen
import Derived.Deep.DeepMust
import Derived.Test.YtgfiogjfgbegpaaGreatBz1
import Derived.Test.YtgfiogjfgbegpaaGreatBz4
import Derived.Test.YtgfiogjfgbegpaaGreatBz6
import Derived.Test.YtgfiogjfgbegpaaGreatBz23
namespace Go.Proofs.YtgfiogjfgbegpaaGreat
open Go.RowKit
attribute [local go_sem] Oper.semAt_some wide_fn wide_depth wide_fn' wide_depth'

theorem waits_any (m f k : Int) (w : World) :
    Calls Tryz.prog 106 #[retryV m f k] w fun e w' => e = .returned (.func (.func 128) #[] #[.pointer (some ⟨w.heap.size, 0, none⟩)]) ∧ w.alloc (.cells #[.int .i64 m, .int .i64 f, .int .i64 k] 42) = w' := by
  unfold retryV
  go_enter Tryz.func106, Tryz.ntmps106
  go_wp2
  go_ret
  exact ⟨rfl, rfl⟩

def encI (x : Int) : Array Value := #[.int .i64 x]
def Boxed3 (W : World) (B : Nat) (m f k : Int) : Prop := W.heap[B]? = some (.cells #[.int .i64 m, .int .i64 f, .int .i64 k] 42 (0, 0))

set_option maxRecDepth 100000 in
set_option maxHeartbeats 1000000 in
theorem waits_iter (m f k : Int) (n0 B N : Nat) (w : World) (hB : n0 ≤ B) (hb : Boxed3 w B m f k) :
    IterAt Tryz.prog n0 128 #[.pointer (some ⟨B, 0, none⟩)] encI (bList f k N) False (· = B) w := by
  intro l J Jx W hfin hS hn0 hbl hJ hJx hY h0
  have hlt := (Array.getElem?_eq_some_iff.1 hb).1
  have hbW : Boxed3 W B m f k := (hbl.block B hlt).trans hb
  obtain ⟨q0, q1, q2, _⟩ := cells3h hbW
  have hmn := @run_min2 Tryz.prog
  have HY := Lib.hid hY
  have HF := Lib.hid (hfin (fun h => h))
  have HS := Lib.hid hS
  clear hY hfin hS
  refine callsIn_of_wp Tryz.func128 rfl trivial ?_ rfl
  simp only [Tryz.ntmps128, List.size_toArray, List.length_cons, List.length_nil, Nat.reduceAdd, Nat.reduceSub, Array.replicate_succ, Array.replicate_zero, List.push_toArray, List.append_toArray, List.nil_append, List.cons_append]
  gi_wp2_with (gi_at_call 40; refine (callsIn_wide.2 (meant_any m f k _)).mono ?_; rintro e w1 ⟨rfl, hb1⟩; unfold retryV)
  have hsz := hb1.size
  obtain ⟨S1, hS1, hJ1⟩ : ∃ S1 : Nat → Prop, Hid (((∀ j, S1 j → n0 ≤ j ∧ j < w1.heap.size + 1) ∧ S1 w1.heap.size)) ∧ J S1 [] (w1.alloc (Obj.cells #[.int .i64 (bMost m), .int .i64 (bFirst f), .int .i64 (bFac k)] 42)) := by
    have h1 : J (· = B) [] w1 := hJ _ _ _ _ _ HS.out h0 (Step.of_below hn0 hb1)
    have h2 : ∀ j, j = B → n0 ≤ j ∧ j < w1.heap.size := fun j hj => by have := HS.out j hj; omega
    refine ⟨_, ⟨?_, ?_⟩, hJ _ _ _ _ _ h2 h1 (Step.alloc (by omega) _)⟩
    · rintro j (hj | rfl)
      · have := h2 j hj; omega
      · omega
    · exact .inr rfl
  have hM : Boxed3 (w1.alloc (Obj.cells #[.int .i64 (bMost m), .int .i64 (bFirst f), .int .i64 (bFac k)] 42)) w1.heap.size (bMost m) (bFirst f) (bFac k) := World.alloc_heap_new w1 _
  have hsz2 : (w1.alloc (Obj.cells #[.int .i64 (bMost m), .int .i64 (bFirst f), .int .i64 (bFac k)] 42)).heap.size = w1.heap.size + 1 := by simp
  generalize (w1.alloc (Obj.cells #[.int .i64 (bMost m), .int .i64 (bFirst f), .int .i64 (bFac k)] 42)) = w2 at *
  generalize w1.heap.size = M at *
  have HSZ := Lib.hid hsz2
  clear hsz2 q0 q1 q2
  gi_loopg [4] N (fun g p wr => ∃ (S : Nat → Prop) (i : Nat), i + g = N ∧ Hid (∀ j, S j → n0 ≤ j ∧ j < wr.heap.size) ∧ S M ∧ Boxed3 wr M (bMost m) (bFirst f) (bFac k) ∧ p = .int .i64 (bSeq f k i) ∧ J S (bList f k i) wr)
  case atStart =>
    exact ⟨S1, 0, by omega, fun j hj => by rw [HSZ.out]; exact hS1.out.1 j hj, hS1.out.2, hM, rfl, hJ1⟩
  case round =>
    obtain ⟨S, i, hi, hSb, hSM, hbx, rfl, hJs⟩ := hrel
    have hiN : i < N := by
      rcases Nat.lt_or_ge i N with h | h
      · exact h
      · exfalso; obtain rfl : i = N := by omega
        exact HF.out _ _ hJs
    have hg : gk = N - i := by omega
    subst hg
    clear hi
    obtain ⟨fn, tmps, assign, body, hy, hR⟩ := HY.out S (bList f k i) (bSeq f k i) wr hSb.out hJs (by rw [← bList_succ]; exact bList_prefix f k (i + 1) N hiN)
    dsimp only [encI] at hy
    have hml := bSeq_mul f k i
    have hfr := bFac_range k
    gi_wp2
    refine hR.mono ?_
    rintro e W' (⟨rfl, hJ', hk⟩ | ⟨rfl, hJ', hk⟩)
    · have hb' : Boxed3 W' M (bMost m) (bFirst f) (bFac k) := (hk.same M hSM).trans hbx
      obtain ⟨q0, q1, q2, _⟩ := cells3h hb'
      have HSeq : Hid (min (bSeq f k i * bFac k) 1000 = bSeq f k (i + 1)) := rfl
      clear hy hR
      gi_wp2
      gi_roundg (N - (i + 1))
      case measure => omega
      case rel => exact ⟨S, i + 1, by omega, fun j hj => by have := hSb.out j hj; have := hk.below.size; omega, hSM, hb', by rw [HSeq.out], by rw [bList_succ]; exact hJ'⟩
    · gi_wp2
      go_end0
      exact ⟨⟨_, rfl⟩, S, (fun j hj => by have := hSb.out j hj; have := hk.below.size; omega), .inr ⟨_, by rw [← bList_succ]; exact bList_prefix f k (i + 1) N hiN, hJ'⟩⟩
end Go.Proofs.YtgfiogjfgbegpaaGreat

/-
  backoff.More, Wait, Waits, Total: contracts.
-/
namespace Go.Proofs.YtgfiogjfgbegpaaGreat
open Go.RowKit
attribute [local go_sem] Oper.semAt_some wide_fn wide_depth wide_fn' wide_depth'

theorem field_retry0 (m : Int) (c1 c2 : Value) (w : World) : (Instr.field 42 (.agg #[.int .i64 m, c1, c2]) 0).run Tryz.prog w = .ok (.int .i64 m) w := by kernel_rfl
def moreB (m t : Int) : Bool := decide (1 ≤ t ∧ t < bMost m)

set_option maxRecDepth 100000 in
set_option maxHeartbeats 400000 in
theorem More_any (m f k t : Int) (w : World) :
    Calls Tryz.prog 107 #[retryV m f k, .int .i64 t] w fun e w' => e = .returned (.bool (moreB m t)) ∧ Below w.heap.size w w' := by
  by_cases h1 : 1 ≤ t
  · have hm : moreB m t = decide (t < bMost m) := by unfold moreB; simp [h1]
    rw [hm]
    clear hm
    have hd : decide (1 ≤ t) = true := by simpa using h1
    have hf0 := @field_retry0
    unfold retryV
    go_enter Tryz.func107, Tryz.ntmps107
    go_wp2_with fail
    refine (meant_any m f k _).mono ?_
    rintro e w1 ⟨rfl, hb1⟩
    unfold retryV
    go_wp2
    go_ret
    exact ⟨rfl, ((Below.refl _ w).alloc (Nat.le_refl _) _).trans (hb1.mono (by simp))⟩
  · have hm : moreB m t = false := by unfold moreB; simp [h1]
    rw [hm]
    clear hm
    have hd : decide (1 ≤ t) = false := by simpa using h1
    unfold retryV
    go_enter Tryz.func107, Tryz.ntmps107
    go_wp2
    go_ret
    exact ⟨rfl, (Below.refl _ w).alloc (Nat.le_refl _) _⟩


set_option maxRecDepth 100000 in
set_option maxHeartbeats 1000000 in
theorem Wait_any (m f k t : Int) (w : World) :
    Calls Tryz.prog 113 #[retryV m f k, .int .i64 t] w fun e w' => e = .returned (.int .i64 (waitI f k t)) ∧ Below w.heap.size w w' := by
  refine (callsIn_wide (n := 0)).1 ?_
  refine callsIn_of_wp_marks Tryz.func113 rfl trivial ?_ rfl
  simp only [Tryz.ntmps113, List.size_toArray, List.length_cons, List.length_nil, Nat.reduceAdd, Nat.reduceSub, Array.replicate_succ, Array.replicate_zero, List.push_toArray, List.append_toArray, List.nil_append, List.cons_append]
  by_cases h1 : t < 1
  · have hw : waitI f k t = 0 := by unfold waitI; rw [if_pos h1]
    rw [hw]
    clear hw
    unfold retryV
    gi_wp2
    refine wpIn_scope ?_
    gi_wp2
    rw [Exit.noGoto_ret]
    exact ⟨_, results_tmp rfl _ _ _, rfl, (Below.refl _ w).alloc (Nat.le_refl _) _⟩
  · have hw : waitI f k t = bSeq f k ((min t 20).toNat - 1) := by unfold waitI; rw [if_neg h1]
    rw [hw]
    clear hw
    have hmn := @run_min2 Tryz.prog
    unfold retryV
    gi_wp2
    refine wpIn_scope ?_
    gi_wp2
    refine wpIn_label ?_
    gi_wp2_with (gi_at_call 106; refine (callsIn_wide.2 (waits_any m f k _)).mono ?_; rintro e w1 ⟨rfl, rfl⟩)
    have HN := Lib.hid (show min t 20 = ((min t 20).toNat : Int) by omega)
    have HN1 := Lib.hid (show 1 ≤ (min t 20).toNat ∧ (min t 20).toNat ≤ 20 by omega)
    rw [HN.out]
    generalize hNN : (min t 20).toNat = N at HN HN1 ⊢
    have HNN := Lib.hid hNN
    clear hmn HN hNN
    have hb4 : Boxed3 (((((w.alloc (Obj.cells #[Value.int IntKind.i64 m, Value.int IntKind.i64 f, Value.int IntKind.i64 k] 42)).alloc (Obj.cells #[Value.int IntKind.i64 0] 3)).alloc (Obj.cells #[Value.int IntKind.i64 N] 3)).alloc (Obj.cells #[Value.int IntKind.i64 m, Value.int IntKind.i64 f, Value.int IntKind.i64 k] 42))) (w.heap.size + 1 + 1 + 1) m f k := by
      have := World.alloc_heap_new (((w.alloc (Obj.cells #[Value.int IntKind.i64 m, Value.int IntKind.i64 f, Value.int IntKind.i64 k] 42)).alloc (Obj.cells #[Value.int IntKind.i64 0] 3)).alloc (Obj.cells #[Value.int IntKind.i64 N] 3)) (Obj.cells #[Value.int IntKind.i64 m, Value.int IntKind.i64 f, Value.int IntKind.i64 k] 42)
      simpa [Boxed3] using this
    have hb2 : Boxed (((((w.alloc (Obj.cells #[Value.int IntKind.i64 m, Value.int IntKind.i64 f, Value.int IntKind.i64 k] 42)).alloc (Obj.cells #[Value.int IntKind.i64 0] 3)).alloc (Obj.cells #[Value.int IntKind.i64 N] 3)).alloc (Obj.cells #[Value.int IntKind.i64 m, Value.int IntKind.i64 f, Value.int IntKind.i64 k] 42))) (w.heap.size + 1) 3 (.int .i64 0) := by
      have := Boxed.new (w.alloc (Obj.cells #[Value.int IntKind.i64 m, Value.int IntKind.i64 f, Value.int IntKind.i64 k] 42)) 3 (.int .i64 0)
      rw [World.size_alloc] at this
      exact (this.alloc _).alloc _
    have hb3 : Boxed (((((w.alloc (Obj.cells #[Value.int IntKind.i64 m, Value.int IntKind.i64 f, Value.int IntKind.i64 k] 42)).alloc (Obj.cells #[Value.int IntKind.i64 0] 3)).alloc (Obj.cells #[Value.int IntKind.i64 N] 3)).alloc (Obj.cells #[Value.int IntKind.i64 m, Value.int IntKind.i64 f, Value.int IntKind.i64 k] 42))) (w.heap.size + 1 + 1) 3 (.int .i64 N) := by
      have := Boxed.new ((w.alloc (Obj.cells #[Value.int IntKind.i64 m, Value.int IntKind.i64 f, Value.int IntKind.i64 k] 42)).alloc (Obj.cells #[Value.int IntKind.i64 0] 3)) 3 (.int .i64 N)
      rw [World.size_alloc, World.size_alloc] at this
      exact this.alloc _
    have hbl : Below w.heap.size w (((((w.alloc (Obj.cells #[Value.int IntKind.i64 m, Value.int IntKind.i64 f, Value.int IntKind.i64 k] 42)).alloc (Obj.cells #[Value.int IntKind.i64 0] 3)).alloc (Obj.cells #[Value.int IntKind.i64 N] 3)).alloc (Obj.cells #[Value.int IntKind.i64 m, Value.int IntKind.i64 f, Value.int IntKind.i64 k] 42))) :=
      (((((Below.refl _ w).alloc (Nat.le_refl _) _).alloc (by simp) _).alloc (by simp; omega) _).alloc (by simp; omega) _)
    have hsz : (((((w.alloc (Obj.cells #[Value.int IntKind.i64 m, Value.int IntKind.i64 f, Value.int IntKind.i64 k] 42)).alloc (Obj.cells #[Value.int IntKind.i64 0] 3)).alloc (Obj.cells #[Value.int IntKind.i64 N] 3)).alloc (Obj.cells #[Value.int IntKind.i64 m, Value.int IntKind.i64 f, Value.int IntKind.i64 k] 42))).heap.size = w.heap.size + 4 := by simp
    generalize (((((w.alloc (Obj.cells #[Value.int IntKind.i64 m, Value.int IntKind.i64 f, Value.int IntKind.i64 k] 42)).alloc (Obj.cells #[Value.int IntKind.i64 0] 3)).alloc (Obj.cells #[Value.int IntKind.i64 N] 3)).alloc (Obj.cells #[Value.int IntKind.i64 m, Value.int IntKind.i64 f, Value.int IntKind.i64 k] 42))) = w4 at *
    have HB := Lib.hid hbl
    have HSZ := Lib.hid hsz
    refine wpIn_rf1 rfl (enters_of Tryz.func128 (by kernel_rfl) rfl) (waits_iter m f k w.heap.size (w.heap.size + 1 + 1 + 1) N w4 (by omega) hb4) (by omega) (by rintro j rfl; omega) (fun _ => rfl)
      (fun S pre W => pre.length < N ∧ (∃ o, Boxed W (w.heap.size + 1) 3 (.int .i64 o)) ∧ ¬ S (w.heap.size + 1) ∧ Boxed W (w.heap.size + 1 + 1) 3 (.int .i64 ((N : Int) - pre.length)) ∧ ¬ S (w.heap.size + 1 + 1) ∧ Below w.heap.size w W)
      (fun c S pre W => c = .exit 0 ∧ Boxed W (w.heap.size + 1) 3 (.int .i64 (bSeq f k (N - 1))) ∧ ¬ S (w.heap.size + 1) ∧ Below w.heap.size w W) ?hfin ?hJ ?hJx ?h0 ?a1 ?assign ?body ?done ?stop
    case a1 =>
      exact fun x => { tmps := #[.agg #[.int .i64 m, .int .i64 f, .int .i64 k], .int .i64 t, .pointer (some ⟨w.heap.size, 0, none⟩), undef, .int .i64 0, .pointer (some ⟨w.heap.size + 1, 0, none⟩), .pointer (some ⟨w.heap.size + 1 + 1, 0, none⟩), .int .i64 x, .int .i64 t, .bool (decide (t < 1)), .int .i64 t, .int .i64 N, .agg #[.int .i64 m, .int .i64 f, .int .i64 k], .func (.func 128) #[] #[.pointer (some ⟨w.heap.size + 1 + 1 + 1, 0, none⟩)], .int .i64 x, undef, undef, undef, undef, undef, undef], defers := [] }
    case hfin => rintro _ S W ⟨h, _⟩; simp [bList_len] at h
    case hJ =>
      rintro S S' s W W' hS ⟨h0, ⟨o, h1⟩, h2, h3, h4, h5⟩ hs
      exact ⟨h0, ⟨o, (hs.boxed h1 h2).1⟩, (hs.boxed h1 h2).2, (hs.boxed h3 h4).1, (hs.boxed h3 h4).2, h5.trans hs.below⟩
    case hJx =>
      rintro c S S' s W W' hS ⟨h0, h1, h2, h5⟩ hs
      exact ⟨h0, (hs.boxed h1 h2).1, (hs.boxed h1 h2).2, h5.trans hs.below⟩
    case h0 => exact ⟨by have := HN1.out; simp; omega, ⟨_, hb2⟩, by omega, by simpa using hb3, by omega, hbl⟩
    case assign =>
      intro l x W K hK
      dsimp only [encI]
      gi_wp2
      simpa using hK
    case body =>
      rintro l S pre x W hS hw hl _ ⟨h0, ⟨o, h1⟩, h2, h3, h4, h5⟩ hpre
      obtain ⟨hp, rfl, hlt⟩ := bList_next hpre
      have HP := Lib.hid hp
      have HPRE := Lib.hid hpre
      have HS := Lib.hid hS
      clear hS hpre hw hp
      have h1' := h1.set (.int .i64 (bSeq f k pre.length))
      have h3' : Boxed (W.setCell ⟨w.heap.size + 1, 0, none⟩ (.int .i64 (bSeq f k pre.length))) (w.heap.size + 1 + 1) 3 (.int .i64 ((N : Int) - pre.length)) := h3.other (by omega) _
      have hc := h1.cell
      have hf := h1.frozen
      have hc4 := h3'.cell
      have hf4 := h3'.frozen
      have h6 : Boxed ((W.setCell ⟨w.heap.size + 1, 0, none⟩ (.int .i64 (bSeq f k pre.length))).setCell ⟨w.heap.size + 1 + 1, 0, none⟩ (.int .i64 ((N : Int) - pre.length - 1))) (w.heap.size + 1) 3 (.int .i64 (bSeq f k pre.length)) := h1'.other (by omega) _
      have h7 : Boxed ((W.setCell ⟨w.heap.size + 1, 0, none⟩ (.int .i64 (bSeq f k pre.length))).setCell ⟨w.heap.size + 1 + 1, 0, none⟩ (.int .i64 ((N : Int) - pre.length - 1))) (w.heap.size + 1 + 1) 3 (.int .i64 ((N : Int) - pre.length - 1)) := h3'.set _
      have hc7 := h7.cell
      have hK : Keep w.heap.size S W ((W.setCell ⟨w.heap.size + 1, 0, none⟩ (.int .i64 (bSeq f k pre.length))).setCell ⟨w.heap.size + 1 + 1, 0, none⟩ (.int .i64 ((N : Int) - pre.length - 1))) := by
        refine ⟨((Below.refl _ W).setCell (by simp) _).setCell (by show _ ≤ _ + 1 + 1; omega) _, fun j hj => ?_⟩
        rw [Below.heap_setCell _ _ _ _ (fun e => h4 (by rw [show j = w.heap.size + 1 + 1 from e] at hj; exact hj)), Below.heap_setCell _ _ _ _ (fun e => h2 (by rw [show j = w.heap.size + 1 from e] at hj; exact hj))]
      have HK := Lib.hid hK
      clear hK
      obtain ⟨hn1, hn2⟩ := HN1.out
      gi_wp2
      · rename_i hz
        have hz' : (N : Int) - pre.length - 1 = 0 := by simpa using hz
        refine ⟨⟨rfl, ?_, h2, h5.trans HK.out.below⟩, HK.out⟩
        have : pre.length = N - 1 := by omega
        rw [← this]
        exact h6
      · rename_i hz
        have hz' : (N : Int) - pre.length - 1 ≠ 0 := by simpa using hz
        refine ⟨⟨by simp only [List.length_append, List.length_cons, List.length_nil]; omega, ⟨_, h6⟩, h2, ?_, h4, h5.trans HK.out.below⟩, HK.out⟩
        have : (N : Int) - ((pre ++ [bSeq f k pre.length]).length : Nat) = (N : Int) - pre.length - 1 := by simp; omega
        rw [this]
        exact h7
    case done =>
      rintro D S W hD hS hSD ⟨h, _⟩
      simp [bList_len] at h
    case stop =>
      rintro D c S pre W hD hS hSD hpre ⟨rfl, h1, h2, h5⟩ hK
      have hc := h1.cell
      have HS := Lib.hid hS
      clear hS
      gi_wp2
      rw [Exit.noGoto_ret]
      refine ⟨by simp, .inl ⟨_, _, rfl, run_takeDeferred hK, ?_⟩⟩
      exact ⟨_, results_tmp rfl _ _ _, by rw [HNN.out]; rfl, h5.trans (below_putObj _ _ (by omega))⟩
end Go.Proofs.YtgfiogjfgbegpaaGreat

/-
  backoff.Waits: contract.
-/
namespace Go.Proofs.YtgfiogjfgbegpaaGreat
open Go.RowKit
attribute [local go_sem] Oper.semAt_some wide_fn wide_depth wide_fn' wide_depth'

theorem Tryz.infoInt : (Tryz.prog.info? 3).map (fun i => (i.zero, i.size, i.bytes)) = some (some (.int .i64 0), 1, 8) := by kernel_rfl
theorem Keep.of_below {n0 : Nat} {S : Nat → Prop} {W W' : World} (hn : n0 ≤ W.heap.size) (hS : ∀ k, S k → n0 ≤ k ∧ k < W.heap.size) (h : Below W.heap.size W W') : Keep n0 S W W' :=
  ⟨h.mono hn, fun k hk => h.block k (hS k hk).2⟩


set_option maxRecDepth 100000 in
set_option maxHeartbeats 1000000 in
theorem Waits_any (m f k : Int) (w : World) :
    Calls Tryz.prog 79 #[retryV m f k] w fun e w' => ∃ v, e = .returned v ∧ w'.ownsRow w.heap.size 3 1 v (wN m) (ints .i64 (bList f k (wN m))) ∧ Below w.heap.size w w' := by
  refine (callsIn_wide (n := 0)).1 ?_
  refine callsIn_of_wp_marks Tryz.func79 rfl trivial ?_ rfl
  simp only [Tryz.ntmps79, List.size_toArray, List.length_cons, List.length_nil, Nat.reduceAdd, Nat.reduceSub, Array.replicate_succ, Array.replicate_zero, List.push_toArray, List.append_toArray, List.nil_append, List.cons_append]
  obtain ⟨i0, hi, hz0, hz1, hz2⟩ := info_parts Tryz.infoInt
  unfold retryV
  gi_wp2_with (gi_at_call 106; refine (callsIn_wide.2 (waits_any m f k _)).mono ?_; rintro e w1 ⟨rfl, rfl⟩)
  have hbr : Boxed3 (((w.alloc (Obj.cells #[Value.int IntKind.i64 m, Value.int IntKind.i64 f, Value.int IntKind.i64 k] 42)).alloc (Obj.cells #[Value.slice none 0 0] 38)).alloc (Obj.cells #[Value.int IntKind.i64 m, Value.int IntKind.i64 f, Value.int IntKind.i64 k] 42)) w.heap.size m f k := by
    have h0 := World.alloc_heap_new w (Obj.cells #[Value.int IntKind.i64 m, Value.int IntKind.i64 f, Value.int IntKind.i64 k] 42)
    exact (Below.heap_alloc _ _ _ (by simp; omega)).trans ((Below.heap_alloc _ _ _ (by simp)).trans h0)
  have hb4 : Boxed3 (((w.alloc (Obj.cells #[Value.int IntKind.i64 m, Value.int IntKind.i64 f, Value.int IntKind.i64 k] 42)).alloc (Obj.cells #[Value.slice none 0 0] 38)).alloc (Obj.cells #[Value.int IntKind.i64 m, Value.int IntKind.i64 f, Value.int IntKind.i64 k] 42)) (w.heap.size + 1 + 1) m f k := by
    have := World.alloc_heap_new ((w.alloc (Obj.cells #[Value.int IntKind.i64 m, Value.int IntKind.i64 f, Value.int IntKind.i64 k] 42)).alloc (Obj.cells #[Value.slice none 0 0] 38)) (Obj.cells #[Value.int IntKind.i64 m, Value.int IntKind.i64 f, Value.int IntKind.i64 k] 42)
    simpa [Boxed3] using this
  have hb2 : Boxed (((w.alloc (Obj.cells #[Value.int IntKind.i64 m, Value.int IntKind.i64 f, Value.int IntKind.i64 k] 42)).alloc (Obj.cells #[Value.slice none 0 0] 38)).alloc (Obj.cells #[Value.int IntKind.i64 m, Value.int IntKind.i64 f, Value.int IntKind.i64 k] 42)) (w.heap.size + 1) 38 (.slice none 0 0) := by
    have := Boxed.new (w.alloc (Obj.cells #[Value.int IntKind.i64 m, Value.int IntKind.i64 f, Value.int IntKind.i64 k] 42)) 38 (.slice none 0 0)
    rw [World.size_alloc] at this
    exact this.alloc _
  have hbl : Below w.heap.size w (((w.alloc (Obj.cells #[Value.int IntKind.i64 m, Value.int IntKind.i64 f, Value.int IntKind.i64 k] 42)).alloc (Obj.cells #[Value.slice none 0 0] 38)).alloc (Obj.cells #[Value.int IntKind.i64 m, Value.int IntKind.i64 f, Value.int IntKind.i64 k] 42)) :=
    ((((Below.refl _ w).alloc (Nat.le_refl _) _).alloc (by simp) _).alloc (by simp; omega) _)
  have hsz : (((w.alloc (Obj.cells #[Value.int IntKind.i64 m, Value.int IntKind.i64 f, Value.int IntKind.i64 k] 42)).alloc (Obj.cells #[Value.slice none 0 0] 38)).alloc (Obj.cells #[Value.int IntKind.i64 m, Value.int IntKind.i64 f, Value.int IntKind.i64 k] 42)).heap.size = w.heap.size + 3 := by simp
  generalize (((w.alloc (Obj.cells #[Value.int IntKind.i64 m, Value.int IntKind.i64 f, Value.int IntKind.i64 k] 42)).alloc (Obj.cells #[Value.slice none 0 0] 38)).alloc (Obj.cells #[Value.int IntKind.i64 m, Value.int IntKind.i64 f, Value.int IntKind.i64 k] 42)) = w4 at *
  have HB := Lib.hid hbl
  have HBR := Lib.hid hbr
  have HSZ := Lib.hid hsz
  clear hbr
  refine wpIn_rf1 rfl (enters_of Tryz.func128 (by kernel_rfl) rfl) (waits_iter m f k (w.heap.size + 1) (w.heap.size + 1 + 1) (wN m + 1) w4 (by omega) hb4) (by omega) (by rintro j rfl; omega) (fun _ => rfl)
    (fun S pre W => pre.length ≤ wN m ∧ ∃ v, Boxed W (w.heap.size + 1) 38 v ∧ ¬ S (w.heap.size + 1) ∧ W.ownsRow (w.heap.size + 1) 3 1 v pre.length (ints .i64 pre) ∧ (∀ g, v.ownBlock = some g → ¬ S g) ∧ Below (w.heap.size + 1) w4 W)
    (fun c S pre W => c = .exit 0 ∧ ∃ v, Boxed W (w.heap.size + 1) 38 v ∧ ¬ S (w.heap.size + 1) ∧ W.ownsRow (w.heap.size + 1) 3 1 v (wN m) (ints .i64 (bList f k (wN m))) ∧ (∀ g, v.ownBlock = some g → ¬ S g) ∧ Below (w.heap.size + 1) w4 W) ?hfin ?hJ ?hJx ?h0 ?a1 ?assign ?body ?done ?stop
  case a1 =>
    exact fun x => { tmps := #[.agg #[.int .i64 m, .int .i64 f, .int .i64 k], .pointer (some ⟨w.heap.size, 0, none⟩), .slice none 0 0, .pointer (some ⟨w.heap.size + 1, 0, none⟩), .int .i64 x, .agg #[.int .i64 m, .int .i64 f, .int .i64 k], .func (.func 128) #[] #[.pointer (some ⟨w.heap.size + 1 + 1, 0, none⟩)], .int .i64 x, undef, undef, undef, undef, undef, undef, undef, undef, undef, undef, undef], defers := [] }
  case hfin => rintro _ S W ⟨h, _⟩; simp [bList_len] at h; omega
  case hJ =>
    rintro S S' s W W' hS ⟨h0, v, h1, h2, h3, h4, h5⟩ hs
    exact ⟨h0, v, (hs.boxed h1 h2).1, (hs.boxed h1 h2).2, (hs.owns h3 h4).1, (hs.owns h3 h4).2, h5.trans hs.below⟩
  case hJx =>
    rintro c S S' s W W' hS ⟨h0, v, h1, h2, h3, h4, h5⟩ hs
    exact ⟨h0, v, (hs.boxed h1 h2).1, (hs.boxed h1 h2).2, (hs.owns h3 h4).1, (hs.owns h3 h4).2, h5.trans hs.below⟩
  case h0 => exact ⟨by simp, .slice none 0 0, hb2, by omega, World.ownsRow_nil _ _ _ _, by simp [Value.ownBlock], Below.refl _ _⟩
  case assign =>
    intro l x W K hK
    dsimp only [encI]
    gi_wp2
    exact hK
  case body =>
    rintro l S pre x W hS hw hl _ ⟨h0, v, h1, h2, h3, h4, h5⟩ hpre
    obtain ⟨hp, rfl, hlt⟩ := bList_next hpre
    have hr : Boxed3 W w.heap.size m f k := (h5.block _ (by omega)).trans HBR.out
    obtain ⟨q0, q1, q2, _⟩ := cells3h hr
    have hW0 : w.heap.size + 1 ≤ W.heap.size := by have := h5.size; omega
    obtain ⟨va, vc, rfl⟩ := (RdS.of_owns h3).form
    have hc := h1.cell
    have hpl : pre.length + 1 ≤ 11 := by have := bMost_range m; unfold wN at h0; omega
    have HP := Lib.hid hp
    have HS := Lib.hid hS
    have HSZW := Lib.hid hw
    clear hS hpre hw hp hr hsz hbl
    by_cases hm : (pre.length : Int) + 1 < bMost m
    · have hmm : moreB m ((pre.length : Int) + 1) = true := by unfold moreB; simp; omega
      gi_wp2_with (first
        | (gi_at_call 107; refine ((callsIn_wide.2 (More_any m f k _ _)).inRound l).mono ?_; rintro e w1 ⟨he, hb1⟩; rw [hmm] at he; subst he; clear q0 q1 q2 hc; have hst := Step.of_below (S := S) hW0 hb1; have h1' := (hst.boxed h1 h2).1; have h3' := (hst.owns h3 h4).1; have hc' := h1'.cell; have hsz1 : W.heap.size ≤ w1.heap.size := hb1.size; clear hst)
        | (gi_at_builtin; go_must (refine wpListIn_push rfl _ _ 38 rfl (w.heap.size + 1) 3 i0 (.int .i64 0) 1 8 Tryz.underlying38 hi hz0 hz1 hz2 rfl (by decide) _ _ _ rfl (h3'.alloc _) ⟨w1.heap.size, 0, none⟩ 1 1 [_] rfl rfl (cell_one_new _ _ _) (by simp [Value.oneCell']) (by unfold maxLen; omega) (by omega) (by simp; omega) ?_; intro v' w2 hown' hgrow hfr; obtain ⟨g', cap', rfl⟩ := ownsRow_succ hown'; obtain ⟨hv1, hv2, hr2, hk2, hn2⟩ := boxed_pushed (S := S) h1' (by decide) h3' (Nat.le_trans hW0 hsz1) (Nat.le_refl _) (Nat.le_refl _) (fun j hj => by have := HS.out j hj; omega) h2 h4 hown' hgrow hfr; have hc1 := hv1.cell; have hf1 := hv1.frozen)))
      have hk := (Keep.of_below hW0 HS.out hb1).trans hk2
      exact ⟨⟨by simp only [List.length_append, List.length_cons, List.length_nil]; unfold wN; omega, _, hv2, h2, by simpa [ints] using hr2, hn2, h5.trans hk.below⟩, hk⟩
    · have hmm : moreB m ((pre.length : Int) + 1) = false := by unfold moreB; simp; omega
      have HL := Lib.hid (show pre.length = wN m by unfold wN at h0 ⊢; omega)
      gi_wp2_with (gi_at_call 107; refine ((callsIn_wide.2 (More_any m f k _ _)).inRound l).mono ?_; rintro e w1 ⟨he, hb1⟩; rw [hmm] at he; subst he; clear q0 q1 q2 hc; have hst := Step.of_below (S := S) hW0 hb1; have h1' := (hst.boxed h1 h2).1; have h3' := (hst.owns h3 h4).1)
      have hk := Keep.of_below hW0 HS.out hb1
      have e1 := HP.out
      have hlen := HL.out
      rw [hlen] at e1
      rw [e1, bList_len] at h1' h3' h4
      exact ⟨⟨rfl, _, h1', h2, h3', h4, h5.trans hk.below⟩, hk⟩
  case done =>
    rintro D S W hD hS hSD ⟨h, _⟩
    simp [bList_len] at h
    omega
  case stop =>
    rintro D c S pre W hD hS hSD hpre ⟨rfl, v, h1, h2, h3, h4, h5⟩ hK
    have hc := h1.cell
    have HS := Lib.hid hS
    clear hS
    gi_wp2
    refine ⟨by simp, .inl ⟨_, _, rfl, run_takeDeferred hK, ?_⟩⟩
    exact ⟨_, results_tmp rfl _ _ _, v, rfl, ownsRow_mono (ownsRow_putObj h3 _ hK rfl) (by omega), (HB.out.trans (h5.mono (by omega))).trans (below_putObj _ _ (by have := HSZ.out; omega))⟩
end Go.Proofs.YtgfiogjfgbegpaaGreat

/-
  backoff.Total, the reference's Wait and Total: contracts.
-/
namespace Go.Proofs.YtgfiogjfgbegpaaGreat
open Go.RowKit

set_option maxRecDepth 100000 in
set_option maxHeartbeats 1000000 in
theorem Total_any (m f k : Int) (w : World) :
    Calls Tryz.prog 41 #[retryV m f k] w fun e w' => e = .returned (.int .i64 (bSum f k (wN m))) ∧ Below w.heap.size w w' := by
  have hn9 := wN_le m
  obtain ⟨N, hN⟩ : ∃ N, wN m = N := ⟨_, rfl⟩
  rw [hN] at hn9 ⊢
  have HN := Lib.hid hN
  clear hN
  unfold retryV
  go_enter Tryz.func41, Tryz.ntmps41
  go_wp2_with fail
  refine (Waits_any m f k _).mono ?_
  rintro e w1 ⟨v, rfl, hown, hb1⟩
  have hb : Below w.heap.size w w1 := ((Below.refl _ w).alloc (Nat.le_refl _) _).trans (hb1.mono (by simp))
  have hr := RdS.of_owns hown
  rw [HN.out] at hr
  clear hb1 hown
  rcases hr.cases (by decide) with ⟨rfl, h1, a, cap, rfl, hm⟩ | ⟨hn, hl, g, off, cap, rfl, hnc, hcm, hc⟩
  · clear h1 hm hn9 hr
    go_wp2
    go_loop [3, 9] (fun s i => s = .int .i64 0 ∧ i = .int .i64 0) (fun s i => 0)
    case atStart => exact ⟨rfl, rfl⟩
    case round =>
      obtain ⟨rfl, rfl⟩ := hrel
      go_wp2
      go_ret
      exact ⟨rfl, hb⟩
  · have HC := Lib.hid hc
    clear hc hr hl
    go_wp2
    go_loop [3, 9] (fun s i => ∃ j : Nat, j ≤ N ∧ i = .int .i64 j ∧ s = .int .i64 (bSum f k j)) (fun _ i => N - (intOf i).toNat)
    case atStart => exact ⟨0, by omega, rfl, rfl⟩
    case round =>
      obtain ⟨j, hj, rfl, rfl⟩ := hrel
      have hs := bSum_range f k j
      have hq := bSeq_range f k j
      by_cases hlt : j < N
      · have hcell := HC.out j _ (bList_get f k N j hlt)
        go_wp2
        go_round
        case rel => exact ⟨j + 1, by omega, by go_num, rfl⟩
        case measure => simp [intOf]; omega
      · obtain rfl : j = N := by omega
        go_wp2
        go_ret
        exact ⟨rfl, hb⟩

end Go.Proofs.YtgfiogjfgbegpaaGreat
