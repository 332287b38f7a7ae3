/-
  graph.has: the iterator's contract.
-/
import Derived.Sort.LoopGhostIn
import Derived.Test.YtgfiogjfgbegpaaGreatBz4
import Derived.Test.YtgfiogjfgbegpaaGreatBz15
namespace Go.Proofs.YtgfiogjfgbegpaaGreat
open Go.RowKit
attribute [local go_sem] Oper.semAt_some wide_fn wide_depth wide_fn' wide_depth'

theorem has_any (v : Value) (hv : ∃ a n c, v = .slice a n c) (i : Int) (w : World) :
    Calls Tryz.prog 168 #[v, .int .i64 i] w fun e w' => e = .returned (.func (.func 182) #[] #[.pointer (some ⟨w.heap.size, 0, none⟩), .pointer (some ⟨w.heap.size + 1, 0, none⟩)]) ∧ (w.alloc (.cells #[v] 36)).alloc (.cells #[.int .i64 i] 3) = w' := by
  obtain ⟨a, n, c, rfl⟩ := hv
  go_enter Tryz.func168, Tryz.ntmps168
  go_wp2
  go_ret
  exact ⟨rfl, rfl⟩

def inB (n : Nat) (j : Int) : Bool := decide (0 ≤ j ∧ j < n)
def depL (n : Nat) (row : List Int) : List Int := row.filter (inB n)
theorem depL_yes {n : Nat} {row : List Int} {k : Nat} (h : k < row.length) (hj : inB n row[k] = true) : depL n (row.take (k + 1)) = depL n (row.take k) ++ [row[k]] := by
  unfold depL; rw [take_snocG row k h, List.filter_append]; simp [hj]
theorem depL_no {n : Nat} {row : List Int} {k : Nat} (h : k < row.length) (hj : inB n row[k] = false) : depL n (row.take (k + 1)) = depL n (row.take k) := by
  unfold depL; rw [take_snocG row k h, List.filter_append]; simp [hj]
theorem depL_prefix (n : Nat) (row : List Int) (k : Nat) : depL n (row.take k) <+: depL n row := by
  unfold depL
  exact List.IsPrefix.filter _ (List.take_prefix k row)
def encZ (x : Int) : Array Value := #[.int .i64 x]

set_option maxRecDepth 100000 in
set_option maxHeartbeats 2000000 in
theorem has_iter (rows : List (List Int)) (i n0 D I : Nat) (a : Option Addr) (cap : Nat) (w0 w : World) (hi : i < rows.length) (_hD : n0 ≤ D) (_hI : n0 ≤ I) (_hnw : n0 ≤ w.heap.size) (hbd : Boxed w D 36 (.slice a rows.length cap)) (hbi : Boxed w I 3 (.int .i64 i))
    (hR : Rows2 w0 (.slice a rows.length cap) rows) (h0w : Below w0.heap.size w0 w) (h0n : w0.heap.size ≤ n0) :
    IterAt Tryz.prog n0 182 #[.pointer (some ⟨D, 0, none⟩), .pointer (some ⟨I, 0, none⟩)] encZ (depL rows.length (rows[i])) True (fun j => j = D ∨ j = I) w := by
  intro l J Jx W _ hS hn0 hbl hJ hJx hY h0
  have hbd' : Boxed W D 36 (.slice a rows.length cap) := (hbl.block D hbd.lt).trans hbd
  have hbi' : Boxed W I 3 (.int .i64 i) := (hbl.block I hbi.lt).trans hbi
  have h0W : Below w0.heap.size w0 W := bthen h0w (Nat.le_refl _) hbl
  obtain ⟨g, off, ra, rc, rfl, h1, h2, hcell0, hrow⟩ := hR.at hi
  have hcell := cellB h0W hcell0
  have hrl := rds_len hrow
  have HRW := Lib.hid hrow
  have HY := Lib.hid hY
  have HS := Lib.hid hS
  clear hY hS hR hrow
  have q1 := hbd'.cell
  have q2 := hbi'.cell
  generalize rows[i] = row at *
  generalize rows.length = n at *
  have hi' : (i : Int) < (n : Int) := by omega
  have hn63 : n ≤ 9223372036854775807 := by omega
  refine callsIn_of_wp Tryz.func182 rfl trivial ?_ rfl
  simp only [Tryz.ntmps182, List.size_toArray, List.length_cons, List.length_nil, Nat.reduceAdd, Nat.reduceSub, Array.replicate_succ, Array.replicate_zero, List.push_toArray, List.append_toArray, List.nil_append, List.cons_append]
  gi_wp2
  clear q1 q2 hcell hcell0
  gi_loopg [11] (row.length + 1) (fun gk k wr => ∃ (S : Nat → Prop) (k' : Nat), k' + gk = row.length + 1 ∧ k' ≤ row.length ∧ Hid (∀ j, S j → n0 ≤ j ∧ j < wr.heap.size) ∧ S D ∧ Boxed wr D 36 (.slice (some ⟨g, off, none⟩) n cap) ∧ k = .int .i64 k' ∧ J S (depL n (row.take k')) wr ∧ Below w0.heap.size w0 wr)
  case atStart =>
    exact ⟨_, 0, by omega, by omega, HS, .inl rfl, hbd', rfl, by simpa [depL] using h0, h0W⟩
  case round =>
    obtain ⟨S, k', hi2, hik, hSb, hSD, hb1, rfl, hJs, hbw⟩ := hrel
    have hg : gk = row.length + 1 - k' := by omega
    subst hg
    clear hi2
    have q1 := hb1.cell
    by_cases hlt : k' < row.length
    · obtain ⟨rg, roff, rfl, r1, r2, rcell0⟩ := ints_at HRW.out hlt
      have rcell := cellB hbw rcell0
      have HYS := Lib.hid (depL_yes (n := n) hlt)
      have HNO := Lib.hid (depL_no (n := n) hlt)
      have HPX := Lib.hid (depL_prefix n row (k' + 1))
      have hj63 : True := trivial
      generalize row[k'] = j at *
      have hlt' : (k' : Int) < row.length := by omega
      clear rcell0
      by_cases hj : 0 ≤ j ∧ j < (n : Int)
      · have hin : inB n j = true := by unfold inB; simpa using hj
        have e := HYS.out hin
        obtain ⟨fn, tmps, assign, body, hy, hRr⟩ := HY.out S (depL n (row.take k')) j wr hSb.out hJs (by rw [← e]; exact HPX.out)
        dsimp only [encZ] at hy
        rw [← e] at hRr
        have d1 : decide (0 ≤ j) = true := by simpa using hj.1
        have d2 : decide (j < (n : Int)) = true := by simpa using hj.2
        clear e hin
        gi_wp2
        refine hRr.mono ?_
        rintro e W' (⟨rfl, hJ', hk'⟩ | ⟨rfl, hJ', hk'⟩)
        · have hb1' : Boxed W' D 36 (.slice (some ⟨g, off, none⟩) n cap) := (hk'.same D hSD).trans hb1
          have hbw' : Below w0.heap.size w0 W' := hbw.trans (hk'.below.mono h0n)
          clear hy hRr q1 rcell
          gi_wp2
          gi_roundg (row.length + 1 - (k' + 1))
          case measure => omega
          case rel => exact ⟨S, k' + 1, by omega, by omega, fun j hj => by have := hSb.out j hj; have := hk'.below.size; omega, hSD, hb1', by go_num, hJ', hbw'⟩
        · clear hy hRr q1 rcell
          gi_wp2
          refine bodyPost_ret (results_none rfl _ _ _) rfl ?_
          exact ⟨⟨_, rfl⟩, S, (fun j hj => by have := hSb.out j hj; have := hk'.below.size; omega), .inr ⟨_, HPX.out, hJ'⟩⟩
      · have hin : inB n j = false := by unfold inB; simpa using hj
        have e := Lib.hid (HNO.out hin)
        clear hin
        rcases (show j < 0 ∨ (0 ≤ j ∧ (n : Int) ≤ j) by omega) with hj1 | ⟨hj1, hj2⟩
        · have d1 : decide (0 ≤ j) = false := by simp; omega
          gi_wp2
          gi_roundg (row.length + 1 - (k' + 1))
          case measure => omega
          case rel => exact ⟨S, k' + 1, by omega, by omega, hSb, hSD, hb1, by go_num, by rw [e.out]; exact hJs, hbw⟩
        · have d1 : decide (0 ≤ j) = true := by simp; omega
          have d2 : decide (j < (n : Int)) = false := by simp; omega
          gi_wp2
          gi_roundg (row.length + 1 - (k' + 1))
          case measure => omega
          case rel => exact ⟨S, k' + 1, by omega, by omega, hSb, hSD, hb1, by go_num, by rw [e.out]; exact hJs, hbw⟩
    · have hkl : k' = row.length := by omega
      have HE : Hid (depL n (row.take k') = depL n row) := Lib.hid (by rw [List.take_of_length_le (by omega)])
      clear hkl q1
      gi_wp2
      go_end0
      exact ⟨⟨_, rfl⟩, S, hSb.out, .inl (by rw [← HE.out]; exact hJs)⟩
end Go.Proofs.YtgfiogjfgbegpaaGreat
