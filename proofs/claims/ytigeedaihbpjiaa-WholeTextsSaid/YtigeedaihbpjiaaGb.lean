/-
  graph: the reference's Same, May: contracts.
-/
import Derived.Test.YtigeedaihbpjiaaGa
namespace Go.Proofs.Ytigeedaihbpjiaa
open Go.RowKit

theorem gSame_true (v v' : Value) (bs : List Int) (w : World) (h : RdS w v 1 bs.length (ints .i64 bs)) (h' : RdS w v' 1 bs.length (ints .i64 bs)) :
    Calls Try.prog 63 #[v, v'] w fun e w' => e = .returned (.bool true) ∧ Below w.heap.size w w' := by
  rcases h.cases (by decide) with ⟨h0, h1, a, cap, rfl, hm⟩ | ⟨hn, hl, g, off, cap, rfl, hnc, hcm, hc⟩
  · obtain rfl : bs = [] := List.eq_nil_of_length_eq_zero h0
    rcases h'.cases (by decide) with ⟨_, _, a', cap', rfl, hm'⟩ | ⟨hn, _⟩
    · go_enter Try.func63, Try.ntmps63
      go_wp2
      go_loop [5] (fun i => i = .int .i64 0) (fun i => 0)
      case atStart => rfl
      case round =>
        obtain rfl := hrel
        go_wp2
        go_ret
        exact ⟨rfl, Below.refl _ _⟩
    · simp at hn
  · rcases h'.cases (by decide) with ⟨h0, _⟩ | ⟨_, _, g', off', cap', rfl, hnc', hcm', hc'⟩
    · omega
    · have HC := Lib.hid hc
      have HC' := Lib.hid hc'
      have H := Lib.hid h
      have H' := Lib.hid h'
      clear hc hc' h h' hl
      go_enter Try.func63, Try.ntmps63
      go_wp2
      go_loopw [5] (fun i wr => ∃ (k : Nat), k ≤ bs.length ∧ i = .int .i64 k ∧ Below w.heap.size w wr) (fun i _ => bs.length - (intOf i).toNat)
      case atStart => exact ⟨0, by omega, rfl, Below.refl _ _⟩
      case round =>
        obtain ⟨k, hk, rfl, hb⟩ := hrel
        by_cases hlt : k < bs.length
        · have c1 := cellB hb (HC.out k _ (ints_get .i64 bs k hlt))
          have c2 := cellB hb (HC'.out k _ (ints_get .i64 bs k hlt))
          generalize bs[k]?.getD 0 = b at *
          have hlt' : (k : Int) < bs.length := by omega
          go_wp2
          go_quiet (fail)
          go_wp2
          go_roundw
          case rel => exact ⟨k + 1, by omega, by go_num, belowN hb _⟩
          case measure => simp [intOf]; omega
        · go_wp2
          go_ret
          exact ⟨rfl, hb⟩

/-- A place behind which one comes: is it there, or none at all? -/
def okDep (n : Nat) (there : List Bool) (j : Int) : Bool := !decide (0 ≤ j ∧ j < n) || (decide (j.toNat < there.length) && there[j.toNat]?.getD false)
def mayB (rows : List (List Int)) (there : List Bool) (i : Nat) : Bool := (rows[i]?.getD []).all (okDep rows.length there)
def bls (l : List Bool) : List Value := l.map Value.bool
theorem bls_at {w : World} {a : Option Addr} {cap : Nat} {l : List Bool} (h : RdS w (.slice a l.length cap) 1 l.length (bls l)) {i : Nat} (hi : i < l.length) :
    ∃ g off, a = some ⟨g, off, none⟩ ∧ l.length ≤ cap ∧ cap ≤ 9223372036854775807 ∧ w.cell? ⟨g, off + i, none⟩ = some (.bool l[i]) := by
  rcases h.cases (by decide) with ⟨h0, _⟩ | ⟨hn, _, g, off, cap', hq, q1, q2, q3⟩
  · omega
  · injection hq with e1 e2 e3
    subst e1 e3
    exact ⟨g, off, rfl, q1, q2, q3 i _ (by simp [bls, hi])⟩
theorem okDep_out {n : Nat} {there : List Bool} {j : Int} (h : j < 0 ∨ (n : Int) ≤ j) : okDep n there j = true := by
  have hd : decide (0 ≤ j ∧ j < n) = false := by simp; omega
  unfold okDep; rw [hd]; rfl
theorem okDep_in {n : Nat} {there : List Bool} {j : Nat} (h : j < n) : okDep n there j = (decide (j < there.length) && there[j]?.getD false) := by
  have hd : decide (0 ≤ (j : Int) ∧ (j : Int) < n) = true := by simp; omega
  unfold okDep; rw [hd]; simp

set_option maxRecDepth 100000 in
set_option maxHeartbeats 1000000 in
theorem rMay_any (rows : List (List Int)) (there : List Bool) (i : Nat) (v vt : Value) (w : World) (hr : Rows2 w v rows) (ht : RdS w vt 1 there.length (bls there)) (hi : i < rows.length) :
    Calls Try.prog 66 #[v, vt, .int .i64 i] w fun e w' => e = .returned (.bool (mayB rows there i)) ∧ w = w' := by
  have HT := Lib.hid ht
  have htl := rds_len ht
  have hlen : rows.length ≤ 9223372036854775807 := by obtain ⟨_, h1, _⟩ := hr; exact rds_len h1
  obtain ⟨a, cap, rfl⟩ := hr.form
  obtain ⟨ta, tc, rfl⟩ := ht.form
  obtain ⟨g, off, ra, rc, rfl, h1, h2, hcell, hrow⟩ := hr.at hi
  have hrl := rds_len hrow
  have HRW := Lib.hid hrow
  have HM : Hid (mayB rows there i = (rows[i]).all (okDep rows.length there)) := Lib.hid (by unfold mayB; simp [hi])
  clear hr ht hrow
  generalize rows[i] = row at *
  generalize rows.length = n at *
  have hi' : (i : Int) < (n : Int) := by omega
  go_enter Try.func66, Try.ntmps66
  go_wp2
  go_loop [7] (fun k => ∃ k' : Nat, k' ≤ row.length ∧ k = .int .i64 k' ∧ Hid ((row.take k').all (okDep n there) = true)) (fun k => row.length - (intOf k).toNat)
  case atStart => exact ⟨0, by omega, rfl, Lib.hid (by simp)⟩
  case round =>
    obtain ⟨k', hk, rfl, HA⟩ := hrel
    by_cases hlt : k' < row.length
    · obtain ⟨rg, roff, rfl, r1, r2, rcell⟩ := ints_at HRW.out hlt
      have HTK : Hid (okDep n there row[k'] = true → (row.take (k' + 1)).all (okDep n there) = true) := Lib.hid (fun h => by rw [take_snocG row k' hlt, List.all_append, HA.out]; simp [h])
      have HNO : Hid (okDep n there row[k'] = false → row.all (okDep n there) = false) := Lib.hid (fun h => by
        rw [Bool.eq_false_iff]; intro hc
        rw [List.all_eq_true] at hc
        rw [hc _ (List.getElem_mem hlt)] at h; cases h)
      generalize row[k'] = j at *
      have hlt' : (k' : Int) < row.length := by omega
      have hk0 : (0 : Int) ≤ (k' : Int) := by omega
      by_cases hj : j < 0 ∨ (n : Int) ≤ j
      · have HK := Lib.hid (HTK.out (okDep_out hj))
        rcases hj with hj | hj
        · have d1 : decide (0 ≤ j) = false := by simp; omega
          go_wp2
          go_round
          case rel => exact ⟨k' + 1, by omega, by go_num, HK⟩
          case measure => simp [intOf]; omega
        · have d1 : decide (0 ≤ j) = true := by simp; omega
          have d2 : decide (j < (n : Int)) = false := by simp; omega
          go_wp2
          go_round
          case rel => exact ⟨k' + 1, by omega, by go_num, HK⟩
          case measure => simp [intOf]; omega
      · obtain ⟨J, rfl⟩ : ∃ J : Nat, j = J := ⟨j.toNat, by omega⟩
        have hJn : J < n := by omega
        have HOK := Lib.hid (okDep_in (there := there) hJn)
        have d1 : decide (0 ≤ (J : Int)) = true := by simp
        have d2 : decide (J < n) = true := by simpa using hJn
        by_cases hJt : J < there.length
        · obtain ⟨tg, toff, rfl, t1, t2, tcell⟩ := bls_at HT.out hJt
          have d3 : decide (J < there.length) = true := by simpa using hJt
          have HO2 : Hid (okDep n there (J : Int) = there[J]) := Lib.hid (by rw [HOK.out]; simp [hJt])
          generalize there[J] = bt at *
          have hJt' : (J : Int) < there.length := by omega
          cases bt with
          | true =>
            have HK := Lib.hid (HTK.out HO2.out)
            go_wp2
            go_round
            case rel => exact ⟨k' + 1, by omega, by go_num, HK⟩
            case measure => simp [intOf]; omega
          | false =>
            have HK := Lib.hid (HNO.out HO2.out)
            go_wp2
            go_ret
            exact ⟨by rw [HM.out, HK.out]; rfl, rfl⟩
        · have d3 : decide (J < there.length) = false := by simpa using hJt
          have HO2 : Hid (okDep n there (J : Int) = false) := Lib.hid (by rw [HOK.out, d3]; rfl)
          have HK := Lib.hid (HNO.out HO2.out)
          go_wp2
          go_ret
          exact ⟨by rw [HM.out, HK.out]; rfl, rfl⟩
    · have HE : Hid (row.all (okDep n there) = true) := Lib.hid (by have := HA.out; rwa [List.take_of_length_le (by omega)] at this)
      go_wp2
      go_ret
      exact ⟨by rw [HM.out, HE.out]; rfl, rfl⟩
end Go.Proofs.Ytigeedaihbpjiaa
