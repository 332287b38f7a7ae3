/-
  varint: Size, and the reference.
-/
import Derived.Test.YtigeedaihbpjiaaVc
import Derived.Deep.QuietTactic
import Derived.BigQuiet
namespace Go.Proofs.Ytigeedaihbpjiaa
open Go.RowKit
attribute [local go_sem] Oper.semAt_some wide_fn wide_depth wide_fn' wide_depth'

/-- Are bytes alike? Those that are. -/
theorem Same_true (v v' : Value) (bs : List Nat) (w : World) (h : RdS w v 1 bs.length (u8s bs)) (h' : RdS w v' 1 bs.length (u8s bs)) :
    Calls Try.prog 23 #[v, v'] w fun e w' => e = .returned (.bool true) ∧ Below w.heap.size w w' := by
  rcases h.cases (by decide) with ⟨h0, h1, a, cap, rfl, hm⟩ | ⟨hn, hl, g, off, cap, rfl, hnc, hcm, hc⟩
  · obtain rfl : bs = [] := List.eq_nil_of_length_eq_zero h0
    rcases h'.cases (by decide) with ⟨_, _, a', cap', rfl, hm'⟩ | ⟨hn, _⟩
    · go_enter Try.func23, Try.ntmps23
      go_wp2
      go_loop [5] (fun i => i = .int .i64 0) (fun i => 0)
      case atStart => rfl
      case round =>
        obtain rfl := hrel
        go_wp2
        go_ret
        exact ⟨rfl, Below.refl _ _⟩
    · simp at hn
  · rcases h'.cases (by decide) with ⟨h0, _⟩ | ⟨_, _, g', off', cap', rfl, hnc', hcm', hc'⟩
    · omega
    · have HC := Lib.hid hc
      have HC' := Lib.hid hc'
      have H := Lib.hid h
      have H' := Lib.hid h'
      clear hc hc' h h' hl
      go_enter Try.func23, Try.ntmps23
      go_wp2
      go_loopw [5] (fun i wr => ∃ (k : Nat), k ≤ bs.length ∧ i = .int .i64 k ∧ Below w.heap.size w wr) (fun i _ => bs.length - (intOf i).toNat)
      case atStart => exact ⟨0, by omega, rfl, Below.refl _ _⟩
      case round =>
        obtain ⟨k, hk, rfl, hb⟩ := hrel
        by_cases hlt : k < bs.length
        · have c1 := cellB hb (HC.out k _ (u8s_get bs k hlt))
          have c2 := cellB hb (HC'.out k _ (u8s_get bs k hlt))
          generalize bs[k]?.getD 0 = b at *
          have hlt' : (k : Int) < bs.length := by omega
          go_wp2
          go_quiet (fail)
          go_wp2
          go_roundw
          case rel => exact ⟨k + 1, by omega, by go_num, belowN hb _⟩
          case measure => simp [intOf]; omega
        · go_wp2
          go_ret
          exact ⟨rfl, hb⟩
end Go.Proofs.Ytigeedaihbpjiaa
