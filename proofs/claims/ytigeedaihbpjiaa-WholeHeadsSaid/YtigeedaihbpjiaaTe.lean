/-
  tag.bytesOf: the iterator's contract.
-/
import Derived.Test.YtigeedaihbpjiaaTd
import Derived.Sort.LoopGhostIn
namespace Go.Proofs.Ytigeedaihbpjiaa
open Go.RowKit
attribute [local go_sem] Oper.semAt_some wide_fn wide_depth wide_fn' wide_depth'

theorem bytesOf_any (n : Int) (k : Int) (w : World) :
    Calls Try.prog 99 #[.int .u64 n, .int .i64 k] w fun e w' => e = .returned (.func (.func 113) #[] #[.pointer (some ⟨w.heap.size + 1, 0, none⟩), .pointer (some ⟨w.heap.size, 0, none⟩)]) ∧ (w.alloc (.cells #[.int .u64 n] 28)).alloc (.cells #[.int .i64 k] 3) = w' := by
  go_enter Try.func99, Try.ntmps99
  go_wp2
  go_ret
  exact ⟨rfl, rfl⟩

theorem sh_eq (n i : Nat) : ((n / 256 ^ i % 256 : Nat) : Int) = (n : Int) / 2 ^ (8 * i) % 256 := by
  have e : (2 : Nat) ^ (8 * i) = 256 ^ i := by rw [Nat.pow_mul]
  rw [← e]; simp
def encN (x : Nat) : Array Value := #[.int .u8 x]

set_option maxRecDepth 100000 in
set_option maxHeartbeats 1000000 in
theorem bytesOf_iter (n k n0 B C : Nat) (w : World) (hn : n < 18446744073709551616) (hk : k ≤ 8) (hB : n0 ≤ B) (hC : n0 ≤ C) (hbn : Boxed w B 28 (.int .u64 n)) (hbk : Boxed w C 3 (.int .i64 k)) :
    IterAt Try.prog n0 113 #[.pointer (some ⟨C, 0, none⟩), .pointer (some ⟨B, 0, none⟩)] encN (fixL k n) True (fun j => j = B ∨ j = C) w := by
  intro l J Jx W _ hS hn0 hbl hJ hJx hY h0
  have hbn' : Boxed W B 28 (.int .u64 n) := (hbl.block B hbn.lt).trans hbn
  have hbk' : Boxed W C 3 (.int .i64 k) := (hbl.block C hbk.lt).trans hbk
  have HY := Lib.hid hY
  have HS := Lib.hid hS
  clear hY hS
  refine callsIn_of_wp Try.func113 rfl trivial ?_ rfl
  simp only [Try.ntmps113, List.size_toArray, List.length_cons, List.length_nil, Nat.reduceAdd, Nat.reduceSub, Array.replicate_succ, Array.replicate_zero, List.push_toArray, List.append_toArray, List.nil_append, List.cons_append]
  gi_wp2
  gi_loopg [4] (k + 1) (fun g p wr => ∃ (S : Nat → Prop) (i : Nat), i + g = k + 1 ∧ i ≤ k ∧ Hid (∀ j, S j → n0 ≤ j ∧ j < wr.heap.size) ∧ S B ∧ S C ∧ Boxed wr B 28 (.int .u64 n) ∧ Boxed wr C 3 (.int .i64 k) ∧ p = .int .i64 i ∧ J S (fixL i n) wr)
  case atStart =>
    exact ⟨_, 0, by omega, by omega, HS, .inl rfl, .inr rfl, hbn', hbk', rfl, h0⟩
  case round =>
    obtain ⟨S, i, hi, hik, hSb, hSB, hSC, hb1, hb2, rfl, hJs⟩ := hrel
    have hg : gk = k + 1 - i := by omega
    subst hg
    clear hi
    have q1 := hb1.cell
    have q2 := hb2.cell
    by_cases hlt : i < k
    · obtain ⟨fn, tmps, assign, body, hy, hR⟩ := HY.out S (fixL i n) (n / 256 ^ i % 256) wr hSb.out hJs (by rw [← fixL_succ]; exact fixL_prefix n (i + 1) k hlt)
      dsimp only [encN] at hy
      rw [sh_eq] at hy
      gi_wp2
      refine hR.mono ?_
      rintro e W' (⟨rfl, hJ', hk'⟩ | ⟨rfl, hJ', hk'⟩)
      · have hb1' : Boxed W' B 28 (.int .u64 n) := (hk'.same B hSB).trans hb1
        have hb2' : Boxed W' C 3 (.int .i64 k) := (hk'.same C hSC).trans hb2
        clear hy hR q1 q2
        gi_wp2
        gi_roundg (k + 1 - (i + 1))
        case measure => omega
        case rel => exact ⟨S, i + 1, by omega, by omega, fun j hj => by have := hSb.out j hj; have := hk'.below.size; omega, hSB, hSC, hb1', hb2', by go_num, by rw [fixL_succ]; exact hJ'⟩
      · clear hy hR q1 q2
        gi_wp2
        go_end0
        exact ⟨⟨_, rfl⟩, S, (fun j hj => by have := hSb.out j hj; have := hk'.below.size; omega), .inr ⟨_, by rw [← fixL_succ]; exact fixL_prefix n (i + 1) k hlt, hJ'⟩⟩
    · obtain rfl : i = k := by omega
      gi_wp2
      go_end0
      exact ⟨⟨_, rfl⟩, S, hSb.out, .inl hJs⟩
end Go.Proofs.Ytigeedaihbpjiaa
