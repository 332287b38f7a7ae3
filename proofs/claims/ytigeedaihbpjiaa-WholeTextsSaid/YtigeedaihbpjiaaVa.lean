/-
  varint: contracts.
-/
import Derived.Test.YtigeedaihbpjiaaRows
import Derived.Test.YtigeedaihbpjiaaRf
import Derived.WalkSpells
import Derived.WalkLawsBesides
import Derived.Lib.Hide
import Derived.Shelf.RegionOpen
import Derived.Test.YtigeedaihbpjiaaPv
namespace Go.Proofs.Ytigeedaihbpjiaa
open Go.RowKit
attribute [local go_sem] Oper.semAt_some wide_fn wide_depth wide_fn' wide_depth'

theorem sevens_any (n : Int) (w : World) :
    Calls Try.prog 82 #[.int .u64 n] w fun e w' => e = .returned (.func (.func 103) #[] #[.pointer (some ⟨w.heap.size, 0, none⟩)]) ∧ w.alloc (.cells #[.int .u64 n] 28) = w' := by
  go_enter Try.func82, Try.ntmps82
  go_wp2
  go_ret
  exact ⟨rfl, rfl⟩

def encBB (x : Int × Bool) : Array Value := #[.int .u8 x.1, .bool x.2]

def boxNat (B : Nat) (w : World) : Nat := match w.cell? ⟨B, 0, none⟩ with | some (.int _ n) => n.toNat | _ => 0
theorem boxNat_eq {B : Nat} {w : World} {t : TypeId} {m : Nat} {k : IntKind} (h : Boxed w B t (.int k m)) : boxNat B w = m := by
  simp [boxNat, h.cell]

set_option maxRecDepth 100000 in
theorem sevens_iter (n n0 B : Nat) (w : World) (hn : n < 18446744073709551616) (hB : n0 ≤ B) (hb : Boxed w B 28 (.int .u64 n)) :
    IterAt Try.prog n0 103 #[.pointer (some ⟨B, 0, none⟩)] encBB (sevL 9 n) True (· = B) w := by
  intro l J Jx W _ hS hn0 hbl hJ hJx hY h0
  have hbW : Boxed W B 28 (.int .u64 n) := (hbl.block B hb.lt).trans hb
  refine callsIn_of_wp Try.func103 rfl trivial ?_ rfl
  simp only [Try.ntmps103, List.size_toArray, List.length_cons, List.length_nil, Nat.reduceAdd, Nat.reduceSub, Array.replicate_succ, Array.replicate_zero, List.push_toArray, List.append_toArray, List.nil_append, List.cons_append]
  gi_wp2
  gi_loopw [] (fun wr => ∃ (S : Nat → Prop) (pre : List (Int × Bool)) (m f : Nat), (∀ k, S k → n0 ≤ k ∧ k < wr.heap.size) ∧ S B ∧ Boxed wr B 28 (.int .u64 m) ∧ m < 18446744073709551616 ∧ m < 128 ^ (f + 1) ∧ sevL 9 n = pre ++ sevL f m ∧ J S pre wr)
    (fun wr => boxNat B wr)
  case atStart =>
    exact ⟨(· = B), [], n, 9, hS, rfl, hbW, hn, by omega, rfl, h0⟩
  case round =>
    obtain ⟨S, pre, m, f, hS1, hSB, hbx, hm, hmf, hL, hJs⟩ := hrel
    have hc := hbx.cell
    have hf := hbx.frozen
    by_cases hlt : m < 128
    · rw [sevL_lt f m hlt] at hL
      obtain ⟨fn, tmps, assign, body, hy, hR⟩ := hY S pre ((m : Int) % 128, decide ((128 : Int) ≤ m)) wr hS1 hJs ⟨[], by rw [hL]; simp⟩
      dsimp only [encBB] at hy
      have HL := Lib.hid hL
      clear hL
      gi_wp2
      refine hR.mono ?_
      rintro e W' (⟨rfl, hJ', hk⟩ | ⟨rfl, hJ', hk⟩)
      · have hc' : W'.cell? ⟨B, 0, none⟩ = some (.int .u64 m) := by rw [World.cell?_of_block (hk.same B hSB)]; exact hc
        have HS1 := Lib.hid hS1
        have HM := Lib.hid hmf
        clear hy hR hY hc hf hS hS1 hmf
        gi_wp2
        go_end0
        exact ⟨⟨_, rfl⟩, S, (fun k hk' => by have := HS1.out k hk'; have := hk.below.size; omega), .inl (by rw [HL.out]; exact hJ')⟩
      · gi_wp2
        go_end0
        exact ⟨⟨_, rfl⟩, S, (fun k hk' => by have := hS1 k hk'; have := hk.below.size; omega), .inr ⟨pre ++ [((m : Int) % 128, decide ((128 : Int) ≤ m))], ⟨[], by rw [HL.out]; simp⟩, hJ'⟩⟩
    · cases f with
      | zero => simp at hmf; omega
      | succ f =>
      rw [sevL_ge f m hlt] at hL
      obtain ⟨fn, tmps, assign, body, hy, hR⟩ := hY S pre ((m : Int) % 128, decide ((128 : Int) ≤ m)) wr hS1 hJs ⟨sevL f (m / 128), by rw [hL]; simp⟩
      dsimp only [encBB] at hy
      have HL := Lib.hid hL
      clear hL
      gi_wp2
      refine hR.mono ?_
      rintro e W' (⟨rfl, hJ', hk⟩ | ⟨rfl, hJ', hk⟩)
      · have hb' : Boxed W' B 28 (.int .u64 m) := (hk.same B hSB).trans hbx
        have hc' := hb'.cell
        have hf' := hb'.frozen
        have HS1 := Lib.hid hS1
        have HM := Lib.hid hmf
        clear hy hR hY hc hf hS hS1 hmf
        gi_wp2
        have hs : (((m / 128 : Nat)) : Int) = (m : Int) / 128 := by omega
        refine ⟨⟨S, pre ++ [((m : Int) % 128, decide ((128 : Int) ≤ m))], m / 128, f, ?_, hSB, ?_, by omega, ?_, ?_, ?_⟩, ?_⟩
        · intro k hk'; have := HS1.out k hk'; have := hk.below.size; simp [World.setCell]; omega
        · rw [hs]; exact hb'.set _
        · have := HM.out; rw [Nat.pow_succ] at this; omega
        · rw [HL.out]; simp
        · exact hJ _ _ _ _ _ (fun k hk' => by have := HS1.out k hk'; have := hk.below.size; omega) hJ' (Step.setCell (p := ⟨B, 0, none⟩) _ hSB hB)
        · have hq : Boxed (W'.setCell ⟨B, 0, none⟩ (.int .u64 ((m : Int) / 128))) B 28 (.int .u64 ((m / 128 : Nat) : Int)) := by rw [hs]; exact hb'.set _
          rw [boxNat_eq hq, boxNat_eq hbx]; omega
      · gi_wp2
        go_end0
        exact ⟨⟨_, rfl⟩, S, (fun k hk' => by have := hS1 k hk'; have := hk.below.size; omega), .inr ⟨pre ++ [((m : Int) % 128, decide ((128 : Int) ≤ m))], ⟨sevL f (m / 128), by rw [HL.out]; simp⟩, hJ'⟩⟩
end Go.Proofs.Ytigeedaihbpjiaa
