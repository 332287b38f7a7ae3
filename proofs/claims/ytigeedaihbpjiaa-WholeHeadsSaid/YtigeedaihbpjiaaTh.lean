/-
  The law TagBack: its walk.
-/
import Derived.Test.YtigeedaihbpjiaaTg
namespace Go.Proofs.Ytigeedaihbpjiaa
open Go.RowKit

theorem mk_spl {n : Int} {wi T : Nat} (hw : wi < 256) (h : mkT n wi = ((T : Int), 0)) : splT T = (n, (wi : Int), 0) := by
  unfold mkT at h
  split at h
  · rename_i hf
    split at h
    · rename_i hb
      have hfr : 1 ≤ n ∧ n ≤ 536870911 := by unfold fitsB at hf; simpa using hf
      have hb' : wi = 0 ∨ wi = 1 ∨ wi = 2 ∨ wi = 5 := by unfold wireB at hb; simpa using hb
      have e : n * 8 + wi = T := by injection h
      have e1 : (T : Int) / 8 = n := by omega
      have e2 : T % 8 = wi := by omega
      have e3 : (T : Int) % 8 = wi := by omega
      unfold splT
      rw [e1, e2, e3, if_pos hf, if_pos hb]
    · injection h with h1 h2; omega
  · injection h with h1 h2; omega
theorem spl_mk {n : Nat} {a : Int} {b : Int} (h : splT n = (a, b, 0)) : ∃ B : Nat, b = B ∧ B < 256 ∧ 1 ≤ a ∧ a ≤ 536870911 ∧ mkT a B = ((n : Int), 0) := by
  unfold splT at h
  split at h
  · rename_i hf
    split at h
    · rename_i hb
      have hfr : 1 ≤ (n : Int) / 8 ∧ (n : Int) / 8 ≤ 536870911 := by unfold fitsB at hf; simpa using hf
      injection h with h1 h2
      injection h2 with h2 h3
      refine ⟨n % 8, by omega, by omega, by omega, by omega, ?_⟩
      unfold mkT
      rw [← h1, if_pos hf, if_pos hb]
      congr 1; omega
    · injection h with h1 h2; injection h2 with h2 h3; omega
  · injection h with h1 h2; injection h2 with h2 h3; omega

end Go.Proofs.Ytigeedaihbpjiaa
