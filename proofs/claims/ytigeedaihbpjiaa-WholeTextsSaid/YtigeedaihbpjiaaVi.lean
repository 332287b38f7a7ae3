/-
  varint: the law VarintBack's walk.
-/
import Derived.Test.YtigeedaihbpjiaaVh
import Derived.Deep.RegionHeld3
import Derived.Deep.DrawnRows
namespace Go.Proofs.Ytigeedaihbpjiaa
open Go.RowKit
attribute [local go_sem ↓] Go.wp_at_zero Go.wp_at_succ

theorem u8s_append (a b : List Nat) : u8s (a ++ b) = u8s a ++ u8s b := by simp [u8s]
theorem u64s_append (a b : List Nat) : u64s (a ++ b) = u64s a ++ u64s b := by simp [u64s]
theorem rds_take {w : World} {f : List Nat → List Value} (hf : ∀ (l : List Nat) (i : Nat), (f (l.take i)) = (f l).take i) (hfl : ∀ l, (f l).length = l.length) {bs : List Nat} {g off cap : Nat}
    (hc : ∀ i c, (f bs)[i]? = some c → w.cell? ⟨g, off + i, none⟩ = some c) (hcap : bs.length ≤ cap) (hm : cap ≤ 9223372036854775807) (a : Nat) (ha : a ≤ bs.length) :
    RdS w (.slice (some ⟨g, off, none⟩) a cap) 1 (bs.take a).length (f (bs.take a)) := by
  refine ⟨by simp [hfl], _, _, by rw [List.length_take, Nat.min_eq_left ha], by simp; omega, by unfold maxLen; omega, .inr ⟨g, off, rfl, fun i c hi => ?_⟩⟩
  rw [hf] at hi
  refine hc i c ?_
  rcases Nat.lt_or_ge i a with h | h
  · rwa [List.getElem?_take_of_lt h] at hi
  · rw [List.getElem?_take_eq_none h] at hi; cases hi
theorem u8s_take (l : List Nat) (i : Nat) : u8s (l.take i) = (u8s l).take i := by simp [u8s, List.map_take]

end Go.Proofs.Ytigeedaihbpjiaa
