/-
  scalar.Digits, rescriptref21.digits: contracts; a number's digits (plain).
-/
import Derived.Sort.WalkB12
import Derived.Lib.SlicesMore
import Derived.Deep.LoopGhost
import Derived.Deep.DrawnRows
import Derived.BigRegion
import Derived.Laws.OwnMore
import Derived.Deep.AppendLies
import Derived.Test.YtdhgcgejdoedbaaDoorBd12
import Derived.Test.YtdhgcgejdoedbaaDoorBd16
namespace Go.Proofs.YtdhgcgejdoedbaaDoor
open Go Go.RowKit Go.WideShapes Go.Sort

/-- A number's digits, the greatest first. -/
def digN (n : Nat) : List Nat := if n < 10 then [48 + n] else digN (n / 10) ++ [48 + n % 10]
termination_by n
theorem digN_small {n : Nat} (h : n < 10) : digN n = [48 + n] := by rw [digN, if_pos h]
theorem digN_more {n : Nat} (h : 10 ≤ n) : digN n = digN (n / 10) ++ [48 + n % 10] := by rw [digN, if_neg (by omega)]
theorem digN_all (n : Nat) : ∀ b ∈ digN n, 48 ≤ b ∧ b ≤ 57 := by
  induction n using Nat.strongRecOn with
  | _ n ih =>
    by_cases h : n < 10
    · rw [digN_small h]; simp; omega
    · rw [digN_more (by omega)]
      intro b hb
      rcases List.mem_append.1 hb with hb | hb
      · exact ih (n / 10) (by omega) b hb
      · rw [List.mem_singleton.1 hb]; omega
theorem digN_len (n k : Nat) (h : n < 10 ^ (k + 1)) : 1 ≤ (digN n).length ∧ (digN n).length ≤ k + 1 := by
  induction k generalizing n with
  | zero => rw [digN_small (by simpa using h)]; simp
  | succ k ih =>
    by_cases h10 : n < 10
    · rw [digN_small h10]; simp
    · rw [digN_more (by omega), List.length_append, List.length_singleton]
      have := ih (n / 10) (by rw [Nat.div_lt_iff_lt_mul (by decide)]; rw [Nat.pow_succ] at h; exact h)
      omega
/-- The text of a number, as scalar.Digits gives it. -/
def digS (n : Int) : ByteArray := if 0 ≤ n ∧ n ≤ 999999999 then mkS (digN n.toNat) else { data := #[] }
theorem digN_lt (n : Nat) : AllLt 256 (digN n) := fun b hb => by have := digN_all n b hb; omega

/-- The digits that the loop has, the lowest first, and what is left. -/
theorem digN_step {n m : Nat} {ds : List Nat} (h : 10 ≤ n) (he : digN n ++ ds = digN m) : digN (n / 10) ++ ((48 + n % 10) :: ds) = digN m := by
  rw [← he, digN_more h]; simp

theorem below_putRow {α : Type} [Inhabited α] {B : Nat} {w w' : World} (h : Below B w w') (enc : α → Value) {n blk off : Nat} (d : Array α) (hb : B ≤ blk) : Below B w (putRow enc (Sort.ahead w' n) blk off d) := by
  refine ⟨h.os, h.tape, h.output, by simpa [putRow, mapBlock, Sort.ahead] using h.size, fun k hk => ?_⟩
  rw [← h.block k hk]
  simp [putRow, mapBlock, Sort.ahead, Array.getElem?_modify, show blk ≠ k by omega]

theorem owns_built (w : World) (t : TypeId) (x : Value) : (w.alloc (.cells #[x] t)).ownsRow w.heap.size t 1 (.slice (some ⟨w.heap.size, 0, none⟩) 1 1) 1 [x] :=
  ⟨by simp, .inr ⟨w.heap.size, 1, #[x], rfl, Nat.le_refl _, World.alloc_heap_new w _, Nat.le_refl _, by decide, rfl, rfl⟩⟩
def hiD (m : Nat) : List Nat := if m < 10 then [] else digN (m / 10)
theorem hiD_start (n : Nat) : digN n = hiD n ++ [48 + n % 10] := by
  unfold hiD
  split
  · rename_i h; rw [digN_small h, Nat.mod_eq_of_lt h]; rfl
  · rw [digN_more (by omega)]
theorem hiD_step {m N : Nat} {ds : List Nat} (h : 10 ≤ m) (he : digN N = hiD m ++ ds.reverse) : digN N = hiD (m / 10) ++ (ds ++ [48 + m / 10 % 10]).reverse := by
  rw [he]
  unfold hiD
  rw [if_neg (by omega)]
  conv => lhs; rw [hiD_start (m / 10)]
  unfold hiD
  simp
theorem Tryd.info_byte : (Tryd.prog.info? 5).map (fun i => (i.zero, i.size, i.bytes)) = some (some (.int .u8 0), 1, 1) := by kernel_rfl
theorem u8s_snocD (l : List Nat) (b : Nat) : u8s (l ++ [b]) = u8s l ++ [.int .u8 (b : Int)] := by simp [u8s]

theorem bsN_ext {a b : ByteArray} (h : bsN a = bsN b) : a = b := by
  refine bytes_inj ?_
  unfold bsN at h
  exact (List.map_inj_right (fun x y => UInt8.toNat_inj.1)).1 h
theorem mkS_size (l : List Nat) : (mkS l).size = l.length := by simp [mkS, ByteArray.size]
theorem mkS_append (a b : List Nat) : mkS a ++ mkS b = mkS (a ++ b) := by
  apply bytes_inj
  rw [ByteArray.data_append]
  simp [mkS]
theorem digit_sub : ∀ n : Nat, n < 10 → (⟨#[48, 49, 50, 51, 52, 53, 54, 55, 56, 57]⟩ : ByteArray).extract n (n + 1) = mkS [48 + n] := by decide +kernel

end Go.Proofs.YtdhgcgejdoedbaaDoor
