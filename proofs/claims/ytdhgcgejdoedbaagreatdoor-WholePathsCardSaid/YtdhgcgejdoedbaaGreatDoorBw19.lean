/-
  scalar.Digits, rescriptref21.digits: contracts; a number's digits (plain).
-/
import Derived.Sort.WalkB12
import Derived.Lib.SlicesMore
import Derived.Deep.LoopGhost
import Derived.Deep.DrawnRows
import Derived.BigRegion
import Derived.Laws.OwnMore
import Derived.Deep.AppendLies
import Derived.Test.YtdhgcgejdoedbaaGreatDoorBw12
import Derived.Test.YtdhgcgejdoedbaaGreatDoorBw16
namespace Go.Proofs.YtdhgcgejdoedbaaGreatDoor
open Go Go.RowKit Go.WideShapes Go.Sort

def digN (n : Nat) : List Nat := if n < 10 then [48 + n] else digN (n / 10) ++ [48 + n % 10]
termination_by n
theorem digN_small {n : Nat} (h : n < 10) : digN n = [48 + n] := by rw [digN, if_pos h]
theorem digN_more {n : Nat} (h : 10 ≤ n) : digN n = digN (n / 10) ++ [48 + n % 10] := by rw [digN, if_neg (by omega)]
theorem digN_all (n : Nat) : ∀ b ∈ digN n, 48 ≤ b ∧ b ≤ 57 := by
  induction n using Nat.strongRecOn with
  | _ n ih =>
    by_cases h : n < 10
    · rw [digN_small h]; simp; omega
    · rw [digN_more (by omega)]
      intro b hb
      rcases List.mem_append.1 hb with hb | hb
      · exact ih (n / 10) (by omega) b hb
      · rw [List.mem_singleton.1 hb]; omega
theorem digN_len (n k : Nat) (h : n < 10 ^ (k + 1)) : 1 ≤ (digN n).length ∧ (digN n).length ≤ k + 1 := by
  induction k generalizing n with
  | zero => rw [digN_small (by simpa using h)]; simp
  | succ k ih =>
    by_cases h10 : n < 10
    · rw [digN_small h10]; simp
    · rw [digN_more (by omega), List.length_append, List.length_singleton]
      have := ih (n / 10) (by rw [Nat.div_lt_iff_lt_mul (by decide)]; rw [Nat.pow_succ] at h; exact h)
      omega
def digS (n : Int) : ByteArray := if 0 ≤ n ∧ n ≤ 999999999 then mkS (digN n.toNat) else { data := #[] }
theorem digN_lt (n : Nat) : AllLt 256 (digN n) := fun b hb => by have := digN_all n b hb; omega

set_option maxHeartbeats 1600000 in
set_option maxRecDepth 1000000 in
theorem Reverse_arr (blk off cap : Nat) (d : Array Nat) (w : World) (hH : Holds (fun n : Nat => Value.int .u8 (n : Int)) w blk off d) (hsz : d.size ≤ 9223372036854775807) :
    Calls Tryz.prog 27 #[.slice (some ⟨blk, off, none⟩) d.size cap] w fun e w' => e = .returned (.tuple #[]) ∧ ∃ n, w' = putRow (fun n : Nat => Value.int .u8 (n : Int)) (Sort.ahead w n) blk off d.reverse := by
  go_enter Tryz.func27, Tryz.ntmps27
  go_wp2
  go_loopg [2, 3] d.size (fun k s2 s3 wr => ∃ (i jn : Nat) (jz : Int) (dk : Array Nat) (n : Nat), s2 = .int .i64 i ∧ s3 = .int .i64 jz ∧ ((i : Int) < jz → jz = jn ∧ jn < d.size) ∧ (¬ (i : Int) < jz → ¬ i < jn) ∧ jn - i ≤ k ∧
    dk.size = d.size ∧ wr = putRow (fun n : Nat => Value.int .u8 (n : Int)) (Sort.ahead w n) blk off dk ∧ reverseLoop i jn dk = reverseLoop 0 (d.size - 1) d)
  case atStart => exact ⟨0, d.size - 1, (d.size : Int) - 1, d, 0, rfl, rfl, fun h => ⟨by omega, by omega⟩, fun h => by omega, by omega, rfl, (putRow_self _ w blk off d hH).symm, rfl⟩
  case round =>
    obtain ⟨i, jn, jz, dk, n, rfl, rfl, h1, h2, hk, hds, hwr, heq⟩ := hrel
    by_cases hlt : (i : Int) < jz
    · obtain ⟨rfl, hjn⟩ := h1 hlt
      have hij : i < jn := by omega
      have hHk : Holds (fun n : Nat => Value.int .u8 (n : Int)) wr blk off dk := by rw [hwr]; exact holds_putRow _ _ blk off d dk (holds_ahead _ w n blk off d hH) hds
      obtain ⟨ci, fi⟩ := hHk i (by omega)
      obtain ⟨cj, fj⟩ := hHk jn (by omega)
      have A := Lib.hid hwr
      clear hwr hHk hH h1 h2
      go_wp2
      go_region
      go_wp2
      go_roundg (jn - 1 - (i + 1))
      case measure => omega
      case rel =>
        rw [reverseLoop, if_pos hij] at heq
        exact ⟨i + 1, jn - 1, (jn : Int) - 1, swp dk i jn, n + 1, by simp, rfl, fun h => ⟨by omega, by omega⟩, fun h => by omega, Nat.le_refl _, by rw [size_swp]; exact hds,
          swap_world (fun n : Nat => Value.int .u8 (n : Int)) (by omega) (by omega) A.out (by first | rfl | simp [getElem!_pos, show jn < dk.size by omega]) (by first | rfl | simp [getElem!_pos, show i < dk.size by omega]), heq⟩
    · have hnot := h2 hlt
      go_wp2
      go_end0
      refine ⟨rfl, n, ?_⟩
      rw [reverseLoop, if_neg hnot] at heq
      rw [← Lib.reverseLoop_reverse, ← heq]

theorem below_putRow {α : Type} [Inhabited α] {B : Nat} {w w' : World} (h : Below B w w') (enc : α → Value) {n blk off : Nat} (d : Array α) (hb : B ≤ blk) : Below B w (putRow enc (Sort.ahead w' n) blk off d) := by
  refine ⟨h.os, h.tape, h.output, by simpa [putRow, mapBlock, Sort.ahead] using h.size, fun k hk => ?_⟩
  rw [← h.block k hk]
  simp [putRow, mapBlock, Sort.ahead, Array.getElem?_modify, show blk ≠ k by omega]

set_option maxRecDepth 100000 in
theorem Reverse_any (l : List Nat) (base : Nat) (v : Value) (w : World) (h : w.ownsRow base 5 1 v l.length (u8s l)) (h0 : 0 < l.length) :
    Calls Tryz.prog 27 #[v] w fun e w' => e = .returned (.tuple #[]) ∧ RdS w' v 1 l.length (u8s l.reverse) ∧ Below base w w' := by
  obtain ⟨g, cap, rfl, hb, hg⟩ := h.form h0
  have hR := RdS.of_owns h
  have hcap : l.length ≤ cap ∧ cap ≤ maxLen := by
    obtain ⟨_, a', c', he, h3, h4, _⟩ := hR
    injection he with _ _ e3; subst e3; exact ⟨h3, h4⟩
  have hmx : maxLen = 9223372036854775807 := rfl
  have hH : Holds (fun n : Nat => Value.int .u8 (n : Int)) w g 0 l.toArray := by
    intro j hj
    have hj' : j < l.length := by simpa using hj
    refine ⟨?_, by rw [Nat.zero_add]; exact h.frozenAt j⟩
    rw [Nat.zero_add, h.cellAt j (by omega), u8s_get l j hj']
    simp [hj']
  have hC := Reverse_arr g 0 cap l.toArray w hH (by simp; omega)
  rw [show l.toArray.size = l.length by simp] at hC
  refine hC.mono ?_
  rintro e w' ⟨rfl, n, rfl⟩
  refine ⟨rfl, ⟨by simp, some ⟨g, 0, none⟩, cap, rfl, hcap.1, hcap.2, .inr ⟨g, 0, rfl, fun i c hi => ?_⟩⟩, below_putRow (Below.refl _ _) _ _ hb⟩
  have hil : i < l.length := by have := (List.getElem?_eq_some_iff.1 hi).1; simpa using this
  have hx := cell?_putRow (fun n : Nat => Value.int .u8 (n : Int)) (Sort.ahead w n) g 0 l.toArray l.toArray.reverse (holds_ahead _ w n g 0 _ hH) (by simp) i (by simpa using hil)
  rw [hx]
  rw [u8s_get _ i (by simpa using hil)] at hi
  rw [← hi]
  simp [hil]

theorem owns_built (w : World) (t : TypeId) (x : Value) : (w.alloc (.cells #[x] t)).ownsRow w.heap.size t 1 (.slice (some ⟨w.heap.size, 0, none⟩) 1 1) 1 [x] :=
  ⟨by simp, .inr ⟨w.heap.size, 1, #[x], rfl, Nat.le_refl _, World.alloc_heap_new w _, Nat.le_refl _, by decide, rfl, rfl⟩⟩
def hiD (m : Nat) : List Nat := if m < 10 then [] else digN (m / 10)
theorem hiD_start (n : Nat) : digN n = hiD n ++ [48 + n % 10] := by
  unfold hiD
  split
  · rename_i h; rw [digN_small h, Nat.mod_eq_of_lt h]; rfl
  · rw [digN_more (by omega)]
theorem hiD_step {m N : Nat} {ds : List Nat} (h : 10 ≤ m) (he : digN N = hiD m ++ ds.reverse) : digN N = hiD (m / 10) ++ (ds ++ [48 + m / 10 % 10]).reverse := by
  rw [he]
  unfold hiD
  rw [if_neg (by omega)]
  conv => lhs; rw [hiD_start (m / 10)]
  unfold hiD
  simp
theorem Tryz.info_byte : (Tryz.prog.info? 5).map (fun i => (i.zero, i.size, i.bytes)) = some (some (.int .u8 0), 1, 1) := by kernel_rfl
theorem u8s_snocD (l : List Nat) (b : Nat) : u8s (l ++ [b]) = u8s l ++ [.int .u8 (b : Int)] := by simp [u8s]

set_option maxRecDepth 100000 in
set_option maxHeartbeats 2000000 in
theorem Digits_any (n : Int) (w : World) :
    Calls Tryz.prog 13 #[.int .i64 n] w fun e w' => e = .returned (.string (digS n)) ∧ Below w.heap.size w w' := by
  obtain ⟨i0, hi, hz0, hz1, hz2⟩ := info_parts Tryz.info_byte
  by_cases h1 : n < 0
  · have HF : Hid (digS n = { data := #[] }) := Lib.hid (by unfold digS; rw [if_neg (by omega)])
    have d1 : decide (n < 0) = true := decide_eq_true h1
    go_enter Tryz.func13, Tryz.ntmps13
    go_wp2
    go_ret
    exact ⟨by rw [HF.out]; rfl, Below.refl _ _⟩
  by_cases h2 : 999999999 < n
  · have HF : Hid (digS n = { data := #[] }) := Lib.hid (by unfold digS; rw [if_neg (by omega)])
    have d1 : decide (n < 0) = false := by simpa using h1
    have d2 : decide (999999999 < n) = true := by simpa using h2
    go_enter Tryz.func13, Tryz.ntmps13
    go_wp2
    go_ret
    exact ⟨by rw [HF.out]; rfl, Below.refl _ _⟩
  obtain ⟨N, rfl⟩ : ∃ N : Nat, n = (N : Int) := ⟨n.toNat, by omega⟩
  have hN : N ≤ 999999999 := by omega
  have HF : Hid (digS (N : Int) = mkS (digN N)) := Lib.hid (by unfold digS; rw [if_pos (by omega)]; rfl)
  have HL := Lib.hid (digN_len N 8 (by omega))
  have HA := Lib.hid (digN_lt N)
  have HS := Lib.hid (hiD_start N)
  have d1 : decide ((N : Int) < 0) = false := decide_eq_false h1
  have d2 : decide ((999999999 : Int) < (N : Int)) = false := decide_eq_false h2
  have HO1 : Hid ((w.alloc (.cells #[.int .u8 (48 + (N : Int) % 10)] 5)).ownsRow w.heap.size 5 1 (.slice (some ⟨w.heap.size, 0, none⟩) 1 1) 1 (u8s [48 + N % 10])) := Lib.hid (by
    have := owns_built w 5 (.int .u8 ((48 + N % 10 : Nat) : Int))
    rw [show ((48 + N % 10 : Nat) : Int) = 48 + (N : Int) % 10 by omega] at this
    rw [show u8s [48 + N % 10] = [.int .u8 (48 + (N : Int) % 10)] by simp [u8s]]
    exact this)
  clear h1 h2
  go_enter Tryz.func13, Tryz.ntmps13
  go_wp2
  go_loopw [0, 3] (fun n out wr => ∃ (m : Nat) (ds : List Nat), m ≤ 999999999 ∧ n = .int .i64 m ∧ Hid (digN N = hiD m ++ ds.reverse) ∧ ds.length ≤ 9 ∧ wr.ownsRow w.heap.size 5 1 out ds.length (u8s ds) ∧ Hid (0 < ds.length) ∧ Hid (Below w.heap.size w wr)) (fun n _ _ => (intOf n).toNat)
  case atStart => exact ⟨N, [48 + N % 10], hN, rfl, Lib.hid (by simpa using HS.out), by simp, HO1.out, Lib.hid (by simp), Lib.hid ((Below.refl _ _).alloc (Nat.le_refl _) _)⟩
  case round =>
    obtain ⟨m, ds, hm, rfl, HE, hds, ho, HP, HB⟩ := hrel
    have hbr := HB.out
    have hsz := hbr.size
    by_cases hge : 10 ≤ m
    · have d3 : decide ((10 : Int) ≤ (m : Int)) = true := by simp; omega
      have HST := Lib.hid (hiD_step hge HE.out)
      have hlen : (ds ++ [48 + m / 10 % 10]).length ≤ 9 := by
        have h1 := HL.out
        rw [HST.out] at h1
        have h2 : (hiD (m / 10) ++ (ds ++ [48 + m / 10 % 10]).reverse).length = (hiD (m / 10)).length + (ds ++ [48 + m / 10 % 10]).length := by rw [List.length_append, List.length_reverse]
        omega
      go_wp2_with (at_builtin; go_must (refine wpList_push rfl (.tmp 19) (.tmp 24) 42 rfl w.heap.size 5 i0 (.int .u8 0) 1 1 Tryz.underlying42 hi hz0 hz1 hz2 rfl (by decide) _ _ _ rfl (ho.alloc _) _ 1 1 [_] rfl rfl (cell_one_new _ _ _) (by simp [Value.oneCell']) (by unfold maxLen; omega) (by omega) (by simp; omega) ?_; intro v4 w4 hown4 hgrow4 hfr4))
      have hb4 := below_push hbr hsz ho (Nat.le_refl _) hgrow4
      have hown4' : w4.ownsRow w.heap.size 5 1 v4 (ds ++ [48 + m / 10 % 10]).length (u8s (ds ++ [48 + m / 10 % 10])) := by
        rw [u8s_snocD, List.length_append, List.length_singleton, show ((48 + m / 10 % 10 : Nat) : Int) = 48 + (m : Int) / 10 % 10 by omega]; exact hown4
      clear hgrow4 hfr4 hown4 ho
      go_roundw
      case rel => exact ⟨m / 10, _, by omega, by go_num, HST, hlen, hown4', Lib.hid (by simp), Lib.hid hb4⟩
      case measure => simp [intOf]; omega
    · have d3 : decide ((10 : Int) ≤ (m : Int)) = false := by simp; omega
      have HE2 : Hid (digN N = ds.reverse) := Lib.hid (by have h := HE.out; unfold hiD at h; rwa [if_pos (by omega), List.nil_append] at h)
      have HRV := Lib.hid (Reverse_any ds w.heap.size _ wr ho HP.out)
      obtain ⟨g, cap, rfl, _, _⟩ := ho.form HP.out
      clear ho HE
      go_wp2_with fail
      refine HRV.out.mono ?_
      rintro e w5 ⟨rfl, hr5, hb5⟩
      rw [← HE2.out] at hr5
      have HCV := Lib.hid (run_conv HA.out (by rw [show (digN N).length = ds.length by rw [HE2.out]; simp]; exact hr5))
      have hbw5 := hbr.trans hb5
      clear hr5
      go_wp2_with fail
      rw [HCV.out]
      simp only [Result.andThen]
      rw [Oper.upon_value]
      go_wp2
      go_ret
      exact ⟨by rw [HF.out]; rfl, hbw5⟩

theorem bsN_ext {a b : ByteArray} (h : bsN a = bsN b) : a = b := by
  refine bytes_inj ?_
  unfold bsN at h
  exact (List.map_inj_right (fun x y => UInt8.toNat_inj.1)).1 h
theorem mkS_size (l : List Nat) : (mkS l).size = l.length := by simp [mkS, ByteArray.size]
theorem mkS_append (a b : List Nat) : mkS a ++ mkS b = mkS (a ++ b) := by
  apply bytes_inj
  rw [ByteArray.data_append]
  simp [mkS]
end Go.Proofs.YtdhgcgejdoedbaaGreatDoor
