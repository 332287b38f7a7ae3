/-
  The words of errors: diag.words, the reference's Words: contracts.
-/
import Derived.Great.BuildSlice
import Derived.Laws.Rows
import Derived.Test.YtbnggfhofdpdcaaBq19
import Derived.Test.YtbnggfhofdpdcaaBq47
namespace Go.Proofs.Ytbnggfhofdpdcaa
open Go Go.RowKit Go.WideShapes

/-- The words of the errors, from the first on. -/
def wordsL : List ByteArray := [{ data := #[111, 107] }, { data := #[114, 97, 110, 103, 101] }, { data := #[108, 111, 110, 103] }, { data := #[102, 111, 114, 109] }, { data := #[115, 104, 111, 114, 116] }, { data := #[110, 111, 110, 101] }, { data := #[116, 119, 105, 99, 101] }, { data := #[107, 105, 110, 100] }, { data := #[111, 114, 100, 101, 114] }, { data := #[117, 116, 102] }, { data := #[119, 105, 114, 101] }, { data := #[100, 101, 112, 116, 104] }, { data := #[115, 117, 109] }, { data := #[115, 116, 97, 116, 101] }, { data := #[102, 117, 108, 108] }, { data := #[118, 101, 114, 115, 105, 111, 110] }, { data := #[99, 121, 99, 108, 101] }, { data := #[101, 109, 112, 116, 121] }, { data := #[110, 97, 109, 101] }, { data := #[117, 110, 100, 111] }, { data := #[108, 101, 102, 116] }]
def wordsA : Array Value := #[.string { data := #[111, 107] }, .string { data := #[114, 97, 110, 103, 101] }, .string { data := #[108, 111, 110, 103] }, .string { data := #[102, 111, 114, 109] }, .string { data := #[115, 104, 111, 114, 116] }, .string { data := #[110, 111, 110, 101] }, .string { data := #[116, 119, 105, 99, 101] }, .string { data := #[107, 105, 110, 100] }, .string { data := #[111, 114, 100, 101, 114] }, .string { data := #[117, 116, 102] }, .string { data := #[119, 105, 114, 101] }, .string { data := #[100, 101, 112, 116, 104] }, .string { data := #[115, 117, 109] }, .string { data := #[115, 116, 97, 116, 101] }, .string { data := #[102, 117, 108, 108] }, .string { data := #[118, 101, 114, 115, 105, 111, 110] }, .string { data := #[99, 121, 99, 108, 101] }, .string { data := #[101, 109, 112, 116, 121] }, .string { data := #[110, 97, 109, 101] }, .string { data := #[117, 110, 100, 111] }, .string { data := #[108, 101, 102, 116] }]
def wordsV : Value := .agg wordsA
def wordD (e : Int) : ByteArray := if 0 ≤ e ∧ e ≤ 20 then (wordsL[e.toNat]?.getD { data := #[] }) else { data := #[] }
set_option maxRecDepth 100000 in
theorem dwords_any (w : World) : Calls Try.prog 114 #[] w fun e w' => e = .returned wordsV ∧ Below w.heap.size w w' := by
  unfold wordsV
  go_enter Try.func114, Try.ntmps114
  go_upto_region 1 with fail
  apply wp_region_lit
  refine wpList_buildTo rfl _ _ rfl _ rfl wordsA (by kernel_rfl) ?_
  refine wpList_store_rowTo rfl _ _ _ rfl rfl w.heap.size wordsA (by rfl) (by rfl) _ _ (World.alloc_heap_new w _) (by kernel_rfl) (by kernel_rfl) (by kernel_rfl) ?_
  have hg := setRow_heap _ _ _ wordsA _ _ (World.alloc_heap_new w (.cells #[.string { data := #[] }, .string { data := #[] }, .string { data := #[] }, .string { data := #[] }, .string { data := #[] }, .string { data := #[] }, .string { data := #[] }, .string { data := #[] }, .string { data := #[] }, .string { data := #[] }, .string { data := #[] }, .string { data := #[] }, .string { data := #[] }, .string { data := #[] }, .string { data := #[] }, .string { data := #[] }, .string { data := #[] }, .string { data := #[] }, .string { data := #[] }, .string { data := #[] }, .string { data := #[] }] 68))
  have hb : Below w.heap.size w ((w.alloc (.cells #[.string { data := #[] }, .string { data := #[] }, .string { data := #[] }, .string { data := #[] }, .string { data := #[] }, .string { data := #[] }, .string { data := #[] }, .string { data := #[] }, .string { data := #[] }, .string { data := #[] }, .string { data := #[] }, .string { data := #[] }, .string { data := #[] }, .string { data := #[] }, .string { data := #[] }, .string { data := #[] }, .string { data := #[] }, .string { data := #[] }, .string { data := #[] }, .string { data := #[] }, .string { data := #[] }] 68)).setRow w.heap.size wordsA) := ⟨rfl, rfl, rfl, by simp, fun k hk => by rw [setRow_other _ _ _ _ (by omega)]; exact Below.heap_alloc _ _ _ hk⟩
  generalize ((w.alloc (.cells #[.string { data := #[] }, .string { data := #[] }, .string { data := #[] }, .string { data := #[] }, .string { data := #[] }, .string { data := #[] }, .string { data := #[] }, .string { data := #[] }, .string { data := #[] }, .string { data := #[] }, .string { data := #[] }, .string { data := #[] }, .string { data := #[] }, .string { data := #[] }, .string { data := #[] }, .string { data := #[] }, .string { data := #[] }, .string { data := #[] }, .string { data := #[] }, .string { data := #[] }, .string { data := #[] }] 68)).setRow w.heap.size wordsA) = w1 at *
  show Exit.then _ _ _ _ _
  go_wp2
  refine bodyPost_ret (results_cell_row rfl _ _ _ _ _ _ _ rfl hg Try.underlying68 rfl (by kernel_rfl)) rfl ⟨rfl, hb⟩
set_option maxRecDepth 100000 in
theorem rWords_any (w : World) : Calls Try.prog 47 #[] w fun e w' => e = .returned wordsV ∧ Below w.heap.size w w' := by
  unfold wordsV
  go_enter Try.func47, Try.ntmps47
  go_upto_region 1 with fail
  apply wp_region_lit
  refine wpList_buildTo rfl _ _ rfl _ rfl wordsA (by kernel_rfl) ?_
  refine wpList_store_rowTo rfl _ _ _ rfl rfl w.heap.size wordsA (by rfl) (by rfl) _ _ (World.alloc_heap_new w _) (by kernel_rfl) (by kernel_rfl) (by kernel_rfl) ?_
  have hg := setRow_heap _ _ _ wordsA _ _ (World.alloc_heap_new w (.cells #[.string { data := #[] }, .string { data := #[] }, .string { data := #[] }, .string { data := #[] }, .string { data := #[] }, .string { data := #[] }, .string { data := #[] }, .string { data := #[] }, .string { data := #[] }, .string { data := #[] }, .string { data := #[] }, .string { data := #[] }, .string { data := #[] }, .string { data := #[] }, .string { data := #[] }, .string { data := #[] }, .string { data := #[] }, .string { data := #[] }, .string { data := #[] }, .string { data := #[] }, .string { data := #[] }] 68))
  have hb : Below w.heap.size w ((w.alloc (.cells #[.string { data := #[] }, .string { data := #[] }, .string { data := #[] }, .string { data := #[] }, .string { data := #[] }, .string { data := #[] }, .string { data := #[] }, .string { data := #[] }, .string { data := #[] }, .string { data := #[] }, .string { data := #[] }, .string { data := #[] }, .string { data := #[] }, .string { data := #[] }, .string { data := #[] }, .string { data := #[] }, .string { data := #[] }, .string { data := #[] }, .string { data := #[] }, .string { data := #[] }, .string { data := #[] }] 68)).setRow w.heap.size wordsA) := ⟨rfl, rfl, rfl, by simp, fun k hk => by rw [setRow_other _ _ _ _ (by omega)]; exact Below.heap_alloc _ _ _ hk⟩
  generalize ((w.alloc (.cells #[.string { data := #[] }, .string { data := #[] }, .string { data := #[] }, .string { data := #[] }, .string { data := #[] }, .string { data := #[] }, .string { data := #[] }, .string { data := #[] }, .string { data := #[] }, .string { data := #[] }, .string { data := #[] }, .string { data := #[] }, .string { data := #[] }, .string { data := #[] }, .string { data := #[] }, .string { data := #[] }, .string { data := #[] }, .string { data := #[] }, .string { data := #[] }, .string { data := #[] }, .string { data := #[] }] 68)).setRow w.heap.size wordsA) = w1 at *
  show Exit.then _ _ _ _ _
  go_wp2
  refine bodyPost_ret (results_cell_row rfl _ _ _ _ _ _ _ rfl hg Try.underlying68 rfl (by kernel_rfl)) rfl ⟨rfl, hb⟩
set_option maxRecDepth 100000 in
theorem index_words (w : World) : ∀ n : Nat, n < 21 → (Instr.index 68 wordsV (.int .i64 (n : Int))).run Try.prog w = .ok (.string (wordD (n : Int))) w
  | 0, _ => by kernel_rfl
  | 1, _ => by kernel_rfl
  | 2, _ => by kernel_rfl
  | 3, _ => by kernel_rfl
  | 4, _ => by kernel_rfl
  | 5, _ => by kernel_rfl
  | 6, _ => by kernel_rfl
  | 7, _ => by kernel_rfl
  | 8, _ => by kernel_rfl
  | 9, _ => by kernel_rfl
  | 10, _ => by kernel_rfl
  | 11, _ => by kernel_rfl
  | 12, _ => by kernel_rfl
  | 13, _ => by kernel_rfl
  | 14, _ => by kernel_rfl
  | 15, _ => by kernel_rfl
  | 16, _ => by kernel_rfl
  | 17, _ => by kernel_rfl
  | 18, _ => by kernel_rfl
  | 19, _ => by kernel_rfl
  | 20, _ => by kernel_rfl
  | n + 21, h => absurd h (by omega)
set_option maxRecDepth 100000 in
set_option maxHeartbeats 4000000 in
theorem dWord_any (e : Int) (w : World) : Calls Try.prog 50 #[.int .i64 e] w fun x w' => x = .returned (.string (wordD e)) ∧ Below w.heap.size w w' := by
  by_cases h1 : e < 0
  · have d1 : decide (e < 0) = true := decide_eq_true h1
    have hE : Hid (wordD e = { data := #[] }) := Lib.hid (by unfold wordD; rw [if_neg]; omega)
    go_enter Try.func50, Try.ntmps50
    go_wp2_with fail
    go_ret
    rw [hE.out]
    exact ⟨rfl, Below.refl _ _⟩
  have d1 : decide (e < 0) = false := decide_eq_false h1
  by_cases h2 : 20 < e
  · have d2 : decide (20 < e) = true := decide_eq_true h2
    have hE : Hid (wordD e = { data := #[] }) := Lib.hid (by unfold wordD; rw [if_neg]; omega)
    go_enter Try.func50, Try.ntmps50
    go_wp2_with fail
    go_ret
    rw [hE.out]
    exact ⟨rfl, Below.refl _ _⟩
  have d2 : decide (20 < e) = false := decide_eq_false h2
  go_enter Try.func50, Try.ntmps50
  go_wp2_with fail
  refine (dwords_any _).mono ?_
  rintro x w1 ⟨rfl, hb⟩
  have h1' : 0 ≤ e := by omega
  have h2' : e ≤ 20 := by omega
  clear h1 h2 d1 d2
  obtain ⟨n, rfl⟩ : ∃ n : Nat, e = (n : Int) := ⟨e.toNat, by omega⟩
  have hn : n < 21 := by omega
  have hix := index_words w1 n hn
  go_wp2_with fail
  go_ret
  exact ⟨rfl, hb⟩
end Go.Proofs.Ytbnggfhofdpdcaa

/-
  diag.Errno: contract.
-/
namespace Go.Proofs.Ytbnggfhofdpdcaa
open Go Go.RowKit Go.WideShapes

theorem wordD_at : ∀ k : Nat, (h : k < wordsL.length) → wordD (k : Int) = wordsL[k] := by decide +kernel
/-- The error of a word, and whether there is one. -/
def errD (s : ByteArray) : Int := if 0 ≤ idxS wordsL s then idxS wordsL s else 0
def isErr (s : ByteArray) : Bool := decide (0 ≤ idxS wordsL s)
theorem errD_at {s : ByteArray} {k : Nat} (h : idxS wordsL s = (k : Int)) : errD s = (k : Int) ∧ isErr s = true := by
  unfold errD isErr
  rw [h]
  exact ⟨if_pos (by omega), decide_eq_true (by omega)⟩
theorem errD_no {s : ByteArray} (h : idxS wordsL s = -1) : errD s = 0 ∧ isErr s = false := by
  unfold errD isErr
  rw [h]
  exact ⟨rfl, rfl⟩
theorem wordsL_len : wordsL.length = 21 := rfl
set_option maxRecDepth 100000 in
set_option maxHeartbeats 4000000 in
theorem dErrno_any (s : ByteArray) (w : World) : Calls Try.prog 48 #[.string s] w fun x w' => x = .returned (.tuple #[.int .i64 (errD s), .bool (isErr s)]) ∧ Below w.heap.size w w' := by
  go_enter Try.func48, Try.ntmps48
  go_wp2_with fail
  refine (dwords_any _).mono ?_
  rintro x w1 ⟨rfl, hb⟩
  have HB := Lib.hid hb
  clear hb
  go_wp2_with fail
  go_loopg [7] (21 + 1) (fun gk i wr => ∃ k : Nat, k + gk = 21 + 1 ∧ k ≤ 21 ∧ i = .int .i64 k ∧ Hid ((wordsL.take k).contains s = false) ∧ wr = w1)
  case atStart => exact ⟨0, by omega, by omega, rfl, Lib.hid (by simp), rfl⟩
  case round =>
    obtain ⟨k, hgk, hk, rfl, HC, rfl⟩ := hrel
    have hg : gk = 21 + 1 - k := by omega
    subst hg
    by_cases hkl : k < 21
    · have d1 : decide ((k : Int) < 21) = true := decide_eq_true (by omega)
      have hix := index_words wr k hkl
      have hkl2 : k < wordsL.length := hkl
      have HW := Lib.hid (wordD_at k hkl2)
      have HAT := Lib.hid (fun he => idxS_at hkl2 HC.out he)
      have HST := Lib.hid (fun he => contains_step hkl2 HC.out he)
      generalize wordD (k : Int) = x at *
      by_cases he : x = s
      · have e1 : (x.toList == s.toList) = true := beqS_yes he
        have HI : Hid (idxS wordsL s = k) := Lib.hid (HAT.out (by rw [← HW.out]; exact he.symm))
        clear he HAT HST
        go_wp2_with fail
        go_ret2
        rw [(errD_at HI.out).1, (errD_at HI.out).2]
        exact ⟨rfl, HB.out⟩
      · have e1 : (x.toList == s.toList) = false := beqS_no he
        have HS2 : Hid ((wordsL.take (k + 1)).contains s = false) := Lib.hid (HST.out (by rw [← HW.out]; exact fun h => he h.symm))
        clear he HAT HST
        go_wp2_with fail
        go_roundg (21 + 1 - (k + 1))
        case measure => omega
        case rel => exact ⟨k + 1, by omega, by omega, by go_num, HS2, rfl⟩
    · have d1 : decide ((k : Int) < 21) = false := decide_eq_false (by omega)
      have HI : Hid (idxS wordsL s = -1) := Lib.hid (idxS_no (k := k) (by rw [wordsL_len]; exact hkl) HC.out)
      go_wp2_with fail
      go_ret2
      rw [(errD_no HI.out).1, (errD_no HI.out).2]
      exact ⟨rfl, HB.out⟩
end Go.Proofs.Ytbnggfhofdpdcaa
