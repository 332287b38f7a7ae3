/-
  utf: the reference's Bytes; live: contracts.
-/
import Derived.Test.YtigeedaihbpjiaaUe
import Derived.Test.YtigeedaihbpjiaaVg
import Derived.Laws.IdiomStrings
namespace Go.Proofs.Ytigeedaihbpjiaa
open Go.RowKit

theorem map_toNat_inj : ∀ {a b : List UInt8}, a.map UInt8.toNat = b.map UInt8.toNat → a = b
  | [], [], _ => rfl
  | [], _ :: _, h => by cases h
  | _ :: _, [], h => by cases h
  | x :: a, y :: b, h => by
    simp only [List.map_cons, List.cons.injEq] at h
    rw [UInt8.toNat_inj.1 h.1, map_toNat_inj h.2]
theorem bsN_inj {s t : ByteArray} (h : bsN s = bsN t) : s = t := by
  unfold bsN at h
  have h2 : s.data.toList = t.data.toList := map_toNat_inj h
  cases s; cases t
  simp at h2
  simp [h2]
theorem bsN_append (s t : ByteArray) : bsN (s ++ t) = bsN s ++ bsN t := by
  unfold bsN
  rw [← List.map_append]
  simp

theorem Text_ok (l : List Int) (v : Value) (w : World) (hv : ∀ n ∈ l, validI n = true) (hl : l.length ≤ 1048576) (hr : RdS w v 1 l.length (ints .i32 l)) :
    Calls Try.prog 37 #[v] w fun e w' => ∃ s, e = .returned (.tuple #[.string s, .agg #[.int .i64 0, .int .i64 0]]) ∧ bsN s = textI l ∧ Below w.heap.size w w' := by
  refine (Text_any l v w (fun n hn => ?_) hl hr).mono ?_
  · have := hv n hn; unfold validI at this; simp at this; omega
  · rintro e w' ⟨s, c, p, rfl, hp, hb⟩
    rcases hp with ⟨rfl, rfl, _, h⟩ | ⟨_, _, i, _, hi, hf, _⟩
    · exact ⟨s, rfl, h, hb⟩
    · have := hv l[i] (List.getElem_mem hi)
      simp [hi] at hf
      rw [hf] at this; cases this
theorem Text_bad (l : List Int) (v : Value) (w : World) (i : Nat) (hi : i < l.length) (hw : ∀ n ∈ l, -2147483648 ≤ n ∧ n ≤ 2147483647) (hf : validI (l[i]?.getD 0) = false) (hj : ∀ j, j < i → validI (l[j]?.getD 0) = true) (hl : l.length ≤ 1048576) (hr : RdS w v 1 l.length (ints .i32 l)) :
    Calls Try.prog 37 #[v] w fun e w' => e = .returned (.tuple #[.string ⟨#[]⟩, .agg #[.int .i64 1, .int .i64 i]]) ∧ Below w.heap.size w w' := by
  refine (Text_any l v w hw hl hr).mono ?_
  rintro e w' ⟨s, c, p, rfl, hp, hb⟩
  rcases hp with ⟨_, _, h, _⟩ | ⟨rfl, rfl, k, rfl, hk, hf', hj'⟩
  · have := h l[i] (List.getElem_mem hi)
    simp [hi] at hf
    rw [hf] at this; cases this
  · have : k = i := by
      rcases Nat.lt_trichotomy k i with h | h | h
      · have := hj k h; rw [hf'] at this; cases this
      · exact h
      · have := hj' i h; rw [hf] at this; cases this
    subst this
    exact ⟨rfl, hb⟩
theorem valid_or (l : List Int) : (∀ n ∈ l, validI n = true) ∨ ∃ i, i < l.length ∧ validI (l[i]?.getD 0) = false ∧ ∀ j, j < i → validI (l[j]?.getD 0) = true := by
  induction l with
  | nil => exact .inl (fun n hn => by cases hn)
  | cons a l ih =>
    cases ha : validI a with
    | false => exact .inr ⟨0, by simp, by simpa using ha, fun j hj => by omega⟩
    | true =>
      rcases ih with h | ⟨i, h1, h2, h3⟩
      · left
        intro n hn
        rcases List.mem_cons.1 hn with rfl | hn
        · exact ha
        · exact h n hn
      · right
        refine ⟨i + 1, by simpa using h1, by simpa using h2, fun j hj => ?_⟩
        cases j with
        | zero => simpa using ha
        | succ j => simpa using h3 j (by omega)

def mkS (l : List Nat) : ByteArray := ⟨(l.map UInt8.ofNat).toArray⟩
theorem bsN_mkS {l : List Nat} (h : AllLt 256 l) : bsN (mkS l) = l := by
  unfold mkS bsN
  simp only [List.map_map]
  conv => rhs; rw [← List.map_id l]
  exact List.map_congr_left fun b hb => by have := h b hb; simp; omega
/-- Bytes as a text. -/
theorem run_conv {w : World} {v : Value} {l : List Nat} (hl : AllLt 256 l) (h : RdS w v 1 l.length (u8s l)) : (convert 24 9 v).run Try.prog w = .ok (.string (mkS l)) w := by
  rcases h.cases (by decide) with ⟨h0, h1, a, cap, rfl, hm⟩ | ⟨hn, _, g, off, cap, rfl, hnc, hcm, hc⟩
  · obtain rfl : l = [] := List.eq_nil_of_length_eq_zero h0
    rw [run_convert_bytes_string w _ _ 5 a 0 cap Try.underlying24 Try.underlying5 Try.underlying9]
    cases a with
    | none => rfl
    | some a => simp [Conv.bytesToString, mkS, loadCells, loadCellsFrom]; rfl
  · have e : l.length = (l.map UInt8.ofNat).length := by simp
    rw [e]
    refine run_convert_bytes_back w _ _ 5 ⟨g, off, none⟩ cap (l.map UInt8.ofNat) Try.underlying24 Try.underlying5 Try.underlying9 (fun j hj => ?_)
    have hj' : j < l.length := by simpa using hj
    have := hc j _ (u8s_get l j hj')
    have hb := hl l[j] (List.getElem_mem hj')
    have e2 : ((l.map UInt8.ofNat)[j]).toNat = l[j]?.getD 0 := by simp [hj']; omega
    rw [e2, ← this]
    congr 1
    unfold Addr.add
    split
    · rename_i h0; subst h0; rfl
    · rfl

set_option maxRecDepth 100000 in
set_option maxHeartbeats 1000000 in
theorem rBytes_any (n : Int) (w : World) (hv : validI n = true) :
    Calls Try.prog 39 #[.int .i32 n] w fun e w' => ∃ s, e = .returned (.string s) ∧ bsN s = encN n.toNat ∧ Below w.heap.size w w' := by
  have hr : 0 ≤ n ∧ n ≤ 1114111 := by unfold validI at hv; simp at hv; omega
  obtain ⟨c, rfl⟩ : ∃ c : Nat, n = c := ⟨n.toNat, by omega⟩
  rw [Int.toNat_natCast]
  clear hv
  have hcs : c < 128 ∨ (128 ≤ c ∧ c < 2048) ∨ (2048 ≤ c ∧ c < 65536) ∨ (65536 ≤ c ∧ c ≤ 1114111) := by omega
  rcases hcs with h | ⟨h1, h2⟩ | ⟨h1, h2⟩ | ⟨h1, h2⟩
  · have HE : Hid (encN c = [c]) := Lib.hid (by unfold encN; rw [if_pos h])
    have d1 : decide ((c : Int) < 128) = true := by simp; omega
    have hal : AllLt 256 [c] := by intro b hb; simp at hb; omega
    have hrd : RdS (w.alloc (.cells #[.int .u8 (c : Int)] 5)) (.slice (some ⟨w.heap.size, 0, none⟩) 1 1) 1 1 (u8s [c]) := by
      have := rds_lit (w := w) (e := 5) (c := #[.int .u8 (c : Int)]) 1 rfl (by omega)
      simpa [u8s] using this
    have HCV := Lib.hid (run_conv hal hrd)
    have HBM := Lib.hid (bsN_mkS hal)
    clear hal hrd
    go_enter Try.func39, Try.ntmps39
    go_wp2
    rw [HCV.out]
    simp only [Result.andThen]
    rw [Oper.upon_value]
    go_wp2
    go_ret
    exact ⟨_, rfl, by rw [HE.out, HBM.out], (Below.refl _ _).alloc (Nat.le_refl _) _⟩
  · have HE : Hid (encN c = [192 + c / 64, 128 + c % 64]) := Lib.hid (by unfold encN; rw [if_neg (by omega), if_pos h2])
    have d1 : decide ((c : Int) < 128) = false := by simp; omega
    have d2 : decide ((c : Int) < 2048) = true := by simp; omega
    have hal : AllLt 256 [192 + c / 64, 128 + c % 64] := by intro b hb; simp at hb; omega
    have hrd : RdS (w.alloc (.cells #[.int .u8 (192 + (c : Int) / 64), .int .u8 (128 + (c : Int) % 64)] 5)) (.slice (some ⟨w.heap.size, 0, none⟩) 2 2) 1 2 (u8s [192 + c / 64, 128 + c % 64]) := by
      have := rds_lit (w := w) (e := 5) (c := #[.int .u8 (192 + (c : Int) / 64), .int .u8 (128 + (c : Int) % 64)]) 2 rfl (by omega)
      simpa [u8s] using this
    have HCV := Lib.hid (run_conv hal hrd)
    have HBM := Lib.hid (bsN_mkS hal)
    clear hal hrd
    go_enter Try.func39, Try.ntmps39
    go_wp2
    rw [HCV.out]
    simp only [Result.andThen]
    rw [Oper.upon_value]
    go_wp2
    go_ret
    exact ⟨_, rfl, by rw [HE.out, HBM.out], (Below.refl _ _).alloc (Nat.le_refl _) _⟩
  · have HE : Hid (encN c = [224 + c / 4096, 128 + c / 64 % 64, 128 + c % 64]) := Lib.hid (by unfold encN; rw [if_neg (by omega), if_neg (by omega), if_pos h2])
    have d1 : decide ((c : Int) < 128) = false := by simp; omega
    have d2 : decide ((c : Int) < 2048) = false := by simp; omega
    have d3 : decide ((c : Int) < 65536) = true := by simp; omega
    have hal : AllLt 256 [224 + c / 4096, 128 + c / 64 % 64, 128 + c % 64] := by intro b hb; simp at hb; omega
    have hrd : RdS (w.alloc (.cells #[.int .u8 (224 + (c : Int) / 4096), .int .u8 (128 + (c : Int) / 64 % 64), .int .u8 (128 + (c : Int) % 64)] 5)) (.slice (some ⟨w.heap.size, 0, none⟩) 3 3) 1 3 (u8s [224 + c / 4096, 128 + c / 64 % 64, 128 + c % 64]) := by
      have := rds_lit (w := w) (e := 5) (c := #[.int .u8 (224 + (c : Int) / 4096), .int .u8 (128 + (c : Int) / 64 % 64), .int .u8 (128 + (c : Int) % 64)]) 3 rfl (by omega)
      simpa [u8s] using this
    have HCV := Lib.hid (run_conv hal hrd)
    have HBM := Lib.hid (bsN_mkS hal)
    clear hal hrd
    go_enter Try.func39, Try.ntmps39
    go_wp2
    rw [HCV.out]
    simp only [Result.andThen]
    rw [Oper.upon_value]
    go_wp2
    go_ret
    exact ⟨_, rfl, by rw [HE.out, HBM.out], (Below.refl _ _).alloc (Nat.le_refl _) _⟩
  · have HE : Hid (encN c = [240 + c / 262144, 128 + c / 4096 % 64, 128 + c / 64 % 64, 128 + c % 64]) := Lib.hid (by unfold encN; rw [if_neg (by omega), if_neg (by omega), if_neg (by omega)])
    have d1 : decide ((c : Int) < 128) = false := by simp; omega
    have d2 : decide ((c : Int) < 2048) = false := by simp; omega
    have d3 : decide ((c : Int) < 65536) = false := by simp; omega
    have hal : AllLt 256 [240 + c / 262144, 128 + c / 4096 % 64, 128 + c / 64 % 64, 128 + c % 64] := by intro b hb; simp at hb; omega
    have hrd : RdS (w.alloc (.cells #[.int .u8 (240 + (c : Int) / 262144), .int .u8 (128 + (c : Int) / 4096 % 64), .int .u8 (128 + (c : Int) / 64 % 64), .int .u8 (128 + (c : Int) % 64)] 5)) (.slice (some ⟨w.heap.size, 0, none⟩) 4 4) 1 4 (u8s [240 + c / 262144, 128 + c / 4096 % 64, 128 + c / 64 % 64, 128 + c % 64]) := by
      have := rds_lit (w := w) (e := 5) (c := #[.int .u8 (240 + (c : Int) / 262144), .int .u8 (128 + (c : Int) / 4096 % 64), .int .u8 (128 + (c : Int) / 64 % 64), .int .u8 (128 + (c : Int) % 64)]) 4 rfl (by omega)
      simpa [u8s] using this
    have HCV := Lib.hid (run_conv hal hrd)
    have HBM := Lib.hid (bsN_mkS hal)
    clear hal hrd
    go_enter Try.func39, Try.ntmps39
    go_wp2
    rw [HCV.out]
    simp only [Result.andThen]
    rw [Oper.upon_value]
    go_wp2
    go_ret
    exact ⟨_, rfl, by rw [HE.out, HBM.out], (Below.refl _ _).alloc (Nat.le_refl _) _⟩

theorem live03_f : runesR (bsN ⟨#[97, 195, 164]⟩) = ([97, 228], 0, 0) ∧ firstX 0 (bsN ⟨#[97, 192, 128]⟩) = 1 ∧ firstX 0 (bsN ⟨#[97]⟩) = -1 ∧ countN (bsN ⟨#[97, 195, 164]⟩) = 2 ∧ countN (bsN ⟨#[255]⟩) = -1 ∧ checkN (bsN ⟨#[97, 98]⟩) 1 = 2 ∧ checkN (bsN ⟨#[255]⟩) 1 = 9 ∧ plainB (bsN ⟨#[97, 32, 98]⟩) = true ∧ plainB (bsN ⟨#[97, 10]⟩) = false ∧ textI [97, 228] = bsN ⟨#[97, 195, 164]⟩ := by decide +kernel

set_option maxRecDepth 100000 in
set_option maxHeartbeats 2000000 in
theorem live03_any (w : World) : Calls Try.prog 30 #[] w fun e w' => e = .returned (.bool true) ∧ Below w.heap.size w w' := by
  obtain ⟨l1, l2, l3, l4, l5, l6, l7, l8, l9, l10⟩ := live03_f
  have L1 := Lib.hid l1; have L2 := Lib.hid l2; have L3 := Lib.hid l3; have L4 := Lib.hid l4; have L5 := Lib.hid l5; have L6 := Lib.hid l6; have L7 := Lib.hid l7; have L8 := Lib.hid l8; have L9 := Lib.hid l9; have L10 := Lib.hid l10
  clear l1 l2 l3 l4 l5 l6 l7 l8 l9 l10
  go_enter Try.func30, Try.ntmps30
  go_wp2_with fail
  refine (Runes_any ⟨#[97, 195, 164]⟩ _ (by decide)).mono ?_
  rintro e w1 ⟨v1, rfl, ho1, hb1⟩
  rw [L1.out] at ho1 ⊢
  dsimp only at ho1 ⊢
  obtain ⟨g1, c1, rfl⟩ := ownsRow_succ ho1
  have H1 := Lib.hid (ho1.cells (g := g1) rfl 1 (.int .i32 228) rfl)
  have hg1 : g1 < w1.heap.size := (ho1.lt g1 rfl).2
  clear ho1
  go_wp2_with fail
  have hdA : (w1.alloc (Obj.cells #[.int .i64 0, .int .i64 0] 34)).heap[w1.heap.size]? = some (.cells #[.int .i64 0, .int .i64 0] 34 (0, 0)) := World.alloc_heap_new w1 _
  have hbA : Below w1.heap.size w1 (w1.alloc (Obj.cells #[.int .i64 0, .int .i64 0] 34)) := (Below.refl _ _).alloc (Nat.le_refl _) _
  have hgA : w1.heap.size < (w1.alloc (Obj.cells #[.int .i64 0, .int .i64 0] 34)).heap.size := by simp
  have hL1 : RdS ((w1.alloc (Obj.cells #[.int .i64 0, .int .i64 0] 34)).alloc (.cells #[.int .i32 97, .int .i32 228] 21)) (.slice (some ⟨w1.heap.size + 1, 0, none⟩) 2 2) 1 2 (ints .i32 [97, 228]) := by
    have := rds_lit (w := w1.alloc (Obj.cells #[.int .i64 0, .int .i64 0] 34)) (e := 21) (c := #[.int .i32 97, .int .i32 228]) 2 rfl (by omega)
    rw [World.size_alloc] at this; exact this
  refine (Text_ok [97, 228] _ _ (by decide) (by decide) hL1).mono ?_
  rintro e w2 ⟨s2, rfl, hs2, hb2⟩
  rw [L10.out] at hs2
  obtain rfl := bsN_inj hs2
  have hbB : Below (w1.alloc (Obj.cells #[.int .i64 0, .int .i64 0] 34)).heap.size (w1.alloc (Obj.cells #[.int .i64 0, .int .i64 0] 34)) w2 := ((Below.refl _ _).alloc (Nat.le_refl _) _).trans (hb2.mono (by simp))
  clear hs2 hb2 hL1
  have hsA := hbA.size
  have hsB := hbB.size
  go_wp2_with fail
  have hdC : (w2.alloc (Obj.cells #[.int .i64 0, .int .i64 0] 34)).heap[w2.heap.size]? = some (.cells #[.int .i64 0, .int .i64 0] 34 (0, 0)) := World.alloc_heap_new w2 _
  have hbC : Below w2.heap.size w2 (w2.alloc (Obj.cells #[.int .i64 0, .int .i64 0] 34)) := (Below.refl _ _).alloc (Nat.le_refl _) _
  have hgC : w2.heap.size < (w2.alloc (Obj.cells #[.int .i64 0, .int .i64 0] 34)).heap.size := by simp
  have hL2 : RdS ((w2.alloc (Obj.cells #[.int .i64 0, .int .i64 0] 34)).alloc (.cells #[.int .i32 97, .int .i32 55296] 21)) (.slice (some ⟨w2.heap.size + 1, 0, none⟩) 2 2) 1 2 (ints .i32 [97, 55296]) := by
    have := rds_lit (w := w2.alloc (Obj.cells #[.int .i64 0, .int .i64 0] 34)) (e := 21) (c := #[.int .i32 97, .int .i32 55296]) 2 rfl (by omega)
    rw [World.size_alloc] at this; exact this
  refine (Text_bad [97, 55296] _ _ 1 (by decide) (by decide) (by decide) (by decide) (by decide) hL2).mono ?_
  rintro e w3 ⟨rfl, hb3⟩
  have hbD : Below (w2.alloc (Obj.cells #[.int .i64 0, .int .i64 0] 34)).heap.size (w2.alloc (Obj.cells #[.int .i64 0, .int .i64 0] 34)) w3 := ((Below.refl _ _).alloc (Nat.le_refl _) _).trans (hb3.mono (by simp))
  clear hb3 hL2
  have hsC := hbC.size
  have hsD := hbD.size
  have hdE : (w3.alloc (Obj.cells #[.int .i64 1, .int .i64 1] 34)).heap[w3.heap.size]? = some (.cells #[.int .i64 1, .int .i64 1] 34 (0, 0)) := World.alloc_heap_new w3 _
  have hbE : Below w3.heap.size w3 (w3.alloc (Obj.cells #[.int .i64 1, .int .i64 1] 34)) := (Below.refl _ _).alloc (Nat.le_refl _) _
  have h1E := bthen (bthen (bthen (bthen (bthen (Below.refl w1.heap.size w1) (Nat.le_refl _) hbA) (Nat.le_refl _) hbB) (Nat.le_refl _) hbC) (Nat.le_refl _) hbD) (Nat.le_refl _) hbE
  have hAE := bthen (bthen (bthen hbB (Nat.le_refl _) hbC) (Nat.le_refl _) hbD) (Nat.le_refl _) hbE
  have hCE := bthen hbD (Nat.le_refl _) hbE
  have hbw := bthen hb1 (Nat.le_refl _) h1E
  have q1 := cellB h1E H1.out
  simp only [Addr.add_lit, Nat.zero_add] at q1
  obtain ⟨qa0, qa1, _, _⟩ := cells2 ((hAE.block _ hgA).trans hdA)
  obtain ⟨qc0, qc1, _, _⟩ := cells2 ((hCE.block _ hgC).trans hdC)
  obtain ⟨qe0, qe1, _, _⟩ := cells2 hdE
  clear hdA hdC hdE h1E hAE hCE hbA hbB hbC hbD hbE hsA hsB hsC hsD hgA hgC hb1
  have HBW := Lib.hid hbw
  have hsz : w3.heap.size ≤ (w3.alloc (Obj.cells #[.int .i64 1, .int .i64 1] 34)).heap.size := by simp
  clear hbw
  go_wp2_with fail
  refine (First_any ⟨#[97, 192, 128]⟩ _ (by decide)).mono ?_
  rintro e w4 ⟨rfl, hb4⟩
  rw [L2.out]
  go_wp2_with fail
  refine (First_any ⟨#[97]⟩ _ (by decide)).mono ?_
  rintro e w5 ⟨rfl, hb5⟩
  rw [L3.out]
  go_wp2_with fail
  refine (Count_any ⟨#[97, 195, 164]⟩ _ (by decide)).mono ?_
  rintro e w6 ⟨rfl, hb6⟩
  rw [L4.out]
  go_wp2_with fail
  refine (Count_any ⟨#[255]⟩ _ (by decide)).mono ?_
  rintro e w7 ⟨rfl, hb7⟩
  rw [L5.out]
  go_wp2_with fail
  refine (Check_any ⟨#[97, 98]⟩ 1 _ (by decide)).mono ?_
  rintro e w8 ⟨rfl, hb8⟩
  rw [L6.out]
  go_wp2_with fail
  refine (Check_any ⟨#[255]⟩ 1 _ (by decide)).mono ?_
  rintro e w9 ⟨rfl, hb9⟩
  rw [L7.out]
  go_wp2_with fail
  refine (Plain_any ⟨#[97, 32, 98]⟩ _ (by decide)).mono ?_
  rintro e w' ⟨rfl, rfl⟩
  rw [L8.out]
  go_wp2_with fail
  refine (Plain_any ⟨#[97, 10]⟩ _ (by decide)).mono ?_
  rintro e w' ⟨rfl, rfl⟩
  rw [L9.out]
  go_wp2
  go_ret
  exact ⟨rfl, bthen (bthen (bthen (bthen (bthen (bthen HBW.out (Nat.le_refl _) hb4) (Nat.le_refl _) hb5) (Nat.le_refl _) hb6) (Nat.le_refl _) hb7) (Nat.le_refl _) hb8) (Nat.le_refl _) hb9⟩
end Go.Proofs.Ytigeedaihbpjiaa
