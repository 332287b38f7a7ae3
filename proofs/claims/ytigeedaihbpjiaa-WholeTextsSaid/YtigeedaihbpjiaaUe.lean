/-
  utf: gaps, is, Text; the reference's Bytes: contracts.
-/
import Derived.Test.YtigeedaihbpjiaaUd
import Derived.Test.YtigeedaihbpjiaaSb
namespace Go.Proofs.Ytigeedaihbpjiaa
open Go.RowKit

set_option maxRecDepth 100000 in
theorem gaps_any (w : World) :
    Calls Try.prog 101 #[] w fun e w' => e = .returned (.agg #[.int .i32 55296, .int .i32 57343, .int .i32 1114112, .int .i32 2147483647]) ∧ Below w.heap.size w w' := by
  go_enter Try.func101, Try.ntmps101
  go_wp2
  refine bodyPost_ret (v := .agg #[.int .i32 55296, .int .i32 57343, .int .i32 1114112, .int .i32 2147483647]) (by simp [results, Try.results101, go_sem]) rfl ⟨rfl, (Below.refl _ w).alloc (Nat.le_refl _) _⟩

set_option maxRecDepth 100000 in
set_option maxHeartbeats 400000 in
theorem is_any (n : Int) (w : World) (h1 : -2147483648 ≤ n) (h2 : n ≤ 2147483647) :
    Calls Try.prog 79 #[.int .i32 n] w fun e w' => e = .returned (.bool (validI n)) ∧ Below w.heap.size w w' := by
  by_cases h0 : n < 0
  · have hv : validI n = false := by unfold validI; simp; omega
    rw [hv]
    have d0 : decide (n < 0) = true := by simpa using h0
    clear hv
    go_enter Try.func79, Try.ntmps79
    go_wp2
    go_ret
    exact ⟨rfl, Below.refl _ _⟩
  · have d0 : decide (n < 0) = false := by simpa using h0
    have i0 : ∀ w, (Instr.index 151 (.agg #[.int .i32 55296, .int .i32 57343, .int .i32 1114112, .int .i32 2147483647]) (.int .i64 0)).run Try.prog w = .ok (.agg #[.int .i32 55296, .int .i32 57343]) w := fun _ => by kernel_rfl
    have i1 : ∀ w, (Instr.index 151 (.agg #[.int .i32 55296, .int .i32 57343, .int .i32 1114112, .int .i32 2147483647]) (.int .i64 1)).run Try.prog w = .ok (.agg #[.int .i32 1114112, .int .i32 2147483647]) w := fun _ => by kernel_rfl
    have HV : Hid (validI n = decide ((n < 55296 ∨ 57343 < n) ∧ n < 1114112)) := Lib.hid (by unfold validI; rw [decide_eq_decide]; omega)
    go_enter Try.func79, Try.ntmps79
    go_wp2_with fail
    refine (gaps_any _).mono ?_
    rintro e w1 ⟨rfl, hb1⟩
    go_wp2
    go_loopw [8] (fun i wr => Below w.heap.size w wr ∧ (i = .int .i64 0 ∨ (i = .int .i64 1 ∧ (n < 55296 ∨ 57343 < n)) ∨ (i = .int .i64 2 ∧ (n < 55296 ∨ 57343 < n) ∧ n < 1114112))) (fun i _ => 2 - (intOf i).toNat)
    case atStart => exact ⟨hb1, .inl rfl⟩
    case round =>
      obtain ⟨hb, hi⟩ := hrel
      have hsz := hb.size
      rcases hi with rfl | ⟨rfl, hn⟩ | ⟨rfl, hn, hn2⟩
      · rcases (show n < 55296 ∨ (55296 ≤ n ∧ n ≤ 57343) ∨ 57343 < n by omega) with h | h | h
        · have d1 : decide (55296 ≤ n) = false := by simp; omega
          go_wp2
          go_roundw
          case rel => exact ⟨hb.alloc hsz _, .inr (.inl ⟨rfl, .inl h⟩)⟩
          case measure => simp [intOf]
        · have d1 : decide (55296 ≤ n) = true := by simp; omega
          have d2 : decide (n ≤ 57343) = true := by simp; omega
          go_wp2
          go_ret
          exact ⟨by rw [HV.out]; simp; omega, hb.alloc hsz _⟩
        · have d1 : decide (55296 ≤ n) = true := by simp; omega
          have d2 : decide (n ≤ 57343) = false := by simp; omega
          go_wp2
          go_roundw
          case rel => exact ⟨hb.alloc hsz _, .inr (.inl ⟨rfl, .inr h⟩)⟩
          case measure => simp [intOf]
      · rcases (show n < 1114112 ∨ 1114112 ≤ n by omega) with h | h
        · have d1 : decide (1114112 ≤ n) = false := by simp; omega
          go_wp2
          go_roundw
          case rel => exact ⟨hb.alloc hsz _, .inr (.inr ⟨rfl, hn, h⟩)⟩
          case measure => simp [intOf]
        · have d1 : decide (1114112 ≤ n) = true := by simp; omega
          have d2 : decide (n ≤ 2147483647) = true := by simp; omega
          go_wp2
          go_ret
          exact ⟨by rw [HV.out]; simp; omega, hb.alloc hsz _⟩
      · go_wp2
        go_ret
        exact ⟨by rw [HV.out]; simp; omega, hb⟩

theorem encodeI {n : Int} (h : validI n = true) : bsN (Utf8.encode n) = encN n.toNat := by
  have h' := h
  unfold validI at h
  simp at h
  obtain ⟨c, rfl⟩ : ∃ c : Nat, n = c := ⟨n.toNat, by omega⟩
  rw [bsN_enc ((validI_nat c).1 h')]; simp
theorem builder_below {T e : TypeId} {B b : Nat} {bs : List Value} {w w' : World} (h : Lib.IsBuilder T e B b bs w) (hb : Below w.heap.size w w') : Lib.IsBuilder T e B b bs w' := by
  rcases h with ⟨h1, v, h2, h3, h4⟩ | ⟨h1, v, h2, h3, h4⟩
  · exact .inl ⟨h1, v, (hb.block b (Array.getElem?_eq_some_iff.1 h2).1).trans h2, ownsB h3 hb, h4⟩
  · exact .inr ⟨h1, v, (hb.block b (Array.getElem?_eq_some_iff.1 h2).1).trans h2, ownsB h3 hb, h4⟩
/-- The text of numbers. -/
def textI (l : List Int) : List Nat := textN (l.map Int.toNat)
theorem textI_snoc (l : List Int) (n : Int) : textI (l ++ [n]) = textI l ++ encN n.toNat := by simp [textI, textN]
theorem textI_len (l : List Int) : (textI l).length ≤ 4 * l.length := by have := textN_len (l.map Int.toNat); simpa [textI] using this
theorem bytes_size (s : ByteArray) : s.data.toList.length = s.size := by simp
theorem strCells_bytes (s : ByteArray) : Lib.strCells s = Lib.byteCells s.data.toList := rfl
theorem bsN_mk (l : List UInt8) : bsN ⟨l.toArray⟩ = l.map UInt8.toNat := by simp [bsN]
def TextPost (l : List Int) (s : ByteArray) (c p : Int) : Prop :=
  (c = 0 ∧ p = 0 ∧ (∀ n ∈ l, validI n = true) ∧ bsN s = textI l) ∨
  (c = 1 ∧ s = ⟨#[]⟩ ∧ ∃ i : Nat, p = i ∧ i < l.length ∧ validI (l[i]?.getD 0) = false ∧ ∀ j, j < i → validI (l[j]?.getD 0) = true)
theorem all_of_getD {l : List Int} (h : ∀ j, j < l.length → validI (l[j]?.getD 0) = true) : ∀ n ∈ l, validI n = true := by
  intro n hn
  obtain ⟨j, hj, rfl⟩ := List.getElem_of_mem hn
  have := h j hj
  simpa [hj] using this

set_option maxRecDepth 100000 in
set_option maxHeartbeats 400000 in
theorem Text_any (l : List Int) (v : Value) (w : World) (hw : ∀ n ∈ l, -2147483648 ≤ n ∧ n ≤ 2147483647) (hl : l.length ≤ 1048576) (hr : RdS w v 1 l.length (ints .i32 l)) :
    Calls Try.prog 37 #[v] w fun e w' => ∃ s c p, e = .returned (.tuple #[.string s, .agg #[.int .i64 c, .int .i64 p]]) ∧ TextPost l s c p ∧ Below w.heap.size w w' := by
  have HR := Lib.hid hr
  obtain ⟨a, cap, rfl⟩ := hr.form
  have HW := Lib.hid hw
  clear hr hw
  go_enter Try.func37, Try.ntmps37
  go_wp2
  go_loopw [9] (fun i wr => ∃ (k : Nat) (acc : List UInt8), k ≤ l.length ∧ i = .int .i64 k ∧ Lib.IsBuilder 125 5 (w.heap.size + 1) (w.heap.size + 1) (Lib.byteCells acc) wr ∧ acc.length ≤ 4 * k ∧ Hid (acc.map UInt8.toNat = textI (l.take k)) ∧ Hid (∀ j, j < k → validI (l[j]?.getD 0) = true) ∧ Below w.heap.size w wr ∧ w.heap.size + 1 < wr.heap.size ∧ Hid (wr.heap[w.heap.size]? = some (.cells #[.int .i64 0, .int .i64 0] 34 (0, 0)))) (fun i _ => l.length - (intOf i).toNat)
  case atStart =>
    refine ⟨0, [], by omega, rfl, ?_, by simp, Lib.hid (by simp [textI, textN]), Lib.hid (fun j hj => by omega), ((Below.refl _ w).alloc (Nat.le_refl _) _).alloc (by simp) _, by simp, Lib.hid ?_⟩
    · have := Lib.fresh_isBuilder 125 5 (w.alloc (.cells #[.int .i64 0, .int .i64 0] 34))
      rw [World.size_alloc] at this
      exact this
    · exact (Below.heap_alloc _ _ _ (by simp)).trans (World.alloc_heap_new w _)
  case round =>
    obtain ⟨k, acc, hk, rfl, hI, hal, HT, HV, hb, hsz, HB⟩ := hrel
    by_cases hlt : k < l.length
    · rcases (HR.out.below (hb.mono (Nat.le_refl _))).cases (by decide) with ⟨h0, _⟩ | ⟨hn, _, g, off, cap', hq, h1, h2, h3⟩
      · omega
      · obtain ⟨rfl, rfl⟩ : a = some ⟨g, off, none⟩ ∧ cap = cap' := by injection hq with q1 q2 q3; exact ⟨q1, q3⟩
        have hcell := h3 k _ (ints_get' .i32 l k hlt)
        have hwn : -2147483648 ≤ l[k]?.getD 0 ∧ l[k]?.getD 0 ≤ 2147483647 := by
          have := HW.out l[k] (List.getElem_mem hlt)
          simpa [hlt] using this
        have HTK : Hid (l.take (k + 1) = l.take k ++ [l[k]?.getD 0]) := Lib.hid (by rw [List.take_succ_eq_append_getElem hlt]; simp [hlt])
        have HIS := Lib.hid (fun w' => is_any (l[k]?.getD 0) w' hwn.1 hwn.2)
        have HK : Hid (k < l.length → validI (l[k]?.getD 0) = false → TextPost l ⟨#[]⟩ 1 k) := Lib.hid (fun h1 h2 => .inr ⟨rfl, rfl, k, rfl, h1, h2, HV.out⟩)
        have HV2 : Hid (validI (l[k]?.getD 0) = true → ∀ j, j < k + 1 → validI (l[j]?.getD 0) = true) := Lib.hid (fun h j hj => by
          rcases Nat.lt_or_ge j k with h' | h'
          · exact HV.out j h'
          · rw [show j = k by omega]; exact h)
        generalize l[k]?.getD 0 = n at *
        have hlt' : (k : Int) < l.length := by omega
        clear h3 hq
        cases hv : validI n with
        | false =>
          rw [hv] at HIS
          have HP := Lib.hid (HK.out hlt hv)
          clear hv HK HV2
          go_wp2_with fail
          refine (HIS.out _).mono ?_
          rintro e w1 ⟨rfl, hb1⟩
          have HB1 : Hid (w1.heap[w.heap.size]? = some (.cells #[.int .i64 0, .int .i64 0] 34 (0, 0))) := Lib.hid ((hb1.block _ (by omega)).trans HB.out)
          obtain ⟨q0, q1, q2, q3⟩ := cells2 HB1.out
          have hbw := bthen hb (Nat.le_refl _) hb1
          go_wp2
          have hs2 := cells2 (set2 (.int .i64 1) (.int .i64 k) HB1.out)
          obtain ⟨q0, q1, _, _⟩ := hs2
          refine bodyPost_ret (v := .tuple #[.string ⟨#[]⟩, .agg #[.int .i64 1, .int .i64 k]]) (by simp [results, Try.results37, go_sem, q0, q1]) rfl ?_
          exact ⟨_, _, _, rfl, HP.out, (hbw.setCell (p := ⟨w.heap.size, 0, none⟩) (Nat.le_refl _) _).setCell (p := ⟨w.heap.size, 1, none⟩) (Nat.le_refl _) _⟩
        | true =>
          rw [hv] at HIS
          have HE := Lib.hid (encodeI hv)
          have HV3 := Lib.hid (HV2.out hv)
          have hel : (Utf8.encode n).size ≤ 4 := by
            rw [← bsN_len, HE.out]; exact (encN_len _).2
          clear hv HK HV2
          go_wp2_with fail
          refine (HIS.out _).mono ?_
          rintro e w1 ⟨rfl, hb1⟩
          have HB1 : Hid (w1.heap[w.heap.size]? = some (.cells #[.int .i64 0, .int .i64 0] 34 (0, 0))) := Lib.hid ((hb1.block _ (by omega)).trans HB.out)
          have hI1 := builder_below hI hb1
          have hsz1 := hb1.size
          have hbw := bthen hb (Nat.le_refl _) hb1
          go_wp2_with fail
          refine (WriteString_any (w.heap.size + 1) (w.heap.size + 1) _ _ _ hI1 (by rw [Lib.byteCells_length]; omega) (by omega)).mono ?_
          rintro e w2 ⟨rfl, hI2, hb2⟩
          have hsz2 := hb2.size
          have HB2 : Hid (w2.heap[w.heap.size]? = some (.cells #[.int .i64 0, .int .i64 0] 34 (0, 0))) := Lib.hid ((hb2.block _ (by omega)).trans HB1.out)
          go_wp2
          go_roundw
          case rel => exact ⟨k + 1, acc ++ (Utf8.encode n).data.toList, by omega, by go_num, by rw [Lib.byteCells_append]; exact hI2, by rw [List.length_append, bytes_size]; omega, Lib.hid (by rw [HTK.out, textI_snoc, List.map_append, HT.out, ← HE.out]; rfl), HV3, hbw.trans (hb2.mono (by omega)), by omega, HB2⟩
          case measure => simp [intOf]; omega
    · have hkl : k = l.length := by omega
      have HTL : Hid (acc.map UInt8.toNat = textI l) := Lib.hid (by rw [HT.out, List.take_of_length_le (by omega)])
      have HP : Hid (TextPost l ⟨acc.toArray⟩ 0 0) := Lib.hid (.inl ⟨rfl, rfl, all_of_getD (by rw [← hkl]; exact HV.out), by rw [bsN_mk, HTL.out]⟩)
      clear hkl
      go_wp2_with fail
      refine (BString_any (w.heap.size + 1) (w.heap.size + 1) acc _ hI (by omega)).mono ?_
      rintro e w1 ⟨rfl, hb1⟩
      have HB1 : Hid (w1.heap[w.heap.size]? = some (.cells #[.int .i64 0, .int .i64 0] 34 (0, 0))) := Lib.hid ((hb1.block _ (by omega)).trans HB.out)
      obtain ⟨q0, q1, q2, q3⟩ := cells2 HB1.out
      have hbw := hb.trans (hb1.mono (by omega))
      go_wp2
      have hs2 := cells2 (set2 (.int .i64 0) (.int .i64 0) HB1.out)
      obtain ⟨q0, q1, _, _⟩ := hs2
      refine bodyPost_ret (v := .tuple #[.string ⟨acc.toArray⟩, .agg #[.int .i64 0, .int .i64 0]]) (by simp [results, Try.results37, go_sem, q0, q1]) rfl ?_
      exact ⟨_, _, _, rfl, HP.out, (hbw.setCell (p := ⟨w.heap.size, 0, none⟩) (Nat.le_refl _) _).setCell (p := ⟨w.heap.size, 1, none⟩) (Nat.le_refl _) _⟩
end Go.Proofs.Ytigeedaihbpjiaa
