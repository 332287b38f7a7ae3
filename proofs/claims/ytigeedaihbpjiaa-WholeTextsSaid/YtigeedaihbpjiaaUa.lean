/-
  utf: taken, First, Runes, Count, Check, Plain: contracts.
-/
import Derived.Test.YtigeedaihbpjiaaPu
import Derived.Test.YtigeedaihbpjiaaVf
import Derived.Lib.Strings
import Derived.Lib.Slices
import Derived.Lib.Walk
import Derived.Lib.IndexBytes
import Derived.Lib.OthersKept
namespace Go.Proofs.Ytigeedaihbpjiaa
open Go.RowKit

theorem HasPrefix_any (s p : ByteArray) (w : World) :
    Calls Try.prog 100 #[.string s, .string p] w fun e w' => e = .returned (.bool (Lib.hasPrefix s.data.toList p.data.toList)) ∧ w = w' := by
  rw [← Lib.hasPrefix_of_take, ← Lib.size_eq, ← Lib.size_eq]
  go_enter Try.func100, Try.ntmps100
  go_wp2
  · rename_i h
    go_ret
    refine ⟨?_, rfl⟩
    show Ending.returned (Value.bool ((s.extract 0 p.size).toList == p.toList)) = _
    rw [Lib.extract_toList, Lib.toList_data]
    simp [h]
  · rename_i h
    go_ret
    refine ⟨?_, rfl⟩
    show Ending.returned (Value.bool false) = _
    simp [h]

theorem bsN_enc {c : Nat} (h : validN c) : bsN (Utf8.encode (c : Int)) = encN c := by
  have hv : Utf8.valid (c : Int) = true := by
    unfold validN at h
    simp [Utf8.valid]; omega
  unfold Utf8.encode
  rw [if_pos hv, Int.toNat_natCast]
  unfold validN at h
  unfold encN bsN
  dsimp only
  split
  · simp; omega
  · split
    · simp; omega
    · split
      · simp; omega
      · simp; omega
theorem enc_size {c : Nat} (h : validN c) : (Utf8.encode (c : Int)).size = (encN c).length := by rw [← bsN_enc h, bsN_len]

def takN (l : List Nat) : Nat := if badL l then 0 else (decH l).2
theorem takN_bad {l : List Nat} (h : badL l = true) : takN l = 0 := by unfold takN; rw [if_pos h]
theorem takN_ok {l : List Nat} (h : badL l = false) : takN l = (decH l).2 := by unfold takN; rw [h]; rfl

theorem nat_prefix {a b : List UInt8} : b.isPrefixOf a = (b.map UInt8.toNat).isPrefixOf (a.map UInt8.toNat) := by
  induction b generalizing a with
  | nil => simp
  | cons x b ih =>
    cases a with
    | nil => simp
    | cons y a =>
      simp only [List.isPrefixOf, List.map_cons, ih]
      congr 1
      rw [Bool.eq_iff_iff]; simp [UInt8.toNat_inj]
theorem wrong_prefix {s : ByteArray} {p : Nat} (hp : p < s.size) (h : (decH ((bsN s).drop p)).1 = 65533) :
    Lib.hasPrefix (s.extract p s.size).data.toList [239, 191, 189] = !badL ((bsN s).drop p) ∧ (badL ((bsN s).drop p) = false → (decH ((bsN s).drop p)).2 = 3) := by
  have hne : (bsN s).drop p ≠ [] := by
    intro e; have := congrArg List.length e; simp [bsN_len] at this; omega
  have hb : AllLt 256 ((bsN s).drop p) := fun b hb => bsN_lt s b (List.mem_of_mem_drop hb)
  have e1 : Lib.hasPrefix (s.extract p s.size).data.toList [239, 191, 189] = [239, 191, 189].isPrefixOf ((bsN s).drop p) := by
    unfold Lib.hasPrefix
    rw [Lib.extract_to_end, nat_prefix, List.map_drop]; rfl
  rw [e1]
  have henc : encN 65533 = [239, 191, 189] := by decide
  cases hg : badL ((bsN s).drop p) with
  | true =>
    refine ⟨?_, by simp⟩
    show _ = false
    rw [Bool.eq_false_iff]
    intro hpre
    obtain ⟨t, ht⟩ := List.isPrefixOf_iff_prefix.1 hpre
    have := (enc_decH (c := 65533) (by unfold validN; omega) t).2
    rw [henc, ht, hg] at this
    cases this
  | false =>
    have h1 := decH_enc hne hb hg
    rw [h, henc] at h1
    have hf := decH_facts hne
    have h2 := congrArg List.length h1
    rw [List.length_take, Nat.min_eq_left hf.2.2.1] at h2
    refine ⟨?_, fun _ => h2.symm⟩
    show _ = true
    rw [List.isPrefixOf_iff_prefix, h1]
    exact List.take_prefix _ _

set_option maxRecDepth 100000 in
theorem taken_any (s : ByteArray) (p : Nat) (w : World) (hp : p < s.size) (hs : s.size ≤ 9223372036854775807) :
    Calls Try.prog 78 #[.string s, .int .i64 p, .int .i32 (decH ((bsN s).drop p)).1] w fun e w' => e = .returned (.int .i64 (takN ((bsN s).drop p))) ∧ w = w' := by
  have hne : (bsN s).drop p ≠ [] := by
    intro e; have := congrArg List.length e; simp [bsN_len] at this; omega
  have hf := decH_facts hne
  have hb : AllLt 256 ((bsN s).drop p) := fun b hb => bsN_lt s b (List.mem_of_mem_drop hb)
  by_cases hr : (decH ((bsN s).drop p)).1 = 65533
  · obtain ⟨h1, h2⟩ := wrong_prefix hp hr
    have H1 := Lib.hid h1
    rw [hr]
    cases hg : badL ((bsN s).drop p) with
    | true =>
      have HT := Lib.hid (takN_bad hg)
      rw [hg] at H1
      clear h1 h2 hg hr hf hb hne
      go_enter Try.func78, Try.ntmps78
      go_wp2_with fail
      refine (HasPrefix_any _ _ _).mono ?_
      rintro e w' ⟨rfl, rfl⟩
      rw [H1.out]
      go_wp2
      go_ret
      exact ⟨by rw [HT.out]; rfl, rfl⟩
    | false =>
      have HT := Lib.hid (takN_ok hg)
      rw [h2 hg] at HT
      rw [hg] at H1
      clear h1 h2 hg hr hf hb hne
      go_enter Try.func78, Try.ntmps78
      go_wp2_with fail
      refine (HasPrefix_any _ _ _).mono ?_
      rintro e w' ⟨rfl, rfl⟩
      rw [H1.out]
      go_wp2
      go_ret
      exact ⟨by rw [HT.out]; rfl, rfl⟩
  · have hg : badL ((bsN s).drop p) = false := by
      unfold badL; simp; intro e; rw [e] at hr; exact absurd rfl hr
    have HT := Lib.hid (takN_ok hg)
    have h1 := decH_enc hne hb hg
    have h2 := congrArg List.length h1
    rw [List.length_take, Nat.min_eq_left hf.2.2.1, ← enc_size hf.2.2.2] at h2
    have HZ := Lib.hid h2
    clear h1 h2 hg hb hne
    generalize (decH ((bsN s).drop p)).1 = r at *
    have hn1 : ((r : Int) == 65533) = false := by simp; omega
    have hn2 : ((r : Int) != 65533) = true := by simp; omega
    clear hr
    go_enter Try.func78, Try.ntmps78
    go_wp2
    go_ret
    exact ⟨by rw [HT.out, ← HZ.out]; rfl, rfl⟩

set_option maxRecDepth 100000 in
theorem First_any (s : ByteArray) (w : World) (hs : s.size ≤ 9223372036854775807) :
    Calls Try.prog 32 #[.string s] w fun e w' => e = .returned (.int .i64 (firstX 0 (bsN s))) ∧ Below w.heap.size w w' := by
  go_enter Try.func32, Try.ntmps32
  go_wp2
  go_loopw [] (fun wr => ∃ pos : Nat, pos ≤ s.size ∧ wr.heap[w.heap.size]? = some (.stringIter s pos) ∧ Hid (firstX 0 (bsN s) = firstX pos ((bsN s).drop pos)) ∧ Below w.heap.size w wr) (fun wr => s.size - wr.iterPos w.heap.size)
  case atStart =>
    exact ⟨0, by omega, World.iter_heap w s 0, Lib.hid (by simp), (Below.refl _ w).alloc (Nat.le_refl _) _⟩
  case round =>
    obtain ⟨pos, hp, hit, HL, hb⟩ := hrel
    have HIT := Lib.hid hit
    by_cases hlt : pos < s.size
    · have hne : (bsN s).drop pos ≠ [] := by
        intro e; have := congrArg List.length e; simp [bsN_len] at this; omega
      have hf := decH_facts hne
      have hlen : (decH ((bsN s).drop pos)).2 ≤ s.size - pos := by have := hf.2.2.1; simpa [bsN_len] using this
      have hf1 := hf.1
      have hnx : ∀ ty, (Instr.next (.pointer (some ⟨w.heap.size, 0, none⟩)) true ty).run Try.prog wr = .ok (.tuple #[.bool true, .int .i64 pos, .int .i32 (decH ((bsN s).drop pos)).1]) (wr.iterAt w.heap.size s (pos + (decH ((bsN s).drop pos)).2)) := fun ty => by
        rw [Lib.run_next_any_at wr w.heap.size s pos ty hit hlt, decode_list]
      have HT := Lib.hid (fun w' => taken_any s pos w' hlt hs)
      have hit2 := Lib.iterAt_heap wr w.heap.size s pos (pos + (decH ((bsN s).drop pos)).2) hit
      have hb2 := Lib.below_iterAt hb (k := w.heap.size) (Nat.le_refl _) s (pos + (decH ((bsN s).drop pos)).2)
      have HIT2 := Lib.hid hit2
      cases hg : badL ((bsN s).drop pos) with
      | true =>
        have HF := Lib.hid (firstX_bad (p := pos) hne hg)
        rw [takN_bad hg] at HT
        clear hne hf hit hit2 hg
        generalize decH ((bsN s).drop pos) = d at *
        obtain ⟨r, wd⟩ := d
        dsimp only at *
        go_wp2_with (go_at_call 78; refine (HT.out _).mono ?_; rintro e w' ⟨rfl, rfl⟩)
        go_ret
        exact ⟨by rw [HL.out, HF.out]; rfl, hb2⟩
      | false =>
        have HF := Lib.hid (firstX_step (p := pos) hne hg)
        rw [takN_ok hg] at HT
        have hdd : ((bsN s).drop pos).drop (decH ((bsN s).drop pos)).2 = (bsN s).drop (pos + (decH ((bsN s).drop pos)).2) := List.drop_drop
        rw [hdd] at HF
        clear hne hf hit hit2 hg hdd
        generalize decH ((bsN s).drop pos) = d at *
        obtain ⟨r, wd⟩ := d
        dsimp only at *
        have hw0 : ((wd : Int) == 0) = false := by simp; omega
        go_wp2_with (go_at_call 78; refine (HT.out _).mono ?_; rintro e w' ⟨rfl, rfl⟩)
        go_roundw
        case rel => exact ⟨pos + wd, by omega, HIT2.out, Lib.hid (by rw [HL.out, HF.out]), hb2⟩
        case measure => simp only [World.iterPos, HIT2.out, HIT.out]; omega
    · have hnx : ∀ ty, (Instr.next (.pointer (some ⟨w.heap.size, 0, none⟩)) true ty).run Try.prog wr = _ := fun ty => Lib.run_next_end_at wr w.heap.size s pos ty hit hlt
      have HE : Hid (firstX pos ((bsN s).drop pos) = -1) := Lib.hid (by rw [List.drop_of_length_le (by rw [bsN_len]; omega)]; rfl)
      clear hit
      go_wp2
      go_ret
      exact ⟨by rw [HL.out, HE.out]; rfl, hb⟩
end Go.Proofs.Ytigeedaihbpjiaa
