/-
  varint: the laws' walks.
-/
import Derived.Test.YtkaadkjbimaodaaVg
import Derived.Test.YtkaadkjbimaodaaPw
namespace Go.Proofs.Ytkaadkjbimaodaa
open Go.RowKit

set_option maxRecDepth 100000 in
set_option maxHeartbeats 400000 in
theorem VarintZigs_any (n : Int) (u : Nat) (w : World) (h1 : -9223372036854775808 ≤ n) (h2 : n ≤ 9223372036854775807) (hu : u < 18446744073709551616) :
    Calls Try.prog 9 #[.int .i64 n, .int .u64 u] w fun e w' => e = .returned (.bool true) ∧ Below w.heap.size w w' := by
  have hz := zigN_range n h1 h2
  obtain ⟨z, hzz⟩ : ∃ z : Nat, zigN n = z := ⟨(zigN n).toNat, by omega⟩
  have hzag : zagN z = n := by have := zag_zig n h1 h2; rw [hzz] at this; simpa using this
  have hzr := zagN_range u hu
  have hzu := zig_zag u
  have HN := Lib.hid hzz
  have HA := Lib.hid hzag
  have HU := Lib.hid hzu
  have hzl : z < 18446744073709551616 := by omega
  clear hzz hzag hzu hz
  go_enter Try.func9, Try.ntmps9
  go_wp2_with fail
  refine (live_any _).mono ?_
  rintro e w1 ⟨rfl, hb1⟩
  go_wp2_with fail
  refine (Zig_any n _ h1 h2).mono ?_
  rintro e w' ⟨rfl, rfl⟩
  rw [HN.out]
  go_wp2_with fail
  refine (rZig_any n _ h1 h2).mono ?_
  rintro e w' ⟨rfl, rfl⟩
  rw [HN.out]
  go_wp2_with fail
  refine (Zag_any z _ hzl).mono ?_
  rintro e w' ⟨rfl, rfl⟩
  rw [HA.out]
  go_wp2_with fail
  refine (Zag_any u _ hu).mono ?_
  rintro e w' ⟨rfl, rfl⟩
  go_wp2_with fail
  refine (Zig_any _ _ hzr.1 hzr.2).mono ?_
  rintro e w' ⟨rfl, rfl⟩
  rw [HU.out]
  go_wp2
  go_ret
  exact ⟨rfl, hb1⟩

set_option maxRecDepth 100000 in
set_option maxHeartbeats 400000 in
theorem VarintWrites_any (n : Nat) (w : World) (hn : n < 18446744073709551616) :
    Calls Try.prog 6 #[.int .u64 n] w fun e w' => e = .returned (.bool true) ∧ Below w.heap.size w w' := by
  go_enter Try.func6, Try.ntmps6
  go_wp2_with fail
  refine (live_any _).mono ?_
  rintro e w1 ⟨rfl, hb1⟩
  go_wp2_with fail
  refine (Put_any n _ hn).mono ?_
  rintro e w2 ⟨v2, rfl, ho2, hb2⟩
  have HR2 := Lib.hid (RdS.of_owns ho2)
  obtain ⟨_, a2, c2, rfl, _⟩ := RdS.of_owns ho2
  clear ho2
  go_wp2_with fail
  refine (rPut_any n _ hn).mono ?_
  rintro e w3 ⟨v3, rfl, ho3, hb3⟩
  go_wp2_with fail
  refine (Same_true _ _ (putL 9 n) _ (HR2.out.below hb3) (RdS.of_owns ho3)).mono ?_
  rintro e w4 ⟨rfl, hb4⟩
  go_wp2_with fail
  refine (Size_any n _ hn).mono ?_
  rintro e w5 ⟨rfl, hb5⟩
  have h1 := hb1.size; have h2 := hb2.size; have h3 := hb3.size; have h4 := hb4.size
  clear ho3
  go_wp2
  go_ret
  exact ⟨rfl, bthen (bthen (bthen (bthen hb1 (Nat.le_refl _) hb2) (Nat.le_refl _) hb3) (Nat.le_refl _) hb4) (Nat.le_refl _) hb5⟩

set_option maxRecDepth 100000 in
set_option maxHeartbeats 400000 in
theorem VarintReads_any (bs : List Nat) (v : Value) (w : World) (hb : AllLt 256 bs) (hr : RdS w v 1 bs.length (u8s bs)) :
    Calls Try.prog 7 #[v] w fun e w' => e = .returned (.bool true) ∧ Below w.heap.size w w' := by
  have hbd := getGo_bound bs hb 0 0 (by omega) (by omega)
  rw [show getGo 0 0 bs = getL bs from rfl] at hbd
  have hs : shortB bs = decide ((getL bs).2.2 = 0 ∧ (getL bs).2.1 = (putL 9 (getL bs).1).length) := rfl
  have HG := fun w' h => Lib.hid (Get_any bs v w' hb h)
  have HG' := fun w' h => Lib.hid (rGet_any bs v w' hb h)
  have HSh := fun w' h => Lib.hid (Short_any bs v w' hb h)
  have HP := fun w' => Lib.hid (rPut_any (getL bs).1 w' hbd.1)
  have hpl := putL_len 9 (getL bs).1
  generalize shortB bs = sb at *
  generalize getL bs = r at *
  obtain ⟨n, k, e⟩ := r
  dsimp only [tup3] at *
  generalize hpp : putL 9 n = pp at *
  clear hpp
  have HR := Lib.hid hr
  have HS := Lib.hid hs
  have HB := Lib.hid hbd
  clear hr hs hbd hb
  by_cases he : e = 0
  · subst he
    obtain ⟨c, hc, hsb⟩ : ∃ c : Bool, ((pp.length : Int) == (k : Int)) = c ∧ sb = c := by
      refine ⟨_, rfl, ?_⟩
      rw [HS.out, Bool.eq_iff_iff]; simp; omega
    have HC := Lib.hid hc
    clear hc
    subst hsb
    go_enter Try.func7, Try.ntmps7
    go_wp2_with fail
    refine (live_any _).mono ?_
    rintro e w1 ⟨rfl, hb1⟩
    go_wp2_with fail
    refine ((HG _ (HR.out.below hb1)).out).mono ?_
    rintro e w' ⟨rfl, rfl⟩
    go_wp2_with fail
    refine ((HG' _ (HR.out.below hb1)).out).mono ?_
    rintro e w' ⟨rfl, rfl⟩
    go_wp2_with fail
    refine ((HSh _ (HR.out.below hb1)).out).mono ?_
    rintro e w2 ⟨rfl, hb2⟩
    go_wp2_with fail
    refine ((HP _).out).mono ?_
    rintro e w3 ⟨v3, rfl, ho3, hb3⟩
    have HR3 := Lib.hid (RdS.of_owns ho3)
    obtain ⟨_, a3, c3, rfl, _⟩ := RdS.of_owns ho3
    clear ho3
    have hc := HC.out
    go_wp2
    go_ret
    exact ⟨by simp, bthen (bthen hb1 (Nat.le_refl _) hb2) (Nat.le_refl _) hb3⟩
  · have hsb : sb = false := by rw [HS.out]; simp [he]
    have hee : ((e : Int) == 0) = false := by simp; omega
    clear HS
    subst hsb
    go_enter Try.func7, Try.ntmps7
    go_wp2_with fail
    refine (live_any _).mono ?_
    rintro e w1 ⟨rfl, hb1⟩
    go_wp2_with fail
    refine ((HG _ (HR.out.below hb1)).out).mono ?_
    rintro e w' ⟨rfl, rfl⟩
    go_wp2_with fail
    refine ((HG' _ (HR.out.below hb1)).out).mono ?_
    rintro e w' ⟨rfl, rfl⟩
    go_wp2_with fail
    refine ((HSh _ (HR.out.below hb1)).out).mono ?_
    rintro e w2 ⟨rfl, hb2⟩
    go_wp2
    go_ret
    exact ⟨by simp, bthen hb1 (Nat.le_refl _) hb2⟩
end Go.Proofs.Ytkaadkjbimaodaa
