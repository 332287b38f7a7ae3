/-
  varint: the law VarintBack's walk.
-/
import Derived.Test.YtkaadkjbimaodaaVh
import Derived.Deep.RegionHeld3
import Derived.Deep.DrawnRows
namespace Go.Proofs.Ytkaadkjbimaodaa
open Go.RowKit
attribute [local go_sem ↓] Go.wp_at_zero Go.wp_at_succ

theorem u8s_append (a b : List Nat) : u8s (a ++ b) = u8s a ++ u8s b := by simp [u8s]
theorem u64s_append (a b : List Nat) : u64s (a ++ b) = u64s a ++ u64s b := by simp [u64s]
theorem rds_take {w : World} {f : List Nat → List Value} (hf : ∀ (l : List Nat) (i : Nat), (f (l.take i)) = (f l).take i) (hfl : ∀ l, (f l).length = l.length) {bs : List Nat} {g off cap : Nat}
    (hc : ∀ i c, (f bs)[i]? = some c → w.cell? ⟨g, off + i, none⟩ = some c) (hcap : bs.length ≤ cap) (hm : cap ≤ 9223372036854775807) (a : Nat) (ha : a ≤ bs.length) :
    RdS w (.slice (some ⟨g, off, none⟩) a cap) 1 (bs.take a).length (f (bs.take a)) := by
  refine ⟨by simp [hfl], _, _, by rw [List.length_take, Nat.min_eq_left ha], by simp; omega, by unfold maxLen; omega, .inr ⟨g, off, rfl, fun i c hi => ?_⟩⟩
  rw [hf] at hi
  refine hc i c ?_
  rcases Nat.lt_or_ge i a with h | h
  · rwa [List.getElem?_take_of_lt h] at hi
  · rw [List.getElem?_take_eq_none h] at hi; cases hi
theorem u8s_take (l : List Nat) (i : Nat) : u8s (l.take i) = (u8s l).take i := by simp [u8s, List.map_take]

set_option maxRecDepth 100000 in
set_option maxHeartbeats 1000000 in
theorem VarintBack_any (n m : Nat) (bh : List Nat) (vb : Value) (bs : List Nat) (v : Value) (w : World) (hn : n < 18446744073709551616) (hm : m < 18446744073709551616) (hb : AllLt 256 bh) (hr : RdS w vb 1 bh.length (u8s bh)) (hb2 : AllLt 256 bs) (hr2 : RdS w v 1 bs.length (u8s bs)) :
    Calls Try.prog 8 #[.int .u64 n, .int .u64 m, vb, v] w fun e w' => e = .returned (.bool true) ∧ Below w.heap.size w w' := by
  obtain ⟨i0, hi, hz0, hz1, hz2⟩ := info_parts Try.info5
  have HRb := Lib.hid hr
  have HRv := Lib.hid hr2
  obtain ⟨ab, cb, rfl⟩ := hr.form
  clear hr hr2
  by_cases hbig : 1000 < bh.length
  · go_enter Try.func8, Try.ntmps8
    go_wp2_with fail
    refine (live_any _).mono ?_
    rintro e w1 ⟨rfl, hb1⟩
    go_wp2
    go_ret
    exact ⟨rfl, hb1⟩
  · have hpl := putL_len 9 n
    have HG := fun v' w' h => Lib.hid (Get_any (putL 9 n ++ bh) v' w' (fun x hx => (List.mem_append.1 hx).elim (putL9_all n hn x) (hb x)) h)
    rw [getL_put n hn bh] at HG
    dsimp only [tup3] at HG
    have HSh := fun v' w' h => Lib.hid (Short_any (putL 9 n) v' w' (putL9_all n hn) h)
    rw [show shortB (putL 9 n) = true from shortB_put n hn] at HSh
    have HP := fun w' => Lib.hid (Put_any n w' hn)
    have hpp := putL_pos 9 n
    have hmono : n ≤ m → (putL 9 n).length ≤ (putL 9 m).length := putL_mono 9 n m
    have HZ := fun w' => Lib.hid (Size_any m w' hm)
    have hbd := getGo_bound bs hb2 0 0 (by omega) (by omega)
    rw [show getGo 0 0 bs = getL bs from rfl] at hbd
    have HGv := fun w' h => Lib.hid (Get_any bs v w' hb2 h)
    have HSv := fun w' h => Lib.hid (Short_any bs v w' hb2 h)
    have HPv := fun w' => Lib.hid (Put_any (getL bs).1 w' hbd.1)
    have hst : shortB bs = true → (getL bs).2.2 = 0 ∧ putL 9 (getL bs).1 = bs.take (getL bs).2.1 ∧ (getL bs).2.1 ≤ bs.length := by
      intro h
      simp only [shortB, decide_eq_true_eq] at h
      exact ⟨h.1, short_take bs hb2 h.1 h.2⟩
    have hpos : (getL bs).2.2 = 0 → 1 ≤ (getL bs).2.1 := fun h => by have := getGo_pos bs 0 0 h; rw [show getGo 0 0 bs = getL bs from rfl] at this; omega
    generalize putL 9 n = pp at *
    generalize hgl : getL bs = r at *
    obtain ⟨nv, jv, ev⟩ := r
    dsimp only [tup3] at *
    generalize putL 9 nv = pv at *
    generalize shortB bs = sb at *
    have HST := Lib.hid hst
    have HP0 := Lib.hid hpos
    clear hpos
    clear hgl hst
    generalize (putL 9 m).length = jm at *
    go_enter Try.func8, Try.ntmps8
    go_wp2_with fail
    refine (live_any _).mono ?_
    rintro e w1 ⟨rfl, hb1⟩
    go_wp2_with fail
    refine (HP _).out.mono ?_
    rintro e w2 ⟨v2, rfl, ho2, hb2'⟩
    have HR2 := Lib.hid (RdS.of_owns ho2)
    have hbA := bthen hb1 (Nat.le_refl _) hb2'
    have HRb2 := Lib.hid (HRb.out.below hbA)
    obtain ⟨a2, c2, rfl⟩ := (RdS.of_owns ho2).form
    clear ho2
    have hmade := World.ownsRow_made (e := 5) (size := 1) (base := w2.heap.size) w2 #[] 0 (Nat.le_refl _) (by decide) rfl
    have HA2 := Lib.hid ((HR2.out.below ((Below.refl _ _).alloc (Nat.le_refl _) (.cells #[] 5))))
    go_wp2_with (first
      | (at_builtin; refine wpList_pushS rfl (.tmp 24) (.tmp 25) 41 rfl w2.heap.size 5 i0 (.int .u8 0) 1 1 Try.underlying41 hi hz0 hz1 hz2 rfl (by decide) _ _ _ rfl hmade _ pp.length (u8s pp) rfl HA2.out (u8s_one _) (by unfold maxLen; omega) (by omega) (by simp) ?_; go_must (intro v3 w3 hown3 hgrow3 hfr3; have hbB : Below w2.heap.size w2 w3 := ((Below.refl _ w2).alloc (Nat.le_refl _) _).grown hgrow3 (by simp) (fun j ej => (hmade.lt j ej).1); have hsz3 := hbB.size; have HB3 := Lib.hid (HRb2.out.below hbB)))
      | (at_builtin; refine wpList_pushS rfl (.tmp 26) (.tmp 27) 41 rfl w2.heap.size 5 i0 (.int .u8 0) 1 1 Try.underlying41 hi hz0 hz1 hz2 rfl (by decide) _ _ _ rfl hown3 _ bh.length (u8s bh) rfl HB3.out (u8s_one _) (by unfold maxLen; omega) (by omega) (by omega) ?_; go_must (intro v4 w4 hown4 hgrow4 hfr4; have hbC : Below w2.heap.size w2 w4 := hbB.grown hgrow4 hsz3 (fun j ej => (hown3.lt j ej).1))))
    have hr4 : RdS w4 v4 1 (pp ++ bh).length (u8s (pp ++ bh)) := by
      have := RdS.of_owns hown4
      simpa [u8s_append] using this
    refine (HG _ _ hr4).out.mono ?_
    rintro e w' ⟨rfl, rfl⟩
    have hbD : Below w2.heap.size w2 w4 := hbC
    have HR4 := Lib.hid (HR2.out.below hbC)
    have HV4 := Lib.hid (HRv.out.below (bthen hbA (Nat.le_refl _) hbC))
    have hbE : Below w.heap.size w w4 := bthen hbA (Nat.le_refl _) hbC
    clear hgrow3 hgrow4 hfr3 hfr4 hown3 hown4 hmade hr4 hbB hbC
    go_wp2_with fail
    refine (HSh _ _ HR4.out).out.mono ?_
    rintro e w5 ⟨rfl, hb5⟩
    have hbF := bthen hbE (Nat.le_refl _) hb5
    go_wp2_with fail
    refine (HSv _ (HRv.out.below hbF)).out.mono ?_
    rintro e w6 ⟨rfl, hb6⟩
    have hbG := bthen hbF (Nat.le_refl _) hb6
    have hp2 : ((m : Int) < n) ∨ ¬ ((m : Int) < n) := Classical.em _
    cases sb with
    | false =>
      by_cases hmn : m < n
      · go_wp2
        go_ret
        exact ⟨by simp, hbG⟩
      · have hjm := hmono (by omega)
        go_wp2_with fail
        refine (HZ _).out.mono ?_
        rintro e w7 ⟨rfl, hb7⟩
        go_wp2
        go_ret
        exact ⟨by simp, bthen hbG (Nat.le_refl _) hb7⟩
    | true =>
      have h0 : ev = 0 := (HST.out rfl).1
      subst h0
      have hpv := Lib.hid (HST.out rfl).2.1
      have hjv := (HST.out rfl).2.2
      have HRG := Lib.hid (HRv.out.below hbG)
      go_wp2_with fail
      refine (HGv _ HRG.out).out.mono ?_
      rintro e w' ⟨rfl, rfl⟩
      rcases HRG.out.cases (by decide) with ⟨h0, h1, a, cap, rfl, hmc⟩ | ⟨hnb, _, g, off, cap, rfl, hnc, hcm, hc⟩
      · exfalso; obtain rfl : bs = [] := List.eq_nil_of_length_eq_zero h0; have := HP0.out (by trivial); simp at hjv; omega
      · have HTK := Lib.hid (rds_take u8s_take u8s_length hc hnc hcm jv hjv)
        have hd1 : decide ((bs.length : Int) < (jv : Int)) = false := by simp; omega
        have hd2 : decide (bs.length < jv) = false := by simp; omega
        clear hc
        go_wp2_with fail
        have hi1 : (0 : Int) ≤ (jv : Int) := by omega
        have hi2 : (jv : Int) ≤ (cap : Int) := by omega
        have hi3 : (jv : Int) ≤ (bs.length : Int) := by omega
        go_region_held3 (fun w' => True) (trivial) (first
          | (go_at_call 26; refine (HPv _).out.mono ?_; rintro e w7 ⟨v7, rfl, ho7, hb7⟩)
          | (go_at_call 27; refine (Same_true _ _ pv _ (RdS.of_owns ho7) (by rw [hpv.out]; exact HTK.out.below ((Below.refl _ w6).drew.trans hb7))).mono ?_; rintro e w8 ⟨rfl, hb8⟩))
        have hbH := bthen ((hbG.drew).trans (hb7.mono hbG.size)) (Nat.le_refl _) hb8
        by_cases hmn : m < n
        · go_wp2
          go_ret
          exact ⟨by simp, hbH⟩
        · have hjm := hmono (by omega)
          go_wp2_with fail
          refine (HZ _).out.mono ?_
          rintro e w9 ⟨rfl, hb9⟩
          go_wp2
          go_ret
          exact ⟨by simp, bthen hbH (Nat.le_refl _) hb9⟩
end Go.Proofs.Ytkaadkjbimaodaa
