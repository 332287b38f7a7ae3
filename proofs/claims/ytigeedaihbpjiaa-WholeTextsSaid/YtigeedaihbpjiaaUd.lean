/-
  utf: the reference's First, Runes, Check, Same: contracts.
-/
import Derived.Test.YtigeedaihbpjiaaUc
namespace Go.Proofs.Ytigeedaihbpjiaa
open Go.RowKit

theorem one_bad {l : List Nat} (h : badL l = true) : oneN l = (0, 0) := by unfold oneN; rw [if_pos h]
theorem one_ok {l : List Nat} (h : badL l = false) : oneN l = ((decH l).2, (decH l).1) := by unfold oneN; rw [h]; rfl

set_option maxRecDepth 100000 in
theorem rFirst_any (s : ByteArray) (w : World) (hs : s.size ≤ 1073741824) :
    Calls Try.prog 31 #[.string s] w fun e w' => e = .returned (.int .i64 (firstX 0 (bsN s))) ∧ w = w' := by
  go_enter Try.func31, Try.ntmps31
  go_wp2
  go_loop [3] (fun at' => ∃ p : Nat, p ≤ s.size ∧ at' = .int .i64 p ∧ Hid (firstX 0 (bsN s) = firstX p ((bsN s).drop p))) (fun at' => s.size - (intOf at').toNat)
  case atStart => exact ⟨0, by omega, rfl, Lib.hid (by simp)⟩
  case round =>
    obtain ⟨p, hp, rfl, HL⟩ := hrel
    by_cases hlt : p < s.size
    · have hne : (bsN s).drop p ≠ [] := by
        intro e; have := congrArg List.length e; simp [bsN_len] at this; omega
      have hf := decH_facts hne
      have hlen : (decH ((bsN s).drop p)).2 ≤ s.size - p := by have := hf.2.2.1; simpa [bsN_len] using this
      have hf1 := hf.1
      have HT := Lib.hid (fun w' => One_any s p w' hlt (by omega))
      cases hg : badL ((bsN s).drop p) with
      | true =>
        have HF := Lib.hid (firstX_bad (p := p) hne hg)
        rw [one_bad hg] at HT
        clear hne hf hg hlen hf1
        go_wp2_with fail
        refine (HT.out _).mono ?_
        rintro e w' ⟨rfl, rfl⟩
        dsimp only [tupO]
        go_wp2
        go_ret
        exact ⟨by rw [HL.out, HF.out]; rfl, rfl⟩
      | false =>
        have HF := Lib.hid (firstX_step (p := p) hne hg)
        rw [one_ok hg] at HT
        have hdd : ((bsN s).drop p).drop (decH ((bsN s).drop p)).2 = (bsN s).drop (p + (decH ((bsN s).drop p)).2) := List.drop_drop
        rw [hdd] at HF
        clear hne hf hg hdd
        generalize decH ((bsN s).drop p) = d at *
        obtain ⟨r, wd⟩ := d
        dsimp only at *
        have hw0 : ((wd : Int) == 0) = false := by simp; omega
        go_wp2_with fail
        refine (HT.out _).mono ?_
        rintro e w' ⟨rfl, rfl⟩
        dsimp only [tupO]
        go_wp2
        go_round
        case rel => exact ⟨p + wd, by omega, by go_num, Lib.hid (by rw [HL.out, HF.out])⟩
        case measure => simp [intOf]; omega
    · have HE : Hid (firstX p ((bsN s).drop p) = -1) := Lib.hid (by rw [List.drop_of_length_le (by rw [bsN_len]; omega)]; rfl)
      go_wp2
      go_ret
      exact ⟨by rw [HL.out, HE.out]; rfl, rfl⟩

set_option maxRecDepth 100000 in
set_option maxHeartbeats 400000 in
theorem rRunes_any (s : ByteArray) (w : World) (hs : s.size ≤ 1073741824) (h0 : firstX 0 (bsN s) < 0) :
    Calls Try.prog 36 #[.string s] w fun e w' => ∃ v', e = .returned v' ∧ w'.ownsRow w.heap.size 21 1 v' (natsI (runesX (bsN s))).length (ints .i32 (natsI (runesX (bsN s)))) ∧ Below w.heap.size w w' := by
  obtain ⟨i0, hi, hz0, hz1, hz2⟩ := info_parts Try.info_i32
  have H0 := Lib.hid h0
  clear h0
  go_enter Try.func36, Try.ntmps36
  go_wp2
  go_loopw [3, 4] (fun out at' wr => ∃ (p : Nat) (acc : List Int), p ≤ s.size ∧ at' = .int .i64 p ∧ wr.ownsRow w.heap.size 21 1 out acc.length (ints .i32 acc) ∧ acc.length ≤ p ∧ Hid (firstX 0 (bsN s) = firstX p ((bsN s).drop p)) ∧ Hid (natsI (runesX (bsN s)) = acc ++ natsI (runesX ((bsN s).drop p))) ∧ Below w.heap.size w wr) (fun _ at' _ => s.size - (intOf at').toNat)
  case atStart => exact ⟨0, [], by omega, rfl, World.ownsRow_nil _ _ _ _, by simp, Lib.hid (by simp), Lib.hid (by simp), Below.refl _ _⟩
  case round =>
    obtain ⟨p, acc, hp, rfl, hown, hacc, HL, HR, hb⟩ := hrel
    have hsz : w.heap.size ≤ wr.heap.size := hb.size
    by_cases hlt : p < s.size
    · have hne : (bsN s).drop p ≠ [] := by
        intro e; have := congrArg List.length e; simp [bsN_len] at this; omega
      have hf := decH_facts hne
      have hlen : (decH ((bsN s).drop p)).2 ≤ s.size - p := by have := hf.2.2.1; simpa [bsN_len] using this
      have hf1 := hf.1
      have HT := Lib.hid (fun w' => One_any s p w' hlt (by omega))
      cases hg : badL ((bsN s).drop p) with
      | true =>
        exfalso
        have h1 := firstX_bad (p := p) hne hg
        have h2 := H0.out
        rw [HL.out, h1] at h2
        omega
      | false =>
        have HF := Lib.hid (firstX_step (p := p) hne hg)
        have HN := Lib.hid (runesX_step hne hg)
        rw [one_ok hg] at HT
        have hdd : ((bsN s).drop p).drop (decH ((bsN s).drop p)).2 = (bsN s).drop (p + (decH ((bsN s).drop p)).2) := List.drop_drop
        rw [hdd] at HF HN
        clear hne hf hg hdd
        generalize decH ((bsN s).drop p) = d at *
        obtain ⟨r, wd⟩ := d
        dsimp only at *
        have hw0 : ((wd : Int) == 0) = false := by simp; omega
        go_wp2_with fail
        refine (HT.out _).mono ?_
        rintro e w' ⟨rfl, rfl⟩
        dsimp only [tupO]
        go_wp2_with (at_builtin; go_must (refine wpList_push rfl _ _ 54 rfl w.heap.size 21 i0 (.int .i32 0) 1 4 Try.underlying54 hi hz0 hz1 hz2 rfl (by decide) _ _ _ rfl (hown.alloc _) ⟨wr.heap.size, 0, none⟩ 1 1 [_] rfl rfl (cell_one_new _ _ _) (by simp [Value.oneCell']) (by unfold maxLen; omega) (by omega) (by simp; omega) ?_; intro v' w1 hown' hgrow hfr))
        have hgrow : (wr.alloc _).grownBy w1 u3.ownBlock := hgrow
        go_roundw
        case rel => exact ⟨p + wd, acc ++ [(r : Int)], by omega, by go_num, by simpa [ints] using hown', by simp; omega, Lib.hid (by rw [HL.out, HF.out]), Lib.hid (by rw [HR.out, HN.out, natsI_cons]; simp), below_push hb hsz hown (Nat.le_refl _) hgrow⟩
        case measure => simp [intOf]; omega
    · have hd : (bsN s).drop p = [] := List.drop_of_length_le (by rw [bsN_len]; omega)
      have HE2 : Hid (natsI (runesX (bsN s)) = acc) := Lib.hid (by rw [HR.out, hd, runesX_nil]; simp [natsI])
      clear hd
      go_wp2
      go_ret
      rw [HE2.out]
      exact ⟨_, rfl, hown, hb⟩

set_option maxRecDepth 100000 in
theorem rCheck_any (s : ByteArray) (most : Int) (w : World) (hs : s.size ≤ 1073741824) :
    Calls Try.prog 41 #[.string s, .int .i64 most] w fun e w' => e = .returned (.int .i64 (checkN (bsN s) most)) ∧ w = w' := by
  have hc : checkN (bsN s) most = if most < s.size then 2 else if firstX 0 (bsN s) < 0 then 0 else 9 := by unfold checkN; rw [bsN_len]
  rw [hc]
  have HF := Lib.hid (fun w => rFirst_any s w hs)
  generalize firstX 0 (bsN s) = f at *
  clear hc
  by_cases h1 : most < s.size
  · rw [if_pos h1]
    go_enter Try.func41, Try.ntmps41
    go_wp2
    go_ret
    exact ⟨rfl, rfl⟩
  · rw [if_neg h1]
    have hd1 : decide (most < (s.size : Int)) = false := by simpa using h1
    clear h1
    by_cases h2 : f < 0
    · rw [if_pos h2]
      have hd2 : decide (0 ≤ f) = false := by simp; omega
      clear h2
      go_enter Try.func41, Try.ntmps41
      go_wp2_with fail
      refine (HF.out _).mono ?_
      rintro e w1 ⟨rfl, rfl⟩
      go_wp2
      go_ret
      exact ⟨rfl, rfl⟩
    · rw [if_neg h2]
      have hd2 : decide (0 ≤ f) = true := by simp; omega
      clear h2
      go_enter Try.func41, Try.ntmps41
      go_wp2_with fail
      refine (HF.out _).mono ?_
      rintro e w1 ⟨rfl, rfl⟩
      go_wp2
      go_ret
      exact ⟨rfl, rfl⟩

theorem ints_get' (k : IntKind) (zs : List Int) (i : Nat) (h : i < zs.length) : (ints k zs)[i]? = some (.int k (zs[i]?.getD 0)) := by simp [ints, h]
theorem rSame_true (v v' : Value) (bs : List Int) (w : World) (h : RdS w v 1 bs.length (ints .i32 bs)) (h' : RdS w v' 1 bs.length (ints .i32 bs)) :
    Calls Try.prog 35 #[v, v'] w fun e w' => e = .returned (.bool true) ∧ Below w.heap.size w w' := by
  rcases h.cases (by decide) with ⟨h0, h1, a, cap, rfl, hm⟩ | ⟨hn, hl, g, off, cap, rfl, hnc, hcm, hc⟩
  · obtain rfl : bs = [] := List.eq_nil_of_length_eq_zero h0
    rcases h'.cases (by decide) with ⟨_, _, a', cap', rfl, hm'⟩ | ⟨hn, _⟩
    · go_enter Try.func35, Try.ntmps35
      go_wp2
      go_loop [5] (fun i => i = .int .i64 0) (fun i => 0)
      case atStart => rfl
      case round =>
        obtain rfl := hrel
        go_wp2
        go_ret
        exact ⟨rfl, Below.refl _ _⟩
    · simp at hn
  · rcases h'.cases (by decide) with ⟨h0, _⟩ | ⟨_, _, g', off', cap', rfl, hnc', hcm', hc'⟩
    · omega
    · have HC := Lib.hid hc
      have HC' := Lib.hid hc'
      have H := Lib.hid h
      have H' := Lib.hid h'
      clear hc hc' h h' hl
      go_enter Try.func35, Try.ntmps35
      go_wp2
      go_loopw [5] (fun i wr => ∃ (k : Nat), k ≤ bs.length ∧ i = .int .i64 k ∧ Below w.heap.size w wr) (fun i _ => bs.length - (intOf i).toNat)
      case atStart => exact ⟨0, by omega, rfl, Below.refl _ _⟩
      case round =>
        obtain ⟨k, hk, rfl, hb⟩ := hrel
        by_cases hlt : k < bs.length
        · have c1 := cellB hb (HC.out k _ (ints_get' .i32 bs k hlt))
          have c2 := cellB hb (HC'.out k _ (ints_get' .i32 bs k hlt))
          generalize bs[k]?.getD 0 = b at *
          have hlt' : (k : Int) < bs.length := by omega
          go_wp2
          go_quiet (fail)
          go_wp2
          go_roundw
          case rel => exact ⟨k + 1, by omega, by go_num, belowN hb _⟩
          case measure => simp [intOf]; omega
        · go_wp2
          go_ret
          exact ⟨rfl, hb⟩
end Go.Proofs.Ytigeedaihbpjiaa
