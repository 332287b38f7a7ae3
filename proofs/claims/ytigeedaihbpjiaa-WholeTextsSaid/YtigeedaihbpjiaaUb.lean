/-
  utf: Runes, Count, Check, Plain: contracts.
-/
import Derived.Test.YtigeedaihbpjiaaUa
namespace Go.Proofs.Ytigeedaihbpjiaa
open Go.RowKit

theorem Try.info_i32 : (Try.prog.info? 21).map (fun i => (i.zero, i.size, i.bytes)) = some (some (.int .i32 0), 1, 4) := by kernel_rfl
def natsI (l : List Nat) : List Int := l.map fun c : Nat => (c : Int)
theorem natsI_len (l : List Nat) : (natsI l).length = l.length := by simp [natsI]
theorem natsI_cons (c : Nat) (l : List Nat) : natsI (c :: l) = (c : Int) :: natsI l := rfl
/-- Runes, and what is wrong and where. -/
def runesR (l : List Nat) : List Int × Int × Int := if firstX 0 l < 0 then (natsI (runesX l), 0, 0) else ([], 9, firstX 0 l)

theorem runesX_len : ∀ (n : Nat) (l : List Nat), l.length = n → (runesX l).length ≤ l.length := by
  intro n
  induction n using Nat.strongRecOn with
  | _ n ih =>
    intro l hn
    by_cases hl : l = []
    · subst hl; simp [runesX_nil]
    · have hfa := decH_facts hl
      cases hg : badL l with
      | true => rw [runesX_bad hl hg]; simp
      | false =>
        rw [runesX_step hl hg]
        have := ih (l.drop (decH l).2).length (by simp; omega) _ rfl
        simp at this ⊢; omega

theorem iter_ne_own {w : World} {k : Nat} {s : ByteArray} {pos : Nat} (h : w.heap[k]? = some (.stringIter s pos)) {base : Nat} {e : TypeId} {size n : Nat} {v : Value} {xs : List Value} (ho : w.ownsRow base e size v n xs) : v.ownBlock ≠ some k := by
  rcases ho.2 with ⟨rfl, _⟩ | ⟨g', cap, cur, rfl, _, hh, _⟩
  · simp [Value.ownBlock]
  · intro he
    have : g' = k := by simpa [Value.ownBlock] using he
    subst this
    rw [h] at hh; injection hh with hh; cases hh

theorem own_iterAt {w : World} {k : Nat} {s : ByteArray} {pos pos' : Nat} (h : w.heap[k]? = some (.stringIter s pos)) {base : Nat} {e : TypeId} {size n : Nat} {v : Value} {xs : List Value} (ho : w.ownsRow base e size v n xs) : (w.iterAt k s pos').ownsRow base e size v n xs := by
  refine ⟨ho.1, ?_⟩
  rcases ho.2 with h1 | ⟨g, cap, cur, hv, hg, hh, rest⟩
  · exact .inl h1
  · refine .inr ⟨g, cap, cur, hv, hg, ?_, rest⟩
    rw [Lib.iterAt_other _ _ _ _ _ (fun e => by subst e; rw [h] at hh; injection hh with hh; cases hh)]
    exact hh

set_option maxRecDepth 100000 in
set_option maxHeartbeats 400000 in
theorem Runes_any (s : ByteArray) (w : World) (hs : s.size ≤ 1073741824) :
    Calls Try.prog 33 #[.string s] w fun e w' => ∃ v', e = .returned (.tuple #[v', .agg #[.int .i64 (runesR (bsN s)).2.1, .int .i64 (runesR (bsN s)).2.2]]) ∧ w'.ownsRow w.heap.size 21 1 v' (runesR (bsN s)).1.length (ints .i32 (runesR (bsN s)).1) ∧ Below w.heap.size w w' := by
  obtain ⟨i0, hi, hz0, hz1, hz2⟩ := info_parts Try.info_i32
  go_enter Try.func33, Try.ntmps33
  go_wp2
  go_loopw [4] (fun out wr => ∃ (pos : Nat) (acc : List Int), pos ≤ s.size ∧ wr.heap[w.heap.size + 1]? = some (.stringIter s pos) ∧ wr.ownsRow (w.heap.size + 2) 21 1 out acc.length (ints .i32 acc) ∧ acc.length ≤ pos ∧ Hid (firstX 0 (bsN s) = firstX pos ((bsN s).drop pos)) ∧ Hid (natsI (runesX (bsN s)) = acc ++ natsI (runesX ((bsN s).drop pos))) ∧ Below w.heap.size w wr ∧ Hid (wr.heap[w.heap.size]? = some (.cells #[.int .i64 0, .int .i64 0] 34 (0, 0)))) (fun _ wr => s.size - wr.iterPos (w.heap.size + 1))
  case atStart =>
    refine ⟨0, [], by omega, ?_, World.ownsRow_nil _ _ _ _, by simp, Lib.hid (by simp), Lib.hid (by simp), ((Below.refl _ w).alloc (Nat.le_refl _) _).alloc (by simp) _, Lib.hid ?_⟩
    · have := World.iter_heap (w.alloc (.cells #[.int .i64 0, .int .i64 0] 34)) s 0
      simpa using this
    · exact (Below.heap_alloc _ _ _ (by simp)).trans (World.alloc_heap_new w _)
  case round =>
    obtain ⟨pos, acc, hp, hit, hown, hacc, HL, HR, hb, HB⟩ := hrel
    have HIT := Lib.hid hit
    have hsz : w.heap.size + 1 < wr.heap.size := (Array.getElem?_eq_some_iff.1 hit).1
    by_cases hlt : pos < s.size
    · have hne : (bsN s).drop pos ≠ [] := by
        intro e; have := congrArg List.length e; simp [bsN_len] at this; omega
      have hf := decH_facts hne
      have hlen : (decH ((bsN s).drop pos)).2 ≤ s.size - pos := by have := hf.2.2.1; simpa [bsN_len] using this
      have hf1 := hf.1
      have hnx : ∀ ty, (Instr.next (.pointer (some ⟨w.heap.size + 1, 0, none⟩)) true ty).run Try.prog wr = .ok (.tuple #[.bool true, .int .i64 pos, .int .i32 (decH ((bsN s).drop pos)).1]) (wr.iterAt (w.heap.size + 1) s (pos + (decH ((bsN s).drop pos)).2)) := fun ty => by
        rw [Lib.run_next_any_at wr (w.heap.size + 1) s pos ty hit hlt, decode_list]
      have HT := Lib.hid (fun w' => taken_any s pos w' hlt (by omega))
      have hit2 := Lib.iterAt_heap wr (w.heap.size + 1) s pos (pos + (decH ((bsN s).drop pos)).2) hit
      have hb2 := Lib.below_iterAt hb (k := w.heap.size + 1) (by omega) s (pos + (decH ((bsN s).drop pos)).2)
      have hown2 := own_iterAt (pos' := pos + (decH ((bsN s).drop pos)).2) hit hown
      have hsz2 : (wr.iterAt (w.heap.size + 1) s (pos + (decH ((bsN s).drop pos)).2)).heap.size = wr.heap.size := Lib.iterAt_size _ _ _ _
      have hB2 : (wr.iterAt (w.heap.size + 1) s (pos + (decH ((bsN s).drop pos)).2)).heap[w.heap.size]? = some (.cells #[.int .i64 0, .int .i64 0] 34 (0, 0)) := by
        rw [Lib.iterAt_other _ _ _ _ _ (by omega)]; exact HB.out
      have HIT2 := Lib.hid hit2
      have HB2 := Lib.hid hB2
      have HS2 := Lib.hid hsz2
      cases hg : badL ((bsN s).drop pos) with
      | true =>
        have HF := Lib.hid (firstX_bad (p := pos) hne hg)
        rw [takN_bad hg] at HT
        clear hne hf hit hit2 hg hB2 hsz2 hown2
        generalize decH ((bsN s).drop pos) = d at *
        obtain ⟨r, wd⟩ := d
        dsimp only at *
        obtain ⟨q0, q1, q2, q3⟩ := cells2 HB2.out
        go_wp2_with (go_at_call 78; refine (HT.out _).mono ?_; rintro e w' ⟨rfl, rfl⟩)
        have hs2 := cells2 (set2 (.int .i64 9) (.int .i64 pos) HB2.out)
        obtain ⟨q0, q1, _, _⟩ := hs2
        refine bodyPost_ret (v := .tuple #[.slice none 0 0, .agg #[.int .i64 9, .int .i64 pos]]) (by simp [results, Try.results33, go_sem, q0, q1]) rfl ?_
        have hfr : firstX 0 (bsN s) = pos := by rw [HL.out, HF.out]
        have hR : runesR (bsN s) = ([], 9, (pos : Int)) := by unfold runesR; rw [hfr, if_neg (by omega)]
        rw [hR]
        exact ⟨_, rfl, World.ownsRow_nil _ _ _ _, (hb2.setCell (p := ⟨w.heap.size, 0, none⟩) (Nat.le_refl _) _).setCell (p := ⟨w.heap.size, 1, none⟩) (Nat.le_refl _) _⟩
      | false =>
        have HF := Lib.hid (firstX_step (p := pos) hne hg)
        have HN := Lib.hid (runesX_step hne hg)
        rw [takN_ok hg] at HT
        have hdd : ((bsN s).drop pos).drop (decH ((bsN s).drop pos)).2 = (bsN s).drop (pos + (decH ((bsN s).drop pos)).2) := List.drop_drop
        rw [hdd] at HF HN
        clear hne hf hit hit2 hg hdd hB2 hsz2
        generalize decH ((bsN s).drop pos) = d at *
        obtain ⟨r, wd⟩ := d
        dsimp only at *
        have hw0 : ((wd : Int) == 0) = false := by simp; omega
        generalize hwi : wr.iterAt (w.heap.size + 1) s (pos + wd) = wi at *
        clear hwi
        have hszi : w.heap.size + 1 < wi.heap.size := by rw [HS2.out]; exact hsz
        go_wp2_with (first | (go_at_call 78; refine (HT.out _).mono ?_; rintro e w' ⟨rfl, rfl⟩) | (at_builtin; go_must (refine wpList_push rfl _ _ 54 rfl (w.heap.size + 2) 21 i0 (.int .i32 0) 1 4 Try.underlying54 hi hz0 hz1 hz2 rfl (by decide) _ _ _ rfl (hown2.alloc _) ⟨wi.heap.size, 0, none⟩ 1 1 [_] rfl rfl (cell_one_new _ _ _) (by simp [Value.oneCell']) (by unfold maxLen; omega) (by omega) (by simp; omega) ?_; intro v' w1 hown' hgrow hfr)))
        have hgrow : (wi.alloc _).grownBy w1 u4.ownBlock := hgrow
        have hk1 := kept_push HIT2.out hgrow (iter_ne_own HIT2.out hown2)
        go_roundw
        case rel => exact ⟨pos + wd, acc ++ [(r : Int)], by omega, hk1, by simpa [ints] using hown', by simp; omega, Lib.hid (by rw [HL.out, HF.out]), Lib.hid (by rw [HR.out, HN.out, natsI_cons]; simp), below_push hb2 (by omega) hown2 (by omega) hgrow, Lib.hid (kept_push HB2.out hgrow (fun e => by have := (hown2.lt _ e).1; omega))⟩
        case measure => simp only [World.iterPos, hk1, HIT.out]; omega
    · have hnx : ∀ ty, (Instr.next (.pointer (some ⟨w.heap.size + 1, 0, none⟩)) true ty).run Try.prog wr = _ := fun ty => Lib.run_next_end_at wr (w.heap.size + 1) s pos ty hit hlt
      have hd : (bsN s).drop pos = [] := List.drop_of_length_le (by rw [bsN_len]; omega)
      have HE : Hid (firstX 0 (bsN s) = -1) := Lib.hid (by rw [HL.out, hd]; rfl)
      have HE2 : Hid (natsI (runesX (bsN s)) = acc) := Lib.hid (by rw [HR.out, hd, runesX_nil]; simp [natsI])
      clear hit hd
      obtain ⟨q0, q1, q2, q3⟩ := cells2 HB.out
      go_wp2
      have hs2 := cells2 (set2 (.int .i64 0) (.int .i64 0) HB.out)
      obtain ⟨q0, q1, _, _⟩ := hs2
      refine bodyPost_ret (v := .tuple #[u4, .agg #[.int .i64 0, .int .i64 0]]) (by simp [results, Try.results33, go_sem, q0, q1]) rfl ?_
      have hR : runesR (bsN s) = (acc, 0, 0) := by unfold runesR; rw [HE.out, HE2.out]; rfl
      rw [hR]
      exact ⟨_, rfl, ownsRow_mono (ownsRow_setCell_below (ownsRow_setCell_below hown (a := ⟨w.heap.size, 0, none⟩) (by simp) _) (a := ⟨w.heap.size, 1, none⟩) (by simp) _) (by omega), (hb.setCell (p := ⟨w.heap.size, 0, none⟩) (Nat.le_refl _) _).setCell (p := ⟨w.heap.size, 1, none⟩) (Nat.le_refl _) _⟩

/-- utf.Count. -/
def countN (l : List Nat) : Int := if firstX 0 l < 0 then (runesX l).length else -1
set_option maxRecDepth 100000 in
theorem Count_any (s : ByteArray) (w : World) (hs : s.size ≤ 1073741824) :
    Calls Try.prog 34 #[.string s] w fun e w' => e = .returned (.int .i64 (countN (bsN s))) ∧ Below w.heap.size w w' := by
  have HR := Lib.hid (fun w => Runes_any s w hs)
  have hc : countN (bsN s) = if (runesR (bsN s)).2.1 = 0 then (((runesR (bsN s)).1.length : Nat) : Int) else -1 := by
    unfold countN runesR
    split
    · simp [natsI_len]
    · simp
  rw [hc]
  generalize runesR (bsN s) = r at *
  obtain ⟨l, a, b⟩ := r
  dsimp only at *
  clear hc
  by_cases ha : a = 0
  · subst ha
    rw [if_pos rfl]
    go_enter Try.func34, Try.ntmps34
    go_wp2_with fail
    refine (HR.out _).mono ?_
    rintro e w1 ⟨v, rfl, ho, hb⟩
    obtain ⟨av, cv, rfl⟩ := (RdS.of_owns ho).form
    clear ho
    have hsz := hb.size
    go_wp2
    go_ret
    exact ⟨rfl, hb.alloc hsz _⟩
  · rw [if_neg ha]
    have haz : (a != 0) = true := by simpa using ha
    clear ha
    go_enter Try.func34, Try.ntmps34
    go_wp2_with fail
    refine (HR.out _).mono ?_
    rintro e w1 ⟨v, rfl, ho, hb⟩
    obtain ⟨av, cv, rfl⟩ := (RdS.of_owns ho).form
    clear ho
    have hsz := hb.size
    go_wp2
    go_ret
    exact ⟨rfl, hb.alloc hsz _⟩

/-- utf.Check. -/
def checkN (l : List Nat) (most : Int) : Int := if most < l.length then 2 else if firstX 0 l < 0 then 0 else 9
set_option maxRecDepth 100000 in
theorem Check_any (s : ByteArray) (most : Int) (w : World) (hs : s.size ≤ 9223372036854775807) :
    Calls Try.prog 40 #[.string s, .int .i64 most] w fun e w' => e = .returned (.int .i64 (checkN (bsN s) most)) ∧ Below w.heap.size w w' := by
  have hc : checkN (bsN s) most = if most < s.size then 2 else if firstX 0 (bsN s) < 0 then 0 else 9 := by unfold checkN; rw [bsN_len]
  rw [hc]
  have HF := Lib.hid (fun w => First_any s w hs)
  generalize firstX 0 (bsN s) = f at *
  clear hc
  by_cases h1 : most < s.size
  · rw [if_pos h1]
    go_enter Try.func40, Try.ntmps40
    go_wp2
    go_ret
    exact ⟨rfl, Below.refl _ _⟩
  · rw [if_neg h1]
    have hd1 : decide (most < (s.size : Int)) = false := by simpa using h1
    clear h1
    by_cases h2 : f < 0
    · rw [if_pos h2]
      have hd2 : decide (0 ≤ f) = false := by simp; omega
      clear h2
      go_enter Try.func40, Try.ntmps40
      go_wp2_with fail
      refine (HF.out _).mono ?_
      rintro e w1 ⟨rfl, hb⟩
      go_wp2
      go_ret
      exact ⟨rfl, hb⟩
    · rw [if_neg h2]
      have hd2 : decide (0 ≤ f) = true := by simp; omega
      clear h2
      go_enter Try.func40, Try.ntmps40
      go_wp2_with fail
      refine (HF.out _).mono ?_
      rintro e w1 ⟨rfl, hb⟩
      go_wp2
      go_ret
      exact ⟨rfl, hb⟩

/-- utf.Plain. -/
def plainB (l : List Nat) : Bool := l.all fun b => decide (32 ≤ b ∧ b ≤ 126)
theorem plain_take (l : List Nat) (k : Nat) (h : k < l.length) : plainB (l.take (k + 1)) = (plainB (l.take k) && decide (32 ≤ l[k]?.getD 0 ∧ l[k]?.getD 0 ≤ 126)) := by
  unfold plainB
  rw [List.take_succ_eq_append_getElem h, List.all_append]
  simp [h]
theorem plain_not (l : List Nat) (k : Nat) (h : k < l.length) (hb : ¬ (32 ≤ l[k]?.getD 0 ∧ l[k]?.getD 0 ≤ 126)) : plainB l = false := by
  unfold plainB
  rw [Bool.eq_false_iff]
  intro ha
  rw [List.all_eq_true] at ha
  have := ha l[k] (List.getElem_mem h)
  simp [h] at hb
  simp at this
  omega
theorem byte_at (s : ByteArray) (k : Nat) (h : k < s.size) : (s[k].toNat : Nat) = (bsN s)[k]?.getD 0 := by
  rw [← bsN_get]; simp [ByteArray.get!, h]; rfl
set_option maxRecDepth 100000 in
theorem Plain_any (s : ByteArray) (w : World) (hs : s.size ≤ 9223372036854775807) :
    Calls Try.prog 42 #[.string s] w fun e w' => e = .returned (.bool (plainB (bsN s))) ∧ w = w' := by
  go_enter Try.func42, Try.ntmps42
  go_wp2
  go_loop [6] (fun i => ∃ k : Nat, k ≤ s.size ∧ i = .int .i64 k ∧ Hid (plainB ((bsN s).take k) = true)) (fun i => s.size - (intOf i).toNat)
  case atStart => exact ⟨0, by omega, rfl, Lib.hid (by simp [plainB])⟩
  case round =>
    obtain ⟨k, hk, rfl, HP⟩ := hrel
    by_cases hlt : k < s.size
    · have hlt2 : k < (bsN s).length := by rw [bsN_len]; exact hlt
      have HS := Lib.hid (plain_take (bsN s) k hlt2)
      have HN := Lib.hid (plain_not (bsN s) k hlt2)
      rw [← byte_at s k hlt] at HS HN
      clear hlt2
      by_cases h1 : s[k].toNat < 32
      · go_wp2
        go_ret
        exact ⟨by rw [HN.out (by omega)]; rfl, rfl⟩
      · by_cases h2 : 126 < s[k].toNat
        · go_wp2
          go_ret
          exact ⟨by rw [HN.out (by omega)]; rfl, rfl⟩
        · go_wp2
          go_round
          case rel => exact ⟨k + 1, by omega, by go_num, Lib.hid (by rw [HS.out, HP.out]; simp; omega)⟩
          case measure => simp [intOf]; omega
    · have HE : Hid (plainB (bsN s) = true) := Lib.hid (by have := HP.out; rwa [List.take_of_length_le (by rw [bsN_len]; omega)] at this)
      go_wp2
      go_ret
      exact ⟨by rw [HE.out]; rfl, rfl⟩
end Go.Proofs.Ytigeedaihbpjiaa
