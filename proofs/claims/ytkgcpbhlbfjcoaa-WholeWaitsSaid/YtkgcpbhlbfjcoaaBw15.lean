/-
  rescripttop.awakeTicks: contract.
-/
import Derived.Test.YtkgcpbhlbfjcoaaBw12
import Derived.Test.YtkgcpbhlbfjcoaaBw14
namespace Go.Proofs.Ytkgcpbhlbfjcoaa
open Go Go.RowKit Go.Maps Go.WideShapes

theorem wait41 : waitI 4 0 1 = 4 := by decide +kernel
def gT : Int → Option Int := fun y => if y = 1 then some 4 else none
theorem gT_ids (x : Int) (_hx : WfI x) : (gT x).isSome = true ↔ x ∈ [(1 : Int)] := by
  unfold gT
  by_cases h : x = 1
  · simp [h]
  · simp [h]
theorem due3 : dueL gT 3 [1] = [] := by decide +kernel
theorem due4 : dueL gT 4 [1] = [1] := by decide +kernel
theorem rise1 : [(1 : Int)].Pairwise (· < ·) := List.pairwise_singleton _ _
theorem wf1 : ∀ x ∈ [(1 : Int)], WfI x := fun x hx => by
  obtain rfl := List.mem_singleton.1 hx
  exact wfI (by omega) (by omega)
set_option maxRecDepth 100000 in
set_option maxHeartbeats 1000000 in
theorem awakeTicks_any (w : World) : Calls Try.prog 23 #[] w fun e w' => e = .returned (.bool true) ∧ Below w.heap.size w w' := by
  go_enter Try.func23, Try.ntmps23
  go_wp2_with fail
  refine (cNew_any _).mono ?_
  rintro e w1 ⟨cb, b, rfl, hcb, hb, hc1, hb1⟩
  have HC1 := Lib.hid hc1
  have HB1 := Lib.hid hb1
  clear hc1 hb1
  go_wp2_with fail
  refine (Wait_any 0 4 0 1 _).mono ?_
  rintro e w2 ⟨rfl, hb2⟩
  rw [wait41]
  have HB2 := Lib.hid (bthen HB1.out (Nat.le_refl _) hb2)
  have HC2 := Lib.hid (HC1.out.below hb2)
  clear hb2
  go_wp2_with fail
  refine (cSet_any cb b 0 (fun _ => none) 1 4 w2 HC2.out (by omega) (wfI (by omega) (by omega)) (wfI (by omega) (by omega))).mono ?_
  rintro e w3 ⟨rfl, hc3, ht3, hs3⟩
  have HC3 : Hid (ClkR w3 cb b 1 gT) := Lib.hid hc3
  have HB3 := Lib.hid (ht3.below HB2.out hb HB2.out.size)
  clear hc3 ht3 hs3
  go_wp2_with fail
  refine (cDue_any cb b 1 gT 3 [1] w3 HC3.out (by omega) rise1 gT_ids wf1 (by decide) (fun m h1 => by rw [due3] at h1; exact absurd h1 (Nat.not_lt_zero _))).mono ?_
  rintro e w4 ⟨v4, rfl, ho4, hc4, ht4⟩
  rw [due3] at ho4
  obtain ⟨va4, vc4, rfl⟩ := (RdS.of_owns ho4).form
  have HC4 : Hid (ClkR w4 cb b 1 gT) := Lib.hid (hc4.congr (fun x => by rw [due3]; rfl))
  have HB4 := Lib.hid (ht4.below HB3.out hb HB3.out.size)
  clear hc4 ht4 ho4
  go_wp2_with fail
  refine (cDue_any cb b 1 gT 4 [1] w4 HC4.out (by omega) rise1 gT_ids wf1 (by decide) (fun m h1 => by rw [due4] at h1; exact absurd h1 (by simp))).mono ?_
  rintro e w5 ⟨v5, rfl, ho5, hc5, ht5⟩
  rw [due4] at ho5
  obtain ⟨va5, vc5, rfl⟩ := (RdS.of_owns ho5).form
  have HB5 := Lib.hid (ht5.below HB4.out hb HB4.out.size)
  clear hc5 ht5 ho5
  go_wp2_with fail
  go_ret
  exact ⟨rfl, HB5.out⟩
end Go.Proofs.Ytkgcpbhlbfjcoaa

/-
  Plain: a clock on which rising ticks are set, and who is due first.
-/
namespace Go.Proofs.Ytkgcpbhlbfjcoaa
open Go

/-- The numbers from n to N wait, number x for tick T x. -/
def gR (T : Nat → Int) (N n : Nat) : Int → Option Int := fun x => if (n : Int) ≤ x ∧ x ≤ (N : Int) then some (T x.toNat) else none
def idsR (s len : Nat) : List Int := (List.range' s len).map Int.ofNat
theorem idsR_len (s len : Nat) : (idsR s len).length = len := by simp [idsR]
theorem idsR_at {s len m : Nat} (h : m < len) : (idsR s len)[m]'(by rw [idsR_len]; exact h) = ((s + m : Nat) : Int) := by simp [idsR]
theorem idsR_mem {s len : Nat} {x : Int} : x ∈ idsR s len ↔ (s : Int) ≤ x ∧ x < ((s + len : Nat) : Int) := by
  simp only [idsR, List.mem_map, List.mem_range'_1]
  constructor
  · rintro ⟨a, ⟨h1, h2⟩, rfl⟩
    simp only [Int.ofNat_eq_natCast]
    omega
  · rintro ⟨h1, h2⟩
    exact ⟨x.toNat, by omega, by simp only [Int.ofNat_eq_natCast]; omega⟩
theorem idsR_rise (s len : Nat) : (idsR s len).Pairwise (· < ·) := by
  unfold idsR
  rw [List.pairwise_map]
  refine (List.pairwise_lt_range' (s := s) (n := len)).imp ?_
  intro a b h
  simp only [Int.ofNat_eq_natCast]
  omega
theorem gR_ids {T : Nat → Int} {N n : Nat} (hn : n ≤ N + 1) (x : Int) : (gR T N n x).isSome = true ↔ x ∈ idsR n (N + 1 - n) := by
  rw [idsR_mem]
  unfold gR
  split <;> simp <;> omega
theorem gR_at {T : Nat → Int} {N n x : Nat} (h1 : n ≤ x) (h2 : x ≤ N) : gR T N n (x : Int) = some (T x) := by
  unfold gR
  rw [if_pos (by omega)]
  simp
theorem filter_rise {T : Nat → Int} (hT : ∀ a b, a ≤ b → T a ≤ T b) (c : Int) : ∀ (len s : Nat), ∃ d, d ≤ len ∧ (0 < len → T s ≤ c → 0 < d) ∧ (List.range' s len).filter (fun x => decide (T x ≤ c)) = List.range' s d
  | 0, s => ⟨0, Nat.le_refl _, fun h => absurd h (Nat.lt_irrefl _), rfl⟩
  | len + 1, s => by
    by_cases h : T s ≤ c
    · obtain ⟨d, h1, -, h3⟩ := filter_rise hT c len (s + 1)
      refine ⟨d + 1, by omega, fun _ _ => by omega, ?_⟩
      rw [List.range'_succ, List.filter_cons_of_pos (by simpa using h), h3, List.range'_succ]
    · refine ⟨0, by omega, fun _ h2 => absurd h2 h, ?_⟩
      show _ = []
      rw [List.filter_eq_nil_iff]
      intro a ha
      have := (List.mem_range'_1.1 ha).1
      have := hT s a this
      simp
      omega
/-- Who is due at the least tick: the first few. -/
theorem due_first {T : Nat → Int} (hT : ∀ a b, a ≤ b → T a ≤ T b) {N n : Nat} (hn : n ≤ N) : ∃ d, 0 < d ∧ n + d ≤ N + 1 ∧ dueL (gR T N n) (T n) (idsR n (N + 1 - n)) = idsR n d := by
  obtain ⟨d, h1, h2, h3⟩ := filter_rise hT (T n) (N + 1 - n) n
  refine ⟨d, h2 (by omega) (Int.le_refl _), by omega, ?_⟩
  unfold dueL idsR
  rw [List.filter_map, ← h3]
  congr 1
  refine List.filter_congr fun x hx => ?_
  have hm := List.mem_range'_1.1 hx
  show decide ((gR T N n (x : Int)).getD 0 ≤ T n) = _
  rw [gR_at hm.1 (by omega)]
  rfl
theorem due_rise {T : Nat → Int} (hT : ∀ a b, a ≤ b → T a ≤ T b) {N n d : Nat} (hd : n + d ≤ N + 1) (m : Nat) (h : m + 1 < (idsR n d).length) : (gR T N n ((idsR n d)[m]'(by omega))).getD 0 ≤ (gR T N n (idsR n d)[m + 1]).getD 0 := by
  rw [idsR_len] at h
  rw [idsR_at (by omega), idsR_at h, gR_at (by omega) (by omega), gR_at (by omega) (by omega)]
  exact hT _ _ (by omega)
theorem rise_eq {g : Int → Option Int} {l l' : List Int} (h : l = l') (hp : ∀ (m : Nat) (h1 : m + 1 < l'.length), (g (l'[m]'(by omega))).getD 0 ≤ (g l'[m + 1]).getD 0) : ∀ (m : Nat) (h1 : m + 1 < l.length), (g (l[m]'(by omega))).getD 0 ≤ (g l[m + 1]).getD 0 := by
  subst h
  exact hp
theorem due_gone {T : Nat → Int} {N n d : Nat} (x : Int) : (if x ∈ idsR n d then none else gR T N n x) = gR T N (n + d) x := by
  unfold gR
  by_cases h1 : x ∈ idsR n d
  · rw [if_pos h1]
    rw [idsR_mem] at h1
    rw [if_neg (by omega)]
  · rw [if_neg h1]
    rw [idsR_mem] at h1
    by_cases h2 : (n : Int) ≤ x ∧ x ≤ (N : Int)
    · rw [if_pos h2, if_pos (by omega)]
    · rw [if_neg h2, if_neg (by omega)]
theorem next_first {T : Nat → Int} (hT : ∀ a b, a ≤ b → T a ≤ T b) {N n : Nat} (hn : n ≤ N) (hN : N ≤ 1000) {t : Int} (h1 : ∃ x, WfI x ∧ gR T N n x = some t) (h2 : ∀ x c, WfI x → gR T N n x = some c → t ≤ c) : t = T n := by
  obtain ⟨x, hx, hg⟩ := h1
  have h3 := h2 n (T n) (wfI (by omega) (by omega)) (gR_at (Nat.le_refl _) hn)
  unfold gR at hg
  split at hg
  · rename_i hr
    cases hg
    have := hT n x.toNat (by omega)
    omega
  · cases hg
theorem gR_none {T : Nat → Int} {N : Nat} (x : Int) : gR T N (N + 1) x = none := by
  unfold gR
  rw [if_neg (by omega)]
/-- What is set so far. -/
def gS (T : Nat → Int) (i : Nat) : Int → Option Int := fun x => if 0 ≤ x ∧ x < (i : Int) then some (T x.toNat) else none
theorem gS_zero (T : Nat → Int) (x : Int) : none = gS T 0 x := by
  unfold gS
  rw [if_neg (by omega)]
theorem gS_succ (T : Nat → Int) (i : Nat) (x : Int) : (if x = (i : Int) then some (T i) else gS T i x) = gS T (i + 1) x := by
  unfold gS
  by_cases h : x = (i : Int)
  · subst h
    rw [if_pos rfl, if_pos (by omega)]
    simp
  · rw [if_neg h]
    by_cases h2 : 0 ≤ x ∧ x < (i : Int)
    · rw [if_pos h2, if_pos (by omega)]
    · rw [if_neg h2, if_neg (by omega)]
theorem gS_all (T : Nat → Int) (N : Nat) (x : Int) : gS T (N + 1) x = gR T N 0 x := by
  unfold gS gR
  by_cases h : 0 ≤ x ∧ x < ((N + 1 : Nat) : Int)
  · rw [if_pos h, if_pos (by omega)]
  · rw [if_neg h, if_neg (by omega)]
/-- The tick of a try. -/
def tickW (from0 f k : Int) (i : Nat) : Int := from0 + bSum f k i
theorem tickW_rise (from0 f k : Int) (a b : Nat) (h : a ≤ b) : tickW from0 f k a ≤ tickW from0 f k b := by
  induction b with
  | zero => rw [Nat.le_zero.1 h]; exact Int.le_refl _
  | succ b ih =>
    by_cases e : a = b + 1
    · rw [e]; exact Int.le_refl _
    · have h1 := ih (by omega)
      have h2 := bSeq_range f k b
      unfold tickW at *
      simp only [bSum]
      omega
theorem tickW_range (from0 f k : Int) (i : Nat) (hi : i ≤ 10) (h1 : -1099511627776 ≤ from0) (h2 : from0 ≤ 1099511627776) : -1099511627776 ≤ tickW from0 f k i ∧ tickW from0 f k i ≤ 1099511637776 := by
  have := bSum_range f k i
  unfold tickW
  omega
end Go.Proofs.Ytkgcpbhlbfjcoaa

/-
  The law WholeWaits: walk.
-/
namespace Go.Proofs.Ytkgcpbhlbfjcoaa
open Go Go.RowKit Go.Maps Go.WideShapes

set_option maxRecDepth 100000 in
set_option maxHeartbeats 4000000 in
theorem WholeWaits_any (m f k fr : Int) (w : World) (_h1 : -9223372036854775808 ≤ fr) (_h2 : fr ≤ 9223372036854775807) :
    Calls Try.prog 5 #[retryV m f k, .int .i64 fr] w fun e w' => e = .returned (.bool true) ∧ Below w.heap.size w w' := by
  have hn9 := wN_le m
  have HW := Lib.hid (fun w => Waits_any m f k w)
  have HT := Lib.hid (fun w => Total_any m f k w)
  generalize hN : wN m = N at *
  have hg0 := World.alloc_heap_new w (.cells #[.int .i64 m, .int .i64 f, .int .i64 k] 43)
  have hb0 : Below w.heap.size w (w.alloc (.cells #[.int .i64 m, .int .i64 f, .int .i64 k] 43)) := (Below.refl _ w).alloc (Nat.le_refl _) _
  have HG0 := Lib.hid hg0
  have HB0 := Lib.hid hb0
  have hlt0 := (Array.getElem?_eq_some_iff.1 hg0).1
  clear hN hg0 hb0
  unfold retryV at HW HT ⊢
  go_enter Try.func5, Try.ntmps5
  go_upto_region 1 with fail
  generalize w.alloc (.cells #[.int .i64 m, .int .i64 f, .int .i64 k] 43) = w0 at *
  go_wp2_with fail
  refine (awakeTicks_any _).mono ?_
  rintro e w1 ⟨rfl, hb1⟩
  have HB1 := Lib.hid (bthen HB0.out (Nat.le_refl _) hb1)
  have HG1 := Lib.hid ((hb1.block _ hlt0).trans HG0.out)
  have hlt1 := (Array.getElem?_eq_some_iff.1 HG1.out).1
  clear hb1 HB0 HG0
  by_cases hlo : fr < -1099511627776
  · have d1 : decide (fr < -1099511627776) = true := decide_eq_true hlo
    go_wp2_with fail
    go_ret
    exact ⟨rfl, HB1.out⟩
  have d1 : decide (fr < -1099511627776) = false := decide_eq_false hlo
  by_cases hhi : 1099511627776 < fr
  · have d2 : decide (1099511627776 < fr) = true := decide_eq_true hhi
    go_wp2_with fail
    go_ret
    exact ⟨rfl, HB1.out⟩
  have d2 : decide (1099511627776 < fr) = false := decide_eq_false hhi
  have HTR : Hid (∀ a b, a ≤ b → tickW fr f k a ≤ tickW fr f k b) := Lib.hid (tickW_rise fr f k)
  have HTB : Hid (∀ i, i ≤ 10 → -1099511627776 ≤ tickW fr f k i ∧ tickW fr f k i ≤ 1099511637776) := Lib.hid (fun i hi => tickW_range fr f k i hi (by omega) (by omega))
  go_wp2_with fail
  refine (cNew_any _).mono ?_
  rintro e w2 ⟨cb, b, rfl, hcb, hbb, hc2, hb2⟩
  have HB2 := Lib.hid (bthen HB1.out (Nat.le_refl _) hb2)
  have HC2 := Lib.hid hc2
  have HG2 := Lib.hid ((hb2.block _ hlt1).trans HG1.out)
  have hbw : w.heap.size < b := by omega
  have hbl2 := hc2.lt
  obtain ⟨q0, q1, q2, -, -, -⟩ := cells3h HG2.out
  clear hc2 hb2 d1 d2
  go_wp2_with fail
  refine (HW.out _).mono ?_
  rintro e w3 ⟨v3, rfl, ho3, hb3⟩
  obtain ⟨va, vc, rfl⟩ := (RdS.of_owns ho3).form
  have HB3 := Lib.hid (bthen HB2.out (Nat.le_refl _) hb3)
  have HC3 : Hid (ClkR w3 cb b 0 (gS (tickW fr f k) 0)) := Lib.hid ((HC2.out.below hb3).congr (fun x => gS_zero _ x))
  have HG3 := Lib.hid ((hb3.block _ (Array.getElem?_eq_some_iff.1 HG2.out).1).trans HG2.out)
  have HO3 := Lib.hid ho3
  have HT0 : Hid (fr = tickW fr f k 0) := Lib.hid (by unfold tickW; simp [bSum])
  clear q0 q1 q2 hb3 ho3 HC2 HW
  go_wp2_with fail
  go_loopg [7, 8] (N + 2) (fun gk at0 i wr => ∃ (j : Nat), j + gk = N + 2 ∧ j ≤ N + 1 ∧ at0 = .int .i64 (tickW fr f k (min j N)) ∧ i = .int .i64 j ∧ Hid (ClkR wr cb b j (gS (tickW fr f k) j)) ∧ Hid (wr.ownsRow w2.heap.size 3 1 (.slice va N vc) N (ints .i64 (bList f k N))) ∧ Hid (wr.heap[w.heap.size]? = some (.cells #[.int .i64 m, .int .i64 f, .int .i64 k] 43 (0, 0))) ∧ Hid (Below w.heap.size w wr))
  case atStart => exact ⟨0, by omega, by omega, by rw [Nat.zero_min, ← HT0.out], rfl, HC3, HO3, HG3, HB3⟩
  case round =>
    obtain ⟨j, hgk, hj, rfl, rfl, HCI, HOI, HGI, HBI⟩ := hrel
    rename World => wi
    have hg : gk = N + 2 - j := by omega
    subst hg
    by_cases hjl : j ≤ N
    · have d1 : decide ((j : Int) ≤ (N : Int)) = true := decide_eq_true (by omega)
      have hj1 : (j : Int) ≤ (N : Int) := by omega
      rw [Nat.min_eq_left hjl]
      have hrng := HTB.out j (by omega)
      have HSET := Lib.hid (cSet_any cb b j _ j (tickW fr f k j) wi HCI.out (by omega) (wfI (by omega) (by omega)) (wfI (by omega) (by omega)))
      go_wp2_with fail
      refine HSET.out.mono ?_
      rintro e w6 ⟨rfl, hc6, ht6, hs6⟩
      have HC6 : Hid (ClkR w6 cb b (j + 1) (gS (tickW fr f k) (j + 1))) := Lib.hid (hc6.congr (fun x => gS_succ _ j x))
      have HO6 : Hid (w6.ownsRow w2.heap.size 3 1 (.slice va N vc) N (ints .i64 (bList f k N))) := Lib.hid (ownsRow_keepT HOI.out (fun q hq => ht6.block q (World.ownsRow.lt HOI.out q hq).2 (by have := (World.ownsRow.lt HOI.out q hq).1; omega)))
      have HG6 := Lib.hid ((ht6.block _ (Array.getElem?_eq_some_iff.1 HGI.out).1 (by omega)).trans HGI.out)
      have HB6 := Lib.hid (ht6.below HBI.out (by omega) HBI.out.size)
      clear hc6 ht6 hs6 HSET HCI HOI HGI HBI
      by_cases hjn : j < N
      · have d3 : decide ((j : Int) < (N : Int)) = true := decide_eq_true (by omega)
        have hj2 : (j : Int) < (N : Int) := by omega
        have hl := bList_len f k N
        have hrd : RdS w6 (.slice va (bList f k N).length vc) 1 (bList f k N).length (ints .i64 (bList f k N)) := by rw [hl]; exact RdS.of_owns HO6.out
        obtain ⟨G, off, rfl, -, -, u0⟩ := ints_at hrd (i := j) (by omega)
        have hlj : (bList f k N)[j]'(by omega) = bSeq f k j := by simp [bList]
        rw [hlj] at u0
        have hsq := bSeq_range f k j
        have hnx : tickW fr f k j + bSeq f k j = tickW fr f k (min (j + 1) N) := by rw [Nat.min_eq_left (by omega)]; unfold tickW; simp only [bSum]; omega
        have HNX := Lib.hid hnx
        clear hlj hrd hnx hl
        generalize bSeq f k j = sq at *
        go_wp2_with fail
        go_roundg (N + 2 - (j + 1))
        case measure => omega
        case rel => exact ⟨j + 1, by omega, by omega, by rw [HNX.out], by go_num, HC6, HO6, HG6, HB6⟩
      · have d3 : decide ((j : Int) < (N : Int)) = false := decide_eq_false (by omega)
        have hj2 : ¬ (j : Int) < (N : Int) := by omega
        obtain rfl : j = N := by omega
        go_wp2_with fail
        go_roundg (j + 2 - (j + 1))
        case measure => omega
        case rel => exact ⟨j + 1, by omega, by omega, by rw [Nat.min_eq_right (by omega)], by go_num, HC6, HO6, HG6, HB6⟩
    · have d1 : decide ((j : Int) ≤ (N : Int)) = false := decide_eq_false (by omega)
      have hj1 : ¬ (j : Int) ≤ (N : Int) := by omega
      obtain rfl : j = N + 1 := by omega
      rw [Nat.min_eq_right (by omega)]
      have hrng := HTB.out N (by omega)
      have hsr := bSum_range f k N
      have htn : tickW fr f k N = fr + bSum f k N := rfl
      have HCN : Hid (ClkR wi cb b (N + 1) (gR (tickW fr f k) N 0)) := Lib.hid (HCI.out.congr (fun x => gS_all _ N x))
      obtain ⟨q0, q1, q2, -, -, -⟩ := cells3h HGI.out
      rw [htn]
      generalize hbs : bSum f k N = bs at *
      have hne : ((fr + bs) != (fr + bs)) = false := by simp
      go_wp2_with fail
      refine (HT.out _).mono ?_
      rintro e w7 ⟨rfl, hb7⟩
      have HC7 := Lib.hid (HCN.out.below hb7)
      have HB7 := Lib.hid (bthen HBI.out (Nat.le_refl _) hb7)
      clear q0 q1 q2 hb7 HCN HCI HOI HGI HBI HT htn hrng
      go_wp2_with fail
      clear hne hbs
      go_loopg [9, 10] (N + 1) (fun gk a i wr => ∃ (n j : Nat), j + gk = N + 1 ∧ j ≤ N + 1 ∧ j ≤ n ∧ n ≤ N + 1 ∧ a = .int .i64 n ∧ i = .int .i64 j ∧ Hid (ClkR wr cb b (N + 1) (gR (tickW fr f k) N n)) ∧ Hid (Below w.heap.size w wr))
      case atStart => exact ⟨0, 0, by omega, by omega, by omega, by omega, rfl, rfl, HC7, HB7⟩
      case round =>
        obtain ⟨n, j, hgk, hj, hjn, hn, rfl, rfl, HCI, HBI⟩ := hrel
        rename World => wi
        have hg : gk = N + 1 - j := by omega
        subst hg
        by_cases hjl : j ≤ N
        · have d1 : decide ((j : Int) ≤ (N : Int)) = true := decide_eq_true (by omega)
          have hj1 : (j : Int) ≤ (N : Int) := by omega
          have HNE := Lib.hid (cNext_any cb b (N + 1) _ wi HCI.out)
          go_wp2_with fail
          refine HNE.out.mono ?_
          rintro e w8 ⟨t, is, rfl, hno, hyes, hb8⟩
          have HC8 := Lib.hid (HCI.out.below hb8)
          have HB8 := Lib.hid (bthen HBI.out (Nat.le_refl _) hb8)
          clear hb8 HNE HCI HBI
          by_cases hnN : n ≤ N
          · cases is with
            | false =>
              have := hno rfl n (wfI (by omega) (by omega))
              rw [gR_at (Nat.le_refl _) hnN] at this
              cases this
            | true =>
              obtain rfl : t = tickW fr f k n := next_first HTR.out hnN (by omega) (hyes rfl).1 (hyes rfl).2
              obtain ⟨d, hd1, hd2, hde⟩ := due_first HTR.out hnN
              have hdue := cDue_any cb b (N + 1) _ (tickW fr f k n) (idsR n (N + 1 - n)) w8 HC8.out (by omega) (idsR_rise _ _) (fun x _ => gR_ids (by omega) x) (fun x hx => by have := idsR_mem.1 hx; exact wfI (by omega) (by omega)) (by rw [idsR_len]; omega) (rise_eq hde (fun m h => due_rise HTR.out hd2 m h))
              rw [hde, idsR_len] at hdue
              have HDUE := Lib.hid hdue
              clear hdue hde hno hyes
              go_wp2_with fail
              refine HDUE.out.mono ?_
              rintro e w9 ⟨v9, rfl, ho9, hc9, ht9⟩
              obtain ⟨va9, vc9, rfl⟩ := (RdS.of_owns ho9).form
              have HC9 : Hid (ClkR w9 cb b (N + 1) (gR (tickW fr f k) N (n + d))) := Lib.hid (hc9.congr (fun x => due_gone x))
              have HB9 := Lib.hid (ht9.below HB8.out (by omega) HB8.out.size)
              have HO9 := Lib.hid (RdS.of_owns ho9)
              clear hc9 ht9 ho9 HDUE HC8 HB8
              go_wp2_with fail
              go_loopg [9, 14] (d + 1) (fun gm a i wj => ∃ (p : Nat), p + gm = d + 1 ∧ p ≤ d ∧ a = .int .i64 ((n + p : Nat) : Int) ∧ i = .int .i64 p ∧ Hid (Below w9.heap.size w9 wj))
              case atStart => exact ⟨0, by omega, by omega, rfl, rfl, Lib.hid (Below.refl _ _)⟩
              case round =>
                obtain ⟨p, hgm, hp, rfl, rfl, HBJ⟩ := hrel
                rename World => wj
                have hg : gk = d + 1 - p := by omega
                subst hg
                by_cases hpl : p < d
                · have d3 : decide ((p : Int) < (d : Int)) = true := decide_eq_true (by omega)
                  have hp1 : (p : Int) < (d : Int) := by omega
                  have hrd : RdS wj (.slice va9 (idsR n d).length vc9) 1 (idsR n d).length (ints .i64 (idsR n d)) := by rw [idsR_len]; exact HO9.out.below HBJ.out
                  obtain ⟨G, off, rfl, -, -, u0⟩ := ints_at hrd (i := p) (by rw [idsR_len]; exact hpl)
                  rw [idsR_at hpl] at u0
                  have hne : ((((n + p : Nat) : Int)) != ((n + p : Nat) : Int)) = false := by simp
                  clear hrd
                  go_wp2_with fail
                  go_roundg (d + 1 - (p + 1))
                  case measure => omega
                  case rel => exact ⟨p + 1, by omega, by omega, by go_num, by go_num, HBJ⟩
                · have d3 : decide ((p : Int) < (d : Int)) = false := decide_eq_false (by omega)
                  have hp1 : ¬ (p : Int) < (d : Int) := by omega
                  obtain rfl : p = d := by omega
                  have HCJ := Lib.hid (HC9.out.below HBJ.out)
                  have HBK := Lib.hid (bthen HB9.out (Nat.le_refl _) HBJ.out)
                  go_wp2_with fail
                  go_roundg (N + 1 - (j + 1))
                  case measure => omega
                  case rel => exact ⟨n + p, j + 1, by omega, by omega, by omega, by omega, rfl, by go_num, HCJ, HBK⟩
          · obtain rfl : n = N + 1 := by omega
            cases is with
            | true =>
              obtain ⟨x, _, hx⟩ := (hyes rfl).1
              rw [gR_none] at hx
              cases hx
            | false =>
              clear hno hyes
              have hcl := cLen_zero cb b (N + 1) _ w8 HC8.out (fun x => gR_none x)
              have HCL := Lib.hid hcl
              clear hcl
              go_wp2_with fail
              refine HCL.out.mono ?_
              rintro e w9 ⟨rfl, rfl⟩
              go_wp2_with fail
              go_ret
              exact ⟨rfl, HB8.out⟩
        · have d1 : decide ((j : Int) ≤ (N : Int)) = false := decide_eq_false (by omega)
          have hj1 : ¬ (j : Int) ≤ (N : Int) := by omega
          obtain rfl : n = N + 1 := by omega
          have hcl := cLen_zero cb b (N + 1) _ wi HCI.out (fun x => gR_none x)
          have HCL := Lib.hid hcl
          clear hcl
          go_wp2_with fail
          refine HCL.out.mono ?_
          rintro e w9 ⟨rfl, rfl⟩
          go_wp2_with fail
          go_ret
          exact ⟨rfl, HBI.out⟩
end Go.Proofs.Ytkgcpbhlbfjcoaa
