/-
  The law WholeHeads: its walk.
-/
import Derived.Test.YtigeedaihbpjiaaTh
import Derived.Test.YtigeedaihbpjiaaOp
import Derived.Test.YtigeedaihbpjiaaPw
import Derived.Deep.SlicePairs
import Derived.Deep.RegionHeld3
namespace Go.Proofs.Ytigeedaihbpjiaa
open Go.RowKit

/-- Heads as cells. -/
def hdC (l : List (Int × Nat)) : List Value := l.flatMap fun h => [.int .i64 h.1, .int .u8 (h.2 : Int)]
theorem hdC_len (l : List (Int × Nat)) : (hdC l).length = l.length * 2 := by
  induction l with
  | nil => rfl
  | cons a l ih => simp only [hdC, List.flatMap_cons, List.length_append, List.length_cons, List.length_nil] at ih ⊢; omega
theorem hdC_append (a b : List (Int × Nat)) : hdC (a ++ b) = hdC a ++ hdC b := by simp [hdC]
theorem hdC_get (l : List (Int × Nat)) (k : Nat) (h : k < l.length) : (hdC l)[k * 2]? = some (.int .i64 (l[k]).1) ∧ (hdC l)[k * 2 + 1]? = some (.int .u8 ((l[k]).2 : Int)) := by
  induction l generalizing k with
  | nil => simp at h
  | cons a l ih =>
    cases k with
    | zero => simp [hdC]
    | succ k =>
      have := ih k (by simpa using h)
      have e1 : (k + 1) * 2 = k * 2 + 2 := by omega
      rw [e1]
      simpa [hdC] using this
def HeadsOk (l : List (Int × Nat)) : Prop := ∀ h ∈ l, (-9223372036854775808 ≤ h.1 ∧ h.1 ≤ 9223372036854775807) ∧ h.2 < 256
def goodB (h : Int × Nat) : Bool := decide ((mkT h.1 h.2).2 = 0)
def goodsL (l : List (Int × Nat)) : List (Int × Nat) := l.filter goodB
def tagN (h : Int × Nat) : Nat := (mkT h.1 h.2).1.toNat
theorem take_snocH {α : Type} (l : List α) (k : Nat) (h : k < l.length) : l.take (k + 1) = l.take k ++ [l[k]] := List.take_succ_eq_append_getElem h
theorem goods_yes {l : List (Int × Nat)} {k : Nat} (h : k < l.length) (hg : (mkT (l[k]).1 (l[k]).2).2 = 0) : goodsL (l.take (k + 1)) = goodsL (l.take k) ++ [l[k]] := by
  rw [take_snocH l k h]; unfold goodsL; rw [List.filter_append]; simp [goodB, hg]
theorem goods_no {l : List (Int × Nat)} {k : Nat} (h : k < l.length) (hg : (mkT (l[k]).1 (l[k]).2).2 ≠ 0) : goodsL (l.take (k + 1)) = goodsL (l.take k) := by
  rw [take_snocH l k h]; unfold goodsL; rw [List.filter_append]; simp [goodB, hg]
def bytesL (l : List (Int × Nat)) : List Nat := l.flatMap fun h => headL h.1 h.2
theorem bytes_snoc {l : List (Int × Nat)} {k : Nat} (h : k < l.length) : bytesL (l.take (k + 1)) = bytesL (l.take k) ++ headL (l[k]).1 (l[k]).2 := by
  unfold bytesL; rw [take_snocH l k h, List.flatMap_append]; simp
theorem bytes_puts (l : List (Int × Nat)) : bytesL l = putsL ((goodsL l).map tagN) := by
  induction l with
  | nil => rfl
  | cons a l ih =>
    unfold bytesL goodsL putsL at *
    rw [List.flatMap_cons, ih]
    by_cases h : (mkT a.1 a.2).2 = 0
    · simp [goodB, h, headL, tagN]
    · simp [goodB, h, headL]
theorem tags_lt {l : List (Int × Nat)} (h : HeadsOk l) : AllLt 18446744073709551616 ((goodsL l).map tagN) := by
  intro b hb
  obtain ⟨x, hx, rfl⟩ := List.mem_map.1 hb
  have := mkT_range x.1 x.2 (h x (List.mem_filter.1 hx).1).2
  unfold tagN; omega
theorem headL_len (n : Int) (w : Nat) : (headL n w).length ≤ 10 := by
  unfold headL; split
  · exact putL_len 9 _
  · simp
theorem bytesL_len (l : List (Int × Nat)) : (bytesL l).length ≤ 10 * l.length := by
  induction l with
  | nil => simp [bytesL]
  | cons a l ih => unfold bytesL at *; rw [List.flatMap_cons, List.length_append]; have := headL_len a.1 a.2; rw [List.length_cons]; omega
theorem goodsL_len (l : List (Int × Nat)) : (goodsL l).length ≤ l.length := List.length_filter_le _ _
theorem good_split {l : List (Int × Nat)} (h : HeadsOk l) (k : Nat) (hk : k < (goodsL l).length) : ((goodsL l).map tagN)[k]?.getD 0 < 18446744073709551616 ∧ splT (((goodsL l).map tagN)[k]?.getD 0) = (((goodsL l)[k]).1, (((goodsL l)[k]).2 : Int), 0) := by
  have hm := List.mem_filter.1 (List.getElem_mem hk)
  have hg : (mkT ((goodsL l)[k]).1 ((goodsL l)[k]).2).2 = 0 := of_decide_eq_true hm.2
  have hr := mkT_range ((goodsL l)[k]).1 ((goodsL l)[k]).2 (h _ hm.1).2
  have e : ((goodsL l).map tagN)[k]?.getD 0 = tagN ((goodsL l)[k]) := by simp [hk]
  rw [e]
  unfold tagN
  refine ⟨by omega, mk_spl (h _ hm.1).2 ?_⟩
  refine Prod.ext ?_ hg
  dsimp only
  omega

theorem cells_new2 (W : World) (a b : Value) (t : TypeId) : ∀ j u, [a, b][j]? = some u → (W.alloc (.cells #[a, b] t)).cell? (Addr.add ⟨W.heap.size, 0, none⟩ j) = some u := by
  intro j u h
  rcases j with _ | _ | j
  · simpa [Addr.add, World.cell?_alloc_new] using h
  · simpa [Addr.add, World.cell?_alloc_new] using h
  · simp at h
theorem held2 {w1 W W' : World} {p q : Addr} {a b : Value} (h : Below w1.heap.size w1 W ∧ W.cell? p = some a ∧ W.cell? q = some b) (hb : Below W.heap.size W W') :
    Below w1.heap.size w1 W' ∧ W'.cell? p = some a ∧ W'.cell? q = some b :=
  ⟨bthen h.1 (Nat.le_refl _) hb, cellB hb h.2.1, cellB hb h.2.2⟩
theorem apart2 {w : World} {b1 b2 : Nat} {e1 e2 : TypeId} {s1 s2 n1 n2 : Nat} {v1 v2 : Value} {x1 x2 : List Value} (h1 : w.ownsRow b1 e1 s1 v1 n1 x1) (h2 : w.ownsRow b2 e2 s2 v2 n2 x2) (hne : e1 ≠ e2) : ∀ g, v1.ownBlock = some g → v2.ownBlock ≠ some g := by
  intro g hg1 hg2
  rcases h1.2 with ⟨rfl, _⟩ | ⟨g1, _, _, rfl, _, hh1, _⟩
  · simp [Value.ownBlock] at hg1
  · rcases h2.2 with ⟨rfl, _⟩ | ⟨g2, _, _, rfl, _, hh2, _⟩
    · simp [Value.ownBlock] at hg2
    · have : g1 = g := by simpa [Value.ownBlock] using hg1
      have : g2 = g := by simpa [Value.ownBlock] using hg2
      subst_vars
      rw [hh1] at hh2; injection hh2 with hh2; injection hh2 with _ ht; exact hne ht
theorem own_other {w w' : World} {base : Nat} {e : TypeId} {size n : Nat} {v : Value} {xs : List Value} {row : Option Nat} (h : w.ownsRow base e size v n xs) (hg : w.grownBy w' row) (hne : ∀ g, v.ownBlock = some g → row ≠ some g) : w'.ownsRow base e size v n xs := by
  refine ⟨h.1, ?_⟩
  rcases h.2 with h1 | ⟨g, cap, cur, rfl, hb, hh, rest⟩
  · exact .inl h1
  · exact .inr ⟨g, cap, cur, rfl, hb, (hg.block g (Array.getElem?_eq_some_iff.1 hh).1 (fun e => hne g rfl e.symm)).trans hh, rest⟩

theorem rds_grown {w w' : World} {v : Value} {n : Nat} {cs : List Value} {o : Obj} {base : Nat} {e : TypeId} {s2 n2 : Nat} {v2 : Value} {xs2 : List Value} {base1 : Nat} {e1 : TypeId} {s1 : Nat} (h : w.ownsRow base1 e1 s1 v n cs) (hg : (w.alloc o).grownBy w' v2.ownBlock) (ho : w.ownsRow base e s2 v2 n2 xs2) (hne : e1 ≠ e) : RdS w' v s1 n cs :=
  RdS.of_owns (own_other (h.alloc o) hg (fun g' h1 h2 => apart2 h ho hne g' h1 h2))
theorem push_facts {w w3 w4 : World} {e1 e2 s1 s2 n1 n2 n3 base3 : Nat} {v1 v2 v3 : Value} {x1 x2 x3 : List Value} (hb : Below w.heap.size w w3) (hsz : w.heap.size ≤ w3.heap.size) (h1 : w3.ownsRow w.heap.size e1 s1 v1 n1 x1) (h2 : w3.ownsRow w.heap.size e2 s2 v2 n2 x2)
    (h3 : w3.ownsRow base3 e1 s1 v3 n3 x3) (hne : e1 ≠ e2) {o : Obj} {row : Option Nat} (hg : (w3.alloc o).grownBy w4 row) (hrow : row = v2.ownBlock) :
    Below w.heap.size w w4 ∧ w4.ownsRow w.heap.size e1 s1 v1 n1 x1 ∧ RdS w4 v3 s1 n3 x3 := by
  subst hrow
  exact ⟨below_push hb hsz h2 (Nat.le_refl _) hg, own_other (h1.alloc o) hg (fun g' a b => apart2 h1 h2 hne g' a b), rds_grown h3 hg h2 hne⟩
theorem Try.info_head : (Try.prog.info? 27).map (fun i => (i.zero, i.size, i.bytes)) = some (some (.agg #[.int .i64 0, .int .u8 0]), 2, 16) := by kernel_rfl
theorem awake01_f : headL 1 2 = [10] ∧ headL 2 5 = [21] ∧ allL [10, 21] = ([10, 21], 0, 0) := by decide +kernel
set_option maxRecDepth 100000 in
set_option maxHeartbeats 1000000 in
theorem awakeTag_any (w : World) : Calls Try.prog 15 #[] w fun e w' => e = .returned (.bool true) ∧ Below w.heap.size w w' := by
  obtain ⟨i0, hi, hz0, hz1, hz2⟩ := info_parts Try.info5
  obtain ⟨l1, l2, l3⟩ := awake01_f
  have L1 := Lib.hid l1; have L2 := Lib.hid l2; have L3 := Lib.hid l3
  clear l1 l2 l3
  go_enter Try.func15, Try.ntmps15
  go_wp2_with fail
  refine (Head_any 1 2 _ (by omega) (by omega) (by omega)).mono ?_
  rintro e w1 ⟨v1, rfl, ho1, hb1⟩
  rw [L1.out] at ho1
  go_wp2_with fail
  refine (Head_any 2 5 _ (by omega) (by omega) (by omega)).mono ?_
  rintro e w2 ⟨v2, rfl, ho2, hb2⟩
  rw [L2.out] at ho2
  have ho1' := ownsB ho1 hb2
  have hsz1 := hb1.size
  have hsz2 := hb2.size
  go_wp2_with (at_builtin; go_must (refine wpList_pushS rfl _ _ 24 rfl w.heap.size 5 i0 (.int .u8 0) 1 1 Try.underlying24 hi hz0 hz1 hz2 rfl (by decide) _ _ _ rfl ho1' _ 1 (u8s [21]) rfl (RdS.of_owns ho2) (u8s_one _) (by unfold maxLen; decide) (by decide) (by omega) ?_; intro v3 w3 hown3 hgrow3 hfr3))
  have hgrow3 : w2.grownBy w3 v1.ownBlock := hgrow3
  have hb3 : Below w.heap.size w w3 := (bthen hb1 (Nat.le_refl _) hb2).grown hgrow3 (by omega) (fun j ej => (ho1.lt j ej).1)
  have HO3 := Lib.hid (RdS.of_owns hown3)
  clear ho1 ho2 ho1' hown3 hgrow3 hfr3 hb1 hb2
  go_wp2_with fail
  refine (All_any [10, 21] _ _ (by simp [AllLt]) HO3.out (by simp)).mono ?_
  rintro e w4 ⟨v4, rfl, ho4, hb4⟩
  rw [L3.out] at ho4 ⊢
  obtain ⟨g4, c4, rfl⟩ := ownsRow_succ ho4
  have hA : Below w4.heap.size w4 (w4.alloc (Obj.cells #[.int .i64 0, .int .i64 0] 34)) := (Below.refl _ _).alloc (Nat.le_refl _) _
  have q0 := cellB hA (ho4.cells (g := g4) rfl 0 (.int .u64 10) rfl)
  have q1 := cellB hA (ho4.cells (g := g4) rfl 1 (.int .u64 21) rfl)
  simp only [Addr.add_lit, Nat.zero_add] at q0 q1
  obtain ⟨p0, p1, _, _⟩ := cells2 (World.alloc_heap_new w4 (Obj.cells #[.int .i64 0, .int .i64 0] 34))
  have hbw := bthen (bthen hb3 (Nat.le_refl _) hb4) (Nat.le_refl _) hA
  clear ho4 hA hb4 hb3 HO3
  go_wp2
  go_ret
  exact ⟨by simp, hbw⟩

set_option maxRecDepth 100000 in
set_option maxHeartbeats 2000000 in
theorem WholeHeads_any (l : List (Int × Nat)) (v : Value) (w : World) (hk : HeadsOk l) (hr : RdS w v 2 l.length (hdC l)) :
    Calls Try.prog 3 #[v] w fun e w' => e = .returned (.bool true) ∧ Below w.heap.size w w' := by
  have HR := Lib.hid hr
  obtain ⟨i0, hi, hz0, hz1, hz2⟩ := info_parts Try.info5
  obtain ⟨j0, hj, hy0, hy1, hy2⟩ := info_parts Try.info_head
  obtain ⟨a, cap, rfl⟩ := hr.form
  have HK := Lib.hid hk
  clear hr hk
  by_cases hbig : 60 < l.length
  · go_enter Try.func3, Try.ntmps3
    go_wp2_with fail
    refine (awakeTag_any _).mono ?_
    rintro e w1 ⟨rfl, hb1⟩
    have hdd : decide ((60 : Int) < l.length) = true := by simp; omega
    go_wp2
    go_ret
    exact ⟨rfl, hb1⟩
  · have hdd : decide ((60 : Int) < l.length) = false := by simp; omega
    have hgl := goodsL_len l
    have HAL := Lib.hid (fun v' w' h h2 => All_any (bytesL l) v' w' (by rw [bytes_puts]; exact putsL_all _ (tags_lt HK.out)) h h2)
    rw [show allL (bytesL l) = ((goodsL l).map tagN, 0, 0) by rw [bytes_puts, allL_puts _ (tags_lt HK.out)]] at HAL
    dsimp only at HAL
    have HGS := Lib.hid (good_split HK.out)
    have hbl := bytesL_len l
    have HTH : Hid ((5 : TypeId) ≠ 27) := Lib.hid (by decide)
    go_enter Try.func3, Try.ntmps3
    go_wp2_with fail
    refine (awakeTag_any _).mono ?_
    rintro e w1 ⟨rfl, hb1⟩
    go_wp2
    go_loopw [3, 4, 5] (fun b good i wr => ∃ k : Nat, k ≤ l.length ∧ i = .int .i64 k ∧ wr.ownsRow w.heap.size 5 1 b (bytesL (l.take k)).length (u8s (bytesL (l.take k))) ∧ wr.ownsRow w.heap.size 27 2 good (goodsL (l.take k)).length (hdC (goodsL (l.take k))) ∧ Below w.heap.size w wr) (fun _ _ i _ => l.length - (intOf i).toNat)
    case atStart => exact ⟨0, by omega, rfl, World.ownsRow_nil _ _ _ _, World.ownsRow_nil _ _ _ _, hb1⟩
    case round =>
      obtain ⟨k, hk, rfl, ho1, ho2, hb⟩ := hrel
      have hsz := hb.size
      by_cases hlt : k < l.length
      · rcases (HR.out.below hb).cases (by decide) with ⟨h0, _⟩ | ⟨hn, _, g, off, cap', hq, h1, h2, h3⟩
        · omega
        obtain ⟨rfl, rfl⟩ : a = some ⟨g, off, none⟩ ∧ cap = cap' := by injection hq with q1 q2 q3; exact ⟨q1, q3⟩
        have c0 := h3 _ _ (hdC_get l k hlt).1
        have c1 := h3 _ _ (hdC_get l k hlt).2
        have hok := HK.out _ (List.getElem_mem hlt)
        have hgy := goods_yes (l := l) hlt
        have hgn := goods_no (l := l) hlt
        have HBS := Lib.hid (bytes_snoc (l := l) hlt)
        have hl1 := bytesL_len (l.take k)
        have hl2 := goodsL_len (l.take k)
        rw [List.length_take, Nat.min_eq_left hk] at hl1 hl2
        generalize l[k] = x at *
        obtain ⟨n, wi⟩ := x
        dsimp only at *
        have hp1 : 1 ≤ (putL 9 (mkT n wi).1.toNat).length := putL_pos 9 _
        have hhl := headL_len n wi
        have hhd : headL n wi = if (mkT n wi).2 = 0 then putL 9 (mkT n wi).1.toNat else [] := rfl
        have HH := Lib.hid (fun w => Head_any n wi w hok.1.1 hok.1.2 hok.2)
        have HM := Lib.hid (fun w => Make_any n wi w hok.1.1 hok.1.2 hok.2)
        unfold tupT at HM
        generalize headL n wi = hd at *
        generalize mkT n wi = m at *
        obtain ⟨t, er⟩ := m
        dsimp only at *
        have hlt' : (k : Int) < l.length := by omega
        have hk0 : (0 : Int) ≤ (k : Int) := by omega
        have c1' : wr.cell? ⟨g, off + k * 2 + 1, none⟩ = some (.int .u8 (wi : Int)) := by rw [Nat.add_assoc]; exact c1
        clear h3 hq c1 hok hn
        have c1 := c1'
        by_cases her : er = 0
        · subst her
          rw [if_pos rfl] at hhd
          have hpos : decide (0 < hd.length) = true := by rw [hhd]; simp; omega
          have HGY := Lib.hid (hgy rfl)
          clear hgy hgn hhd hp1 c1'
          go_wp2
          go_region_held3 (fun w' => Below wr.heap.size wr w' ∧ w'.cell? ⟨g, off + k * 2, none⟩ = some (.int .i64 n) ∧ w'.cell? ⟨g, off + k * 2 + 1, none⟩ = some (.int .u8 (wi : Int)))
            (first | assumption | exact ⟨(Below.refl _ _).drew, c0, c1⟩ | exact held2 (by assumption) (by assumption)) (first
            | (go_at_call 16; refine (HH.out _).mono ?_; rintro e w2 ⟨v2, rfl, ho3, hb2⟩))
          rename_i hS
          obtain ⟨hbr, d0, d1⟩ := hS
          have hR3 := RdS.of_owns ho3
          obtain ⟨a3, c3, rfl⟩ := hR3.form
          have hb2' := bthen hb (Nat.le_refl _) hbr
          have ho1' := ownsB ho1 hbr
          have ho2' := ownsB ho2 hbr
          clear c0 c1 hb2 ho1 ho2 hb hR3
          go_wp2
          go_quiet ((go_at_call 17; exact Calls.quiet_of_same ((HM.out _).mono fun e w' h => ⟨h.1, h.2.symm⟩)))
          have hE := belowN (Below.refl w2.heap.size w2) nq
          have hb3 := bthen hb2' (Nat.le_refl _) hE
          have ho1 := ownsB ho1' hE
          have ho2 := ownsB ho2' hE
          have ho3 := ownsB ho3 hE
          have d0 := cellB hE d0
          have d1 := cellB hE d1
          clear hE hb2' ho1' ho2'
          generalize w2.drewN nq = w3 at *
          have hsz3 := hb3.size
          go_wp2_with (first | (at_builtin; (refine wpList_push rfl (.tmp 60) (.tmp 65) 22 rfl w.heap.size 27 j0 (.agg #[.int .i64 0, .int .u8 0]) 2 16 Try.underlying22 hj hy0 hy1 hy2 rfl (by decide) _ _ _ rfl (ho2.alloc _) ⟨w3.heap.size, 0, none⟩ 1 1 [_, _] rfl rfl (cells_new2 _ _ _ _) (by simp [Value.oneCell']) (by unfold maxLen; omega) (by omega) (by simp; omega) ?_; intro v4 w4 hown4 hgrow4 hfr4; obtain ⟨hb4, ho14, hR34⟩ := push_facts hb3 hsz3 ho1 ho2 ho3 HTH.out hgrow4 rfl; have hsz4 := hb4.size; have HOW := Lib.hid hown4; clear hown4 hgrow4)) | (at_builtin; (refine wpList_pushS rfl (.tmp 67) (.tmp 68) 24 rfl w.heap.size 5 i0 (.int .u8 0) 1 1 Try.underlying24 hi hz0 hz1 hz2 rfl (by decide) _ _ _ rfl ho14 _ hd.length (u8s hd) rfl hR34 (u8s_one _) (by unfold maxLen; omega) (by omega) hsz4 ?_; intro v5 w5 hown5 hgrow5 hfr5)))
          have hgrow5 : w4.grownBy w5 u3.ownBlock := hgrow5
          have HGD : Hid ((goodsL (l.take (k + 1))).length = (goodsL (l.take k)).length + 1) := Lib.hid (by rw [HGY.out]; simp)
          have HBD : Hid ((bytesL (l.take (k + 1))).length = (bytesL (l.take k)).length + hd.length) := Lib.hid (by rw [HBS.out]; simp)
          go_roundw
          case rel => exact ⟨k + 1, by omega, by go_num, by rw [HBD.out, HBS.out, u8s_append]; exact hown5, own_other (by rw [HGD.out, HGY.out, hdC_append]; exact HOW.out) hgrow5 (fun g' h1 h2 => apart2 HOW.out ho14 HTH.out.symm g' h1 h2), hb4.grown hgrow5 hsz4 (fun j ej => (ho14.lt j ej).1)⟩
          case measure => simp [intOf]; omega
        · have hez : (er == 0) = false := by simpa using her
          rw [if_neg her] at hhd
          have hpos : decide (0 < hd.length) = false := by rw [hhd]; rfl
          have HGN := Lib.hid (hgn her)
          clear hgy hgn hhd hp1 c1' her
          go_wp2
          go_region_held3 (fun w' => Below wr.heap.size wr w' ∧ w'.cell? ⟨g, off + k * 2, none⟩ = some (.int .i64 n) ∧ w'.cell? ⟨g, off + k * 2 + 1, none⟩ = some (.int .u8 (wi : Int)))
            (first | assumption | exact ⟨(Below.refl _ _).drew, c0, c1⟩ | exact held2 (by assumption) (by assumption)) (first
            | (go_at_call 16; refine (HH.out _).mono ?_; rintro e w2 ⟨v2, rfl, ho3, hb2⟩))
          rename_i hS
          obtain ⟨hbr, d0, d1⟩ := hS
          have hR3 := RdS.of_owns ho3
          obtain ⟨a3, c3, rfl⟩ := hR3.form
          have hb2' := bthen hb (Nat.le_refl _) hbr
          have ho1' := ownsB ho1 hbr
          have ho2' := ownsB ho2 hbr
          clear c0 c1 hb2 ho3 ho1 ho2 hb
          go_wp2
          go_quiet ((go_at_call 17; exact Calls.quiet_of_same ((HM.out _).mono fun e w' h => ⟨h.1, h.2.symm⟩)))
          have hE := belowN (Below.refl w2.heap.size w2) nq
          have hb3 := bthen hb2' (Nat.le_refl _) hE
          have ho1 := ownsB ho1' hE
          have ho2 := ownsB ho2' hE
          have hR3 := hR3.below hE
          clear hE hb2' ho1' ho2' d0 d1
          generalize w2.drewN nq = w3 at *
          have hsz3 := hb3.size
          go_wp2_with (at_builtin; (refine wpList_pushS rfl (.tmp 67) (.tmp 68) 24 rfl w.heap.size 5 i0 (.int .u8 0) 1 1 Try.underlying24 hi hz0 hz1 hz2 rfl (by decide) _ _ _ rfl ho1 _ hd.length (u8s hd) rfl hR3 (u8s_one _) (by unfold maxLen; omega) (by omega) hsz3 ?_; intro v5 w5 hown5 hgrow5 hfr5))
          have hgrow5 : w3.grownBy w5 u3.ownBlock := hgrow5
          have HBD : Hid ((bytesL (l.take (k + 1))).length = (bytesL (l.take k)).length + hd.length) := Lib.hid (by rw [HBS.out]; simp)
          go_roundw
          case rel => exact ⟨k + 1, by omega, by go_num, by rw [HBD.out, HBS.out, u8s_append]; exact hown5, own_other (by rw [HGN.out]; exact ho2) hgrow5 (fun g' h1 h2 => apart2 ho2 ho1 HTH.out.symm g' h1 h2), hb3.grown hgrow5 hsz3 (fun j ej => (ho1.lt j ej).1)⟩
          case measure => simp [intOf]; omega
      · have hkl : l.take k = l := List.take_of_length_le (by omega)
        rw [hkl] at ho1 ho2
        clear hkl
        have hR1 := Lib.hid (RdS.of_owns ho1)
        have hR2 := Lib.hid (RdS.of_owns ho2)
        obtain ⟨a1, c1, rfl⟩ := (RdS.of_owns ho1).form
        obtain ⟨a2, c2, rfl⟩ := (RdS.of_owns ho2).form
        clear ho1 ho2
        go_wp2_with fail
        refine (HAL.out _ _ hR1.out (by omega)).mono ?_
        rintro e w2 ⟨v2, rfl, ho3, hb2⟩
        have hA : Below w2.heap.size w2 (w2.alloc (Obj.cells #[.int .i64 0, .int .i64 0] 34)) := (Below.refl _ _).alloc (Nat.le_refl _) _
        have HR3 := Lib.hid ((RdS.of_owns ho3).below hA)
        obtain ⟨a3, c3, rfl⟩ := (RdS.of_owns ho3).form
        obtain ⟨p0, p1, _, _⟩ := cells2 (World.alloc_heap_new w2 (Obj.cells #[.int .i64 0, .int .i64 0] 34))
        have HR2 := Lib.hid ((hR2.out.below hb2).below hA)
        have hbw := bthen (bthen hb (Nat.le_refl _) hb2) (Nat.le_refl _) hA
        have hml : ((goodsL l).map tagN).length = (goodsL l).length := by simp
        have HML := Lib.hid hml
        rw [hml] at HR3 ⊢
        clear hml ho3 hA hb2
        go_wp2
        generalize w2.alloc (Obj.cells #[.int .i64 0, .int .i64 0] 34) = wA at *
        clear p0 p1
        go_loop [11] (fun i => ∃ k : Nat, k ≤ (goodsL l).length ∧ i = .int .i64 k) (fun i => (goodsL l).length - (intOf i).toNat)
        case atStart => exact ⟨0, by omega, rfl⟩
        case round =>
          obtain ⟨k, hk, rfl⟩ := hrel
          by_cases hlt : k < (goodsL l).length
          · rcases HR2.out.cases (by decide) with ⟨h0, _⟩ | ⟨hn, _, g, off, cap', hq, h1, h2, h3⟩
            · omega
            obtain ⟨rfl, rfl⟩ : a2 = some ⟨g, off, none⟩ ∧ c2 = cap' := by injection hq with q1 q2 q3; exact ⟨q1, q3⟩
            rcases HR3.out.cases (by decide) with ⟨h0, _⟩ | ⟨hn', _, g', off', cap', hq', h1', h2', h3'⟩
            · omega
            obtain ⟨rfl, rfl⟩ : a3 = some ⟨g', off', none⟩ ∧ c3 = cap' := by injection hq' with q1 q2 q3; exact ⟨q1, q3⟩
            have c0 := h3 _ _ (hdC_get (goodsL l) k hlt).1
            have c1 := h3 _ _ (hdC_get (goodsL l) k hlt).2
            rw [← Nat.add_assoc] at c1
            have c2 := h3' _ _ (u64s_get ((goodsL l).map tagN) k (by rw [HML.out]; exact hlt))
            obtain ⟨hs1, hs2⟩ := HGS.out k hlt
            have HS := Lib.hid (fun w => Split_any (((goodsL l).map tagN)[k]?.getD 0) w hs1)
            rw [hs2] at HS
            unfold tupS at HS
            generalize ((goodsL l).map tagN)[k]?.getD 0 = tg at *
            generalize (goodsL l)[k] = x at *
            obtain ⟨n, wi⟩ := x
            dsimp only at *
            have hlt' : (k : Int) < (goodsL l).length := by omega
            have hk0 : (0 : Int) ≤ (k : Int) := by omega
            clear h3 h3' hs2 hq hq'
            go_wp2_with fail
            refine (HS.out _).mono ?_
            rintro e w' ⟨rfl, rfl⟩
            go_wp2
            go_round
            case rel => exact ⟨k + 1, by omega, by go_num⟩
            case measure => simp [intOf]; omega
          · go_wp2
            go_ret
            exact ⟨rfl, hbw⟩
end Go.Proofs.Ytigeedaihbpjiaa
