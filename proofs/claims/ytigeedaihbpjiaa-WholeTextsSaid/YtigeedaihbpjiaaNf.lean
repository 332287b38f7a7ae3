/-
  The law WholeTexts: its walk.
-/
import Derived.Test.YtigeedaihbpjiaaNe
import Derived.Test.YtigeedaihbpjiaaPk
import Derived.Test.YtigeedaihbpjiaaVi
import Derived.Lib.AppendStr
namespace Go.Proofs.Ytigeedaihbpjiaa
open Go.RowKit

def Reads32 (w : World) (cs : List Value) (rows : List (List Int)) : Prop := cs.length = rows.length ∧ ∀ (i : Nat) (r : List Int), rows[i]? = some r → ∃ c : Value, cs[i]? = some c ∧ RdS w c 1 r.length (ints .i32 r)
def Rows32 (w : World) (v : Value) (rows : List (List Int)) : Prop := ∃ cs : List Value, RdS w v 1 rows.length cs ∧ Reads32 w cs rows
theorem Reads32.below {w w' : World} {cs : List Value} {rows : List (List Int)} (h : Reads32 w cs rows) (hb : Below w.heap.size w w') : Reads32 w' cs rows :=
  ⟨h.1, fun i r hi => by obtain ⟨c, hc, hr⟩ := h.2 i r hi; exact ⟨c, hc, hr.below hb⟩⟩
theorem Reads32.snoc {w : World} {cs : List Value} {rows : List (List Int)} {c : Value} {r : List Int} (h : Reads32 w cs rows) (hr : RdS w c 1 r.length (ints .i32 r)) : Reads32 w (cs ++ [c]) (rows ++ [r]) := by
  refine ⟨by simp [h.1], fun i x hi => ?_⟩
  rcases Nat.lt_trichotomy i rows.length with hlt | rfl | hgt
  · rw [List.getElem?_append_left hlt] at hi
    obtain ⟨c', hc, hr'⟩ := h.2 i x hi
    exact ⟨c', by rw [List.getElem?_append_left (by rw [h.1]; exact hlt)]; exact hc, hr'⟩
  · simp at hi; subst hi
    exact ⟨c, by rw [← h.1]; simp, hr⟩
  · rw [List.getElem?_eq_none (by simp; omega)] at hi; cases hi
theorem rows32_at {w : World} {a : Option Addr} {cap n : Nat} {cs : List Value} {rows : List (List Int)} (h : RdS w (.slice a n cap) 1 n cs) (hn : n = rows.length) {w0 : World} (h2 : Reads32 w0 cs rows) (hb : Below w0.heap.size w0 w) {i : Nat} (hi : i < rows.length) :
    ∃ g off ra rc, a = some ⟨g, off, none⟩ ∧ n ≤ cap ∧ cap ≤ 9223372036854775807 ∧ w.cell? ⟨g, off + i, none⟩ = some (.slice ra (rows[i]).length rc) ∧ RdS w (.slice ra (rows[i]).length rc) 1 (rows[i]).length (ints .i32 rows[i]) ∧ RdS w0 (.slice ra (rows[i]).length rc) 1 (rows[i]).length (ints .i32 rows[i]) ∧ rows[i].length ≤ rc ∧ rc ≤ 9223372036854775807 := by
  obtain ⟨c, hc, hr⟩ := h2.2 i rows[i] (List.getElem?_eq_getElem hi)
  obtain ⟨ra, rc, rfl⟩ := hr.form
  have hrc : rows[i].length ≤ rc ∧ rc ≤ 9223372036854775807 := by
    obtain ⟨_, a', c', he, h1, h2, _⟩ := hr
    injection he with _ _ e3; subst e3; unfold maxLen at h2; exact ⟨h1, h2⟩
  rcases h.cases (by decide) with ⟨h0, _⟩ | ⟨hn, _, g, off, cap', hq, q1, q2, q3⟩
  · omega
  · injection hq with e1 e2 e3
    subst e1 e3
    exact ⟨g, off, ra, rc, rfl, q1, q2, q3 i _ hc, hr.below hb, hr, hrc.1, hrc.2⟩
theorem apartT {w : World} {b1 b2 : Nat} {e1 e2 : TypeId} {s1 s2 n1 n2 : Nat} {v1 v2 : Value} {x1 x2 : List Value} (h1 : w.ownsRow b1 e1 s1 v1 n1 x1) (h2 : w.ownsRow b2 e2 s2 v2 n2 x2) (hne : e1 ≠ e2) : ∀ g, v1.ownBlock = some g → v2.ownBlock ≠ some g := by
  intro g hg1 hg2
  rcases h1.2 with ⟨rfl, _⟩ | ⟨g1, _, _, rfl, _, hh1, _⟩
  · simp [Value.ownBlock] at hg1
  · rcases h2.2 with ⟨rfl, _⟩ | ⟨g2, _, _, rfl, _, hh2, _⟩
    · simp [Value.ownBlock] at hg2
    · have : g1 = g := by simpa [Value.ownBlock] using hg1
      have : g2 = g := by simpa [Value.ownBlock] using hg2
      subst_vars
      rw [hh1] at hh2; injection hh2 with hh2; injection hh2 with _ ht; exact hne ht
theorem own_otherT {w w' : World} {base : Nat} {e : TypeId} {size n : Nat} {v : Value} {xs : List Value} {row : Option Nat} (h : w.ownsRow base e size v n xs) (hg : w.grownBy w' row) (hne : ∀ g, v.ownBlock = some g → row ≠ some g) : w'.ownsRow base e size v n xs := by
  refine ⟨h.1, ?_⟩
  rcases h.2 with h1 | ⟨g, cap, cur, rfl, hb, hh, rest⟩
  · exact .inl h1
  · exact .inr ⟨g, cap, cur, rfl, hb, (hg.block g (Array.getElem?_eq_some_iff.1 hh).1 (fun e => hne g rfl e.symm)).trans hh, rest⟩

theorem rds_grownT {w w' : World} {v : Value} {n : Nat} {cs : List Value} {o : Obj} {base : Nat} {e : TypeId} {s2 n2 : Nat} {v2 : Value} {xs2 : List Value} {base1 : Nat} {e1 : TypeId} {s1 : Nat} (h : w.ownsRow base1 e1 s1 v n cs) (hg : (w.alloc o).grownBy w' v2.ownBlock) (ho : w.ownsRow base e s2 v2 n2 xs2) (hne : e1 ≠ e) : RdS w' v s1 n cs :=
  RdS.of_owns (own_otherT (h.alloc o) hg (fun g' h1 h2 => apartT h ho hne g' h1 h2))
theorem push_factsT {w w3 w4 : World} {e1 e2 s1 s2 n1 n2 n3 base3 : Nat} {v1 v2 v3 : Value} {x1 x2 x3 : List Value} (hb : Below w.heap.size w w3) (hsz : w.heap.size ≤ w3.heap.size) (h1 : w3.ownsRow w.heap.size e1 s1 v1 n1 x1) (h2 : w3.ownsRow w.heap.size e2 s2 v2 n2 x2)
    (h3 : w3.ownsRow base3 e1 s1 v3 n3 x3) (hne : e1 ≠ e2) {o : Obj} {row : Option Nat} (hg : (w3.alloc o).grownBy w4 row) (hrow : row = v2.ownBlock) :
    Below w.heap.size w w4 ∧ w4.ownsRow w.heap.size e1 s1 v1 n1 x1 ∧ RdS w4 v3 s1 n3 x3 := by
  subst hrow
  exact ⟨below_push hb hsz h2 (Nat.le_refl _) hg, own_otherT (h1.alloc o) hg (fun g' a b => apartT h1 h2 hne g' a b), rds_grownT h3 hg h2 hne⟩
theorem cell_one_newN (W : World) (n : Nat) (hn : W.heap.size = n) (v : Value) (t : TypeId) : ∀ j u, [v][j]? = some u → (W.alloc (.cells #[v] t)).cell? (Addr.add ⟨n, 0, none⟩ j) = some u := by subst hn; exact cell_one_new _ _ _
theorem rds_takeN {W : World} {a : Option Addr} {c n : Nat} {l : List Nat} (h : RdS W (.slice a l.length c) 1 l.length (u8s l)) (hn : n ≤ l.length) : RdS W (.slice a n c) 1 n (u8s (l.take n)) := by
  obtain ⟨h1, a', c', he, h3, h4, h5⟩ := h
  injection he with e1 e2 e3
  subst e1 e3
  refine ⟨by simp [u8s]; omega, a, c, rfl, by omega, h4, ?_⟩
  rcases h5 with h5 | ⟨g, off, rfl, hc⟩
  · left; rw [u8s_take, h5]; simp
  · exact .inr ⟨g, off, rfl, fun i x hi => hc i x (by
      rw [u8s_take, List.getElem?_take] at hi
      split at hi
      · exact hi
      · cases hi)⟩
theorem rds_cap {W : World} {a : Option Addr} {c n size : Nat} {cs : List Value} (h : RdS W (.slice a n c) size n cs) : n ≤ c ∧ c ≤ 9223372036854775807 := by
  obtain ⟨_, a', c', he, h3, h4, _⟩ := h
  injection he with _ _ e3; subst e3; unfold maxLen at h4; exact ⟨h3, h4⟩
theorem Try.info_row32 : (Try.prog.info? 54).map (fun i => (i.zero, i.size, i.bytes)) = some (some (.slice none 0 0), 1, 24) := by kernel_rfl

set_option maxRecDepth 100000 in
set_option maxHeartbeats 2000000 in
theorem WholeTexts_any (l : List (List Int)) (v : Value) (less : Int) (w : World) (hwf : ∀ r ∈ l, ∀ n ∈ r, -2147483648 ≤ n ∧ n ≤ 2147483647) (hr : Rows32 w v l) (hless1 : -9223372036854775808 ≤ less) (hless2 : less ≤ 9223372036854775807) :
    Calls Try.prog 9 #[v, .int .i64 less] w fun e w' => e = .returned (.bool true) ∧ Below w.heap.size w w' := by
  obtain ⟨i0, hi, hz0, hz1, hz2⟩ := info_parts Try.info5
  obtain ⟨j0, hj, hy0, hy1, hy2⟩ := info_parts Try.info_row32
  obtain ⟨rcs, hr1, hr2⟩ := hr
  have HR1 := Lib.hid hr1
  have HR2 := Lib.hid hr2
  have HWF := Lib.hid hwf
  obtain ⟨a, cap, rfl⟩ := hr1.form
  have hcap : l.length ≤ cap ∧ cap ≤ 9223372036854775807 := by
    obtain ⟨_, a', c', he, h1, h2, _⟩ := hr1
    injection he with _ _ e3; subst e3; unfold maxLen at h2; exact ⟨h1, h2⟩
  obtain ⟨hcap1, hcap2⟩ := hcap
  have HTH : Hid ((5 : TypeId) ≠ 54) := Lib.hid (by decide)
  clear hr1 hr2 hwf
  by_cases hbig : 20 < l.length
  · have hdd : decide ((20 : Int) < l.length) = true := by simp; omega
    go_enter Try.func9, Try.ntmps9
    go_wp2_with fail
    refine (awakeTexts_any _).mono ?_
    rintro e w1 ⟨rfl, hb1⟩
    go_wp2
    go_ret
    exact ⟨rfl, hb1⟩
  · have hdd : decide ((20 : Int) < l.length) = false := by simp; omega
    go_enter Try.func9, Try.ntmps9
    go_wp2_with fail
    refine (awakeTexts_any _).mono ?_
    rintro e w1 ⟨rfl, hb1⟩
    go_wp2
    go_loopw [5, 6, 7] (fun b good i wr => ∃ (k : Nat) (cs : List Value), k ≤ l.length ∧ i = .int .i64 k ∧ Hid (∀ r ∈ l.take k, r.length ≤ 100) ∧ wr.ownsRow w.heap.size 5 1 b (allB (goodR (l.take k))).length (u8s (allB (goodR (l.take k)))) ∧ wr.ownsRow w.heap.size 54 1 good cs.length cs ∧ Hid (Reads32 w cs (goodR (l.take k))) ∧ Below w.heap.size w wr) (fun _ _ i _ => l.length - (intOf i).toNat)
    case atStart => exact ⟨0, [], by omega, rfl, Lib.hid (by simp), World.ownsRow_nil _ _ _ _, World.ownsRow_nil _ _ _ _, Lib.hid ⟨rfl, fun i r hi => by simp [goodR] at hi⟩, hb1⟩
    case round =>
      obtain ⟨k, cs, hk, rfl, HL, ho1, ho2, HRE, hb⟩ := hrel
      have hsz := hb.size
      by_cases hlt : k < l.length
      · obtain ⟨g, off, ra, rc, rfl, q1, q2, c0, hrow, hrow0, hrc1, hrc2⟩ := rows32_at (HR1.out.below hb) rfl HR2.out hb hlt
        have HROW := Lib.hid hrow
        have HROW0 := Lib.hid hrow0
        have HGY := Lib.hid (goodR_yes (l := l) hlt)
        have HGN := Lib.hid (goodR_no (l := l) hlt)
        have HTS := Lib.hid (take_snocP l k hlt)
        have hok := HWF.out _ (List.getElem_mem hlt)
        have hbl := allB_len (l := goodR (l.take k)) (fun r hr => HL.out r (goodR_mem hr).1)
        have hgl := goodR_len (l.take k)
        have hcl := HRE.out.1
        rw [List.length_take, Nat.min_eq_left hk] at hgl
        generalize l[k] = row at *
        have hlt' : (k : Int) < l.length := by omega
        have hk0 : (0 : Int) ≤ (k : Int) := by omega
        clear hrow hrow0
        by_cases h100 : 100 < row.length
        · have hd1 : decide ((100 : Int) < row.length) = true := by simp; omega
          clear HGY HGN HTS hok
          go_wp2
          go_ret
          exact ⟨rfl, hb⟩
        · have hd1 : decide ((100 : Int) < row.length) = false := by simp; omega
          have htl := textI_len row
          rcases valid_or row with hv | ⟨bi, hb1, hb2, hb3⟩
          · have hokr := (okR_iff row).2 hv
            have HT := Lib.hid (fun w h => Text_ok row (.slice ra row.length rc) w hv (by omega) h)
            have HGY' := Lib.hid (HGY.out hokr)
            clear HGY HGN hok hv
            go_wp2_with fail
            refine (HT.out _ HROW.out).mono ?_
            rintro e w2 ⟨s, rfl, hs, hb2⟩
            have hss : s.size = (textI row).length := by rw [← hs, bsN_len]
            have HSS := Lib.hid hs
            have hbF := hb2.alloc hb2.size (.cells #[.int .i64 0, .int .i64 0] 34)
            have hbw2 := bthen hb (Nat.le_refl _) hbF
            have c0 := cellB hbF c0
            have ho1 := ownsB ho1 hbF
            have ho2 := ownsB ho2 hbF
            have hszF : w.heap.size ≤ w2.heap.size := Nat.le_trans hsz hb2.size
            obtain ⟨p0, p1, _, _⟩ := cells2 (World.alloc_heap_new w2 (Obj.cells #[.int .i64 0, .int .i64 0] 34))
            clear hb2 hs hbF
            go_wp2_with (at_builtin; go_must (refine wpList_push rfl (.tmp 48) (.tmp 53) 68 rfl w.heap.size 54 j0 (.slice none 0 0) 1 24 Try.underlying68 hj hy0 hy1 hy2 rfl (by decide) _ _ _ rfl (ho2.alloc _) _ 1 1 [_] rfl rfl (cell_one_newN (w2.alloc (Obj.cells #[.int .i64 0, .int .i64 0] 34)) _ (by simp) _ _) (by simp [Value.oneCell']) (by unfold maxLen; omega) (by omega) (by simp; omega) ?_; intro v4 w4 hown4 hgrow4 hfr4))
            have hb4 := below_push hbw2 (by simp; omega) ho2 (Nat.le_refl _) hgrow4
            have ho14 := own_otherT (ho1.alloc _) hgrow4 (fun g' h1 h2 => apartT ho1 ho2 HTH.out g' h1 h2)
            have hsz4 := hb4.size
            have HO4 := Lib.hid hown4
            clear ho1 ho2 hgrow4 hfr4 hown4 hbw2 c0 p0 p1
            refine (Put_any (textI row).length w4 (by omega)).mono ?_
            rintro e w5 ⟨v5, rfl, ho5, hb5⟩
            have hb5w := bthen hb4 (Nat.le_refl _) hb5
            have hsz5 := hb5w.size
            have ho15 := ownsB ho14 hb5
            have HO5 := Lib.hid (ownsB HO4.out hb5)
            have hR5 := RdS.of_owns ho5
            have hpl := putL_len 9 (textI row).length
            clear ho5 ho14 hb4
            go_wp2_with (first | (at_builtin; (refine wpList_pushS rfl (.tmp 55) (.tmp 59) 24 rfl w.heap.size 5 i0 (.int .u8 0) 1 1 Try.underlying24 hi hz0 hz1 hz2 rfl (by decide) _ _ _ rfl ho15 _ (putL 9 (textI row).length).length (u8s (putL 9 (textI row).length)) rfl hR5 (u8s_one _) (by unfold maxLen; omega) (by omega) hsz5 ?_; intro v6 w6 hown6 hgrow6 hfr6; have hgrow6 : w5.grownBy w6 u5.ownBlock := hgrow6; have hb6 : Below w.heap.size w w6 := hb5w.grown hgrow6 hsz5 (fun j ej => (ho15.lt j ej).1); have hsz6 := hb6.size; have HO6 := Lib.hid (own_otherT HO5.out hgrow6 (fun g' h1 h2 => apartT HO5.out ho15 HTH.out.symm g' h1 h2)))) | (at_builtin; (refine Lib.wpList_append_own_string _ rfl (.tmp 60) (.tmp 61) 24 9 rfl w.heap.size 5 i0 Try.underlying24 Try.underlying9 hi hz0 hz1 hz2 _ _ _ rfl hown6 s rfl (by unfold maxLen; omega) (by omega) hsz6 ?_; intro v7 w7 hown7 hgrow7 _)))
            have hgrow7 : w6.grownBy w7 v6.ownBlock := hgrow7
            have HBD : Hid (allB (goodR (l.take (k + 1))) = allB (goodR (l.take k)) ++ putL 9 (textI row).length ++ textI row) := Lib.hid (by rw [HGY'.out, allB_append, allB_one]; unfold itemB; rw [List.append_assoc])
            have hown7' : w7.ownsRow w.heap.size 5 1 v7 (allB (goodR (l.take (k + 1)))).length (u8s (allB (goodR (l.take (k + 1))))) := by
              rw [HBD.out, u8s_append, u8s_append, List.length_append, List.length_append, show u8s (textI row) = Lib.strCells s by rw [strCells_u8s, HSS.out]]; rw [hss] at hown7; exact hown7
            go_roundw
            case rel => exact ⟨k + 1, cs ++ [.slice ra row.length rc], by omega, by go_num, Lib.hid (by rw [HTS.out]; intro r hr; rcases List.mem_append.1 hr with h | h; exact HL.out r h; rw [List.mem_singleton.1 h]; omega), hown7', by simpa using own_otherT HO6.out hgrow7 (fun g' h1 h2 => apartT HO6.out hown6 HTH.out.symm g' h1 h2), Lib.hid (by rw [HGY'.out]; exact HRE.out.snoc HROW0.out), hb6.grown hgrow7 hsz6 (fun j ej => (hown6.lt j ej).1)⟩
            case measure => simp [intOf]; omega
          · have HT := Lib.hid (fun w h => Text_bad row (.slice ra row.length rc) w bi hb1 hok hb2 hb3 (by omega) h)
            have HGN' := Lib.hid (HGN.out (by
              cases ho : okR row with
              | false => rfl
              | true =>
                have := (okR_iff row).1 ho row[bi] (List.getElem_mem hb1)
                simp [hb1] at hb2; rw [hb2] at this; cases this))
            clear HGY HGN hok hb2 hb3
            go_wp2_with fail
            refine (HT.out _ HROW.out).mono ?_
            rintro e w2 ⟨rfl, hb2⟩
            have hbF := hb2.alloc hb2.size (.cells #[.int .i64 1, .int .i64 bi] 34)
            have hbw2 := bthen hb (Nat.le_refl _) hbF
            have ho1 := ownsB ho1 hbF
            have ho2 := ownsB ho2 hbF
            clear hb2 hbF c0
            go_wp2
            go_roundw
            case rel => exact ⟨k + 1, cs, by omega, by go_num, Lib.hid (by rw [HTS.out]; intro r hr; rcases List.mem_append.1 hr with h | h; exact HL.out r h; rw [List.mem_singleton.1 h]; omega), by rw [HGN'.out]; exact ho1, ho2, Lib.hid (by rw [HGN'.out]; exact HRE.out), hbw2⟩
            case measure => simp [intOf]; omega
      · have hkl : l.take k = l := List.take_of_length_le (by omega)
        rw [hkl] at ho1 HL HRE
        clear hkl
        obtain ⟨wo, hwo⟩ : ∃ wo, wo = wr := ⟨_, rfl⟩
        subst hwo
        have HG : Hid (∀ r ∈ goodR l, okR r = true ∧ r.length ≤ 100) := Lib.hid (fun r hr => ⟨(goodR_mem hr).2, HL.out r (goodR_mem hr).1⟩)
        have hgl := goodR_len l
        have hbl := allB_len (fun r hr => (HG.out r hr).2)
        have HLT := Lib.hid (allB_lt HG.out)
        have hcl := HRE.out.1
        clear HL
        generalize goodR l = gs at *
        obtain ⟨bs, hbs⟩ : ∃ bs, bs = allB gs := ⟨_, rfl⟩
        rw [← hbs] at ho1 hbl HLT
        have hR1 := RdS.of_owns ho1
        have hR2 := Lib.hid (RdS.of_owns ho2)
        have HNW := Lib.hid (New_any bs _ _ hR1 (by omega))
        have HR1B := Lib.hid hR1
        obtain ⟨a1, c1, rfl⟩ := hR1.form
        obtain ⟨a2, c2, rfl⟩ := hR2.out.form
        have HBS := Lib.hid hbs
        clear ho1 ho2 hR1 hbs
        go_wp2_with fail
        refine HNW.out.mono ?_
        rintro e w3 ⟨B, rfl, hi3, hB, hb3⟩
        have HI3 := Lib.hid hi3
        clear hi3
        go_wp2
        go_loopw [11] (fun i wx => ∃ k' : Nat, k' ≤ gs.length ∧ i = .int .i64 k' ∧ Hid (InAt wx B bs (allB (gs.take k')).length) ∧ Hid (Below wo.heap.size wo wx)) (fun i _ => gs.length - (intOf i).toNat)
        case atStart => exact ⟨0, by omega, rfl, Lib.hid (by simpa [allB] using HI3.out), Lib.hid hb3⟩
        case round =>
          obtain ⟨k', hk', rfl, HI, hbx⟩ := hrel
          have HBX := hbx
          have hbx := HBX.out
          have hbw := bthen hb (Nat.le_refl _) hbx
          have hszx := hbx.size
          by_cases hlt : k' < gs.length
          · have HW := Lib.hid (whole_at (fun r hr => (HG.out r hr).2) hlt (T := bs.length) (by rw [HBS.out]; exact allB_take_le _ _) (by rw [HBS.out]; exact Nat.le_refl _))
            rw [← HBS.out, List.take_length] at HW
            obtain ⟨e1, e2, e3⟩ := HW.out
            have hrow := HG.out _ (List.getElem_mem hlt)
            obtain ⟨g2, off2, rb, rd, rfl, q1, q2, c0, hr0, hr00, hrd1, hrd2⟩ := rows32_at hR2.out hcl HRE.out hb hlt
            have HROW := Lib.hid hr0
            have HC0 := Lib.hid c0
            have htl := textI_len gs[k']
            have HBY := Lib.hid (Bytes_ok bs B (allB (gs.take k')).length 1000 wr HI.out (by omega) HLT.out (by decide) (by rw [e1]) (by rw [e1]; show (textI gs[k']).length ≤ 1000; omega) (by rw [e1]; have := HW.out.2.2; have := allB_take_le gs (k' + 1); rw [← HBS.out] at this; show (putL 9 (textI gs[k']).length).length + (textI gs[k']).length ≤ _; omega))
            rw [e1] at HBY
            dsimp only at HBY
            rw [e2, e3] at HBY
            have HTX := Lib.hid (textI_lt hrow.1)
            have HRU := Lib.hid (runes_back hrow.1)
            have hBx : B < wr.heap.size := by obtain ⟨v0, g1, _⟩ := HI.out; exact (Array.getElem?_eq_some_iff.1 g1).1
            generalize gs[k'] = row at *
            clear e1 e2 e3 hr0 hr00 HW
            have hlt' : (k' : Int) < gs.length := by omega
            have hk0 : (0 : Int) ≤ (k' : Int) := by omega
            go_wp2_with fail
            refine HBY.out.mono ?_
            rintro e w4 ⟨v4, rfl, h4, h4o, hi4, hu4⟩
            have hf4 : Below w4.heap.size w4 (w4.alloc (.cells #[.int .i64 0, .int .i64 0] 34)) := (Below.refl _ _).alloc (Nat.le_refl _) _
            have HV := Lib.hid (run_conv HTX.out (h4.below hf4))
            have HN4 := Lib.hid (World.alloc_heap_new w4 (.cells #[.int .i64 0, .int .i64 0] 34))
            have HI4 := Lib.hid (hi4.below hf4)
            have hb4 : Below wo.heap.size wo (w4.alloc (.cells #[.int .i64 0, .int .i64 0] 34)) := bthen (bthen2 hbx hu4 hB hszx) (Nat.le_refl _) hf4
            have hszu := hu4.size
            clear h4 h4o hi4 c0 hbx
            go_wp2_with fail
            rw [HV.out]
            simp only [Result.andThen]
            rw [Oper.upon_value]
            go_wp2_with fail
            have hms : (mkS (textI row)).size = (textI row).length := by rw [← bsN_len, bsN_mkS HTX.out]
            refine (Runes_any (mkS (textI row)) _ (by omega)).mono ?_
            rw [bsN_mkS HTX.out, HRU.out]
            rintro e w5 ⟨v5, rfl, ho5, hb5⟩
            dsimp only at ho5
            have hf5 : Below w5.heap.size w5 (w5.alloc (.cells #[.int .i64 0, .int .i64 0] 34)) := (Below.refl _ _).alloc (Nat.le_refl _) _
            have hsz5 := hb5.size
            have hb6 := bthen (bthen hb4 (Nat.le_refl _) hb5) (Nat.le_refl _) hf5
            obtain ⟨p0, p1, _, _⟩ := cells2 ((hf5.block _ (by simp at hsz5; omega)).trans ((hb5.block _ (by simp)).trans HN4.out))
            obtain ⟨r0, r1, _, _⟩ := cells2 (World.alloc_heap_new w5 (.cells #[.int .i64 0, .int .i64 0] 34))
            have HI6 := Lib.hid ((HI4.out.below hb5).below hf5)
            have HRB := Lib.hid ((RdS.of_owns ho5).below hf5)
            have c0 := cellB hb6 HC0.out
            have HS := Lib.hid (rSame_true _ _ row _ HRB.out (HROW.out.below hb6))
            obtain ⟨a5, c5, rfl⟩ := HRB.out.form
            clear ho5 hb4 hf4
            dsimp only
            go_wp2_with fail
            refine HS.out.mono ?_
            rintro e w7 ⟨rfl, hb7⟩
            have HI7 := Lib.hid (HI6.out.below hb7)
            have hb7' := bthen hb6 (Nat.le_refl _) hb7
            clear p0 p1 r0 r1 c0
            go_wp2
            go_roundw
            case rel => exact ⟨k' + 1, by omega, by go_num, HI7, Lib.hid hb7'⟩
            case measure => simp [intOf]; omega
          · have hkl' : gs.take k' = gs := List.take_of_length_le (by omega)
            rw [hkl', ← HBS.out] at HI
            clear hkl'
            obtain ⟨wp, hwp⟩ : ∃ wp, wp = wr := ⟨_, rfl⟩
            subst hwp
            have HLF : Hid (∀ W, InAt W B bs bs.length → Calls Try.prog 47 #[.pointer (some ⟨B, 0, none⟩)] W fun e w' => e = .returned (.int .i64 0) ∧ Below W.heap.size W w') := Lib.hid (fun W h => by have := Left_any bs B bs.length W h (by omega); rwa [Nat.sub_self] at this)
            have hend : decide ((k' : Int) < gs.length) = false := by simp; omega
            by_cases hless3 : less < 1
            · go_wp2_with fail
              refine (HLF.out _ HI.out).mono ?_
              rintro e w4 ⟨rfl, hb4⟩
              have HI4 := Lib.hid (HI.out.below hb4)
              go_wp2_with fail
              refine (HLF.out _ HI4.out).mono ?_
              rintro e w5 ⟨rfl, hb5⟩
              go_wp2
              go_ret
              exact ⟨rfl, bthen (bthen hbw (Nat.le_refl _) hb4) (Nat.le_refl _) hb5⟩
            by_cases hless4 : (bs.length : Int) < less
            · go_wp2_with fail
              refine (HLF.out _ HI.out).mono ?_
              rintro e w4 ⟨rfl, hb4⟩
              have HI4 := Lib.hid (HI.out.below hb4)
              go_wp2_with fail
              refine (HLF.out _ HI4.out).mono ?_
              rintro e w5 ⟨rfl, hb5⟩
              go_wp2
              go_ret
              exact ⟨rfl, bthen (bthen hbw (Nat.le_refl _) hb4) (Nat.le_refl _) hb5⟩
            obtain ⟨m, rfl⟩ : ∃ m : Nat, less = (m : Int) := ⟨less.toNat, by omega⟩
            obtain ⟨T, hTm⟩ : ∃ T : Nat, T + m = bs.length := ⟨bs.length - m, by omega⟩
            have hTl : T < bs.length := by omega
            have htt : (bs.take T).length = T := by rw [List.length_take]; omega
            have HTI := Lib.hid (show (bs.length : Int) - (m : Int) = (T : Int) by omega)
            have HTT := Lib.hid htt
            have HNX : Hid (∀ W, Below wo.heap.size wo W → Calls Try.prog 45 #[.slice a1 T c1] W fun e w' => ∃ B, e = .returned (.pointer (some ⟨B, 0, none⟩)) ∧ InAt w' B (bs.take T) 0 ∧ W.heap.size ≤ B ∧ Below W.heap.size W w') := Lib.hid (fun W hW => New_any (bs.take T) _ W (by rw [htt]; exact rds_takeN (HR1B.out.below hW) (by omega)) (by omega))
            have hc1 := rds_cap HR1B.out
            clear hTm htt
            go_wp2_with fail
            refine (HLF.out _ HI.out).mono ?_
            rintro e w4 ⟨rfl, hb4⟩
            have hb4' := bthen hbx (Nat.le_refl _) hb4
            have hTI := HTI.out
            go_wp2_with fail
            refine (HNX.out _ hb4').mono ?_
            rintro e w5 ⟨B2, rfl, hi5, hB2, hb5⟩
            have HI5 := Lib.hid hi5
            have hb5' := bthen hb4' (Nat.le_refl _) hb5
            have hsz5 := hb4'.size
            clear hi5 hTI
            go_wp2
            go_loopw [17] (fun n wy => ∃ j : Nat, j ≤ gs.length ∧ n = .int .i64 j ∧ Hid (InAt wy B2 (bs.take T) (allB (gs.take j)).length) ∧ Hid (Below wo.heap.size wo wy)) (fun n _ => gs.length - (intOf n).toNat)
            case atStart => exact ⟨0, by omega, rfl, Lib.hid (by simpa [allB] using HI5.out), Lib.hid hb5'⟩
            case round =>
              obtain ⟨j, hj, rfl, HJ, hby⟩ := hrel
              have HBY := hby
              have hby := HBY.out
              have hbv := bthen hb (Nat.le_refl _) hby
              have hpj : (allB (gs.take j)).length ≤ T := by obtain ⟨_, _, _, _, h4⟩ := HJ.out; rwa [HTT.out] at h4
              have HL3 := Lib.hid (Left_any (bs.take T) B2 (allB (gs.take j)).length wr HJ.out (by rw [HTT.out]; omega))
              rw [HTT.out] at HL3
              by_cases hlt3 : j < gs.length
              · by_cases hsm : (allB (gs.take j)).length < T
                · have hd3 : decide ((0 : Int) < ((T - (allB (gs.take j)).length : Nat) : Int)) = true := by simp; omega
                  by_cases hwh : (allB (gs.take (j + 1))).length ≤ T
                  · have HW := Lib.hid (whole_at (fun r hr => (HG.out r hr).2) hlt3 hwh (by rw [← HBS.out]; omega))
                    rw [← HBS.out] at HW
                    obtain ⟨e1, e2, e3⟩ := HW.out
                    have htl := textI_len gs[j]
                    have hrow := HG.out _ (List.getElem_mem hlt3)
                    have HBY2 : Hid (∀ W, InAt W B2 (bs.take T) (allB (gs.take j)).length → _) := Lib.hid (fun W hW => Bytes_ok (bs.take T) B2 (allB (gs.take j)).length 1000 W hW (by rw [HTT.out]; omega) (fun x hx => HLT.out x (List.mem_of_mem_take hx)) (by decide) (by rw [e1]) (by rw [e1]; show (textI gs[j]).length ≤ 1000; omega) (by rw [e1, HTT.out]; show (putL 9 (textI gs[j]).length).length + (textI gs[j]).length ≤ _; omega))
                    rw [e1] at HBY2
                    dsimp only at HBY2
                    rw [e2, e3] at HBY2
                    clear e1 e2 e3 HW
                    generalize gs[j] = row at *
                    go_wp2_with fail
                    refine HL3.out.mono ?_
                    rintro e w6 ⟨rfl, hb6⟩
                    have HJ6 := Lib.hid (HJ.out.below hb6)
                    go_wp2_with fail
                    refine (HBY2.out _ HJ6.out).mono ?_
                    rintro e w7 ⟨v7, rfl, _, _, hi7, hu7⟩
                    have hf7 : Below w7.heap.size w7 (w7.alloc (.cells #[.int .i64 0, .int .i64 0] 34)) := (Below.refl _ _).alloc (Nat.le_refl _) _
                    have hb67 := bthen hby (Nat.le_refl _) hb6
                    have hb7 := bthen (bthen2 hb67 hu7 (by omega) hb67.size) (Nat.le_refl _) hf7
                    have HI7 := Lib.hid (hi7.below hf7)
                    clear hi7
                    go_wp2
                    go_roundw
                    case rel => exact ⟨j + 1, by omega, by go_num, HI7, Lib.hid hb7⟩
                    case measure => simp [intOf]; omega
                  · have HCT := Lib.hid (cut_at (fun r hr => (HG.out r hr).2) hlt3 (T := T) (by omega) hpj)
                    rw [← HBS.out] at HCT
                    have HBE : Hid (∀ W, InAt W B2 (bs.take T) (allB (gs.take j)).length → _) := Lib.hid (fun W hW => Bytes_err (bs.take T) B2 (allB (gs.take j)).length 1000 W hW (by rw [HTT.out]; omega) (fun x hx => HLT.out x (List.mem_of_mem_take hx)) (by decide) (by rw [HCT.out]; decide))
                    rw [HCT.out] at HBE
                    go_wp2_with fail
                    refine HL3.out.mono ?_
                    rintro e w6 ⟨rfl, hb6⟩
                    have HJ6 := Lib.hid (HJ.out.below hb6)
                    go_wp2_with fail
                    refine (HBE.out _ HJ6.out).mono ?_
                    rintro e w7 ⟨rfl, hb7⟩
                    have hf7 : Below w7.heap.size w7 (w7.alloc (.cells #[.int .i64 4, .int .i64 ((allB (gs.take j)).length : Int)] 34)) := (Below.refl _ _).alloc (Nat.le_refl _) _
                    go_wp2
                    go_ret
                    exact ⟨rfl, bthen (bthen (bthen hbv (Nat.le_refl _) hb6) (Nat.le_refl _) hb7) (Nat.le_refl _) hf7⟩
                · have hd3 : decide ((0 : Int) < ((T - (allB (gs.take j)).length : Nat) : Int)) = false := by simp; omega
                  go_wp2_with fail
                  refine HL3.out.mono ?_
                  rintro e w6 ⟨rfl, hb6⟩
                  go_wp2
                  go_ret
                  exact ⟨rfl, bthen hbv (Nat.le_refl _) hb6⟩
              · exfalso
                rw [List.take_of_length_le (by omega), ← HBS.out] at hpj
                omega
end Go.Proofs.Ytigeedaihbpjiaa
