/-
  ticks: Due: contract.
-/
import Derived.Test.YtkgcpbhlbfjcoaaBw9
import Derived.Test.YtkgcpbhlbfjcoaaBw13
namespace Go.Proofs.Ytkgcpbhlbfjcoaa
open Go Go.RowKit Go.Maps Go.WideShapes

theorem Try.infoTicks : (Try.prog.info? 3).map (fun i => (i.zero, i.size, i.bytes)) = some (some (.int .i64 0), 1, 8) := by kernel_rfl
/-- Who waits for a tick no later than now. -/
def dueL (g : Int → Option Int) (now : Int) (ids : List Int) : List Int := ids.filter fun x => decide ((g x).getD 0 ≤ now)
theorem dueL_yes {g : Int → Option Int} {now : Int} {ids : List Int} {k : Nat} (h : k < ids.length) (hd : (g ids[k]).getD 0 ≤ now) : dueL g now (ids.take (k + 1)) = dueL g now (ids.take k) ++ [ids[k]] := by
  unfold dueL
  rw [List.take_succ_eq_append_getElem h, List.filter_append]
  simp [hd]
theorem dueL_no {g : Int → Option Int} {now : Int} {ids : List Int} {k : Nat} (h : k < ids.length) (hd : ¬ (g ids[k]).getD 0 ≤ now) : dueL g now (ids.take (k + 1)) = dueL g now (ids.take k) := by
  unfold dueL
  rw [List.take_succ_eq_append_getElem h, List.filter_append]
  simp [hd]
theorem dueL_le (g : Int → Option Int) (now : Int) (ids : List Int) : (dueL g now ids).length ≤ ids.length := List.length_filter_le _ _
theorem strike_take {l : List Int} {k : Nat} (h : k < l.length) (g : Int → Option Int) (y : Int) : (if y = l[k] then none else if y ∈ l.take k then none else g y) = if y ∈ l.take (k + 1) then none else g y := by
  rw [List.take_succ_eq_append_getElem h]
  by_cases h1 : y = l[k]
  · rw [if_pos h1, if_pos (List.mem_append.2 (.inr (List.mem_singleton.2 h1)))]
  · rw [if_neg h1]
    by_cases h2 : y ∈ l.take k
    · rw [if_pos h2, if_pos (List.mem_append.2 (.inl h2))]
    · rw [if_neg h2, if_neg (fun h3 => (List.mem_append.1 h3).elim h2 (fun h4 => h1 (List.mem_singleton.1 h4)))]
theorem ownsRow_keepT {w w' : World} {base : Nat} {e : TypeId} {size n : Nat} {v : Value} {xs : List Value} (h : w.ownsRow base e size v n xs) (hk : ∀ g, v.ownBlock = some g → w'.heap[g]? = w.heap[g]?) : w'.ownsRow base e size v n xs := by
  refine ⟨h.1, ?_⟩
  rcases h.2 with h1 | ⟨g, cap, cur, hv, hb, hh, rest⟩
  · exact .inl h1
  · exact .inr ⟨g, cap, cur, hv, hb, (hk g (by rw [hv]; rfl)).trans hh, rest⟩
theorem cell1h {W : World} {B : Nat} {x : Value} {t : TypeId} (h : W.heap[B]? = some (.cells #[x] t (0, 0))) : W.cell? ⟨B, 0, none⟩ = some x := by
  simp only [World.cell?, h]
  rfl

set_option maxRecDepth 100000 in
set_option maxHeartbeats 2000000 in
theorem cDue_any (cb b n : Nat) (g : Int → Option Int) (now : Int) (ids : List Int) (w : World) (h : ClkR w cb b n g) (hn : n ≤ 100000) (hr : ids.Pairwise (· < ·)) (hi : ∀ x, WfI x → ((g x).isSome = true ↔ x ∈ ids)) (hw : ∀ x ∈ ids, WfI x) (hlen : ids.length ≤ 19)
    (hup : ∀ (m : Nat) (h1 : m + 1 < (dueL g now ids).length), (g ((dueL g now ids)[m]'(by omega))).getD 0 ≤ (g (dueL g now ids)[m + 1]).getD 0) :
    Calls Try.prog 29 #[.pointer (some ⟨cb, 0, none⟩), .int .i64 now] w fun e w' => ∃ v, e = .returned v ∧ w'.ownsRow w.heap.size 3 1 v (dueL g now ids).length (ints .i64 (dueL g now ids)) ∧ ClkR w' cb b n (fun x => if x ∈ dueL g now ids then none else g x) ∧ Turn b w w' := by
  obtain ⟨i0, hi0, hz0, hz1, hz2⟩ := info_parts Try.infoTicks
  have hb0 : Below w.heap.size w (w.alloc (.cells #[.pointer (some ⟨cb, 0, none⟩)] 58)) := (Below.refl _ _).alloc (Nat.le_refl _) _
  have hq := World.alloc_heap_new w (.cells #[.pointer (some ⟨cb, 0, none⟩)] 58)
  have hbl := h.lt
  have HC0 := Lib.hid (h.below hb0)
  have HS := Lib.hid (fun W (hW : ClkR W cb b n g) => msorted_any cb b n g ids W hW hn hr hi hw)
  have HW := Lib.hid hw
  have HUP := Lib.hid hup
  have HYES := Lib.hid (fun (k : Nat) (hk : k < ids.length) => dueL_yes (g := g) (now := now) hk)
  have HNO := Lib.hid (fun (k : Nat) (hk : k < ids.length) => dueL_no (g := g) (now := now) hk)
  have hle := dueL_le g now ids
  have p0 : (w.alloc (.cells #[.pointer (some ⟨cb, 0, none⟩)] 58)).cell? ⟨w.heap.size, 0, none⟩ = some (.pointer (some ⟨cb, 0, none⟩)) := cell1h hq
  have p1 := HC0.out.read
  have HB0 := Lib.hid hb0
  have HQ := Lib.hid hq
  have hsz0 : w.heap.size < (w.alloc (.cells #[.pointer (some ⟨cb, 0, none⟩)] 58)).heap.size := by simp
  clear h hb0 hq hr hi hw hup
  go_enter Try.func29, Try.ntmps29
  go_upto_region 1 with fail
  generalize w.alloc (.cells #[.pointer (some ⟨cb, 0, none⟩)] 58) = w0 at *
  go_wp2_with fail
  refine (mkeys_any _ _).mono ?_
  rintro e w1 ⟨rfl, rfl⟩
  go_wp2_with fail
  refine (HS.out w0 HC0.out).mono ?_
  rintro e w2 ⟨v2, rfl, ho2, hb2⟩
  have HV := Lib.hid (RdS.of_owns ho2)
  obtain ⟨va2, vc2, rfl⟩ := HV.out.form
  have HC2 := Lib.hid (HC0.out.below hb2)
  have HQ2 := Lib.hid ((hb2.block _ hsz0).trans HQ.out)
  have HB2 := Lib.hid (bthen HB0.out (Nat.le_refl _) hb2)
  have hs2 := hb2.size
  clear ho2 hb2 p0 p1 HS HC0 HQ HB0
  go_wp2_with fail
  go_loopw [5, 19] (fun out i wr => ∃ k : Nat, k ≤ ids.length ∧ i = .int .i64 k ∧ wr.ownsRow w2.heap.size 3 1 out (dueL g now (ids.take k)).length (ints .i64 (dueL g now (ids.take k))) ∧ Below w2.heap.size w2 wr) (fun _ i _ => ids.length - (intOf i).toNat)
  case atStart => exact ⟨0, by omega, rfl, by simpa [dueL, ints] using World.ownsRow_nil w2 w2.heap.size 3 1, Below.refl _ _⟩
  case round =>
    obtain ⟨k, hk, rfl, hown, hb⟩ := hrel
    have HBR := Lib.hid hb
    have HOW := Lib.hid hown
    have hcr := HC2.out.below hb
    have p1 := hcr.read
    have p0 : wr.cell? ⟨w.heap.size, 0, none⟩ = some (.pointer (some ⟨cb, 0, none⟩)) := cell1h ((hb.block _ (by omega)).trans HQ2.out)
    by_cases hkl : k < ids.length
    · have d1 : decide ((k : Int) < (ids.length : Int)) = true := decide_eq_true (by omega)
      have hk1 : (k : Int) < (ids.length : Int) := by omega
      obtain ⟨G, off, rfl, -, -, u0⟩ := ints_at (HV.out.below hb) hkl
      have hlk := hcr.look (HW.out _ (List.getElem_mem hkl))
      have HY := Lib.hid (HYES.out k hkl)
      have HN := Lib.hid (HNO.out k hkl)
      have hdl : (dueL g now (ids.take k)).length ≤ 19 := Nat.le_trans (dueL_le g now _) (by rw [List.length_take]; omega)
      clear hcr hown hb
      generalize ids[k] = x at *
      by_cases hnow : (g x).getD 0 ≤ now
      · have d2 : decide ((g x).getD 0 ≤ now) = true := decide_eq_true hnow
        have HE := Lib.hid (HY.out hnow)
        have hown := HOW.out
        generalize (g x).getD 0 = gx at *
        go_wp2_with (at_builtin; go_must (refine wpList_push rfl _ _ 49 rfl w2.heap.size 3 i0 (.int .i64 0) 1 8 Try.underlying49 hi0 hz0 hz1 hz2 rfl (by decide) _ _ _ rfl (hown.alloc _) ⟨wr.heap.size, 0, none⟩ 1 1 [_] rfl rfl (cell_one_new _ _ _) (by simp [Value.oneCell']) (by unfold maxLen; omega) (by omega) (by have := HBR.out.size; simp; omega) ?_; intro v' w3 hown' hgrow hfr))
        have hgrow : (wr.alloc _).grownBy w3 u5.ownBlock := hgrow
        go_roundw
        case rel => exact ⟨k + 1, by omega, by go_num, by rw [HE.out]; simpa [ints] using hown', below_push HBR.out HBR.out.size HOW.out (Nat.le_refl _) hgrow⟩
        case measure => simp [intOf]; omega
      · have d2 : decide ((g x).getD 0 ≤ now) = false := decide_eq_false hnow
        have HE := Lib.hid (HN.out (by omega))
        generalize (g x).getD 0 = gx at *
        go_wp2_with fail
        go_roundw
        case rel => exact ⟨k + 1, by omega, by go_num, by rw [HE.out]; exact HOW.out, HBR.out⟩
        case measure => simp [intOf]; omega
    · have d1 : decide ((k : Int) < (ids.length : Int)) = false := decide_eq_false (by omega)
      have hk1 : ¬ (k : Int) < (ids.length : Int) := by omega
      rw [List.take_of_length_le (by omega)] at hown
      have hdw : ∀ x ∈ dueL g now ids, WfI x := fun x hx => HW.out x (List.mem_filter.1 hx).1
      have HDW := Lib.hid hdw
      have HQ3 := Lib.hid ((hb.block _ (by omega)).trans HQ2.out)
      have hso := sortStable_any cb b n w.heap.size g (dueL g now ids) u5 wr hcr HQ3.out (RdS.of_owns hown) hdw (by omega) HUP.out
      have HSO := Lib.hid hso
      have HC3 := Lib.hid hcr
      have HO3 := Lib.hid hown
      obtain ⟨va5, vc5, rfl⟩ := (RdS.of_owns hown).form
      have HOU := Lib.hid (fun q hq => World.ownsRow.lt hown q hq)
      clear hso hcr hown hb HOW hdw
      go_wp2_with fail
      refine HSO.out.mono ?_
      rintro e w4 ⟨rfl, hst⟩
      have HC4 := Lib.hid (HC3.out.below (hst.below _))
      have HO4 := Lib.hid (ownsB HO3.out (hst.below _))
      have HQ4 : Hid (w4.heap[w.heap.size]? = some (.cells #[.pointer (some ⟨cb, 0, none⟩)] 58 (0, 0))) := Lib.hid (by rw [hst.heap]; exact HQ3.out)
      have HT4 : Hid (Turn b w w4) := Lib.hid (Turn.of_below (bthen HB2.out (Nat.le_refl _) (HBR.out.trans (hst.below _))))
      have hsz4 : w2.heap.size ≤ w4.heap.size := by rw [hst.heap]; exact HBR.out.size
      clear hst p0 p1 HC3 HO3 HQ3 HSO HYES HNO HUP
      generalize hoe : dueL g now ids = out at *
      have HOE := Lib.hid hoe
      clear hoe
      go_wp2_with fail
      go_loopg [41] (out.length + 1) (fun gk i wi => ∃ k : Nat, k + gk = out.length + 1 ∧ k ≤ out.length ∧ i = .int .i64 k ∧ Hid (ClkR wi cb b n (fun x => if x ∈ out.take k then none else g x)) ∧ Hid (wi.ownsRow w2.heap.size 3 1 (.slice va5 out.length vc5) out.length (ints .i64 out)) ∧ Hid (wi.heap[w.heap.size]? = some (.cells #[.pointer (some ⟨cb, 0, none⟩)] 58 (0, 0))) ∧ Hid (Turn b w wi))
      case atStart => exact ⟨0, by omega, by omega, rfl, Lib.hid (HC4.out.congr (fun x => by simp)), HO4, HQ4, HT4⟩
      case round =>
        obtain ⟨k, hgk, hk, rfl, HCI, HOI, HQI, HTI⟩ := hrel
        rename World => wi
        have hg : gk = out.length + 1 - k := by omega
        subst hg
        by_cases hkl : k < out.length
        · have d1 : decide ((k : Int) < (out.length : Int)) = true := decide_eq_true (by omega)
          have hk1 : (k : Int) < (out.length : Int) := by omega
          obtain ⟨G, off, he, -, -, u0⟩ := ints_at (RdS.of_owns HOI.out) hkl
          subst he
          have p0 : wi.cell? ⟨w.heap.size, 0, none⟩ = some (.pointer (some ⟨cb, 0, none⟩)) := cell1h HQI.out
          have p1 := HCI.out.read
          have hwx := HDW.out _ (List.getElem_mem hkl)
          have hkx := keyI hwx
          obtain ⟨hcell, D, hD1, hD2⟩ := HCI.out
          have HCELL := Lib.hid hcell
          have HD2 := Lib.hid (hD2.del out[k])
          have HSTR := Lib.hid (strike_take hkl g)
          have hltc := HCI.out.lt
          have hnec := HCI.out.ne
          clear hcell hD2
          generalize out[k] = x at *
          go_wp2_with (first | (at_delete; refine wpList_delete_own _ rfl _ _ 110 3 rfl 2 Try.keyedInt Try.underlying110 _ b n D rfl hD1 _ _ rfl hkx ?_; intro w6 hown6 hturn6) | fail)
          have ht := Turn.of_turned hturn6
          have HT6 := Lib.hid ht
          have HC6 : Hid (ClkR w6 cb b n (fun x => if x ∈ out.take (k + 1) then none else g x)) := Lib.hid (ClkR.congr ⟨(ht.block _ hltc.1 hnec).trans HCELL.out, _, hown6, HD2.out⟩ HSTR.out)
          have HO6 : Hid (w6.ownsRow w2.heap.size 3 1 (.slice (some ⟨G, off, none⟩) out.length vc5) out.length (ints .i64 out)) := Lib.hid (ownsRow_keepT HOI.out (fun q hq => ht.block q (World.ownsRow.lt HOI.out q hq).2 (by have := (World.ownsRow.lt HOI.out q hq).1; omega)))
          have HQ6 := Lib.hid ((ht.block _ (Array.getElem?_eq_some_iff.1 HQI.out).1 (by omega)).trans HQI.out)
          clear ht hown6 hturn6 hD1 p0 p1 u0
          (try go_frame)
          go_roundg (out.length + 1 - (k + 1))
          case measure => omega
          case rel => exact ⟨k + 1, by omega, by omega, by go_num, HC6, HO6, HQ6, Lib.hid (HTI.out.trans HT6.out)⟩
        · have d1 : decide ((k : Int) < (out.length : Int)) = false := decide_eq_false (by omega)
          have hk1 : ¬ (k : Int) < (out.length : Int) := by omega
          have hf := HCI.out
          rw [List.take_of_length_le (by omega)] at hf
          have HF := Lib.hid hf
          clear hf
          go_wp2_with fail
          go_ret
          obtain rfl := HOE.out
          exact ⟨_, rfl, ownsRow_mono HOI.out (by have := HB2.out.size; omega), HF.out, HTI.out⟩
end Go.Proofs.Ytkgcpbhlbfjcoaa
