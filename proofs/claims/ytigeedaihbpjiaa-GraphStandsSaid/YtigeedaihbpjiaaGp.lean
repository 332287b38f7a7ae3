/-
  GraphStands: the law's walk.
-/
import Derived.Test.YtigeedaihbpjiaaGo
import Derived.Deep.RegionHeld3
import Derived.Deep.QuietTactic
import Derived.BigQuiet
namespace Go.Proofs.Ytigeedaihbpjiaa
open Go.RowKit

/-- Does one wait for itself? -/
def cycB (rows : List (List Int)) (y : Int) : Bool := gb (befIn rows y.toNat) y.toNat
theorem cycB_iff {rows : List (List Int)} {y : Nat} (hy : y < rows.length) : cycB rows (y : Int) = true ↔ Rch rows y y := by
  unfold cycB; rw [Int.toNat_natCast, befIn_iff hy]
theorem has_cyc {rows : List (List Int)} {y : Nat} (hy : y < rows.length) : hasB (befL rows y) y = cycB rows y := by
  rw [befL_in hy]
  unfold hasB cycB
  rw [Int.toNat_natCast, Bool.eq_iff_iff, List.contains_iff_mem, mem_selL]
  simp [hy]
theorem mem_befL {rows : List (List Int)} {i : Nat} {z : Int} (hi : i < rows.length) (h : z ∈ befL rows i) : ∃ y : Nat, z = y ∧ y < rows.length ∧ Rch rows i y := by
  rw [befL_in hi] at h
  have h' := h
  unfold selL at h'
  obtain ⟨y, hy, rfl⟩ := List.mem_map.1 h'
  have := (mem_selL (a := y)).1 h
  exact ⟨y, rfl, this.1, (befIn_iff hi y).1 this.2⟩
theorem befL_mem {rows : List (List Int)} {i y : Nat} (hi : i < rows.length) (h : Rch rows i y) : (y : Int) ∈ befL rows i := by
  rw [befL_in hi, mem_selL]
  exact ⟨h.lt2, (befIn_iff hi y).2 h⟩
theorem stand_waits {rows : List (List Int)} {i : Nat} (hi : i < rows.length) : (cycB rows i || (befL rows i).any (cycB rows)) = true ↔ i ∉ ordO rows := by
  rw [ordO_waits hi, Bool.or_eq_true, List.any_eq_true, cycB_iff hi]
  constructor
  · rintro (h | ⟨z, hz, hc⟩)
    · exact ⟨i, .inl rfl, h⟩
    · obtain ⟨y, rfl, hy, hr⟩ := mem_befL hi hz
      exact ⟨y, .inr hr, (cycB_iff hy).1 hc⟩
  · rintro ⟨k, hk, hc⟩
    rcases hk with rfl | hk
    · exact .inl hc
    · exact .inr ⟨k, befL_mem hi hk, (cycB_iff hk.lt2).2 hc⟩
theorem stand_round (rows : List (List Int)) : ((List.range rows.length).any fun j => cycB rows (j : Int)) = !decide ((ordO rows).length = rows.length) := by
  rw [Bool.eq_iff_iff, List.any_eq_true, Bool.not_eq_true', decide_eq_false_iff_not, ordO_all]
  constructor
  · rintro ⟨j, hj, hc⟩ hall
    have hj := List.mem_range.1 hj
    exact ordO_nocyc (hall j hj) ((cycB_iff hj).1 hc)
  · intro h
    refine Classical.byContradiction fun hno => h fun j hj => Classical.byContradiction fun hm => ?_
    obtain ⟨k, _, hk⟩ := (ordO_waits hj).1 hm
    exact hno ⟨k, List.mem_range.2 hk.lt1, (cycB_iff hk.lt1).2 hk⟩

/-- Where each stands, of those that have come. -/
def AtP (n : Nat) (o : List Nat) (k : Nat) (at_ : List Int) : Prop := at_.length = n ∧ ∀ j, j < n → (∃ p, p < k ∧ o[p]? = some j ∧ at_[j]? = some (p : Int)) ∨ (j ∉ o.take k ∧ at_[j]? = some (-1))
theorem AtP.start (n : Nat) (o : List Nat) : AtP n o 0 (List.replicate n (-1)) := ⟨by simp, fun j hj => .inr ⟨by simp, by simp [hj]⟩⟩
theorem AtP.step {n : Nat} {o : List Nat} {k : Nat} {at_ : List Int} (h : AtP n o k at_) (hk : k < o.length) (hnd : o.Nodup) : AtP n o (k + 1) (at_.set o[k] (k : Int)) := by
  refine ⟨by simpa using h.1, fun j hj => ?_⟩
  by_cases hjk : j = o[k]
  · subst hjk
    exact .inl ⟨k, by omega, by simp [hk], by rw [List.getElem?_set_self (by rw [h.1]; exact hj)]⟩
  · rw [List.getElem?_set_ne (fun e => hjk e.symm)]
    rcases h.2 j hj with ⟨p, hp, h1, h2⟩ | ⟨h1, h2⟩
    · exact .inl ⟨p, by omega, h1, h2⟩
    · refine .inr ⟨fun hm => ?_, h2⟩
      rw [List.take_succ_eq_append_getElem hk, List.mem_append, List.mem_singleton] at hm
      rcases hm with hm | hm
      · exact h1 hm
      · exact hjk hm
theorem AtP.none {n : Nat} {o : List Nat} {k : Nat} {at_ : List Int} (h : AtP n o k at_) (hk : k < o.length) (hnd : o.Nodup) (hlt : o[k] < n) : at_[o[k]]? = some (-1) := by
  rcases h.2 _ hlt with ⟨p, hp, h1, _⟩ | ⟨_, h2⟩
  · have hpl : p < o.length := by omega
    rw [List.getElem?_eq_getElem hpl] at h1
    injection h1 with h1
    exact absurd h1 (List.pairwise_iff_getElem.1 hnd p k hpl hk hp)
  · exact h2
/-- Behind all of them: at i, either its place, all behind which it comes ahead of it, or -1. -/
theorem AtP.done {rows : List (List Int)} {at_ : List Int} (h : AtP rows.length (ordO rows) (ordO rows).length at_) {i : Nat} (hi : i < rows.length) :
    (∃ p : Nat, i ∈ ordO rows ∧ p < (ordO rows).length ∧ at_[i]? = some (p : Int) ∧ ∀ y : Nat, Rch rows i y → ∃ q : Nat, q < p ∧ at_[y]? = some (q : Int)) ∨ (i ∉ ordO rows ∧ at_[i]? = some (-1) ∧ ∀ y : Nat, y < rows.length → ∃ z : Int, at_[y]? = some z) := by
  rcases h.2 i hi with ⟨p, hp, h1, h2⟩ | ⟨h1, h2⟩
  · left
    have hpe : (ordO rows)[p] = i := by rw [List.getElem?_eq_getElem hp] at h1; injection h1
    refine ⟨p, List.mem_of_getElem? h1, hp, h2, fun y hr => ?_⟩
    have hm := ordO_rch hr p hp hpe
    rcases h.2 y hr.lt2 with ⟨q, hq, g1, g2⟩ | ⟨g1, _⟩
    · refine ⟨q, ?_, g2⟩
      obtain ⟨q', hq', he⟩ := List.getElem_of_mem hm
      rw [List.length_take] at hq'
      rw [List.getElem_take] at he
      rw [List.getElem?_eq_getElem hq] at g1
      injection g1 with g1
      have : q = q' := by
        rcases Nat.lt_trichotomy q q' with hl | hl | hl
        · exact absurd (g1.trans he.symm) (List.pairwise_iff_getElem.1 (ordO_nodup rows) q q' hq (by omega) hl)
        · exact hl
        · exact absurd (he.trans g1.symm) (List.pairwise_iff_getElem.1 (ordO_nodup rows) q' q (by omega) hq hl)
      omega
    · rw [List.take_length] at g1
      exact absurd (List.mem_of_mem_take hm) g1
  · right
    rw [List.take_length] at h1
    refine ⟨h1, h2, fun y hy => ?_⟩
    exact ⟨at_[y]'(by rw [h.1]; exact hy), List.getElem?_eq_getElem _⟩

theorem held1 {w1 W W' : World} {p : Addr} {c : Value} (h : Below w1.heap.size w1 W ∧ W.cell? p = some c) (hb : Below W.heap.size W W') : Below w1.heap.size w1 W' ∧ W'.cell? p = some c :=
  ⟨bthen h.1 (Nat.le_refl _) hb, cellB hb h.2⟩
theorem int_cell {W : World} {g : Nat} {l : List Int} {fr : Nat × Nat} (h : W.heap[g]? = some (.cells (ints .i64 l).toArray 3 fr)) {i : Nat} {z : Int} (hi : l[i]? = some z) : W.cell? ⟨g, i, none⟩ = some (.int .i64 z) := by
  simp only [World.cell?, h, Option.bind_some]
  simp [ints, hi]
theorem int_set (l : List Int) (i : Nat) (v : Int) : (ints .i64 l).toArray.setIfInBounds i (.int .i64 v) = (ints .i64 (l.set i v)).toArray := by simp [ints, List.map_set]
theorem natI_zero (n : Nat) : natI (List.replicate n 0) = ints .i64 (List.replicate n 0) := by simp [natI, ints]
theorem fill_next (n k : Nat) (h : k < n) : (List.replicate k (-1 : Int) ++ List.replicate (n - k) 0).set k (-1) = List.replicate (k + 1) (-1) ++ List.replicate (n - (k + 1)) 0 := by
  obtain ⟨m, rfl⟩ : ∃ m, n = k + (m + 1) := ⟨n - k - 1, by omega⟩
  rw [show k + (m + 1) - k = m + 1 by omega, show k + (m + 1) - (k + 1) = m by omega]
  apply List.ext_getElem?
  intro i
  rw [List.getElem?_set]
  by_cases hi : k = i
  · subst hi; simp [List.getElem?_append]
  · by_cases h1 : i < k
    · simp [List.getElem?_append, hi, h1, show i < k + 1 by omega]
    · simp only [if_neg hi, List.getElem?_append, List.length_replicate, if_neg h1, if_neg (show ¬ i < k + 1 by omega), List.getElem?_replicate]
      by_cases h2 : i - k < m + 1
      · rw [if_pos h2, if_pos (by omega)]
      · rw [if_neg h2, if_neg (by omega)]

set_option maxRecDepth 100000 in
set_option maxHeartbeats 2000000 in
theorem GraphStands_any (rows : List (List Int)) (v : Value) (w : World) (hr : Rows2 w v rows) :
    Calls Try.prog 14 #[v] w fun e w' => e = .returned (.bool true) ∧ Below w.heap.size w w' := by
  have HR := Lib.hid hr
  obtain ⟨a, cap, rfl⟩ := hr.form
  clear hr
  go_enter Try.func14, Try.ntmps14
  go_wp2_with fail
  refine (live26_any _).mono ?_
  rintro e w1 ⟨rfl, hb1⟩
  go_wp2_with fail
  refine (Small_any rows _ _ (HR.out.below hb1)).mono ?_
  rintro e w2 ⟨rfl, rfl⟩
  by_cases hsm : smallB rows = true
  · obtain ⟨hlen, _⟩ := small_all hsm
    rw [hsm]
    go_wp2_with fail
    refine (Order_any rows _ _ (HR.out.below hb1) (by omega)).mono ?_
    rintro e w2 ⟨vo, rfl, ho, hb2⟩
    have HO := Lib.hid (RdS.of_owns ho)
    have HB2 := Lib.hid (bthen hb1 (Nat.le_refl _) hb2)
    have HR2 := Lib.hid (HR.out.below HB2.out)
    clear ho hb2 hb1 HR
    have hol := ordO_len rows
    have hmk : ∀ w : World, (Instr.makeSlice 104 (.int .i64 rows.length) (.int .i64 rows.length)).run Try.prog w = .ok (.slice (some ⟨w.heap.size, 0, none⟩) rows.length rows.length) (w.alloc (.cells (natI (List.replicate rows.length 0)).toArray 3)) := fun w => make_ints rows.length w (by omega)
    obtain ⟨oa, oc, rfl⟩ := HO.out.form
    obtain ⟨hc1, hc2⟩ : (ordO rows).length ≤ oc ∧ oc ≤ 9223372036854775807 := by
      obtain ⟨_, a', c', he, h1, h2, _⟩ := HO.out
      injection he with _ _ e3; subst e3; unfold maxLen at h2; exact ⟨h1, h2⟩
    go_wp2_with fail
    clear hmk
    rw [natI_zero]
    have c0 : Hid ((w2.alloc (.cells (ints .i64 (List.replicate rows.length 0)).toArray 3)).heap[w2.heap.size]? = some (.cells (ints .i64 (List.replicate rows.length 0)).toArray 3 (0, 0))) := Lib.hid (World.alloc_heap_new w2 _)
    have hbl : Below w2.heap.size w2 (w2.alloc (.cells (ints .i64 (List.replicate rows.length 0)).toArray 3)) := (Below.refl _ w2).alloc (Nat.le_refl _) _
    generalize w2.alloc (.cells (ints .i64 (List.replicate rows.length 0)).toArray 3) = w3 at *
    have HLT : Hid (∀ x ∈ ordO rows, x < rows.length) := Lib.hid (fun x hx => ordO_lt hx)
    have HND := Lib.hid (ordO_nodup rows)
    have HDONE := Lib.hid (fun (at_ : List Int) (h : AtP rows.length (ordO rows) (ordO rows).length at_) (i : Nat) (hi : i < rows.length) => h.done hi)
    have HSW := Lib.hid (fun (i : Nat) (hi : i < rows.length) => stand_waits hi)
    have HSR := Lib.hid (stand_round rows)
    generalize ordO rows = o at *
    go_loopw [6] (fun r wr => ∃ k : Nat, k ≤ rows.length ∧ r = .int .i64 k ∧ Hid (wr.heap[w2.heap.size]? = some (.cells (ints .i64 (List.replicate k (-1) ++ List.replicate (rows.length - k) 0)).toArray 3 (0, 0))) ∧ Below w2.heap.size w2 wr) (fun r _ => rows.length - (intOf r).toNat)
    case atStart => exact ⟨0, by omega, rfl, by simpa using c0, hbl⟩
    case round =>
      obtain ⟨k, hk, rfl, HB, hb⟩ := hrel
      clear c0 hbl
      by_cases hlt : k < rows.length
      · have hlt' : (k : Int) < rows.length := by omega
        have fx : wr.frozen? ⟨w2.heap.size, k, none⟩ = false := by simp [World.frozen?, HB.out]
        have cx : wr.cell? ⟨w2.heap.size, k, none⟩ = some (.int .i64 0) := int_cell HB.out (by rw [List.getElem?_append_right (by simp), List.length_replicate, Nat.sub_self, List.getElem?_replicate, if_pos (by omega)])
        have hset := setCell_heap k (.int .i64 (-1)) HB.out
        rw [int_set, fill_next _ _ hlt] at hset
        have HSET := Lib.hid hset
        clear hset
        go_wp2
        go_roundw
        case rel => exact ⟨k + 1, by omega, by go_num, HSET, hb.setCell (p := ⟨w2.heap.size, k, none⟩) (Nat.le_refl _) _⟩
        case measure => simp [intOf]; omega
      · have hkl : k = rows.length := by omega
        subst hkl
        rw [Nat.sub_self, List.replicate_zero, List.append_nil] at HB
        go_wp2
        rename World => wo
        go_loopw [7] (fun r wr => ∃ (k : Nat) (at_ : List Int), k ≤ o.length ∧ r = .int .i64 k ∧ Hid (AtP rows.length o k at_) ∧ Hid (wr.heap[w2.heap.size]? = some (.cells (ints .i64 at_).toArray 3 (0, 0))) ∧ Below w2.heap.size w2 wr) (fun r _ => o.length - (intOf r).toNat)
        case atStart => exact ⟨0, _, by omega, rfl, Lib.hid (AtP.start _ _), HB, hb⟩
        case round =>
          obtain ⟨k, at_, hk, rfl, HA, HB, hb⟩ := hrel
          by_cases hlt : k < o.length
          · have hlt' : (k : Int) < o.length := by omega
            obtain ⟨og, ooff, rfl, r1, r2, ocell0⟩ : ∃ g off, oa = some ⟨g, off, none⟩ ∧ o.length ≤ oc ∧ oc ≤ 9223372036854775807 ∧ w2.cell? ⟨g, off + k, none⟩ = some (.int .i64 (o[k] : Int)) := by
              rcases HO.out.cases (by decide) with ⟨h0, _⟩ | ⟨hn, _, g, off, cap', hq, q1, q2, q3⟩
              · omega
              · injection hq with e1 e2 e3
                subst e1 e3
                exact ⟨g, off, rfl, q1, q2, q3 k _ (by simp [natI, hlt])⟩
            have ocell := cellB hb ocell0
            have hx := HLT.out _ (List.getElem_mem hlt)
            have HSTEP := Lib.hid (HA.out.step hlt HND.out)
            have cx := int_cell HB.out (HA.out.none hlt HND.out hx)
            generalize o[k] = x at *
            have hx' : (x : Int) < rows.length := by omega
            have fx : wr.frozen? ⟨w2.heap.size, x, none⟩ = false := by simp [World.frozen?, HB.out]
            have hset := setCell_heap x (.int .i64 (k : Int)) HB.out
            rw [int_set] at hset
            have HSET := Lib.hid hset
            have d1 : decide ((x : Int) < 0) = false := by simp
            have d2 : decide ((rows.length : Int) ≤ (x : Int)) = false := by simp; omega
            have d3 : decide ((0 : Int) ≤ -1) = false := by decide
            clear hset ocell0
            go_wp2
            go_roundw
            case rel => exact ⟨k + 1, _, by omega, by go_num, HSTEP, HSET, hb.setCell (p := ⟨w2.heap.size, x, none⟩) (Nat.le_refl _) _⟩
            case measure => simp [intOf]; omega
          · have hkl : k = o.length := by omega
            subst hkl
            have HD := Lib.hid (HDONE.out at_ HA.out)
            have HBA := HB
            have HR3 := Lib.hid (HR2.out.below hb)
            have hAL := HA.out.1
            have HBW := Lib.hid (bthen HB2.out (Nat.le_refl _) hb)
            clear hb HB HR2 HB2
            go_wp2
            rename World => wA
            go_loopw [8, 9] (fun b r wr => ∃ k : Nat, k ≤ rows.length ∧ r = .int .i64 k ∧ b = .bool ((List.range k).any fun j => cycB rows (j : Int)) ∧ Below wA.heap.size wA wr) (fun _ r _ => rows.length - (intOf r).toNat)
            case atStart => exact ⟨0, by omega, rfl, rfl, Below.refl _ _⟩
            case round =>
              obtain ⟨k, hk, rfl, rfl, hb⟩ := hrel
              by_cases hlt : k < rows.length
              · have hlt' : (k : Int) < rows.length := by omega
                go_wp2_with fail
                refine (Before_any rows k _ _ (HR3.out.below hb) (by omega)).mono ?_
                rintro e w4 ⟨v4, rfl, o4, b4⟩
                have H4 := Lib.hid (RdS.of_owns o4)
                have HB4 := Lib.hid (bthen hb (Nat.le_refl _) b4)
                clear o4 b4 hb
                obtain ⟨va, vc, rfl⟩ := H4.out.form
                have hvl : (befL rows k).length ≤ vc ∧ vc ≤ 9223372036854775807 := by
                  obtain ⟨_, a', c', he, h1, h2, _⟩ := H4.out
                  injection he with _ _ e3; subst e3; unfold maxLen at h2; exact ⟨h1, h2⟩
                obtain ⟨hv1, hv2⟩ := hvl
                go_wp2_with fail
                refine (Has_any (befL rows k) k _ _ H4.out).mono ?_
                rintro e w5 ⟨rfl, rfl⟩
                rw [has_cyc hlt]
                have HSWk := Lib.hid (HSW.out k hlt)
                have HDk := Lib.hid (HD.out k hlt)
                have HNX : Hid (((List.range (k + 1)).any fun j => cycB rows (j : Int)) = (((List.range k).any fun j => cycB rows (j : Int)) || cycB rows (k : Int))) := Lib.hid (by rw [List.range_succ, List.any_append]; simp)
                generalize ((List.range k).any fun j => cycB rows (j : Int)) = rd at *
                generalize hself : cycB rows (k : Int) = self at *
                clear hself
                have HMB := Lib.hid (fun z (hz : z ∈ befL rows k) => mem_befL hlt hz)
                generalize befL rows k = b at *
                go_wp2
                rename World => wB
                go_loopw [12, 13] (fun x r wr => ∃ m : Nat, m ≤ b.length ∧ r = .int .i64 m ∧ x = .bool (self || (b.take m).any (cycB rows)) ∧ Below wB.heap.size wB wr) (fun _ r _ => b.length - (intOf r).toNat)
                case atStart => exact ⟨0, by omega, rfl, by simp, Below.refl _ _⟩
                case round =>
                  obtain ⟨m, hm, rfl, rfl, hb⟩ := hrel
                  by_cases hml : m < b.length
                  · have hml' : (m : Int) < b.length := by omega
                    obtain ⟨bg, boff, rfl, _, _, bcell0⟩ := ints_at H4.out hml
                    obtain ⟨y, hy, hyn, hry⟩ := HMB.out _ (List.getElem_mem hml)
                    have HNB : Hid ((self || (b.take (m + 1)).any (cycB rows)) = ((self || (b.take m).any (cycB rows)) || cycB rows (y : Int))) := Lib.hid (by rw [take_snocG b m hml, List.any_append, hy]; simp [Bool.or_assoc])
                    rw [hy] at bcell0
                    have bcell := cellB hb bcell0
                    have HC0 := Lib.hid bcell0
                    clear bcell0
                    generalize (self || (b.take m).any (cycB rows)) = x at *
                    have HCY := Lib.hid (has_cyc hyn)
                    generalize cycB rows (y : Int) = c at *
                    go_upto_region 27 with fail
                    go_cut [12] (fun s wx => s = .bool (x || c) ∧ Below wB.heap.size wB wx)
                    case first =>
                      cases x with
                      | true =>
                        go_quiet (fail)
                        go_wp2_with fail
                        go_meet
                        exact ⟨by simp, belowN hb _⟩
                      | false =>
                        have HBF : Hid (∀ W, (Below wB.heap.size wB W ∧ W.cell? ⟨bg, boff + m, none⟩ = some (.int .i64 (y : Int))) → Calls Try.prog 67 #[.slice a rows.length cap, .int .i64 y] W fun e w' => ∃ v', e = .returned v' ∧ RdS w' v' 1 (befL rows y).length (ints .i64 (befL rows y)) ∧ Below W.heap.size W w') := Lib.hid (fun W hW => by
                          refine (Before_any rows y _ W (HR3.out.below (bthen HB4.out (Nat.le_refl _) hW.1)) (by omega)).mono ?_
                          rintro e w' ⟨v', rfl, h1, h2⟩
                          exact ⟨v', rfl, RdS.of_owns h1, h2⟩)
                        first | go_region_held3 (fun W' => Below wB.heap.size wB W' ∧ W'.cell? ⟨bg, boff + m, none⟩ = some (.int .i64 (y : Int)))
                          (first | assumption | exact ⟨hb.drew, bcell⟩ | exact held1 (by assumption) (by assumption)) (first
                            | (go_at_call 67; refine (HBF.out _ (by assumption)).mono ?_; rintro e w7 ⟨v7, rfl, H7, hb7⟩)
                            | (go_at_call 64; refine (Has_any (befL rows y) y _ _ H7).mono ?_; rintro e w8 ⟨rfl, rfl⟩)) | fail
                        go_wp2_with fail
                        go_meet
                        rename_i hS
                        exact ⟨by rw [HCY.out]; simp, hS.1⟩
                    case rest =>
                      obtain ⟨rfl, hb2⟩ := hcut
                      clear hb bcell
                      rw [← HNB.out]
                      have bcell := cellB hb2 HC0.out
                      clear HNB
                      have HAC : Hid (∀ (j : Nat) (z : Int), at_[j]? = some z → wc.cell? ⟨w2.heap.size, j, none⟩ = some (.int .i64 z)) := Lib.hid (fun j z hz => cellB hb2 (cellB HB4.out (int_cell HBA.out hz)))
                      have hyn' : (y : Int) < rows.length := by omega
                      rcases HDk.out with ⟨p, hko, hp, hA, hyq⟩ | ⟨hko, hA, hyq⟩
                      · obtain ⟨q, hq, hQ⟩ := hyq y hry
                        have ck := HAC.out _ _ hA
                        have cy := HAC.out _ _ hQ
                        have d1 : decide ((0 : Int) ≤ (p : Int)) = true := by simp
                        have d2 : decide ((q : Int) < 0) = false := by simp
                        have d3 : decide ((p : Int) ≤ (q : Int)) = false := by simp; omega
                        clear hyq
                        go_wp2_with fail
                        go_quiet (fail)
                        go_wp2
                        go_roundw
                        case rel => exact ⟨m + 1, by omega, by go_num, rfl, belowN hb2 _⟩
                        case measure => simp [intOf]; omega
                      · obtain ⟨z, hz⟩ := hyq y hyn
                        have ck := HAC.out _ _ hA
                        have cy := HAC.out _ _ hz
                        have d1 : decide ((0 : Int) ≤ (-1 : Int)) = false := by decide
                        clear hyq
                        go_wp2_with fail
                        go_quiet (fail)
                        go_wp2
                        go_roundw
                        case rel => exact ⟨m + 1, by omega, by go_num, rfl, belowN hb2 _⟩
                        case measure => simp [intOf]; omega
                  · have hmk : m = b.length := by omega
                    subst hmk
                    rw [List.take_length]
                    have HAC : Hid (∀ (j : Nat) (z : Int), at_[j]? = some z → wr.cell? ⟨w2.heap.size, j, none⟩ = some (.int .i64 z)) := Lib.hid (fun j z hz => cellB hb (cellB HB4.out (int_cell HBA.out hz)))
                    have hbw := bthen HB4.out (Nat.le_refl _) hb
                    rcases HDk.out with ⟨p, hko, hp, hA, hyq⟩ | ⟨hko, hA, hyq⟩
                    · have ck := HAC.out _ _ hA
                      have d1 : decide ((p : Int) < 0) = false := by simp
                      have hwt : (self || b.any (cycB rows)) = false := by
                        rw [Bool.eq_false_iff]; intro h
                        exact HSWk.out.1 h hko
                      rw [hwt]
                      clear hyq
                      cases rd
                      all_goals
                        go_wp2
                        go_roundw
                        case rel => exact ⟨k + 1, by omega, by go_num, by rw [HNX.out]; simp, hbw⟩
                        case measure => simp [intOf]; omega
                    · have ck := HAC.out _ _ hA
                      have d1 : decide ((-1 : Int) < 0) = true := by decide
                      have hwt : (self || b.any (cycB rows)) = true := HSWk.out.2 hko
                      rw [hwt]
                      clear hyq
                      cases rd
                      all_goals
                        go_wp2
                        go_roundw
                        case rel => exact ⟨k + 1, by omega, by go_num, by rw [HNX.out]; simp, hbw⟩
                        case measure => simp [intOf]; omega
              · have hkl : k = rows.length := by omega
                subst hkl
                have e1 := HSR.out
                rw [e1]
                go_wp2
                go_ret
                exact ⟨by simp, bthen HBW.out (Nat.le_refl _) hb⟩
  · have hsf : smallB rows = false := by simpa using hsm
    rw [hsf]
    go_wp2
    go_ret
    exact ⟨rfl, hb1⟩
end Go.Proofs.Ytigeedaihbpjiaa
