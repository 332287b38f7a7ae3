/-
  def.Changes: contract.
-/
import Derived.Test.YtlakmfhpinljjaaBp4
import Derived.Test.YtlakmfhpinljjaaBp7
import Derived.Test.YtlakmfhpinljjaaBp29
import Derived.Test.YtlakmfhpinljjaaBp35
namespace Go.Proofs.Ytlakmfhpinljjaa
open Go.RowKit Go.WideShapes
attribute [local go_sem] Oper.semAt_some wide_fn wide_depth wide_fn' wide_depth'

/-- A list of texts that a box holds. -/
structure OutB (W : World) (B : Nat) (va : Option Addr) (vc : Nat) (l : List ByteArray) : Prop where
  box : Boxed W B 31 (.slice va l.length vc)
  own : W.ownsRow B 9 1 (.slice va l.length vc) l.length (strsV l)
theorem OutB.below {W W' : World} {B vc : Nat} {va : Option Addr} {l : List ByteArray} (h : OutB W B va vc l) (hb : Below W.heap.size W W') : OutB W' B va vc l := ⟨(hb.block _ h.box.lt).trans h.box, ownsB h.own hb⟩
theorem strsV_snoc (l : List ByteArray) (x : ByteArray) : strsV l ++ [.string x] = strsV (l ++ [x]) := by simp [strsV]
theorem out_pushedS {W w1 : World} {B vc : Nat} {va : Option Addr} {l : List ByteArray} {x : ByteArray} {v' : Value} {tmp : Obj} {S : Nat → Prop} (h : OutB W B va vc l) (hS : ∀ k, S k → B ≤ k ∧ k < W.heap.size) (hSB : ¬ S B) (hSr : ∀ g, (Value.slice va l.length vc).ownBlock = some g → ¬ S g)
    (hown' : w1.ownsRow B 9 1 v' (l.length + 1) (strsV l ++ [.string x])) (hgrow : (W.alloc tmp).grownBy w1 (Value.slice va l.length vc).ownBlock) (hfr : Fresh (W.alloc tmp) (.slice va l.length vc) v') :
    ∃ va' vc', v' = .slice va' (l.length + 1) vc' ∧ Boxed w1 B 31 (.slice va l.length vc) ∧ OutB (w1.setCell ⟨B, 0, none⟩ v') B va' vc' (l ++ [x]) ∧ Keep B S W (w1.setCell ⟨B, 0, none⟩ v') ∧ (∀ Ds, Marks Ds W → Marks Ds (w1.setCell ⟨B, 0, none⟩ v')) ∧ (∀ g, v'.ownBlock = some g → ¬ S g) ∧
      (∀ q, q < W.heap.size → (Value.slice va l.length vc).ownBlock ≠ some q → v'.ownBlock ≠ some q) ∧ (∀ (q : Nat) (o : Obj), W.heap[q]? = some o → q ≠ B → (Value.slice va l.length vc).ownBlock ≠ some q → (w1.setCell ⟨B, 0, none⟩ v').heap[q]? = some o) := by
  obtain ⟨va', vc', rfl⟩ := (RdS.of_owns hown').form
  obtain ⟨h1, h2, h3, h4, h5⟩ := boxed_pushed (n0 := B) (S := S) h.box (by decide) h.own (Nat.le_of_lt h.box.lt) (Nat.le_refl _) (Nat.le_refl _) hS hSB hSr hown' hgrow hfr
  refine ⟨va', vc', rfl, h1, ⟨by simpa using h2, ?_⟩, h4, fun Ds hm => (hm.grown h.own tmp hgrow).setCell h1 _, h5, fun q hq hne e => ?_, fun q o ho hq hne => pushed_other hgrow ho hq hne⟩
  · rw [strsV_snoc] at h3
    simpa using h3
  · rcases hfr q e with hf | hf
    · exact hne hf
    · simp at hf; omega
theorem out_pushed {W w1 : World} {B vc : Nat} {va : Option Addr} {l : List ByteArray} {x : ByteArray} {v' : Value} {tmp : Obj} (h : OutB W B va vc l) (hown' : w1.ownsRow B 9 1 v' (l.length + 1) (strsV l ++ [.string x])) (hgrow : (W.alloc tmp).grownBy w1 (Value.slice va l.length vc).ownBlock) (hfr : Fresh (W.alloc tmp) (.slice va l.length vc) v') :
    ∃ va' vc', v' = .slice va' (l.length + 1) vc' ∧ Boxed w1 B 31 (.slice va l.length vc) ∧ OutB (w1.setCell ⟨B, 0, none⟩ v') B va' vc' (l ++ [x]) ∧ Below B W (w1.setCell ⟨B, 0, none⟩ v') ∧ (∀ Ds, Marks Ds W → Marks Ds (w1.setCell ⟨B, 0, none⟩ v')) := by
  obtain ⟨va', vc', h1, h2, h3, h4, h5, _⟩ := out_pushedS (S := fun _ => False) h (fun _ h => h.elim) id (fun _ _ h => h) hown' hgrow hfr
  exact ⟨va', vc', h1, h2, h3, h4.below, h5⟩
theorem unl_mem {s t : StepD} {n : ByteArray} (h : n ∈ unl s t) : n.size ≤ 6 := by
  have key : ∀ (l : List ByteArray) (m : List Bool), ∀ x ∈ unlB l m, x ∈ l := by
    intro l
    induction l with
    | nil => intro m x hx; simp [unlB] at hx
    | cons a l ih =>
      intro m x hx
      cases m with
      | nil => simp [unlB] at hx
      | cons b m =>
        rw [unlB] at hx
        split at hx
        · exact List.mem_cons_of_mem _ (ih m x hx)
        · rcases List.mem_cons.1 hx with rfl | hx
          · exact List.mem_cons_self
          · exact List.mem_cons_of_mem _ (ih m x hx)
  have := key _ _ _ h
  simp only [nmL, List.mem_cons, List.not_mem_nil, or_false] at this
  rcases this with rfl | rfl | rfl | rfl | rfl | rfl | rfl <;> decide

set_option maxRecDepth 100000 in
set_option maxHeartbeats 8000000 in
theorem dChanges_any (a b : DefD) (ca cb : List Value) (sa sb : Option Addr) (sc sd : Nat) (w : World) (h : DefR w ca a sa sc) (h' : DefR w cb b sb sd) (hla : a.steps.length ≤ 30) (hlb : b.steps.length ≤ 30) :
    Calls Try.prog 30 #[.agg ca.toArray, .agg cb.toArray] w fun e w' => ∃ v, e = .returned v ∧ RdS w' v 1 (changesD a b).length (strsV (changesD a b)) ∧ Below w.heap.size w w' := by
  obtain ⟨i0, hi, hz0, hz1, hz2⟩ := info_parts Try.info_str
  obtain ⟨rfl, hna, hta, hva⟩ := h
  obtain ⟨rfl, hnb, htb, hvb⟩ := h'
  have hmx := @run_max2 Try.prog
  obtain ⟨_, _, he1, hl1, hl2⟩ := hva.form
  obtain ⟨_, _, he2, hl3, hl4⟩ := hvb.form
  cases he1
  cases he2
  obtain ⟨hb0, g0, g1, g2, hsz⟩ := alloc3 w 24 24 31 #[.string a.name, .string a.text, .slice sa a.steps.length sc] #[.string b.name, .string b.text, .slice sb b.steps.length sd] #[.slice none 0 0]
  have HVA := Lib.hid hva
  have HVB := Lib.hid hvb
  clear hva hvb
  refine (callsIn_wide (n := 0)).1 ?_
  refine callsIn_of_wp_marks Try.func30 rfl trivial ?_ rfl
  simp only [Try.ntmps30, List.size_toArray, List.length_cons, List.length_nil, Nat.reduceAdd, Nat.reduceSub, Array.replicate_succ, Array.replicate_zero, List.push_toArray, List.append_toArray, List.nil_append, List.cons_append]
  gi_wp2_with fail
  refine wpIn_scope ?_
  gi_upto_region 2 with fail
  generalize (((w.alloc (.cells #[.string a.name, .string a.text, .slice sa a.steps.length sc] 24)).alloc (.cells #[.string b.name, .string b.text, .slice sb b.steps.length sd] 24)).alloc (.cells #[.slice none 0 0] 31)) = w3 at *
  have HB0 := Lib.hid hb0
  have G0 := Lib.hid g0
  have G1 := Lib.hid g1
  have HSZ := Lib.hid hsz
  have HO0 : Hid (OutB w3 (w.heap.size + 1 + 1) none 0 []) := Lib.hid ⟨g2, World.ownsRow_nil _ _ _ _⟩
  obtain ⟨p0, p1, p2, -, -, -⟩ := cells3h g0
  obtain ⟨r0, r1, r2, -, -, -⟩ := cells3h g1
  have hc0 := HO0.out.box.cell
  have hBl := HO0.out.box.lt
  have hnil : ([] : List ByteArray).length = 0 := rfl
  clear hb0 g0 g1 g2 hsz
  gi_upto_if 13 with fail
  gi_cut [] from 9 (fun wx => ∃ va vc, OutB wx (w.heap.size + 1 + 1) va vc (headA a b) ∧ Below (w.heap.size + 1 + 1) w3 wx)
  case first =>
    by_cases hn : a.name = b.name
    · have hd : (!(a.name.toList == b.name.toList)) = false := by rw [beqS_yes hn]; rfl
      have HH : Hid (headA a b = []) := Lib.hid (if_pos hn)
      rw [hd]
      clear hn hd
      gi_wp2_with fail
      gi_meet
      exact ⟨none, 0, by rw [HH.out]; exact HO0.out, Below.refl _ _⟩
    · have hd : (!(a.name.toList == b.name.toList)) = true := by rw [beqS_no hn]; rfl
      have HH : Hid (headA a b = [] ++ [sSaga]) := Lib.hid (if_neg hn)
      rw [hd]
      clear hn hd
      gi_wp2_with (gi_at_builtin; go_must (refine wpListIn_push rfl _ _ 31 rfl (w.heap.size + 1 + 1) 9 i0 (.string ByteArray.empty) 1 16 Try.underlying31 hi hz0 hz1 hz2 rfl (by decide) _ _ _ rfl (HO0.out.own.alloc _) ⟨w3.heap.size, 0, none⟩ 1 1 [_] rfl rfl (cell_one_new _ _ _) (by simp [Value.oneCell']) (by unfold maxLen; omega) (by omega) (by simp; omega) ?_; intro v' w2 hown' hgrow hfr; obtain ⟨va', vc', rfl, kb1, kb2, kb3, kb4⟩ := out_pushed HO0.out hown' hgrow hfr; have hc1 := kb1.cell; have hf1 := kb1.frozen; have KB2 := Lib.hid kb2; have KB3 := Lib.hid kb3; have KB4 := Lib.hid kb4; clear hown' hgrow hfr kb1 kb2 kb3 kb4))
      gi_meet
      exact ⟨_, _, by rw [HH.out]; exact KB2.out, KB3.out⟩
  case rest =>
  obtain ⟨va, vc, ho, hb⟩ := hcut
  generalize wc = w4 at *
  have HO1 := Lib.hid ho
  have HB1 := Lib.hid hb
  have hsz := HSZ.out
  clear p0 p1 p2 r0 r1 r2 hc0
  obtain ⟨p0, p1, p2, -, -, -⟩ := cells3h ((hb.block _ (by omega)).trans G0.out)
  obtain ⟨r0, r1, r2, -, -, -⟩ := cells3h ((hb.block _ (by omega)).trans G1.out)
  have hc0 := ho.box.cell
  clear hBl
  have hBl := ho.box.lt
  have hhl : (headA a b).length ≤ 1 := by unfold headA; split <;> simp
  clear ho hb
  gi_upto_if 21 with fail
  gi_cut [] from 9 (fun wx => ∃ va vc, OutB wx (w.heap.size + 1 + 1) va vc (headB a b) ∧ Below (w.heap.size + 1 + 1) w3 wx)
  case first =>
    by_cases hn : a.text = b.text
    · have hd : (!(a.text.toList == b.text.toList)) = false := by rw [beqS_yes hn]; rfl
      have HH : Hid (headB a b = headA a b) := Lib.hid (by unfold headB; rw [if_pos hn, List.append_nil])
      rw [hd]
      clear hn hd
      gi_wp2_with fail
      gi_meet
      exact ⟨_, _, by rw [HH.out]; exact HO1.out, HB1.out⟩
    · have hd : (!(a.text.toList == b.text.toList)) = true := by rw [beqS_no hn]; rfl
      have HH : Hid (headB a b = headA a b ++ [sText]) := Lib.hid (by unfold headB; rw [if_neg hn])
      rw [hd]
      clear hn hd
      gi_wp2_with (gi_at_builtin; go_must (refine wpListIn_push rfl _ _ 31 rfl (w.heap.size + 1 + 1) 9 i0 (.string ByteArray.empty) 1 16 Try.underlying31 hi hz0 hz1 hz2 rfl (by decide) _ _ _ rfl (HO1.out.own.alloc _) ⟨w4.heap.size, 0, none⟩ 1 1 [_] rfl rfl (cell_one_new _ _ _) (by simp [Value.oneCell']) (by unfold maxLen; omega) (by omega) (by simp; omega) ?_; intro v' w2 hown' hgrow hfr; obtain ⟨va', vc', rfl, kb1, kb2, kb3, kb4⟩ := out_pushed HO1.out hown' hgrow hfr; have hc1 := kb1.cell; have hf1 := kb1.frozen; have KB2 := Lib.hid kb2; have KB3 := Lib.hid kb3; have KB4 := Lib.hid kb4; clear hown' hgrow hfr kb1 kb2 kb3 kb4))
      gi_meet
      exact ⟨_, _, by rw [HH.out]; exact KB2.out, HB1.out.trans KB3.out⟩
  case rest =>
  obtain ⟨va, vc, ho, hb⟩ := hcut
  generalize wc = w5 at *
  rw [← chgL_zero] at ho
  have HO2 := Lib.hid ho
  have HB2 := Lib.hid hb
  clear p0 p1 p2 r0 r1 r2 hc0
  obtain ⟨p0, p1, p2, -, -, -⟩ := cells3h ((hb.block _ (by omega)).trans G0.out)
  obtain ⟨r0, r1, r2, -, -, -⟩ := cells3h ((hb.block _ (by omega)).trans G1.out)
  clear ho hb HO0 HO1 HB1 hhl
  have hmm : max (a.steps.length : Int) (b.steps.length : Int) = ((max a.steps.length b.steps.length : Nat) : Int) := by omega
  gi_wp2_with fail
  refine wpIn_label ?_
  gi_wp2_with fail
  generalize hM : max a.steps.length b.steps.length = M at *
  have hM30 : M ≤ 30 := by omega
  refine wpIn_loop_marks [] [6, 7, 8, 32, 33, 34, 35, 36, 37, 38, 39, 40, 41, 42, 43, 44, 45, 46, 47, 48, 49, 50, 51, 52, 53, 54, 55, 56, 57, 58, 59, 60, 61, 62, 63, 64, 65, 66, 67, 68, 69, 70, 71, 72, 73, 74, 75, 76, 77, 78] (fun gk u Ds wr => ∃ (k : Nat) (va : Option Addr) (vc : Nat), k + gk = M + 1 ∧ k ≤ M ∧ u 32 = .int .i64 k ∧ Hid (OutB wr (w.heap.size + 1 + 1) va vc (chgL a b k)) ∧ Hid (Marks Ds wr) ∧ Hid (∀ D ∈ Ds, (w.heap.size + 1 + 1) ≤ D) ∧ Hid (Below (w.heap.size + 1 + 1) w3 wr)) (M + 1) ?h0 ?round
  case h0 => exact ⟨0, _, _, by omega, by omega, rfl, HO2, Lib.hid (.nil _), Lib.hid (by simp), HB2⟩
  case round =>
    rintro gk u Ds wr ⟨k, va, vc, hkg, hk, hu, HO, HMK, HDS, HBR⟩ K hK
    obtain rfl : gk = M + 1 - k := by omega
    have HK := Lib.hid hK
    clear hK
    simp only [over, List.foldl_cons, List.foldl_nil, List.set_cons_zero, List.set_cons_succ]
    rw [hu]
    clear p0 p1 p2 r0 r1 r2 hu
    obtain ⟨p0, p1, p2, -, -, -⟩ := cells3h ((HBR.out.block _ (by omega)).trans G0.out)
    obtain ⟨r0, r1, r2, -, -, -⟩ := cells3h ((HBR.out.block _ (by omega)).trans G1.out)
    have hBr := HO.out.box.lt
    by_cases hlt : k < M
    · have hlt' : (k : Int) < (M : Int) := by omega
      have hk0 : (0 : Int) ≤ (k : Int) := by omega
      gi_upto_region 10 with (gi_at_call 84; refine (callsIn_wide.2 (Digits_any (k : Int) wr)).mono ?_; rintro e w1 ⟨rfl, hb1⟩)
      have hba := (Below.refl w1.heap.size w1).alloc (Nat.le_refl _) (.cells #[.string (digS (k : Int))] 9)
      have hb6 := bthen hb1 (Nat.le_refl _) hba
      have hbx6 : Boxed (w1.alloc (.cells #[.string (digS (k : Int))] 9)) w1.heap.size 9 (.string (digS (k : Int))) := World.alloc_heap_new w1 _
      have hs1 := hb1.size
      have HO6 := Lib.hid (HO.out.below hb6)
      have HMK6 := Lib.hid (HMK.out.below hb6)
      have HLT6 := Lib.hid HMK.out.lt
      have HVL6 : Hid (∀ g, (Value.slice va (chgL a b k).length vc).ownBlock = some g → g < wr.heap.size) := Lib.hid (fun g hg => (HO.out.own.lt g hg).2)
      have HB6 := Lib.hid (HBR.out.trans (hb6.mono (by omega)))
      generalize w1.alloc (.cells #[.string (digS (k : Int))] 9) = w6 at *
      generalize hpe : w1.heap.size = p at *
      clear p0 p1 p2 r0 r1 r2 hba hb6 HO HMK HBR hb1 hpe
      obtain ⟨p0, p1, p2, -, -, -⟩ := cells3h ((HB6.out.block _ (by omega)).trans G0.out)
      obtain ⟨r0, r1, r2, -, -, -⟩ := cells3h ((HB6.out.block _ (by omega)).trans G1.out)
      have hcp := hbx6.cell
      have hco := HO6.out.box.cell
      have hpl := hbx6.lt
      have HBX := Lib.hid hbx6
      have hBl6 := HO6.out.box.lt
      have hds := digS_size (k : Int)
      have hcl := chgL_len a b k
      clear hbx6
      by_cases hbk : b.steps.length ≤ k
      · have d1 : decide ((b.steps.length : Int) ≤ (k : Int)) = true := decide_eq_true (by omega)
        have HCI := Lib.hid (chgI_minus (a := a) hbk)
        gi_wp2_with (gi_at_builtin; go_must (refine wpListIn_push rfl _ _ 31 rfl (w.heap.size + 1 + 1) 9 i0 (.string ByteArray.empty) 1 16 Try.underlying31 hi hz0 hz1 hz2 rfl (by decide) _ _ _ rfl (HO6.out.own.alloc _) ⟨w6.heap.size, 0, none⟩ 1 1 [_] rfl rfl (cell_one_new _ _ _) (by simp [Value.oneCell']) (by unfold maxLen; omega) (by omega) (by simp; omega) ?_; intro v' w2 hown' hgrow hfr; obtain ⟨va', vc', rfl, kb1, kb2, kb3, kb4⟩ := out_pushed HO6.out hown' hgrow hfr; have hc1 := kb1.cell; have hf1 := kb1.frozen; have KB2 := Lib.hid kb2; have KB3 := Lib.hid kb3; have KB4 := Lib.hid kb4; clear hown' hgrow hfr kb1 kb2 kb3 kb4))
        exact HK.out (M + 1 - (k + 1)) _ Ds _ (by omega) (by simp only [over, List.foldl_cons, List.foldl_nil, List.set_cons_zero, List.set_cons_succ, List.getElem?_cons_zero, List.getElem?_cons_succ, Option.getD_some]) ⟨k + 1, va', vc', by omega, by omega, by go_num, by rw [chgL_succ, HCI.out]; exact KB2, Lib.hid (KB4.out _ HMK6.out), HDS, Lib.hid (HB6.out.trans KB3.out)⟩
      have d1 : decide ((b.steps.length : Int) ≤ (k : Int)) = false := decide_eq_false (by omega)
      by_cases hak : a.steps.length ≤ k
      · have d2 : decide ((a.steps.length : Int) ≤ (k : Int)) = true := decide_eq_true (by omega)
        have HCI := Lib.hid (chgI_plus (a := a) (show k < b.steps.length by omega) hak)
        gi_wp2_with (gi_at_builtin; go_must (refine wpListIn_push rfl _ _ 31 rfl (w.heap.size + 1 + 1) 9 i0 (.string ByteArray.empty) 1 16 Try.underlying31 hi hz0 hz1 hz2 rfl (by decide) _ _ _ rfl (HO6.out.own.alloc _) ⟨w6.heap.size, 0, none⟩ 1 1 [_] rfl rfl (cell_one_new _ _ _) (by simp [Value.oneCell']) (by unfold maxLen; omega) (by omega) (by simp; omega) ?_; intro v' w2 hown' hgrow hfr; obtain ⟨va', vc', rfl, kb1, kb2, kb3, kb4⟩ := out_pushed HO6.out hown' hgrow hfr; have hc1 := kb1.cell; have hf1 := kb1.frozen; have KB2 := Lib.hid kb2; have KB3 := Lib.hid kb3; have KB4 := Lib.hid kb4; clear hown' hgrow hfr kb1 kb2 kb3 kb4))
        exact HK.out (M + 1 - (k + 1)) _ Ds _ (by omega) (by simp only [over, List.foldl_cons, List.foldl_nil, List.set_cons_zero, List.set_cons_succ, List.getElem?_cons_zero, List.getElem?_cons_succ, Option.getD_some]) ⟨k + 1, va', vc', by omega, by omega, by go_num, by rw [chgL_succ, HCI.out]; exact KB2, Lib.hid (KB4.out _ HMK6.out), HDS, Lib.hid (HB6.out.trans KB3.out)⟩
      have d2 : decide ((a.steps.length : Int) ≤ (k : Int)) = false := decide_eq_false (by omega)
      have hka : k < a.steps.length := by omega
      have hkb : k < b.steps.length := by omega
      have HCI := Lib.hid (chgI_parts hkb hka)
      obtain ⟨g, off, cap, aa1, ac1, ka1, kc1, ba1, bc1, he, q1, q2, hn1, z0, z1, z2, z3, z4, z5, z6, z7, z8, z9, z10, z11, z12⟩ := HVA.out.at hka
      obtain ⟨g', off', cap', aa2, ac2, ka2, kc2, ba2, bc2, he', q1', q2', hn2, y0, y1, y2, y3, y4, y5, y6, y7, y8, y9, y10, y11, y12⟩ := HVB.out.at hkb
      cases he
      cases he'
      have hbw := HB0.out.trans (HB6.out.mono (by omega))
      have z0 := cellB hbw z0
      have z1 := cellB hbw z1
      have z2 := cellB hbw z2
      have z3 := cellB hbw z3
      have z4 := cellB hbw z4
      have z5 := cellB hbw z5
      have z6 := cellB hbw z6
      have z7 := cellB hbw z7
      have z8 := cellB hbw z8
      have z9 := cellB hbw z9
      have z10 := cellB hbw z10
      have z11 := cellB hbw z11
      have z12 := cellB hbw z12
      have y0 := cellB hbw y0
      have y1 := cellB hbw y1
      have y2 := cellB hbw y2
      have y3 := cellB hbw y3
      have y4 := cellB hbw y4
      have y5 := cellB hbw y5
      have y6 := cellB hbw y6
      have y7 := cellB hbw y7
      have y8 := cellB hbw y8
      have y9 := cellB hbw y9
      have y10 := cellB hbw y10
      have y11 := cellB hbw y11
      have y12 := cellB hbw y12
      have HN1 := Lib.hid hn1
      have HN2 := Lib.hid hn2
      have HBW := Lib.hid hbw
      clear hn1 hn2 hbw
      have hka1 : (k : Int) < (a.steps.length : Int) := by omega
      have hkb1 : (k : Int) < (b.steps.length : Int) := by omega
      generalize a.steps[k] = s at *
      generalize b.steps[k] = t at *
      gi_upto_region 14 with fail
      refine E_regionW (S := (fun W => W.cell? ⟨w.heap.size, 2, none⟩ = some (.slice (some ⟨g, off, none⟩) a.steps.length sc) ∧ W.cell? ⟨w.heap.size + 1, 2, none⟩ = some (.slice (some ⟨g', off', none⟩) b.steps.length sd) ∧ W.cell? ⟨g, off + k * 13, none⟩ = some (.string s.name) ∧ W.cell? ⟨g, off + k * 13 + 1, none⟩ = some (.string s.action) ∧ W.cell? ⟨g, off + k * 13 + 2, none⟩ = some (.string s.undo) ∧ W.cell? ⟨g, off + k * 13 + 3, none⟩ = some (.slice aa1 s.after.length ac1) ∧ W.cell? ⟨g, off + k * 13 + 4, none⟩ = some (.int .i64 s.most) ∧ W.cell? ⟨g, off + k * 13 + 5, none⟩ = some (.int .i64 s.first) ∧ W.cell? ⟨g, off + k * 13 + 6, none⟩ = some (.int .i64 s.factor) ∧ W.cell? ⟨g, off + k * 13 + 7, none⟩ = some (.int .i64 s.limit) ∧ W.cell? ⟨g, off + k * 13 + 8, none⟩ = some (.int .u8 (s.note.kind : Int)) ∧ W.cell? ⟨g, off + k * 13 + 9, none⟩ = some (.string s.note.text) ∧ W.cell? ⟨g, off + k * 13 + 10, none⟩ = some (.slice ka1 s.note.keys.length kc1) ∧ W.cell? ⟨g, off + k * 13 + 11, none⟩ = some (.slice ba1 s.note.kids.length bc1) ∧ W.cell? ⟨g, off + k * 13 + 12, none⟩ = some (.int .i64 s.note.line) ∧ W.cell? ⟨g', off' + k * 13, none⟩ = some (.string t.name) ∧ W.cell? ⟨g', off' + k * 13 + 1, none⟩ = some (.string t.action) ∧ W.cell? ⟨g', off' + k * 13 + 2, none⟩ = some (.string t.undo) ∧ W.cell? ⟨g', off' + k * 13 + 3, none⟩ = some (.slice aa2 t.after.length ac2) ∧ W.cell? ⟨g', off' + k * 13 + 4, none⟩ = some (.int .i64 t.most) ∧ W.cell? ⟨g', off' + k * 13 + 5, none⟩ = some (.int .i64 t.first) ∧ W.cell? ⟨g', off' + k * 13 + 6, none⟩ = some (.int .i64 t.factor) ∧ W.cell? ⟨g', off' + k * 13 + 7, none⟩ = some (.int .i64 t.limit) ∧ W.cell? ⟨g', off' + k * 13 + 8, none⟩ = some (.int .u8 (t.note.kind : Int)) ∧ W.cell? ⟨g', off' + k * 13 + 9, none⟩ = some (.string t.note.text) ∧ W.cell? ⟨g', off' + k * 13 + 10, none⟩ = some (.slice ka2 t.note.keys.length kc2) ∧ W.cell? ⟨g', off' + k * 13 + 11, none⟩ = some (.slice ba2 t.note.kids.length bc2) ∧ W.cell? ⟨g', off' + k * 13 + 12, none⟩ = some (.int .i64 t.note.line))) 10 (by kernel_rfl) (by kernel_rfl) ⟨p2, r2, z0, z1, z2, z3, z4, z5, z6, z7, z8, z9, z10, z11, z12, y0, y1, y2, y3, y4, y5, y6, y7, y8, y9, y10, y11, y12⟩ (fun Q' hQ hK' hHeld => ?_)
      refine E_take0 hQ (fun _ => hHeld) 0 (v := ?ev1) rfl rfl (by kernel_rfl) (by kernel_rfl) (by kernel_rfl) (by decide) (by rfl) ?ey1 ?er1
      case ey1 => (intro w; go_simp; (try with_reducible rfl))
      (try simp only [Act.put, List.setIfInBounds_toArray, List.set_cons_zero, List.set_cons_succ])
      refine E_take hQ hHeld 1 (v := ?ev2) rfl rfl (by kernel_rfl) (by kernel_rfl) (by kernel_rfl) (by kernel_rfl) (by kernel_rfl) (by rfl) ?ey2 ?er2
      case ey2 => (intro w hSw; (try dsimp only at hSw); go_simp; (try with_reducible rfl))
      (try simp only [Act.put, List.setIfInBounds_toArray, List.set_cons_zero, List.set_cons_succ])
      refine E_take0 hQ (fun _ => hHeld) 2 (v := ?ev3) rfl rfl (by kernel_rfl) (by kernel_rfl) (by kernel_rfl) (by decide) (by rfl) ?ey3 ?er3
      case ey3 => (intro w; go_simp; (try with_reducible rfl))
      (try simp only [Act.put, List.setIfInBounds_toArray, List.set_cons_zero, List.set_cons_succ])
      refine E_take0 hQ (fun _ => hHeld) 3 (v := ?ev4) rfl rfl (by kernel_rfl) (by kernel_rfl) (by kernel_rfl) (by decide) (by rfl) ?ey4 ?er4
      case ey4 => (intro w; go_simp; (try with_reducible rfl))
      (try simp only [Act.put, List.setIfInBounds_toArray, List.set_cons_zero, List.set_cons_succ])
      refine E_take hQ hHeld 4 (v := ?ev5) rfl rfl (by kernel_rfl) (by kernel_rfl) (by kernel_rfl) (by kernel_rfl) (by kernel_rfl) (by rfl) ?ey5 ?er5
      case ey5 => (intro w hSw; (try dsimp only at hSw); go_simp; (try with_reducible rfl))
      (try simp only [Act.put, List.setIfInBounds_toArray, List.set_cons_zero, List.set_cons_succ])
      refine E_take0 hQ (fun _ => hHeld) 5 (v := ?ev6) rfl rfl (by kernel_rfl) (by kernel_rfl) (by kernel_rfl) (by decide) (by rfl) ?ey6 ?er6
      case ey6 => (intro w; go_simp; (try with_reducible rfl))
      (try simp only [Act.put, List.setIfInBounds_toArray, List.set_cons_zero, List.set_cons_succ])
      refine E_take hQ hHeld 6 (v := ?ev7) rfl rfl (by kernel_rfl) (by kernel_rfl) (by kernel_rfl) (by kernel_rfl) (by kernel_rfl) (by rfl) ?ey7 ?er7
      case ey7 => (intro w hSw; (try dsimp only at hSw); go_simp; (try with_reducible rfl))
      (try simp only [Act.put, List.setIfInBounds_toArray, List.set_cons_zero, List.set_cons_succ])
      refine E_take0 hQ (fun _ => hHeld) 7 (v := ?ev8) rfl rfl (by kernel_rfl) (by kernel_rfl) (by kernel_rfl) (by decide) (by rfl) ?ey8 ?er8
      case ey8 => (intro w; go_simp; (try with_reducible rfl))
      (try simp only [Act.put, List.setIfInBounds_toArray, List.set_cons_zero, List.set_cons_succ])
      refine E_take0 hQ (fun _ => hHeld) 8 (v := ?ev9) rfl rfl (by kernel_rfl) (by kernel_rfl) (by kernel_rfl) (by decide) (by rfl) ?ey9 ?er9
      case ey9 => (intro w; go_simp; (try with_reducible rfl))
      (try simp only [Act.put, List.setIfInBounds_toArray, List.set_cons_zero, List.set_cons_succ])
      refine E_take hQ hHeld 9 (v := ?ev10) rfl rfl (by kernel_rfl) (by kernel_rfl) (by kernel_rfl) (by kernel_rfl) (by kernel_rfl) (by rfl) ?ey10 ?er10
      case ey10 => (intro w hSw; (try dsimp only at hSw); go_simp; (try with_reducible rfl))
      (try simp only [Act.put, List.setIfInBounds_toArray, List.set_cons_zero, List.set_cons_succ])
      refine E_one 10 (by kernel_rfl) rfl (by rfl) (fun K hK => ?_)
      go_simp
      refine (unlike_any s t _ _ _ rfl rfl).mono ?_
      rintro e Wn ⟨rfl, rfl⟩
      refine hK.out _ _ (fun _ h => absurd rfl h) (fun _ => ?_)
      clear hK hHeld
      (try simp only [Act.put, List.setIfInBounds_toArray, List.set_cons_zero, List.set_cons_succ])
      refine E_done (by kernel_rfl) ?_ _
      refine hK'.out _ _ ?_

      obtain ⟨hbn, hx1, hx2, hszn⟩ := alloc2 w6.drew 45 45 #[.string s.name, .string s.action, .string s.undo, .slice aa1 s.after.length ac1, .int .i64 s.most, .int .i64 s.first, .int .i64 s.factor, .int .i64 s.limit, .int .u8 (s.note.kind : Int), .string s.note.text, .slice ka1 s.note.keys.length kc1, .slice ba1 s.note.kids.length bc1, .int .i64 s.note.line] #[.string t.name, .string t.action, .string t.undo, .slice aa2 t.after.length ac2, .int .i64 t.most, .int .i64 t.first, .int .i64 t.factor, .int .i64 t.limit, .int .u8 (t.note.kind : Int), .string t.note.text, .slice ka2 t.note.keys.length kc2, .slice ba2 t.note.kids.length bc2, .int .i64 t.note.line]
      gi_wp2_with fail
      have HBN : Hid (Below w6.heap.size w6 ((w6.drew.alloc (.cells #[.string s.name, .string s.action, .string s.undo, .slice aa1 s.after.length ac1, .int .i64 s.most, .int .i64 s.first, .int .i64 s.factor, .int .i64 s.limit, .int .u8 (s.note.kind : Int), .string s.note.text, .slice ka1 s.note.keys.length kc1, .slice ba1 s.note.kids.length bc1, .int .i64 s.note.line] 45)).alloc (.cells #[.string t.name, .string t.action, .string t.undo, .slice aa2 t.after.length ac2, .int .i64 t.most, .int .i64 t.first, .int .i64 t.factor, .int .i64 t.limit, .int .u8 (t.note.kind : Int), .string t.note.text, .slice ka2 t.note.keys.length kc2, .slice ba2 t.note.kids.length bc2, .int .i64 t.note.line] 45))) := Lib.hid (((Below.refl _ w6).drew).trans hbn)
      have hx1' : ((w6.drew.alloc (.cells #[.string s.name, .string s.action, .string s.undo, .slice aa1 s.after.length ac1, .int .i64 s.most, .int .i64 s.first, .int .i64 s.factor, .int .i64 s.limit, .int .u8 (s.note.kind : Int), .string s.note.text, .slice ka1 s.note.keys.length kc1, .slice ba1 s.note.kids.length bc1, .int .i64 s.note.line] 45)).alloc (.cells #[.string t.name, .string t.action, .string t.undo, .slice aa2 t.after.length ac2, .int .i64 t.most, .int .i64 t.first, .int .i64 t.factor, .int .i64 t.limit, .int .u8 (t.note.kind : Int), .string t.note.text, .slice ka2 t.note.keys.length kc2, .slice ba2 t.note.kids.length bc2, .int .i64 t.note.line] 45)).heap[w6.heap.size]? = some (.cells #[.string s.name, .string s.action, .string s.undo, .slice aa1 s.after.length ac1, .int .i64 s.most, .int .i64 s.first, .int .i64 s.factor, .int .i64 s.limit, .int .u8 (s.note.kind : Int), .string s.note.text, .slice ka1 s.note.keys.length kc1, .slice ba1 s.note.kids.length bc1, .int .i64 s.note.line] 45 (0, 0)) := hx1
      have hx2' : ((w6.drew.alloc (.cells #[.string s.name, .string s.action, .string s.undo, .slice aa1 s.after.length ac1, .int .i64 s.most, .int .i64 s.first, .int .i64 s.factor, .int .i64 s.limit, .int .u8 (s.note.kind : Int), .string s.note.text, .slice ka1 s.note.keys.length kc1, .slice ba1 s.note.kids.length bc1, .int .i64 s.note.line] 45)).alloc (.cells #[.string t.name, .string t.action, .string t.undo, .slice aa2 t.after.length ac2, .int .i64 t.most, .int .i64 t.first, .int .i64 t.factor, .int .i64 t.limit, .int .u8 (t.note.kind : Int), .string t.note.text, .slice ka2 t.note.keys.length kc2, .slice ba2 t.note.kids.length bc2, .int .i64 t.note.line] 45)).heap[w6.heap.size + 1]? = some (.cells #[.string t.name, .string t.action, .string t.undo, .slice aa2 t.after.length ac2, .int .i64 t.most, .int .i64 t.first, .int .i64 t.factor, .int .i64 t.limit, .int .u8 (t.note.kind : Int), .string t.note.text, .slice ka2 t.note.keys.length kc2, .slice ba2 t.note.kids.length bc2, .int .i64 t.note.line] 45 (0, 0)) := hx2
      have hszn' : ((w6.drew.alloc (.cells #[.string s.name, .string s.action, .string s.undo, .slice aa1 s.after.length ac1, .int .i64 s.most, .int .i64 s.first, .int .i64 s.factor, .int .i64 s.limit, .int .u8 (s.note.kind : Int), .string s.note.text, .slice ka1 s.note.keys.length kc1, .slice ba1 s.note.kids.length bc1, .int .i64 s.note.line] 45)).alloc (.cells #[.string t.name, .string t.action, .string t.undo, .slice aa2 t.after.length ac2, .int .i64 t.most, .int .i64 t.first, .int .i64 t.factor, .int .i64 t.limit, .int .u8 (t.note.kind : Int), .string t.note.text, .slice ka2 t.note.keys.length kc2, .slice ba2 t.note.kids.length bc2, .int .i64 t.note.line] 45)).heap.size = w6.heap.size + 2 := hszn
      clear hbn hx1 hx2 hszn
      generalize (w6.drew.alloc (.cells #[.string s.name, .string s.action, .string s.undo, .slice aa1 s.after.length ac1, .int .i64 s.most, .int .i64 s.first, .int .i64 s.factor, .int .i64 s.limit, .int .u8 (s.note.kind : Int), .string s.note.text, .slice ka1 s.note.keys.length kc1, .slice ba1 s.note.kids.length bc1, .int .i64 s.note.line] 45)).alloc (.cells #[.string t.name, .string t.action, .string t.undo, .slice aa2 t.after.length ac2, .int .i64 t.most, .int .i64 t.first, .int .i64 t.factor, .int .i64 t.limit, .int .u8 (t.note.kind : Int), .string t.note.text, .slice ka2 t.note.keys.length kc2, .slice ba2 t.note.kids.length bc2, .int .i64 t.note.line] 45) = wn at *
      have HON := Lib.hid (HO6.out.below HBN.out)
      have HMN := Lib.hid (HMK6.out.below HBN.out)
      have HMLT := Lib.hid HMK6.out.lt
      have hbpN : Boxed wn p 9 (.string (digS (k : Int))) := (HBN.out.block _ hpl).trans HBX.out
      have HBWN := Lib.hid (bthen HB6.out (by omega) HBN.out)
      have h0wn : Below w.heap.size w wn := HBW.out.trans (HBN.out.mono (by have := HBW.out.size; omega))
      have hpB : (w.heap.size + 1 + 1) ≤ p := by omega
      clear z0 y0 z1 y1 z2 y2 z3 y3 z4 y4 z5 y5 z6 y6 z7 y7 z8 y8 z9 y9 z10 y10 z11 y11 z12 y12 p0 p1 p2 r0 r1 r2 hcp hco
      refine' wpIn_rf1 rfl (enters_of Try.func125 (by kernel_rfl) rfl) (unlike_iter s t aa1 aa2 ka1 ka2 ba1 ba2 ac1 ac2 kc1 kc2 bc1 bc2 (w.heap.size + 1 + 1) w6.heap.size (w6.heap.size + 1) w wn (by omega) (by omega) (by omega) hx1' hx2' HN1.out.after HN2.out.after HN1.out.note HN2.out.note h0wn (by omega)) (by omega) (by rintro j (rfl | rfl) <;> omega) (fun _ => rfl)
        (fun S pre W => pre.length ≤ 7 ∧ ∃ va vc, OutB W (w.heap.size + 1 + 1) va vc (chgL a b k ++ pre.map (dotN k)) ∧ ¬ S (w.heap.size + 1 + 1) ∧ (∀ g, (Value.slice va (chgL a b k ++ pre.map (dotN k)).length vc).ownBlock = some g → ¬ S g) ∧ (Value.slice va (chgL a b k ++ pre.map (dotN k)).length vc).ownBlock ≠ some p ∧ Boxed W p 9 (.string (digS (k : Int))) ∧ ¬ S p ∧ Marks Ds W ∧ (∀ D ∈ Ds, ¬ S D) ∧ Below (w.heap.size + 1 + 1) w3 W)
        (fun c S pre W => False) ?hfin ?hJ ?hJx ?h0 _ ?assign ?body ?done ?stop
      case assign =>
        intro l x W K hK
        gi_wp2
        exact hK
      case hfin => exact fun h => absurd trivial h
      case hJ =>
        rintro S S' q W W' hS ⟨h0, va, vc, h1, h2, h3, h4, h5, h6, h7, h8, h9⟩ hs
        exact ⟨h0, va, vc, ⟨(hs.boxed h1.box h2).1, (hs.owns h1.own h3).1⟩, (hs.boxed h1.box h2).2, (hs.owns h1.own h3).2, h4, (hs.boxed h5 h6).1, (hs.boxed h5 h6).2, (hs.marks h7 h8).1, (hs.marks h7 h8).2, h9.trans hs.below⟩
      case hJx => rintro c S S' q W W' hS h0 hs; exact h0
      case h0 =>
        refine ⟨by simp, va, vc, by simpa using HON.out, by omega, ?_, ?_, hbpN, by omega, HMN.out, fun D hD => by have := HMLT.out D hD; omega, HBWN.out⟩
        · intro g hg
          have := HVL6.out g (by simpa using hg)
          omega
        · intro e
          have := HVL6.out p (by simpa using e)
          omega
      case body =>
        rintro l S pre x W hS hw hl _ ⟨h0, va, vc, h1, h2, h3, h4, h5, h6, h7, h8, h9⟩ hpre
        have hmem : x ∈ unl s t := hpre.subset (by simp)
        have hxs := unl_mem hmem
        have hpl2 : (pre ++ [x]).length ≤ 7 := Nat.le_trans hpre.length_le (unl_len s t)
        have HP2 := Lib.hid hpl2
        have hcl2 : (chgL a b k ++ pre.map (dotN k)).length ≤ 300 := by rw [List.length_append, List.length_map]; omega
        have HCL : Hid ((chgL a b k ++ pre.map (dotN k)) ++ [dotN k x] = chgL a b k ++ (pre ++ [x]).map (dotN k)) := Lib.hid (by simp)
        have HS := Lib.hid hS
        have H1 := Lib.hid h1
        have H3 := Lib.hid h3
        have H4 := Lib.hid h4
        have H5 := Lib.hid h5
        have H7 := Lib.hid h7
        have H9 := Lib.hid h9
        have q0 := h1.box.cell
        have q1 := h5.cell
        have hBW := h1.box.lt
        have hpW := h5.lt
        clear hS hpre hmem h1 h3 h4 h5 h7 h9 hpl2
        generalize chgL a b k ++ pre.map (dotN k) = acc at *
        gi_wp2_with (gi_at_builtin; go_must (refine wpListIn_push rfl _ _ 31 rfl (w.heap.size + 1 + 1) 9 i0 (.string ByteArray.empty) 1 16 Try.underlying31 hi hz0 hz1 hz2 rfl (by decide) _ _ _ rfl (H1.out.own.alloc _) ⟨W.heap.size, 0, none⟩ 1 1 [_] rfl rfl (cell_one_new _ _ _) (by simp [Value.oneCell']) (by unfold maxLen; omega) (by omega) (by simp; omega) ?_; intro v' w2 hown' hgrow hfr; obtain ⟨va', vc', rfl, kb1, kb2, kb3, kb4, kb5, kb6, kb7⟩ := out_pushedS (S := S) H1.out HS.out h2 H3.out hown' hgrow hfr; have hc1 := kb1.cell; have hf1 := kb1.frozen; have KB2 := Lib.hid kb2; have KB3 := Lib.hid kb3; have KB4 := Lib.hid kb4; have KB5 := Lib.hid kb5; have KB6 := Lib.hid kb6; have KB7 := Lib.hid kb7; clear hown' hgrow hfr kb1 kb2 kb3 kb4 kb5 kb6 kb7))
        have hk6 := KB6.out p hpW H4.out
        have hk2 := KB2.out
        have hk5 := KB5.out
        rw [show acc.length + 1 = (acc ++ [dotN k x]).length by simp] at hk6 hk5
        have hk2' : OutB _ (w.heap.size + 1 + 1) va' vc' (acc ++ [dotN k x]) := hk2
        rw [HCL.out] at hk2' hk6 hk5
        exact ⟨⟨HP2.out, va', vc', hk2', h2, hk5, hk6, KB7.out p _ H5.out (by omega) H4.out, h6, KB4.out _ H7.out, h8, H9.out.trans KB3.out.below⟩, KB3.out⟩
      case done =>
        rintro D S W hD hS hSD ⟨h0, va, vc, h1, h2, h3, h4, h5, h6, h7, h8, h9⟩ hKD
        clear hS
        gi_wp2
        refine HK.out (M + 1 - (k + 1)) _ (D :: Ds) _ (by omega) (by simp only [over, List.foldl_cons, List.foldl_nil, List.set_cons_zero, List.set_cons_succ, List.getElem?_cons_zero, List.getElem?_cons_succ, Option.getD_some]) ⟨k + 1, va, vc, by omega, by omega, by go_num, Lib.hid (by rw [chgL_succ, HCI.out]; exact h1), Lib.hid (h7.cons hKD (fun d hd => by have := HMLT.out d hd; exact Nat.lt_of_lt_of_le this (show w6.heap.size ≤ wn.heap.size by omega)) hD), Lib.hid (fun d hd => by
          rcases List.mem_cons.1 hd with rfl | hd
          · omega
          · exact HDS.out d hd), Lib.hid h9⟩
      case stop =>
        rintro D c S pre W hD hS hSD hpre h0 hKD
        exact h0.elim
    · have hkM : k = M := by omega
      subst hkM
      have hco := HO.out.box.cell
      have HFIN : Hid (changesD a b = chgL a b k) := Lib.hid (by unfold changesD; rw [hM])
      gi_wp2_with fail
      refine leaves_marks (n0 := (w.heap.size + 1 + 1)) Ds wr HMK.out HDS.out fun W' hT => ?_
      exact ⟨_, results_tmp rfl _ _ _, _, rfl, by rw [HFIN.out]; exact RdS.of_owns (hT.owns HO.out.own), HB0.out.trans ((HBR.out.trans hT.below).mono (by omega))⟩
end Go.Proofs.Ytlakmfhpinljjaa
