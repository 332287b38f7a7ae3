/-
  lint.rounds, gather, All, Clean: contracts.
-/
import Derived.Test.YtgafjjgnbcjmpaaGreatBz17
import Derived.Test.YtgafjjgnbcjmpaaGreatBz27
import Derived.Test.YtgafjjgnbcjmpaaGreatBz37
import Derived.Test.YtgafjjgnbcjmpaaGreatBz49
import Derived.Test.YtgafjjgnbcjmpaaGreatBz50
import Derived.Test.YtgafjjgnbcjmpaaGreatBz51
namespace Go.Proofs.YtgafjjgnbcjmpaaGreat
open Go Go.RowKit Go.WideShapes

def nameI (d : DefD) (i : Int) : ByteArray := (d.steps[i.toNat]?.getD default).name
/-- The steps that wait for themselves, as what is wrong. -/
def rndG (d : DefD) : List DiagD := (rndL (depsA d.steps 0 d.steps) (depsA d.steps 0 d.steps).length).map fun i => (i, 16, nameI d i)
theorem rndL_in {R : List (List Int)} {k : Nat} {x : Int} (h : x ∈ rndL R k) : ∃ n : Nat, x = (n : Int) ∧ n < k := by
  unfold rndL at h
  simp only [List.mem_map, List.mem_filter, List.mem_range] at h
  obtain ⟨n, ⟨h1, _⟩, rfl⟩ := h
  exact ⟨n, rfl, h1⟩
theorem rndG_len (d : DefD) : (rndG d).length ≤ d.steps.length := by
  unfold rndG
  rw [List.length_map]
  exact Nat.le_trans (rndL_len _ _) (by rw [depsA_len]; exact Nat.le_refl _)
theorem rndG_ok {d : DefD} (hs : SmallD d) : ∀ x ∈ rndG d, OkG x := by
  intro x hx
  unfold rndG at hx
  obtain ⟨i, hi, rfl⟩ := List.mem_map.1 hx
  obtain ⟨n, rfl, hn⟩ := rndL_in hi
  rw [depsA_len] at hn
  have := hs.steps
  refine ⟨by unfold I64w; omega, by unfold I64w; show (-9223372036854775808 : Int) ≤ 16 ∧ (16 : Int) ≤ 9223372036854775807; decide, ?_⟩
  unfold nameI
  rw [Int.toNat_natCast, List.getElem?_eq_getElem hn]
  have := (hs.each _ (List.getElem_mem hn)).name
  unfold maxLen
  show d.steps[n].name.size ≤ _
  omega
theorem field_faultI {c0 c1 : Value} {w : World} : (Instr.field 87 (.agg #[c0, c1]) 0).run Tryz.prog w = .ok c0 w := by kernel_rfl
set_option maxRecDepth 100000 in
set_option maxHeartbeats 2000000 in
theorem rounds_any (d : DefD) (cs : List Value) (sa : Option Addr) (sc : Nat) (w : World) (h : DefR w cs d sa sc) (hs : SmallD d) :
    Calls Tryz.prog 73 #[.agg cs.toArray] w fun e w' => ∃ va vc, e = .returned (.slice va (rndG d).length vc) ∧ DgR w' (.slice va (rndG d).length vc) (rndG d) ∧ Below w.heap.size w w' := by
  obtain ⟨i0, hi, hz0, hz1, hz2⟩ := info_parts Tryz.info_diag
  have hn30 := hs.steps
  have HOK := Lib.hid (rndG_ok hs)
  have HFEW := Lib.hid (refs_few hs)
  obtain ⟨rfl, hnm, htx, hst⟩ := h
  have hb0 := (Below.refl w.heap.size w).alloc (Nat.le_refl _) (.cells #[.string d.name, .string d.text, .slice sa d.steps.length sc] 34)
  have g0 := World.alloc_heap_new w (.cells #[.string d.name, .string d.text, .slice sa d.steps.length sc] 34)
  have HST := Lib.hid hst
  clear hs hst
  go_enter Tryz.func73, Tryz.ntmps73
  go_upto_region 2 with fail
  generalize w.alloc (.cells #[.string d.name, .string d.text, .slice sa d.steps.length sc] 34) = w0 at *
  have HD0 := Lib.hid (show DefR w0 _ d sa sc from ⟨rfl, hnm, htx, HST.out.below hb0⟩)
  have HB0 := Lib.hid hb0
  obtain ⟨p0, p1, p2, -, -, -⟩ := cells3h g0
  have HG0 := Lib.hid g0
  clear hb0 g0
  go_wp2_with fail
  refine (nRefs_any d _ sa sc w0 HD0.out (by omega) (by have := HFEW.out; omega)).mono ?_
  rintro e w1 ⟨v1, rfl, hr1, hb1⟩
  have HB1 := Lib.hid (bthen HB0.out (Nat.le_refl _) hb1)
  have HB1' := Lib.hid hb1
  have HR1 := Lib.hid hr1
  clear hr1 hb1 p0 p1 p2
  go_wp2_with fail
  refine (Round_any _ _ w1 HR1.out (by rw [depsA_len]; omega)).mono ?_
  rintro e w2 ⟨v2, rfl, ho2, hb2⟩
  have HB2 := Lib.hid (bthen HB1.out (Nat.le_refl _) hb2)
  have HRD := Lib.hid (RdS.of_owns ho2)
  obtain ⟨ra, rc, rfl⟩ := (RdS.of_owns ho2).form
  have hgl : (rndG d).length = (rndL (depsA d.steps 0 d.steps) (depsA d.steps 0 d.steps).length).length := by unfold rndG; rw [List.length_map]
  have hgle := rndG_len d
  have HGE : Hid (∀ (j : Nat) (hj : j < (rndG d).length), ∃ n : Nat, n < d.steps.length ∧ (rndL (depsA d.steps 0 d.steps) (depsA d.steps 0 d.steps).length)[j]? = some (n : Int) ∧ (rndG d)[j]? = some ((n : Int), 16, (d.steps[n]?.getD default).name)) := Lib.hid (fun j hj => by
    have hj' : j < (rndL (depsA d.steps 0 d.steps) (depsA d.steps 0 d.steps).length).length := by omega
    obtain ⟨n, hn, hn2⟩ := rndL_in (List.getElem_mem hj')
    rw [depsA_len] at hn2
    refine ⟨n, hn2, by rw [List.getElem?_eq_getElem hj', hn], ?_⟩
    unfold rndG
    rw [List.getElem?_map, List.getElem?_eq_getElem hj', hn]
    rfl)
  have HBW := Lib.hid hb2
  generalize rndL (depsA d.steps 0 d.steps) (depsA d.steps 0 d.steps).length = RL at *
  have hsz2 := HB2.out.size
  clear ho2 hb2
  have HRL := Lib.hid hgl
  clear hgl
  have HON : Hid (OwnG w2 w2.heap.size none 0 ((rndG d).take 0)) := Lib.hid (OwnG.nil _ _)
  go_wp2_with fail
  go_loopg [3, 10] (RL.length + 1) (fun gk out i wi => ∃ (j : Nat) (va : Option Addr) (vc : Nat), j + gk = RL.length + 1 ∧ j ≤ RL.length ∧ i = .int .i64 j ∧ out = .slice va j vc ∧ Hid (OwnG wi w2.heap.size va vc ((rndG d).take j)) ∧ Hid (Below w2.heap.size w2 wi))
  case atStart => exact ⟨0, none, 0, by omega, by omega, rfl, rfl, HON, Lib.hid (Below.refl _ _)⟩
  case round =>
    obtain ⟨j, va, vc, hgk, hj, rfl, rfl, HO, HB⟩ := hrel
    have hg : gk = RL.length + 1 - j := by omega
    subst hg
    by_cases hjl : j < RL.length
    · have d1 : decide ((j : Int) < (RL.length : Int)) = true := decide_eq_true (by omega)
      have hj1 : (j : Int) < (RL.length : Int) := by omega
      have hj0 : (0 : Int) ≤ (j : Int) := by omega
      obtain ⟨n, hn, hrl, hgd⟩ := HGE.out j (by have := HRL.out; omega)
      have hn0 : (0 : Int) ≤ (n : Int) := by omega
      have hn1 : (n : Int) < (d.steps.length : Int) := by omega
      rw [List.getElem?_eq_getElem hn, Option.getD_some] at hgd
      rcases HRD.out.cases (by decide) with ⟨h0, _⟩ | ⟨_, _, g2, off2, cap2, he2, _, _, q3⟩
      · omega
      cases he2
      have z0 := cellB HB.out (q3 j (.int .i64 (n : Int)) (by unfold ints; rw [List.getElem?_map, hrl]; rfl))
      have hbw : Below w0.heap.size w0 wr := bthen (bthen HB1'.out (Nat.le_refl _) HBW.out) (Nat.le_refl _) HB.out
      obtain ⟨-, -, p2, -, -, -⟩ := cells3h ((hbw.block _ (Array.getElem?_eq_some_iff.1 HG0.out).1).trans HG0.out)
      obtain ⟨g, off, cap, aa, ac, ka, kc, ba, bc, he, hcl, hcu, hst', hat⟩ := (HD0.out.below hbw).steps.at hn
      have t0 := hat.q0
      cases he
      have hwsz := HB.out.size
      have HTK : Hid ((rndG d).take (j + 1) = (rndG d).take j ++ [((n : Int), 16, d.steps[n].name)]) := Lib.hid (by rw [List.take_add_one, hgd]; rfl)
      have htl : ((rndG d).take j).length = j := by rw [List.length_take]; have := HRL.out; omega
      have HO' : Hid (wr.ownsRow w2.heap.size 160 3 (.slice va j vc) j (flatG ((rndG d).take j))) := Lib.hid (by have := HO.out; unfold OwnG at this; rw [htl] at this; exact this)
      have HTL := Lib.hid htl
      clear hat hst' hgd hrl q3 hbw htl hcl hcu
      go_wp2_with (at_builtin; go_must (refine wpList_push rfl _ _ 84 rfl w2.heap.size 160 i0 (.agg #[.int .i64 0, .int .i64 0, .string { data := #[] }]) 3 32 Tryz.underlying84 hi hz0 hz1 hz2 rfl (by decide) (.slice va j vc) j (flatG ((rndG d).take j)) rfl (HO'.out.alloc _) ⟨wr.heap.size, 0, none⟩ 1 1 (encG ((n : Int), 16, d.steps[n].name)) rfl rfl cells3_new (encG_one ((n : Int), 16, d.steps[n].name)) (by have := HRL.out; unfold maxLen; omega) (by have := HRL.out; omega) (by simp; omega) ?_; intro v' w4 hown' hgrow hfr; obtain ⟨va', vc', rfl, kb1, kb2, kb3⟩ := ownG_pushed (l := (rndG d).take j) HO.out hwsz (by rw [HTL.out]; exact hown') (by rw [HTL.out]; exact hgrow); have KB1 := Lib.hid kb1; have KB2 := Lib.hid kb2; clear hown' hgrow hfr kb1 kb2 kb3))
      go_roundg (RL.length + 1 - (j + 1))
      case measure => omega
      case rel => exact ⟨j + 1, va', vc', by omega, by omega, by go_num, by first | rfl | (have := HRL.out; rw [show min j (rndG d).length = j by omega]), by rw [HTK.out]; exact KB1, Lib.hid (HB.out.trans KB2.out)⟩
    · have d1 : decide ((j : Int) < (RL.length : Int)) = false := decide_eq_false (by omega)
      obtain rfl : j = RL.length := by omega
      have hal : (rndG d).take RL.length = rndG d := List.take_of_length_le (by have := HRL.out; omega)
      have HO2 := HO.out
      rw [hal] at HO2
      have HF := Lib.hid (HO2.read HOK.out)
      clear HO2 hal
      go_wp2_with fail
      go_ret
      exact ⟨va, vc, by rw [HRL.out]; rfl, HF.out, HB2.out.trans (HB.out.mono hsz2)⟩
/-- What the parts tell, one behind the other. -/
def gatP (d : DefD) : Nat → List DiagD
  | 0 => []
  | 1 => sortD (chkN d)
  | 2 => sortD (chkN d) ++ sortD (chkU d.steps d.steps.length (chkR 0 d.steps []))
  | _ => sortD (chkN d) ++ sortD (chkU d.steps d.steps.length (chkR 0 d.steps [])) ++ rndG d
theorem flatG_one (l : List DiagD) : ∀ u ∈ flatG l, u.oneCell' = true := by
  intro u hu
  unfold flatG at hu
  obtain ⟨x, _, hx⟩ := List.mem_flatMap.1 hu
  exact encG_one x u hx
theorem gat_pushed {W w1 : World} {B vc vc' : Nat} {va va' : Option Addr} {l m : List DiagD} (h : OwnG W B va vc l) (hB : B ≤ W.heap.size) (hown' : w1.ownsRow B 160 3 (.slice va' (l.length + m.length) vc') (l.length + m.length) (flatG l ++ flatG m)) (hgrow : W.grownBy w1 (Value.slice va l.length vc).ownBlock) :
    OwnG w1 B va' vc' (l ++ m) ∧ Below B W w1 := by
  refine ⟨?_, (Below.refl B W).grown hgrow hB (fun j ej => (World.ownsRow.lt h j ej).1)⟩
  unfold OwnG
  rw [List.length_append]
  have : flatG (l ++ m) = flatG l ++ flatG m := by unfold flatG; rw [List.flatMap_append]
  rw [this]
  exact hown'
theorem gatL_len {d : DefD} (hs : SmallD d) : (sortD (chkN d)).length ≤ 100000 ∧ (sortD (chkU d.steps d.steps.length (chkR 0 d.steps []))).length ≤ 100000 ∧ (rndG d).length ≤ 30 := by
  have h1 := sortD_len (chkN d)
  have h2 := chkN_few hs
  have h3 := sortD_len (chkU d.steps d.steps.length (chkR 0 d.steps []))
  have h4 := chkU_len d.steps (m := 70) (fun s h => (hs.each s h).after) d.steps.length (chkR 0 d.steps [])
  have h5 := chkR_len d.steps 0 []
  have h6 := rndG_len d
  have h7 := hs.steps
  have h8 : d.steps.length * 70 ≤ 30 * 70 := Nat.mul_le_mul_right _ h7
  simp only [List.length_nil] at h5
  omega
set_option maxRecDepth 100000 in
set_option maxHeartbeats 2000000 in
theorem gather_any (d : DefD) (cs : List Value) (sa : Option Addr) (sc Q : Nat) (w : World) (h : DefR w cs d sa sc) (hs : SmallD d) (hQ : w.heap[Q]? = some (.cells #[.func (.func 71) #[] #[], .func (.func 72) #[] #[], .func (.func 73) #[] #[]] 85 (0, 0))) :
    Calls Tryz.prog 70 #[.agg cs.toArray, .slice (some ⟨Q, 0, none⟩) 3 3] w fun e w' => ∃ va vc, e = .returned (.slice va (sortD (gatP d 3)).length vc) ∧ Below w.heap.size w w' := by
  obtain ⟨i0, hi, hz0, hz1, hz2⟩ := info_parts Tryz.info_diag
  have hn30 := hs.steps
  have HS := Lib.hid hs
  have HLEN := Lib.hid (gatL_len hs)
  have hb0 := (Below.refl w.heap.size w).alloc (Nat.le_refl _) (.cells #[.string d.name, .string d.text, .slice sa d.steps.length sc] 34)
  have g0 := World.alloc_heap_new w (.cells #[.string d.name, .string d.text, .slice sa d.steps.length sc] 34)
  obtain ⟨rfl, hnm, htx, hst⟩ := h
  have HST := Lib.hid hst
  have hQl := (Array.getElem?_eq_some_iff.1 hQ).1
  clear hs hst
  go_enter Tryz.func70, Tryz.ntmps70
  go_upto_region 2 with fail
  generalize w.alloc (.cells #[.string d.name, .string d.text, .slice sa d.steps.length sc] 34) = w0 at *
  have HD0 := Lib.hid (show DefR w0 _ d sa sc from ⟨rfl, hnm, htx, HST.out.below hb0⟩)
  have HB0 := Lib.hid hb0
  have HG0 := Lib.hid g0
  have HQ0 := Lib.hid ((hb0.block _ hQl).trans hQ)
  have hsz0 := hb0.size
  clear hb0 g0 hQ
  have HON : Hid (OwnG w0 w0.heap.size none 0 (gatP d 0)) := Lib.hid (OwnG.nil _ _)
  have hl0 := (Array.getElem?_eq_some_iff.1 HG0.out).1
  go_wp2_with fail
  go_loopg [5, 10] 4 (fun gk out i wi => ∃ (j : Nat) (va : Option Addr) (vc : Nat), j + gk = 4 ∧ j ≤ 3 ∧ i = .int .i64 j ∧ out = .slice va (gatP d j).length vc ∧ Hid (OwnG wi w0.heap.size va vc (gatP d j)) ∧ Hid (Below w0.heap.size w0 wi))
  case atStart => exact ⟨0, none, 0, by omega, by omega, rfl, rfl, HON, Lib.hid (Below.refl _ _)⟩
  case round =>
    obtain ⟨j, va, vc, hgk, hj, rfl, rfl, HO, HB⟩ := hrel
    have hg : gk = 4 - j := by omega
    subst hg
    obtain ⟨p0, p1, p2, -, -, -⟩ := cells3h ((HB.out.block _ hl0).trans HG0.out)
    obtain ⟨f0, f1, f2, -, -, -⟩ := cells3h ((HB.out.block _ (Nat.lt_of_lt_of_le hQl hsz0)).trans HQ0.out)
    have HDr := Lib.hid (HD0.out.below HB.out)
    by_cases hj3 : j < 3
    · rcases (by omega : j = 0 ∨ j = 1 ∨ j = 2) with rfl | rfl | rfl
      · go_wp2_with fail
        refine (nCheck_any d _ sa sc _ HDr.out HS.out (refs_few HS.out) (chkN_ok HS.out)).mono ?_
        rintro e w1 ⟨ga, gc, rfl, hdg, hbg⟩
        have HO1 := Lib.hid (HO.out.below hbg)
        have HB1 := Lib.hid (bthen HB.out (Nat.le_refl _) hbg)
        have hsz1 := HB1.out.size
        have HDG := Lib.hid hdg
        have hL1 := HLEN.out.1
        have hL2 := HLEN.out.2.1
        have hL3 := HLEN.out.2.2
        clear hdg hbg p0 p1 p2 f0 f1 f2
        go_wp2_with (at_builtin; go_must (refine wpList_pushS rfl _ _ 84 rfl w0.heap.size 160 i0 (.agg #[.int .i64 0, .int .i64 0, .string { data := #[] }]) 3 32 Tryz.underlying84 hi hz0 hz1 hz2 rfl (by decide) (.slice va (gatP d 0).length vc) (gatP d 0).length (flatG (gatP d 0)) rfl HO1.out _ _ _ rfl HDG.out.1 (flatG_one _) (by unfold maxLen; simp only [gatP, List.length_nil]; omega) (by simp only [gatP, List.length_nil]; omega) hsz1 ?_; intro v' w2 hown' hgrow hfr; obtain ⟨va', vc', rfl⟩ := (RdS.of_owns hown').form; have HN := Lib.hid (gat_pushed HO1.out hsz1 hown' hgrow); clear hown' hgrow hfr))
        have HN2 : Hid (OwnG _ w0.heap.size va' vc' (gatP d 1)) := Lib.hid HN.out.1
        go_roundg (4 - (0 + 1))
        case measure => omega
        case rel => exact ⟨0 + 1, va', vc', by omega, by omega, by go_num, by rw [show gatP d (0 + 1) = gatP d 0 ++ sortD (chkN d) from rfl, List.length_append], HN2, Lib.hid (HB1.out.trans HN.out.2)⟩
      · go_wp2_with fail
        refine (bCheck_any d _ sa sc _ HDr.out (by omega) (fun s h => Nat.le_trans (HS.out.each s h).after (by omega)) (Nat.le_trans (refs_few HS.out) (by omega)) (chk_ok HS.out)).mono ?_
        rintro e w1 ⟨ga, gc, rfl, hdg, hbg⟩
        have HO1 := Lib.hid (HO.out.below hbg)
        have HB1 := Lib.hid (bthen HB.out (Nat.le_refl _) hbg)
        have hsz1 := HB1.out.size
        have HDG := Lib.hid hdg
        have hL1 := HLEN.out.1
        have hL2 := HLEN.out.2.1
        have hL3 := HLEN.out.2.2
        clear hdg hbg p0 p1 p2 f0 f1 f2
        go_wp2_with (at_builtin; go_must (refine wpList_pushS rfl _ _ 84 rfl w0.heap.size 160 i0 (.agg #[.int .i64 0, .int .i64 0, .string { data := #[] }]) 3 32 Tryz.underlying84 hi hz0 hz1 hz2 rfl (by decide) (.slice va (gatP d 1).length vc) (gatP d 1).length (flatG (gatP d 1)) rfl HO1.out _ _ _ rfl HDG.out.1 (flatG_one _) (by unfold maxLen; simp only [gatP]; omega) (by simp only [gatP]; omega) hsz1 ?_; intro v' w2 hown' hgrow hfr; obtain ⟨va', vc', rfl⟩ := (RdS.of_owns hown').form; have HN := Lib.hid (gat_pushed HO1.out hsz1 hown' hgrow); clear hown' hgrow hfr))
        have HN2 : Hid (OwnG _ w0.heap.size va' vc' (gatP d 2)) := Lib.hid HN.out.1
        go_roundg (4 - (1 + 1))
        case measure => omega
        case rel => exact ⟨1 + 1, va', vc', by omega, by omega, by go_num, by rw [show gatP d (1 + 1) = gatP d 1 ++ sortD (chkU d.steps d.steps.length (chkR 0 d.steps [])) from rfl, List.length_append], HN2, Lib.hid (HB1.out.trans HN.out.2)⟩
      · go_wp2_with fail
        refine (rounds_any d _ sa sc _ HDr.out HS.out).mono ?_
        rintro e w1 ⟨ga, gc, rfl, hdg, hbg⟩
        have HO1 := Lib.hid (HO.out.below hbg)
        have HB1 := Lib.hid (bthen HB.out (Nat.le_refl _) hbg)
        have hsz1 := HB1.out.size
        have HDG := Lib.hid hdg
        have hL1 := HLEN.out.1
        have hL2 := HLEN.out.2.1
        have hL3 := HLEN.out.2.2
        clear hdg hbg p0 p1 p2 f0 f1 f2
        go_wp2_with (at_builtin; go_must (refine wpList_pushS rfl _ _ 84 rfl w0.heap.size 160 i0 (.agg #[.int .i64 0, .int .i64 0, .string { data := #[] }]) 3 32 Tryz.underlying84 hi hz0 hz1 hz2 rfl (by decide) (.slice va (gatP d 2).length vc) (gatP d 2).length (flatG (gatP d 2)) rfl HO1.out _ _ _ rfl HDG.out.1 (flatG_one _) (by unfold maxLen; simp only [List.length_append, gatP]; omega) (by simp only [gatP, List.length_append]; omega) hsz1 ?_; intro v' w2 hown' hgrow hfr; obtain ⟨va', vc', rfl⟩ := (RdS.of_owns hown').form; have HN := Lib.hid (gat_pushed HO1.out hsz1 hown' hgrow); clear hown' hgrow hfr))
        have HN2 : Hid (OwnG _ w0.heap.size va' vc' (gatP d 3)) := Lib.hid HN.out.1
        go_roundg (4 - (2 + 1))
        case measure => omega
        case rel => exact ⟨2 + 1, va', vc', by omega, by omega, by go_num, by rw [show gatP d (2 + 1) = gatP d 2 ++ rndG d from rfl, List.length_append], HN2, Lib.hid (HB1.out.trans HN.out.2)⟩
    · obtain rfl : j = 3 := by omega
      have HRD := Lib.hid (HO.out.read (show ∀ x ∈ gatP d 3, OkG x from fun x hx => by
        rcases List.mem_append.1 hx with hx | hx
        · rcases List.mem_append.1 hx with hx | hx
          · exact chkN_ok HS.out x ((sortD_mem _ x).1 hx)
          · exact chk_ok HS.out x ((sortD_mem _ x).1 hx)
        · exact rndG_ok HS.out x hx))
      have hgl : (gatP d 3).length ≤ 1000000 := by
        have h1 := HLEN.out.1
        have h2 := HLEN.out.2.1
        have h3 := HLEN.out.2.2
        simp only [gatP, List.length_append]
        omega
      have HSO := Lib.hid (dSort_any (gatP d 3) _ wr HRD.out hgl)
      have HF := Lib.hid (HB0.out.trans (HB.out.mono hsz0))
      clear hgl p0 p1 p2 f0 f1 f2
      go_wp2_with fail
      refine HSO.out.mono ?_
      rintro e w2 ⟨va', vc', rfl, ho, hb2⟩
      have HF2 := Lib.hid (bthen HF.out (Nat.le_refl _) hb2)
      clear ho hb2
      go_wp2_with fail
      go_ret
      exact ⟨va', vc', rfl, HF2.out⟩
set_option maxRecDepth 100000 in
set_option maxHeartbeats 2000000 in
theorem All_any' (d : DefD) (cs : List Value) (sa : Option Addr) (sc : Nat) (w : World) (h : DefR w cs d sa sc) (hs : SmallD d) :
    Calls Tryz.prog 37 #[.agg cs.toArray] w fun e w' => ∃ va vc, e = .returned (.slice va (sortD (gatP d 3)).length vc) ∧ Below w.heap.size w w' := by
  obtain ⟨rfl, hnm, htx, hst⟩ := h
  have hb0 : Below w.heap.size w ((w.alloc (.cells #[.string d.name, .string d.text, .slice sa d.steps.length sc] 34)).alloc (.cells #[.func (.func 71) #[] #[], .func (.func 72) #[] #[], .func (.func 73) #[] #[]] 85)) := ((Below.refl _ w).alloc (Nat.le_refl _) _).alloc (by simp) _
  have g0 : ((w.alloc (.cells #[.string d.name, .string d.text, .slice sa d.steps.length sc] 34)).alloc (.cells #[.func (.func 71) #[] #[], .func (.func 72) #[] #[], .func (.func 73) #[] #[]] 85)).heap[w.heap.size + 1]? = some (.cells #[.func (.func 71) #[] #[], .func (.func 72) #[] #[], .func (.func 73) #[] #[]] 85 (0, 0)) := by
    have := World.alloc_heap_new (w.alloc (.cells #[.string d.name, .string d.text, .slice sa d.steps.length sc] 34)) (.cells #[.func (.func 71) #[] #[], .func (.func 72) #[] #[], .func (.func 73) #[] #[]] 85)
    rwa [World.size_alloc] at this
  have HG := Lib.hid (gather_any d _ sa sc (w.heap.size + 1) ((w.alloc (.cells #[.string d.name, .string d.text, .slice sa d.steps.length sc] 34)).alloc (.cells #[.func (.func 71) #[] #[], .func (.func 72) #[] #[], .func (.func 73) #[] #[]] 85)) ⟨rfl, hnm, htx, hst.below hb0⟩ hs g0)
  have HB := Lib.hid hb0
  clear hst hs hb0 g0
  go_enter Tryz.func37, Tryz.ntmps37
  go_wp2_with fail
  refine HG.out.mono ?_
  rintro e w2 ⟨va, vc, rfl, hb2⟩
  have HF := Lib.hid (bthen HB.out (Nat.le_refl _) hb2)
  clear hb2
  go_wp2_with fail
  go_ret
  exact ⟨va, vc, rfl, HF.out⟩
/-- Is nothing wrong with a definition? -/
def cleanB (d : DefD) : Bool := decide ((sortD (gatP d 3)).length = 0) && decide ((defC d).1 = 0)
set_option maxRecDepth 100000 in
set_option maxHeartbeats 2000000 in
theorem Clean_any (d : DefD) (cs : List Value) (sa : Option Addr) (sc : Nat) (w : World) (h : DefR w cs d sa sc) (hs : SmallD d) :
    Calls Tryz.prog 9 #[.agg cs.toArray] w fun e w' => e = .returned (.bool (cleanB d)) ∧ Below w.heap.size w w' := by
  obtain ⟨rfl, hnm, htx, hst⟩ := h
  have hb0 := (Below.refl w.heap.size w).alloc (Nat.le_refl _) (.cells #[.string d.name, .string d.text, .slice sa d.steps.length sc] 34)
  have g0 := World.alloc_heap_new w (.cells #[.string d.name, .string d.text, .slice sa d.steps.length sc] 34)
  have HD0 := Lib.hid (show DefR (w.alloc (.cells #[.string d.name, .string d.text, .slice sa d.steps.length sc] 34)) [.string d.name, .string d.text, .slice sa d.steps.length sc] d sa sc from ⟨rfl, hnm, htx, hst.below hb0⟩)
  have HS := Lib.hid hs
  have HB := Lib.hid hb0
  have HG := Lib.hid g0
  clear hst hs hb0 g0
  unfold cleanB
  by_cases hl : (sortD (gatP d 3)).length = 0
  case neg =>
    have hr : (decide ((sortD (gatP d 3)).length = 0) && decide ((defC d).1 = 0)) = false := by simp [hl]
    have hd : (((sortD (gatP d 3)).length : Int) == 0) = false := beq_eq_false_iff_ne.2 (by omega)
    rw [hr]
    clear hr hl
    have HAL := Lib.hid (All_any' d _ sa sc _ HD0.out HS.out)
    generalize (sortD (gatP d 3)).length = n at *
    go_enter Tryz.func9, Tryz.ntmps9
    go_upto_region 1 with fail
    generalize w.alloc (.cells #[.string d.name, .string d.text, .slice sa d.steps.length sc] 34) = w0 at *
    obtain ⟨p0, p1, p2, -, -, -⟩ := cells3h HG.out
    go_wp2_with fail
    refine HAL.out.mono ?_
    rintro e w2 ⟨va, vc, rfl, hb2⟩
    have HF := Lib.hid (bthen HB.out (Nat.le_refl _) hb2)
    clear hb2
    go_wp2_with fail
    go_ret
    exact ⟨rfl, HF.out⟩
  have hd : (((sortD (gatP d 3)).length : Int) == 0) = true := beq_iff_eq.2 (by omega)
  have hr : (decide ((sortD (gatP d 3)).length = 0) && decide ((defC d).1 = 0)) = ((defC d).1 == 0) := by simp [hl]; rfl
  rw [hr]
  clear hr hl
  have HAL := Lib.hid (All_any' d _ sa sc _ HD0.out HS.out)
  generalize (sortD (gatP d 3)).length = n at *
  go_enter Tryz.func9, Tryz.ntmps9
  go_upto_region 1 with fail
  generalize w.alloc (.cells #[.string d.name, .string d.text, .slice sa d.steps.length sc] 34) = w0 at *
  obtain ⟨p0, p1, p2, -, -, -⟩ := cells3h HG.out
  go_wp2_with fail
  refine HAL.out.mono ?_
  rintro e w2 ⟨va, vc, rfl, hb2⟩
  have HF := Lib.hid (bthen HB.out (Nat.le_refl _) hb2)
  have HD2 := Lib.hid (HD0.out.below hb2)
  have hff := @field_faultI
  clear p0 p1 p2
  obtain ⟨p0, p1, p2, -, -, -⟩ := cells3h ((hb2.block _ (Array.getElem?_eq_some_iff.1 HG.out).1).trans HG.out)
  clear hb2
  go_wp2_with fail
  refine (dCheck_any d _ sa sc w2 HD2.out HS.out).mono ?_
  rintro e w3 ⟨rfl, hb3⟩
  have HF3 := Lib.hid (bthen HF.out (Nat.le_refl _) hb3)
  clear hb3 p0 p1 p2
  unfold faultV
  go_wp2_with fail
  go_ret
  exact ⟨rfl, HF3.out⟩
end Go.Proofs.YtgafjjgnbcjmpaaGreat

/-
  saga.New: contract.
-/
namespace Go.Proofs.YtgafjjgnbcjmpaaGreat
open Go Go.RowKit Go.Maps Go.WideShapes

/-- A definition that def.Copy made lies in its own memory. -/
theorem defF_keep {w : World} {N : Nat} {d : DefD} {va : Option Addr} {vc : Nat} {rows : List (List Value)} (hn : d.name.size ≤ maxLen) (ht : d.text.size ≤ maxLen) (h1 : rows.length = d.steps.length) (h2 : w.ownsRow N 29 13 (.slice va d.steps.length vc) d.steps.length rows.flatten) (h3 : ∀ (i : Nat) (r : List Value) (s : StepD), rows[i]? = some r → d.steps[i]? = some s → StepF w N r s) :
    ∀ w' : World, (∀ b, N ≤ b → b < w.heap.size → w'.heap[b]? = w.heap[b]?) → DefR w' [.string d.name, .string d.text, .slice va d.steps.length vc] d va vc :=
  fun _w' hk => ⟨rfl, hn, ht, rows, h1, RdS.of_owns (ownsRow_keepB h2 (fun g hg => hk g (h2.lt g hg).1 (h2.lt g hg).2)), fun i r s hr hs => ((h3 i r s hr hs).keep hk).toX⟩
/-- So do rows that names.Refs made. -/
theorem rowsF_keep {w : World} {B : Nat} {R : List (List Int)} (h : RowsAt w (fun _ => False) B B R) (hl : R.length ≤ 1000) :
    ∀ w' : World, (∀ b, B ≤ b → b < w.heap.size → w'.heap[b]? = w.heap[b]?) → Rows2 w' (.slice (some ⟨B, 0, none⟩) R.length R.length) R := by
  intro w' hk
  obtain ⟨cs, h1, h2, h3, h4, h5⟩ := h
  exact RowsAt.rows2 (S := fun _ => False) (base := B) ⟨cs, h1, (hk B (Nat.le_refl _) (Array.getElem?_eq_some_iff.1 h2).1).trans h2, h3, fun i r c hr hc => ⟨ownsRow_keepB (h4 i r c hr hc).1 (fun g hg => hk g ((h4 i r c hr hc).1.lt g hg).1 ((h4 i r c hr hc).1.lt g hg).2), (h4 i r c hr hc).2⟩, h5⟩ (by omega)
set_option maxRecDepth 100000 in
set_option maxHeartbeats 4000000 in
theorem New_any (d : DefD) (cs : List Value) (sa : Option Addr) (sc : Nat) (w : World) (h : DefR w cs d sa sc) (hs : SmallD d) (hc : cleanB d = true) :
    Calls Tryz.prog 10 #[.agg cs.toArray] w fun e w' => ∃ (k : SagK) (U : Nat → Prop), e = .returned (.tuple #[.pointer (some ⟨k.p, 0, none⟩), .int .i64 0]) ∧ k.d = d ∧ k.rs = depsA d.steps 0 d.steps ∧ SagE w' U k newSag ∧ Below w.heap.size w w' ∧ (∀ j, U j → w.heap.size ≤ j ∧ j < w'.heap.size) := by
  have HCL := Lib.hid (fun W sa sc (hW : DefR W [.string d.name, .string d.text, .slice sa d.steps.length sc] d sa sc) => Clean_any d _ sa sc W hW hs)
  rw [hc] at HCL
  have hn30 := hs.steps
  have HFEW := Lib.hid (refs_few hs)
  have HDL : Hid ((depsA d.steps 0 d.steps).length ≤ 1000) := Lib.hid (by rw [depsA_len]; omega)
  obtain ⟨rfl, hnm, htx, hst⟩ := h
  have hb0 := (Below.refl w.heap.size w).alloc (Nat.le_refl _) (.cells #[.string d.name, .string d.text, .slice sa d.steps.length sc] 34)
  have g0 := World.alloc_heap_new w (.cells #[.string d.name, .string d.text, .slice sa d.steps.length sc] 34)
  have HD0 := Lib.hid (show DefR (w.alloc (.cells #[.string d.name, .string d.text, .slice sa d.steps.length sc] 34)) [.string d.name, .string d.text, .slice sa d.steps.length sc] d sa sc from ⟨rfl, hnm, htx, hst.below hb0⟩)
  have HNM := Lib.hid hnm
  have HTX := Lib.hid htx
  have HS := Lib.hid hs
  have HB := Lib.hid hb0
  have HG := Lib.hid g0
  clear hst hs hb0 g0 hnm htx
  go_enter Tryz.func10, Tryz.ntmps10
  go_upto_region 1 with fail
  generalize w.alloc (.cells #[.string d.name, .string d.text, .slice sa d.steps.length sc] 34) = w0 at *
  obtain ⟨p0, p1, p2, -, -, -⟩ := cells3h HG.out
  go_wp2_with fail
  refine (HCL.out _ _ _ HD0.out).mono ?_
  rintro e w1 ⟨rfl, hb1⟩
  have HB1 := Lib.hid (bthen HB.out (Nat.le_refl _) hb1)
  have HD1 := Lib.hid (HD0.out.below hb1)
  have hg1 := (hb1.block _ (Array.getElem?_eq_some_iff.1 HG.out).1).trans HG.out
  clear p0 p1 p2 hb1
  obtain ⟨p0, p1, p2, -, -, -⟩ := cells3h hg1
  clear hg1
  go_upto_region 3 with fail
  refine E_region (S := (fun W => W.cell? ⟨w.heap.size, 0, none⟩ = some (.string d.name) ∧ W.cell? ⟨w.heap.size, 1, none⟩ = some (.string d.text) ∧ W.cell? ⟨w.heap.size, 2, none⟩ = some (.slice sa d.steps.length sc))) 6 (by kernel_rfl) ⟨p0, p1, p2⟩ (fun _ _ _ _ _ h => h) (fun Q' hQ hK' hHeld => ?_)
  refine E_take hQ hHeld 0 (v := ?va1) rfl rfl (by kernel_rfl) (by kernel_rfl) (by kernel_rfl) (by kernel_rfl) (by kernel_rfl) (by rfl) ?ya1 ?ra1
  case ya1 => (intro w hSw; (try dsimp only at hSw); go_simp; (try with_reducible rfl))
  (try simp only [Act.put, List.setIfInBounds_toArray, List.set_cons_zero, List.set_cons_succ])
  refine E_take hQ hHeld 2 (v := ?va2) rfl rfl (by kernel_rfl) (by kernel_rfl) (by kernel_rfl) (by kernel_rfl) (by kernel_rfl) (by rfl) ?ya2 ?ra2
  case ya2 => (intro w hSw; (try dsimp only at hSw); go_simp; (try with_reducible rfl))
  (try simp only [Act.put, List.setIfInBounds_toArray, List.set_cons_zero, List.set_cons_succ])
  refine E_twoS 1 4 (by kernel_rfl) rfl rfl (by rfl) (by rfl) (fun K hK => ?_) (fun K hK => ?_)
  · skip
    go_simp
    refine (dCopy_any d _ sa sc _ (HD1.out.below (Below.refl w1.heap.size w1).drew) HS.out).mono ?_
    rintro e v1 ⟨va, vc, rows, rfl, hrl, hro, hrs, hb⟩
    have hBv1 : Below w1.heap.size w1 v1 := bthen (Below.refl w1.heap.size w1).drew (Nat.le_refl _) hb
    have hC := hb
    have hCd := defF_keep HNM.out HTX.out hrl hro hrs
    clear hb hrl hro hrs
    (skip)
    refine hK.out _ _ (fun _ _ => ⟨cellB hBv1 p0, cellB hBv1 p1, cellB hBv1 p2⟩) (fun hHeld' => ?_)
    replace hHeld := hHeld' (by rfl) (by decide)
    clear hK hHeld'
    (try simp only [Act.put, List.setIfInBounds_toArray, List.set_cons_zero, List.set_cons_succ])
    refine E_twoS 3 4 (by kernel_rfl) rfl rfl (by rfl) (by rfl) (fun K hK => ?_) (fun K hK => ?_)
    · skip
      go_simp
      refine (nRefsA_any d _ sa sc _ (HD1.out.below hBv1) (by omega) (by have := HFEW.out; omega)).mono ?_
      rintro e v2 ⟨rfl, hra, hb⟩
      have hBv2 : Below w1.heap.size w1 v2 := bthen hBv1 (Nat.le_refl _) hb
      have hR := hb
      have hRd := rowsF_keep hra HDL.out
      clear hb hra
      (skip)
      refine hK.out _ _ (fun _ _ => ⟨cellB hBv2 p0, cellB hBv2 p1, cellB hBv2 p2⟩) (fun hHeld' => ?_)
      replace hHeld := hHeld' (by rfl) (by decide)
      clear hK hHeld'
      (try simp only [Act.put, List.setIfInBounds_toArray, List.set_cons_zero, List.set_cons_succ])
      refine E_one 4 (by kernel_rfl) rfl (by rfl) (fun K hK => ?_)
      go_simp
      change K _ (v2.alloc (.map #[] 0))
      have hm : Below v2.heap.size v2 (v2.alloc (.map #[] 0)) := (Below.refl _ v2).alloc (Nat.le_refl _) _
      have hmap : MapH Tryz.prog 100 encW (v2.alloc (.map #[] 0)) v2.heap.size [] (fun _ => none) := MapH.made Tryz.prog 100 encW v2
      have hml : v2.heap.size < (v2.alloc (.map #[] 0)).heap.size := by simp
      generalize (v2.alloc (.map #[] 0)) = v3 at *
      have hBv3 : Below w1.heap.size w1 v3 := bthen hBv2 (Nat.le_refl _) hm
      (try simp only [Act.put, List.setIfInBounds_toArray, List.set_cons_zero, List.set_cons_succ])
      refine hK.out _ _ (fun _ _ => ⟨cellB hBv3 p0, cellB hBv3 p1, cellB hBv3 p2⟩) (fun hHeld' => ?_)
      replace hHeld := hHeld' (by rfl) (by decide)
      clear hK hHeld'
      (try simp only [Act.put, List.setIfInBounds_toArray, List.set_cons_zero, List.set_cons_succ])
      refine E_take0 hQ (fun _ => hHeld) 5 (v := ?va3) rfl rfl (by kernel_rfl) (by kernel_rfl) (by kernel_rfl) (by decide) (by rfl) ?ya3 ?ra3
      case ya3 => (intro w; go_simp; (try with_reducible rfl))
      (try simp only [Act.put, List.setIfInBounds_toArray, List.set_cons_zero, List.set_cons_succ])
      refine E_one 6 (by kernel_rfl) rfl (by rfl) (fun K hK => ?_)
      go_simp
      (try simp only [Act.put, List.setIfInBounds_toArray, List.set_cons_zero, List.set_cons_succ])
      refine hK.out _ _ (fun _ h => absurd rfl h) (fun _ => ?_)
      clear hK hHeld
      (try simp only [Act.put, List.setIfInBounds_toArray, List.set_cons_zero, List.set_cons_succ])
      refine E_take0 hQ (fun h => absurd h (by decide)) 7 (v := ?va4) rfl rfl (by kernel_rfl) (by kernel_rfl) (by kernel_rfl) (by decide) (by rfl) ?ya4 ?ra4
      case ya4 => (intro w; go_simp; (try with_reducible rfl))
      (try simp only [Act.put, List.setIfInBounds_toArray, List.set_cons_zero, List.set_cons_succ])
      refine E_take0 hQ (fun h => absurd h (by decide)) 8 (v := ?va5) rfl rfl (by kernel_rfl) (by kernel_rfl) (by kernel_rfl) (by decide) (by rfl) ?ya5 ?ra5
      case ya5 => (intro w; go_simp; (try with_reducible rfl))
      (try simp only [Act.put, List.setIfInBounds_toArray, List.set_cons_zero, List.set_cons_succ])
      refine E_done (by kernel_rfl) ?_ _
      refine hK'.out _ _ ?_
      clear hK'
      have hkc := bthen (hR) (Nat.le_refl _) hm
      have hkr := hm
      have hkm := Below.refl v3.heap.size v3
      have hz1 := hC.size
      have hz2 := hR.size
      have hz3 := hm.size
      have hb4 : Below v3.heap.size v3 (v3.alloc (.cells #[.string d.name, .string d.text, .slice va d.steps.length vc, .slice (some ⟨v1.heap.size + 1, 0, none⟩) d.steps.length d.steps.length, .map (some v2.heap.size), .slice none 0 0, .slice none 0 0, .int .u8 0] 92)) := (Below.refl _ _).alloc (Nat.le_refl _) _
      have g4 := World.alloc_heap_new v3 (.cells #[.string d.name, .string d.text, .slice va d.steps.length vc, .slice (some ⟨v1.heap.size + 1, 0, none⟩) d.steps.length d.steps.length, .map (some v2.heap.size), .slice none 0 0, .slice none 0 0, .int .u8 0] 92)
      have hs4 : (v3.alloc (.cells #[.string d.name, .string d.text, .slice va d.steps.length vc, .slice (some ⟨v1.heap.size + 1, 0, none⟩) d.steps.length d.steps.length, .map (some v2.heap.size), .slice none 0 0, .slice none 0 0, .int .u8 0] 92)).heap.size = v3.heap.size + 1 := by simp
      have hdl : (depsA d.steps 0 d.steps).length = d.steps.length := depsA_len _ _ _
      rw [hdl] at hRd
      generalize v3.alloc (.cells #[.string d.name, .string d.text, .slice va d.steps.length vc, .slice (some ⟨v1.heap.size + 1, 0, none⟩) d.steps.length d.steps.length, .map (some v2.heap.size), .slice none 0 0, .slice none 0 0, .int .u8 0] 92) = v4 at *
      have hsc := hkc.size
      have hsr := hkr.size
      have hsm := hkm.size
      have hw1 : w1.drew.heap.size = w1.heap.size := rfl
      have HSR : Hid (SagR v4 (fun j => j = v3.heap.size ∨ j = v2.heap.size) v3.heap.size (v2.heap.size) va vc (.slice (some ⟨v1.heap.size + 1, 0, none⟩) d.steps.length d.steps.length) d (depsA d.steps 0 d.steps) v3.heap.size none 0 none 0 newSag) := Lib.hid ⟨g4,
        ⟨by omega, fun w' hw => hCd w' (fun b hlo hhi => (hw b (by omega) (fun e => e.elim (fun e => by omega) (fun e => by omega))).trans ((hb4.block b (by omega)).trans (hkc.block b hhi)))⟩,
        ⟨by omega, fun w' hw => hRd w' (fun b hlo hhi => (hw b (by omega) (fun e => e.elim (fun e => by omega) (fun e => by omega))).trans ((hb4.block b (by omega)).trans (hkr.block b hhi)))⟩,
        ⟨[], fun _ => none, hmap.block ((hb4.block _ (by omega)).trans (hkm.block _ hml)), fun _ => rfl, fun _ e => absurd e List.not_mem_nil⟩,
        World.ownsRow_nil _ _ _ _, World.ownsRow_nil _ _ _ _, (fun g e => by cases e), .inl rfl, .inr rfl, (fun g e => by cases e), (fun g e => by cases e)⟩
      have hB4 : Below w1.heap.size w1 v4 := bthen hBv3 (Nat.le_refl _) hb4
      have HB4 := Lib.hid (HB1.out.trans (hB4.mono HB1.out.size))
      have hsw := HB1.out.size
      have hs1 := hBv3.size
      have HLT : Hid (∀ j, (j = v3.heap.size ∨ j = v2.heap.size) → w.heap.size ≤ j ∧ j < v4.heap.size) := Lib.hid (fun j hj => hj.elim (fun e => ⟨by omega, by omega⟩) (fun e => ⟨by omega, by omega⟩))
      clear hkc hkr hkm hb4 g4 hs4 hdl hCd hRd hmap hm hC hR hsc hsr hsm hB4
      go_wp2_with fail
      refine bodyPost_ret (results_tmp2 rfl _ _ _) rfl ?_
      exact ⟨⟨v3.heap.size, v2.heap.size, va, vc, .slice (some ⟨v1.heap.size + 1, 0, none⟩) d.steps.length d.steps.length, d, depsA d.steps 0 d.steps, v3.heap.size⟩, fun j => j = v3.heap.size ∨ j = v2.heap.size, rfl, rfl, rfl, ⟨none, 0, none, 0, HSR.out⟩, HB4.out, HLT.out⟩
    · skip
      go_simp
      change K _ (v1.alloc (.map #[] 0))
      have hm : Below v1.heap.size v1 (v1.alloc (.map #[] 0)) := (Below.refl _ v1).alloc (Nat.le_refl _) _
      have hmap : MapH Tryz.prog 100 encW (v1.alloc (.map #[] 0)) v1.heap.size [] (fun _ => none) := MapH.made Tryz.prog 100 encW v1
      have hml : v1.heap.size < (v1.alloc (.map #[] 0)).heap.size := by simp
      generalize (v1.alloc (.map #[] 0)) = v2 at *
      have hBv2 : Below w1.heap.size w1 v2 := bthen hBv1 (Nat.le_refl _) hm
      (try simp only [Act.put, List.setIfInBounds_toArray, List.set_cons_zero, List.set_cons_succ])
      refine hK.out _ _ (fun _ _ => ⟨cellB hBv2 p0, cellB hBv2 p1, cellB hBv2 p2⟩) (fun hHeld' => ?_)
      replace hHeld := hHeld' (by rfl) (by decide)
      clear hK hHeld'
      (try simp only [Act.put, List.setIfInBounds_toArray, List.set_cons_zero, List.set_cons_succ])
      refine E_one 3 (by kernel_rfl) rfl (by rfl) (fun K hK => ?_)
      go_simp
      refine (nRefsA_any d _ sa sc _ (HD1.out.below hBv2) (by omega) (by have := HFEW.out; omega)).mono ?_
      rintro e v3 ⟨rfl, hra, hb⟩
      have hBv3 : Below w1.heap.size w1 v3 := bthen hBv2 (Nat.le_refl _) hb
      have hR := hb
      have hRd := rowsF_keep hra HDL.out
      clear hb hra
      (skip)
      refine hK.out _ _ (fun _ _ => ⟨cellB hBv3 p0, cellB hBv3 p1, cellB hBv3 p2⟩) (fun hHeld' => ?_)
      replace hHeld := hHeld' (by rfl) (by decide)
      clear hK hHeld'
      (try simp only [Act.put, List.setIfInBounds_toArray, List.set_cons_zero, List.set_cons_succ])
      refine E_take0 hQ (fun _ => hHeld) 5 (v := ?va6) rfl rfl (by kernel_rfl) (by kernel_rfl) (by kernel_rfl) (by decide) (by rfl) ?ya6 ?ra6
      case ya6 => (intro w; go_simp; (try with_reducible rfl))
      (try simp only [Act.put, List.setIfInBounds_toArray, List.set_cons_zero, List.set_cons_succ])
      refine E_one 6 (by kernel_rfl) rfl (by rfl) (fun K hK => ?_)
      go_simp
      (try simp only [Act.put, List.setIfInBounds_toArray, List.set_cons_zero, List.set_cons_succ])
      refine hK.out _ _ (fun _ h => absurd rfl h) (fun _ => ?_)
      clear hK hHeld
      (try simp only [Act.put, List.setIfInBounds_toArray, List.set_cons_zero, List.set_cons_succ])
      refine E_take0 hQ (fun h => absurd h (by decide)) 7 (v := ?va7) rfl rfl (by kernel_rfl) (by kernel_rfl) (by kernel_rfl) (by decide) (by rfl) ?ya7 ?ra7
      case ya7 => (intro w; go_simp; (try with_reducible rfl))
      (try simp only [Act.put, List.setIfInBounds_toArray, List.set_cons_zero, List.set_cons_succ])
      refine E_take0 hQ (fun h => absurd h (by decide)) 8 (v := ?va8) rfl rfl (by kernel_rfl) (by kernel_rfl) (by kernel_rfl) (by decide) (by rfl) ?ya8 ?ra8
      case ya8 => (intro w; go_simp; (try with_reducible rfl))
      (try simp only [Act.put, List.setIfInBounds_toArray, List.set_cons_zero, List.set_cons_succ])
      refine E_done (by kernel_rfl) ?_ _
      refine hK'.out _ _ ?_
      clear hK'
      have hkc := bthen (hm) (Nat.le_refl _) hR
      have hkr := Below.refl v3.heap.size v3
      have hkm := hR
      have hz1 := hC.size
      have hz2 := hm.size
      have hz3 := hR.size
      have hb4 : Below v3.heap.size v3 (v3.alloc (.cells #[.string d.name, .string d.text, .slice va d.steps.length vc, .slice (some ⟨v2.heap.size + 1, 0, none⟩) d.steps.length d.steps.length, .map (some v1.heap.size), .slice none 0 0, .slice none 0 0, .int .u8 0] 92)) := (Below.refl _ _).alloc (Nat.le_refl _) _
      have g4 := World.alloc_heap_new v3 (.cells #[.string d.name, .string d.text, .slice va d.steps.length vc, .slice (some ⟨v2.heap.size + 1, 0, none⟩) d.steps.length d.steps.length, .map (some v1.heap.size), .slice none 0 0, .slice none 0 0, .int .u8 0] 92)
      have hs4 : (v3.alloc (.cells #[.string d.name, .string d.text, .slice va d.steps.length vc, .slice (some ⟨v2.heap.size + 1, 0, none⟩) d.steps.length d.steps.length, .map (some v1.heap.size), .slice none 0 0, .slice none 0 0, .int .u8 0] 92)).heap.size = v3.heap.size + 1 := by simp
      have hdl : (depsA d.steps 0 d.steps).length = d.steps.length := depsA_len _ _ _
      rw [hdl] at hRd
      generalize v3.alloc (.cells #[.string d.name, .string d.text, .slice va d.steps.length vc, .slice (some ⟨v2.heap.size + 1, 0, none⟩) d.steps.length d.steps.length, .map (some v1.heap.size), .slice none 0 0, .slice none 0 0, .int .u8 0] 92) = v4 at *
      have hsc := hkc.size
      have hsr := hkr.size
      have hsm := hkm.size
      have hw1 : w1.drew.heap.size = w1.heap.size := rfl
      have HSR : Hid (SagR v4 (fun j => j = v3.heap.size ∨ j = v1.heap.size) v3.heap.size (v1.heap.size) va vc (.slice (some ⟨v2.heap.size + 1, 0, none⟩) d.steps.length d.steps.length) d (depsA d.steps 0 d.steps) v3.heap.size none 0 none 0 newSag) := Lib.hid ⟨g4,
        ⟨by omega, fun w' hw => hCd w' (fun b hlo hhi => (hw b (by omega) (fun e => e.elim (fun e => by omega) (fun e => by omega))).trans ((hb4.block b (by omega)).trans (hkc.block b hhi)))⟩,
        ⟨by omega, fun w' hw => hRd w' (fun b hlo hhi => (hw b (by omega) (fun e => e.elim (fun e => by omega) (fun e => by omega))).trans ((hb4.block b (by omega)).trans (hkr.block b hhi)))⟩,
        ⟨[], fun _ => none, hmap.block ((hb4.block _ (by omega)).trans (hkm.block _ hml)), fun _ => rfl, fun _ e => absurd e List.not_mem_nil⟩,
        World.ownsRow_nil _ _ _ _, World.ownsRow_nil _ _ _ _, (fun g e => by cases e), .inl rfl, .inr rfl, (fun g e => by cases e), (fun g e => by cases e)⟩
      have hB4 : Below w1.heap.size w1 v4 := bthen hBv3 (Nat.le_refl _) hb4
      have HB4 := Lib.hid (HB1.out.trans (hB4.mono HB1.out.size))
      have hsw := HB1.out.size
      have hs1 := hBv3.size
      have HLT : Hid (∀ j, (j = v3.heap.size ∨ j = v1.heap.size) → w.heap.size ≤ j ∧ j < v4.heap.size) := Lib.hid (fun j hj => hj.elim (fun e => ⟨by omega, by omega⟩) (fun e => ⟨by omega, by omega⟩))
      clear hkc hkr hkm hb4 g4 hs4 hdl hCd hRd hmap hm hC hR hsc hsr hsm hB4
      go_wp2_with fail
      refine bodyPost_ret (results_tmp2 rfl _ _ _) rfl ?_
      exact ⟨⟨v3.heap.size, v1.heap.size, va, vc, .slice (some ⟨v2.heap.size + 1, 0, none⟩) d.steps.length d.steps.length, d, depsA d.steps 0 d.steps, v3.heap.size⟩, fun j => j = v3.heap.size ∨ j = v1.heap.size, rfl, rfl, rfl, ⟨none, 0, none, 0, HSR.out⟩, HB4.out, HLT.out⟩
  · skip
    go_simp
    change K _ ((w1.alloc (.map #[] 0)).drew)
    have hm : Below w1.heap.size w1 ((w1.alloc (.map #[] 0)).drew) := ((Below.refl _ w1).alloc (Nat.le_refl _) _).drew
    have hmap : MapH Tryz.prog 100 encW ((w1.alloc (.map #[] 0)).drew) w1.heap.size [] (fun _ => none) := (MapH.made Tryz.prog 100 encW w1).block rfl
    have hml : w1.heap.size < ((w1.alloc (.map #[] 0)).drew).heap.size := by simp
    generalize ((w1.alloc (.map #[] 0)).drew) = v1 at *
    have hBv1 : Below w1.heap.size w1 v1 := hm
    (try simp only [Act.put, List.setIfInBounds_toArray, List.set_cons_zero, List.set_cons_succ])
    refine hK.out _ _ (fun _ _ => ⟨cellB hBv1 p0, cellB hBv1 p1, cellB hBv1 p2⟩) (fun hHeld' => ?_)
    replace hHeld := hHeld' (by rfl) (by decide)
    clear hK hHeld'
    (try simp only [Act.put, List.setIfInBounds_toArray, List.set_cons_zero, List.set_cons_succ])
    refine E_one 1 (by kernel_rfl) rfl (by rfl) (fun K hK => ?_)
    go_simp
    refine (dCopy_any d _ sa sc _ (HD1.out.below hBv1) HS.out).mono ?_
    rintro e v2 ⟨va, vc, rows, rfl, hrl, hro, hrs, hb⟩
    have hBv2 : Below w1.heap.size w1 v2 := bthen hBv1 (Nat.le_refl _) hb
    have hC := hb
    have hCd := defF_keep HNM.out HTX.out hrl hro hrs
    clear hb hrl hro hrs
    (skip)
    refine hK.out _ _ (fun _ _ => ⟨cellB hBv2 p0, cellB hBv2 p1, cellB hBv2 p2⟩) (fun hHeld' => ?_)
    replace hHeld := hHeld' (by rfl) (by decide)
    clear hK hHeld'
    (try simp only [Act.put, List.setIfInBounds_toArray, List.set_cons_zero, List.set_cons_succ])
    refine E_one 3 (by kernel_rfl) rfl (by rfl) (fun K hK => ?_)
    go_simp
    refine (nRefsA_any d _ sa sc _ (HD1.out.below hBv2) (by omega) (by have := HFEW.out; omega)).mono ?_
    rintro e v3 ⟨rfl, hra, hb⟩
    have hBv3 : Below w1.heap.size w1 v3 := bthen hBv2 (Nat.le_refl _) hb
    have hR := hb
    have hRd := rowsF_keep hra HDL.out
    clear hb hra
    (skip)
    refine hK.out _ _ (fun _ _ => ⟨cellB hBv3 p0, cellB hBv3 p1, cellB hBv3 p2⟩) (fun hHeld' => ?_)
    replace hHeld := hHeld' (by rfl) (by decide)
    clear hK hHeld'
    (try simp only [Act.put, List.setIfInBounds_toArray, List.set_cons_zero, List.set_cons_succ])
    refine E_take0 hQ (fun _ => hHeld) 5 (v := ?va9) rfl rfl (by kernel_rfl) (by kernel_rfl) (by kernel_rfl) (by decide) (by rfl) ?ya9 ?ra9
    case ya9 => (intro w; go_simp; (try with_reducible rfl))
    (try simp only [Act.put, List.setIfInBounds_toArray, List.set_cons_zero, List.set_cons_succ])
    refine E_one 6 (by kernel_rfl) rfl (by rfl) (fun K hK => ?_)
    go_simp
    (try simp only [Act.put, List.setIfInBounds_toArray, List.set_cons_zero, List.set_cons_succ])
    refine hK.out _ _ (fun _ h => absurd rfl h) (fun _ => ?_)
    clear hK hHeld
    (try simp only [Act.put, List.setIfInBounds_toArray, List.set_cons_zero, List.set_cons_succ])
    refine E_take0 hQ (fun h => absurd h (by decide)) 7 (v := ?va10) rfl rfl (by kernel_rfl) (by kernel_rfl) (by kernel_rfl) (by decide) (by rfl) ?ya10 ?ra10
    case ya10 => (intro w; go_simp; (try with_reducible rfl))
    (try simp only [Act.put, List.setIfInBounds_toArray, List.set_cons_zero, List.set_cons_succ])
    refine E_take0 hQ (fun h => absurd h (by decide)) 8 (v := ?va11) rfl rfl (by kernel_rfl) (by kernel_rfl) (by kernel_rfl) (by decide) (by rfl) ?ya11 ?ra11
    case ya11 => (intro w; go_simp; (try with_reducible rfl))
    (try simp only [Act.put, List.setIfInBounds_toArray, List.set_cons_zero, List.set_cons_succ])
    refine E_done (by kernel_rfl) ?_ _
    refine hK'.out _ _ ?_
    clear hK'
    have hkc := hR
    have hkr := Below.refl v3.heap.size v3
    have hkm := bthen (hC) (Nat.le_refl _) hR
    have hz1 := hm.size
    have hz2 := hC.size
    have hz3 := hR.size
    have hb4 : Below v3.heap.size v3 (v3.alloc (.cells #[.string d.name, .string d.text, .slice va d.steps.length vc, .slice (some ⟨v2.heap.size + 1, 0, none⟩) d.steps.length d.steps.length, .map (some w1.heap.size), .slice none 0 0, .slice none 0 0, .int .u8 0] 92)) := (Below.refl _ _).alloc (Nat.le_refl _) _
    have g4 := World.alloc_heap_new v3 (.cells #[.string d.name, .string d.text, .slice va d.steps.length vc, .slice (some ⟨v2.heap.size + 1, 0, none⟩) d.steps.length d.steps.length, .map (some w1.heap.size), .slice none 0 0, .slice none 0 0, .int .u8 0] 92)
    have hs4 : (v3.alloc (.cells #[.string d.name, .string d.text, .slice va d.steps.length vc, .slice (some ⟨v2.heap.size + 1, 0, none⟩) d.steps.length d.steps.length, .map (some w1.heap.size), .slice none 0 0, .slice none 0 0, .int .u8 0] 92)).heap.size = v3.heap.size + 1 := by simp
    have hdl : (depsA d.steps 0 d.steps).length = d.steps.length := depsA_len _ _ _
    rw [hdl] at hRd
    generalize v3.alloc (.cells #[.string d.name, .string d.text, .slice va d.steps.length vc, .slice (some ⟨v2.heap.size + 1, 0, none⟩) d.steps.length d.steps.length, .map (some w1.heap.size), .slice none 0 0, .slice none 0 0, .int .u8 0] 92) = v4 at *
    have hsc := hkc.size
    have hsr := hkr.size
    have hsm := hkm.size
    have hw1 : w1.drew.heap.size = w1.heap.size := rfl
    have HSR : Hid (SagR v4 (fun j => j = v3.heap.size ∨ j = w1.heap.size) v3.heap.size (w1.heap.size) va vc (.slice (some ⟨v2.heap.size + 1, 0, none⟩) d.steps.length d.steps.length) d (depsA d.steps 0 d.steps) v3.heap.size none 0 none 0 newSag) := Lib.hid ⟨g4,
      ⟨by omega, fun w' hw => hCd w' (fun b hlo hhi => (hw b (by omega) (fun e => e.elim (fun e => by omega) (fun e => by omega))).trans ((hb4.block b (by omega)).trans (hkc.block b hhi)))⟩,
      ⟨by omega, fun w' hw => hRd w' (fun b hlo hhi => (hw b (by omega) (fun e => e.elim (fun e => by omega) (fun e => by omega))).trans ((hb4.block b (by omega)).trans (hkr.block b hhi)))⟩,
      ⟨[], fun _ => none, hmap.block ((hb4.block _ (by omega)).trans (hkm.block _ hml)), fun _ => rfl, fun _ e => absurd e List.not_mem_nil⟩,
      World.ownsRow_nil _ _ _ _, World.ownsRow_nil _ _ _ _, (fun g e => by cases e), .inl rfl, .inr rfl, (fun g e => by cases e), (fun g e => by cases e)⟩
    have hB4 : Below w1.heap.size w1 v4 := bthen hBv3 (Nat.le_refl _) hb4
    have HB4 := Lib.hid (HB1.out.trans (hB4.mono HB1.out.size))
    have hsw := HB1.out.size
    have hs1 := hBv3.size
    have HLT : Hid (∀ j, (j = v3.heap.size ∨ j = w1.heap.size) → w.heap.size ≤ j ∧ j < v4.heap.size) := Lib.hid (fun j hj => hj.elim (fun e => ⟨by omega, by omega⟩) (fun e => ⟨by omega, by omega⟩))
    clear hkc hkr hkm hb4 g4 hs4 hdl hCd hRd hmap hm hC hR hsc hsr hsm hB4
    go_wp2_with fail
    refine bodyPost_ret (results_tmp2 rfl _ _ _) rfl ?_
    exact ⟨⟨v3.heap.size, w1.heap.size, va, vc, .slice (some ⟨v2.heap.size + 1, 0, none⟩) d.steps.length d.steps.length, d, depsA d.steps 0 d.steps, v3.heap.size⟩, fun j => j = v3.heap.size ∨ j = w1.heap.size, rfl, rfl, rfl, ⟨none, 0, none, 0, HSR.out⟩, HB4.out, HLT.out⟩
end Go.Proofs.YtgafjjgnbcjmpaaGreat

/-
  rescripttop.awakeOne: contract; definitions of one step.
-/
namespace Go.Proofs.YtgafjjgnbcjmpaaGreat
open Go Go.RowKit Go.Maps Go.WideShapes

def zeroTA : Tree := .mk 0 { data := #[] } [] [] 0
theorem zeroTA_r (W : World) : NodeR W [.int .u8 0, .string { data := #[] }, .slice none 0 0, .slice none 0 0, .int .i64 0] zeroTA :=
  .mk [] (by decide) (Nat.zero_le _) (fun _ h => by cases h) (by decide) ⟨rfl, none, 0, rfl, Nat.le_refl _, Nat.zero_le _, .inl rfl⟩ rfl ⟨rfl, none, 0, rfl, Nat.le_refl _, Nat.zero_le _, .inl rfl⟩ (fun i r x h => by cases h)
/-- A step of that name, nothing about it but its numbers. -/
def uniS (name act : ByteArray) (m f k l : Int) : StepD := ⟨name, act, { data := #[] }, [], m, f, k, l, zeroTA⟩
def uniD (name act : ByteArray) (m f k l : Int) : DefD := ⟨{ data := #[115] }, { data := #[] }, [uniS name act m f k l]⟩
theorem uniS_x {W : World} {name act : ByteArray} {m f k l : Int} (hn : name.size ≤ 200) (ha : act.size ≤ 200) (h1 : I64w m) (h2 : I64w f) (h3 : I64w k) (h4 : I64w l) :
    StepX W [.string name, .string act, .string { data := #[] }, .slice none 0 0, .int .i64 m, .int .i64 f, .int .i64 k, .int .i64 l, .int .u8 0, .string { data := #[] }, .slice none 0 0, .slice none 0 0, .int .i64 0] (uniS name act m f k l) :=
  ⟨none, 0, none, 0, none, 0, rfl, ⟨by show name.size ≤ _; unfold maxLen; omega, by show act.size ≤ _; unfold maxLen; omega, Nat.zero_le _, (fun a h => by cases h), h1, h2, h3, h4⟩, ⟨rfl, none, 0, rfl, Nat.le_refl _, Nat.zero_le _, .inl rfl⟩, zeroTA_r W⟩
theorem uniD_small {name act : ByteArray} {m f k l : Int} (hn : name.size ≤ 200) (ha : act.size ≤ 200) : SmallD (uniD name act m f k l) := by
  have hz : SmallP 18 zeroTA := (small_of (by decide +kernel)).1
  refine ⟨by show ByteArray.size { data := #[115] } ≤ _; decide, by show ByteArray.size { data := #[] } ≤ _; decide, by show 1 ≤ 30; decide, fun s hs => ?_⟩
  cases List.mem_singleton.1 hs
  exact ⟨hn, ha, by show ByteArray.size { data := #[] } ≤ _; decide, Nat.zero_le _, hz, fun a h => by cases h⟩
theorem uniD_r {W : World} {g : Nat} {name act : ByteArray} {m f k l : Int} (hn : name.size ≤ 200) (ha : act.size ≤ 200) (h1 : I64w m) (h2 : I64w f) (h3 : I64w k) (h4 : I64w l) (h : W.heap[g]? = some (.cells #[.string name, .string act, .string { data := #[] }, .slice none 0 0, .int .i64 m, .int .i64 f, .int .i64 k, .int .i64 l, .int .u8 0, .string { data := #[] }, .slice none 0 0, .slice none 0 0, .int .i64 0] 29 (0, 0))) :
    DefR W [.string { data := #[115] }, .string { data := #[] }, .slice (some ⟨g, 0, none⟩) 1 1] (uniD name act m f k l) (some ⟨g, 0, none⟩) 1 :=
  ⟨rfl, by show ByteArray.size { data := #[115] } ≤ _; unfold maxLen; decide, Nat.zero_le _, [[.string name, .string act, .string { data := #[] }, .slice none 0 0, .int .i64 m, .int .i64 f, .int .i64 k, .int .i64 l, .int .u8 0, .string { data := #[] }, .slice none 0 0, .slice none 0 0, .int .i64 0]], rfl, rds_rowK 1 13 (l := [.string name, .string act, .string { data := #[] }, .slice none 0 0, .int .i64 m, .int .i64 f, .int .i64 k, .int .i64 l, .int .u8 0, .string { data := #[] }, .slice none 0 0, .slice none 0 0, .int .i64 0]) h rfl (by decide), fun i r s hr hs => by
    rcases i with _ | i
    · cases hr
      cases hs
      exact uniS_x hn ha h1 h2 h3 h4
    · cases hr⟩
theorem uniD_fine {k : SagK} {name act : ByteArray} {m f q l : Int} (hn : name.size ≤ 200) (ha : act.size ≤ 200) (h1 : k.d = uniD name act m f q l) (h2 : k.rs = [[]]) : FineK k := by
  refine ⟨by rw [h1]; exact uniD_small hn ha, by rw [h1, h2]; rfl, fun r hr j hj => ?_⟩
  rw [h2] at hr
  cases List.mem_singleton.1 hr
  cases hj
theorem good_one {S : SagD} {r : RunD} (h : OneR S r) : GoodS 1 S := by
  refine ⟨fun i hi => ?_, ?_, by rw [h.undone]; decide⟩
  · rw [h.done] at hi
    split at hi
    · cases List.mem_singleton.1 hi; decide
    · cases hi
  · rw [h.done]
    split <;> simp
theorem good_new (n : Nat) : GoodS n newSag := ⟨(fun i hi => by cases hi), Nat.zero_le _, Nat.zero_le _⟩
def sAw : StepD := uniS { data := #[97] } { data := #[120] } 0 0 0 3
def dAw : DefD := uniD { data := #[97] } { data := #[120] } 0 0 0 3
theorem dAw_clean : cleanB dAw = true := by decide +kernel
theorem sAw_t2 : tickR sAw (beginR sAw 0) 2 = (beginR sAw 0, false) := by decide +kernel
theorem sAw_t3 : (tickR sAw (beginR sAw 0) 3).1 = (4, 1, 0, false) := by decide +kernel
theorem sAw_a3 : askedL (beginR sAw 0) (4, 1, 0, false) = [] := by decide +kernel
set_option maxRecDepth 100000 in
set_option maxHeartbeats 4000000 in
theorem awakeOne_any (w : World) : Calls Tryz.prog 8 #[] w fun e w' => e = .returned (.bool true) ∧ Below w.heap.size w w' := by
  have hb0 : Below w.heap.size w (w.alloc (.cells #[.string { data := #[97] }, .string { data := #[120] }, .string { data := #[] }, .slice none 0 0, .int .i64 0, .int .i64 0, .int .i64 0, .int .i64 3, .int .u8 0, .string { data := #[] }, .slice none 0 0, .slice none 0 0, .int .i64 0] 29)) := (Below.refl _ _).alloc (Nat.le_refl _) _
  have g0 := World.alloc_heap_new w (.cells #[.string { data := #[97] }, .string { data := #[120] }, .string { data := #[] }, .slice none 0 0, .int .i64 0, .int .i64 0, .int .i64 0, .int .i64 3, .int .u8 0, .string { data := #[] }, .slice none 0 0, .slice none 0 0, .int .i64 0] 29)
  go_enter Tryz.func8, Tryz.ntmps8
  go_wp2_with fail
  change Calls _ _ _ (w.alloc (.cells #[.string { data := #[97] }, .string { data := #[120] }, .string { data := #[] }, .slice none 0 0, .int .i64 0, .int .i64 0, .int .i64 0, .int .i64 3, .int .u8 0, .string { data := #[] }, .slice none 0 0, .slice none 0 0, .int .i64 0] 29)) _
  generalize w.alloc (.cells #[.string { data := #[97] }, .string { data := #[120] }, .string { data := #[] }, .slice none 0 0, .int .i64 0, .int .i64 0, .int .i64 0, .int .i64 3, .int .u8 0, .string { data := #[] }, .slice none 0 0, .slice none 0 0, .int .i64 0] 29) = w1 at *
  have HD := Lib.hid (uniD_r (W := w1) (name := { data := #[97] }) (act := { data := #[120] }) (m := 0) (f := 0) (k := 0) (l := 3) (by decide) (by decide) (by unfold I64w; decide) (by unfold I64w; decide) (by unfold I64w; decide) (by unfold I64w; decide) g0)
  have HB := Lib.hid hb0
  clear hb0 g0
  refine (New_any dAw _ _ _ w1 HD.out (uniD_small (by decide) (by decide)) dAw_clean).mono ?_
  rintro e w2 ⟨k, U, rfl, hkd, hkr0, hS, hb2, hU⟩
  have hkr : k.rs = [[]] := hkr0
  have hw12 := hb2.size
  have hf := uniD_fine (by decide) (by decide) hkd hkr
  have HB2 := Lib.hid (bthen HB.out (Nat.le_refl _) hb2)
  have hl : k.d.steps = [sAw] := by rw [hkd]; rfl
  have hlen : k.d.steps.length = 1 := by rw [hl]; rfl
  have h1 := start_one sAw
  have h2 := tick_one sAw _ _ 2 h1.1
  rw [sAw_t2] at h2
  have h3 := tick_one sAw _ _ 3 h2.1
  rw [sAw_t3, sAw_a3] at h3
  rw [askedL_same] at h2
  have HST := Lib.hid (Start_any k newSag 0 U w2 hS (fun j hj => (hU j hj).2) hf (good_new _))
  rw [hl, hkr] at HST
  have HTK := Lib.hid (fun now S U W (hS : SagE W U k S) hU (hg : GoodS 1 S) => TickS_any k S now U W hS hU hf (by rw [hlen]; exact hg))
  rw [hl, hkr] at HTK
  have HSTA := Lib.hid (fun S U W (hS : SagE W U k S) => Status_any k S U W hS)
  have HUW := Lib.hid hU
  generalize startX [sAw] [[]] newSag 0 = X1 at *
  obtain ⟨X2, hX2⟩ : ∃ X2, tickX [sAw] [[]] X1.1 2 = X2 := ⟨_, rfl⟩
  rw [hX2] at h2 h3
  have HX2 := Lib.hid hX2
  clear hX2
  have HO1 := Lib.hid h1
  have HO2 := Lib.hid h2
  have HO3 := Lib.hid h3
  clear h1 h2 h3 hS hU hf hb2 hkd hkr
  go_wp2_with fail
  refine HST.out.mono ?_
  rintro e w3 ⟨v3, rfl, V3, va3, vc3, rfl, -, -, hS3, hG3, hU3⟩
  have hB3 := (hG3.below (B := w1.heap.size) (fun j hj => (HUW.out j hj).1) hw12)
  have HB3 := Lib.hid (HB2.out.trans (hB3.1.mono HB.out.size))
  have hl1 : X1.2.length = 1 := by rw [HO1.out.2]; rfl
  rw [hl1]
  have HT3 := Lib.hid (HTK.out 2 X1.1 V3 w3 hS3 hU3 (good_one HO1.out.1))
  rw [HX2.out] at HT3
  have HV3 := Lib.hid hB3.2
  have hw3 := hG3.size
  clear hS3 hG3 hU3 hB3 hl1
  go_wp2_with fail
  refine HT3.out.mono ?_
  rintro e w4 ⟨v4, rfl, V4, va4, vc4, rfl, -, -, hS4, hG4, hU4⟩
  have hB4 := (hG4.below (B := w1.heap.size) HV3.out (by omega))
  have HB4 := Lib.hid (HB3.out.trans (hB4.1.mono HB.out.size))
  have HO2' := HO2.out
  have HT4 := Lib.hid (HTK.out 3 _ V4 w4 hS4 hU4 (good_one HO2.out.1))
  have HS4 := Lib.hid (HSTA.out _ V4 w4 hS4)
  have hs4 : X2.1.status = 1 := by rw [HO2.out.1.st]; rfl
  have hl4 : X2.2.length = 0 := by rw [HO2.out.2]; rfl
  rw [hl4]
  rw [hs4] at HS4
  have HV4 := Lib.hid hB4.2
  have hw4 := hG4.size
  clear hS4 hG4 hU4 hB4 hl4 HO2'
  go_wp2_with fail
  refine HS4.out.mono ?_
  rintro e w' ⟨rfl, rfl⟩
  go_wp2_with fail
  refine HT4.out.mono ?_
  rintro e w5 ⟨v5, rfl, V5, va5, vc5, rfl, -, -, hS5, hG5, hU5⟩
  have hB5 := (hG5.below (B := w1.heap.size) HV4.out (by omega))
  have HB5 := Lib.hid (HB4.out.trans (hB5.1.mono HB.out.size))
  have HS5 := Lib.hid (HSTA.out _ V5 w5 hS5)
  have hs5 : (tickX [sAw] [[]] X2.1 3).1.status = 4 := by rw [HO3.out.1.st]; rfl
  have hl5 : (tickX [sAw] [[]] X2.1 3).2.length = 0 := by rw [HO3.out.2]; rfl
  rw [hl5]
  rw [hs5] at HS5
  clear hS5 hG5 hU5 hB5 hl5
  go_wp2_with fail
  refine HS5.out.mono ?_
  rintro e w' ⟨rfl, rfl⟩
  go_wp2_with fail
  go_ret
  exact ⟨rfl, HB5.out⟩
end Go.Proofs.YtgafjjgnbcjmpaaGreat

/-
  What WholeAlone's walk needs: nine stores, orders compared, asks read.
-/
namespace Go.Proofs.YtgafjjgnbcjmpaaGreat
open Go Go.RowKit Go.Maps Go.WideShapes

theorem neO (x y : OrdD) (w : World) : (binOp .neq 46 (.agg #[.int .i64 x.1, .int .i64 x.2.1, .bool x.2.2.1, .int .i64 x.2.2.2]) (.agg #[.int .i64 y.1, .int .i64 y.2.1, .bool y.2.2.1, .int .i64 y.2.2.2])).run Tryz.prog w = .ok (.bool (!decide (x = y))) w := by
  go_simp
  obtain ⟨a, b, c, d⟩ := x
  obtain ⟨a', b', c', d'⟩ := y
  simp only [Prod.mk.injEq]
  by_cases h1 : a = a' <;> by_cases h2 : b = b' <;> by_cases h3 : c = c' <;> by_cases h4 : d = d'
  all_goals simp [h1, h2, h3, h4]
theorem neO_same (a b d : Int) (c : Bool) (w : World) : (binOp .neq 46 (.agg #[.int .i64 a, .int .i64 b, .bool c, .int .i64 d]) (.agg #[.int .i64 a, .int .i64 b, .bool c, .int .i64 d])).run Tryz.prog w = .ok (.bool false) w := by
  have := neO (a, b, c, d) (a, b, c, d) w
  rw [decide_eq_true rfl] at this
  exact this
theorem set9 {W : World} {B : Nat} {c0 c1 c2 c3 c4 c5 c6 c7 c8 c9 c10 c11 c12 : Value} {t : TypeId} (x0 x1 x2 x3 x8 x9 x10 x11 x12 : Value) (h : W.heap[B]? = some (.cells #[c0, c1, c2, c3, c4, c5, c6, c7, c8, c9, c10, c11, c12] t (0, 0))) :
    (((((((((W.setCell ⟨B, 0, none⟩ x0).setCell ⟨B, 1, none⟩ x1).setCell ⟨B, 2, none⟩ x2).setCell ⟨B, 3, none⟩ x3).setCell ⟨B, 8, none⟩ x8).setCell ⟨B, 9, none⟩ x9).setCell ⟨B, 10, none⟩ x10).setCell ⟨B, 11, none⟩ x11).setCell ⟨B, 12, none⟩ x12).heap[B]? = some (.cells #[x0, x1, x2, x3, c4, c5, c6, c7, x8, x9, x10, x11, x12] t (0, 0)) := by
  have := setCell_heap 12 x12 (setCell_heap 11 x11 (setCell_heap 10 x10 (setCell_heap 9 x9 (setCell_heap 8 x8 (setCell_heap 3 x3 (setCell_heap 2 x2 (setCell_heap 1 x1 (setCell_heap 0 x0 h))))))))
  simpa using this
theorem cells13x {W : World} {B : Nat} {t : TypeId} {c0 c1 c2 c3 c4 c5 c6 c7 c8 c9 c10 c11 c12 : Value} (h : W.heap[B]? = some (.cells #[c0, c1, c2, c3, c4, c5, c6, c7, c8, c9, c10, c11, c12] t (0, 0))) : W.cell? ⟨B, 0, none⟩ = some c0 ∧ W.cell? ⟨B, 1, none⟩ = some c1 ∧ W.cell? ⟨B, 2, none⟩ = some c2 ∧ W.cell? ⟨B, 3, none⟩ = some c3 ∧ W.cell? ⟨B, 4, none⟩ = some c4 ∧ W.cell? ⟨B, 5, none⟩ = some c5 ∧ W.cell? ⟨B, 6, none⟩ = some c6 ∧ W.cell? ⟨B, 7, none⟩ = some c7 ∧ W.cell? ⟨B, 8, none⟩ = some c8 ∧ W.cell? ⟨B, 9, none⟩ = some c9 ∧ W.cell? ⟨B, 10, none⟩ = some c10 ∧ W.cell? ⟨B, 11, none⟩ = some c11 ∧ W.cell? ⟨B, 12, none⟩ = some c12 := by
  simp [World.cell?, h]
theorem fro13 {W : World} {B : Nat} {t : TypeId} {c0 c1 c2 c3 c4 c5 c6 c7 c8 c9 c10 c11 c12 : Value} (h : W.heap[B]? = some (.cells #[c0, c1, c2, c3, c4, c5, c6, c7, c8, c9, c10, c11, c12] t (0, 0))) : W.frozen? ⟨B, 0, none⟩ = false ∧ W.frozen? ⟨B, 1, none⟩ = false ∧ W.frozen? ⟨B, 2, none⟩ = false ∧ W.frozen? ⟨B, 3, none⟩ = false ∧ W.frozen? ⟨B, 8, none⟩ = false ∧ W.frozen? ⟨B, 9, none⟩ = false ∧ W.frozen? ⟨B, 10, none⟩ = false ∧ W.frozen? ⟨B, 11, none⟩ = false ∧ W.frozen? ⟨B, 12, none⟩ = false := by
  simp [World.frozen?, h]
abbrev AskQ := Int × (Int × Int × Bool × Int) × Int × Int
def askC (a : AskQ) : List Value := [.int .u8 a.1, .int .i64 a.2.1.1, .int .i64 a.2.1.2.1, .bool a.2.1.2.2.1, .int .u8 a.2.1.2.2.2, .int .i64 a.2.2.1, .int .u8 a.2.2.2]
theorem flat7_get : ∀ (l : List AskQ) (j : Nat) (hj : j < l.length) (c : Nat) (_ : c < 7), (l.flatMap askC)[j * 7 + c]? = (askC l[j])[c]?
  | [], j, hj, _, _ => by simp at hj
  | a :: l, 0, _, c, hc => by
    rw [List.flatMap_cons, List.getElem?_append_left (by show _ < 7; omega)]
    simp
  | a :: l, j + 1, hj, c, hc => by
    rw [List.flatMap_cons, List.getElem?_append_right (by show 7 ≤ _; omega)]
    have h7 : (j + 1) * 7 + c - (askC a).length = j * 7 + c := by show (j + 1) * 7 + c - 7 = _; omega
    rw [h7, flat7_get l j (by simpa using hj) c hc]
    simp
theorem asks_at {W : World} {v : Value} {l : List AskQ} (h : RdS W v 7 l.length (l.flatMap askC)) {j : Nat} (hj : j < l.length) :
    ∃ g off cap, v = .slice (some ⟨g, off, none⟩) l.length cap ∧ W.cell? ⟨g, off + j * 7, none⟩ = some (.int .u8 l[j].1) ∧ W.cell? ⟨g, off + j * 7 + 1, none⟩ = some (.int .i64 l[j].2.1.1) ∧ W.cell? ⟨g, off + j * 7 + 2, none⟩ = some (.int .i64 l[j].2.1.2.1) ∧ W.cell? ⟨g, off + j * 7 + 3, none⟩ = some (.bool l[j].2.1.2.2.1) ∧ W.cell? ⟨g, off + j * 7 + 4, none⟩ = some (.int .u8 l[j].2.1.2.2.2) ∧ W.cell? ⟨g, off + j * 7 + 5, none⟩ = some (.int .i64 l[j].2.2.1) := by
  obtain ⟨h1, a, cap, rfl, hn, hc, hh⟩ := h
  rcases hh with e | ⟨g, off, rfl, hat⟩
  · rw [e] at h1
    simp at h1
    omega
  · refine ⟨g, off, cap, rfl, hat (j * 7) _ ?_, hat (j * 7 + 1) _ ?_, hat (j * 7 + 2) _ ?_, hat (j * 7 + 3) _ ?_, hat (j * 7 + 4) _ ?_, hat (j * 7 + 5) _ ?_⟩
    · exact flat7_get l j hj 0 (by decide)
    · exact flat7_get l j hj 1 (by decide)
    · exact flat7_get l j hj 2 (by decide)
    · exact flat7_get l j hj 3 (by decide)
    · exact flat7_get l j hj 4 (by decide)
    · exact flat7_get l j hj 5 (by decide)
theorem ords_one {W : World} {base : Nat} {e : TypeId} {va : Option Addr} {vc : Nat} {o : OrdD} (h : W.ownsRow base e 4 (.slice va 1 vc) 1 (flatO [o])) : ∃ g off, va = some ⟨g, off, none⟩ ∧ W.cell? ⟨g, off, none⟩ = some (.int .i64 o.1) ∧ W.cell? ⟨g, off + 1, none⟩ = some (.int .i64 o.2.1) ∧ W.cell? ⟨g, off + 2, none⟩ = some (.bool o.2.2.1) ∧ W.cell? ⟨g, off + 3, none⟩ = some (.int .i64 o.2.2.2) := by
  obtain ⟨h1, a, cap, h2, hn, hc, hh⟩ := RdS.of_owns h
  cases h2
  rcases hh with e | ⟨g, off, rfl, hat⟩
  · unfold flatO at e
    simp at e
  · exact ⟨g, off, rfl, hat 0 _ rfl, hat 1 _ rfl, hat 2 _ rfl, hat 3 _ rfl⟩
theorem one_over {S : SagD} {r : RunD} (h : OneR S r) : overB S = settledB r.1 := by
  unfold overB settledB
  rw [h.st]
  have := h.ph
  by_cases e3 : r.1 = 3
  · simp [e3]
  · by_cases e4 : r.1 = 4
    · simp [e4]
    · simp [e3, e4]
theorem SagE.moved {w w' : World} {V : Nat → Prop} {k : SagK} {S : SagD} (h : SagE w V k S) (hs : w.heap.size ≤ w'.heap.size) (hN : ∀ j, j < k.N → ¬ V j → w'.heap[j]? = w.heap[j]?) (hV : ∀ j, V j → j < w.heap.size → w'.heap[j]? = w.heap[j]?) : SagE w' V k S := by
  obtain ⟨da, dc, ua, uc, h⟩ := h
  obtain ⟨L, g, q1, q2⟩ := h.map
  exact ⟨da, dc, ua, uc, ⟨(hV _ h.ownp h.ltp).trans h.cell, h.df.same hs hN, h.refs.same hs hN, ⟨L, g, q1.block (hV _ h.ownm q1.lt), q2⟩, ownsRow_keepB h.done (fun g e => hV g (h.ownd g e) (h.done.lt g e).2), ownsRow_keepB h.undone (fun g e => hV g (h.ownu g e) (h.undone.lt g e).2), h.apart, h.ownp, h.ownm, h.ownd, h.ownu⟩⟩
theorem SagE.bound {w : World} {V : Nat → Prop} {k : SagK} {S : SagD} (h : SagE w V k S) : k.N ≤ w.heap.size := by
  obtain ⟨da, dc, ua, uc, h⟩ := h
  exact h.df.1
theorem sag_set {W : World} {V : Nat → Prop} {k : SagK} {S : SagD} {e : Nat} {i : Nat} {x : Value} (h : SagE W V k S) (he : ¬ V e) (hN : k.N ≤ e) : SagE (W.setCell ⟨e, i, none⟩ x) V k S :=
  h.moved (by simp) (fun j hj _ => Below.heap_setCell _ _ _ _ (by show j ≠ e; omega)) (fun j hj _ => Below.heap_setCell _ _ _ _ (by show j ≠ e; rintro rfl; exact he hj))
theorem set2q {W : World} {B : Nat} {a b c d : Value} {t : TypeId} (x z : Value) (h : W.heap[B]? = some (.cells #[a, b, c, d] t (0, 0))) :
    ((W.setCell ⟨B, 0, none⟩ x).setCell ⟨B, 2, none⟩ z).heap[B]? = some (.cells #[x, b, z, d] t (0, 0)) := by
  have := setCell_heap 2 z (setCell_heap 0 x h)
  simpa using this
theorem set2q_other {W : World} {B j : Nat} (x z : Value) (h : j ≠ B) :
    ((W.setCell ⟨B, 0, none⟩ x).setCell ⟨B, 2, none⟩ z).heap[j]? = W.heap[j]? := by
  rw [Below.heap_setCell _ _ _ _ h, Below.heap_setCell _ _ _ _ h]
/-- What one call leaves to a loop. -/
theorem CallTo.after {W w' : World} {V : Nat → Prop} {k : SagK} {Z : SagD} {os : List OrdD} {v : Value} {B : Nat} (h : CallTo W V w' k Z os v) (hV : ∀ j, V j → B ≤ j ∧ j < W.heap.size) (hB : B ≤ W.heap.size) :
    ∃ (V' : Nat → Prop) (va : Option Addr) (vc : Nat), v = .slice va os.length vc ∧ w'.ownsRow W.heap.size 46 4 (.slice va os.length vc) os.length (flatO os) ∧ SagE w' V' k Z ∧ (∀ j, V' j → B ≤ j ∧ j < w'.heap.size) ∧ Below B W w' ∧ ∀ j, j < W.heap.size → ¬ V j → w'.heap[j]? = W.heap[j]? ∧ ¬ V' j := by
  obtain ⟨V', va, vc, e, hr, -, hS, hG, hU⟩ := h
  have hb := hG.below (B := B) (fun j hj => (hV j hj).1) hB
  exact ⟨V', va, vc, e, hr, hS, fun j hj => ⟨hb.2 j hj, hU j hj⟩, hb.1, fun j hj hn => hG.stays hj hn⟩
theorem answer_call {k : SagK} {x : StepD} {S : SagD} {r : RunD} (tr o now : Int) (hl : k.d.steps = [x]) (hr : k.rs = [[]]) (hf : FineK k) (h1 : OneR S r) (V : Nat → Prop) (W : World) (hS : SagE W V k S) (hV : ∀ j, V j → j < W.heap.size) :
    Calls Tryz.prog 14 #[.pointer (some ⟨k.p, 0, none⟩), .agg #[.int .i64 0, .int .i64 tr, .bool false, .int .u8 o], .int .i64 now] W fun e w' => ∃ v Z, e = .returned (.tuple #[v, .bool (ansR x r now tr o).2]) ∧ OneR Z (ansR x r now tr o).1 ∧ CallTo W V w' k Z (askedL r (ansR x r now tr o).1) v := by
  have hlen : k.d.steps.length = 1 := by rw [hl]; rfl
  have hA := answer_one x S r tr o now h1
  refine (AnswerS_any k S 0 tr o now false V W hS hV hf (by rw [hlen]; exact good_one h1)).mono ?_
  rintro e w' ⟨v, rfl, hc⟩
  rw [hl, hr] at hc ⊢
  rw [hA.2.1] at hc
  exact ⟨v, _, by rw [hA.2.2], hA.1, hc⟩
theorem tick_call {k : SagK} {x : StepD} {S : SagD} {r : RunD} (now : Int) (hl : k.d.steps = [x]) (hr : k.rs = [[]]) (hf : FineK k) (h1 : OneR S r) (V : Nat → Prop) (W : World) (hS : SagE W V k S) (hV : ∀ j, V j → j < W.heap.size) :
    Calls Tryz.prog 16 #[.pointer (some ⟨k.p, 0, none⟩), .int .i64 now] W fun e w' => ∃ v Z, e = .returned v ∧ OneR Z (tickR x r now).1 ∧ CallTo W V w' k Z (askedL r (tickR x r now).1) v := by
  have hlen : k.d.steps.length = 1 := by rw [hl]; rfl
  have hA := tick_one x S r now h1
  refine (TickS_any k S now V W hS hV hf (by rw [hlen]; exact good_one h1)).mono ?_
  rintro e w' ⟨v, rfl, hc⟩
  rw [hl, hr] at hc
  rw [hA.2] at hc
  exact ⟨v, _, rfl, hA.1, hc⟩
/-- What holds behind an answer, or a tick. -/
def AftP (B eR eW : Nat) (w8 : World) (k : SagK) (r : RunD) (s : Value) (wx : World) : Prop :=
  ∃ (y : RunD) (Z : SagD) (V : Nat → Prop) (va : Option Addr) (vc base : Nat), s = .slice va (askedL r y).length vc ∧ wx.ownsRow base 46 4 (.slice va (askedL r y).length vc) (askedL r y).length (flatO (askedL r y)) ∧ OneR Z y ∧ SagE wx V k Z ∧ (∀ j, V j → B ≤ j ∧ j < wx.heap.size) ∧ ¬ V eR ∧ wx.heap[eR]? = some (.cells #[.int .u8 y.1, .int .i64 y.2.1, .int .i64 y.2.2.1, .bool y.2.2.2] 41 (0, 0)) ∧ wx.heap[eW]? = some (.cells #[.int .u8 r.1, .int .i64 r.2.1, .int .i64 r.2.2.1, .bool r.2.2.2] 41 (0, 0)) ∧ Below B w8 wx
theorem aftP_of {B eR eW : Nat} {w8 W w' : World} {k : SagK} {r y : RunD} {V : Nat → Prop} {Z : SagD} {v : Value} (hc : CallTo W V w' k Z (askedL r y) v) (h1 : OneR Z y) (hV : ∀ j, V j → B ≤ j ∧ j < W.heap.size) (hB : B ≤ W.heap.size) (hR : ¬ V eR) (hW : ¬ V eW) (hcR : W.heap[eR]? = some (.cells #[.int .u8 y.1, .int .i64 y.2.1, .int .i64 y.2.2.1, .bool y.2.2.2] 41 (0, 0))) (hcW : W.heap[eW]? = some (.cells #[.int .u8 r.1, .int .i64 r.2.1, .int .i64 r.2.2.1, .bool r.2.2.2] 41 (0, 0))) (hb : Below B w8 W) : AftP B eR eW w8 k r v w' := by
  obtain ⟨V', va, vc, rfl, hr, hS, hV', hb', hst⟩ := hc.after hV hB
  have a1 := hst eR (Array.getElem?_eq_some_iff.1 hcR).1 hR
  have a2 := hst eW (Array.getElem?_eq_some_iff.1 hcW).1 hW
  exact ⟨y, Z, V', va, vc, _, rfl, hr, h1, hS, hV', a1.2, a1.1.trans hcR, a2.1.trans hcW, hb.trans (hb'.mono (Nat.le_refl _))⟩
end Go.Proofs.YtgafjjgnbcjmpaaGreat
