/-
  lint.rounds, gather, All, Clean: contracts.
-/
import Derived.Test.YtgfiogjfgbegpaaGreatBz17
import Derived.Test.YtgfiogjfgbegpaaGreatBz27
import Derived.Test.YtgfiogjfgbegpaaGreatBz37
import Derived.Test.YtgfiogjfgbegpaaGreatBz50
import Derived.Test.YtgfiogjfgbegpaaGreatBz51
import Derived.Test.YtgfiogjfgbegpaaGreatBz52
namespace Go.Proofs.YtgfiogjfgbegpaaGreat
open Go Go.RowKit Go.WideShapes

def nameI (d : DefD) (i : Int) : ByteArray := (d.steps[i.toNat]?.getD default).name
def rndG (d : DefD) : List DiagD := (rndL (depsA d.steps 0 d.steps) (depsA d.steps 0 d.steps).length).map fun i => (i, 16, nameI d i)
theorem rndL_in {R : List (List Int)} {k : Nat} {x : Int} (h : x ∈ rndL R k) : ∃ n : Nat, x = (n : Int) ∧ n < k := by
  unfold rndL at h
  simp only [List.mem_map, List.mem_filter, List.mem_range] at h
  obtain ⟨n, ⟨h1, _⟩, rfl⟩ := h
  exact ⟨n, rfl, h1⟩
theorem rndG_len (d : DefD) : (rndG d).length ≤ d.steps.length := by
  unfold rndG
  rw [List.length_map]
  exact Nat.le_trans (rndL_len _ _) (by rw [depsA_len]; exact Nat.le_refl _)
theorem rndG_ok {d : DefD} (hs : SmallD d) : ∀ x ∈ rndG d, OkG x := by
  intro x hx
  unfold rndG at hx
  obtain ⟨i, hi, rfl⟩ := List.mem_map.1 hx
  obtain ⟨n, rfl, hn⟩ := rndL_in hi
  rw [depsA_len] at hn
  have := hs.steps
  refine ⟨by unfold I64w; omega, by unfold I64w; show (-9223372036854775808 : Int) ≤ 16 ∧ (16 : Int) ≤ 9223372036854775807; decide, ?_⟩
  unfold nameI
  rw [Int.toNat_natCast, List.getElem?_eq_getElem hn]
  have := (hs.each _ (List.getElem_mem hn)).name
  unfold maxLen
  show d.steps[n].name.size ≤ _
  omega
theorem field_faultI {c0 c1 : Value} {w : World} : (Instr.field 79 (.agg #[c0, c1]) 0).run Tryz.prog w = .ok c0 w := by kernel_rfl
set_option maxRecDepth 100000 in
set_option maxHeartbeats 2000000 in
theorem rounds_any (d : DefD) (cs : List Value) (sa : Option Addr) (sc : Nat) (w : World) (h : DefR w cs d sa sc) (hs : SmallD d) :
    Calls Tryz.prog 71 #[.agg cs.toArray] w fun e w' => ∃ va vc, e = .returned (.slice va (rndG d).length vc) ∧ DgR w' (.slice va (rndG d).length vc) (rndG d) ∧ Below w.heap.size w w' := by
  obtain ⟨i0, hi, hz0, hz1, hz2⟩ := info_parts Tryz.info_diag
  have hn30 := hs.steps
  have HOK := Lib.hid (rndG_ok hs)
  have HFEW := Lib.hid (refs_few hs)
  obtain ⟨rfl, hnm, htx, hst⟩ := h
  have hb0 := (Below.refl w.heap.size w).alloc (Nat.le_refl _) (.cells #[.string d.name, .string d.text, .slice sa d.steps.length sc] 24)
  have g0 := World.alloc_heap_new w (.cells #[.string d.name, .string d.text, .slice sa d.steps.length sc] 24)
  have HST := Lib.hid hst
  clear hs hst
  go_enter Tryz.func71, Tryz.ntmps71
  go_upto_region 2 with fail
  generalize w.alloc (.cells #[.string d.name, .string d.text, .slice sa d.steps.length sc] 24) = w0 at *
  have HD0 := Lib.hid (show DefR w0 _ d sa sc from ⟨rfl, hnm, htx, HST.out.below hb0⟩)
  have HB0 := Lib.hid hb0
  obtain ⟨p0, p1, p2, -, -, -⟩ := cells3h g0
  have HG0 := Lib.hid g0
  clear hb0 g0
  go_wp2_with fail
  refine (nRefs_any d _ sa sc w0 HD0.out (by omega) (by have := HFEW.out; omega)).mono ?_
  rintro e w1 ⟨v1, rfl, hr1, hb1⟩
  have HB1 := Lib.hid (bthen HB0.out (Nat.le_refl _) hb1)
  have HB1' := Lib.hid hb1
  have HR1 := Lib.hid hr1
  clear hr1 hb1 p0 p1 p2
  go_wp2_with fail
  refine (Round_any _ _ w1 HR1.out (by rw [depsA_len]; omega)).mono ?_
  rintro e w2 ⟨v2, rfl, ho2, hb2⟩
  have HB2 := Lib.hid (bthen HB1.out (Nat.le_refl _) hb2)
  have HRD := Lib.hid (RdS.of_owns ho2)
  obtain ⟨ra, rc, rfl⟩ := (RdS.of_owns ho2).form
  have hgl : (rndG d).length = (rndL (depsA d.steps 0 d.steps) (depsA d.steps 0 d.steps).length).length := by unfold rndG; rw [List.length_map]
  have hgle := rndG_len d
  have HGE : Hid (∀ (j : Nat) (hj : j < (rndG d).length), ∃ n : Nat, n < d.steps.length ∧ (rndL (depsA d.steps 0 d.steps) (depsA d.steps 0 d.steps).length)[j]? = some (n : Int) ∧ (rndG d)[j]? = some ((n : Int), 16, (d.steps[n]?.getD default).name)) := Lib.hid (fun j hj => by
    have hj' : j < (rndL (depsA d.steps 0 d.steps) (depsA d.steps 0 d.steps).length).length := by omega
    obtain ⟨n, hn, hn2⟩ := rndL_in (List.getElem_mem hj')
    rw [depsA_len] at hn2
    refine ⟨n, hn2, by rw [List.getElem?_eq_getElem hj', hn], ?_⟩
    unfold rndG
    rw [List.getElem?_map, List.getElem?_eq_getElem hj', hn]
    rfl)
  have HBW := Lib.hid hb2
  generalize rndL (depsA d.steps 0 d.steps) (depsA d.steps 0 d.steps).length = RL at *
  have hsz2 := HB2.out.size
  clear ho2 hb2
  have HRL := Lib.hid hgl
  clear hgl
  have HON : Hid (OwnG w2 w2.heap.size none 0 ((rndG d).take 0)) := Lib.hid (OwnG.nil _ _)
  go_wp2_with fail
  go_loopg [3, 10] (RL.length + 1) (fun gk out i wi => ∃ (j : Nat) (va : Option Addr) (vc : Nat), j + gk = RL.length + 1 ∧ j ≤ RL.length ∧ i = .int .i64 j ∧ out = .slice va j vc ∧ Hid (OwnG wi w2.heap.size va vc ((rndG d).take j)) ∧ Hid (Below w2.heap.size w2 wi))
  case atStart => exact ⟨0, none, 0, by omega, by omega, rfl, rfl, HON, Lib.hid (Below.refl _ _)⟩
  case round =>
    obtain ⟨j, va, vc, hgk, hj, rfl, rfl, HO, HB⟩ := hrel
    have hg : gk = RL.length + 1 - j := by omega
    subst hg
    by_cases hjl : j < RL.length
    · have d1 : decide ((j : Int) < (RL.length : Int)) = true := decide_eq_true (by omega)
      have hj1 : (j : Int) < (RL.length : Int) := by omega
      have hj0 : (0 : Int) ≤ (j : Int) := by omega
      obtain ⟨n, hn, hrl, hgd⟩ := HGE.out j (by have := HRL.out; omega)
      have hn0 : (0 : Int) ≤ (n : Int) := by omega
      have hn1 : (n : Int) < (d.steps.length : Int) := by omega
      rw [List.getElem?_eq_getElem hn, Option.getD_some] at hgd
      rcases HRD.out.cases (by decide) with ⟨h0, _⟩ | ⟨_, _, g2, off2, cap2, he2, _, _, q3⟩
      · omega
      cases he2
      have z0 := cellB HB.out (q3 j (.int .i64 (n : Int)) (by unfold ints; rw [List.getElem?_map, hrl]; rfl))
      have hbw : Below w0.heap.size w0 wr := bthen (bthen HB1'.out (Nat.le_refl _) HBW.out) (Nat.le_refl _) HB.out
      obtain ⟨-, -, p2, -, -, -⟩ := cells3h ((hbw.block _ (Array.getElem?_eq_some_iff.1 HG0.out).1).trans HG0.out)
      obtain ⟨g, off, cap, aa, ac, ka, kc, ba, bc, he, hcl, hcu, hst', hat⟩ := (HD0.out.below hbw).steps.at hn
      have t0 := hat.q0
      cases he
      have hwsz := HB.out.size
      have HTK : Hid ((rndG d).take (j + 1) = (rndG d).take j ++ [((n : Int), 16, d.steps[n].name)]) := Lib.hid (by rw [List.take_add_one, hgd]; rfl)
      have htl : ((rndG d).take j).length = j := by rw [List.length_take]; have := HRL.out; omega
      have HO' : Hid (wr.ownsRow w2.heap.size 154 3 (.slice va j vc) j (flatG ((rndG d).take j))) := Lib.hid (by have := HO.out; unfold OwnG at this; rw [htl] at this; exact this)
      have HTL := Lib.hid htl
      clear hat hst' hgd hrl q3 hbw htl hcl hcu
      go_wp2_with (at_builtin; go_must (refine wpList_push rfl _ _ 76 rfl w2.heap.size 154 i0 (.agg #[.int .i64 0, .int .i64 0, .string { data := #[] }]) 3 32 Tryz.underlying76 hi hz0 hz1 hz2 rfl (by decide) (.slice va j vc) j (flatG ((rndG d).take j)) rfl (HO'.out.alloc _) ⟨wr.heap.size, 0, none⟩ 1 1 (encG ((n : Int), 16, d.steps[n].name)) rfl rfl cells3_new (encG_one ((n : Int), 16, d.steps[n].name)) (by have := HRL.out; unfold maxLen; omega) (by have := HRL.out; omega) (by simp; omega) ?_; intro v' w4 hown' hgrow hfr; obtain ⟨va', vc', rfl, kb1, kb2, kb3⟩ := ownG_pushed (l := (rndG d).take j) HO.out hwsz (by rw [HTL.out]; exact hown') (by rw [HTL.out]; exact hgrow); have KB1 := Lib.hid kb1; have KB2 := Lib.hid kb2; clear hown' hgrow hfr kb1 kb2 kb3))
      go_roundg (RL.length + 1 - (j + 1))
      case measure => omega
      case rel => exact ⟨j + 1, va', vc', by omega, by omega, by go_num, by first | rfl | (have := HRL.out; rw [show min j (rndG d).length = j by omega]), by rw [HTK.out]; exact KB1, Lib.hid (HB.out.trans KB2.out)⟩
    · have d1 : decide ((j : Int) < (RL.length : Int)) = false := decide_eq_false (by omega)
      obtain rfl : j = RL.length := by omega
      have hal : (rndG d).take RL.length = rndG d := List.take_of_length_le (by have := HRL.out; omega)
      have HO2 := HO.out
      rw [hal] at HO2
      have HF := Lib.hid (HO2.read HOK.out)
      clear HO2 hal
      go_wp2_with fail
      go_ret
      exact ⟨va, vc, by rw [HRL.out]; rfl, HF.out, HB2.out.trans (HB.out.mono hsz2)⟩
def gatP (d : DefD) : Nat → List DiagD
  | 0 => []
  | 1 => sortD (chkN d)
  | 2 => sortD (chkN d) ++ sortD (chkU d.steps d.steps.length (chkR 0 d.steps []))
  | _ => sortD (chkN d) ++ sortD (chkU d.steps d.steps.length (chkR 0 d.steps [])) ++ rndG d
theorem flatG_one (l : List DiagD) : ∀ u ∈ flatG l, u.oneCell' = true := by
  intro u hu
  unfold flatG at hu
  obtain ⟨x, _, hx⟩ := List.mem_flatMap.1 hu
  exact encG_one x u hx
theorem gat_pushed {W w1 : World} {B vc vc' : Nat} {va va' : Option Addr} {l m : List DiagD} (h : OwnG W B va vc l) (hB : B ≤ W.heap.size) (hown' : w1.ownsRow B 154 3 (.slice va' (l.length + m.length) vc') (l.length + m.length) (flatG l ++ flatG m)) (hgrow : W.grownBy w1 (Value.slice va l.length vc).ownBlock) :
    OwnG w1 B va' vc' (l ++ m) ∧ Below B W w1 := by
  refine ⟨?_, (Below.refl B W).grown hgrow hB (fun j ej => (World.ownsRow.lt h j ej).1)⟩
  unfold OwnG
  rw [List.length_append]
  have : flatG (l ++ m) = flatG l ++ flatG m := by unfold flatG; rw [List.flatMap_append]
  rw [this]
  exact hown'
theorem gatL_len {d : DefD} (hs : SmallD d) : (sortD (chkN d)).length ≤ 100000 ∧ (sortD (chkU d.steps d.steps.length (chkR 0 d.steps []))).length ≤ 100000 ∧ (rndG d).length ≤ 30 := by
  have h1 := sortD_len (chkN d)
  have h2 := chkN_few hs
  have h3 := sortD_len (chkU d.steps d.steps.length (chkR 0 d.steps []))
  have h4 := chkU_len d.steps (m := 70) (fun s h => (hs.each s h).after) d.steps.length (chkR 0 d.steps [])
  have h5 := chkR_len d.steps 0 []
  have h6 := rndG_len d
  have h7 := hs.steps
  have h8 : d.steps.length * 70 ≤ 30 * 70 := Nat.mul_le_mul_right _ h7
  simp only [List.length_nil] at h5
  omega
set_option maxRecDepth 100000 in
set_option maxHeartbeats 2000000 in
theorem gather_any (d : DefD) (cs : List Value) (sa : Option Addr) (sc Q : Nat) (w : World) (h : DefR w cs d sa sc) (hs : SmallD d) (hQ : w.heap[Q]? = some (.cells #[.func (.func 69) #[] #[], .func (.func 70) #[] #[], .func (.func 71) #[] #[]] 77 (0, 0))) :
    Calls Tryz.prog 68 #[.agg cs.toArray, .slice (some ⟨Q, 0, none⟩) 3 3] w fun e w' => ∃ va vc, e = .returned (.slice va (sortD (gatP d 3)).length vc) ∧ Below w.heap.size w w' := by
  obtain ⟨i0, hi, hz0, hz1, hz2⟩ := info_parts Tryz.info_diag
  have hn30 := hs.steps
  have HS := Lib.hid hs
  have HLEN := Lib.hid (gatL_len hs)
  have hb0 := (Below.refl w.heap.size w).alloc (Nat.le_refl _) (.cells #[.string d.name, .string d.text, .slice sa d.steps.length sc] 24)
  have g0 := World.alloc_heap_new w (.cells #[.string d.name, .string d.text, .slice sa d.steps.length sc] 24)
  obtain ⟨rfl, hnm, htx, hst⟩ := h
  have HST := Lib.hid hst
  have hQl := (Array.getElem?_eq_some_iff.1 hQ).1
  clear hs hst
  go_enter Tryz.func68, Tryz.ntmps68
  go_upto_region 2 with fail
  generalize w.alloc (.cells #[.string d.name, .string d.text, .slice sa d.steps.length sc] 24) = w0 at *
  have HD0 := Lib.hid (show DefR w0 _ d sa sc from ⟨rfl, hnm, htx, HST.out.below hb0⟩)
  have HB0 := Lib.hid hb0
  have HG0 := Lib.hid g0
  have HQ0 := Lib.hid ((hb0.block _ hQl).trans hQ)
  have hsz0 := hb0.size
  clear hb0 g0 hQ
  have HON : Hid (OwnG w0 w0.heap.size none 0 (gatP d 0)) := Lib.hid (OwnG.nil _ _)
  have hl0 := (Array.getElem?_eq_some_iff.1 HG0.out).1
  go_wp2_with fail
  go_loopg [5, 10] 4 (fun gk out i wi => ∃ (j : Nat) (va : Option Addr) (vc : Nat), j + gk = 4 ∧ j ≤ 3 ∧ i = .int .i64 j ∧ out = .slice va (gatP d j).length vc ∧ Hid (OwnG wi w0.heap.size va vc (gatP d j)) ∧ Hid (Below w0.heap.size w0 wi))
  case atStart => exact ⟨0, none, 0, by omega, by omega, rfl, rfl, HON, Lib.hid (Below.refl _ _)⟩
  case round =>
    obtain ⟨j, va, vc, hgk, hj, rfl, rfl, HO, HB⟩ := hrel
    have hg : gk = 4 - j := by omega
    subst hg
    obtain ⟨p0, p1, p2, -, -, -⟩ := cells3h ((HB.out.block _ hl0).trans HG0.out)
    obtain ⟨f0, f1, f2, -, -, -⟩ := cells3h ((HB.out.block _ (Nat.lt_of_lt_of_le hQl hsz0)).trans HQ0.out)
    have HDr := Lib.hid (HD0.out.below HB.out)
    by_cases hj3 : j < 3
    · rcases (by omega : j = 0 ∨ j = 1 ∨ j = 2) with rfl | rfl | rfl
      · go_wp2_with fail
        refine (nCheck_any d _ sa sc _ HDr.out HS.out (refs_few HS.out) (chkN_ok HS.out)).mono ?_
        rintro e w1 ⟨ga, gc, rfl, hdg, hbg⟩
        have HO1 := Lib.hid (HO.out.below hbg)
        have HB1 := Lib.hid (bthen HB.out (Nat.le_refl _) hbg)
        have hsz1 := HB1.out.size
        have HDG := Lib.hid hdg
        have hL1 := HLEN.out.1
        have hL2 := HLEN.out.2.1
        have hL3 := HLEN.out.2.2
        clear hdg hbg p0 p1 p2 f0 f1 f2
        go_wp2_with (at_builtin; go_must (refine wpList_pushS rfl _ _ 76 rfl w0.heap.size 154 i0 (.agg #[.int .i64 0, .int .i64 0, .string { data := #[] }]) 3 32 Tryz.underlying76 hi hz0 hz1 hz2 rfl (by decide) (.slice va (gatP d 0).length vc) (gatP d 0).length (flatG (gatP d 0)) rfl HO1.out _ _ _ rfl HDG.out.1 (flatG_one _) (by unfold maxLen; simp only [gatP, List.length_nil]; omega) (by simp only [gatP, List.length_nil]; omega) hsz1 ?_; intro v' w2 hown' hgrow hfr; obtain ⟨va', vc', rfl⟩ := (RdS.of_owns hown').form; have HN := Lib.hid (gat_pushed HO1.out hsz1 hown' hgrow); clear hown' hgrow hfr))
        have HN2 : Hid (OwnG _ w0.heap.size va' vc' (gatP d 1)) := Lib.hid HN.out.1
        go_roundg (4 - (0 + 1))
        case measure => omega
        case rel => exact ⟨0 + 1, va', vc', by omega, by omega, by go_num, by rw [show gatP d (0 + 1) = gatP d 0 ++ sortD (chkN d) from rfl, List.length_append], HN2, Lib.hid (HB1.out.trans HN.out.2)⟩
      · go_wp2_with fail
        refine (bCheck_any d _ sa sc _ HDr.out (by omega) (fun s h => Nat.le_trans (HS.out.each s h).after (by omega)) (Nat.le_trans (refs_few HS.out) (by omega)) (chk_ok HS.out)).mono ?_
        rintro e w1 ⟨ga, gc, rfl, hdg, hbg⟩
        have HO1 := Lib.hid (HO.out.below hbg)
        have HB1 := Lib.hid (bthen HB.out (Nat.le_refl _) hbg)
        have hsz1 := HB1.out.size
        have HDG := Lib.hid hdg
        have hL1 := HLEN.out.1
        have hL2 := HLEN.out.2.1
        have hL3 := HLEN.out.2.2
        clear hdg hbg p0 p1 p2 f0 f1 f2
        go_wp2_with (at_builtin; go_must (refine wpList_pushS rfl _ _ 76 rfl w0.heap.size 154 i0 (.agg #[.int .i64 0, .int .i64 0, .string { data := #[] }]) 3 32 Tryz.underlying76 hi hz0 hz1 hz2 rfl (by decide) (.slice va (gatP d 1).length vc) (gatP d 1).length (flatG (gatP d 1)) rfl HO1.out _ _ _ rfl HDG.out.1 (flatG_one _) (by unfold maxLen; simp only [gatP]; omega) (by simp only [gatP]; omega) hsz1 ?_; intro v' w2 hown' hgrow hfr; obtain ⟨va', vc', rfl⟩ := (RdS.of_owns hown').form; have HN := Lib.hid (gat_pushed HO1.out hsz1 hown' hgrow); clear hown' hgrow hfr))
        have HN2 : Hid (OwnG _ w0.heap.size va' vc' (gatP d 2)) := Lib.hid HN.out.1
        go_roundg (4 - (1 + 1))
        case measure => omega
        case rel => exact ⟨1 + 1, va', vc', by omega, by omega, by go_num, by rw [show gatP d (1 + 1) = gatP d 1 ++ sortD (chkU d.steps d.steps.length (chkR 0 d.steps [])) from rfl, List.length_append], HN2, Lib.hid (HB1.out.trans HN.out.2)⟩
      · go_wp2_with fail
        refine (rounds_any d _ sa sc _ HDr.out HS.out).mono ?_
        rintro e w1 ⟨ga, gc, rfl, hdg, hbg⟩
        have HO1 := Lib.hid (HO.out.below hbg)
        have HB1 := Lib.hid (bthen HB.out (Nat.le_refl _) hbg)
        have hsz1 := HB1.out.size
        have HDG := Lib.hid hdg
        have hL1 := HLEN.out.1
        have hL2 := HLEN.out.2.1
        have hL3 := HLEN.out.2.2
        clear hdg hbg p0 p1 p2 f0 f1 f2
        go_wp2_with (at_builtin; go_must (refine wpList_pushS rfl _ _ 76 rfl w0.heap.size 154 i0 (.agg #[.int .i64 0, .int .i64 0, .string { data := #[] }]) 3 32 Tryz.underlying76 hi hz0 hz1 hz2 rfl (by decide) (.slice va (gatP d 2).length vc) (gatP d 2).length (flatG (gatP d 2)) rfl HO1.out _ _ _ rfl HDG.out.1 (flatG_one _) (by unfold maxLen; simp only [List.length_append, gatP]; omega) (by simp only [gatP, List.length_append]; omega) hsz1 ?_; intro v' w2 hown' hgrow hfr; obtain ⟨va', vc', rfl⟩ := (RdS.of_owns hown').form; have HN := Lib.hid (gat_pushed HO1.out hsz1 hown' hgrow); clear hown' hgrow hfr))
        have HN2 : Hid (OwnG _ w0.heap.size va' vc' (gatP d 3)) := Lib.hid HN.out.1
        go_roundg (4 - (2 + 1))
        case measure => omega
        case rel => exact ⟨2 + 1, va', vc', by omega, by omega, by go_num, by rw [show gatP d (2 + 1) = gatP d 2 ++ rndG d from rfl, List.length_append], HN2, Lib.hid (HB1.out.trans HN.out.2)⟩
    · obtain rfl : j = 3 := by omega
      have HRD := Lib.hid (HO.out.read (show ∀ x ∈ gatP d 3, OkG x from fun x hx => by
        rcases List.mem_append.1 hx with hx | hx
        · rcases List.mem_append.1 hx with hx | hx
          · exact chkN_ok HS.out x ((sortD_mem _ x).1 hx)
          · exact chk_ok HS.out x ((sortD_mem _ x).1 hx)
        · exact rndG_ok HS.out x hx))
      have hgl : (gatP d 3).length ≤ 1000000 := by
        have h1 := HLEN.out.1
        have h2 := HLEN.out.2.1
        have h3 := HLEN.out.2.2
        simp only [gatP, List.length_append]
        omega
      have HSO := Lib.hid (dSort_any (gatP d 3) _ wr HRD.out hgl)
      have HF := Lib.hid (HB0.out.trans (HB.out.mono hsz0))
      clear hgl p0 p1 p2 f0 f1 f2
      go_wp2_with fail
      refine HSO.out.mono ?_
      rintro e w2 ⟨va', vc', rfl, ho, hb2⟩
      have HF2 := Lib.hid (bthen HF.out (Nat.le_refl _) hb2)
      clear ho hb2
      go_wp2_with fail
      go_ret
      exact ⟨va', vc', rfl, HF2.out⟩
set_option maxRecDepth 100000 in
set_option maxHeartbeats 2000000 in
theorem All_any' (d : DefD) (cs : List Value) (sa : Option Addr) (sc : Nat) (w : World) (h : DefR w cs d sa sc) (hs : SmallD d) :
    Calls Tryz.prog 35 #[.agg cs.toArray] w fun e w' => ∃ va vc, e = .returned (.slice va (sortD (gatP d 3)).length vc) ∧ Below w.heap.size w w' := by
  obtain ⟨rfl, hnm, htx, hst⟩ := h
  have hb0 : Below w.heap.size w ((w.alloc (.cells #[.string d.name, .string d.text, .slice sa d.steps.length sc] 24)).alloc (.cells #[.func (.func 69) #[] #[], .func (.func 70) #[] #[], .func (.func 71) #[] #[]] 77)) := ((Below.refl _ w).alloc (Nat.le_refl _) _).alloc (by simp) _
  have g0 : ((w.alloc (.cells #[.string d.name, .string d.text, .slice sa d.steps.length sc] 24)).alloc (.cells #[.func (.func 69) #[] #[], .func (.func 70) #[] #[], .func (.func 71) #[] #[]] 77)).heap[w.heap.size + 1]? = some (.cells #[.func (.func 69) #[] #[], .func (.func 70) #[] #[], .func (.func 71) #[] #[]] 77 (0, 0)) := by
    have := World.alloc_heap_new (w.alloc (.cells #[.string d.name, .string d.text, .slice sa d.steps.length sc] 24)) (.cells #[.func (.func 69) #[] #[], .func (.func 70) #[] #[], .func (.func 71) #[] #[]] 77)
    rwa [World.size_alloc] at this
  have HG := Lib.hid (gather_any d _ sa sc (w.heap.size + 1) ((w.alloc (.cells #[.string d.name, .string d.text, .slice sa d.steps.length sc] 24)).alloc (.cells #[.func (.func 69) #[] #[], .func (.func 70) #[] #[], .func (.func 71) #[] #[]] 77)) ⟨rfl, hnm, htx, hst.below hb0⟩ hs g0)
  have HB := Lib.hid hb0
  clear hst hs hb0 g0
  go_enter Tryz.func35, Tryz.ntmps35
  go_wp2_with fail
  refine HG.out.mono ?_
  rintro e w2 ⟨va, vc, rfl, hb2⟩
  have HF := Lib.hid (bthen HB.out (Nat.le_refl _) hb2)
  clear hb2
  go_wp2_with fail
  go_ret
  exact ⟨va, vc, rfl, HF.out⟩
def cleanB (d : DefD) : Bool := decide ((sortD (gatP d 3)).length = 0) && decide ((defC d).1 = 0)
set_option maxRecDepth 100000 in
set_option maxHeartbeats 2000000 in
theorem Clean_any (d : DefD) (cs : List Value) (sa : Option Addr) (sc : Nat) (w : World) (h : DefR w cs d sa sc) (hs : SmallD d) :
    Calls Tryz.prog 11 #[.agg cs.toArray] w fun e w' => e = .returned (.bool (cleanB d)) ∧ Below w.heap.size w w' := by
  obtain ⟨rfl, hnm, htx, hst⟩ := h
  have hb0 := (Below.refl w.heap.size w).alloc (Nat.le_refl _) (.cells #[.string d.name, .string d.text, .slice sa d.steps.length sc] 24)
  have g0 := World.alloc_heap_new w (.cells #[.string d.name, .string d.text, .slice sa d.steps.length sc] 24)
  have HD0 := Lib.hid (show DefR (w.alloc (.cells #[.string d.name, .string d.text, .slice sa d.steps.length sc] 24)) [.string d.name, .string d.text, .slice sa d.steps.length sc] d sa sc from ⟨rfl, hnm, htx, hst.below hb0⟩)
  have HS := Lib.hid hs
  have HB := Lib.hid hb0
  have HG := Lib.hid g0
  clear hst hs hb0 g0
  unfold cleanB
  by_cases hl : (sortD (gatP d 3)).length = 0
  case neg =>
    have hr : (decide ((sortD (gatP d 3)).length = 0) && decide ((defC d).1 = 0)) = false := by simp [hl]
    have hd : (((sortD (gatP d 3)).length : Int) == 0) = false := beq_eq_false_iff_ne.2 (by omega)
    rw [hr]
    clear hr hl
    have HAL := Lib.hid (All_any' d _ sa sc _ HD0.out HS.out)
    generalize (sortD (gatP d 3)).length = n at *
    go_enter Tryz.func11, Tryz.ntmps11
    go_upto_region 1 with fail
    generalize w.alloc (.cells #[.string d.name, .string d.text, .slice sa d.steps.length sc] 24) = w0 at *
    obtain ⟨p0, p1, p2, -, -, -⟩ := cells3h HG.out
    go_wp2_with fail
    refine HAL.out.mono ?_
    rintro e w2 ⟨va, vc, rfl, hb2⟩
    have HF := Lib.hid (bthen HB.out (Nat.le_refl _) hb2)
    clear hb2
    go_wp2_with fail
    go_ret
    exact ⟨rfl, HF.out⟩
  have hd : (((sortD (gatP d 3)).length : Int) == 0) = true := beq_iff_eq.2 (by omega)
  have hr : (decide ((sortD (gatP d 3)).length = 0) && decide ((defC d).1 = 0)) = ((defC d).1 == 0) := by simp [hl]; rfl
  rw [hr]
  clear hr hl
  have HAL := Lib.hid (All_any' d _ sa sc _ HD0.out HS.out)
  generalize (sortD (gatP d 3)).length = n at *
  go_enter Tryz.func11, Tryz.ntmps11
  go_upto_region 1 with fail
  generalize w.alloc (.cells #[.string d.name, .string d.text, .slice sa d.steps.length sc] 24) = w0 at *
  obtain ⟨p0, p1, p2, -, -, -⟩ := cells3h HG.out
  go_wp2_with fail
  refine HAL.out.mono ?_
  rintro e w2 ⟨va, vc, rfl, hb2⟩
  have HF := Lib.hid (bthen HB.out (Nat.le_refl _) hb2)
  have HD2 := Lib.hid (HD0.out.below hb2)
  have hff := @field_faultI
  clear p0 p1 p2
  obtain ⟨p0, p1, p2, -, -, -⟩ := cells3h ((hb2.block _ (Array.getElem?_eq_some_iff.1 HG.out).1).trans HG.out)
  clear hb2
  go_wp2_with fail
  refine (dCheck_any d _ sa sc w2 HD2.out HS.out).mono ?_
  rintro e w3 ⟨rfl, hb3⟩
  have HF3 := Lib.hid (bthen HF.out (Nat.le_refl _) hb3)
  clear hb3 p0 p1 p2
  unfold faultV
  go_wp2_with fail
  go_ret
  exact ⟨rfl, HF3.out⟩
end Go.Proofs.YtgfiogjfgbegpaaGreat

/-
  saga.New: contract.
-/
namespace Go.Proofs.YtgfiogjfgbegpaaGreat
open Go Go.RowKit Go.Maps Go.WideShapes

theorem defF_keep {w : World} {N : Nat} {d : DefD} {va : Option Addr} {vc : Nat} {rows : List (List Value)} (hn : d.name.size ≤ maxLen) (ht : d.text.size ≤ maxLen) (h1 : rows.length = d.steps.length) (h2 : w.ownsRow N 47 13 (.slice va d.steps.length vc) d.steps.length rows.flatten) (h3 : ∀ (i : Nat) (r : List Value) (s : StepD), rows[i]? = some r → d.steps[i]? = some s → StepF w N r s) :
    ∀ w' : World, (∀ b, N ≤ b → b < w.heap.size → w'.heap[b]? = w.heap[b]?) → DefR w' [.string d.name, .string d.text, .slice va d.steps.length vc] d va vc :=
  fun _w' hk => ⟨rfl, hn, ht, rows, h1, RdS.of_owns (ownsRow_keepB h2 (fun g hg => hk g (h2.lt g hg).1 (h2.lt g hg).2)), fun i r s hr hs => ((h3 i r s hr hs).keep hk).toX⟩
end Go.Proofs.YtgfiogjfgbegpaaGreat

/-
  rescripttop.awakeOne: contract; definitions of one step.
-/
namespace Go.Proofs.YtgfiogjfgbegpaaGreat
open Go Go.RowKit Go.Maps Go.WideShapes

def zeroTA : Tree := .mk 0 { data := #[] } [] [] 0
theorem zeroTA_r (W : World) : NodeR W [.int .u8 0, .string { data := #[] }, .slice none 0 0, .slice none 0 0, .int .i64 0] zeroTA :=
  .mk [] (by decide) (Nat.zero_le _) (fun _ h => by cases h) (by decide) ⟨rfl, none, 0, rfl, Nat.le_refl _, Nat.zero_le _, .inl rfl⟩ rfl ⟨rfl, none, 0, rfl, Nat.le_refl _, Nat.zero_le _, .inl rfl⟩ (fun i r x h => by cases h)
def uniS (name act : ByteArray) (m f k l : Int) : StepD := ⟨name, act, { data := #[] }, [], m, f, k, l, zeroTA⟩
def uniD (name act : ByteArray) (m f k l : Int) : DefD := ⟨{ data := #[115] }, { data := #[] }, [uniS name act m f k l]⟩
theorem uniS_x {W : World} {name act : ByteArray} {m f k l : Int} (hn : name.size ≤ 200) (ha : act.size ≤ 200) (h1 : I64w m) (h2 : I64w f) (h3 : I64w k) (h4 : I64w l) :
    StepX W [.string name, .string act, .string { data := #[] }, .slice none 0 0, .int .i64 m, .int .i64 f, .int .i64 k, .int .i64 l, .int .u8 0, .string { data := #[] }, .slice none 0 0, .slice none 0 0, .int .i64 0] (uniS name act m f k l) :=
  ⟨none, 0, none, 0, none, 0, rfl, ⟨by show name.size ≤ _; unfold maxLen; omega, by show act.size ≤ _; unfold maxLen; omega, Nat.zero_le _, (fun a h => by cases h), h1, h2, h3, h4⟩, ⟨rfl, none, 0, rfl, Nat.le_refl _, Nat.zero_le _, .inl rfl⟩, zeroTA_r W⟩
theorem uniD_small {name act : ByteArray} {m f k l : Int} (hn : name.size ≤ 200) (ha : act.size ≤ 200) : SmallD (uniD name act m f k l) := by
  have hz : SmallP 18 zeroTA := (small_of (by decide +kernel)).1
  refine ⟨by show ByteArray.size { data := #[115] } ≤ _; decide, by show ByteArray.size { data := #[] } ≤ _; decide, by show 1 ≤ 30; decide, fun s hs => ?_⟩
  cases List.mem_singleton.1 hs
  exact ⟨hn, ha, by show ByteArray.size { data := #[] } ≤ _; decide, Nat.zero_le _, hz, fun a h => by cases h⟩
theorem uniD_r {W : World} {g : Nat} {name act : ByteArray} {m f k l : Int} (hn : name.size ≤ 200) (ha : act.size ≤ 200) (h1 : I64w m) (h2 : I64w f) (h3 : I64w k) (h4 : I64w l) (h : W.heap[g]? = some (.cells #[.string name, .string act, .string { data := #[] }, .slice none 0 0, .int .i64 m, .int .i64 f, .int .i64 k, .int .i64 l, .int .u8 0, .string { data := #[] }, .slice none 0 0, .slice none 0 0, .int .i64 0] 47 (0, 0))) :
    DefR W [.string { data := #[115] }, .string { data := #[] }, .slice (some ⟨g, 0, none⟩) 1 1] (uniD name act m f k l) (some ⟨g, 0, none⟩) 1 :=
  ⟨rfl, by show ByteArray.size { data := #[115] } ≤ _; unfold maxLen; decide, Nat.zero_le _, [[.string name, .string act, .string { data := #[] }, .slice none 0 0, .int .i64 m, .int .i64 f, .int .i64 k, .int .i64 l, .int .u8 0, .string { data := #[] }, .slice none 0 0, .slice none 0 0, .int .i64 0]], rfl, rds_rowK 1 13 (l := [.string name, .string act, .string { data := #[] }, .slice none 0 0, .int .i64 m, .int .i64 f, .int .i64 k, .int .i64 l, .int .u8 0, .string { data := #[] }, .slice none 0 0, .slice none 0 0, .int .i64 0]) h rfl (by decide), fun i r s hr hs => by
    rcases i with _ | i
    · cases hr
      cases hs
      exact uniS_x hn ha h1 h2 h3 h4
    · cases hr⟩
end Go.Proofs.YtgfiogjfgbegpaaGreat
