/-
  lint.rounds, gather, All, Clean: contracts.
-/
import Derived.Test.YtgfiogjfgbegpaaGreatBz4
import Derived.Test.YtgfiogjfgbegpaaGreatBz5
import Derived.Test.YtgfiogjfgbegpaaGreatBz9
import Derived.Test.YtgfiogjfgbegpaaGreatBz10
import Derived.Test.YtgfiogjfgbegpaaGreatBz17
import Derived.Test.YtgfiogjfgbegpaaGreatBz27
import Derived.Test.YtgfiogjfgbegpaaGreatBz37
import Derived.Test.YtgfiogjfgbegpaaGreatBz49
import Derived.Test.YtgfiogjfgbegpaaGreatBz50
import Derived.Test.YtgfiogjfgbegpaaGreatBz51
import Derived.Test.YtgfiogjfgbegpaaGreatBz52
namespace Go.Proofs.YtgfiogjfgbegpaaGreat
open Go Go.RowKit Go.WideShapes

def nameI (d : DefD) (i : Int) : ByteArray := (d.steps[i.toNat]?.getD default).name
def rndG (d : DefD) : List DiagD := (rndL (depsA d.steps 0 d.steps) (depsA d.steps 0 d.steps).length).map fun i => (i, 16, nameI d i)
theorem rndL_in {R : List (List Int)} {k : Nat} {x : Int} (h : x ∈ rndL R k) : ∃ n : Nat, x = (n : Int) ∧ n < k := by
  unfold rndL at h
  simp only [List.mem_map, List.mem_filter, List.mem_range] at h
  obtain ⟨n, ⟨h1, _⟩, rfl⟩ := h
  exact ⟨n, rfl, h1⟩
theorem rndG_len (d : DefD) : (rndG d).length ≤ d.steps.length := by
  unfold rndG
  rw [List.length_map]
  exact Nat.le_trans (rndL_len _ _) (by rw [depsA_len]; exact Nat.le_refl _)
theorem rndG_ok {d : DefD} (hs : SmallD d) : ∀ x ∈ rndG d, OkG x := by
  intro x hx
  unfold rndG at hx
  obtain ⟨i, hi, rfl⟩ := List.mem_map.1 hx
  obtain ⟨n, rfl, hn⟩ := rndL_in hi
  rw [depsA_len] at hn
  have := hs.steps
  refine ⟨by unfold I64w; omega, by unfold I64w; show (-9223372036854775808 : Int) ≤ 16 ∧ (16 : Int) ≤ 9223372036854775807; decide, ?_⟩
  unfold nameI
  rw [Int.toNat_natCast, List.getElem?_eq_getElem hn]
  have := (hs.each _ (List.getElem_mem hn)).name
  unfold maxLen
  show d.steps[n].name.size ≤ _
  omega
theorem field_faultI {c0 c1 : Value} {w : World} : (Instr.field 79 (.agg #[c0, c1]) 0).run Tryz.prog w = .ok c0 w := by kernel_rfl
set_option maxRecDepth 100000 in
set_option maxHeartbeats 2000000 in
theorem rounds_any (d : DefD) (cs : List Value) (sa : Option Addr) (sc : Nat) (w : World) (h : DefR w cs d sa sc) (hs : SmallD d) :
    Calls Tryz.prog 71 #[.agg cs.toArray] w fun e w' => ∃ va vc, e = .returned (.slice va (rndG d).length vc) ∧ DgR w' (.slice va (rndG d).length vc) (rndG d) ∧ Below w.heap.size w w' := by
  obtain ⟨i0, hi, hz0, hz1, hz2⟩ := info_parts Tryz.info_diag
  have hn30 := hs.steps
  have HOK := Lib.hid (rndG_ok hs)
  have HFEW := Lib.hid (refs_few hs)
  obtain ⟨rfl, hnm, htx, hst⟩ := h
  have hb0 := (Below.refl w.heap.size w).alloc (Nat.le_refl _) (.cells #[.string d.name, .string d.text, .slice sa d.steps.length sc] 24)
  have g0 := World.alloc_heap_new w (.cells #[.string d.name, .string d.text, .slice sa d.steps.length sc] 24)
  have HST := Lib.hid hst
  clear hs hst
  go_enter Tryz.func71, Tryz.ntmps71
  go_upto_region 2 with fail
  generalize w.alloc (.cells #[.string d.name, .string d.text, .slice sa d.steps.length sc] 24) = w0 at *
  have HD0 := Lib.hid (show DefR w0 _ d sa sc from ⟨rfl, hnm, htx, HST.out.below hb0⟩)
  have HB0 := Lib.hid hb0
  obtain ⟨p0, p1, p2, -, -, -⟩ := cells3h g0
  have HG0 := Lib.hid g0
  clear hb0 g0
  go_wp2_with fail
  refine (nRefs_any d _ sa sc w0 HD0.out (by omega) (by have := HFEW.out; omega)).mono ?_
  rintro e w1 ⟨v1, rfl, hr1, hb1⟩
  have HB1 := Lib.hid (bthen HB0.out (Nat.le_refl _) hb1)
  have HB1' := Lib.hid hb1
  have HR1 := Lib.hid hr1
  clear hr1 hb1 p0 p1 p2
  go_wp2_with fail
  refine (Round_any _ _ w1 HR1.out (by rw [depsA_len]; omega)).mono ?_
  rintro e w2 ⟨v2, rfl, ho2, hb2⟩
  have HB2 := Lib.hid (bthen HB1.out (Nat.le_refl _) hb2)
  have HRD := Lib.hid (RdS.of_owns ho2)
  obtain ⟨ra, rc, rfl⟩ := (RdS.of_owns ho2).form
  have hgl : (rndG d).length = (rndL (depsA d.steps 0 d.steps) (depsA d.steps 0 d.steps).length).length := by unfold rndG; rw [List.length_map]
  have hgle := rndG_len d
  have HGE : Hid (∀ (j : Nat) (hj : j < (rndG d).length), ∃ n : Nat, n < d.steps.length ∧ (rndL (depsA d.steps 0 d.steps) (depsA d.steps 0 d.steps).length)[j]? = some (n : Int) ∧ (rndG d)[j]? = some ((n : Int), 16, (d.steps[n]?.getD default).name)) := Lib.hid (fun j hj => by
    have hj' : j < (rndL (depsA d.steps 0 d.steps) (depsA d.steps 0 d.steps).length).length := by omega
    obtain ⟨n, hn, hn2⟩ := rndL_in (List.getElem_mem hj')
    rw [depsA_len] at hn2
    refine ⟨n, hn2, by rw [List.getElem?_eq_getElem hj', hn], ?_⟩
    unfold rndG
    rw [List.getElem?_map, List.getElem?_eq_getElem hj', hn]
    rfl)
  have HBW := Lib.hid hb2
  generalize rndL (depsA d.steps 0 d.steps) (depsA d.steps 0 d.steps).length = RL at *
  have hsz2 := HB2.out.size
  clear ho2 hb2
  have HRL := Lib.hid hgl
  clear hgl
  have HON : Hid (OwnG w2 w2.heap.size none 0 ((rndG d).take 0)) := Lib.hid (OwnG.nil _ _)
  go_wp2_with fail
  go_loopg [3, 10] (RL.length + 1) (fun gk out i wi => ∃ (j : Nat) (va : Option Addr) (vc : Nat), j + gk = RL.length + 1 ∧ j ≤ RL.length ∧ i = .int .i64 j ∧ out = .slice va j vc ∧ Hid (OwnG wi w2.heap.size va vc ((rndG d).take j)) ∧ Hid (Below w2.heap.size w2 wi))
  case atStart => exact ⟨0, none, 0, by omega, by omega, rfl, rfl, HON, Lib.hid (Below.refl _ _)⟩
  case round =>
    obtain ⟨j, va, vc, hgk, hj, rfl, rfl, HO, HB⟩ := hrel
    have hg : gk = RL.length + 1 - j := by omega
    subst hg
    by_cases hjl : j < RL.length
    · have d1 : decide ((j : Int) < (RL.length : Int)) = true := decide_eq_true (by omega)
      have hj1 : (j : Int) < (RL.length : Int) := by omega
      have hj0 : (0 : Int) ≤ (j : Int) := by omega
      obtain ⟨n, hn, hrl, hgd⟩ := HGE.out j (by have := HRL.out; omega)
      have hn0 : (0 : Int) ≤ (n : Int) := by omega
      have hn1 : (n : Int) < (d.steps.length : Int) := by omega
      rw [List.getElem?_eq_getElem hn, Option.getD_some] at hgd
      rcases HRD.out.cases (by decide) with ⟨h0, _⟩ | ⟨_, _, g2, off2, cap2, he2, _, _, q3⟩
      · omega
      cases he2
      have z0 := cellB HB.out (q3 j (.int .i64 (n : Int)) (by unfold ints; rw [List.getElem?_map, hrl]; rfl))
      have hbw : Below w0.heap.size w0 wr := bthen (bthen HB1'.out (Nat.le_refl _) HBW.out) (Nat.le_refl _) HB.out
      obtain ⟨-, -, p2, -, -, -⟩ := cells3h ((hbw.block _ (Array.getElem?_eq_some_iff.1 HG0.out).1).trans HG0.out)
      obtain ⟨g, off, cap, aa, ac, ka, kc, ba, bc, he, hcl, hcu, hst', hat⟩ := (HD0.out.below hbw).steps.at hn
      have t0 := hat.q0
      cases he
      have hwsz := HB.out.size
      have HTK : Hid ((rndG d).take (j + 1) = (rndG d).take j ++ [((n : Int), 16, d.steps[n].name)]) := Lib.hid (by rw [List.take_add_one, hgd]; rfl)
      have htl : ((rndG d).take j).length = j := by rw [List.length_take]; have := HRL.out; omega
      have HO' : Hid (wr.ownsRow w2.heap.size 154 3 (.slice va j vc) j (flatG ((rndG d).take j))) := Lib.hid (by have := HO.out; unfold OwnG at this; rw [htl] at this; exact this)
      have HTL := Lib.hid htl
      clear hat hst' hgd hrl q3 hbw htl hcl hcu
      go_wp2_with (at_builtin; go_must (refine wpList_push rfl _ _ 76 rfl w2.heap.size 154 i0 (.agg #[.int .i64 0, .int .i64 0, .string { data := #[] }]) 3 32 Tryz.underlying76 hi hz0 hz1 hz2 rfl (by decide) (.slice va j vc) j (flatG ((rndG d).take j)) rfl (HO'.out.alloc _) ⟨wr.heap.size, 0, none⟩ 1 1 (encG ((n : Int), 16, d.steps[n].name)) rfl rfl cells3_new (encG_one ((n : Int), 16, d.steps[n].name)) (by have := HRL.out; unfold maxLen; omega) (by have := HRL.out; omega) (by simp; omega) ?_; intro v' w4 hown' hgrow hfr; obtain ⟨va', vc', rfl, kb1, kb2, kb3⟩ := ownG_pushed (l := (rndG d).take j) HO.out hwsz (by rw [HTL.out]; exact hown') (by rw [HTL.out]; exact hgrow); have KB1 := Lib.hid kb1; have KB2 := Lib.hid kb2; clear hown' hgrow hfr kb1 kb2 kb3))
      go_roundg (RL.length + 1 - (j + 1))
      case measure => omega
      case rel => exact ⟨j + 1, va', vc', by omega, by omega, by go_num, by first | rfl | (have := HRL.out; rw [show min j (rndG d).length = j by omega]), by rw [HTK.out]; exact KB1, Lib.hid (HB.out.trans KB2.out)⟩
    · have d1 : decide ((j : Int) < (RL.length : Int)) = false := decide_eq_false (by omega)
      obtain rfl : j = RL.length := by omega
      have hal : (rndG d).take RL.length = rndG d := List.take_of_length_le (by have := HRL.out; omega)
      have HO2 := HO.out
      rw [hal] at HO2
      have HF := Lib.hid (HO2.read HOK.out)
      clear HO2 hal
      go_wp2_with fail
      go_ret
      exact ⟨va, vc, by rw [HRL.out]; rfl, HF.out, HB2.out.trans (HB.out.mono hsz2)⟩
def gatP (d : DefD) : Nat → List DiagD
  | 0 => []
  | 1 => sortD (chkN d)
  | 2 => sortD (chkN d) ++ sortD (chkU d.steps d.steps.length (chkR 0 d.steps []))
  | _ => sortD (chkN d) ++ sortD (chkU d.steps d.steps.length (chkR 0 d.steps [])) ++ rndG d
theorem flatG_one (l : List DiagD) : ∀ u ∈ flatG l, u.oneCell' = true := by
  intro u hu
  unfold flatG at hu
  obtain ⟨x, _, hx⟩ := List.mem_flatMap.1 hu
  exact encG_one x u hx
theorem gat_pushed {W w1 : World} {B vc vc' : Nat} {va va' : Option Addr} {l m : List DiagD} (h : OwnG W B va vc l) (hB : B ≤ W.heap.size) (hown' : w1.ownsRow B 154 3 (.slice va' (l.length + m.length) vc') (l.length + m.length) (flatG l ++ flatG m)) (hgrow : W.grownBy w1 (Value.slice va l.length vc).ownBlock) :
    OwnG w1 B va' vc' (l ++ m) ∧ Below B W w1 := by
  refine ⟨?_, (Below.refl B W).grown hgrow hB (fun j ej => (World.ownsRow.lt h j ej).1)⟩
  unfold OwnG
  rw [List.length_append]
  have : flatG (l ++ m) = flatG l ++ flatG m := by unfold flatG; rw [List.flatMap_append]
  rw [this]
  exact hown'
theorem gatL_len {d : DefD} (hs : SmallD d) : (sortD (chkN d)).length ≤ 100000 ∧ (sortD (chkU d.steps d.steps.length (chkR 0 d.steps []))).length ≤ 100000 ∧ (rndG d).length ≤ 30 := by
  have h1 := sortD_len (chkN d)
  have h2 := chkN_few hs
  have h3 := sortD_len (chkU d.steps d.steps.length (chkR 0 d.steps []))
  have h4 := chkU_len d.steps (m := 70) (fun s h => (hs.each s h).after) d.steps.length (chkR 0 d.steps [])
  have h5 := chkR_len d.steps 0 []
  have h6 := rndG_len d
  have h7 := hs.steps
  have h8 : d.steps.length * 70 ≤ 30 * 70 := Nat.mul_le_mul_right _ h7
  simp only [List.length_nil] at h5
  omega
set_option maxRecDepth 100000 in
set_option maxHeartbeats 2000000 in
theorem gather_any (d : DefD) (cs : List Value) (sa : Option Addr) (sc Q : Nat) (w : World) (h : DefR w cs d sa sc) (hs : SmallD d) (hQ : w.heap[Q]? = some (.cells #[.func (.func 69) #[] #[], .func (.func 70) #[] #[], .func (.func 71) #[] #[]] 77 (0, 0))) :
    Calls Tryz.prog 68 #[.agg cs.toArray, .slice (some ⟨Q, 0, none⟩) 3 3] w fun e w' => ∃ va vc, e = .returned (.slice va (sortD (gatP d 3)).length vc) ∧ Below w.heap.size w w' := by
  obtain ⟨i0, hi, hz0, hz1, hz2⟩ := info_parts Tryz.info_diag
  have hn30 := hs.steps
  have HS := Lib.hid hs
  have HLEN := Lib.hid (gatL_len hs)
  have hb0 := (Below.refl w.heap.size w).alloc (Nat.le_refl _) (.cells #[.string d.name, .string d.text, .slice sa d.steps.length sc] 24)
  have g0 := World.alloc_heap_new w (.cells #[.string d.name, .string d.text, .slice sa d.steps.length sc] 24)
  obtain ⟨rfl, hnm, htx, hst⟩ := h
  have HST := Lib.hid hst
  have hQl := (Array.getElem?_eq_some_iff.1 hQ).1
  clear hs hst
  go_enter Tryz.func68, Tryz.ntmps68
  go_upto_region 2 with fail
  generalize w.alloc (.cells #[.string d.name, .string d.text, .slice sa d.steps.length sc] 24) = w0 at *
  have HD0 := Lib.hid (show DefR w0 _ d sa sc from ⟨rfl, hnm, htx, HST.out.below hb0⟩)
  have HB0 := Lib.hid hb0
  have HG0 := Lib.hid g0
  have HQ0 := Lib.hid ((hb0.block _ hQl).trans hQ)
  have hsz0 := hb0.size
  clear hb0 g0 hQ
  have HON : Hid (OwnG w0 w0.heap.size none 0 (gatP d 0)) := Lib.hid (OwnG.nil _ _)
  have hl0 := (Array.getElem?_eq_some_iff.1 HG0.out).1
  go_wp2_with fail
  go_loopg [5, 10] 4 (fun gk out i wi => ∃ (j : Nat) (va : Option Addr) (vc : Nat), j + gk = 4 ∧ j ≤ 3 ∧ i = .int .i64 j ∧ out = .slice va (gatP d j).length vc ∧ Hid (OwnG wi w0.heap.size va vc (gatP d j)) ∧ Hid (Below w0.heap.size w0 wi))
  case atStart => exact ⟨0, none, 0, by omega, by omega, rfl, rfl, HON, Lib.hid (Below.refl _ _)⟩
  case round =>
    obtain ⟨j, va, vc, hgk, hj, rfl, rfl, HO, HB⟩ := hrel
    have hg : gk = 4 - j := by omega
    subst hg
    obtain ⟨p0, p1, p2, -, -, -⟩ := cells3h ((HB.out.block _ hl0).trans HG0.out)
    obtain ⟨f0, f1, f2, -, -, -⟩ := cells3h ((HB.out.block _ (Nat.lt_of_lt_of_le hQl hsz0)).trans HQ0.out)
    have HDr := Lib.hid (HD0.out.below HB.out)
    by_cases hj3 : j < 3
    · rcases (by omega : j = 0 ∨ j = 1 ∨ j = 2) with rfl | rfl | rfl
      · go_wp2_with fail
        refine (nCheck_any d _ sa sc _ HDr.out HS.out (refs_few HS.out) (chkN_ok HS.out)).mono ?_
        rintro e w1 ⟨ga, gc, rfl, hdg, hbg⟩
        have HO1 := Lib.hid (HO.out.below hbg)
        have HB1 := Lib.hid (bthen HB.out (Nat.le_refl _) hbg)
        have hsz1 := HB1.out.size
        have HDG := Lib.hid hdg
        have hL1 := HLEN.out.1
        have hL2 := HLEN.out.2.1
        have hL3 := HLEN.out.2.2
        clear hdg hbg p0 p1 p2 f0 f1 f2
        go_wp2_with (at_builtin; go_must (refine wpList_pushS rfl _ _ 76 rfl w0.heap.size 154 i0 (.agg #[.int .i64 0, .int .i64 0, .string { data := #[] }]) 3 32 Tryz.underlying76 hi hz0 hz1 hz2 rfl (by decide) (.slice va (gatP d 0).length vc) (gatP d 0).length (flatG (gatP d 0)) rfl HO1.out _ _ _ rfl HDG.out.1 (flatG_one _) (by unfold maxLen; simp only [gatP, List.length_nil]; omega) (by simp only [gatP, List.length_nil]; omega) hsz1 ?_; intro v' w2 hown' hgrow hfr; obtain ⟨va', vc', rfl⟩ := (RdS.of_owns hown').form; have HN := Lib.hid (gat_pushed HO1.out hsz1 hown' hgrow); clear hown' hgrow hfr))
        have HN2 : Hid (OwnG _ w0.heap.size va' vc' (gatP d 1)) := Lib.hid HN.out.1
        go_roundg (4 - (0 + 1))
        case measure => omega
        case rel => exact ⟨0 + 1, va', vc', by omega, by omega, by go_num, by rw [show gatP d (0 + 1) = gatP d 0 ++ sortD (chkN d) from rfl, List.length_append], HN2, Lib.hid (HB1.out.trans HN.out.2)⟩
      · go_wp2_with fail
        refine (bCheck_any d _ sa sc _ HDr.out (by omega) (fun s h => Nat.le_trans (HS.out.each s h).after (by omega)) (Nat.le_trans (refs_few HS.out) (by omega)) (chk_ok HS.out)).mono ?_
        rintro e w1 ⟨ga, gc, rfl, hdg, hbg⟩
        have HO1 := Lib.hid (HO.out.below hbg)
        have HB1 := Lib.hid (bthen HB.out (Nat.le_refl _) hbg)
        have hsz1 := HB1.out.size
        have HDG := Lib.hid hdg
        have hL1 := HLEN.out.1
        have hL2 := HLEN.out.2.1
        have hL3 := HLEN.out.2.2
        clear hdg hbg p0 p1 p2 f0 f1 f2
        go_wp2_with (at_builtin; go_must (refine wpList_pushS rfl _ _ 76 rfl w0.heap.size 154 i0 (.agg #[.int .i64 0, .int .i64 0, .string { data := #[] }]) 3 32 Tryz.underlying76 hi hz0 hz1 hz2 rfl (by decide) (.slice va (gatP d 1).length vc) (gatP d 1).length (flatG (gatP d 1)) rfl HO1.out _ _ _ rfl HDG.out.1 (flatG_one _) (by unfold maxLen; simp only [gatP]; omega) (by simp only [gatP]; omega) hsz1 ?_; intro v' w2 hown' hgrow hfr; obtain ⟨va', vc', rfl⟩ := (RdS.of_owns hown').form; have HN := Lib.hid (gat_pushed HO1.out hsz1 hown' hgrow); clear hown' hgrow hfr))
        have HN2 : Hid (OwnG _ w0.heap.size va' vc' (gatP d 2)) := Lib.hid HN.out.1
        go_roundg (4 - (1 + 1))
        case measure => omega
        case rel => exact ⟨1 + 1, va', vc', by omega, by omega, by go_num, by rw [show gatP d (1 + 1) = gatP d 1 ++ sortD (chkU d.steps d.steps.length (chkR 0 d.steps [])) from rfl, List.length_append], HN2, Lib.hid (HB1.out.trans HN.out.2)⟩
      · go_wp2_with fail
        refine (rounds_any d _ sa sc _ HDr.out HS.out).mono ?_
        rintro e w1 ⟨ga, gc, rfl, hdg, hbg⟩
        have HO1 := Lib.hid (HO.out.below hbg)
        have HB1 := Lib.hid (bthen HB.out (Nat.le_refl _) hbg)
        have hsz1 := HB1.out.size
        have HDG := Lib.hid hdg
        have hL1 := HLEN.out.1
        have hL2 := HLEN.out.2.1
        have hL3 := HLEN.out.2.2
        clear hdg hbg p0 p1 p2 f0 f1 f2
        go_wp2_with (at_builtin; go_must (refine wpList_pushS rfl _ _ 76 rfl w0.heap.size 154 i0 (.agg #[.int .i64 0, .int .i64 0, .string { data := #[] }]) 3 32 Tryz.underlying76 hi hz0 hz1 hz2 rfl (by decide) (.slice va (gatP d 2).length vc) (gatP d 2).length (flatG (gatP d 2)) rfl HO1.out _ _ _ rfl HDG.out.1 (flatG_one _) (by unfold maxLen; simp only [List.length_append, gatP]; omega) (by simp only [gatP, List.length_append]; omega) hsz1 ?_; intro v' w2 hown' hgrow hfr; obtain ⟨va', vc', rfl⟩ := (RdS.of_owns hown').form; have HN := Lib.hid (gat_pushed HO1.out hsz1 hown' hgrow); clear hown' hgrow hfr))
        have HN2 : Hid (OwnG _ w0.heap.size va' vc' (gatP d 3)) := Lib.hid HN.out.1
        go_roundg (4 - (2 + 1))
        case measure => omega
        case rel => exact ⟨2 + 1, va', vc', by omega, by omega, by go_num, by rw [show gatP d (2 + 1) = gatP d 2 ++ rndG d from rfl, List.length_append], HN2, Lib.hid (HB1.out.trans HN.out.2)⟩
    · obtain rfl : j = 3 := by omega
      have HRD := Lib.hid (HO.out.read (show ∀ x ∈ gatP d 3, OkG x from fun x hx => by
        rcases List.mem_append.1 hx with hx | hx
        · rcases List.mem_append.1 hx with hx | hx
          · exact chkN_ok HS.out x ((sortD_mem _ x).1 hx)
          · exact chk_ok HS.out x ((sortD_mem _ x).1 hx)
        · exact rndG_ok HS.out x hx))
      have hgl : (gatP d 3).length ≤ 1000000 := by
        have h1 := HLEN.out.1
        have h2 := HLEN.out.2.1
        have h3 := HLEN.out.2.2
        simp only [gatP, List.length_append]
        omega
      have HSO := Lib.hid (dSort_any (gatP d 3) _ wr HRD.out hgl)
      have HF := Lib.hid (HB0.out.trans (HB.out.mono hsz0))
      clear hgl p0 p1 p2 f0 f1 f2
      go_wp2_with fail
      refine HSO.out.mono ?_
      rintro e w2 ⟨va', vc', rfl, ho, hb2⟩
      have HF2 := Lib.hid (bthen HF.out (Nat.le_refl _) hb2)
      clear ho hb2
      go_wp2_with fail
      go_ret
      exact ⟨va', vc', rfl, HF2.out⟩
set_option maxRecDepth 100000 in
set_option maxHeartbeats 2000000 in
theorem All_any' (d : DefD) (cs : List Value) (sa : Option Addr) (sc : Nat) (w : World) (h : DefR w cs d sa sc) (hs : SmallD d) :
    Calls Tryz.prog 35 #[.agg cs.toArray] w fun e w' => ∃ va vc, e = .returned (.slice va (sortD (gatP d 3)).length vc) ∧ Below w.heap.size w w' := by
  obtain ⟨rfl, hnm, htx, hst⟩ := h
  have hb0 : Below w.heap.size w ((w.alloc (.cells #[.string d.name, .string d.text, .slice sa d.steps.length sc] 24)).alloc (.cells #[.func (.func 69) #[] #[], .func (.func 70) #[] #[], .func (.func 71) #[] #[]] 77)) := ((Below.refl _ w).alloc (Nat.le_refl _) _).alloc (by simp) _
  have g0 : ((w.alloc (.cells #[.string d.name, .string d.text, .slice sa d.steps.length sc] 24)).alloc (.cells #[.func (.func 69) #[] #[], .func (.func 70) #[] #[], .func (.func 71) #[] #[]] 77)).heap[w.heap.size + 1]? = some (.cells #[.func (.func 69) #[] #[], .func (.func 70) #[] #[], .func (.func 71) #[] #[]] 77 (0, 0)) := by
    have := World.alloc_heap_new (w.alloc (.cells #[.string d.name, .string d.text, .slice sa d.steps.length sc] 24)) (.cells #[.func (.func 69) #[] #[], .func (.func 70) #[] #[], .func (.func 71) #[] #[]] 77)
    rwa [World.size_alloc] at this
  have HG := Lib.hid (gather_any d _ sa sc (w.heap.size + 1) ((w.alloc (.cells #[.string d.name, .string d.text, .slice sa d.steps.length sc] 24)).alloc (.cells #[.func (.func 69) #[] #[], .func (.func 70) #[] #[], .func (.func 71) #[] #[]] 77)) ⟨rfl, hnm, htx, hst.below hb0⟩ hs g0)
  have HB := Lib.hid hb0
  clear hst hs hb0 g0
  go_enter Tryz.func35, Tryz.ntmps35
  go_wp2_with fail
  refine HG.out.mono ?_
  rintro e w2 ⟨va, vc, rfl, hb2⟩
  have HF := Lib.hid (bthen HB.out (Nat.le_refl _) hb2)
  clear hb2
  go_wp2_with fail
  go_ret
  exact ⟨va, vc, rfl, HF.out⟩
def cleanB (d : DefD) : Bool := decide ((sortD (gatP d 3)).length = 0) && decide ((defC d).1 = 0)
set_option maxRecDepth 100000 in
set_option maxHeartbeats 2000000 in
theorem Clean_any (d : DefD) (cs : List Value) (sa : Option Addr) (sc : Nat) (w : World) (h : DefR w cs d sa sc) (hs : SmallD d) :
    Calls Tryz.prog 11 #[.agg cs.toArray] w fun e w' => e = .returned (.bool (cleanB d)) ∧ Below w.heap.size w w' := by
  obtain ⟨rfl, hnm, htx, hst⟩ := h
  have hb0 := (Below.refl w.heap.size w).alloc (Nat.le_refl _) (.cells #[.string d.name, .string d.text, .slice sa d.steps.length sc] 24)
  have g0 := World.alloc_heap_new w (.cells #[.string d.name, .string d.text, .slice sa d.steps.length sc] 24)
  have HD0 := Lib.hid (show DefR (w.alloc (.cells #[.string d.name, .string d.text, .slice sa d.steps.length sc] 24)) [.string d.name, .string d.text, .slice sa d.steps.length sc] d sa sc from ⟨rfl, hnm, htx, hst.below hb0⟩)
  have HS := Lib.hid hs
  have HB := Lib.hid hb0
  have HG := Lib.hid g0
  clear hst hs hb0 g0
  unfold cleanB
  by_cases hl : (sortD (gatP d 3)).length = 0
  case neg =>
    have hr : (decide ((sortD (gatP d 3)).length = 0) && decide ((defC d).1 = 0)) = false := by simp [hl]
    have hd : (((sortD (gatP d 3)).length : Int) == 0) = false := beq_eq_false_iff_ne.2 (by omega)
    rw [hr]
    clear hr hl
    have HAL := Lib.hid (All_any' d _ sa sc _ HD0.out HS.out)
    generalize (sortD (gatP d 3)).length = n at *
    go_enter Tryz.func11, Tryz.ntmps11
    go_upto_region 1 with fail
    generalize w.alloc (.cells #[.string d.name, .string d.text, .slice sa d.steps.length sc] 24) = w0 at *
    obtain ⟨p0, p1, p2, -, -, -⟩ := cells3h HG.out
    go_wp2_with fail
    refine HAL.out.mono ?_
    rintro e w2 ⟨va, vc, rfl, hb2⟩
    have HF := Lib.hid (bthen HB.out (Nat.le_refl _) hb2)
    clear hb2
    go_wp2_with fail
    go_ret
    exact ⟨rfl, HF.out⟩
  have hd : (((sortD (gatP d 3)).length : Int) == 0) = true := beq_iff_eq.2 (by omega)
  have hr : (decide ((sortD (gatP d 3)).length = 0) && decide ((defC d).1 = 0)) = ((defC d).1 == 0) := by simp [hl]; rfl
  rw [hr]
  clear hr hl
  have HAL := Lib.hid (All_any' d _ sa sc _ HD0.out HS.out)
  generalize (sortD (gatP d 3)).length = n at *
  go_enter Tryz.func11, Tryz.ntmps11
  go_upto_region 1 with fail
  generalize w.alloc (.cells #[.string d.name, .string d.text, .slice sa d.steps.length sc] 24) = w0 at *
  obtain ⟨p0, p1, p2, -, -, -⟩ := cells3h HG.out
  go_wp2_with fail
  refine HAL.out.mono ?_
  rintro e w2 ⟨va, vc, rfl, hb2⟩
  have HF := Lib.hid (bthen HB.out (Nat.le_refl _) hb2)
  have HD2 := Lib.hid (HD0.out.below hb2)
  have hff := @field_faultI
  clear p0 p1 p2
  obtain ⟨p0, p1, p2, -, -, -⟩ := cells3h ((hb2.block _ (Array.getElem?_eq_some_iff.1 HG.out).1).trans HG.out)
  clear hb2
  go_wp2_with fail
  refine (dCheck_any d _ sa sc w2 HD2.out HS.out).mono ?_
  rintro e w3 ⟨rfl, hb3⟩
  have HF3 := Lib.hid (bthen HF.out (Nat.le_refl _) hb3)
  clear hb3 p0 p1 p2
  unfold faultV
  go_wp2_with fail
  go_ret
  exact ⟨rfl, HF3.out⟩
end Go.Proofs.YtgfiogjfgbegpaaGreat

/-
  Sagas (no program): what stays true of a saga, whatever comes; what becomes of one that is driven.
-/
namespace Go.Proofs.YtgfiogjfgbegpaaGreat
open Go Go.RowKit

structure InvS (n : Nat) (S : SagD) : Prop where
  dn : ∀ i ∈ S.done, 0 ≤ i ∧ i < (n : Int)
  nd : S.done.Nodup
  ov : ∀ i ∈ S.done, (S.runs (i, false)).1 = 3
  ul : S.undone.length ≤ S.done.length
theorem InvS.dl {n : Nat} {S : SagD} (h : InvS n S) : S.done.length ≤ n := by
  have := nodup_sub_len (M := (List.range n).map fun i : Nat => (i : Int)) h.nd (fun x hx => by
    have h1 := h.dn x hx
    exact List.mem_map.2 ⟨x.toNat, List.mem_range.2 (by omega), by omega⟩)
  simpa using this
theorem InvS.good {n : Nat} {S : SagD} (h : InvS n S) : GoodS n S := ⟨h.dn, h.dl, Nat.le_trans h.ul h.dl⟩
theorem InvS.new (n : Nat) : InvS n newSag := ⟨(fun i h => by cases h), List.nodup_nil, (fun i h => by cases h), Nat.le_refl _⟩
theorem InvS.put {n : Nat} {X : AskX} {k : WayD} {r : RunD} (h : InvS n X.1) (hk : 0 ≤ k.1 ∧ k.1 < (n : Int)) (h3 : k.2 = false → (X.1.runs k).1 = 3 → r.1 = 3) : InvS n (putX X k r).1 := by
  have hov : ∀ i ∈ X.1.done, (if ((i, false) : WayD) = k then r else X.1.runs (i, false)).1 = 3 := by
    intro i hi
    by_cases e : ((i, false) : WayD) = k
    · rw [if_pos e]
      exact h3 (by rw [← e]) (by rw [← e]; exact h.ov i hi)
    · rw [if_neg e]
      exact h.ov i hi
  unfold putX
  split
  · rename_i hc
    refine ⟨?_, ?_, ?_, ?_⟩
    · intro i hi
      rcases List.mem_append.1 hi with h1 | h1
      · exact h.dn i h1
      · cases List.mem_singleton.1 h1
        exact hk
    · show (X.1.done ++ [k.1]).Nodup
      rw [List.nodup_append]
      refine ⟨h.nd, by simp, fun a ha b hb e => ?_⟩
      cases List.mem_singleton.1 hb
      have := h.ov a ha
      rw [e, show ((k.1, false) : WayD) = k from Prod.ext rfl hc.2.2.symm] at this
      exact hc.2.1 this
    · intro i hi
      show (if ((i, false) : WayD) = k then r else X.1.runs (i, false)).1 = 3
      rcases List.mem_append.1 hi with h1 | h1
      · exact hov i h1
      · cases List.mem_singleton.1 h1
        rw [if_pos (show ((k.1, false) : WayD) = k from Prod.ext rfl hc.2.2.symm)]
        exact hc.1
    · show X.1.undone.length ≤ (X.1.done ++ [k.1]).length
      rw [List.length_append]
      exact Nat.le_trans h.ul (Nat.le_add_right _ _)
  · split
    · exact ⟨h.dn, h.nd, hov, h.ul⟩
    · exact ⟨h.dn, h.nd, hov, h.ul⟩
theorem stopR_three {r : RunD} (h : r.1 = 3) : (stopR r).1 = 3 := by
  unfold stopR stopT
  rw [if_neg (by omega), if_neg (by omega)]
  exact h
theorem InvS.stop {n : Nat} {S : SagD} (h : InvS n S) (k : Nat) : InvS n (stopS k S) := by
  refine ⟨h.dn, h.nd, fun i hi => ?_, h.ul⟩
  unfold stopS
  dsimp only
  split
  · exact stopR_three (h.ov i hi)
  · exact h.ov i hi
theorem InvS.status {n : Nat} {S : SagD} (h : InvS n S) (s : Int) : InvS n { S with status := s } := ⟨h.dn, h.nd, h.ov, h.ul⟩
theorem InvS.beg {n : Nat} {l : List StepD} {rs : List (List Int)} {now : Int} {X : AskX} {i : Nat} (h : InvS n X.1) (hi : i < n) : InvS n (begX l rs now X i).1 := by
  unfold begX
  split
  · rename_i hr
    unfold readyB at hr
    simp only [Bool.and_eq_true, decide_eq_true_eq] at hr
    refine h.put ⟨by show (0 : Int) ≤ (i : Int); omega, by show (i : Int) < n; omega⟩ (fun _ e => ?_)
    have := hr.1
    unfold phaseI at this
    omega
  · exact h
theorem InvS.begs {n : Nat} {l : List StepD} {rs : List (List Int)} {now : Int} : ∀ (is : List Nat) (X : AskX), (∀ i ∈ is, i < n) → InvS n X.1 → InvS n (is.foldl (begX l rs now) X).1
  | [], _, _, h => h
  | i :: is, _X, hi, h => InvS.begs is _ (fun j hj => hi j (List.mem_cons_of_mem _ hj)) (h.beg (hi i List.mem_cons_self))
theorem InvS.forth {l : List StepD} {rs : List (List Int)} {now : Int} {X : AskX} (h : InvS l.length X.1) : InvS l.length (forthX l rs now X).1 := by
  unfold forthX
  split
  · exact (h.status 2).stop _
  · split
    · exact h.status 3
    · exact InvS.begs _ _ (fun i hi => List.mem_range.1 hi) h
theorem InvS.backL {l : List StepD} {now : Int} : ∀ (m : Nat) (X : AskX), X.1.undone.length + m ≤ X.1.done.length → InvS l.length X.1 → InvS l.length (backL l now m X).1
  | 0, _, _, h => h.status 4
  | m + 1, X, hm, h => by
    unfold Go.Proofs.YtgfiogjfgbegpaaGreat.backL
    dsimp only
    split
    · exact InvS.backL m _ (by show (X.1.undone ++ [_]).length + m ≤ X.1.done.length; rw [List.length_append]; simp only [List.length_cons, List.length_nil]; omega) ⟨h.dn, h.nd, h.ov, by show (X.1.undone ++ [_]).length ≤ X.1.done.length; rw [List.length_append]; simp only [List.length_cons, List.length_nil]; omega⟩
    · split
      · exact h.status 5
      · split
        · have hlt : X.1.done.length - 1 - X.1.undone.length < X.1.done.length := by omega
          have hmem : X.1.done[X.1.done.length - 1 - X.1.undone.length]?.getD 0 ∈ X.1.done := by
            rw [List.getElem?_eq_getElem hlt]
            exact List.getElem_mem hlt
          exact h.put (h.dn _ hmem) (fun e => by cases e)
        · exact h
theorem InvS.back {l : List StepD} {now : Int} {X : AskX} (h : InvS l.length X.1) : InvS l.length (backX l now X).1 := by
  unfold backX
  split
  · exact h
  · exact InvS.backL _ _ (by have := h.ul; omega) h
theorem InvS.on {l : List StepD} {rs : List (List Int)} {now : Int} {X : AskX} (h : InvS l.length X.1) : InvS l.length (onX l rs now X).1 := by
  have hY : InvS l.length (if X.1.status = 1 then forthX l rs now X else X).1 := by
    split
    · exact h.forth
    · exact h
  unfold onX
  dsimp only
  generalize (if X.1.status = 1 then forthX l rs now X else X) = Y at *
  split
  · exact hY.back
  · exact hY
theorem InvS.start {l : List StepD} {rs : List (List Int)} {S : SagD} (h : InvS l.length S) (now : Int) : InvS l.length (startX l rs S now).1 := by
  unfold startX
  split
  · exact InvS.on (X := ({ S with status := 1 }, [])) (h.status 1)
  · exact h
theorem ansR_was {s : StepD} {r : RunD} {now tr o : Int} (h : (ansR s r now tr o).2 = true) : r.1 = 1 := by
  unfold ansR answerT at h
  split at h
  · rename_i h1
    exact h1.1
  · cases h
theorem tickR_was {s : StepD} {r : RunD} {now : Int} (h : (tickR s r now).2 = true) : r.1 = 1 ∨ r.1 = 2 := by
  unfold tickR tickT at h
  split at h
  · split at h
    · rename_i h1
      exact .inl h1
    · split at h
      · rename_i h1
        exact .inr h1
      · cases h
  · cases h
theorem InvS.answer {l : List StepD} {rs : List (List Int)} {S : SagD} (h : InvS l.length S) (k : WayD) (tr o now : Int) : InvS l.length (answerX l rs S k tr o now).1.1 := by
  unfold answerX
  split
  · rename_i hc
    dsimp only
    split
    · rename_i h2
      refine InvS.on (InvS.put (X := (S, [])) h hc.2 (fun _ e => ?_))
      have := ansR_was h2
      dsimp only at e
      omega
    · exact h
  · exact h
theorem waysD_in {n : Nat} {k : WayD} (h : k ∈ waysD n) : 0 ≤ k.1 ∧ k.1 < (n : Int) := by
  unfold waysD at h
  rcases List.mem_append.1 h with h1 | h1
  · obtain ⟨i, hi, rfl⟩ := List.mem_map.1 h1
    have := List.mem_range.1 hi
    exact ⟨by show (0 : Int) ≤ (i : Int); omega, by show (i : Int) < n; omega⟩
  · obtain ⟨i, hi, rfl⟩ := List.mem_map.1 h1
    have := List.mem_range.1 hi
    exact ⟨by show (0 : Int) ≤ (i : Int); omega, by show (i : Int) < n; omega⟩
theorem InvS.tk {n : Nat} {l : List StepD} {now : Int} {X : AskX} {k : WayD} (h : InvS n X.1) (hk : 0 ≤ k.1 ∧ k.1 < (n : Int)) : InvS n (tkX l now X k).1 := by
  unfold tkX
  dsimp only
  split
  · rename_i h2
    refine h.put hk (fun _ e => ?_)
    have := tickR_was h2
    omega
  · exact h
theorem InvS.tks {n : Nat} {l : List StepD} {now : Int} : ∀ (ks : List WayD) (X : AskX), (∀ k ∈ ks, 0 ≤ k.1 ∧ k.1 < (n : Int)) → InvS n X.1 → InvS n (ks.foldl (tkX l now) X).1
  | [], _, _, h => h
  | k :: ks, _X, hk, h => InvS.tks ks _ (fun j hj => hk j (List.mem_cons_of_mem _ hj)) (h.tk (hk k List.mem_cons_self))
theorem InvS.tick {l : List StepD} {rs : List (List Int)} {S : SagD} (h : InvS l.length S) (now : Int) : InvS l.length (tickX l rs S now).1 := by
  unfold tickX
  split
  · exact InvS.on (InvS.tks _ _ (fun k hk => waysD_in hk) h)
  · exact h

/-! A saga that is driven. -/
abbrev SayD := Int × Int × Int × Bool × Int
def saysAt (ss : List SayD) (n : Int) : List SayD := ss.filter fun x => decide (x.1 = n)
def answO (l : List StepD) (rs : List (List Int)) (now : Int) (p : SagD × Int) (x : SayD) : SagD × Int :=
  ((answerX l rs p.1 (x.2.1, x.2.2.2.1) x.2.2.1 x.2.2.2.2 now).1.1, wrap64 (p.2 + ((answerX l rs p.1 (x.2.1, x.2.2.2.1) x.2.2.1 x.2.2.2.2 now).1.2.length : Int)))
def tickO (l : List StepD) (rs : List (List Int)) (now : Int) (p : SagD × Int) : SagD × Int :=
  if 0 < now then ((tickX l rs p.1 now).1, wrap64 (p.2 + ((tickX l rs p.1 now).2.length : Int))) else p
def roundO (l : List StepD) (rs : List (List Int)) (ss : List SayD) (now : Int) (p : SagD × Int) : SagD × Int :=
  tickO l rs now ((saysAt ss now).foldl (answO l rs now) p)
def driveO (l : List StepD) (rs : List (List Int)) (ss : List SayD) : List Nat → Int × SagD × Int → Int × SagD × Int
  | [], p => p
  | n :: ns, p => if overB (roundO l rs ss (n : Int) p.2).1 then ((n : Int), roundO l rs ss (n : Int) p.2) else driveO l rs ss ns ((n : Int), roundO l rs ss (n : Int) p.2)
def beginO (l : List StepD) (rs : List (List Int)) : Int × SagD × Int := (0, (startX l rs newSag 0).1, ((startX l rs newSag 0).2.length : Int))
def driveX (l : List StepD) (rs : List (List Int)) (ss : List SayD) (b : Nat) : Int × Int × Int :=
  ((driveO l rs ss (List.range (b + 1)) (beginO l rs)).2.1.status, (driveO l rs ss (List.range (b + 1)) (beginO l rs)).1, (driveO l rs ss (List.range (b + 1)) (beginO l rs)).2.2)
theorem beginO_inv (l : List StepD) (rs : List (List Int)) : InvS l.length (beginO l rs).2.1 := (InvS.new l.length).start 0

/-! Answers that come twice. -/
end Go.Proofs.YtgfiogjfgbegpaaGreat

/-
  saga.New: contract.
-/
namespace Go.Proofs.YtgfiogjfgbegpaaGreat
open Go Go.RowKit Go.Maps Go.WideShapes

theorem defF_keep {w : World} {N : Nat} {d : DefD} {va : Option Addr} {vc : Nat} {rows : List (List Value)} (hn : d.name.size ≤ maxLen) (ht : d.text.size ≤ maxLen) (h1 : rows.length = d.steps.length) (h2 : w.ownsRow N 47 13 (.slice va d.steps.length vc) d.steps.length rows.flatten) (h3 : ∀ (i : Nat) (r : List Value) (s : StepD), rows[i]? = some r → d.steps[i]? = some s → StepF w N r s) :
    ∀ w' : World, (∀ b, N ≤ b → b < w.heap.size → w'.heap[b]? = w.heap[b]?) → DefR w' [.string d.name, .string d.text, .slice va d.steps.length vc] d va vc :=
  fun _w' hk => ⟨rfl, hn, ht, rows, h1, RdS.of_owns (ownsRow_keepB h2 (fun g hg => hk g (h2.lt g hg).1 (h2.lt g hg).2)), fun i r s hr hs => ((h3 i r s hr hs).keep hk).toX⟩
theorem rowsF_keep {w : World} {B : Nat} {R : List (List Int)} (h : RowsAt w (fun _ => False) B B R) (hl : R.length ≤ 1000) :
    ∀ w' : World, (∀ b, B ≤ b → b < w.heap.size → w'.heap[b]? = w.heap[b]?) → Rows2 w' (.slice (some ⟨B, 0, none⟩) R.length R.length) R := by
  intro w' hk
  obtain ⟨cs, h1, h2, h3, h4, h5⟩ := h
  exact RowsAt.rows2 (S := fun _ => False) (base := B) ⟨cs, h1, (hk B (Nat.le_refl _) (Array.getElem?_eq_some_iff.1 h2).1).trans h2, h3, fun i r c hr hc => ⟨ownsRow_keepB (h4 i r c hr hc).1 (fun g hg => hk g ((h4 i r c hr hc).1.lt g hg).1 ((h4 i r c hr hc).1.lt g hg).2), (h4 i r c hr hc).2⟩, h5⟩ (by omega)
set_option maxRecDepth 100000 in
set_option maxHeartbeats 4000000 in
theorem New_any (d : DefD) (cs : List Value) (sa : Option Addr) (sc : Nat) (w : World) (h : DefR w cs d sa sc) (hs : SmallD d) (hc : cleanB d = true) :
    Calls Tryz.prog 14 #[.agg cs.toArray] w fun e w' => ∃ (k : SagK) (U : Nat → Prop), e = .returned (.tuple #[.pointer (some ⟨k.p, 0, none⟩), .int .i64 0]) ∧ k.d = d ∧ k.rs = depsA d.steps 0 d.steps ∧ SagE w' U k newSag ∧ Below w.heap.size w w' ∧ (∀ j, U j → w.heap.size ≤ j ∧ j < w'.heap.size) := by
  have HCL := Lib.hid (fun W sa sc (hW : DefR W [.string d.name, .string d.text, .slice sa d.steps.length sc] d sa sc) => Clean_any d _ sa sc W hW hs)
  rw [hc] at HCL
  have hn30 := hs.steps
  have HFEW := Lib.hid (refs_few hs)
  have HDL : Hid ((depsA d.steps 0 d.steps).length ≤ 1000) := Lib.hid (by rw [depsA_len]; omega)
  obtain ⟨rfl, hnm, htx, hst⟩ := h
  have hb0 := (Below.refl w.heap.size w).alloc (Nat.le_refl _) (.cells #[.string d.name, .string d.text, .slice sa d.steps.length sc] 24)
  have g0 := World.alloc_heap_new w (.cells #[.string d.name, .string d.text, .slice sa d.steps.length sc] 24)
  have HD0 := Lib.hid (show DefR (w.alloc (.cells #[.string d.name, .string d.text, .slice sa d.steps.length sc] 24)) [.string d.name, .string d.text, .slice sa d.steps.length sc] d sa sc from ⟨rfl, hnm, htx, hst.below hb0⟩)
  have HNM := Lib.hid hnm
  have HTX := Lib.hid htx
  have HS := Lib.hid hs
  have HB := Lib.hid hb0
  have HG := Lib.hid g0
  clear hst hs hb0 g0 hnm htx
  go_enter Tryz.func14, Tryz.ntmps14
  go_upto_region 1 with fail
  generalize w.alloc (.cells #[.string d.name, .string d.text, .slice sa d.steps.length sc] 24) = w0 at *
  obtain ⟨p0, p1, p2, -, -, -⟩ := cells3h HG.out
  go_wp2_with fail
  refine (HCL.out _ _ _ HD0.out).mono ?_
  rintro e w1 ⟨rfl, hb1⟩
  have HB1 := Lib.hid (bthen HB.out (Nat.le_refl _) hb1)
  have HD1 := Lib.hid (HD0.out.below hb1)
  have hg1 := (hb1.block _ (Array.getElem?_eq_some_iff.1 HG.out).1).trans HG.out
  clear p0 p1 p2 hb1
  obtain ⟨p0, p1, p2, -, -, -⟩ := cells3h hg1
  clear hg1
  go_upto_region 3 with fail
  refine E_region (S := (fun W => W.cell? ⟨w.heap.size, 0, none⟩ = some (.string d.name) ∧ W.cell? ⟨w.heap.size, 1, none⟩ = some (.string d.text) ∧ W.cell? ⟨w.heap.size, 2, none⟩ = some (.slice sa d.steps.length sc))) 6 (by kernel_rfl) ⟨p0, p1, p2⟩ (fun _ _ _ _ _ h => h) (fun Q' hQ hK' hHeld => ?_)
  refine E_take hQ hHeld 0 (v := ?va1) rfl rfl (by kernel_rfl) (by kernel_rfl) (by kernel_rfl) (by kernel_rfl) (by kernel_rfl) (by rfl) ?ya1 ?ra1
  case ya1 => (intro w hSw; (try dsimp only at hSw); go_simp; (try with_reducible rfl))
  (try simp only [layE])
  refine E_take hQ hHeld 2 (v := ?va2) rfl rfl (by kernel_rfl) (by kernel_rfl) (by kernel_rfl) (by kernel_rfl) (by kernel_rfl) (by rfl) ?ya2 ?ra2
  case ya2 => (intro w hSw; (try dsimp only at hSw); go_simp; (try with_reducible rfl))
  (try simp only [layE])
  refine E_twoS 1 4 (by kernel_rfl) rfl rfl (by rfl) (by rfl) (fun K hK => ?_) (fun K hK => ?_)
  · skip
    go_simp
    refine (dCopy_any d _ sa sc _ (HD1.out.below (Below.refl w1.heap.size w1).drew) HS.out).mono ?_
    rintro e v1 ⟨va, vc, rows, rfl, hrl, hro, hrs, hb⟩
    have hBv1 : Below w1.heap.size w1 v1 := bthen (Below.refl w1.heap.size w1).drew (Nat.le_refl _) hb
    have hC := hb
    have hCd := defF_keep HNM.out HTX.out hrl hro hrs
    clear hb hrl hro hrs
    (skip)
    refine hK.out _ _ (fun _ _ => ⟨cellB hBv1 p0, cellB hBv1 p1, cellB hBv1 p2⟩) (fun hHeld' => ?_)
    replace hHeld := hHeld' (by rfl) (by decide)
    clear hK hHeld'
    (try simp only [layE])
    refine E_twoS 3 4 (by kernel_rfl) rfl rfl (by rfl) (by rfl) (fun K hK => ?_) (fun K hK => ?_)
    · skip
      go_simp
      refine (nRefsA_any d _ sa sc _ (HD1.out.below hBv1) (by omega) (by have := HFEW.out; omega)).mono ?_
      rintro e v2 ⟨rfl, hra, hb⟩
      have hBv2 : Below w1.heap.size w1 v2 := bthen hBv1 (Nat.le_refl _) hb
      have hR := hb
      have hRd := rowsF_keep hra HDL.out
      clear hb hra
      (skip)
      refine hK.out _ _ (fun _ _ => ⟨cellB hBv2 p0, cellB hBv2 p1, cellB hBv2 p2⟩) (fun hHeld' => ?_)
      replace hHeld := hHeld' (by rfl) (by decide)
      clear hK hHeld'
      (try simp only [layE])
      refine E_one 4 (by kernel_rfl) rfl (by rfl) (fun K hK => ?_)
      go_simp
      change K _ (v2.alloc (.map #[] 0))
      have hm : Below v2.heap.size v2 (v2.alloc (.map #[] 0)) := (Below.refl _ v2).alloc (Nat.le_refl _) _
      have hmap : MapH Tryz.prog 98 encW (v2.alloc (.map #[] 0)) v2.heap.size [] (fun _ => none) := MapH.made Tryz.prog 98 encW v2
      have hml : v2.heap.size < (v2.alloc (.map #[] 0)).heap.size := by simp
      generalize (v2.alloc (.map #[] 0)) = v3 at *
      have hBv3 : Below w1.heap.size w1 v3 := bthen hBv2 (Nat.le_refl _) hm
      (try simp only [layE])
      refine hK.out _ _ (fun _ _ => ⟨cellB hBv3 p0, cellB hBv3 p1, cellB hBv3 p2⟩) (fun hHeld' => ?_)
      replace hHeld := hHeld' (by rfl) (by decide)
      clear hK hHeld'
      (try simp only [layE])
      refine E_take0 hQ (fun _ => hHeld) 5 (v := ?va3) rfl rfl (by kernel_rfl) (by kernel_rfl) (by kernel_rfl) (by decide) (by rfl) ?ya3 ?ra3
      case ya3 => (intro w; go_simp; (try with_reducible rfl))
      (try simp only [layE])
      refine E_one 6 (by kernel_rfl) rfl (by rfl) (fun K hK => ?_)
      go_simp
      (try simp only [layE])
      refine hK.out _ _ (fun _ h => absurd rfl h) (fun _ => ?_)
      clear hK hHeld
      (try simp only [layE])
      refine E_take0 hQ (fun h => absurd h (by decide)) 7 (v := ?va4) rfl rfl (by kernel_rfl) (by kernel_rfl) (by kernel_rfl) (by decide) (by rfl) ?ya4 ?ra4
      case ya4 => (intro w; go_simp; (try with_reducible rfl))
      (try simp only [layE])
      refine E_take0 hQ (fun h => absurd h (by decide)) 8 (v := ?va5) rfl rfl (by kernel_rfl) (by kernel_rfl) (by kernel_rfl) (by decide) (by rfl) ?ya5 ?ra5
      case ya5 => (intro w; go_simp; (try with_reducible rfl))
      (try simp only [layE])
      refine E_done (by kernel_rfl) ?_ _
      refine hK'.out _ _ ?_
      clear hK'
      have hkc := bthen (hR) (Nat.le_refl _) hm
      have hkr := hm
      have hkm := Below.refl v3.heap.size v3
      have hz1 := hC.size
      have hz2 := hR.size
      have hz3 := hm.size
      have hb4 : Below v3.heap.size v3 (v3.alloc (.cells #[.string d.name, .string d.text, .slice va d.steps.length vc, .slice (some ⟨v1.heap.size + 1, 0, none⟩) d.steps.length d.steps.length, .map (some v2.heap.size), .slice none 0 0, .slice none 0 0, .int .u8 0] 91)) := (Below.refl _ _).alloc (Nat.le_refl _) _
      have g4 := World.alloc_heap_new v3 (.cells #[.string d.name, .string d.text, .slice va d.steps.length vc, .slice (some ⟨v1.heap.size + 1, 0, none⟩) d.steps.length d.steps.length, .map (some v2.heap.size), .slice none 0 0, .slice none 0 0, .int .u8 0] 91)
      have hs4 : (v3.alloc (.cells #[.string d.name, .string d.text, .slice va d.steps.length vc, .slice (some ⟨v1.heap.size + 1, 0, none⟩) d.steps.length d.steps.length, .map (some v2.heap.size), .slice none 0 0, .slice none 0 0, .int .u8 0] 91)).heap.size = v3.heap.size + 1 := by simp
      have hdl : (depsA d.steps 0 d.steps).length = d.steps.length := depsA_len _ _ _
      rw [hdl] at hRd
      generalize v3.alloc (.cells #[.string d.name, .string d.text, .slice va d.steps.length vc, .slice (some ⟨v1.heap.size + 1, 0, none⟩) d.steps.length d.steps.length, .map (some v2.heap.size), .slice none 0 0, .slice none 0 0, .int .u8 0] 91) = v4 at *
      have hsc := hkc.size
      have hsr := hkr.size
      have hsm := hkm.size
      have hw1 : w1.drew.heap.size = w1.heap.size := rfl
      have HSR : Hid (SagR v4 (fun j => j = v3.heap.size ∨ j = v2.heap.size) v3.heap.size (v2.heap.size) va vc (.slice (some ⟨v1.heap.size + 1, 0, none⟩) d.steps.length d.steps.length) d (depsA d.steps 0 d.steps) v3.heap.size none 0 none 0 newSag) := Lib.hid ⟨g4,
        ⟨by omega, fun w' hw => hCd w' (fun b hlo hhi => (hw b (by omega) (fun e => e.elim (fun e => by omega) (fun e => by omega))).trans ((hb4.block b (by omega)).trans (hkc.block b hhi)))⟩,
        ⟨by omega, fun w' hw => hRd w' (fun b hlo hhi => (hw b (by omega) (fun e => e.elim (fun e => by omega) (fun e => by omega))).trans ((hb4.block b (by omega)).trans (hkr.block b hhi)))⟩,
        ⟨[], fun _ => none, hmap.block ((hb4.block _ (by omega)).trans (hkm.block _ hml)), fun _ => rfl, fun _ e => absurd e List.not_mem_nil⟩,
        World.ownsRow_nil _ _ _ _, World.ownsRow_nil _ _ _ _, (fun g e => by cases e), .inl rfl, .inr rfl, (fun g e => by cases e), (fun g e => by cases e)⟩
      have hB4 : Below w1.heap.size w1 v4 := bthen hBv3 (Nat.le_refl _) hb4
      have HB4 := Lib.hid (HB1.out.trans (hB4.mono HB1.out.size))
      have hsw := HB1.out.size
      have hs1 := hBv3.size
      have HLT : Hid (∀ j, (j = v3.heap.size ∨ j = v2.heap.size) → w.heap.size ≤ j ∧ j < v4.heap.size) := Lib.hid (fun j hj => hj.elim (fun e => ⟨by omega, by omega⟩) (fun e => ⟨by omega, by omega⟩))
      clear hkc hkr hkm hb4 g4 hs4 hdl hCd hRd hmap hm hC hR hsc hsr hsm hB4
      go_wp2_with fail
      refine bodyPost_ret (results_tmp2 rfl _ _ _) rfl ?_
      exact ⟨⟨v3.heap.size, v2.heap.size, va, vc, .slice (some ⟨v1.heap.size + 1, 0, none⟩) d.steps.length d.steps.length, d, depsA d.steps 0 d.steps, v3.heap.size⟩, fun j => j = v3.heap.size ∨ j = v2.heap.size, rfl, rfl, rfl, ⟨none, 0, none, 0, HSR.out⟩, HB4.out, HLT.out⟩
    · skip
      go_simp
      change K _ (v1.alloc (.map #[] 0))
      have hm : Below v1.heap.size v1 (v1.alloc (.map #[] 0)) := (Below.refl _ v1).alloc (Nat.le_refl _) _
      have hmap : MapH Tryz.prog 98 encW (v1.alloc (.map #[] 0)) v1.heap.size [] (fun _ => none) := MapH.made Tryz.prog 98 encW v1
      have hml : v1.heap.size < (v1.alloc (.map #[] 0)).heap.size := by simp
      generalize (v1.alloc (.map #[] 0)) = v2 at *
      have hBv2 : Below w1.heap.size w1 v2 := bthen hBv1 (Nat.le_refl _) hm
      (try simp only [layE])
      refine hK.out _ _ (fun _ _ => ⟨cellB hBv2 p0, cellB hBv2 p1, cellB hBv2 p2⟩) (fun hHeld' => ?_)
      replace hHeld := hHeld' (by rfl) (by decide)
      clear hK hHeld'
      (try simp only [layE])
      refine E_one 3 (by kernel_rfl) rfl (by rfl) (fun K hK => ?_)
      go_simp
      refine (nRefsA_any d _ sa sc _ (HD1.out.below hBv2) (by omega) (by have := HFEW.out; omega)).mono ?_
      rintro e v3 ⟨rfl, hra, hb⟩
      have hBv3 : Below w1.heap.size w1 v3 := bthen hBv2 (Nat.le_refl _) hb
      have hR := hb
      have hRd := rowsF_keep hra HDL.out
      clear hb hra
      (skip)
      refine hK.out _ _ (fun _ _ => ⟨cellB hBv3 p0, cellB hBv3 p1, cellB hBv3 p2⟩) (fun hHeld' => ?_)
      replace hHeld := hHeld' (by rfl) (by decide)
      clear hK hHeld'
      (try simp only [layE])
      refine E_take0 hQ (fun _ => hHeld) 5 (v := ?va6) rfl rfl (by kernel_rfl) (by kernel_rfl) (by kernel_rfl) (by decide) (by rfl) ?ya6 ?ra6
      case ya6 => (intro w; go_simp; (try with_reducible rfl))
      (try simp only [layE])
      refine E_one 6 (by kernel_rfl) rfl (by rfl) (fun K hK => ?_)
      go_simp
      (try simp only [layE])
      refine hK.out _ _ (fun _ h => absurd rfl h) (fun _ => ?_)
      clear hK hHeld
      (try simp only [layE])
      refine E_take0 hQ (fun h => absurd h (by decide)) 7 (v := ?va7) rfl rfl (by kernel_rfl) (by kernel_rfl) (by kernel_rfl) (by decide) (by rfl) ?ya7 ?ra7
      case ya7 => (intro w; go_simp; (try with_reducible rfl))
      (try simp only [layE])
      refine E_take0 hQ (fun h => absurd h (by decide)) 8 (v := ?va8) rfl rfl (by kernel_rfl) (by kernel_rfl) (by kernel_rfl) (by decide) (by rfl) ?ya8 ?ra8
      case ya8 => (intro w; go_simp; (try with_reducible rfl))
      (try simp only [layE])
      refine E_done (by kernel_rfl) ?_ _
      refine hK'.out _ _ ?_
      clear hK'
      have hkc := bthen (hm) (Nat.le_refl _) hR
      have hkr := Below.refl v3.heap.size v3
      have hkm := hR
      have hz1 := hC.size
      have hz2 := hm.size
      have hz3 := hR.size
      have hb4 : Below v3.heap.size v3 (v3.alloc (.cells #[.string d.name, .string d.text, .slice va d.steps.length vc, .slice (some ⟨v2.heap.size + 1, 0, none⟩) d.steps.length d.steps.length, .map (some v1.heap.size), .slice none 0 0, .slice none 0 0, .int .u8 0] 91)) := (Below.refl _ _).alloc (Nat.le_refl _) _
      have g4 := World.alloc_heap_new v3 (.cells #[.string d.name, .string d.text, .slice va d.steps.length vc, .slice (some ⟨v2.heap.size + 1, 0, none⟩) d.steps.length d.steps.length, .map (some v1.heap.size), .slice none 0 0, .slice none 0 0, .int .u8 0] 91)
      have hs4 : (v3.alloc (.cells #[.string d.name, .string d.text, .slice va d.steps.length vc, .slice (some ⟨v2.heap.size + 1, 0, none⟩) d.steps.length d.steps.length, .map (some v1.heap.size), .slice none 0 0, .slice none 0 0, .int .u8 0] 91)).heap.size = v3.heap.size + 1 := by simp
      have hdl : (depsA d.steps 0 d.steps).length = d.steps.length := depsA_len _ _ _
      rw [hdl] at hRd
      generalize v3.alloc (.cells #[.string d.name, .string d.text, .slice va d.steps.length vc, .slice (some ⟨v2.heap.size + 1, 0, none⟩) d.steps.length d.steps.length, .map (some v1.heap.size), .slice none 0 0, .slice none 0 0, .int .u8 0] 91) = v4 at *
      have hsc := hkc.size
      have hsr := hkr.size
      have hsm := hkm.size
      have hw1 : w1.drew.heap.size = w1.heap.size := rfl
      have HSR : Hid (SagR v4 (fun j => j = v3.heap.size ∨ j = v1.heap.size) v3.heap.size (v1.heap.size) va vc (.slice (some ⟨v2.heap.size + 1, 0, none⟩) d.steps.length d.steps.length) d (depsA d.steps 0 d.steps) v3.heap.size none 0 none 0 newSag) := Lib.hid ⟨g4,
        ⟨by omega, fun w' hw => hCd w' (fun b hlo hhi => (hw b (by omega) (fun e => e.elim (fun e => by omega) (fun e => by omega))).trans ((hb4.block b (by omega)).trans (hkc.block b hhi)))⟩,
        ⟨by omega, fun w' hw => hRd w' (fun b hlo hhi => (hw b (by omega) (fun e => e.elim (fun e => by omega) (fun e => by omega))).trans ((hb4.block b (by omega)).trans (hkr.block b hhi)))⟩,
        ⟨[], fun _ => none, hmap.block ((hb4.block _ (by omega)).trans (hkm.block _ hml)), fun _ => rfl, fun _ e => absurd e List.not_mem_nil⟩,
        World.ownsRow_nil _ _ _ _, World.ownsRow_nil _ _ _ _, (fun g e => by cases e), .inl rfl, .inr rfl, (fun g e => by cases e), (fun g e => by cases e)⟩
      have hB4 : Below w1.heap.size w1 v4 := bthen hBv3 (Nat.le_refl _) hb4
      have HB4 := Lib.hid (HB1.out.trans (hB4.mono HB1.out.size))
      have hsw := HB1.out.size
      have hs1 := hBv3.size
      have HLT : Hid (∀ j, (j = v3.heap.size ∨ j = v1.heap.size) → w.heap.size ≤ j ∧ j < v4.heap.size) := Lib.hid (fun j hj => hj.elim (fun e => ⟨by omega, by omega⟩) (fun e => ⟨by omega, by omega⟩))
      clear hkc hkr hkm hb4 g4 hs4 hdl hCd hRd hmap hm hC hR hsc hsr hsm hB4
      go_wp2_with fail
      refine bodyPost_ret (results_tmp2 rfl _ _ _) rfl ?_
      exact ⟨⟨v3.heap.size, v1.heap.size, va, vc, .slice (some ⟨v2.heap.size + 1, 0, none⟩) d.steps.length d.steps.length, d, depsA d.steps 0 d.steps, v3.heap.size⟩, fun j => j = v3.heap.size ∨ j = v1.heap.size, rfl, rfl, rfl, ⟨none, 0, none, 0, HSR.out⟩, HB4.out, HLT.out⟩
  · skip
    go_simp
    change K _ ((w1.alloc (.map #[] 0)).drew)
    have hm : Below w1.heap.size w1 ((w1.alloc (.map #[] 0)).drew) := ((Below.refl _ w1).alloc (Nat.le_refl _) _).drew
    have hmap : MapH Tryz.prog 98 encW ((w1.alloc (.map #[] 0)).drew) w1.heap.size [] (fun _ => none) := (MapH.made Tryz.prog 98 encW w1).block rfl
    have hml : w1.heap.size < ((w1.alloc (.map #[] 0)).drew).heap.size := by simp
    generalize ((w1.alloc (.map #[] 0)).drew) = v1 at *
    have hBv1 : Below w1.heap.size w1 v1 := hm
    (try simp only [layE])
    refine hK.out _ _ (fun _ _ => ⟨cellB hBv1 p0, cellB hBv1 p1, cellB hBv1 p2⟩) (fun hHeld' => ?_)
    replace hHeld := hHeld' (by rfl) (by decide)
    clear hK hHeld'
    (try simp only [layE])
    refine E_one 1 (by kernel_rfl) rfl (by rfl) (fun K hK => ?_)
    go_simp
    refine (dCopy_any d _ sa sc _ (HD1.out.below hBv1) HS.out).mono ?_
    rintro e v2 ⟨va, vc, rows, rfl, hrl, hro, hrs, hb⟩
    have hBv2 : Below w1.heap.size w1 v2 := bthen hBv1 (Nat.le_refl _) hb
    have hC := hb
    have hCd := defF_keep HNM.out HTX.out hrl hro hrs
    clear hb hrl hro hrs
    (skip)
    refine hK.out _ _ (fun _ _ => ⟨cellB hBv2 p0, cellB hBv2 p1, cellB hBv2 p2⟩) (fun hHeld' => ?_)
    replace hHeld := hHeld' (by rfl) (by decide)
    clear hK hHeld'
    (try simp only [layE])
    refine E_one 3 (by kernel_rfl) rfl (by rfl) (fun K hK => ?_)
    go_simp
    refine (nRefsA_any d _ sa sc _ (HD1.out.below hBv2) (by omega) (by have := HFEW.out; omega)).mono ?_
    rintro e v3 ⟨rfl, hra, hb⟩
    have hBv3 : Below w1.heap.size w1 v3 := bthen hBv2 (Nat.le_refl _) hb
    have hR := hb
    have hRd := rowsF_keep hra HDL.out
    clear hb hra
    (skip)
    refine hK.out _ _ (fun _ _ => ⟨cellB hBv3 p0, cellB hBv3 p1, cellB hBv3 p2⟩) (fun hHeld' => ?_)
    replace hHeld := hHeld' (by rfl) (by decide)
    clear hK hHeld'
    (try simp only [layE])
    refine E_take0 hQ (fun _ => hHeld) 5 (v := ?va9) rfl rfl (by kernel_rfl) (by kernel_rfl) (by kernel_rfl) (by decide) (by rfl) ?ya9 ?ra9
    case ya9 => (intro w; go_simp; (try with_reducible rfl))
    (try simp only [layE])
    refine E_one 6 (by kernel_rfl) rfl (by rfl) (fun K hK => ?_)
    go_simp
    (try simp only [layE])
    refine hK.out _ _ (fun _ h => absurd rfl h) (fun _ => ?_)
    clear hK hHeld
    (try simp only [layE])
    refine E_take0 hQ (fun h => absurd h (by decide)) 7 (v := ?va10) rfl rfl (by kernel_rfl) (by kernel_rfl) (by kernel_rfl) (by decide) (by rfl) ?ya10 ?ra10
    case ya10 => (intro w; go_simp; (try with_reducible rfl))
    (try simp only [layE])
    refine E_take0 hQ (fun h => absurd h (by decide)) 8 (v := ?va11) rfl rfl (by kernel_rfl) (by kernel_rfl) (by kernel_rfl) (by decide) (by rfl) ?ya11 ?ra11
    case ya11 => (intro w; go_simp; (try with_reducible rfl))
    (try simp only [layE])
    refine E_done (by kernel_rfl) ?_ _
    refine hK'.out _ _ ?_
    clear hK'
    have hkc := hR
    have hkr := Below.refl v3.heap.size v3
    have hkm := bthen (hC) (Nat.le_refl _) hR
    have hz1 := hm.size
    have hz2 := hC.size
    have hz3 := hR.size
    have hb4 : Below v3.heap.size v3 (v3.alloc (.cells #[.string d.name, .string d.text, .slice va d.steps.length vc, .slice (some ⟨v2.heap.size + 1, 0, none⟩) d.steps.length d.steps.length, .map (some w1.heap.size), .slice none 0 0, .slice none 0 0, .int .u8 0] 91)) := (Below.refl _ _).alloc (Nat.le_refl _) _
    have g4 := World.alloc_heap_new v3 (.cells #[.string d.name, .string d.text, .slice va d.steps.length vc, .slice (some ⟨v2.heap.size + 1, 0, none⟩) d.steps.length d.steps.length, .map (some w1.heap.size), .slice none 0 0, .slice none 0 0, .int .u8 0] 91)
    have hs4 : (v3.alloc (.cells #[.string d.name, .string d.text, .slice va d.steps.length vc, .slice (some ⟨v2.heap.size + 1, 0, none⟩) d.steps.length d.steps.length, .map (some w1.heap.size), .slice none 0 0, .slice none 0 0, .int .u8 0] 91)).heap.size = v3.heap.size + 1 := by simp
    have hdl : (depsA d.steps 0 d.steps).length = d.steps.length := depsA_len _ _ _
    rw [hdl] at hRd
    generalize v3.alloc (.cells #[.string d.name, .string d.text, .slice va d.steps.length vc, .slice (some ⟨v2.heap.size + 1, 0, none⟩) d.steps.length d.steps.length, .map (some w1.heap.size), .slice none 0 0, .slice none 0 0, .int .u8 0] 91) = v4 at *
    have hsc := hkc.size
    have hsr := hkr.size
    have hsm := hkm.size
    have hw1 : w1.drew.heap.size = w1.heap.size := rfl
    have HSR : Hid (SagR v4 (fun j => j = v3.heap.size ∨ j = w1.heap.size) v3.heap.size (w1.heap.size) va vc (.slice (some ⟨v2.heap.size + 1, 0, none⟩) d.steps.length d.steps.length) d (depsA d.steps 0 d.steps) v3.heap.size none 0 none 0 newSag) := Lib.hid ⟨g4,
      ⟨by omega, fun w' hw => hCd w' (fun b hlo hhi => (hw b (by omega) (fun e => e.elim (fun e => by omega) (fun e => by omega))).trans ((hb4.block b (by omega)).trans (hkc.block b hhi)))⟩,
      ⟨by omega, fun w' hw => hRd w' (fun b hlo hhi => (hw b (by omega) (fun e => e.elim (fun e => by omega) (fun e => by omega))).trans ((hb4.block b (by omega)).trans (hkr.block b hhi)))⟩,
      ⟨[], fun _ => none, hmap.block ((hb4.block _ (by omega)).trans (hkm.block _ hml)), fun _ => rfl, fun _ e => absurd e List.not_mem_nil⟩,
      World.ownsRow_nil _ _ _ _, World.ownsRow_nil _ _ _ _, (fun g e => by cases e), .inl rfl, .inr rfl, (fun g e => by cases e), (fun g e => by cases e)⟩
    have hB4 : Below w1.heap.size w1 v4 := bthen hBv3 (Nat.le_refl _) hb4
    have HB4 := Lib.hid (HB1.out.trans (hB4.mono HB1.out.size))
    have hsw := HB1.out.size
    have hs1 := hBv3.size
    have HLT : Hid (∀ j, (j = v3.heap.size ∨ j = w1.heap.size) → w.heap.size ≤ j ∧ j < v4.heap.size) := Lib.hid (fun j hj => hj.elim (fun e => ⟨by omega, by omega⟩) (fun e => ⟨by omega, by omega⟩))
    clear hkc hkr hkm hb4 g4 hs4 hdl hCd hRd hmap hm hC hR hsc hsr hsm hB4
    go_wp2_with fail
    refine bodyPost_ret (results_tmp2 rfl _ _ _) rfl ?_
    exact ⟨⟨v3.heap.size, w1.heap.size, va, vc, .slice (some ⟨v2.heap.size + 1, 0, none⟩) d.steps.length d.steps.length, d, depsA d.steps 0 d.steps, v3.heap.size⟩, fun j => j = v3.heap.size ∨ j = w1.heap.size, rfl, rfl, rfl, ⟨none, 0, none, 0, HSR.out⟩, HB4.out, HLT.out⟩
end Go.Proofs.YtgfiogjfgbegpaaGreat

/-
  reach.each: what lies in memory while it hands over the ticks with their answers.
-/
namespace Go.Proofs.YtgfiogjfgbegpaaGreat
open Go Go.RowKit Go.Maps Go.WideShapes

def sayC (x : SayD) : List Value := [.int .i64 x.1, .int .i64 x.2.1, .int .i64 x.2.2.1, .bool x.2.2.2.1, .int .u8 x.2.2.2.2]
def flatS (l : List SayD) : List Value := l.flatMap sayC
theorem flatS_snoc (l : List SayD) (x : SayD) : flatS (l ++ [x]) = flatS l ++ sayC x := by
  unfold flatS
  rw [List.flatMap_append, List.flatMap_cons, List.flatMap_nil, List.append_nil]
theorem flatS_get : ∀ (l : List SayD) (j : Nat) (hj : j < l.length) (c : Nat) (_ : c < 5), (flatS l)[j * 5 + c]? = (sayC l[j])[c]?
  | [], j, hj, _, _ => by simp at hj
  | a :: l, 0, _, c, hc => by
    show (sayC a ++ flatS l)[_]? = _
    rw [List.getElem?_append_left (by show _ < 5; omega)]
    simp
  | a :: l, j + 1, hj, c, hc => by
    show (sayC a ++ flatS l)[_]? = _
    rw [List.getElem?_append_right (by show 5 ≤ _; omega)]
    have h5 : (j + 1) * 5 + c - (sayC a).length = j * 5 + c := by show (j + 1) * 5 + c - 5 = _; omega
    rw [h5, flatS_get l j (by simpa using hj) c hc]
    simp
theorem says_at {W : World} {v : Value} {l : List SayD} (h : RdS W v 5 l.length (flatS l)) {j : Nat} (hj : j < l.length) :
    ∃ g off cap, v = .slice (some ⟨g, off, none⟩) l.length cap ∧ W.cell? ⟨g, off + j * 5, none⟩ = some (.int .i64 l[j].1) ∧ W.cell? ⟨g, off + j * 5 + 1, none⟩ = some (.int .i64 l[j].2.1) ∧ W.cell? ⟨g, off + j * 5 + 2, none⟩ = some (.int .i64 l[j].2.2.1) ∧ W.cell? ⟨g, off + j * 5 + 3, none⟩ = some (.bool l[j].2.2.2.1) ∧ W.cell? ⟨g, off + j * 5 + 4, none⟩ = some (.int .u8 l[j].2.2.2.2) := by
  obtain ⟨h1, a, cap, rfl, hn, hc, hh⟩ := h
  rcases hh with e | ⟨g, off, rfl, hat⟩
  · rw [e] at h1
    simp at h1
    omega
  · refine ⟨g, off, cap, rfl, hat (j * 5) _ ?_, hat (j * 5 + 1) _ ?_, hat (j * 5 + 2) _ ?_, hat (j * 5 + 3) _ ?_, hat (j * 5 + 4) _ ?_⟩
    · exact flatS_get l j hj 0 (by decide)
    · exact flatS_get l j hj 1 (by decide)
    · exact flatS_get l j hj 2 (by decide)
    · exact flatS_get l j hj 3 (by decide)
    · exact flatS_get l j hj 4 (by decide)
def encAt (x : Int) : Value := .int .i64 x
theorem Tryz.keyAt : KeyH Tryz.prog 2 25 120 Int encAt I64w (.slice none 0 0) where
  keyed := int_keyed Tryz.underlying2
  map := Tryz.underlying120
  zero := fun w => by kernel_rfl
  inj := fun {x y} h => by
    injection h
  key := fun {x} h => ⟨_, keyOf_int_mk Tryz.underlying2 (i64_wf h)⟩
theorem saysAt_snoc (l : List SayD) (x : SayD) (n : Int) : saysAt (l ++ [x]) n = if n = x.1 then saysAt l n ++ [x] else saysAt l n := by
  unfold saysAt
  rw [List.filter_append]
  by_cases h : n = x.1
  · rw [if_pos h, List.filter_cons_of_pos (by simp [h])]
    rfl
  · rw [if_neg h, List.filter_cons_of_neg (by simpa using fun e => h e.symm)]
    simp
theorem saysAt_len (l : List SayD) (n : Int) : (saysAt l n).length ≤ l.length := List.length_filter_le _ _
structure ByR (w : World) (B m : Nat) (gv : Int → Value) (done : List SayD) : Prop where
  map : ∃ (L : List Int) (g : Int → Option Value), MapH Tryz.prog 2 encAt w m L g ∧ L.length ≤ done.length ∧ ∀ x, (g x).getD (.slice none 0 0) = gv x
  hm : B ≤ m
  row : ∀ x, ∃ a c, gv x = .slice a (saysAt done x).length c ∧ w.ownsRow B 32 5 (.slice a (saysAt done x).length c) (saysAt done x).length (flatS (saysAt done x))
  apart : ∀ x y q, x ≠ y → (gv x).ownBlock = some q → (gv y).ownBlock ≠ some q
theorem ByR.made (w : World) : ByR (w.alloc (.map #[] 0)) w.heap.size w.heap.size (fun _ => .slice none 0 0) [] :=
  ⟨⟨[], fun _ => none, MapH.made _ _ _ w, Nat.le_refl _, fun _ => rfl⟩, Nat.le_refl _, fun x => ⟨none, 0, rfl, World.ownsRow_nil _ _ _ _⟩, fun _ _ _ _ h => by cases h⟩
theorem ByR.ltm {w : World} {B m : Nat} {gv : Int → Value} {done : List SayD} (h : ByR w B m gv done) : m < w.heap.size := by
  obtain ⟨L, g, h1, _⟩ := h.map
  exact h1.lt
theorem ByR.keep {w w' : World} {B m : Nat} {gv : Int → Value} {done : List SayD} (h : ByR w B m gv done) (hk : ∀ j, B ≤ j → j < w.heap.size → w'.heap[j]? = w.heap[j]?) : ByR w' B m gv done := by
  obtain ⟨L, g, h1, h2, h3⟩ := h.map
  refine ⟨⟨L, g, h1.block (hk m h.hm h1.lt), h2, h3⟩, h.hm, fun x => ?_, h.apart⟩
  obtain ⟨a, c, e, hr⟩ := h.row x
  exact ⟨a, c, e, ownsRow_keepB hr (fun g hg => hk g (hr.lt g hg).1 (hr.lt g hg).2)⟩
theorem ByR.keepS {w w' : World} {B m : Nat} {gv : Int → Value} {done : List SayD} (h : ByR w B m gv done) (hk : ∀ j, (j = m ∨ ∃ x, (gv x).ownBlock = some j) → w'.heap[j]? = w.heap[j]?) : ByR w' B m gv done := by
  obtain ⟨L, g, h1, h2, h3⟩ := h.map
  refine ⟨⟨L, g, h1.block (hk m (.inl rfl)), h2, h3⟩, h.hm, fun x => ?_, h.apart⟩
  obtain ⟨a, c, e, hr⟩ := h.row x
  exact ⟨a, c, e, ownsRow_keepB hr (fun g hg => hk g (.inr ⟨x, by rw [e]; exact hg⟩))⟩
theorem ByR.below {w w' : World} {B m : Nat} {gv : Int → Value} {done : List SayD} (h : ByR w B m gv done) (hb : Below w.heap.size w w') : ByR w' B m gv done := h.keep (fun j _ hj => hb.block j hj)
theorem ByR.look {w : World} {B m : Nat} {gv : Int → Value} {done : List SayD} (h : ByR w B m gv done) {x : Int} (hx : I64w x) :
    (Instr.lookup 120 (.map (some m)) (.int .i64 x) false).run Tryz.prog w = .ok (gv x) w := by
  obtain ⟨L, g, h1, h2, h3⟩ := h.map
  have := h1.look Tryz.keyAt (x := x) hx
  rw [h3] at this
  exact this
theorem ByR.look_keep {w w' : World} {B m : Nat} {gv : Int → Value} {done : List SayD} (h : ByR w B m gv done) (hk : w'.heap[m]? = w.heap[m]?) {x : Int} (hx : I64w x) :
    (Instr.lookup 120 (.map (some m)) (.int .i64 x) false).run Tryz.prog w' = .ok (gv x) w' := by
  obtain ⟨L, g, h1, h2, h3⟩ := h.map
  have := (h1.block hk).look Tryz.keyAt (x := x) hx
  rw [h3] at this
  exact this
theorem ByR.nem {w : World} {B m : Nat} {gv : Int → Value} {done : List SayD} (h : ByR w B m gv done) {q : Nat} {c : Array Value} {ty : TypeId} {fr : Nat × Nat} (hq : w.heap[q]? = some (.cells c ty fr)) : q ≠ m := by
  obtain ⟨L, g, h1, _⟩ := h.map
  exact h1.ne hq
theorem ByR.rowm {w : World} {B m : Nat} {gv : Int → Value} {done : List SayD} (h : ByR w B m gv done) (x : Int) : (gv x).ownBlock ≠ some m := by
  obtain ⟨a, c, e, hr⟩ := h.row x
  rw [e]
  intro e2
  obtain ⟨cur, hc⟩ := owns_cells hr e2
  exact h.nem hc rfl
theorem ByR.push {w w6 w7 : World} {B m : Nat} {gv : Int → Value} {done : List SayD} (h : ByR w B m gv done) (x : SayD) (hx : I64w x.1) (hl : done.length ≤ 1000000) (hb6 : Below w.heap.size w w6) {v7 : Value}
    (ho : w7.ownsRow B 32 5 v7 ((saysAt done x.1).length + 1) (flatS (saysAt done x.1) ++ sayC x)) (hg : w6.grownBy w7 (gv x.1).ownBlock) (hf : Fresh w6 (gv x.1) v7) :
    ∃ w8, (Instr.mapUpdate 120 (.map (some m)) (.int .i64 x.1) v7).run Tryz.prog w7 = .ok () w8 ∧ ByR w8 B m (fun y => if y = x.1 then v7 else gv y) (done ++ [x]) ∧ (B ≤ w.heap.size → Below B w w8) ∧ (∀ j, j < w.heap.size → j < B → w8.heap[j]? = w.heap[j]?) := by
  have h6 := h.below hb6
  have hm6 := h6.ltm
  have hs6 := hb6.size
  have hmb := h.rowm x.1
  obtain ⟨L, g, h1, h2, h3⟩ := h6.map
  have h17 := h1.block (hg.block m hm6 (fun e => hmb e.symm))
  obtain ⟨w8, hr, h4, h5, h7, h8⟩ := h17.store Tryz.keyAt (by unfold maxLen; omega) (x := x.1) hx v7
  have hrow7 : ∀ y, y ≠ x.1 → ∀ q, (gv y).ownBlock = some q → w7.heap[q]? = w6.heap[q]? := fun y hy q hq => by
    obtain ⟨a, c, e, hro⟩ := h6.row y
    have := hro.lt q (by rw [← e]; exact hq)
    exact hg.block q this.2 (fun e2 => h.apart y x.1 q hy hq e2.symm)
  have hne7 : ∀ q, v7.ownBlock = some q → q ≠ m := fun q hq e => by
    obtain ⟨cur, hc⟩ := owns_cells ho hq
    exact h17.ne hc e
  refine ⟨w8, hr, ⟨⟨_, _, h4, ?_, fun y => ?_⟩, h.hm, fun y => ?_, fun y z q hyz hq => ?_⟩, fun hB => ?_, ?_⟩
  · rw [List.length_append]
    unfold putK
    split
    · omega
    · rw [List.length_append]
      simp only [List.length_cons, List.length_nil]
      omega
  · split
    · rfl
    · exact h3 y
  · rw [saysAt_snoc]
    by_cases hy : y = x.1
    · subst hy
      rw [if_pos rfl, if_pos rfl]
      obtain ⟨a, c, e⟩ := (RdS.of_owns ho).form
      subst e
      refine ⟨a, c, by rw [List.length_append]; rfl, ?_⟩
      rw [List.length_append, flatS_snoc]
      exact ownsRow_keepB ho (fun q hq => h8 q (hne7 q hq))
    · rw [if_neg hy, if_neg hy]
      obtain ⟨a, c, e, hro⟩ := h6.row y
      refine ⟨a, c, e, ownsRow_keepB hro (fun q hq => (h8 q (fun e2 => ?_)).trans (hrow7 y hy q (by rw [e]; exact hq)))⟩
      obtain ⟨cur, hc⟩ := owns_cells hro hq
      exact h6.nem hc e2
  · have hgt : ∀ y' q', (gv y').ownBlock = some q' → q' < w6.heap.size := fun y' q' hq' => by
      obtain ⟨a, c, e, hro⟩ := h6.row y'
      exact (hro.lt q' (by rw [← e]; exact hq')).2
    (try dsimp only at hq ⊢)
    by_cases hy : y = x.1
    · rw [if_pos hy] at hq
      have hz : z ≠ x.1 := fun e => hyz (hy.trans e.symm)
      rw [if_neg hz]
      intro hq2
      rcases hf q hq with e | e
      · exact h.apart x.1 z q (fun e2 => hz e2.symm) e hq2
      · have := hgt z q hq2
        omega
    · rw [if_neg hy] at hq
      by_cases hz : z = x.1
      · rw [if_pos hz]
        intro hq2
        rcases hf q hq2 with e | e
        · exact h.apart y x.1 q hy hq e
        · have := hgt y q hq
          omega
      · rw [if_neg hz]
        exact h.apart y z q hyz hq
  · have hr6 : ∀ q, (gv x.1).ownBlock = some q → B ≤ q := fun q hq => by
      obtain ⟨a, c, e, hro⟩ := h6.row x.1
      exact (hro.lt q (by rw [← e]; exact hq)).1
    exact ((hb6.mono hB).grown hg (by omega) hr6).trans (h5.mono h.hm)
  · intro j hj hjB
    have hr6 : (gv x.1).ownBlock ≠ some j := fun e2 => by
      obtain ⟨a, c, e, hro⟩ := h6.row x.1
      have := (hro.lt j (by rw [← e]; exact e2)).1
      omega
    have hjm := h.hm
    exact (h8 j (by omega)).trans ((hg.block j (by omega) (fun e => hr6 e.symm)).trans (hb6.block j hj))
def EachE (ss : List SayD) (S : Nat → Prop) (x : Nat) (args : Array Value) (W : World) : Prop :=
  ∃ (a : Option Addr) (c : Nat), args = #[.int .i64 (x : Int), .slice a (saysAt ss x).length c] ∧ W.ownsRow 0 32 5 (.slice a (saysAt ss x).length c) (saysAt ss x).length (flatS (saysAt ss x)) ∧ ∀ g, (Value.slice a (saysAt ss x).length c).ownBlock = some g → S g
end Go.Proofs.YtgfiogjfgbegpaaGreat

/-
  Definitions that are clean (no program): what is true of them.
-/
namespace Go.Proofs.YtgfiogjfgbegpaaGreat
open Go Go.RowKit

theorem len_none {l : List DiagD} (h : (sortD l).length = 0) : l = [] := sort_none (by omega)
theorem clean_parts {d : DefD} (h : cleanB d = true) : chkN d = [] ∧ chkU d.steps d.steps.length (chkR 0 d.steps []) = [] ∧ rndG d = [] := by
  unfold cleanB at h
  simp only [Bool.and_eq_true, decide_eq_true_eq] at h
  have h1 := len_none h.1
  have e : gatP d 3 = sortD (chkN d) ++ sortD (chkU d.steps d.steps.length (chkR 0 d.steps [])) ++ rndG d := rfl
  rw [e, List.append_eq_nil_iff, List.append_eq_nil_iff] at h1
  exact ⟨len_none (by rw [h1.1.1]; rfl), len_none (by rw [h1.1.2]; rfl), h1.2⟩
theorem clean_some {d : DefD} (h : cleanB d = true) : 0 < d.steps.length := by
  have h1 := (clean_parts h).1
  unfold chkN at h1
  exact (headN_none (stepsN_none (refsN_none h1).1).1).1
theorem clean_nums {d : DefD} (h : cleanB d = true) : ∀ (i : Nat) (hi : i < d.steps.length), 1 ≤ or0 d.steps[i].most 1 ∧ 0 ≤ d.steps[i].first ∧ 1 ≤ or0 d.steps[i].factor 1 ∧ 1 ≤ or0 d.steps[i].limit 100 := fine_nums (clean_parts h).2.1
theorem clean_order {d : DefD} (h : cleanB d = true) {i : Nat} (hi : i < d.steps.length) : i ∈ ordO (depsA d.steps 0 d.steps) := by
  have h1 := (clean_parts h).2.2
  unfold rndG rndL at h1
  rw [List.map_eq_nil_iff, List.map_eq_nil_iff, List.filter_eq_nil_iff] at h1
  have := h1 i (List.mem_range.2 (by rw [depsA_len]; exact hi))
  unfold rndB at this
  simpa using this
theorem first_not {D : Nat → Prop} : ∀ {l : List Nat}, (∃ x ∈ l, ¬ D x) → ∃ pre x suf, l = pre ++ x :: suf ∧ (∀ y ∈ pre, D y) ∧ ¬ D x
  | [], h => by
    obtain ⟨x, hx, _⟩ := h
    cases hx
  | a :: l, h => by
    by_cases ha : D a
    · obtain ⟨x, hx, hn⟩ := h
      have hx2 : x ∈ l := by
        rcases List.mem_cons.1 hx with rfl | h1
        · exact absurd ha hn
        · exact h1
      obtain ⟨pre, y, suf, e, h1, h2⟩ := first_not ⟨x, hx2, hn⟩
      refine ⟨a :: pre, y, suf, by rw [e]; rfl, fun z hz => ?_, h2⟩
      rcases List.mem_cons.1 hz with rfl | h3
      · exact ha
      · exact h1 z h3
    · exact ⟨[], a, l, rfl, (fun y hy => by cases hy), ha⟩
theorem clean_first {d : DefD} (h : cleanB d = true) {D : Nat → Prop} (hD : ∃ i, i < d.steps.length ∧ ¬ D i) :
    ∃ i, i < d.steps.length ∧ ¬ D i ∧ ∀ j ∈ (depsA d.steps 0 d.steps)[i]?.getD [], ∃ y : Nat, j = (y : Int) ∧ y < d.steps.length ∧ D y := by
  obtain ⟨i, hi, hn⟩ := hD
  obtain ⟨pre, x, suf, e, h1, h2⟩ := first_not (D := D) ⟨i, clean_order h hi, hn⟩
  have hx : x ∈ ordO (depsA d.steps 0 d.steps) := by rw [e]; simp
  have hxl := ordO_lt hx
  have hxl2 := hxl
  rw [depsA_len] at hxl2
  refine ⟨x, hxl2, h2, fun j hj => ?_⟩
  have hg := depsA_get d.steps d.steps 0 x hxl2
  rw [Nat.zero_add] at hg
  have hj2 := hj
  rw [hg] at hj2
  obtain ⟨y, rfl, hy⟩ := depsD_in _ _ _ _ hj2
  refine ⟨y, rfl, hy, h1 y ?_⟩
  have hp : pre.length < (ordO (depsA d.steps 0 d.steps)).length := by rw [e]; simp
  have := ordO_rch (rows := depsA d.steps 0 d.steps) (x := x) (y := y) (.one ⟨hxl, by rw [depsA_len]; exact hy, hj⟩) pre.length hp (by simp [e])
  rw [e, List.take_left'] at this
  · exact this
  · rfl
end Go.Proofs.YtgfiogjfgbegpaaGreat

/-
  rescripttop.awakeOne: contract; definitions of one step.
-/
namespace Go.Proofs.YtgfiogjfgbegpaaGreat
open Go Go.RowKit Go.Maps Go.WideShapes

def zeroTA : Tree := .mk 0 { data := #[] } [] [] 0
theorem zeroTA_r (W : World) : NodeR W [.int .u8 0, .string { data := #[] }, .slice none 0 0, .slice none 0 0, .int .i64 0] zeroTA :=
  .mk [] (by decide) (Nat.zero_le _) (fun _ h => by cases h) (by decide) ⟨rfl, none, 0, rfl, Nat.le_refl _, Nat.zero_le _, .inl rfl⟩ rfl ⟨rfl, none, 0, rfl, Nat.le_refl _, Nat.zero_le _, .inl rfl⟩ (fun i r x h => by cases h)
end Go.Proofs.YtgfiogjfgbegpaaGreat

/-
  saga.New of a definition that is not clean: contract.
-/
namespace Go.Proofs.YtgfiogjfgbegpaaGreat
open Go Go.RowKit Go.Maps Go.WideShapes

set_option maxRecDepth 100000 in
set_option maxHeartbeats 4000000 in
theorem New_no (d : DefD) (cs : List Value) (sa : Option Addr) (sc : Nat) (w : World) (h : DefR w cs d sa sc) (hs : SmallD d) (hc : cleanB d = false) :
    Calls Tryz.prog 14 #[.agg cs.toArray] w fun e w' => e = .returned (.tuple #[.pointer none, .int .i64 3]) ∧ Below w.heap.size w w' := by
  have HCL := Lib.hid (fun W sa sc (hW : DefR W [.string d.name, .string d.text, .slice sa d.steps.length sc] d sa sc) => Clean_any d _ sa sc W hW hs)
  rw [hc] at HCL
  obtain ⟨rfl, hnm, htx, hst⟩ := h
  have hb0 := (Below.refl w.heap.size w).alloc (Nat.le_refl _) (.cells #[.string d.name, .string d.text, .slice sa d.steps.length sc] 24)
  have g0 := World.alloc_heap_new w (.cells #[.string d.name, .string d.text, .slice sa d.steps.length sc] 24)
  have HD0 := Lib.hid (show DefR (w.alloc (.cells #[.string d.name, .string d.text, .slice sa d.steps.length sc] 24)) [.string d.name, .string d.text, .slice sa d.steps.length sc] d sa sc from ⟨rfl, hnm, htx, hst.below hb0⟩)
  have HB := Lib.hid hb0
  have HG := Lib.hid g0
  clear hst hs hb0 g0 hnm htx
  go_enter Tryz.func14, Tryz.ntmps14
  go_upto_region 1 with fail
  generalize w.alloc (.cells #[.string d.name, .string d.text, .slice sa d.steps.length sc] 24) = w0 at *
  obtain ⟨p0, p1, p2, -, -, -⟩ := cells3h HG.out
  go_wp2_with fail
  refine (HCL.out _ _ _ HD0.out).mono ?_
  rintro e w1 ⟨rfl, hb1⟩
  have HB1 := Lib.hid (bthen HB.out (Nat.le_refl _) hb1)
  clear p0 p1 p2 hb1
  go_wp2_with fail
  exact bodyPost_ret (results_tmp2 rfl _ _ _) rfl ⟨rfl, HB1.out⟩
end Go.Proofs.YtgfiogjfgbegpaaGreat

/-
  reach.each: contract of the iterator over the ticks with their answers.
-/
namespace Go.Proofs.YtgfiogjfgbegpaaGreat
open Go Go.RowKit Go.Maps Go.WideShapes
attribute [local go_sem] Oper.semAt_some wide_fn wide_depth wide_fn' wide_depth'

theorem Tryz.info_say : (Tryz.prog.info? 32).map (fun i => (i.zero, i.size, i.bytes)) = some (some (.agg #[.int .i64 0, .int .i64 0, .int .i64 0, .bool false, .int .u8 0]), 5, 32) := by kernel_rfl
theorem cells5s {W : World} {B : Nat} {c0 c1 c2 c3 c4 : Value} {t : TypeId} {fr : Nat × Nat} (h : W.heap[B]? = some (.cells #[c0, c1, c2, c3, c4] t fr)) : W.cell? ⟨B, 0, none⟩ = some c0 ∧ W.cell? ⟨B, 1, none⟩ = some c1 ∧ W.cell? ⟨B, 2, none⟩ = some c2 ∧ W.cell? ⟨B, 3, none⟩ = some c3 ∧ W.cell? ⟨B, 4, none⟩ = some c4 := by
  refine ⟨?_, ?_, ?_, ?_, ?_⟩ <;> simp [World.cell?, h]
theorem eachS_any (b : Int) (va : Option Addr) (n vc : Nat) (w : World) : Calls Tryz.prog 31 #[.int .i64 b, .slice va n vc] w fun e w' => e = .returned (.func (.func 64) #[] #[.pointer (some ⟨w.heap.size + 1, 0, none⟩), .pointer (some ⟨w.heap.size, 0, none⟩)]) ∧ (w.alloc (.cells #[.int .i64 b] 3)).alloc (.cells #[.slice va n vc] 25) = w' := by
  go_enter Tryz.func31, Tryz.ntmps31
  go_wp2
  go_ret
  exact ⟨rfl, rfl⟩
set_option maxRecDepth 100000 in
set_option maxHeartbeats 8000000 in
theorem eachS_iter (b : Nat) (ss : List SayD) (Q1 Q2 : Nat) (va : Option Addr) (vc : Nat) (w : World) (hQ1 : w.heap[Q1]? = some (.cells #[.slice va ss.length vc] 25 (0, 0))) (hQ2 : w.heap[Q2]? = some (.cells #[.int .i64 b] 3 (0, 0))) (hb : b ≤ 100000000) (hl : ss.length ≤ 1000) (hok : ∀ x ∈ ss, I64w x.1) :
    IterAtE Tryz.prog 0 64 #[.pointer (some ⟨Q1, 0, none⟩), .pointer (some ⟨Q2, 0, none⟩)] (EachE ss) (List.range (b + 1)) True (fun j => j = Q1 ∨ j = Q2) (fun W => RdS W (.slice va ss.length vc) 5 ss.length (flatS ss)) w := by
  intro l J Jx W _ hR hS hn0 hbl hJ hJx hY h0
  have hX1 := (hbl.block Q1 (Array.getElem?_eq_some_iff.1 hQ1).1).trans hQ1
  have hX2 := (hbl.block Q2 (Array.getElem?_eq_some_iff.1 hQ2).1).trans hQ2
  have HJ := Lib.hid hJ
  have HY := Lib.hid hY
  have HRD := Lib.hid (hR _ _ _ h0)
  have H0 := Lib.hid h0
  have HS := Lib.hid hS
  have HOK := Lib.hid hok
  have HX1 := Lib.hid hX1
  have HX2 := Lib.hid hX2
  have HBM := Lib.hid (ByR.made W)
  have hb1 : Below W.heap.size W (W.alloc (.map #[] 0)) := (Below.refl _ _).alloc (Nat.le_refl _) _
  have HB1 := Lib.hid hb1
  have hgx1 := cell1 ((hb1.block _ (Array.getElem?_eq_some_iff.1 hX1).1).trans hX1)
  clear hY hS hQ1 hQ2 hbl hJ hJx h0 hb1 hR hn0 hX1 hX2 hok
  refine callsIn_of_wp Tryz.func64 rfl trivial ?_ rfl
  simp only [Tryz.ntmps64, List.size_toArray, List.length_cons, List.length_nil, Nat.reduceAdd, Nat.reduceSub, Array.replicate_succ, Array.replicate_zero, List.push_toArray, List.append_toArray, List.nil_append, List.cons_append]
  have hmm := @run_makeMap Tryz.prog
  gi_upto_region 1 with fail
  clear hmm
  generalize hB : W.heap.size = B at *
  generalize W.alloc (.map #[] 0) = W1 at *
  have hszB := HB1.out.size
  gi_wp2_with fail
  clear hgx1

  gi_loopg [11] (ss.length + 1) (fun gk i wr => ∃ (j : Nat) (gv : Int → Value), j + gk = ss.length + 1 ∧ j ≤ ss.length ∧ i = .int .i64 j ∧ Hid (ByR wr B B gv (ss.take j)) ∧ Hid (Below B W wr))
  case atStart => exact ⟨0, _, by omega, by omega, rfl, HBM, HB1⟩
  case round =>
    obtain ⟨j, gv, hgk, hj, rfl, HBY, HBW⟩ := hrel
    have hg : gk = ss.length + 1 - j := by omega
    subst hg
    have hBW := HBW.out.size
    by_cases hjl : j < ss.length
    · have d1 : decide ((j : Int) < (ss.length : Int)) = true := decide_eq_true (by omega)
      have hj1 : (j : Int) < (ss.length : Int) := by omega
      have hj0 : (0 : Int) ≤ (j : Int) := by omega
      have hxi := HOK.out _ (List.getElem_mem hjl)
      have HTK : Hid (ss.take (j + 1) = ss.take j ++ [ss[j]]) := Lib.hid (by rw [List.take_add_one, List.getElem?_eq_getElem hjl]; rfl)
      obtain ⟨ga, gc, hgv, hro⟩ := HBY.out.row ss[j].1
      have hln := saysAt_len (ss.take j) ss[j].1
      rw [List.length_take] at hln
      have HGV := Lib.hid hgv
      have HRO := Lib.hid hro
      have hlk := HBY.out.look (x := ss[j].1) hxi
      have HLK : Hid (∀ W', Below wr.heap.size wr W' → (Instr.lookup 120 (.map (some B)) (.int .i64 ss[j].1) false).run Tryz.prog W' = .ok (.slice ga (saysAt (ss.take j) ss[j].1).length gc) W') := Lib.hid (fun W' hb => by
        have := (HBY.out.below hb).look (x := ss[j].1) hxi
        rw [hgv] at this
        exact this)
      clear hlk hgv hro
      obtain ⟨gn, hgn⟩ : ∃ gn, (saysAt (ss.take j) ss[j].1).length = gn := ⟨_, rfl⟩
      have HGN := Lib.hid hgn
      rw [hgn] at HGV HRO HLK hln
      clear hgn
      obtain ⟨sg, soff, scap, he, q0, q1, q2, q3, q4⟩ := says_at (HRD.out.below (by rw [hB]; exact HBW.out)) hjl
      cases he
      have hb1 : Below wr.heap.size wr (wr.alloc (.cells #[.int .i64 ss[j].1, .int .i64 ss[j].2.1, .int .i64 ss[j].2.2.1, .bool ss[j].2.2.2.1, .int .u8 ss[j].2.2.2.2] 32)) := (Below.refl _ _).alloc (Nat.le_refl _) _
      have g0 := World.alloc_heap_new wr (.cells #[.int .i64 ss[j].1, .int .i64 ss[j].2.1, .int .i64 ss[j].2.2.1, .bool ss[j].2.2.2.1, .int .u8 ss[j].2.2.2.2] 32)
      gi_upto_region 4 with fail
      generalize wr.alloc (.cells #[.int .i64 ss[j].1, .int .i64 ss[j].2.1, .int .i64 ss[j].2.2.1, .bool ss[j].2.2.2.1, .int .u8 ss[j].2.2.2.2] 32) = w4 at *
      obtain ⟨i0, hi0, hz0, hz1, hz2⟩ := info_parts Tryz.info_say
      clear q0 q1 q2 q3 q4
      obtain ⟨y0, y1, y2, y3, y4⟩ := cells5s (W := w4.drew) g0
      have hlk := HLK.out _ hb1.drew
      have HB5 := Lib.hid hb1
      have HG5 := Lib.hid g0
      clear hb1 g0
      refine E_regionW (S := (fun W => W.cell? ⟨wr.heap.size, 0, none⟩ = some (.int .i64 ss[j].1) ∧ W.cell? ⟨wr.heap.size, 1, none⟩ = some (.int .i64 ss[j].2.1) ∧ W.cell? ⟨wr.heap.size, 2, none⟩ = some (.int .i64 ss[j].2.2.1) ∧ W.cell? ⟨wr.heap.size, 3, none⟩ = some (.bool ss[j].2.2.2.1) ∧ W.cell? ⟨wr.heap.size, 4, none⟩ = some (.int .u8 ss[j].2.2.2.2) ∧ (Instr.lookup 120 (.map (some B)) (.int .i64 ss[j].1) false).run Tryz.prog W = .ok (.slice ga gn gc) W)) 10 (by kernel_rfl) (by kernel_rfl) ⟨y0, y1, y2, y3, y4, hlk⟩ (fun Q' hQ hK' hHeld => ?_)
      refine E_take0 hQ (fun _ => hHeld) 0 (v := ?av1) rfl rfl (by kernel_rfl) (by kernel_rfl) (by kernel_rfl) (by decide) (by rfl) ?ay1 ?ar1
      case ay1 => (intro w; go_simp; (try with_reducible rfl))
      (try simp only [layE])
      refine E_take0 hQ (fun _ => hHeld) 1 (v := ?av2) rfl rfl (by kernel_rfl) (by kernel_rfl) (by kernel_rfl) (by decide) (by rfl) ?ay2 ?ar2
      case ay2 => (intro w; go_simp; (try with_reducible rfl))
      (try simp only [layE])
      refine E_take hQ hHeld 2 (v := ?av3) rfl rfl (by kernel_rfl) (by kernel_rfl) (by kernel_rfl) (by kernel_rfl) (by kernel_rfl) (by rfl) ?ay3 ?ar3
      case ay3 => (intro w hSw; (try dsimp only at hSw); go_simp; (try with_reducible rfl))
      (try simp only [layE])
      refine E_take0 hQ (fun _ => hHeld) 3 (v := ?av4) rfl rfl (by kernel_rfl) (by kernel_rfl) (by kernel_rfl) (by decide) (by rfl) ?ay4 ?ar4
      case ay4 => (intro w; go_simp; (try with_reducible rfl))
      (try simp only [layE])
      refine E_take0 hQ (fun _ => hHeld) 4 (v := ?av5) rfl rfl (by kernel_rfl) (by kernel_rfl) (by kernel_rfl) (by decide) (by rfl) ?ay5 ?ar5
      case ay5 => (intro w; go_simp; (try with_reducible rfl))
      (try simp only [layE])
      refine E_take hQ hHeld 5 (v := ?av6) rfl rfl (by kernel_rfl) (by kernel_rfl) (by kernel_rfl) (by kernel_rfl) (by kernel_rfl) (by rfl) ?ay6 ?ar6
      case ay6 => (intro w hSw; (try dsimp only at hSw); go_simp; (try with_reducible rfl))
      (try simp only [layE])
      refine E_take hQ hHeld 6 (v := ?av7) rfl rfl (by kernel_rfl) (by kernel_rfl) (by kernel_rfl) (by kernel_rfl) (by kernel_rfl) (by rfl) ?ay7 ?ar7
      case ay7 => (intro w hSw; (try dsimp only at hSw); go_simp; (try with_reducible rfl))
      (try simp only [layE])
      refine E_take hQ hHeld 7 (v := ?av8) rfl rfl (by kernel_rfl) (by kernel_rfl) (by kernel_rfl) (by kernel_rfl) (by kernel_rfl) (by rfl) ?ay8 ?ar8
      case ay8 => (intro w hSw; (try dsimp only at hSw); go_simp; (try with_reducible rfl))
      (try simp only [layE])
      refine E_one 8 (by kernel_rfl) rfl (by rfl) (fun K hK => ?_)
      go_simp
      have hb6 : Below w4.heap.size w4 ((w4.alloc (.cells #[.int .i64 ss[j].1, .int .i64 ss[j].2.1, .int .i64 ss[j].2.2.1, .bool ss[j].2.2.2.1, .int .u8 ss[j].2.2.2.2] 32)).drew) := ((Below.refl _ w4).alloc (Nat.le_refl _) _).drew
      have hn6 : ((w4.alloc (.cells #[.int .i64 ss[j].1, .int .i64 ss[j].2.1, .int .i64 ss[j].2.2.1, .bool ss[j].2.2.2.1, .int .u8 ss[j].2.2.2.2] 32)).drew).heap[w4.heap.size]? = some (.cells #[.int .i64 ss[j].1, .int .i64 ss[j].2.1, .int .i64 ss[j].2.2.1, .bool ss[j].2.2.2.1, .int .u8 ss[j].2.2.2.2] 32 (0, 0)) := World.alloc_heap_new w4 _
      generalize (w4.alloc (.cells #[.int .i64 ss[j].1, .int .i64 ss[j].2.1, .int .i64 ss[j].2.2.1, .bool ss[j].2.2.2.1, .int .u8 ss[j].2.2.2.2] 32)).drew = w6 at *
      have hb06 : Below wr.heap.size wr w6 := bthen HB5.out (Nat.le_refl _) hb6
      (try simp only [layE])
      refine hK.out _ _ (fun _ _ => ⟨cellB hb6 hHeld.1, cellB hb6 hHeld.2.1, cellB hb6 hHeld.2.2.1, cellB hb6 hHeld.2.2.2.1, cellB hb6 hHeld.2.2.2.2.1, HLK.out _ hb06⟩) (fun hHeld' => ?_)
      replace hHeld := hHeld' (by rfl) (by decide)
      clear hK hHeld'
      (try simp only [layE])
      refine E_one 9 (by kernel_rfl) rfl (by rfl) (fun K hK => ?_)
      refine opwp_pushA _ _ 25 rfl B 32 i0 (.agg #[.int .i64 0, .int .i64 0, .int .i64 0, .bool false, .int .u8 0]) 5 32 Tryz.underlying25 hi0 hz0 hz1 hz2 rfl (by decide) (.slice ga gn gc) gn (flatS (saysAt (ss.take j) ss[j].1)) rfl (ownsRow_keepB HRO.out (fun g hg => hb06.block g (HRO.out.lt g hg).2)) (.slice (some ⟨w4.heap.size, 0, none⟩) 1 1) 1 (sayC ss[j]) rfl (rds_rowK 1 5 (l := sayC ss[j]) hn6 rfl (by decide)) (fun u hu => by unfold sayC at hu; simp only [List.mem_cons, List.not_mem_nil, or_false] at hu; rcases hu with rfl | rfl | rfl | rfl | rfl <;> rfl) (by unfold maxLen; omega) (by omega) (by have := hb06.size; omega) ?_
      intro v7 w7 ho7 hg7 hf7
      have hX7 := (hg7.block _ (by have := (Array.getElem?_eq_some_iff.1 HG5.out).1; have := hb6.size; omega) (fun e => by have := (HRO.out.lt _ e.symm).2; omega)).trans ((hb6.block _ (Array.getElem?_eq_some_iff.1 HG5.out).1).trans HG5.out)
      have hlk7 := (HBY.out.below hb06).look_keep (hg7.block B (HBY.out.below hb06).ltm (fun e => HBY.out.rowm ss[j].1 (by rw [HGV.out]; exact e.symm))) (x := ss[j].1) hxi
      rw [HGV.out] at hlk7
      obtain ⟨u0, u1, u2, u3, u4⟩ := cells5s hX7
      obtain ⟨w8, hput, hby8, hbl8, -⟩ := HBY.out.push ss[j] hxi (by rw [List.length_take]; omega) hb06 (by rw [HGN.out]; exact ho7) (by rw [HGV.out]; exact hg7) (by rw [HGV.out]; exact hf7)
      clear hX7 ho7 hg7 hf7
      (try simp only [layE])
      refine hK.out _ _ (fun _ _ => ⟨u0, u1, u2, u3, u4, hlk7⟩) (fun hHeld' => ?_)
      replace hHeld := hHeld' (by rfl) (by decide)
      clear hK hHeld'
      (try simp only [layE])
      refine E_one 10 (by kernel_rfl) rfl (by rfl) (fun K hK => ?_)
      go_simp
      (try simp only [layE])
      refine hK.out _ _ (fun _ h => absurd rfl h) (fun _ => ?_)
      clear hK hHeld
      (try simp only [layE])
      refine E_done (by kernel_rfl) ?_ _
      refine hK'.out _ _ ?_
      have HBY8 := Lib.hid hby8
      have HBL8 := Lib.hid (hbl8 (by omega))
      clear hK' hQ hput hby8 hbl8
      gi_wp2_with fail
      gi_roundg (ss.length + 1 - (j + 1))
      case measure => omega
      case rel => exact ⟨j + 1, _, by omega, by omega, by go_num, by rw [HTK.out]; exact HBY8, Lib.hid (HBW.out.trans HBL8.out)⟩
    · have d1 : decide ((j : Int) < (ss.length : Int)) = false := decide_eq_false (by omega)
      obtain rfl : j = ss.length := by omega
      rw [List.take_length] at HBY
      have hbW : Below W.heap.size W wr := hB ▸ HBW.out
      have hst : Step 0 (fun k => k = Q1 ∨ k = Q2) (fun k => (k = Q1 ∨ k = Q2) ∨ (B ≤ k ∧ k < wr.heap.size)) W wr := ⟨hbW.mono (Nat.zero_le _), fun k hk => .inl hk, fun k hk => hk.elim .inl (fun e => .inr (by omega)), fun k hk _ => hbW.block k hk⟩
      have hJ1 := HJ.out _ _ _ _ _ (fun k hk => ⟨Nat.zero_le _, by rw [hB]; exact (HS.out k hk).2⟩) H0.out hst
      have HJ1 := Lib.hid hJ1
      have HSB1 : Hid (∀ k, ((k = Q1 ∨ k = Q2) ∨ (B ≤ k ∧ k < wr.heap.size)) → 0 ≤ k ∧ k < wr.heap.size) := Lib.hid (fun k hk => ⟨Nat.zero_le _, hk.elim (fun e => by have := (HS.out k e).2; omega) (fun e => e.2)⟩)
      have hltm := HBY.out.ltm
      have HOWN : Hid (((B = Q1 ∨ B = Q2) ∨ (B ≤ B ∧ B < wr.heap.size)) ∧ ∀ x q, (gv x).ownBlock = some q → ((q = Q1 ∨ q = Q2) ∨ (B ≤ q ∧ q < wr.heap.size))) := Lib.hid ⟨.inr ⟨Nat.le_refl _, hltm⟩, fun x q hq => by
        obtain ⟨a, c, e, hr⟩ := HBY.out.row x
        exact .inr (hr.lt q (by rw [← e]; exact hq))⟩
      have hx2 := cell1 ((HBW.out.block _ (by have := (Array.getElem?_eq_some_iff.1 HX2.out).1; omega)).trans HX2.out)
      have hbw : IntKind.i64.wrap ((b : Int) + 1) = (b : Int) + 1 := IntWalk.i64_in _ (by omega)
      clear hJ1 hst hbW hgk
      gi_wp2_with fail
      clear hx2
      gi_loopg [28] (b + 2) (fun gk i wi => ∃ (S : Nat → Prop) (k : Nat), k + gk = b + 2 ∧ k ≤ b + 1 ∧ i = .int .i64 k ∧ Hid (∀ j, S j → 0 ≤ j ∧ j < wi.heap.size) ∧ Hid (S B ∧ ∀ x q, (gv x).ownBlock = some q → S q) ∧ J S (List.range k) wi ∧ Hid (ByR wi B B gv ss))
      case atStart => exact ⟨_, 0, by omega, by omega, rfl, HSB1, HOWN, HJ1.out, HBY⟩
      case round =>
        obtain ⟨S, k, hgk, hk, rfl, HSB, HOW, hJs, HBYr⟩ := hrel
        rename World => wi
        have hg : gk = b + 2 - k := by omega
        subst hg
        by_cases hkb : k < b + 1
        · have d2 : decide ((k : Int) < (b : Int) + 1) = true := decide_eq_true (by omega)
          have hk1 : (k : Int) < (b : Int) + 1 := by omega
          have hpx : List.range k ++ [k] <+: List.range (b + 1) := by
            rw [← List.range_succ, show b + 1 = (k + 1) + (b - k) by omega, List.range_add]
            exact List.prefix_append _ _
          obtain ⟨ga, gc, hgv, hro⟩ := HBYr.out.row (k : Int)
          have hlk := HBYr.out.look (x := (k : Int)) ⟨by omega, by omega⟩
          have hown := HOW.out.2 (k : Int)
          rw [hgv] at hlk hown
          obtain ⟨fn, tmps, assign, body, hy, hRr⟩ := HY.out S _ k wi HSB.out hJs hpx _ ⟨ga, gc, rfl, ownsRow_mono hro (Nat.zero_le _), hown⟩
          rw [← List.range_succ] at hRr
          have HPX := Lib.hid hpx
          have HRr := Lib.hid hRr
          clear hpx hRr hro hown hgv
          gi_wp2_with fail
          refine HRr.out.mono ?_
          rintro e W' (⟨rfl, hJ', hk'⟩ | ⟨rfl, hJ', hk'⟩)
          · clear hy hlk
            have hsz' := hk'.below.size
            gi_wp2_with fail
            gi_roundg (b + 2 - (k + 1))
            case measure => omega
            case rel => exact ⟨S, k + 1, by omega, by omega, by go_num, Lib.hid (fun i hi => ⟨Nat.zero_le _, Nat.lt_of_lt_of_le (HSB.out i hi).2 hsz'⟩), HOW, hJ', Lib.hid (HBYr.out.keepS (fun j hj => hk'.same j (hj.elim (fun e => e ▸ HOW.out.1) (fun ⟨x, hx⟩ => HOW.out.2 x j hx))))⟩
          · clear hy hlk
            have hsz' := hk'.below.size
            gi_wp2_with fail
            refine bodyPost_ret (results_none rfl _ _ _) rfl ?_
            exact ⟨⟨_, rfl⟩, S, (fun i hi => ⟨Nat.zero_le _, Nat.lt_of_lt_of_le (HSB.out i hi).2 hsz'⟩), .inr ⟨_, (by rw [List.range_succ]; exact HPX.out), hJ'⟩⟩
        · have d2 : decide ((k : Int) < (b : Int) + 1) = false := decide_eq_false (by omega)
          have hk1 : ¬ (k : Int) < (b : Int) + 1 := by omega
          obtain rfl : k = b + 1 := by omega
          gi_wp2_with fail
          go_end0
          exact ⟨⟨_, rfl⟩, S, fun i hi => (HSB.out i hi).2, .inl (by rw [← List.range_succ]; exact hJs)⟩
end Go.Proofs.YtgfiogjfgbegpaaGreat

/-
  Sagas (no program): what becomes of a saga of which one step fails for good, each other one is done at once, and each undoing is answered.
-/
namespace Go.Proofs.YtgfiogjfgbegpaaGreat
open Go Go.RowKit

structure BegS (l : List StepD) (rs : List (List Int)) (now : Int) (X : AskX) (j : Nat) (Y : AskX) : Prop where
  runs : ∀ k : WayD, Y.1.runs k = if k.2 = false ∧ 0 ≤ k.1 ∧ k.1 < (j : Int) ∧ readyB rs X.1 k.1.toNat = true then beginR (l[k.1.toNat]?.getD default) now else X.1.runs k
  done : Y.1.done = X.1.done
  undone : Y.1.undone = X.1.undone
  status : Y.1.status = X.1.status
  out : Y.2 = X.2 ++ ((List.range j).filter fun i => readyB rs X.1 i).map fun i : Nat => (((i : Int), 1, false, nowI now + limI (l[i]?.getD default).limit) : OrdD)
theorem ready_idle {rs : List (List Int)} {S : SagD} {i : Nat} (h : readyB rs S i = true) : phaseI S (i : Int) = 0 := by
  unfold readyB at h
  simp only [Bool.and_eq_true, decide_eq_true_eq] at h
  exact h.1
theorem BegS.three {l : List StepD} {rs : List (List Int)} {now : Int} {X Y : AskX} {j : Nat} (h : BegS l rs now X j Y) (i : Int) : phaseI Y.1 i = 3 ↔ phaseI X.1 i = 3 := by
  unfold phaseI
  rw [h.runs]
  split
  · rename_i hc
    have h0 := ready_idle hc.2.2.2
    unfold phaseI at h0
    have e : ((i.toNat : Nat) : Int) = i := by have := hc.2.1; omega
    rw [e] at h0
    constructor
    · intro e1
      exact absurd (show (1 : Int) = 3 from e1) (by decide)
    · intro e1
      omega
  · rfl
theorem BegS.ready {l : List StepD} {rs : List (List Int)} {now : Int} {X Y : AskX} {j : Nat} (h : BegS l rs now X j Y) {i : Nat} (hi : j ≤ i) : readyB rs Y.1 i = readyB rs X.1 i := by
  unfold readyB
  have e1 : phaseI Y.1 (i : Int) = phaseI X.1 (i : Int) := by
    unfold phaseI
    rw [h.runs, if_neg]
    rintro ⟨_, _, h1, _⟩
    have h1 : (i : Int) < (j : Int) := h1
    omega
  have e2 : (fun x => decide (phaseI Y.1 x = 3)) = (fun x => decide (phaseI X.1 x = 3)) := by
    funext x
    exact decide_eq_decide.2 (h.three x)
  rw [e1, e2]
theorem begs_spec (l : List StepD) (rs : List (List Int)) (now : Int) (X : AskX) (hI : ∀ i : Int, (X.1.runs (i, false)).1 = 0 → (X.1.runs (i, false)).2.1 = 0) : ∀ j, BegS l rs now X j ((List.range j).foldl (begX l rs now) X)
  | 0 => ⟨fun k => by rw [if_neg (by rintro ⟨_, h1, h2, _⟩; omega)]; rfl, rfl, rfl, rfl, by simp⟩
  | j + 1 => by
    have ih := begs_spec l rs now X hI j
    rw [List.range_succ, List.foldl_append, List.foldl_cons, List.foldl_nil]
    generalize (List.range j).foldl (begX l rs now) X = Y at *
    have hr := ih.ready (Nat.le_refl j)
    unfold begX
    rw [hr]
    have hjn : ((j : Int)).toNat = j := by omega
    by_cases h : readyB rs X.1 j = true
    · rw [if_pos h]
      have h0 : (X.1.runs ((j : Int), false)).1 = 0 := ready_idle h
      have hY : Y.1.runs ((j : Int), false) = X.1.runs ((j : Int), false) := by
        rw [ih.runs, if_neg]
        rintro ⟨_, _, h1, _⟩
        exact absurd (show (j : Int) < (j : Int) from h1) (by omega)
      have ht : (beginR (l[j]?.getD default) now).2.1 ≠ (Y.1.runs ((j : Int), false)).2.1 := by
        rw [hY, hI _ h0]
        show inc 0 ≠ 0
        rw [inc_zero]
        decide
      have e : putX Y ((j : Int), false) (beginR (l[j]?.getD default) now) = (Y.1.set ((j : Int), false) (beginR (l[j]?.getD default) now), Y.2 ++ [((j : Int), (beginR (l[j]?.getD default) now).2.1, false, (beginR (l[j]?.getD default) now).2.2.1)]) := by
        unfold putX
        rw [if_neg (fun e => absurd (show (1 : Int) = 3 from e.1) (by decide)), if_pos ⟨rfl, ht⟩]
      rw [e]
      refine ⟨fun k => ?_, ih.done, ih.undone, ih.status, ?_⟩
      · show (if k = ((j : Int), false) then beginR (l[j]?.getD default) now else Y.1.runs k) = _
        by_cases hk : k = ((j : Int), false)
        · subst hk
          rw [if_pos rfl, if_pos ⟨rfl, by show (0 : Int) ≤ (j : Int); omega, by show (j : Int) < ((j + 1 : Nat) : Int); omega, by show readyB rs X.1 ((j : Int)).toNat = true; rw [hjn]; exact h⟩]
          show _ = beginR (l[((j : Int)).toNat]?.getD default) now
          rw [hjn]
        · rw [if_neg hk, ih.runs]
          have hiff : (k.2 = false ∧ 0 ≤ k.1 ∧ k.1 < (j : Int) ∧ readyB rs X.1 k.1.toNat = true) ↔ (k.2 = false ∧ 0 ≤ k.1 ∧ k.1 < ((j + 1 : Nat) : Int) ∧ readyB rs X.1 k.1.toNat = true) := by
            constructor
            · rintro ⟨a, b, c, d⟩
              exact ⟨a, b, by omega, d⟩
            · rintro ⟨a, b, c, d⟩
              refine ⟨a, b, ?_, d⟩
              have : k.1 ≠ (j : Int) := fun e2 => hk (Prod.ext e2 a)
              omega
          by_cases hc : (k.2 = false ∧ 0 ≤ k.1 ∧ k.1 < (j : Int) ∧ readyB rs X.1 k.1.toNat = true)
          · rw [if_pos hc, if_pos (hiff.1 hc)]
          · rw [if_neg hc, if_neg (fun e2 => hc (hiff.2 e2))]
      · show Y.2 ++ [((j : Int), inc 0, false, nowI now + limI (l[j]?.getD default).limit)] = _
        rw [ih.out, List.range_succ, List.filter_append, List.map_append, List.append_assoc, List.filter_cons_of_pos (by simpa using h), inc_zero]
        rfl
    · rw [if_neg h]
      refine ⟨fun k => ?_, ih.done, ih.undone, ih.status, ?_⟩
      · rw [ih.runs]
        have hiff : (k.2 = false ∧ 0 ≤ k.1 ∧ k.1 < (j : Int) ∧ readyB rs X.1 k.1.toNat = true) ↔ (k.2 = false ∧ 0 ≤ k.1 ∧ k.1 < ((j + 1 : Nat) : Int) ∧ readyB rs X.1 k.1.toNat = true) := by
          constructor
          · rintro ⟨a, b, c, d⟩
            exact ⟨a, b, by omega, d⟩
          · rintro ⟨a, b, c, d⟩
            refine ⟨a, b, ?_, d⟩
            have : k.1.toNat ≠ j := fun e2 => h (e2 ▸ d)
            omega
        by_cases hc : (k.2 = false ∧ 0 ≤ k.1 ∧ k.1 < (j : Int) ∧ readyB rs X.1 k.1.toNat = true)
        · rw [if_pos hc, if_pos (hiff.1 hc)]
        · rw [if_neg hc, if_neg (fun e2 => hc (hiff.2 e2))]
      · rw [ih.out, List.range_succ, List.filter_append, List.filter_cons_of_neg (by simpa using h)]
        simp

def undB (l : List StepD) (i : Int) : Bool := !decide ((l[i.toNat]?.getD default).undo = { data := #[] })
structure RunQ (n : Nat) (S : SagD) (todo : List OrdD) : Prop where
  inv : InvS n S
  un : S.undone = []
  nk : (todo.map (·.1)).Nodup
  td : ∀ o ∈ todo, 0 ≤ o.1 ∧ o.1 < (n : Int) ∧ o.2.2.1 = false ∧ o.2.1 = 1 ∧ (S.runs (o.1, false)).1 = 1 ∧ (S.runs (o.1, false)).2.1 = 1
  ask : ∀ i : Nat, i < n → phaseI S (i : Int) = 1 → ∃ o ∈ todo, o.1 = (i : Int)
  ud : ∀ i, S.runs (i, true) = idleR
structure BackA (l : List StepD) (rs : List (List Int)) (fail : Int) (S : SagD) (todo : List OrdD) : Prop where
  q : RunQ l.length S todo
  st : S.status = 1
  ph : ∀ i : Nat, i < l.length → phaseI S (i : Int) = 0 ∨ phaseI S (i : Int) = 1 ∨ phaseI S (i : Int) = 3
  id : ∀ i : Int, (S.runs (i, false)).1 = 0 → (S.runs (i, false)).2.1 = 0
  rd : ∀ i : Nat, i < l.length → readyB rs S i = false
  ff : phaseI S fail ≠ 3
structure BackB (l : List StepD) (fail : Int) (S : SagD) (todo : List OrdD) : Prop where
  q : RunQ l.length S todo
  st : S.status = 2
  ne : todo ≠ []
  ph : ∀ i : Nat, i < l.length → phaseI S (i : Int) = 1 ∨ phaseI S (i : Int) = 3 ∨ phaseI S (i : Int) = 4
  ff : phaseI S fail = 4
structure UnQ (l : List StepD) (fail : Int) (S : SagD) (m : Nat) : Prop where
  inv : InvS l.length S
  st : S.status = 2
  no1 : anyB l.length S 1 = false
  ml : m ≤ S.done.length
  un : S.undone = (S.done.drop m).reverse
  id : ∀ i ∈ S.done.take m, S.runs (i, true) = idleR
  ff : fail ∉ S.done
structure BackC (l : List StepD) (fail : Int) (S : SagD) (todo : List OrdD) (und : List Int) (m : Nat) (i u : Int) : Prop where
  inv : InvS l.length S
  st : S.status = 2
  no1 : anyB l.length S 1 = false
  mi : S.done[m]? = some i
  td : todo = [(i, 1, true, u)]
  un : S.undone = (S.done.drop (m + 1)).reverse
  r1 : (S.runs (i, true)).1 = 1
  r2 : (S.runs (i, true)).2.1 = 1
  id : ∀ j ∈ S.done.take m, S.runs (j, true) = idleR
  hu : undB l i = true
  ud : und = S.undone.filter (undB l)
  ff : fail ∉ S.done
structure BackD (l : List StepD) (fail : Int) (S : SagD) (todo : List OrdD) (und : List Int) : Prop where
  inv : InvS l.length S
  st : S.status = 4
  td : todo = []
  un : S.undone = S.done.reverse
  ud : und = S.undone.filter (undB l)
  ff : fail ∉ S.done
def BackQ (l : List StepD) (rs : List (List Int)) (fail : Int) (S : SagD) (todo : List OrdD) (und : List Int) (c : Nat) : Prop :=
  (BackA l rs fail S todo ∧ und = [] ∧ 4 * l.length + 1 ≤ c + S.done.length) ∨ (BackB l fail S todo ∧ und = [] ∧ 2 * todo.length + S.done.length ≤ c) ∨ (∃ m i u, BackC l fail S todo und m i u ∧ m + 1 ≤ c) ∨ BackD l fail S todo und
theorem RunQ.short {n : Nat} {S : SagD} {todo : List OrdD} (h : RunQ n S todo) : todo.length ≤ n := by
  have := nodup_sub_len (M := (List.range n).map fun i : Nat => (i : Int)) h.nk (fun x hx => by
    obtain ⟨o, ho, rfl⟩ := List.mem_map.1 hx
    have h1 := h.td o ho
    exact List.mem_map.2 ⟨o.1.toNat, List.mem_range.2 (by omega), by omega⟩)
  simpa using this
theorem anyB_iff {n : Nat} {S : SagD} {ph : Int} : anyB n S ph = true ↔ ∃ i : Nat, i < n ∧ phaseI S (i : Int) = ph := by
  unfold anyB
  rw [List.any_eq_true]
  constructor
  · rintro ⟨i, hi, h⟩
    exact ⟨i, List.mem_range.1 hi, by simpa using h⟩
  · rintro ⟨i, hi, h⟩
    exact ⟨i, List.mem_range.2 hi, by simpa using h⟩
theorem anyB_not {n : Nat} {S : SagD} {ph : Int} (h : ∀ i : Nat, i < n → phaseI S (i : Int) ≠ ph) : anyB n S ph = false := by
  cases e : anyB n S ph with
  | false => rfl
  | true =>
    obtain ⟨i, hi, h1⟩ := anyB_iff.1 e
    exact absurd h1 (h i hi)
theorem anyB_setT {n : Nat} {S : SagD} {i : Int} {r : RunD} {ph : Int} : anyB n (S.set (i, true) r) ph = anyB n S ph := by
  unfold anyB
  congr 1
  funext j
  have e : phaseI (S.set (i, true) r) (j : Int) = phaseI S (j : Int) := by
    show (if ((((j : Int), false)) : WayD) = (i, true) then r else S.runs ((j : Int), false)).1 = _
    rw [if_neg (fun e => by cases congrArg Prod.snd e)]
    rfl
  rw [e]
theorem backL_go {l : List StepD} {fail : Int} : ∀ (m : Nat) (X : AskX), UnQ l fail X.1 m →
    (∃ m' i u, m' < m ∧ BackC l fail (backL l 0 m X).1 [(i, 1, true, u)] (X.1.undone.filter (undB l)) m' i u ∧ (backL l 0 m X).2 = X.2 ++ [(i, 1, true, u)]) ∨
    (BackD l fail (backL l 0 m X).1 [] (X.1.undone.filter (undB l)) ∧ (backL l 0 m X).2 = X.2)
  | 0, X, h => by
    refine .inr ⟨⟨h.inv.status 4, rfl, rfl, ?_, rfl, h.ff⟩, rfl⟩
    show X.1.undone = X.1.done.reverse
    rw [h.un, List.drop_zero]
  | m + 1, X, h => by
    have hml := h.ml
    have hul : X.1.undone.length = X.1.done.length - (m + 1) := by rw [h.un]; simp
    have hix : X.1.done.length - 1 - X.1.undone.length = m := by omega
    have hg : X.1.done[m]? = some X.1.done[m] := List.getElem?_eq_getElem (by omega)
    have hin : X.1.done[m] ∈ X.1.done.take (m + 1) := by
      rw [List.take_add_one, hg]
      exact List.mem_append_right _ (List.mem_singleton.2 rfl)
    have hid := h.id _ hin
    have hdr : (X.1.done.drop m).reverse = (X.1.done.drop (m + 1)).reverse ++ [X.1.done[m]] := by
      rw [List.drop_eq_getElem_cons (by omega : m < X.1.done.length), List.reverse_cons]
    unfold backL
    dsimp only
    rw [hix, hg, Option.getD_some]
    generalize hi : X.1.done[m] = i at *
    by_cases hu : (l[i.toNat]?.getD default).undo = { data := #[] }
    · rw [if_pos (.inl hu)]
      have hno : undB l i = false := by
        unfold undB
        rw [decide_eq_true hu]
        rfl
      have ih := backL_go (l := l) (fail := fail) m ({ X.1 with undone := X.1.undone ++ [i] }, X.2) ⟨⟨h.inv.dn, h.inv.nd, h.inv.ov, by show (X.1.undone ++ [i]).length ≤ X.1.done.length; rw [List.length_append, List.length_singleton]; omega⟩, h.st, h.no1, by show m ≤ X.1.done.length; omega, by show X.1.undone ++ [i] = (X.1.done.drop m).reverse; rw [h.un, hdr], fun j hj => h.id j (by
        have hj : j ∈ X.1.done.take m := hj
        rw [List.take_add_one]
        exact List.mem_append_left _ hj), h.ff⟩
      have hfl : (X.1.undone ++ [i]).filter (undB l) = X.1.undone.filter (undB l) := by
        rw [List.filter_append, List.filter_cons_of_neg (by simp [hno])]
        simp
      dsimp only at ih
      rw [hfl] at ih
      rcases ih with ⟨m', i', u, h1, h2, h3⟩ | h2
      · exact .inl ⟨m', i', u, by omega, h2, h3⟩
      · exact .inr h2
    · rw [if_neg (by
        rintro (e | e)
        · exact hu e
        · rw [hid] at e
          exact absurd (show (0 : Int) = 3 from e) (by decide)), if_neg (by
        rw [hid]
        show ¬ (0 : Int) = 4
        decide), if_pos (by rw [hid]; rfl)]
      have hpx : putX X (i, true) (beginR (l[i.toNat]?.getD default) 0) = (X.1.set (i, true) (beginR (l[i.toNat]?.getD default) 0), X.2 ++ [(i, 1, true, (beginR (l[i.toNat]?.getD default) 0).2.2.1)]) := by
        unfold putX
        rw [if_neg (fun e => absurd (show (1 : Int) = 3 from e.1) (by decide)), if_pos ⟨rfl, by
          rw [hid]
          show inc 0 ≠ 0
          rw [inc_zero]
          decide⟩]
        show (_, X.2 ++ [(i, inc 0, true, _)]) = _
        rw [inc_zero]
      have hrn : (X.1.set (i, true) (beginR (l[i.toNat]?.getD default) 0)).runs (i, true) = beginR (l[i.toNat]?.getD default) 0 := by
        show (if ((i, true) : WayD) = (i, true) then _ else _) = _
        rw [if_pos rfl]
      rw [hpx]
      have hmem : i ∈ X.1.done := List.mem_of_mem_take hin
      refine .inl ⟨m, i, _, by omega, ⟨?_, h.st, ?_, hg, rfl, h.un, by rw [hrn]; rfl, by rw [hrn]; show inc 0 = 1; exact inc_zero, fun j hj => ?_, ?_, rfl, h.ff⟩, rfl⟩
      · have := h.inv.put (k := (i, true)) (r := beginR (l[i.toNat]?.getD default) 0) (X := X) (h.inv.dn i hmem) (fun e => by cases e)
        rw [hpx] at this
        exact this
      · have := h.no1
        rw [← anyB_setT (i := i) (r := beginR (l[i.toNat]?.getD default) 0)] at this
        exact this
      · have hj : j ∈ X.1.done.take m := hj
        show (if ((j, true) : WayD) = (i, true) then _ else X.1.runs (j, true)) = _
        have hne : j ≠ i := by
          rintro rfl
          have hnd := h.inv.nd
          have e2 : X.1.done = X.1.done.take m ++ j :: X.1.done.drop (m + 1) := by
            rw [← hi, ← List.drop_eq_getElem_cons (by omega : m < X.1.done.length), List.take_append_drop]
          rw [e2, List.nodup_append] at hnd
          exact hnd.2.2 j hj j (by simp) rfl
        rw [if_neg (fun e => hne (congrArg Prod.fst e))]
        exact h.id j (by
          rw [List.take_add_one]
          exact List.mem_append_left _ hj)
      · unfold undB
        rw [decide_eq_false hu]
        rfl
theorem back_begin {l : List StepD} {rs : List (List Int)} {fail : Int} {X : AskX} (hi : InvS l.length X.1) (h2 : X.1.status = 2) (h1 : anyB l.length X.1 1 = false) (hu : X.1.undone = []) (hd : ∀ i, X.1.runs (i, true) = idleR) (hf : fail ∉ X.1.done) (ho : X.2 = []) :
    BackQ l rs fail (backX l 0 X).1 (backX l 0 X).2 [] X.1.done.length := by
  unfold backX
  rw [h1, if_neg (by decide)]
  have h := backL_go (l := l) (fail := fail) (X.1.done.length - X.1.undone.length) X ⟨hi, h2, h1, by omega, by rw [hu]; simp, fun i _ => hd i, hf⟩
  rw [hu] at h
  simp only [List.filter_nil, List.length_nil, Nat.sub_zero] at h
  rw [hu, List.length_nil, Nat.sub_zero]
  rcases h with ⟨m', i, u, h3, h4, h5⟩ | ⟨h4, h5⟩
  · rw [h5, ho, List.nil_append]
    exact .inr (.inr (.inl ⟨m', i, u, h4, h3⟩))
  · rw [h5, ho]
    exact .inr (.inr (.inr h4))
end Go.Proofs.YtgfiogjfgbegpaaGreat

/-
  What WholeAlone's walk needs: nine stores, orders compared, asks read.
-/
namespace Go.Proofs.YtgfiogjfgbegpaaGreat
open Go Go.RowKit Go.Maps Go.WideShapes

theorem SagE.moved {w w' : World} {V : Nat → Prop} {k : SagK} {S : SagD} (h : SagE w V k S) (hs : w.heap.size ≤ w'.heap.size) (hN : ∀ j, j < k.N → ¬ V j → w'.heap[j]? = w.heap[j]?) (hV : ∀ j, V j → j < w.heap.size → w'.heap[j]? = w.heap[j]?) : SagE w' V k S := by
  obtain ⟨da, dc, ua, uc, h⟩ := h
  obtain ⟨L, g, q1, q2⟩ := h.map
  exact ⟨da, dc, ua, uc, ⟨(hV _ h.ownp h.ltp).trans h.cell, h.df.same hs hN, h.refs.same hs hN, ⟨L, g, q1.block (hV _ h.ownm q1.lt), q2⟩, ownsRow_keepB h.done (fun g e => hV g (h.ownd g e) (h.done.lt g e).2), ownsRow_keepB h.undone (fun g e => hV g (h.ownu g e) (h.undone.lt g e).2), h.apart, h.ownp, h.ownm, h.ownd, h.ownu⟩⟩
theorem SagE.bound {w : World} {V : Nat → Prop} {k : SagK} {S : SagD} (h : SagE w V k S) : k.N ≤ w.heap.size := by
  obtain ⟨da, dc, ua, uc, h⟩ := h
  exact h.df.1
theorem sag_set {W : World} {V : Nat → Prop} {k : SagK} {S : SagD} {e : Nat} {i : Nat} {x : Value} (h : SagE W V k S) (he : ¬ V e) (hN : k.N ≤ e) : SagE (W.setCell ⟨e, i, none⟩ x) V k S :=
  h.moved (by simp) (fun j hj _ => Below.heap_setCell _ _ _ _ (by show j ≠ e; omega)) (fun j hj _ => Below.heap_setCell _ _ _ _ (by show j ≠ e; rintro rfl; exact he hj))
theorem CallTo.after {W w' : World} {V : Nat → Prop} {k : SagK} {Z : SagD} {os : List OrdD} {v : Value} {B : Nat} (h : CallTo W V w' k Z os v) (hV : ∀ j, V j → B ≤ j ∧ j < W.heap.size) (hB : B ≤ W.heap.size) :
    ∃ (V' : Nat → Prop) (va : Option Addr) (vc : Nat), v = .slice va os.length vc ∧ w'.ownsRow W.heap.size 55 4 (.slice va os.length vc) os.length (flatO os) ∧ SagE w' V' k Z ∧ (∀ j, V' j → B ≤ j ∧ j < w'.heap.size) ∧ Below B W w' ∧ ∀ j, j < W.heap.size → ¬ V j → w'.heap[j]? = W.heap[j]? ∧ ¬ V' j := by
  obtain ⟨V', va, vc, e, hr, -, hS, hG, hU⟩ := h
  have hb := hG.below (B := B) (fun j hj => (hV j hj).1) hB
  exact ⟨V', va, vc, e, hr, hS, fun j hj => ⟨hb.2 j hj, hU j hj⟩, hb.1, fun j hj hn => hG.stays hj hn⟩
end Go.Proofs.YtgfiogjfgbegpaaGreat
