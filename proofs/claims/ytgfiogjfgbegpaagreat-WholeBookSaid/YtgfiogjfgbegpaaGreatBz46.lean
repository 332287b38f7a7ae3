/-
  diag.once: each as it comes first.
-/
import Derived.Deep.DeepCutAuto
import Derived.Test.YtgfiogjfgbegpaaGreatBz7
import Derived.Test.YtgfiogjfgbegpaaGreatBz20
import Derived.Test.YtgfiogjfgbegpaaGreatBz45
namespace Go.Proofs.YtgfiogjfgbegpaaGreat
open Go Go.RowKit Go.Sort Go.Maps

def flatG (l : List DiagD) : List Value := l.flatMap encG
theorem flatG_len (l : List DiagD) : (flatG l).length = l.length * 3 := by
  induction l with
  | nil => rfl
  | cons x l ih => rw [flatG, List.flatMap_cons, List.length_append, ← flatG, ih]; simp [encG]; omega
theorem flatG_get : ∀ {l : List DiagD} {i : Nat} (hi : i < l.length), (flatG l)[i * 3]? = some (.int .i64 l[i].1) ∧ (flatG l)[i * 3 + 1]? = some (.int .i64 l[i].2.1) ∧ (flatG l)[i * 3 + 2]? = some (.string l[i].2.2)
  | x :: l, 0, _ => ⟨rfl, rfl, rfl⟩
  | x :: l, i + 1, h => by
    have h1 := flatG_get (l := l) (i := i) (by simpa using h)
    have e : flatG (x :: l) = .int .i64 x.1 :: .int .i64 x.2.1 :: .string x.2.2 :: flatG l := rfl
    rw [e, show (i + 1) * 3 = i * 3 + 1 + 1 + 1 by omega]
    simpa using h1
theorem flatG_snoc (l : List DiagD) (x : DiagD) : flatG l ++ encG x = flatG (l ++ [x]) := by simp [flatG]
def DgR (W : World) (v : Value) (l : List DiagD) : Prop := RdS W v 3 l.length (flatG l) ∧ ∀ x ∈ l, OkG x
theorem DgR.below {W W' : World} {v : Value} {l : List DiagD} (h : DgR W v l) (hb : Below W.heap.size W W') : DgR W' v l := ⟨h.1.below hb, h.2⟩
theorem DgR.form {W : World} {v : Value} {l : List DiagD} (h : DgR W v l) : ∃ a c, v = .slice a l.length c ∧ l.length ≤ c ∧ c ≤ 9223372036854775807 := by
  obtain ⟨_, a, c, he, h4, h5, _⟩ := h.1
  exact ⟨a, c, he, h4, by unfold maxLen at h5; exact h5⟩
theorem DgR.at {W : World} {v : Value} {l : List DiagD} (h : DgR W v l) {i : Nat} (hi : i < l.length) : ∃ g off cap, v = .slice (some ⟨g, off, none⟩) l.length cap ∧ l.length ≤ cap ∧ cap ≤ 9223372036854775807 ∧ W.cell? ⟨g, off + i * 3, none⟩ = some (.int .i64 l[i].1) ∧ W.cell? ⟨g, off + i * 3 + 1, none⟩ = some (.int .i64 l[i].2.1) ∧ W.cell? ⟨g, off + i * 3 + 2, none⟩ = some (.string l[i].2.2) := by
  rcases h.1.cases (by decide) with ⟨h0, _⟩ | ⟨hn0, _, g, off, cap, rfl, q1, q2, q3⟩
  · omega
  · obtain ⟨f0, f1, f2⟩ := flatG_get hi
    exact ⟨g, off, cap, rfl, q1, q2, q3 _ _ f0, by have := q3 _ _ f1; rwa [← Nat.add_assoc] at this, by have := q3 _ _ f2; rwa [← Nat.add_assoc] at this⟩
def OwnG (W : World) (B : Nat) (va : Option Addr) (vc : Nat) (l : List DiagD) : Prop := W.ownsRow B 154 3 (.slice va l.length vc) l.length (flatG l)
theorem OwnG.below {W W' : World} {B vc : Nat} {va : Option Addr} {l : List DiagD} (h : OwnG W B va vc l) (hb : Below W.heap.size W W') : OwnG W' B va vc l := ownsB h hb
theorem OwnG.nil (W : World) (B : Nat) : OwnG W B none 0 [] := World.ownsRow_nil _ _ _ _
theorem OwnG.read {W : World} {B vc : Nat} {va : Option Addr} {l : List DiagD} (h : OwnG W B va vc l) (hok : ∀ x ∈ l, OkG x) : DgR W (.slice va l.length vc) l := ⟨RdS.of_owns h, hok⟩
theorem OwnG.ne {W : World} {B vc : Nat} {va : Option Addr} {l : List DiagD} (h : OwnG W B va vc l) {q : Nat} {c : Array Value} {t : TypeId} {fr : Nat × Nat} (hq : W.heap[q]? = some (.cells c t fr)) (ht : t ≠ 154) : (Value.slice va l.length vc).ownBlock ≠ some q := by
  intro e
  obtain ⟨cur, hc⟩ := owns_cells h e
  rw [hq] at hc
  cases hc
  exact ht rfl
theorem OwnG.nemap {κ : Type} {enc : κ → Value} {P : Program} {k e n M : Nat} {g : κ → Option Int} {W : World} {B vc : Nat} {va : Option Addr} {l : List DiagD} (h : OwnG W B va vc l) (hm : MapO P k e enc W M n g) : (Value.slice va l.length vc).ownBlock ≠ some M := by
  intro e
  obtain ⟨cur, hc⟩ := owns_cells h e
  exact hm.ne hc rfl
theorem OwnG.block {W W' : World} {B vc : Nat} {va : Option Addr} {l : List DiagD} (h : OwnG W B va vc l) (hg : ∀ q, (Value.slice va l.length vc).ownBlock = some q → W'.heap[q]? = W.heap[q]?) : OwnG W' B va vc l := by
  refine ⟨h.1, ?_⟩
  rcases h.2 with h1 | ⟨g, cap, cur, hv, hg', hh, rest⟩
  · exact .inl h1
  · exact .inr ⟨g, cap, cur, hv, hg', (hg g (by rw [hv]; rfl)).trans hh, rest⟩
theorem ownG_pushed {W w1 : World} {B vc : Nat} {va : Option Addr} {l : List DiagD} {x : DiagD} {v' : Value} {tmp : Obj} (h : OwnG W B va vc l) (hB : B ≤ W.heap.size) (hown' : w1.ownsRow B 154 3 v' (l.length + 1) (flatG l ++ encG x)) (hgrow : (W.alloc tmp).grownBy w1 (Value.slice va l.length vc).ownBlock) :
    ∃ va' vc', v' = .slice va' (l.length + 1) vc' ∧ OwnG w1 B va' vc' (l ++ [x]) ∧ Below B W w1 ∧ (∀ (q : Nat) (ob : Obj), W.heap[q]? = some ob → (Value.slice va l.length vc).ownBlock ≠ some q → w1.heap[q]? = some ob) := by
  obtain ⟨va', vc', rfl⟩ := (RdS.of_owns hown').form
  refine ⟨va', vc', rfl, ?_, ((Below.refl B W).alloc hB tmp).grown hgrow (by simp; omega) (fun j ej => (World.ownsRow.lt h j ej).1), fun q ob hq hne => ?_⟩
  · rw [flatG_snoc] at hown'
    unfold OwnG
    simpa using hown'
  · exact kept_push hq hgrow hne
theorem OwnG.heap {W : World} {B vc : Nat} {va : Option Addr} {l : List DiagD} (h : OwnG W B va vc l) : ∀ q, (Value.slice va l.length vc).ownBlock = some q → B ≤ q ∧ q < W.heap.size := fun q e => World.ownsRow.lt h q e
theorem Tryz.info_diag : (Tryz.prog.info? 154).map (fun i => (i.zero, i.size, i.bytes)) = some (some (.agg #[.int .i64 0, .int .i64 0, .string { data := #[] }]), 3, 32) := by kernel_rfl
theorem cells3_new {W : World} {a b c : Value} {t : TypeId} : ∀ j u, [a, b, c][j]? = some u → (W.alloc (.cells #[a, b, c] t)).cell? ((⟨W.heap.size, 0, none⟩ : Addr).add j) = some u := by
  intro j u h
  rw [Addr.add_lit]
  have h0 := World.alloc_heap_new W (.cells #[a, b, c] t)
  simp only [World.cell?, h0, Nat.zero_add]
  simpa using h
theorem take_succ_get {α : Type} {l : List α} {k : Nat} (h : k < l.length) : l.take (k + 1) = l.take k ++ [l[k]] := by
  rw [List.take_add_one, List.getElem?_eq_getElem h]; rfl
theorem onceL_take {l : List DiagD} {k : Nat} (h : k < l.length) : onceL (l.take (k + 1)) = if l[k] ∈ l.take k then onceL (l.take k) else onceL (l.take k) ++ [l[k]] := by
  rw [take_succ_get h, onceL_snoc]
  simp only [onceL_mem]

set_option maxRecDepth 100000 in
set_option maxHeartbeats 4000000 in
theorem once_any (l : List DiagD) (v : Value) (w : World) (hv : DgR w v l) (hl : l.length ≤ 1000000) :
    Calls Tryz.prog 118 #[v] w fun e w' => ∃ va vc, e = .returned (.slice va (onceL l).length vc) ∧ OwnG w' w.heap.size va vc (onceL l) ∧ Below w.heap.size w w' := by
  obtain ⟨i0, hi, hz0, hz1, hz2⟩ := info_parts Tryz.info_diag
  obtain ⟨a0, c0, rfl, hc1, hc2⟩ := hv.form
  have hmm := @run_makeMap Tryz.prog
  have hm := MapO.made Tryz.prog 154 3 aggG w
  have hb0 : Below w.heap.size w (w.alloc (.map #[] 0)) := (Below.refl _ _).alloc (Nat.le_refl _) _
  have hs0 : (w.alloc (.map #[] 0)).heap.size = w.heap.size + 1 := by simp
  go_enter Tryz.func118, Tryz.ntmps118
  go_wp2_with fail
  generalize (w.alloc (.map #[] 0)) = w1 at *
  have HM0 := Lib.hid hm
  have HB0 := Lib.hid hb0
  have HV := Lib.hid hv
  clear hm hb0 hv hmm
  go_loopg [10, 4] (l.length + 1) (fun gk i v wr => ∃ (k : Nat) (va : Option Addr) (vc : Nat), k + gk = l.length + 1 ∧ k ≤ l.length ∧ i = .int .i64 k ∧ v = .slice va (onceL (l.take k)).length vc ∧ Hid (OwnG wr w.heap.size va vc (onceL (l.take k))) ∧ Hid (MapO Tryz.prog 154 3 aggG wr w.heap.size k (cntI (l.take k))) ∧ Hid (Below w.heap.size w wr))
  case atStart => exact ⟨0, _, _, by omega, by omega, rfl, rfl, Lib.hid (OwnG.nil _ _), HM0, HB0⟩
  case round =>
    obtain ⟨k, va, vc, hgk, hk, rfl, rfl, HO, HM, HB⟩ := hrel
    have hg : gk = l.length + 1 - k := by omega
    subst hg
    by_cases hkl : k < l.length
    · have d1 : decide ((k : Int) < (l.length : Int)) = true := decide_eq_true (by omega)
      have hk1 : (k : Int) < (l.length : Int) := by omega
      have hok := HV.out.2 _ (List.getElem_mem hkl)
      obtain ⟨g, off, cap, he, -, -, z0, z1, z2⟩ := (DgR.below (HV.out) HB.out).at hkl
      cases he
      have hol : (onceL (l.take k)).length ≤ 1000000 := Nat.le_trans (onceL_len _) (by simp; omega)
      have HT := Lib.hid (onceL_take hkl)
      have HP := Lib.hid (cntI_push (l.take k) l[k])
      have HZ := Lib.hid (cntI_zero (l.take k) l[k])
      have HTS := Lib.hid (take_succ_get hkl)
      generalize l[k] = x at *
      go_upto_region 6 with fail
      have hx := World.alloc_heap_new wr (.cells #[.int .i64 x.1, .int .i64 x.2.1, .string x.2.2] 154)
      have hm1 := HM.out.alloc (.cells #[.int .i64 x.1, .int .i64 x.2.1, .string x.2.2] 154)
      have ho1 : OwnG (wr.alloc (.cells #[.int .i64 x.1, .int .i64 x.2.1, .string x.2.2] 154)) w.heap.size va vc (onceL (l.take k)) := HO.out.below ((Below.refl _ _).alloc (Nat.le_refl _) _)
      have hbx : Below w.heap.size w (wr.alloc (.cells #[.int .i64 x.1, .int .i64 x.2.1, .string x.2.2] 154)) := HB.out.alloc HB.out.size _
      have hTx : w.heap.size ≤ wr.heap.size := HB.out.size
      have hTl : wr.heap.size < (wr.alloc (.cells #[.int .i64 x.1, .int .i64 x.2.1, .string x.2.2] 154)).heap.size := by simp
      have hne : (Value.slice va (onceL (l.take k)).length vc).ownBlock ≠ some wr.heap.size := fun e => by have := (HO.out.heap _ e).2; omega
      clear z0 z1 z2
      generalize (wr.alloc (.cells #[.int .i64 x.1, .int .i64 x.2.1, .string x.2.2] 154)) = wx at *
      generalize wr.heap.size = T at *
      obtain ⟨p0, p1, p2, -, -, -⟩ := cells3h hx
      have hlk := hm1.look Tryz.keyDiag hok
      rw [HZ.out] at hlk
      dsimp only [aggG, encG] at hlk
      have hck : cntN (l.take k) x ≤ k := Nat.le_trans (cntN_le _ _) (by simp; omega)
      have hc0 : (((cntN (l.take k) x : Nat) : Int) == 0) = !decide (x ∈ l.take k) := by
        rw [Bool.eq_iff_iff]
        have := cntN_zero (l.take k) x
        simp only [beq_iff_eq, Bool.not_eq_true', decide_eq_false_iff_not]
        rw [← this]
        omega
      have HC0 := Lib.hid hc0
      clear hc0
      have HX := Lib.hid hx
      have HM1 := Lib.hid hm1
      have HO1 := Lib.hid ho1
      have HBX := Lib.hid hbx
      have HNE := Lib.hid hne
      have HCK := Lib.hid hck
      clear hx hm1 ho1 hbx hne hck
      have hwf : ∀ d, cntI (l.take k) x = some d → (Lit.int .i64 d).wf = true := fun d hd => by
        have := HZ.out
        rw [hd] at this
        simp at this
        rw [this]
        have := HCK.out
        exact i64_wf ⟨by omega, by omega⟩
      go_upto_if 17 with fail
      go_cut [4] (fun s4 wy => ∃ va' vc', s4 = .slice va' (onceL (l.take (k + 1))).length vc' ∧ OwnG wy w.heap.size va' vc' (onceL (l.take (k + 1))) ∧ wy.heap[T]? = some (.cells #[.int .i64 x.1, .int .i64 x.2.1, .string x.2.2] 154 (0, 0)) ∧ MapO Tryz.prog 154 3 aggG wy w.heap.size k (cntI (l.take k)) ∧ Below w.heap.size w wy)
      case first =>
        by_cases hin : x ∈ l.take k
        · have d2 : (((cntN (l.take k) x : Nat) : Int) == 0) = false := by rw [HC0.out]; simp [hin]
          have HE : Hid (onceL (l.take (k + 1)) = onceL (l.take k)) := Lib.hid (by rw [HT.out, if_pos hin])
          rw [d2]
          clear d2 hin HT HC0
          go_wp2_with fail
          go_meet
          exact ⟨_, _, by rw [HE.out], by rw [HE.out]; exact HO1.out, HX.out, HM1.out, HBX.out⟩
        · have d2 : (((cntN (l.take k) x : Nat) : Int) == 0) = true := by rw [HC0.out]; simp [hin]
          have HE : Hid (onceL (l.take (k + 1)) = onceL (l.take k) ++ [x]) := Lib.hid (by rw [HT.out, if_neg hin])
          rw [d2]
          clear d2 hin HT HC0 hlk
          go_wp2_with (at_builtin; go_must (refine wpList_push rfl _ _ 76 rfl w.heap.size 154 i0 (.agg #[.int .i64 0, .int .i64 0, .string { data := #[] }]) 3 32 Tryz.underlying76 hi hz0 hz1 hz2 rfl (by decide) _ _ _ rfl (HO1.out.alloc _) ⟨wx.heap.size, 0, none⟩ 1 1 (encG x) rfl rfl cells3_new (encG_one x) (by unfold maxLen; omega) (by omega) (by have := HBX.out.size; simp; omega) ?_; intro v' w2 hown' hgrow hfr; obtain ⟨va', vc', rfl, kb1, kb2, kb3⟩ := ownG_pushed HO1.out HBX.out.size hown' hgrow; have KB1 := Lib.hid kb1; have KB2 := Lib.hid kb2; have KB3 := Lib.hid kb3; clear hown' hgrow hfr kb1 kb2 kb3))
          go_meet
          refine ⟨_, _, by rw [HE.out, List.length_append]; rfl, by rw [HE.out]; exact KB1.out, KB3.out _ _ HX.out HNE.out, ?_, HBX.out.trans KB2.out⟩
          obtain ⟨ob, hob⟩ : ∃ ob, wx.heap[w.heap.size]? = some ob := ⟨_, Array.getElem?_eq_getElem HM1.out.lt⟩
          exact HM1.out.block ((KB3.out _ _ hob (HO1.out.nemap HM1.out)).trans hob.symm)
      case rest =>
      obtain ⟨va', vc', rfl, ho2, hx2, hm2, hb2⟩ := hcut
      generalize wc = wy at *
      have HO2 := Lib.hid ho2
      have HX2 := Lib.hid hx2
      have HM2 := Lib.hid hm2
      have HB2 := Lib.hid hb2
      clear p0 p1 p2 hlk HC0 HO1 HX HM1 HBX HNE ho2 hx2 hm2 hb2
      have hck := HCK.out
      generalize hcc : cntN (l.take k) x = c at *
      obtain ⟨q0, q1, q2, -, -, -⟩ := cells3h (W := wy.drew) HX2.out
      obtain ⟨st, w5, hme, hm5, -, -, ho5, hst⟩ := (HM2.out.drew).entry Tryz.lawDiag Tryz.keyDiag (by unfold maxLen; omega) hok hwf
      obtain ⟨w6, hes, hm6, hb6, hs6, ho6⟩ := hst ((c : Int) + 1) (i64_wf ⟨by omega, by omega⟩)
      have HM6 := Lib.hid hm6
      have HB6 := Lib.hid hb6
      have HO6 := Lib.hid ho6
      clear hst hwf hm6 hb6 ho6
      have hlk0 := (HM2.out.drew).look Tryz.keyDiag hok
      have hlk5 := hm5.look Tryz.keyDiag hok
      have hTM : T ≠ w.heap.size := HM2.out.ne HX2.out
      have hX5 : w5.heap[T]? = some (.cells #[.int .i64 x.1, .int .i64 x.2.1, .string x.2.2] 154 (0, 0)) := (ho5 T hTM).trans HX2.out
      obtain ⟨r0, r1, r2, -, -, -⟩ := cells3h hX5
      simp only [if_true, Option.getD_some, HZ.out, aggG, encG, goInt] at hlk0 hlk5 hme hes
      have hwr : IntKind.i64.wrap ((c : Int) + 1) = (c : Int) + 1 := IntWalk.i64_in _ (by omega)
      clear hm5 ho5 hTM hX5
      go_upto_region 8 with fail
      have hsz2 := HB2.out
      go_region
      go_wp2_with fail
      go_roundg (l.length + 1 - (k + 1))
      case measure => omega
      case rel =>
        refine ⟨k + 1, va', vc', by omega, by omega, by go_num, rfl, Lib.hid (HO2.out.block fun q e => ?_), Lib.hid ?_, Lib.hid (HB2.out.drew.trans HB6.out)⟩
        · have hq := HO2.out.nemap HM2.out
          rw [e] at hq
          exact HO6.out q (fun h => hq (by rw [h]))
        · rw [HTS.out, ← HP.out]
          exact HM6.out
    · have d1 : decide ((k : Int) < (l.length : Int)) = false := decide_eq_false (by omega)
      have hk1 : ¬ (k : Int) < (l.length : Int) := by omega
      have hkk : k = l.length := by omega
      go_wp2_with fail
      go_ret
      rw [List.take_of_length_le (by omega)] at *
      exact ⟨_, _, rfl, HO.out, HB.out⟩
end Go.Proofs.YtgfiogjfgbegpaaGreat

/-
  diag.Sort: contract.
-/
namespace Go.Proofs.YtgfiogjfgbegpaaGreat
open Go Go.RowKit Go.Sort Go.Shelf Go.Lib

theorem flatK_flatG (d : Array DiagD) : (flatK encG 3 d).toList = flatG d.toList := by
  apply List.ext_getElem?
  intro t
  obtain ⟨q, r, rfl, hr⟩ : ∃ q r, t = q * 3 + r ∧ r < 3 := ⟨t / 3, t % 3, by omega, by omega⟩
  by_cases h : q * 3 + r < d.size * 3
  · have h1 : (flatK encG 3 d)[q * 3 + r]! = (encG d[(q * 3 + r) / 3]!)[(q * 3 + r) % 3]! := get_flatK encG 3 d _ h
    have hs : q * 3 + r < (flatK encG 3 d).size := by simpa using h
    have e1 : (q * 3 + r) / 3 = q := by omega
    have e2 : (q * 3 + r) % 3 = r := by omega
    rw [getElem!_pos (flatK encG 3 d) _ hs, e1, e2] at h1
    rw [Array.getElem?_toList, Array.getElem?_eq_getElem hs, h1]
    have hi : q < d.toList.length := by simp; omega
    obtain ⟨f0, f1, f2⟩ := flatG_get hi
    have hd : d[q]! = d.toList[q] := by rw [getElem!_pos d q (by simpa using hi)]; simp
    rw [hd]
    have hc : r = 0 ∨ r = 1 ∨ r = 2 := by omega
    rcases hc with rfl | rfl | rfl
    · rw [Nat.add_zero, f0]; rfl
    · rw [f1]; rfl
    · rw [f2]; rfl
  · rw [List.getElem?_eq_none (by simp; omega), List.getElem?_eq_none (by rw [flatG_len]; simp; omega)]
theorem sorted_heap {W : World} {n blk : Nat} {os : Array Obj} {cur : Array Value} {t : TypeId} {fr : Nat × Nat} (h : W.heap[blk]? = some (.cells cur t fr)) (d' : Array DiagD) :
    (sortWorldK encG 3 W blk 0 n d' os).heap[blk]? = some (.cells (putCells id 0 (flatK encG 3 d') cur) t fr) := by
  have hl := (Array.getElem?_eq_some_iff.1 h).1
  unfold sortWorldK putRowK grow putRow mapBlock
  simp only
  rw [Array.getElem?_append_left (by simpa using hl), Array.getElem?_modify, if_pos rfl]
  show Option.map _ (W.heap[blk]?) = _
  rw [h]
  rfl
theorem sorted_below {W : World} {n blk B : Nat} {os : Array Obj} (d' : Array DiagD) (hB : B ≤ blk) (hl : blk < W.heap.size) : Below B W (sortWorldK encG 3 W blk 0 n d' os) := by
  refine ⟨rfl, rfl, rfl, ?_, fun k hk => ?_⟩
  · unfold sortWorldK putRowK grow putRow mapBlock
    simp only [Array.size_append, Array.size_modify]
    exact Nat.le_add_right _ _
  · unfold sortWorldK putRowK grow putRow mapBlock
    simp only
    rw [Array.getElem?_append_left (by simp [Sort.ahead]; omega), Array.getElem?_modify, if_neg (by omega)]
    rfl
theorem putCells_take (F cur : Array Value) (h : F.size ≤ cur.size) : (putCells id 0 F cur).toList.take F.size = F.toList := by
  apply List.ext_getElem?
  intro t
  by_cases ht : t < F.size
  · rw [List.getElem?_take, if_pos ht, Array.getElem?_toList, Array.getElem?_toList]
    unfold putCells
    rw [Array.getElem?_mapIdx, Array.getElem?_eq_getElem (by omega), Array.getElem?_eq_getElem ht]
    simp [ht]
  · rw [List.getElem?_eq_none (by simp; omega), List.getElem?_eq_none (by simp; omega)]
theorem ownG_sorted {W : World} {B vc n g : Nat} {os : Array Obj} {l m : List DiagD} (h : OwnG W B (some ⟨g, 0, none⟩) vc l) (hm : m.length = l.length) : OwnG (sortWorldK encG 3 W g 0 n m.toArray os) B (some ⟨g, 0, none⟩) vc m := by
  refine ⟨flatG_len m, .inr ?_⟩
  rcases h.2 with ⟨h1, _⟩ | ⟨g', cap, cur, hv, hb, hg, hn, hc, hs, ht⟩
  · cases h1
  · cases hv
    refine ⟨g, vc, _, by rw [hm], hb, sorted_heap hg _, by rw [hm]; exact hn, hc, by unfold putCells; simpa using hs, ?_⟩
    have hf : (flatK encG 3 m.toArray).size = m.length * 3 := by simp
    have := putCells_take (flatK encG 3 m.toArray) cur (by rw [hf, hs, hm]; exact Nat.mul_le_mul_right _ hn)
    rw [hf] at this
    rw [this, flatK_flatG]
theorem ownG_holds {W : World} {B vc g : Nat} {l : List DiagD} (h : OwnG W B (some ⟨g, 0, none⟩) vc l) : HoldsK encG 3 W g 0 l.toArray := by
  intro j hj
  rcases h.2 with ⟨h1, _⟩ | ⟨g', cap, cur, hv, hb, hg, hn, hc, hs, ht⟩
  · cases h1
  · cases hv
    have hf : (flatK encG 3 l.toArray).size = l.length * 3 := by simp
    rw [hf] at hj
    have hj2 : j < cur.size := by rw [hs]; exact Nat.lt_of_lt_of_le hj (Nat.mul_le_mul_right _ hn)
    have e1 : (flatK encG 3 l.toArray)[j]? = cur[j]? := by
      rw [← Array.getElem?_toList, flatK_flatG, ← ht, List.getElem?_take, if_pos hj, Array.getElem?_toList]
    have e2 : (flatK encG 3 l.toArray)[j]! = cur[j] := by
      rw [getElem!_pos _ j (by rw [hf]; exact hj)]
      rw [Array.getElem?_eq_getElem (by rw [hf]; exact hj), Array.getElem?_eq_getElem hj2] at e1
      exact Option.some.inj e1
    refine ⟨?_, ?_⟩
    · rw [e2]
      simp [World.cell?, hg, Array.getElem?_eq_getElem hj2]
    · simp [World.frozen?, hg]
set_option maxRecDepth 100000 in
theorem bitsLen0 (w : World) : Calls Tryz.prog 133 #[.int .u64 0] w fun e w' => e = .returned (.int .i64 0) ∧ w' = w := by
  have h := Any.bits_Len (SlLaysF0.n15.bits (P := Tryz.prog) { Tryz.sortDiag with }) 0 w (by omega) (by omega)
  exact h
set_option maxRecDepth 100000 in
theorem insNil (f : Value) (w : World) : Calls Tryz.prog 157 #[.slice none 0 0, .int .i64 0, .int .i64 0, f] w fun e w' => e = .returned (.tuple #[]) ∧ w' = w := by
  go_enter Tryz.func157, Tryz.ntmps157
  go_wp2_with fail
  go_loopg [8] 1 (fun gk i wr => gk = 1 ∧ i = .int .i64 1 ∧ wr = w)
  case atStart => exact ⟨rfl, rfl, rfl⟩
  case round =>
    obtain ⟨rfl, rfl, rfl⟩ := hrel
    go_wp2_with fail
    go_end0
    exact ⟨rfl, rfl⟩
set_option maxRecDepth 100000 in
theorem pdqNil (f : Value) (w : World) : Calls Tryz.prog 135 #[.slice none 0 0, .int .i64 0, .int .i64 0, .int .i64 0, f] w fun e w' => e = .returned (.tuple #[]) ∧ w' = w := by
  go_enter Tryz.func135, Tryz.ntmps135
  go_wp2_with fail
  go_loopg [1, 2] 1 (fun gk a b wr => gk = 1 ∧ a = .int .i64 0 ∧ b = .int .i64 0 ∧ wr = w)
  case atStart => exact ⟨rfl, rfl, rfl, rfl⟩
  case round =>
    obtain ⟨rfl, rfl, rfl, rfl⟩ := hrel
    go_wp2_with fail
    refine (insNil _ _).mono ?_
    rintro e w' ⟨rfl, rfl⟩
    go_wp2_with fail
    refine bodyPost_ret (results_none rfl _ _ _) rfl ?_
    exact ⟨rfl, rfl⟩
set_option maxRecDepth 100000 in
theorem sortNil (f : Value) (w : World) : Calls Tryz.prog 119 #[.slice none 0 0, f] w fun e w' => e = .returned (.tuple #[]) ∧ w' = w := by
  go_enter Tryz.func119, Tryz.ntmps119
  go_wp2_with fail
  refine (bitsLen0 _).mono ?_
  rintro e w' ⟨rfl, rfl⟩
  go_wp2_with fail
  refine (pdqNil _ _).mono ?_
  rintro e w' ⟨rfl, rfl⟩
  go_wp2_with fail
  go_end0
  exact ⟨rfl, rfl⟩
set_option maxRecDepth 100000 in
theorem dSort_any (l : List DiagD) (v : Value) (w : World) (hv : DgR w v l) (hl : l.length ≤ 1000000) :
    Calls Tryz.prog 96 #[v] w fun e w' => ∃ va vc, e = .returned (.slice va (sortD l).length vc) ∧ OwnG w' w.heap.size va vc (sortD l) ∧ Below w.heap.size w w' := by
  have HV := Lib.hid hv
  clear hv
  go_enter Tryz.func96, Tryz.ntmps96
  go_wp2_with fail
  refine (once_any l _ _ HV.out hl).mono ?_
  rintro e w1 ⟨va, vc, rfl, ho, hb⟩
  have hol : (onceL l).length ≤ 1000000 := Nat.le_trans (onceL_len l) hl
  have hcase : (va = none ∧ (onceL l).length = 0 ∧ vc = 0) ∨ ∃ g, va = some ⟨g, 0, none⟩ ∧ w.heap.size ≤ g ∧ g < w1.heap.size := by
    rcases ho.2 with ⟨h1, h2⟩ | ⟨g', cap, cur, hv, hb, hg, hn, hc, hs, ht⟩
    · injection h1 with e1 e2 e3
      exact .inl ⟨e1, h2, e3⟩
    · cases hv
      exact .inr ⟨g', rfl, hb, (Array.getElem?_eq_some_iff.1 hg).1⟩
  have HO := Lib.hid ho
  have HB := Lib.hid hb
  clear ho hb
  rcases hcase with ⟨rfl, h0, rfl⟩ | ⟨g, rfl, hg1, hg2⟩
  · have hn : l = [] := by
      cases l with
      | nil => rfl
      | cons x l =>
        have h1 := (onceL_mem (x :: l) x).2 (by simp)
        rw [List.eq_nil_of_length_eq_zero h0] at h1
        cases h1
    subst hn
    rw [show (onceL ([] : List DiagD)).length = 0 from rfl]
    go_wp2_with fail
    refine (sortNil _ _).mono ?_
    rintro e w2 ⟨rfl, rfl⟩
    go_wp2_with fail
    go_ret
    exact ⟨none, 0, rfl, HO.out, HB.out⟩
  · have hs := sortDiag_any g 0 vc (onceL l).toArray w1 (ownG_holds HO.out) hg2 (by simp; omega)
    rw [show (onceL l).toArray.size = (onceL l).length by simp] at hs
    have HS := Lib.hid hs
    clear hs
    go_wp2_with fail
    refine HS.out.mono ?_
    rintro e w2 ⟨rfl, d', n, os, h1, h2, rfl⟩
    have hd : d'.toList = sortD l := sorted_is (by simpa using h1) (by simpa using h2)
    have hd2 : d' = (sortD l).toArray := by rw [← hd]
    have hsz : (sortD l).length = (onceL l).length := by rw [← hd]; have := h1.1; simpa using this
    clear h1 h2 hd
    subst hd2
    have ho2 := ownG_sorted (n := n) (os := os) HO.out hsz
    have hb2 := sorted_below (n := n) (os := os) (sortD l).toArray hg1 hg2
    have HO2 := Lib.hid ho2
    have HB2 := Lib.hid hb2
    clear ho2 hb2
    generalize sortWorldK encG 3 w1 g 0 n (sortD l).toArray os = w2 at *
    go_wp2_with fail
    go_ret
    exact ⟨_, _, by rw [hsz]; rfl, HO2.out, HB.out.trans HB2.out⟩
end Go.Proofs.YtgfiogjfgbegpaaGreat

/-
  rescriptref24: Less, Same, Sort: contracts.
-/
namespace Go.Proofs.YtgfiogjfgbegpaaGreat
open Go Go.RowKit Go.Sort Go.Shelf Go.Lib Go.WideShapes

end Go.Proofs.YtgfiogjfgbegpaaGreat
