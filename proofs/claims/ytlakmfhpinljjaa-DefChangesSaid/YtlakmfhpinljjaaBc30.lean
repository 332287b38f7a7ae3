/-
  rescriptref21.Tree: contract.
-/
import Derived.Deep.DeepCutAuto
import Derived.Test.YtlakmfhpinljjaaBc20
import Derived.Test.YtlakmfhpinljjaaBc25
namespace Go.Proofs.Ytlakmfhpinljjaa
open Go Go.RowKit Go.WideShapes

/-- A Map in the variable at block T. -/
structure MapZ (w : World) (Bin lo T : Nat) (keys : List ByteArray) (kids : List Tree) (ka : Option Addr) (kn kc : Nat) (ba : Option Addr) (bn bc : Nat) : Prop where
  map : MapB w lo (ZV Bin lo T) (.slice ka kn kc) (.slice ba bn bc) keys kids
  at' : w.heap[T]? = some (.cells #[.int .u8 3, .string { data := #[] }, .slice ka kn kc, .slice ba bn bc, .int .i64 0] 34 (0, 0))
  bin : Bin ≤ lo
  lo : lo ≤ T
theorem MapZ.lt {w : World} {Bin lo T : Nat} {keys : List ByteArray} {kids : List Tree} {ka ba : Option Addr} {kn kc bn bc : Nat} (h : MapZ w Bin lo T keys kids ka kn kc ba bn bc) : T < w.heap.size := (Array.getElem?_eq_some_iff.1 h.at').1
theorem MapZ.below {w w' : World} {Bin lo T : Nat} {keys : List ByteArray} {kids : List Tree} {ka ba : Option Addr} {kn kc bn bc : Nat} (h : MapZ w Bin lo T keys kids ka kn kc ba bn bc) (hb : Below w.heap.size w w') : MapZ w' Bin lo T keys kids ka kn kc ba bn bc :=
  ⟨h.map.below hb, (hb.block _ h.lt).trans h.at', h.bin, h.lo⟩
/-- A put, its result a value. -/
theorem zput_any (Bin lo s : Nat) (Z : Nat → Prop) (key : ByteArray) (kid : Tree) (keys : List ByteArray) (kids : List Tree) (ka : Option Addr) (kn kc : Nat) (ba : Option Addr) (bn bc : Nat) (cs : List Value) (w0 w : World)
    (hm : MapB w0 lo Z (.slice ka kn kc) (.slice ba bn bc) keys kids) (hb : Below w0.heap.size w0 w) (hs : w0.heap.size ≤ s) (hkid : NodeO w (PV Bin s w.heap.size) cs kid) (hBin : Bin ≤ lo) (hZB : ∀ g, Z g → Bin ≤ g) (hZlt : ∀ g, Z g → g < w0.heap.size) (hlo : lo ≤ w0.heap.size) (hk1 : keys.length ≤ 19) (hk2 : kids.length ≤ 19) (hkey : key.size ≤ maxLen) :
    Calls Try.prog 77 #[.agg #[.int .u8 3, .string { data := #[] }, .slice ka kn kc, .slice ba bn bc, .int .i64 0], .string key, .agg cs.toArray] w fun e w' => ∃ ka' kn' kc' ba' bn' bc', e = .returned (.agg #[.int .u8 3, .string { data := #[] }, .slice ka' kn' kc', .slice ba' bn' bc', .int .i64 0]) ∧
      MapB w' lo Z (.slice ka' kn' kc') (.slice ba' bn' bc') (keys ++ [key]) (kids ++ [kid]) ∧ Below lo w w' ∧ ∀ g, Z g → w'.heap[g]? = w.heap[g]? := by
  have hsz := hb.size
  refine (rput_any Bin lo s Z key kid keys kids _ _ cs w0 w hm hb hs hkid hBin hZB hZlt hlo (by omega) (by omega) hkey).mono ?_
  rintro e w' ⟨vk', vc', rfl, h1, h2, h3⟩
  obtain ⟨ka', kc', ba', bc', rfl, rfl⟩ := h1.form
  exact ⟨ka', _, kc', ba', _, bc', rfl, h1, h2, fun g hz => h3.keep g (by have := hZlt g hz; omega) (fun e => hm.kZ g e hz) (fun e => hm.cZ g e hz)⟩
/-- A put of a variable's Map. -/
theorem MapZ.put {w0 : World} {Bin lo T : Nat} {keys : List ByteArray} {kids : List Tree} {ka ba : Option Addr} {kn kc bn bc : Nat} (hm : MapZ w0 Bin lo T keys kids ka kn kc ba bn bc) (s : Nat) (key : ByteArray) (kid : Tree) (cs : List Value) (w : World)
    (hb : Below w0.heap.size w0 w) (hs : w0.heap.size ≤ s) (hkid : NodeO w (PV Bin s w.heap.size) cs kid) (hk1 : keys.length ≤ 19) (hk2 : kids.length ≤ 19) (hkey : key.size ≤ maxLen) :
    Calls Try.prog 77 #[.agg #[.int .u8 3, .string { data := #[] }, .slice ka kn kc, .slice ba bn bc, .int .i64 0], .string key, .agg cs.toArray] w fun e w' => ∃ ka' kn' kc' ba' bn' bc', e = .returned (.agg #[.int .u8 3, .string { data := #[] }, .slice ka' kn' kc', .slice ba' bn' bc', .int .i64 0]) ∧
      MapB w' lo (ZV Bin lo T) (.slice ka' kn' kc') (.slice ba' bn' bc') (keys ++ [key]) (kids ++ [kid]) ∧ w'.heap[T]? = some (.cells #[.int .u8 3, .string { data := #[] }, .slice ka kn kc, .slice ba bn bc, .int .i64 0] 34 (0, 0)) ∧ Below lo w w' := by
  have h1 := hm.lt; have h2 := hm.lo; have h3 := hm.bin
  refine (zput_any Bin lo s (ZV Bin lo T) key kid keys kids ka kn kc ba bn bc cs w0 w hm.map hb hs hkid hm.bin (fun g hg => by rcases hg with hg | hg <;> omega) (fun g hg => by rcases hg with hg | hg <;> omega) (by omega) hk1 hk2 hkey).mono ?_
  rintro e w' ⟨ka', kn', kc', ba', bn', bc', rfl, h4, h5, h6⟩
  exact ⟨ka', kn', kc', ba', bn', bc', rfl, h4, (h6 T (.inr rfl)).trans ((hb.block T h1).trans hm.at'), h5⟩
/-- A Map that is held as a value alone: it may get a variable. -/
theorem zmap_nil (w : World) (Bin lo : Nat) : MapB w lo (fun g => Bin ≤ g ∧ g < lo) (.slice none 0 0) (.slice none 0 0) [] [] := MapB.nil _ _ _
theorem MapZ.stored {w : World} {Bin lo T : Nat} {keys : List ByteArray} {kids : List Tree} {ka ba : Option Addr} {kn kc bn bc : Nat} {c0 c1 c2 c3 c4 : Value} (h : MapB w lo (ZV Bin lo T) (.slice ka kn kc) (.slice ba bn bc) keys kids) (ht : w.heap[T]? = some (.cells #[c0, c1, c2, c3, c4] 34 (0, 0))) (h1 : Bin ≤ lo) (h2 : lo ≤ T) :
    MapZ (((((w.setCell ⟨T, 0, none⟩ (.int .u8 3)).setCell ⟨T, 1, none⟩ (.string { data := #[] })).setCell ⟨T, 2, none⟩ (.slice ka kn kc)).setCell ⟨T, 3, none⟩ (.slice ba bn bc)).setCell ⟨T, 4, none⟩ (.int .i64 0)) Bin lo T keys kids ka kn kc ba bn bc :=
  ⟨h.frm (fun g _ hz => set5w_other (fun e => hz (.inr e))) (by simp), set5w ht, h1, h2⟩
theorem MapZ.alloc {w : World} {Bin lo : Nat} {keys : List ByteArray} {kids : List Tree} {ka ba : Option Addr} {kn kc bn bc : Nat} (h : MapB w lo (fun g => Bin ≤ g ∧ g < lo) (.slice ka kn kc) (.slice ba bn bc) keys kids) (h1 : Bin ≤ lo) (h2 : lo ≤ w.heap.size) :
    MapZ (w.alloc (.cells #[.int .u8 3, .string { data := #[] }, .slice ka kn kc, .slice ba bn bc, .int .i64 0] 34)) Bin lo w.heap.size keys kids ka kn kc ba bn bc := by
  refine ⟨?_, World.alloc_heap_new w _, h1, h2⟩
  have h3 : MapB w lo (ZV Bin lo w.heap.size) (.slice ka kn kc) (.slice ba bn bc) keys kids := MapB.reZ h (fun g hg hz => by
    rcases hz with hz | hz
    · exact hz
    · omega)
  exact h3.below ((Below.refl _ _).alloc (Nat.le_refl _) _)
theorem MapB.zv {w : World} {Bin lo T : Nat} {keys : List ByteArray} {kids : List Tree} {vk vc : Value} (h : MapB w lo (fun g => Bin ≤ g ∧ g < lo) vk vc keys kids) (hT : w.heap.size ≤ T) : MapB w lo (ZV Bin lo T) vk vc keys kids := MapB.reZ h (fun g hg hz => by
  rcases hz with hz | hz
  · exact hz
  · omega)
theorem MapZ.node {w : World} {Bin lo T : Nat} {keys : List ByteArray} {kids : List Tree} {ka ba : Option Addr} {kn kc bn bc : Nat} (h : MapZ w Bin lo T keys kids ka kn kc ba bn bc) : NodeO w (PV Bin lo w.heap.size) [.int .u8 3, .string { data := #[] }, .slice ka kn kc, .slice ba bn bc, .int .i64 0] (mapT keys kids) :=
  h.map.nodeP (fun g h1 h2 => .inl ⟨h1, h2⟩)
theorem rdig_any (n : Int) (w : World) (h0 : 0 ≤ n) (h1 : n ≤ 999999999) :
    Calls Try.prog 79 #[.int .i64 n] w fun e w' => e = .returned (.string (digS n)) ∧ w = w' := by
  obtain ⟨m, rfl⟩ : ∃ m : Nat, n = (m : Int) := ⟨n.toNat, by omega⟩
  have h2 : digS (m : Int) = mkS (digN m) := by unfold digS; rw [if_pos ⟨h0, h1⟩]; rfl
  rw [h2]
  exact rdigits_any 9 m w (by omega) (by omega)
theorem SeqV.formV {w : World} {Bin N : Nat} {vc : Value} {kids : List Tree} (h : SeqV w Bin N vc kids) : ∃ ba bn bc, vc = .slice ba bn bc := by
  obtain ⟨ba, bc, e⟩ := h.form; exact ⟨ba, _, bc, e⟩
theorem cellLo {n : Nat} {W W' : World} (hb : Below n W W') {p : Addr} {v : Value} (hp : p.block < n) (h : W.cell? p = some v) : W'.cell? p = some v := (hb.cell hp).trans h
theorem nodeO_new (w : World) (P : Nat → Prop) {cs : List Value} {x : Tree} (h : NodeR w cs x) (hP : ∀ g, g < w.heap.size → P g) {w' : World} (hb : Below w.heap.size w w') : NodeO w' P cs x := (NodeO.of_R h).keep (fun g hg _ => hb.block g hg) hP

set_option maxRecDepth 100000 in
set_option maxHeartbeats 8000000 in
theorem rTree_any (d : DefD) (cs : List Value) (sa : Option Addr) (sc : Nat) (w : World) (h : DefR w cs d sa sc) (hs : SmallD d) (hnum : ∀ s ∈ d.steps, 0 ≤ s.most ∧ s.most ≤ 999999999 ∧ 0 ≤ s.first ∧ s.first ≤ 999999999 ∧ 0 ≤ s.factor ∧ s.factor ≤ 999999999 ∧ 0 ≤ s.limit ∧ s.limit ≤ 999999999) :
    Calls Try.prog 26 #[.agg cs.toArray] w fun e w' => ∃ cs' : List Value, e = .returned (.agg cs'.toArray) ∧ NodeR w' cs' (defT d) ∧ Below w.heap.size w w' := by
  obtain ⟨i0, hi, hz0, hz1, hz2⟩ := info_parts Try.info_node
  obtain ⟨rfl, hnm, htx, hst⟩ := h
  have HST := Lib.hid hst
  have HSM := Lib.hid hs
  have HNUM := Lib.hid hnum
  have hds := hs.steps
  clear hst hs hnum
  go_enter Try.func26, Try.ntmps26
  go_upto_region 1 with fail
  obtain ⟨hb0, g0, g1, hsz⟩ := alloc2 w 24 34 #[.string d.name, .string d.text, .slice sa d.steps.length sc] #[.int .u8 0, .string { data := #[] }, .slice none 0 0, .slice none 0 0, .int .i64 0]
  generalize hwz : (w.alloc (.cells #[.string d.name, .string d.text, .slice sa d.steps.length sc] 24)).alloc (.cells #[.int .u8 0, .string { data := #[] }, .slice none 0 0, .slice none 0 0, .int .i64 0] 34) = wz at *
  have HSZ := Lib.hid hsz
  have HB0 := Lib.hid hb0
  have G0 := Lib.hid g0
  have G1 := Lib.hid g1
  have hszl : w.heap.size + 2 ≤ wz.heap.size := by omega
  obtain ⟨x0, x1, x2⟩ := cells3 g0
  clear hsz hb0 g0 g1 hwz
  go_wp2_with fail
  refine (rScalar_any d.name _).mono ?_
  rintro e wa ⟨rfl, hba⟩
  have HBA := Lib.hid hba
  clear hba
  go_wp2_with fail
  refine (zput_any w.heap.size (w.heap.size + 2) wz.heap.size (fun g => w.heap.size ≤ g ∧ g < w.heap.size + 2) sSaga (scalarT d.name) [] [] none 0 0 none 0 0 _ wz wa (zmap_nil _ _ _) HBA.out (Nat.le_refl _) (scalar_node _ _ hnm) (by omega) (fun g hg => hg.1) (fun g hg => by have := hg.2; omega) hszl (by simp) (by simp) (by decide)).mono ?_
  rintro e wb ⟨kaA, knA, kcA, baA, bnA, bcA, rfl, hmA, hbb, -⟩
  have hsb := hbb.size
  have hsa := HBA.out.size
  have HMA := Lib.hid (MapZ.alloc hmA (by omega) (by omega))
  have HBB := Lib.hid ((HBA.out.mono hszl).trans hbb)
  clear hmA hbb
  go_upto_region 2 with fail
  have hxc : Below wb.heap.size wb (wb.alloc (.cells #[.int .u8 3, .string { data := #[] }, .slice kaA knA kcA, .slice baA bnA bcA, .int .i64 0] 34)) := (Below.refl _ _).alloc (Nat.le_refl _) _
  have hT3 : w.heap.size + 2 ≤ wb.heap.size := by omega
  generalize hT3e : wb.heap.size = T3 at *
  generalize wb.alloc (.cells #[.int .u8 3, .string { data := #[] }, .slice kaA knA kcA, .slice baA bnA bcA, .int .i64 0] 34) = wT at *
  have HB2 := Lib.hid (HBB.out.trans (hxc.mono (by omega)))
  have hlc := HMA.out.lt
  clear hxc hT3e HBB HBA
  clear x0 x1 x2
  obtain ⟨x0, x1, x2⟩ := cells3 ((HB2.out.block _ (by omega)).trans G0.out)
  obtain ⟨t0, t1, t2, t3, t4⟩ := cells5 HMA.out.at'
  have HX2 := Lib.hid HB2
  go_upto_if 18 with fail
  go_cut [] (fun wx => ∃ ka' kn' kc' ba' bn' bc', MapZ wx w.heap.size (w.heap.size + 2) T3 (consIf (hasText d) [sSaga] sText) (consIf (hasText d) [scalarT d.name] (scalarT d.text)) ka' kn' kc' ba' bn' bc' ∧ Below (w.heap.size + 2) wz wx)
  case first =>
    by_cases hT : hasText d = true
    · have hT1 : (!d.text.toList.isEmpty) = true := hT
      rw [hT1]
      clear hT1
      go_wp2
      refine E_region (S := (fun W => W.cell? ⟨T3, 0, none⟩ = some (.int .u8 3) ∧ W.cell? ⟨T3, 1, none⟩ = some (.string { data := #[] }) ∧ W.cell? ⟨T3, 2, none⟩ = some (.slice kaA knA kcA) ∧ W.cell? ⟨T3, 3, none⟩ = some (.slice baA bnA bcA) ∧ W.cell? ⟨T3, 4, none⟩ = some (.int .i64 0) ∧ W.cell? ⟨w.heap.size, 1, none⟩ = some (.string d.text))) 4 (by kernel_rfl) ⟨t0, t1, t2, t3, t4, x1⟩ (fun _ _ _ _ _ h => h) (fun Q' hQ hK' hHeld => ?_)
      refine E_take hQ hHeld 0 (v := ?av1) rfl rfl (by kernel_rfl) (by kernel_rfl) (by kernel_rfl) (by kernel_rfl) (by kernel_rfl) (by rfl) ?ay1 ?ar1
      case ay1 => (intro w hSw; (try dsimp only at hSw); go_simp; (try with_reducible rfl))
      (try simp only [Act.put, List.setIfInBounds_toArray, List.set_cons_zero, List.set_cons_succ])
      refine E_take0 hQ (fun _ => hHeld) 1 (v := ?av2) rfl rfl (by kernel_rfl) (by kernel_rfl) (by kernel_rfl) (by decide) (by rfl) ?ay2 ?ar2
      case ay2 => (intro w; go_simp; (try with_reducible rfl))
      (try simp only [Act.put, List.setIfInBounds_toArray, List.set_cons_zero, List.set_cons_succ])
      refine E_take hQ hHeld 2 (v := ?av3) rfl rfl (by kernel_rfl) (by kernel_rfl) (by kernel_rfl) (by kernel_rfl) (by kernel_rfl) (by rfl) ?ay3 ?ar3
      case ay3 => (intro w hSw; (try dsimp only at hSw); go_simp; (try with_reducible rfl))
      (try simp only [Act.put, List.setIfInBounds_toArray, List.set_cons_zero, List.set_cons_succ])
      refine E_one 3 (by kernel_rfl) rfl (by rfl) (fun K hK => ?_)
      go_simp
      refine (rScalar_any d.text _).mono ?_
      rintro e we ⟨rfl, hbe⟩
      have HDE := Lib.hid hbe
      have HBE : Hid (Below wT.heap.size wT we) := Lib.hid (((Below.refl _ wT).drew).trans hbe)
      clear hbe
      refine hK.out _ _ (fun _ _ => ⟨cellB HDE.out hHeld.1, cellB HDE.out hHeld.2.1, cellB HDE.out hHeld.2.2.1, cellB HDE.out hHeld.2.2.2.1, cellB HDE.out hHeld.2.2.2.2.1, cellB HDE.out hHeld.2.2.2.2.2⟩) (fun hHeld' => ?_)
      replace hHeld := hHeld' (by rfl) (by decide)
      clear hK hHeld'
      (try simp only [Act.put, List.setIfInBounds_toArray, List.set_cons_zero, List.set_cons_succ])
      refine E_one 4 (by kernel_rfl) rfl (by rfl) (fun K hK => ?_)
      go_simp
      refine (HMA.out.put wT.heap.size sText (scalarT d.text) _ we HBE.out (Nat.le_refl _) (scalar_node _ _ htx) (by simp) (by simp) (by decide)).mono ?_
      rintro e wf ⟨ka', kn', kc', ba', bn', bc', rfl, hm', ht', hb'⟩
      obtain ⟨q0, q1, q2, q3, q4⟩ := cells5 ht'
      obtain ⟨f0, f1, f2, f3, f4⟩ := cells5w ht'
      have HM' := Lib.hid hm'
      have HT' := Lib.hid ht'
      have HB' := Lib.hid hb'
      clear hm' ht' hb'  
      refine hK.out _ _ (fun _ h => absurd rfl h) (fun _ => ?_)
      clear hK hHeld
      (try simp only [Act.put, List.setIfInBounds_toArray, List.set_cons_zero, List.set_cons_succ])
      refine E_one 5 (by kernel_rfl) rfl (by rfl) (fun K hK => ?_)
      go_simp
      (try simp only [Act.put, List.setIfInBounds_toArray, List.set_cons_zero, List.set_cons_succ])
      refine hK.out _ _ (fun h => absurd h (by decide)) (fun _ => ?_)
      clear hK
      (try simp only [Act.put, List.setIfInBounds_toArray, List.set_cons_zero, List.set_cons_succ])
      refine E_done (by kernel_rfl) ?_ _
      refine hK'.out _ _ ?_
      clear q0 q1 q2 q3 q4 f0 f1 f2 f3 f4 x0 x1 x2 t0 t1 t2 t3 t4
      go_wp2_with fail
      go_meet
      exact ⟨ka', kn', kc', ba', bn', bc', by rw [hT]; exact MapZ.stored HM'.out HT'.out (by omega) hT3, set5w_below (HB2.out.trans ((HBE.out.mono (by omega)).trans HB'.out)) hT3⟩
    · have hT0 : hasText d = false := by simpa using hT
      have hT1 : (!d.text.toList.isEmpty) = false := hT0
      rw [hT1]
      clear hT1
      go_wp2_with fail
      go_meet
      exact ⟨_, _, _, _, _, _, by rw [hT0]; exact HMA.out, HB2.out⟩
  case rest =>
  obtain ⟨kaB, knB, kcB, baB, bnB, bcB, hmB, hbB⟩ := hcut
  clear x0 x1 x2 t0 t1 t2 t3 t4 HX2 HMA HB2
  generalize wc = wd at *
  have hld := hmB.lt
  have HMB := Lib.hid hmB
  have HBD := Lib.hid hbB
  clear hmB hbB
  go_upto_region 5 with fail
  have hxd : Below wd.heap.size wd (wd.alloc (.cells #[.int .u8 2, .string { data := #[] }, .slice none 0 0, .slice none 0 0, .int .i64 0] 34)) := (Below.refl _ _).alloc (Nat.le_refl _) _
  have hsv : SeqV (wd.alloc (.cells #[.int .u8 2, .string { data := #[] }, .slice none 0 0, .slice none 0 0, .int .i64 0] 34)) w.heap.size wd.heap.size (.slice none 0 0) [] := SeqV.new (by omega)
  have HM4 := Lib.hid (HMB.out.below hxd)
  have HB4 := Lib.hid (HBD.out.trans (hxd.mono (by omega)))
  generalize hN4 : wd.heap.size = N4 at *
  generalize wd.alloc (.cells #[.int .u8 2, .string { data := #[] }, .slice none 0 0, .slice none 0 0, .int .i64 0] 34) = w4 at *
  have HSV := Lib.hid hsv
  have HXD := Lib.hid hxd
  have HN4 := Lib.hid hN4
  clear hxd hsv HBD hN4
  have hN4l := HSV.out.lt
  go_wp2_with fail
  go_loopw [5] (fun i wr => ∃ (j : Nat) (vc : Value), j ≤ d.steps.length ∧ i = .int .i64 j ∧ Hid (SeqV wr w.heap.size N4 vc ((d.steps.take j).map stepT)) ∧ Hid (Below N4 w4 wr)) (fun i _ => d.steps.length - (intOf i).toNat)
  case atStart => exact ⟨0, _, by omega, rfl, HSV, Lib.hid (Below.refl _ _)⟩
  case round =>
    rename World => wo
    obtain ⟨j, vc, hj, rfl, HR, HB⟩ := hrel
    have hb2 : Below (w.heap.size + 2) wz wo := HB4.out.trans (HB.out.mono (by omega))
    have hbw : Below w.heap.size w wo := HB0.out.trans (hb2.mono (by omega))
    obtain ⟨x0, x1, x2⟩ := cells3 ((hb2.block _ (by omega)).trans G0.out)
    have HBW := Lib.hid hbw
    have HB2 := Lib.hid hb2
    clear hb2
    by_cases hlt : j < d.steps.length
    · obtain ⟨g, off, cap, aa, ac, ka, kc, ba, bc, he, q1, q2, hsr0, hat0⟩ := HST.out.at hlt
      obtain ⟨a0, a1, a2, a3, a4, a5, a6, a7, a8, a9, a10, a11, a12⟩ := hat0.below hbw
      have hsr := hsr0.below hbw
      have HN0 := Lib.hid hsr0.note
      clear hat0 hsr0
      cases he
      have hj0 : (0 : Int) ≤ (j : Int) := by omega
      have hj1 : (j : Int) < (d.steps.length : Int) := by omega
      have HSS := Lib.hid (HSM.out.each _ (List.getElem_mem hlt))
      have HNS := Lib.hid (HNUM.out _ (List.getElem_mem hlt))
      have HE1 : Hid ((d.steps.take j).map stepT ++ [stepT d.steps[j]] = (d.steps.take (j + 1)).map stepT) := Lib.hid (by rw [List.take_succ_eq_append_getElem hlt, List.map_append]; rfl)
      have hlk : ((d.steps.take j).map stepT).length = j := by simp; omega
      have HLK := Lib.hid hlk
      clear hbw hlk
      generalize d.steps[j] = s at *
      have hA : Below wo.heap.size wo (wo.alloc (.cells #[.string s.name, .string s.action, .string s.undo, .slice aa s.after.length ac, .int .i64 s.most, .int .i64 s.first, .int .i64 s.factor, .int .i64 s.limit, .int .u8 (s.note.kind : Int), .string s.note.text, .slice ka s.note.keys.length kc, .slice ba s.note.kids.length bc, .int .i64 s.note.line] 45)) := (Below.refl _ _).alloc (Nat.le_refl _) _
      have hKB := World.alloc_heap_new wo (.cells #[.string s.name, .string s.action, .string s.undo, .slice aa s.after.length ac, .int .i64 s.most, .int .i64 s.first, .int .i64 s.factor, .int .i64 s.limit, .int .u8 (s.note.kind : Int), .string s.note.text, .slice ka s.note.keys.length kc, .slice ba s.note.kids.length bc, .int .i64 s.note.line] 45)
      have hszA : (wo.alloc (.cells #[.string s.name, .string s.action, .string s.undo, .slice aa s.after.length ac, .int .i64 s.most, .int .i64 s.first, .int .i64 s.factor, .int .i64 s.limit, .int .u8 (s.note.kind : Int), .string s.note.text, .slice ka s.note.keys.length kc, .slice ba s.note.kids.length bc, .int .i64 s.note.line] 45)).heap.size = wo.heap.size + 1 := by simp
      have HSR := Lib.hid (hsr.below hA)
      clear hsr
      go_upto_region 9 with fail
      clear a0 a1 a2 a3 a4 a5 a6 a7 a8 a9 a10 a11 a12
      generalize wo.alloc (.cells #[.string s.name, .string s.action, .string s.undo, .slice aa s.after.length ac, .int .i64 s.most, .int .i64 s.first, .int .i64 s.factor, .int .i64 s.limit, .int .u8 (s.note.kind : Int), .string s.note.text, .slice ka s.note.keys.length kc, .slice ba s.note.kids.length bc, .int .i64 s.note.line] 45) = wA at *
      have hltA : wo.heap.size < wA.heap.size := by omega
      have HA := Lib.hid hA
      have HKB := Lib.hid hKB
      have hNr := HR.out.lt
      obtain ⟨a0, a1, -⟩ := cells13q hKB
      clear hKB hA
      go_cut [7] (fun s7 wx => ∃ T7 ka' kn' kc' ba' bn' bc', s7 = .pointer (some ⟨T7, 0, none⟩) ∧ MapZ wx w.heap.size (wo.heap.size + 1) T7 [sName, sAction] [scalarT s.name, scalarT s.action] ka' kn' kc' ba' bn' bc' ∧ Below (wo.heap.size + 1) wA wx)
      case first =>
        refine E_region (S := (fun W => W.cell? ⟨wo.heap.size, 0, none⟩ = some (.string s.name) ∧ W.cell? ⟨wo.heap.size, 1, none⟩ = some (.string s.action))) 7 (by kernel_rfl) ⟨a0, a1⟩ (fun _ _ _ _ _ h => h) (fun Q' hQ hK' hHeld => ?_)
        refine E_take0 hQ (fun _ => hHeld) 0 (v := ?nv0) rfl rfl (by kernel_rfl) (by kernel_rfl) (by kernel_rfl) (by decide) (by rfl) ?ny0 ?nr0
        case ny0 => (intro w; go_simp; (try with_reducible rfl))
        (try simp only [Act.put, List.setIfInBounds_toArray, List.set_cons_zero, List.set_cons_succ])
        refine E_take0 hQ (fun _ => hHeld) 1 (v := ?nv1) rfl rfl (by kernel_rfl) (by kernel_rfl) (by kernel_rfl) (by decide) (by rfl) ?ny1 ?nr1
        case ny1 => (intro w; go_simp; (try with_reducible rfl))
        (try simp only [Act.put, List.setIfInBounds_toArray, List.set_cons_zero, List.set_cons_succ])
        refine E_take hQ hHeld 2 (v := ?nv2) rfl rfl (by kernel_rfl) (by kernel_rfl) (by kernel_rfl) (by kernel_rfl) (by kernel_rfl) (by rfl) ?ny2 ?nr2
        case ny2 => (intro w hSw; (try dsimp only at hSw); go_simp; (try with_reducible rfl))
        (try simp only [Act.put, List.setIfInBounds_toArray, List.set_cons_zero, List.set_cons_succ])
        refine E_take0 hQ (fun _ => hHeld) 5 (v := ?nv3) rfl rfl (by kernel_rfl) (by kernel_rfl) (by kernel_rfl) (by decide) (by rfl) ?ny3 ?nr3
        case ny3 => (intro w; go_simp; (try with_reducible rfl))
        (try simp only [Act.put, List.setIfInBounds_toArray, List.set_cons_zero, List.set_cons_succ])
        refine E_take hQ hHeld 6 (v := ?nv4) rfl rfl (by kernel_rfl) (by kernel_rfl) (by kernel_rfl) (by kernel_rfl) (by kernel_rfl) (by rfl) ?ny4 ?nr4
        case ny4 => (intro w hSw; (try dsimp only at hSw); go_simp; (try with_reducible rfl))
        (try simp only [Act.put, List.setIfInBounds_toArray, List.set_cons_zero, List.set_cons_succ])
        have FB0 : Hid (Below (wo.heap.size + 1) wA wA.drew) := Lib.hid ((Below.refl _ _).drew)
        have FM0 : Hid (MapB wA.drew (wo.heap.size + 1) (fun g => w.heap.size ≤ g ∧ g < (wo.heap.size + 1)) (.slice none 0 0) (.slice none 0 0) [] []) := Lib.hid (zmap_nil _ _ _)
        have hl0 : (wo.heap.size + 1) ≤ wA.drew.heap.size := by show _ ≤ wA.heap.size; omega
        have hbl : w.heap.size ≤ (wo.heap.size + 1) := by have := HBW.out.size; omega
        generalize wA.drew = wn0 at *
        refine E_two 3 9 (by kernel_rfl) rfl rfl (by rfl) (by rfl) (fun K hK => ?_) (fun K hK => ?_)
        · go_simp
          refine (rScalar_any s.name _).mono ?_
          rintro e wn1 ⟨rfl, hb1⟩
          have FB1 := Lib.hid (FB0.out.trans (hb1.mono hl0))
          have FM1 := Lib.hid (FM0.out.below hb1)
          have hl1 : (wo.heap.size + 1) ≤ wn1.heap.size := Nat.le_trans hl0 hb1.size
          have HD1 := Lib.hid hb1
          clear hb1
          refine hK.out _ _ (fun _ _ => ⟨cellB HD1.out hHeld.1, cellB HD1.out hHeld.2⟩) (fun hHeld' => ?_)
          replace hHeld := hHeld' (by rfl) (by decide)
          clear hK hHeld'
          (try simp only [Act.put, List.setIfInBounds_toArray, List.set_cons_zero, List.set_cons_succ])
          refine E_two 4 9 (by kernel_rfl) rfl rfl (by rfl) (by rfl) (fun K hK => ?_) (fun K hK => ?_)
          · go_simp
            refine (zput_any w.heap.size (wo.heap.size + 1) wn1.heap.size (fun g => w.heap.size ≤ g ∧ g < (wo.heap.size + 1)) sName (scalarT s.name) [] [] none 0 0 none 0 0 _ wn1 wn1 FM1.out (Below.refl _ _) (Nat.le_refl _) (scalar_node _ _ HSR.out.ok.name) hbl (fun g hg => hg.1) (fun g hg => by have := hg.2; omega) hl1 (by simp) (by simp) (by decide)).mono ?_
            rintro e wn2 ⟨ka2, kn2, kc2, ba2, bn2, bc2, rfl, hm2, hb2, hz2⟩
            have FB2 := Lib.hid (FB1.out.trans hb2)
            have FM2 := Lib.hid hm2
            have hl2 : (wo.heap.size + 1) ≤ wn2.heap.size := Nat.le_trans hl1 hb2.size
            have HD2 := Lib.hid hb2
            clear hb2 hz2 hm2
            refine hK.out _ _ (fun _ _ => ⟨cellLo HD2.out (by show wo.heap.size < _; omega) hHeld.1, cellLo HD2.out (by show wo.heap.size < _; omega) hHeld.2⟩) (fun hHeld' => ?_)
            replace hHeld := hHeld' (by rfl) (by decide)
            clear hK hHeld'
            (try simp only [Act.put, List.setIfInBounds_toArray, List.set_cons_zero, List.set_cons_succ])
            refine E_two 7 9 (by kernel_rfl) rfl rfl (by rfl) (by rfl) (fun K hK => ?_) (fun K hK => ?_)
            · go_simp
              refine (rScalar_any s.action _).mono ?_
              rintro e wn3 ⟨rfl, hb3⟩
              have FB3 := Lib.hid (FB2.out.trans (hb3.mono hl2))
              have FM3 := Lib.hid (FM2.out.below hb3)
              have hl3 : (wo.heap.size + 1) ≤ wn3.heap.size := Nat.le_trans hl2 hb3.size
              have HD3 := Lib.hid hb3
              clear hb3
              refine hK.out _ _ (fun _ h => absurd rfl h) (fun _ => ?_)
              clear hK hHeld
              (try simp only [Act.put, List.setIfInBounds_toArray, List.set_cons_zero, List.set_cons_succ])
              refine E_two 8 9 (by kernel_rfl) rfl rfl (by rfl) (by rfl) (fun K hK => ?_) (fun K hK => ?_)
              · go_simp
                refine (zput_any w.heap.size (wo.heap.size + 1) wn3.heap.size (fun g => w.heap.size ≤ g ∧ g < (wo.heap.size + 1)) sAction (scalarT s.action) [sName] [scalarT s.name] ka2 kn2 kc2 ba2 bn2 bc2 _ wn3 wn3 FM3.out (Below.refl _ _) (Nat.le_refl _) (scalar_node _ _ HSR.out.ok.action) hbl (fun g hg => hg.1) (fun g hg => by have := hg.2; omega) hl3 (by simp) (by simp) (by decide)).mono ?_
                rintro e wn4 ⟨ka4, kn4, kc4, ba4, bn4, bc4, rfl, hm4, hb4, hz4⟩
                have FB4 := Lib.hid (FB3.out.trans hb4)
                have FM4 := Lib.hid hm4
                have hl4 : (wo.heap.size + 1) ≤ wn4.heap.size := Nat.le_trans hl3 hb4.size
                have HD4 := Lib.hid hb4
                clear hb4 hz4 hm4
                refine hK.out _ _ (fun h => absurd h (by decide)) (fun _ => ?_)
                clear hK
                (try simp only [Act.put, List.setIfInBounds_toArray, List.set_cons_zero, List.set_cons_succ])
                refine E_one 9 (by kernel_rfl) rfl (by rfl) (fun K hK => ?_)
                go_simp
                have hb5 : Below wn4.heap.size wn4 (wn4.alloc (.cells #[.int .u8 0, .string { data := #[] }, .slice none 0 0, .slice none 0 0, .int .i64 0] 34)) := (Below.refl _ _).alloc (Nat.le_refl _) _
                have FB5 := Lib.hid (FB4.out.trans (hb5.mono hl4))
                have FM5 := Lib.hid ((MapB.zv FM4.out (Nat.le_refl _)).below hb5)
                have hl5 : (wo.heap.size + 1) ≤ (wn4.alloc (.cells #[.int .u8 0, .string { data := #[] }, .slice none 0 0, .slice none 0 0, .int .i64 0] 34)).heap.size := Nat.le_trans hl4 hb5.size
                have hT5 : wn4.heap.size < (wn4.alloc (.cells #[.int .u8 0, .string { data := #[] }, .slice none 0 0, .slice none 0 0, .int .i64 0] 34)).heap.size := by simp
                have FT5 := Lib.hid (World.alloc_heap_new wn4 (.cells #[.int .u8 0, .string { data := #[] }, .slice none 0 0, .slice none 0 0, .int .i64 0] 34))
                have hLT5 : (wo.heap.size + 1) ≤ wn4.heap.size := hl4
                have HD5 := Lib.hid hb5
                clear hb5
                (try simp only [Act.put, List.setIfInBounds_toArray, List.set_cons_zero, List.set_cons_succ])
                refine hK.out _ _ (fun h => absurd h (by decide)) (fun _ => ?_)
                clear hK
                (try simp only [Act.put, List.setIfInBounds_toArray, List.set_cons_zero, List.set_cons_succ])
                generalize wn4.alloc (.cells #[.int .u8 0, .string { data := #[] }, .slice none 0 0, .slice none 0 0, .int .i64 0] 34) = wn5 at *
                generalize wn4.heap.size = T5 at *
                obtain ⟨q0, q1, q2, q3, q4⟩ := cells5 FT5.out
                obtain ⟨f0, f1, f2, f3, f4⟩ := cells5w FT5.out
                refine E_one 10 (by kernel_rfl) rfl (by rfl) (fun K hK => ?_)
                go_simp
                (try simp only [Act.put, List.setIfInBounds_toArray, List.set_cons_zero, List.set_cons_succ])
                refine hK.out _ _ (fun h => absurd h (by decide)) (fun _ => ?_)
                clear hK
                (try simp only [Act.put, List.setIfInBounds_toArray, List.set_cons_zero, List.set_cons_succ])
                refine E_done (by kernel_rfl) ?_ _
                refine hK'.out _ _ ?_
                clear q0 q1 q2 q3 q4 f0 f1 f2 f3 f4
                go_wp2_with fail
                go_meet
                exact ⟨T5, ka4, kn4, kc4, ba4, bn4, bc4, rfl, MapZ.stored FM5.out FT5.out hbl hLT5, set5w_below FB5.out hLT5⟩
              · go_simp
                have hb6 : Below wn3.heap.size wn3 (wn3.alloc (.cells #[.int .u8 0, .string { data := #[] }, .slice none 0 0, .slice none 0 0, .int .i64 0] 34)) := (Below.refl _ _).alloc (Nat.le_refl _) _
                have FB6 := Lib.hid (FB3.out.trans (hb6.mono hl3))
                have FM6 := Lib.hid ((MapB.zv FM3.out (Nat.le_refl _)).below hb6)
                have hl6 : (wo.heap.size + 1) ≤ (wn3.alloc (.cells #[.int .u8 0, .string { data := #[] }, .slice none 0 0, .slice none 0 0, .int .i64 0] 34)).heap.size := Nat.le_trans hl3 hb6.size
                have hT6 : wn3.heap.size < (wn3.alloc (.cells #[.int .u8 0, .string { data := #[] }, .slice none 0 0, .slice none 0 0, .int .i64 0] 34)).heap.size := by simp
                have FT6 := Lib.hid (World.alloc_heap_new wn3 (.cells #[.int .u8 0, .string { data := #[] }, .slice none 0 0, .slice none 0 0, .int .i64 0] 34))
                have hLT6 : (wo.heap.size + 1) ≤ wn3.heap.size := hl3
                have HD6 := Lib.hid hb6
                clear hb6
                (try simp only [Act.put, List.setIfInBounds_toArray, List.set_cons_zero, List.set_cons_succ])
                refine hK.out _ _ (fun h => absurd h (by decide)) (fun _ => ?_)
                clear hK
                (try simp only [Act.put, List.setIfInBounds_toArray, List.set_cons_zero, List.set_cons_succ])
                generalize wn3.alloc (.cells #[.int .u8 0, .string { data := #[] }, .slice none 0 0, .slice none 0 0, .int .i64 0] 34) = wn6 at *
                generalize wn3.heap.size = T6 at *
                refine E_one 8 (by kernel_rfl) rfl (by rfl) (fun K hK => ?_)
                go_simp
                refine (zput_any w.heap.size (wo.heap.size + 1) wn6.heap.size (ZV w.heap.size (wo.heap.size + 1) T6) sAction (scalarT s.action) [sName] [scalarT s.name] ka2 kn2 kc2 ba2 bn2 bc2 _ wn6 wn6 FM6.out (Below.refl _ _) (Nat.le_refl _) (scalar_node _ _ HSR.out.ok.action) hbl (fun g hg => by rcases hg with hg | hg <;> omega) (fun g hg => by rcases hg with hg | hg <;> omega) hl6 (by simp) (by simp) (by decide)).mono ?_
                rintro e wn7 ⟨ka7, kn7, kc7, ba7, bn7, bc7, rfl, hm7, hb7, hz7⟩
                have FB7 := Lib.hid (FB6.out.trans hb7)
                have FM7 := Lib.hid hm7
                have hl7 : (wo.heap.size + 1) ≤ wn7.heap.size := Nat.le_trans hl6 hb7.size
                have hT7 : T6 < wn7.heap.size := Nat.lt_of_lt_of_le hT6 hb7.size
                have FT7 := Lib.hid ((hz7 _ (.inr rfl)).trans FT6.out)
                have HD7 := Lib.hid hb7
                clear hb7 hz7 hm7
                refine hK.out _ _ (fun h => absurd h (by decide)) (fun _ => ?_)
                clear hK
                (try simp only [Act.put, List.setIfInBounds_toArray, List.set_cons_zero, List.set_cons_succ])
                obtain ⟨q0, q1, q2, q3, q4⟩ := cells5 FT7.out
                obtain ⟨f0, f1, f2, f3, f4⟩ := cells5w FT7.out
                refine E_one 10 (by kernel_rfl) rfl (by rfl) (fun K hK => ?_)
                go_simp
                (try simp only [Act.put, List.setIfInBounds_toArray, List.set_cons_zero, List.set_cons_succ])
                refine hK.out _ _ (fun h => absurd h (by decide)) (fun _ => ?_)
                clear hK
                (try simp only [Act.put, List.setIfInBounds_toArray, List.set_cons_zero, List.set_cons_succ])
                refine E_done (by kernel_rfl) ?_ _
                refine hK'.out _ _ ?_
                clear q0 q1 q2 q3 q4 f0 f1 f2 f3 f4
                go_wp2_with fail
                go_meet
                exact ⟨T6, ka7, kn7, kc7, ba7, bn7, bc7, rfl, MapZ.stored FM7.out FT7.out hbl hLT6, set5w_below FB7.out hLT6⟩
            · go_simp
              have hb8 : Below wn2.heap.size wn2 (wn2.alloc (.cells #[.int .u8 0, .string { data := #[] }, .slice none 0 0, .slice none 0 0, .int .i64 0] 34)) := (Below.refl _ _).alloc (Nat.le_refl _) _
              have FB8 := Lib.hid (FB2.out.trans (hb8.mono hl2))
              have FM8 := Lib.hid ((MapB.zv FM2.out (Nat.le_refl _)).below hb8)
              have hl8 : (wo.heap.size + 1) ≤ (wn2.alloc (.cells #[.int .u8 0, .string { data := #[] }, .slice none 0 0, .slice none 0 0, .int .i64 0] 34)).heap.size := Nat.le_trans hl2 hb8.size
              have hT8 : wn2.heap.size < (wn2.alloc (.cells #[.int .u8 0, .string { data := #[] }, .slice none 0 0, .slice none 0 0, .int .i64 0] 34)).heap.size := by simp
              have FT8 := Lib.hid (World.alloc_heap_new wn2 (.cells #[.int .u8 0, .string { data := #[] }, .slice none 0 0, .slice none 0 0, .int .i64 0] 34))
              have hLT8 : (wo.heap.size + 1) ≤ wn2.heap.size := hl2
              have HD8 := Lib.hid hb8
              clear hb8
              (try simp only [Act.put, List.setIfInBounds_toArray, List.set_cons_zero, List.set_cons_succ])
              refine hK.out _ _ (fun _ _ => ⟨cellB HD8.out hHeld.1, cellB HD8.out hHeld.2⟩) (fun hHeld' => ?_)
              replace hHeld := hHeld' (by rfl) (by decide)
              clear hK hHeld'
              (try simp only [Act.put, List.setIfInBounds_toArray, List.set_cons_zero, List.set_cons_succ])
              generalize wn2.alloc (.cells #[.int .u8 0, .string { data := #[] }, .slice none 0 0, .slice none 0 0, .int .i64 0] 34) = wn8 at *
              generalize wn2.heap.size = T8 at *
              refine E_one 7 (by kernel_rfl) rfl (by rfl) (fun K hK => ?_)
              go_simp
              refine (rScalar_any s.action _).mono ?_
              rintro e wn9 ⟨rfl, hb9⟩
              have FB9 := Lib.hid (FB8.out.trans (hb9.mono hl8))
              have FM9 := Lib.hid (FM8.out.below hb9)
              have hl9 : (wo.heap.size + 1) ≤ wn9.heap.size := Nat.le_trans hl8 hb9.size
              have hT9 : T8 < wn9.heap.size := Nat.lt_of_lt_of_le hT8 hb9.size
              have FT9 := Lib.hid ((hb9.block _ hT8).trans FT8.out)
              have HD9 := Lib.hid hb9
              clear hb9
              refine hK.out _ _ (fun _ h => absurd rfl h) (fun _ => ?_)
              clear hK hHeld
              (try simp only [Act.put, List.setIfInBounds_toArray, List.set_cons_zero, List.set_cons_succ])
              refine E_one 8 (by kernel_rfl) rfl (by rfl) (fun K hK => ?_)
              go_simp
              refine (zput_any w.heap.size (wo.heap.size + 1) wn9.heap.size (ZV w.heap.size (wo.heap.size + 1) T8) sAction (scalarT s.action) [sName] [scalarT s.name] ka2 kn2 kc2 ba2 bn2 bc2 _ wn9 wn9 FM9.out (Below.refl _ _) (Nat.le_refl _) (scalar_node _ _ HSR.out.ok.action) hbl (fun g hg => by rcases hg with hg | hg <;> omega) (fun g hg => by rcases hg with hg | hg <;> omega) hl9 (by simp) (by simp) (by decide)).mono ?_
              rintro e wn10 ⟨ka10, kn10, kc10, ba10, bn10, bc10, rfl, hm10, hb10, hz10⟩
              have FB10 := Lib.hid (FB9.out.trans hb10)
              have FM10 := Lib.hid hm10
              have hl10 : (wo.heap.size + 1) ≤ wn10.heap.size := Nat.le_trans hl9 hb10.size
              have hT10 : T8 < wn10.heap.size := Nat.lt_of_lt_of_le hT9 hb10.size
              have FT10 := Lib.hid ((hz10 _ (.inr rfl)).trans FT9.out)
              have HD10 := Lib.hid hb10
              clear hb10 hz10 hm10
              refine hK.out _ _ (fun h => absurd h (by decide)) (fun _ => ?_)
              clear hK
              (try simp only [Act.put, List.setIfInBounds_toArray, List.set_cons_zero, List.set_cons_succ])
              obtain ⟨q0, q1, q2, q3, q4⟩ := cells5 FT10.out
              obtain ⟨f0, f1, f2, f3, f4⟩ := cells5w FT10.out
              refine E_one 10 (by kernel_rfl) rfl (by rfl) (fun K hK => ?_)
              go_simp
              (try simp only [Act.put, List.setIfInBounds_toArray, List.set_cons_zero, List.set_cons_succ])
              refine hK.out _ _ (fun h => absurd h (by decide)) (fun _ => ?_)
              clear hK
              (try simp only [Act.put, List.setIfInBounds_toArray, List.set_cons_zero, List.set_cons_succ])
              refine E_done (by kernel_rfl) ?_ _
              refine hK'.out _ _ ?_
              clear q0 q1 q2 q3 q4 f0 f1 f2 f3 f4
              go_wp2_with fail
              go_meet
              exact ⟨T8, ka10, kn10, kc10, ba10, bn10, bc10, rfl, MapZ.stored FM10.out FT10.out hbl hLT8, set5w_below FB10.out hLT8⟩
          · go_simp
            have hb11 : Below wn1.heap.size wn1 (wn1.alloc (.cells #[.int .u8 0, .string { data := #[] }, .slice none 0 0, .slice none 0 0, .int .i64 0] 34)) := (Below.refl _ _).alloc (Nat.le_refl _) _
            have FB11 := Lib.hid (FB1.out.trans (hb11.mono hl1))
            have FM11 := Lib.hid ((MapB.zv FM1.out (Nat.le_refl _)).below hb11)
            have hl11 : (wo.heap.size + 1) ≤ (wn1.alloc (.cells #[.int .u8 0, .string { data := #[] }, .slice none 0 0, .slice none 0 0, .int .i64 0] 34)).heap.size := Nat.le_trans hl1 hb11.size
            have hT11 : wn1.heap.size < (wn1.alloc (.cells #[.int .u8 0, .string { data := #[] }, .slice none 0 0, .slice none 0 0, .int .i64 0] 34)).heap.size := by simp
            have FT11 := Lib.hid (World.alloc_heap_new wn1 (.cells #[.int .u8 0, .string { data := #[] }, .slice none 0 0, .slice none 0 0, .int .i64 0] 34))
            have hLT11 : (wo.heap.size + 1) ≤ wn1.heap.size := hl1
            have HD11 := Lib.hid hb11
            clear hb11
            (try simp only [Act.put, List.setIfInBounds_toArray, List.set_cons_zero, List.set_cons_succ])
            refine hK.out _ _ (fun _ _ => ⟨cellB HD11.out hHeld.1, cellB HD11.out hHeld.2⟩) (fun hHeld' => ?_)
            replace hHeld := hHeld' (by rfl) (by decide)
            clear hK hHeld'
            (try simp only [Act.put, List.setIfInBounds_toArray, List.set_cons_zero, List.set_cons_succ])
            generalize wn1.alloc (.cells #[.int .u8 0, .string { data := #[] }, .slice none 0 0, .slice none 0 0, .int .i64 0] 34) = wn11 at *
            generalize wn1.heap.size = T11 at *
            refine E_one 4 (by kernel_rfl) rfl (by rfl) (fun K hK => ?_)
            go_simp
            refine (zput_any w.heap.size (wo.heap.size + 1) wn11.heap.size (ZV w.heap.size (wo.heap.size + 1) T11) sName (scalarT s.name) [] [] none 0 0 none 0 0 _ wn11 wn11 FM11.out (Below.refl _ _) (Nat.le_refl _) (scalar_node _ _ HSR.out.ok.name) hbl (fun g hg => by rcases hg with hg | hg <;> omega) (fun g hg => by rcases hg with hg | hg <;> omega) hl11 (by simp) (by simp) (by decide)).mono ?_
            rintro e wn12 ⟨ka12, kn12, kc12, ba12, bn12, bc12, rfl, hm12, hb12, hz12⟩
            have FB12 := Lib.hid (FB11.out.trans hb12)
            have FM12 := Lib.hid hm12
            have hl12 : (wo.heap.size + 1) ≤ wn12.heap.size := Nat.le_trans hl11 hb12.size
            have hT12 : T11 < wn12.heap.size := Nat.lt_of_lt_of_le hT11 hb12.size
            have FT12 := Lib.hid ((hz12 _ (.inr rfl)).trans FT11.out)
            have HD12 := Lib.hid hb12
            clear hb12 hz12 hm12
            refine hK.out _ _ (fun _ _ => ⟨cellLo HD12.out (by show wo.heap.size < _; omega) hHeld.1, cellLo HD12.out (by show wo.heap.size < _; omega) hHeld.2⟩) (fun hHeld' => ?_)
            replace hHeld := hHeld' (by rfl) (by decide)
            clear hK hHeld'
            (try simp only [Act.put, List.setIfInBounds_toArray, List.set_cons_zero, List.set_cons_succ])
            refine E_one 7 (by kernel_rfl) rfl (by rfl) (fun K hK => ?_)
            go_simp
            refine (rScalar_any s.action _).mono ?_
            rintro e wn13 ⟨rfl, hb13⟩
            have FB13 := Lib.hid (FB12.out.trans (hb13.mono hl12))
            have FM13 := Lib.hid (FM12.out.below hb13)
            have hl13 : (wo.heap.size + 1) ≤ wn13.heap.size := Nat.le_trans hl12 hb13.size
            have hT13 : T11 < wn13.heap.size := Nat.lt_of_lt_of_le hT12 hb13.size
            have FT13 := Lib.hid ((hb13.block _ hT12).trans FT12.out)
            have HD13 := Lib.hid hb13
            clear hb13
            refine hK.out _ _ (fun _ h => absurd rfl h) (fun _ => ?_)
            clear hK hHeld
            (try simp only [Act.put, List.setIfInBounds_toArray, List.set_cons_zero, List.set_cons_succ])
            refine E_one 8 (by kernel_rfl) rfl (by rfl) (fun K hK => ?_)
            go_simp
            refine (zput_any w.heap.size (wo.heap.size + 1) wn13.heap.size (ZV w.heap.size (wo.heap.size + 1) T11) sAction (scalarT s.action) [sName] [scalarT s.name] ka12 kn12 kc12 ba12 bn12 bc12 _ wn13 wn13 FM13.out (Below.refl _ _) (Nat.le_refl _) (scalar_node _ _ HSR.out.ok.action) hbl (fun g hg => by rcases hg with hg | hg <;> omega) (fun g hg => by rcases hg with hg | hg <;> omega) hl13 (by simp) (by simp) (by decide)).mono ?_
            rintro e wn14 ⟨ka14, kn14, kc14, ba14, bn14, bc14, rfl, hm14, hb14, hz14⟩
            have FB14 := Lib.hid (FB13.out.trans hb14)
            have FM14 := Lib.hid hm14
            have hl14 : (wo.heap.size + 1) ≤ wn14.heap.size := Nat.le_trans hl13 hb14.size
            have hT14 : T11 < wn14.heap.size := Nat.lt_of_lt_of_le hT13 hb14.size
            have FT14 := Lib.hid ((hz14 _ (.inr rfl)).trans FT13.out)
            have HD14 := Lib.hid hb14
            clear hb14 hz14 hm14
            refine hK.out _ _ (fun h => absurd h (by decide)) (fun _ => ?_)
            clear hK
            (try simp only [Act.put, List.setIfInBounds_toArray, List.set_cons_zero, List.set_cons_succ])
            obtain ⟨q0, q1, q2, q3, q4⟩ := cells5 FT14.out
            obtain ⟨f0, f1, f2, f3, f4⟩ := cells5w FT14.out
            refine E_one 10 (by kernel_rfl) rfl (by rfl) (fun K hK => ?_)
            go_simp
            (try simp only [Act.put, List.setIfInBounds_toArray, List.set_cons_zero, List.set_cons_succ])
            refine hK.out _ _ (fun h => absurd h (by decide)) (fun _ => ?_)
            clear hK
            (try simp only [Act.put, List.setIfInBounds_toArray, List.set_cons_zero, List.set_cons_succ])
            refine E_done (by kernel_rfl) ?_ _
            refine hK'.out _ _ ?_
            clear q0 q1 q2 q3 q4 f0 f1 f2 f3 f4
            go_wp2_with fail
            go_meet
            exact ⟨T11, ka14, kn14, kc14, ba14, bn14, bc14, rfl, MapZ.stored FM14.out FT14.out hbl hLT11, set5w_below FB14.out hLT11⟩
        · go_simp
          have hb15 : Below wn0.heap.size wn0 (wn0.alloc (.cells #[.int .u8 0, .string { data := #[] }, .slice none 0 0, .slice none 0 0, .int .i64 0] 34)) := (Below.refl _ _).alloc (Nat.le_refl _) _
          have FB15 := Lib.hid (FB0.out.trans (hb15.mono hl0))
          have FM15 := Lib.hid ((MapB.zv FM0.out (Nat.le_refl _)).below hb15)
          have hl15 : (wo.heap.size + 1) ≤ (wn0.alloc (.cells #[.int .u8 0, .string { data := #[] }, .slice none 0 0, .slice none 0 0, .int .i64 0] 34)).heap.size := Nat.le_trans hl0 hb15.size
          have hT15 : wn0.heap.size < (wn0.alloc (.cells #[.int .u8 0, .string { data := #[] }, .slice none 0 0, .slice none 0 0, .int .i64 0] 34)).heap.size := by simp
          have FT15 := Lib.hid (World.alloc_heap_new wn0 (.cells #[.int .u8 0, .string { data := #[] }, .slice none 0 0, .slice none 0 0, .int .i64 0] 34))
          have hLT15 : (wo.heap.size + 1) ≤ wn0.heap.size := hl0
          have HD15 := Lib.hid hb15
          clear hb15
          (try simp only [Act.put, List.setIfInBounds_toArray, List.set_cons_zero, List.set_cons_succ])
          refine hK.out _ _ (fun _ _ => ⟨cellB HD15.out hHeld.1, cellB HD15.out hHeld.2⟩) (fun hHeld' => ?_)
          replace hHeld := hHeld' (by rfl) (by decide)
          clear hK hHeld'
          (try simp only [Act.put, List.setIfInBounds_toArray, List.set_cons_zero, List.set_cons_succ])
          generalize wn0.alloc (.cells #[.int .u8 0, .string { data := #[] }, .slice none 0 0, .slice none 0 0, .int .i64 0] 34) = wn15 at *
          generalize wn0.heap.size = T15 at *
          refine E_one 3 (by kernel_rfl) rfl (by rfl) (fun K hK => ?_)
          go_simp
          refine (rScalar_any s.name _).mono ?_
          rintro e wn16 ⟨rfl, hb16⟩
          have FB16 := Lib.hid (FB15.out.trans (hb16.mono hl15))
          have FM16 := Lib.hid (FM15.out.below hb16)
          have hl16 : (wo.heap.size + 1) ≤ wn16.heap.size := Nat.le_trans hl15 hb16.size
          have hT16 : T15 < wn16.heap.size := Nat.lt_of_lt_of_le hT15 hb16.size
          have FT16 := Lib.hid ((hb16.block _ hT15).trans FT15.out)
          have HD16 := Lib.hid hb16
          clear hb16
          refine hK.out _ _ (fun _ _ => ⟨cellB HD16.out hHeld.1, cellB HD16.out hHeld.2⟩) (fun hHeld' => ?_)
          replace hHeld := hHeld' (by rfl) (by decide)
          clear hK hHeld'
          (try simp only [Act.put, List.setIfInBounds_toArray, List.set_cons_zero, List.set_cons_succ])
          refine E_one 4 (by kernel_rfl) rfl (by rfl) (fun K hK => ?_)
          go_simp
          refine (zput_any w.heap.size (wo.heap.size + 1) wn16.heap.size (ZV w.heap.size (wo.heap.size + 1) T15) sName (scalarT s.name) [] [] none 0 0 none 0 0 _ wn16 wn16 FM16.out (Below.refl _ _) (Nat.le_refl _) (scalar_node _ _ HSR.out.ok.name) hbl (fun g hg => by rcases hg with hg | hg <;> omega) (fun g hg => by rcases hg with hg | hg <;> omega) hl16 (by simp) (by simp) (by decide)).mono ?_
          rintro e wn17 ⟨ka17, kn17, kc17, ba17, bn17, bc17, rfl, hm17, hb17, hz17⟩
          have FB17 := Lib.hid (FB16.out.trans hb17)
          have FM17 := Lib.hid hm17
          have hl17 : (wo.heap.size + 1) ≤ wn17.heap.size := Nat.le_trans hl16 hb17.size
          have hT17 : T15 < wn17.heap.size := Nat.lt_of_lt_of_le hT16 hb17.size
          have FT17 := Lib.hid ((hz17 _ (.inr rfl)).trans FT16.out)
          have HD17 := Lib.hid hb17
          clear hb17 hz17 hm17
          refine hK.out _ _ (fun _ _ => ⟨cellLo HD17.out (by show wo.heap.size < _; omega) hHeld.1, cellLo HD17.out (by show wo.heap.size < _; omega) hHeld.2⟩) (fun hHeld' => ?_)
          replace hHeld := hHeld' (by rfl) (by decide)
          clear hK hHeld'
          (try simp only [Act.put, List.setIfInBounds_toArray, List.set_cons_zero, List.set_cons_succ])
          refine E_one 7 (by kernel_rfl) rfl (by rfl) (fun K hK => ?_)
          go_simp
          refine (rScalar_any s.action _).mono ?_
          rintro e wn18 ⟨rfl, hb18⟩
          have FB18 := Lib.hid (FB17.out.trans (hb18.mono hl17))
          have FM18 := Lib.hid (FM17.out.below hb18)
          have hl18 : (wo.heap.size + 1) ≤ wn18.heap.size := Nat.le_trans hl17 hb18.size
          have hT18 : T15 < wn18.heap.size := Nat.lt_of_lt_of_le hT17 hb18.size
          have FT18 := Lib.hid ((hb18.block _ hT17).trans FT17.out)
          have HD18 := Lib.hid hb18
          clear hb18
          refine hK.out _ _ (fun _ h => absurd rfl h) (fun _ => ?_)
          clear hK hHeld
          (try simp only [Act.put, List.setIfInBounds_toArray, List.set_cons_zero, List.set_cons_succ])
          refine E_one 8 (by kernel_rfl) rfl (by rfl) (fun K hK => ?_)
          go_simp
          refine (zput_any w.heap.size (wo.heap.size + 1) wn18.heap.size (ZV w.heap.size (wo.heap.size + 1) T15) sAction (scalarT s.action) [sName] [scalarT s.name] ka17 kn17 kc17 ba17 bn17 bc17 _ wn18 wn18 FM18.out (Below.refl _ _) (Nat.le_refl _) (scalar_node _ _ HSR.out.ok.action) hbl (fun g hg => by rcases hg with hg | hg <;> omega) (fun g hg => by rcases hg with hg | hg <;> omega) hl18 (by simp) (by simp) (by decide)).mono ?_
          rintro e wn19 ⟨ka19, kn19, kc19, ba19, bn19, bc19, rfl, hm19, hb19, hz19⟩
          have FB19 := Lib.hid (FB18.out.trans hb19)
          have FM19 := Lib.hid hm19
          have hl19 : (wo.heap.size + 1) ≤ wn19.heap.size := Nat.le_trans hl18 hb19.size
          have hT19 : T15 < wn19.heap.size := Nat.lt_of_lt_of_le hT18 hb19.size
          have FT19 := Lib.hid ((hz19 _ (.inr rfl)).trans FT18.out)
          have HD19 := Lib.hid hb19
          clear hb19 hz19 hm19
          refine hK.out _ _ (fun h => absurd h (by decide)) (fun _ => ?_)
          clear hK
          (try simp only [Act.put, List.setIfInBounds_toArray, List.set_cons_zero, List.set_cons_succ])
          obtain ⟨q0, q1, q2, q3, q4⟩ := cells5 FT19.out
          obtain ⟨f0, f1, f2, f3, f4⟩ := cells5w FT19.out
          refine E_one 10 (by kernel_rfl) rfl (by rfl) (fun K hK => ?_)
          go_simp
          (try simp only [Act.put, List.setIfInBounds_toArray, List.set_cons_zero, List.set_cons_succ])
          refine hK.out _ _ (fun h => absurd h (by decide)) (fun _ => ?_)
          clear hK
          (try simp only [Act.put, List.setIfInBounds_toArray, List.set_cons_zero, List.set_cons_succ])
          refine E_done (by kernel_rfl) ?_ _
          refine hK'.out _ _ ?_
          clear q0 q1 q2 q3 q4 f0 f1 f2 f3 f4
          go_wp2_with fail
          go_meet
          exact ⟨T15, ka19, kn19, kc19, ba19, bn19, bc19, rfl, MapZ.stored FM19.out FT19.out hbl hLT15, set5w_below FB19.out hLT15⟩
      case rest =>
      obtain ⟨T7, ka7, kn7, kc7, ba7, bn7, bc7, rfl, hm7, hb7⟩ := hcut
      generalize wc = w7 at *
      clear a0 a1
      have M7 := Lib.hid hm7
      have FB7 := Lib.hid hb7
      have hl7 : (wo.heap.size + 1) ≤ w7.heap.size := by have := hb7.size; omega
      clear hm7 hb7
      obtain ⟨t0, t1, t2, t3, t4⟩ := cells5 M7.out.at'
      obtain ⟨a0, a1, a2, a3, a4, a5, a6, a7, a8, a9, a10, a11, a12⟩ := cells13q ((FB7.out.block wo.heap.size (by omega)).trans HKB.out)
      go_upto_if 48 with fail
      go_cut [] (fun wx => ∃ ka' kn' kc' ba' bn' bc', MapZ wx w.heap.size (wo.heap.size + 1) T7 (consIf (hasUndo s) [sName, sAction] sUndo) (consIf (hasUndo s) [scalarT s.name, scalarT s.action] (scalarT s.undo)) ka' kn' kc' ba' bn' bc' ∧ Below (wo.heap.size + 1) wA wx)
      case first =>
        by_cases hX : hasUndo s = true
        · have hX1 : (!s.undo.toList.isEmpty) = true := hX
          rw [hX1]
          clear hX1
          go_wp2
          refine E_region (S := (fun W => W.cell? ⟨T7, 0, none⟩ = some (.int .u8 3) ∧ W.cell? ⟨T7, 1, none⟩ = some (.string { data := #[] }) ∧ W.cell? ⟨T7, 2, none⟩ = some (.slice ka7 kn7 kc7) ∧ W.cell? ⟨T7, 3, none⟩ = some (.slice ba7 bn7 bc7) ∧ W.cell? ⟨T7, 4, none⟩ = some (.int .i64 0) ∧ W.cell? ⟨wo.heap.size, 2, none⟩ = some (.string s.undo))) 4 (by kernel_rfl) ⟨t0, t1, t2, t3, t4, a2⟩ (fun _ _ _ _ _ h => h) (fun Q' hQ hK' hHeld => ?_)
          refine E_take hQ hHeld 0 (v := ?bv1) rfl rfl (by kernel_rfl) (by kernel_rfl) (by kernel_rfl) (by kernel_rfl) (by kernel_rfl) (by rfl) ?by1 ?br1
          case by1 => (intro w hSw; (try dsimp only at hSw); go_simp; (try with_reducible rfl))
          (try simp only [Act.put, List.setIfInBounds_toArray, List.set_cons_zero, List.set_cons_succ])
          refine E_take0 hQ (fun _ => hHeld) 1 (v := ?bv2) rfl rfl (by kernel_rfl) (by kernel_rfl) (by kernel_rfl) (by decide) (by rfl) ?by2 ?br2
          case by2 => (intro w; go_simp; (try with_reducible rfl))
          (try simp only [Act.put, List.setIfInBounds_toArray, List.set_cons_zero, List.set_cons_succ])
          refine E_take hQ hHeld 2 (v := ?bv3) rfl rfl (by kernel_rfl) (by kernel_rfl) (by kernel_rfl) (by kernel_rfl) (by kernel_rfl) (by rfl) ?by3 ?br3
          case by3 => (intro w hSw; (try dsimp only at hSw); go_simp; (try with_reducible rfl))
          (try simp only [Act.put, List.setIfInBounds_toArray, List.set_cons_zero, List.set_cons_succ])
          refine E_one 3 (by kernel_rfl) rfl (by rfl) (fun K hK => ?_)
          go_simp
          refine (rScalar_any s.undo _).mono ?_
          rintro e we ⟨rfl, hbx⟩
          have HD := Lib.hid hbx
          have HDE : Hid (Below w7.heap.size w7 we) := Lib.hid (((Below.refl _ w7).drew).trans hbx)
          have hlx : (wo.heap.size + 1) ≤ we.heap.size := Nat.le_trans hl7 HDE.out.size
          clear hbx
          refine hK.out _ _ (fun _ _ => ⟨cellB HD.out hHeld.1, cellB HD.out hHeld.2.1, cellB HD.out hHeld.2.2.1, cellB HD.out hHeld.2.2.2.1, cellB HD.out hHeld.2.2.2.2.1, cellB HD.out hHeld.2.2.2.2.2⟩) (fun hHeld' => ?_)
          replace hHeld := hHeld' (by rfl) (by decide)
          clear hK hHeld'
          (try simp only [Act.put, List.setIfInBounds_toArray, List.set_cons_zero, List.set_cons_succ])
          refine E_one 4 (by kernel_rfl) rfl (by rfl) (fun K hK => ?_)
          go_simp
          refine (M7.out.put w7.heap.size sUndo (scalarT s.undo) _ we HDE.out (Nat.le_refl _) (scalar_node _ _ HSR.out.ok.undo) (Nat.le_trans (Nat.le_refl 2) (by decide)) (Nat.le_trans (Nat.le_refl 2) (by decide)) (by decide)).mono ?_
          rintro e wf ⟨ka', kn', kc', ba', bn', bc', rfl, hm', ht', hb'⟩
          obtain ⟨q0, q1, q2, q3, q4⟩ := cells5 ht'
          obtain ⟨f0, f1, f2, f3, f4⟩ := cells5w ht'
          have HM' := Lib.hid hm'
          have HT' := Lib.hid ht'
          have HB' := Lib.hid hb'
          clear hm' ht' hb'
          refine hK.out _ _ (fun _ h => absurd rfl h) (fun _ => ?_)
          clear hK hHeld
          (try simp only [Act.put, List.setIfInBounds_toArray, List.set_cons_zero, List.set_cons_succ])
          refine E_one 5 (by kernel_rfl) rfl (by rfl) (fun K hK => ?_)
          go_simp
          (try simp only [Act.put, List.setIfInBounds_toArray, List.set_cons_zero, List.set_cons_succ])
          refine hK.out _ _ (fun h => absurd h (by decide)) (fun _ => ?_)
          clear hK
          (try simp only [Act.put, List.setIfInBounds_toArray, List.set_cons_zero, List.set_cons_succ])
          refine E_done (by kernel_rfl) ?_ _
          refine hK'.out _ _ ?_
          clear q0 q1 q2 q3 q4 f0 f1 f2 f3 f4 t0 t1 t2 t3 t4 a0 a1 a2 a3 a4 a5 a6 a7 a8 a9 a10 a11 a12
          go_wp2_with fail
          go_meet
          exact ⟨ka', kn', kc', ba', bn', bc', by rw [hX]; exact MapZ.stored HM'.out HT'.out M7.out.bin M7.out.lo, set5w_below (FB7.out.trans ((HDE.out.mono hl7).trans HB'.out)) M7.out.lo⟩
        · have hX0 : hasUndo s = false := by simpa using hX
          have hX1 : (!s.undo.toList.isEmpty) = false := hX0
          rw [hX1]
          clear hX1
          go_wp2_with fail
          go_meet
          exact ⟨_, _, _, _, _, _, by rw [hX0]; exact M7.out, FB7.out⟩
      case rest =>
      obtain ⟨ka8, kn8, kc8, ba8, bn8, bc8, hm8, hb8⟩ := hcut
      generalize wc = w8 at *
      clear t0 t1 t2 t3 t4 a0 a1 a2 a3 a4 a5 a6 a7 a8 a9 a10 a11 a12 M7 FB7 hl7
      have M8 := Lib.hid hm8
      have FB8 := Lib.hid hb8
      have hl8 : (wo.heap.size + 1) ≤ w8.heap.size := by have := hb8.size; omega
      clear hm8 hb8
      go_upto_region 13 with fail
      have hx8 : Below w8.heap.size w8 (w8.alloc (.cells #[.int .u8 2, .string { data := #[] }, .slice none 0 0, .slice none 0 0, .int .i64 0] 34)) := (Below.refl _ _).alloc (Nat.le_refl _) _
      have hsv8 : SeqV (w8.alloc (.cells #[.int .u8 2, .string { data := #[] }, .slice none 0 0, .slice none 0 0, .int .i64 0] 34)) w.heap.size w8.heap.size (.slice none 0 0) [] := SeqV.new (by have := hl8; have := HBW.out.size; omega)
      have M8a := Lib.hid (M8.out.below hx8)
      have FB8a := Lib.hid (FB8.out.trans (hx8.mono hl8))
      have hl8a : (wo.heap.size + 1) ≤ (w8.alloc (.cells #[.int .u8 2, .string { data := #[] }, .slice none 0 0, .slice none 0 0, .int .i64 0] 34)).heap.size := Nat.le_trans hl8 hx8.size
      have hT7 := M8.out.lt
      generalize hN8 : w8.heap.size = N8 at *
      generalize w8.alloc (.cells #[.int .u8 2, .string { data := #[] }, .slice none 0 0, .slice none 0 0, .int .i64 0] 34) = w8a at *
      have HSV8 := Lib.hid hsv8
      have HN8 := Lib.hid hN8
      have HX8 := Lib.hid hx8
      clear hx8 hsv8 hN8
      have hN8l := HSV8.out.lt
      go_wp2_with fail
      go_loopw [9] (fun i wr => ∃ (k : Nat) (vc : Value), k ≤ s.after.length ∧ i = .int .i64 k ∧ Hid (SeqV wr w.heap.size N8 vc ((s.after.take k).map scalarT)) ∧ Hid (Below N8 w8a wr)) (fun i _ => s.after.length - (intOf i).toNat)
      case atStart => exact ⟨0, _, by omega, rfl, HSV8, Lib.hid (Below.refl _ _)⟩
      case round =>
        obtain ⟨k, vk, hk, rfl, HR8, HB8⟩ := hrel
        have hbA : Below (wo.heap.size + 1) wA wr := FB8a.out.trans (HB8.out.mono (by omega))
        have hsr8 : Below wA.heap.size wA wr := by rw [hszA]; exact hbA
        obtain ⟨a0, a1, a2, a3, a4, a5, a6, a7, a8, a9, a10, a11, a12⟩ := cells13q ((hbA.block wo.heap.size (by omega)).trans HKB.out)
        have hN8r := HR8.out.lt
        have HBA := Lib.hid hbA
        by_cases hk2 : k < s.after.length
        · obtain ⟨g2, off2, rfl, z1, z2, c1⟩ := strs_at (HSR.out.after.below hsr8) hk2
          have hk0 : (0 : Int) ≤ (k : Int) := by omega
          have hk1 : (k : Int) < (s.after.length : Int) := by omega
          have HOKA := Lib.hid (HSR.out.ok.after _ (List.getElem_mem hk2))
          have HE8 : Hid ((s.after.take k).map scalarT ++ [scalarT s.after[k]] = (s.after.take (k + 1)).map scalarT) := Lib.hid (by rw [List.take_succ_eq_append_getElem hk2, List.map_append]; rfl)
          have hlk8 : (s.after.take k).length = k := by simp; omega
          have hal : s.after.length ≤ 70 := HSS.out.after
          generalize s.after[k] = sk at *
          have hO := HR8.out.at'
          obtain ⟨-, -, -, x3, -⟩ := cells5 hO
          obtain ⟨xs, hxs⟩ := HR8.out.owns
          have HXS := Lib.hid hxs
          have HO := Lib.hid hO
          clear hO hxs hbA hsr8
          go_wp2
          refine E_region (S := (fun W => W.cell? ⟨N8, 3, none⟩ = some (vk) ∧ W.cell? ⟨wo.heap.size, 3, none⟩ = some (.slice (some ⟨g2, off2, none⟩) s.after.length ac) ∧ W.cell? ⟨g2, off2 + k, none⟩ = some (.string sk))) 9 (by kernel_rfl) ⟨x3, a3, c1⟩ (fun _ _ _ _ _ h => h) (fun Q' hQ hK' hHeld => ?_)
          refine E_take0 hQ (fun _ => hHeld) 0 (v := ?dv1) rfl rfl (by kernel_rfl) (by kernel_rfl) (by kernel_rfl) (by decide) (by rfl) ?dy1 ?dr1
          case dy1 => (intro w; go_simp; (try with_reducible rfl))
          (try simp only [Act.put, List.setIfInBounds_toArray, List.set_cons_zero, List.set_cons_succ])
          refine E_take hQ hHeld 1 (v := ?dv2) rfl rfl (by kernel_rfl) (by kernel_rfl) (by kernel_rfl) (by kernel_rfl) (by kernel_rfl) (by rfl) ?dy2 ?dr2
          case dy2 => (intro w hSw; (try dsimp only at hSw); go_simp; (try with_reducible rfl))
          (try simp only [Act.put, List.setIfInBounds_toArray, List.set_cons_zero, List.set_cons_succ])
          refine E_take0 hQ (fun _ => hHeld) 2 (v := ?dv3) rfl rfl (by kernel_rfl) (by kernel_rfl) (by kernel_rfl) (by decide) (by rfl) ?dy3 ?dr3
          case dy3 => (intro w; go_simp; (try with_reducible rfl))
          (try simp only [Act.put, List.setIfInBounds_toArray, List.set_cons_zero, List.set_cons_succ])
          refine E_take hQ hHeld 3 (v := ?dv4) rfl rfl (by kernel_rfl) (by kernel_rfl) (by kernel_rfl) (by kernel_rfl) (by kernel_rfl) (by rfl) ?dy4 ?dr4
          case dy4 => (intro w hSw; (try dsimp only at hSw); go_simp; (try with_reducible rfl))
          (try simp only [Act.put, List.setIfInBounds_toArray, List.set_cons_zero, List.set_cons_succ])
          refine E_take0 hQ (fun _ => hHeld) 4 (v := ?dv5) rfl rfl (by kernel_rfl) (by kernel_rfl) (by kernel_rfl) (by decide) (by rfl) ?dy5 ?dr5
          case dy5 => (intro w; go_simp; (try with_reducible rfl))
          (try simp only [Act.put, List.setIfInBounds_toArray, List.set_cons_zero, List.set_cons_succ])
          refine E_take0 hQ (fun _ => hHeld) 5 (v := ?dv6) rfl rfl (by kernel_rfl) (by kernel_rfl) (by kernel_rfl) (by decide) (by rfl) ?dy6 ?dr6
          case dy6 => (intro w; go_simp; (try with_reducible rfl))
          (try simp only [Act.put, List.setIfInBounds_toArray, List.set_cons_zero, List.set_cons_succ])
          refine E_take hQ hHeld 6 (v := ?dv7) rfl rfl (by kernel_rfl) (by kernel_rfl) (by kernel_rfl) (by kernel_rfl) (by kernel_rfl) (by rfl) ?dy7 ?dr7
          case dy7 => (intro w hSw; (try dsimp only at hSw); go_simp; (try with_reducible rfl))
          (try simp only [Act.put, List.setIfInBounds_toArray, List.set_cons_zero, List.set_cons_succ])
          refine E_one 7 (by kernel_rfl) rfl (by rfl) (fun K hK => ?_)
          go_simp
          refine (rScalar_any sk _).mono ?_
          rintro e w5 ⟨rfl, hb5⟩
          have HBD := Lib.hid hb5
          have hb5 : Below wr.heap.size wr w5 := ((Below.refl _ wr).drew).trans hb5
          have h6 : Below w5.heap.size w5 (w5.alloc (.cells #[.int .u8 1, .string sk, .slice none 0 0, .slice none 0 0, .int .i64 0] 34)) := (Below.refl _ _).alloc (Nat.le_refl _) _
          have HB6 := Lib.hid (hb5.trans (h6.mono hb5.size))
          have HOW6 := Lib.hid (ownsB HXS.out HB6.out)
          have H6 := Lib.hid h6
          have hsz5 := hb5.size
          clear h6 hb5
          refine hK.out _ _ (fun _ _ => ⟨cellB HBD.out hHeld.1, cellB HBD.out hHeld.2.1, cellB HBD.out hHeld.2.2⟩) (fun hHeld' => ?_)
          replace hHeld := hHeld' (by rfl) (by decide)
          clear hK hHeld'
          (try simp only [Act.put, List.setIfInBounds_toArray, List.set_cons_zero, List.set_cons_succ])
          refine E_one 8 (by kernel_rfl) rfl (by rfl) (fun K hK => ?_)
          go_simp
          (try simp only [Act.put, List.setIfInBounds_toArray, List.set_cons_zero, List.set_cons_succ])
          refine hK.out _ _ (fun _ _ => ⟨cellB H6.out hHeld.1, cellB H6.out hHeld.2.1, cellB H6.out hHeld.2.2⟩) (fun hHeld' => ?_)
          replace hHeld := hHeld' (by rfl) (by decide)
          clear hK hHeld'
          (try simp only [Act.put, List.setIfInBounds_toArray, List.set_cons_zero, List.set_cons_succ])
          refine E_one 9 (by kernel_rfl) rfl (by rfl) (fun K hK => ?_)
          refine wp_append_lies _ (.tmp 63) (.tmp 70) 32 (by rfl) (N8 + 1) 34 i0 (.agg #[.int .u8 0, .string { data := #[] }, .slice none 0 0, .slice none 0 0, .int .i64 0]) 5 80 Try.underlying32 hi hz0 hz1 hz2 rfl (by decide) vk ((s.after.take k).map scalarT).length xs (by rfl) HOW6.out ⟨w5.heap.size, 0, none⟩ 1 1 _ (by rfl) rfl (World.news_of_block (World.alloc_heap_new w5 _)) (by simp [Value.oneCell']) (by omega) (by unfold maxLen; simp; omega) (by simp; omega) (by simp; omega) _ rfl ?_
          intro g7 cap7 wB hown7 hgrow hat hlt7
          have hx8 := hgrow.block N8 (by have := H6.out.size; omega) (fun e => by have := (HXS.out.lt _ e.symm).1; omega)
          have hO7 := hx8.trans ((HB6.out.block _ hN8r).trans HO.out)
          obtain ⟨-, -, -, x7, -⟩ := cells5 hO7
          obtain ⟨-, -, -, f7, -⟩ := cells5w hO7
          have HG7 := Lib.hid hgrow
          have HO7 := Lib.hid hown7
          have HAT := Lib.hid hat
          clear hgrow hown7 hat hx8 hO7
          (try simp only [Act.put, List.setIfInBounds_toArray, List.set_cons_zero, List.set_cons_succ])
          refine hK.out _ _ (fun _ h => absurd rfl h) (fun _ => ?_)
          clear hK hHeld
          (try simp only [Act.put, List.setIfInBounds_toArray, List.set_cons_zero, List.set_cons_succ])
          refine E_take0 hQ (fun h => absurd h (by decide)) 10 (v := ?dv8) rfl rfl (by kernel_rfl) (by kernel_rfl) (by kernel_rfl) (by decide) (by rfl) ?dy8 ?dr8
          case dy8 => (intro w; go_simp; (try with_reducible rfl))
          (try simp only [Act.put, List.setIfInBounds_toArray, List.set_cons_zero, List.set_cons_succ])
          refine E_one 11 (by kernel_rfl) rfl (by rfl) (fun K hK => ?_)
          go_simp
          (try simp only [Act.put, List.setIfInBounds_toArray, List.set_cons_zero, List.set_cons_succ])
          refine hK.out _ _ (fun h => absurd h (by decide)) (fun _ => ?_)
          clear hK
          (try simp only [Act.put, List.setIfInBounds_toArray, List.set_cons_zero, List.set_cons_succ])
          refine E_done (by kernel_rfl) ?_ _
          refine hK'.out _ _ ?_
          have HSTP := HR8.out.step HB6.out (Nat.le_refl _) (scalar_node _ _ HOKA.out) HG7.out HOW6.out HO7.out (fresh_of (by rcases HAT.out with h | h; exact .inl (by rw [h]; rfl); exact .inr (by rw [h]; rfl)))
          have hll : ((s.after.take k).map scalarT).length = k := by rw [List.length_map]; exact hlk8
          rw [hll] at HSTP
          have HS1 := Lib.hid HSTP.1
          have HS2 := Lib.hid HSTP.2
          clear HSTP x7 f7 x3
          clear a0 a1 a2 a3 a4 a5 a6 a7 a8 a9 a10 a11 a12
          go_wp2_with fail
          go_roundw
          case rel =>
            rw [HE8.out] at HS1
            exact ⟨k + 1, _, by omega, by go_num, HS1, Lib.hid (HB8.out.trans HS2.out)⟩
          case measure => simp [intOf]; omega
        · obtain rfl : k = s.after.length := by omega
          rw [List.take_length] at HR8
          obtain ⟨b8, n8, c8, rfl⟩ := HR8.out.formV
          have HX9 : Hid (Below w8.heap.size w8 wr) := Lib.hid (by rw [HN8.out]; exact HX8.out.trans HB8.out)
          have M9 := Lib.hid (M8.out.below HX9.out)
          have FB9 := Lib.hid hbA
          have hl9 : (wo.heap.size + 1) ≤ wr.heap.size := by have := hbA.size; omega
          have HKA := Lib.hid (hsr8 : Below wA.heap.size wA wr)
          obtain ⟨y0, y1, y2, y3, y4⟩ := cells5 HR8.out.at'
          clear hbA hsr8
          obtain ⟨t0, t1, t2, t3, t4⟩ := cells5 M9.out.at'
          go_upto_if 76 with fail
          go_cut [] (fun wx => ∃ ka' kn' kc' ba' bn' bc', MapZ wx w.heap.size (wo.heap.size + 1) T7 (consIf (hasAfter s) (consIf (hasUndo s) [sName, sAction] sUndo) sAfter) (consIf (hasAfter s) (consIf (hasUndo s) [scalarT s.name, scalarT s.action] (scalarT s.undo)) (seqT (s.after.map scalarT))) ka' kn' kc' ba' bn' bc' ∧ Below (wo.heap.size + 1) wA wx)
          case first =>
            by_cases hX : hasAfter s = true
            · have hX1 : (decide (0 < s.after.length)) = true := hX
              rw [hX1]
              clear hX1
              go_wp2_with fail
              refine (M8.out.put (N8 + 1) sAfter (seqT (s.after.map scalarT)) _ wr HX9.out (by have := HN8.out; omega) HR8.out.node (Nat.le_trans (consIf_le (Nat.le_refl 2)) (by decide)) (Nat.le_trans (consIf_le (Nat.le_refl 2)) (by decide)) (by decide)).mono ?_
              rintro e wf ⟨ka', kn', kc', ba', bn', bc', rfl, hm', ht', hb'⟩
              obtain ⟨q0, q1, q2, q3, q4⟩ := cells5 ht'
              obtain ⟨f0, f1, f2, f3, f4⟩ := cells5w ht'
              have HM' := Lib.hid hm'
              have HT' := Lib.hid ht'
              have HB' := Lib.hid hb'
              clear hm' ht' hb' y0 y1 y2 y3 y4 t0 t1 t2 t3 t4 a0 a1 a2 a3 a4 a5 a6 a7 a8 a9 a10 a11 a12
              go_wp2_with fail
              clear q0 q1 q2 q3 q4 f0 f1 f2 f3 f4
              go_meet
              exact ⟨ka', kn', kc', ba', bn', bc', by rw [hX]; exact MapZ.stored HM'.out HT'.out M9.out.bin M9.out.lo, set5w_below (FB9.out.trans HB'.out) M9.out.lo⟩
            · have hX0 : hasAfter s = false := by simpa using hX
              have hX1 : (decide (0 < s.after.length)) = false := hX0
              rw [hX1]
              clear hX1
              go_wp2_with fail
              go_meet
              exact ⟨_, _, _, _, _, _, by rw [hX0]; exact M9.out, FB9.out⟩
          case rest =>
          obtain ⟨ka10, kn10, kc10, ba10, bn10, bc10, hm10, hb10⟩ := hcut
          generalize wc = w10 at *
          clear t0 t1 t2 t3 t4 a0 a1 a2 a3 a4 a5 a6 a7 a8 a9 a10 a11 a12 M9 FB9 hl9 y0 y1 y2 y3 y4
          have M10 := Lib.hid hm10
          have FB10 := Lib.hid hb10
          have hl10 : (wo.heap.size + 1) ≤ w10.heap.size := by have := hb10.size; omega
          clear hm10 hb10
          obtain ⟨t0, t1, t2, t3, t4⟩ := cells5 M10.out.at'
          obtain ⟨a0, a1, a2, a3, a4, a5, a6, a7, a8, a9, a10, a11, a12⟩ := cells13q ((FB10.out.block wo.heap.size (by omega)).trans HKB.out)
          go_upto_region 19 with fail
          go_cut [83] (fun s83 wx => s83 = .bool (hasRetry s) ∧ w10 = wx)
          case first =>
            by_cases h1 : s.most = 0 <;> by_cases h2 : s.first = 0 <;> by_cases h3 : s.factor = 0
            all_goals
              go_wp2_with fail
              go_meet
              exact ⟨by simp [hasRetry, h1, h2, h3], rfl⟩
          case rest =>
          obtain ⟨rfl, hw10⟩ := hcut
          generalize wc = wq at *
          subst hw10
          go_upto_if 83 with fail
          go_cut [] (fun wx => ∃ ka' kn' kc' ba' bn' bc', MapZ wx w.heap.size (wo.heap.size + 1) T7 (consIf (hasRetry s) (consIf (hasAfter s) (consIf (hasUndo s) [sName, sAction] sUndo) sAfter) sRetry) (consIf (hasRetry s) (consIf (hasAfter s) (consIf (hasUndo s) [scalarT s.name, scalarT s.action] (scalarT s.undo)) (seqT (s.after.map scalarT))) (retryT s.most s.first s.factor)) ka' kn' kc' ba' bn' bc' ∧ Below (wo.heap.size + 1) wA wx)
          case first =>
            by_cases hX : hasRetry s = true
            · have hX1 : (hasRetry s) = true := hX
              rw [hX1]
              clear hX1
              go_wp2_with fail
              refine (rdig_any s.most _ HNS.out.1 HNS.out.2.1).mono ?_
              rintro e w21 ⟨rfl, rfl⟩
              go_wp2_with fail
              refine (rScalar_any (digS s.most) _).mono ?_
              rintro e w22 ⟨rfl, hb22⟩
              have hl22 : (wo.heap.size + 1) ≤ w22.heap.size := Nat.le_trans hl10 hb22.size
              have hlw : w.heap.size ≤ w10.heap.size := by have := HBW.out.size; omega
              have HB22 := Lib.hid hb22
              have hs22 := hb22.size
              clear hb22
              go_wp2_with fail
              refine (zput_any w.heap.size w10.heap.size w22.heap.size (fun g => w.heap.size ≤ g ∧ g < w10.heap.size) sMost (numT s.most) [] [] none 0 0 none 0 0 _ w22 w22 (zmap_nil _ _ _) (Below.refl _ _) (Nat.le_refl _) (num_node _ _ _) hlw (fun g hg => hg.1) (fun g hg => by have := hg.2; omega) hs22 (by simp) (by simp) (by decide)).mono ?_
              rintro e w23 ⟨kaR, knR, kcR, baR, bnR, bcR, rfl, hmR, hb23, -⟩
              have hs23 := hb23.size
              have MR := Lib.hid (MapZ.alloc hmR hlw (by omega))
              have HB23 := Lib.hid (HB22.out.trans hb23)
              clear hmR hb23
              go_upto_region 21 with fail
              have hx24 : Below w23.heap.size w23 (w23.alloc (.cells #[.int .u8 3, .string { data := #[] }, .slice kaR knR kcR, .slice baR bnR bcR, .int .i64 0] 34)) := (Below.refl _ _).alloc (Nat.le_refl _) _
              have HB24 := Lib.hid (HB23.out.trans (hx24.mono (by omega)))
              have hT10 : w10.heap.size ≤ w23.heap.size := by omega
              generalize w23.heap.size = T10 at *
              generalize w23.alloc (.cells #[.int .u8 3, .string { data := #[] }, .slice kaR knR kcR, .slice baR bnR bcR, .int .i64 0] 34) = w24 at *
              clear hx24 t0 t1 t2 t3 t4 a0 a1 a2 a3 a4 a5 a6 a7 a8 a9 a10 a11 a12
              have hTR := MR.out.lt
              obtain ⟨a0, a1, a2, a3, a4, a5, a6, a7, a8, a9, a10, a11, a12⟩ := cells13q (((FB10.out.trans (HB24.out.mono hl10)).block wo.heap.size (by omega)).trans HKB.out)
              obtain ⟨r0, r1, r2, r3, r4⟩ := cells5 MR.out.at'
              go_wp2_with fail
              refine E_region (S := (fun W => W.cell? ⟨T10, 0, none⟩ = some (.int .u8 3) ∧ W.cell? ⟨T10, 1, none⟩ = some (.string { data := #[] }) ∧ W.cell? ⟨T10, 2, none⟩ = some (.slice kaR knR kcR) ∧ W.cell? ⟨T10, 3, none⟩ = some (.slice baR bnR bcR) ∧ W.cell? ⟨T10, 4, none⟩ = some (.int .i64 0) ∧ W.cell? ⟨wo.heap.size, 5, none⟩ = some (.int .i64 s.first))) 6 (by kernel_rfl) ⟨r0, r1, r2, r3, r4, a5⟩ (fun _ _ _ _ _ h => h) (fun Q' hQ hK' hHeld => ?_)
              refine E_take hQ hHeld 0 (v := ?ev1) rfl rfl (by kernel_rfl) (by kernel_rfl) (by kernel_rfl) (by kernel_rfl) (by kernel_rfl) (by rfl) ?ey1 ?er1
              case ey1 => (intro w hSw; (try dsimp only at hSw); go_simp; (try with_reducible rfl))
              (try simp only [Act.put, List.setIfInBounds_toArray, List.set_cons_zero, List.set_cons_succ])
              refine E_take0 hQ (fun _ => hHeld) 1 (v := ?ev2) rfl rfl (by kernel_rfl) (by kernel_rfl) (by kernel_rfl) (by decide) (by rfl) ?ey2 ?er2
              case ey2 => (intro w; go_simp; (try with_reducible rfl))
              (try simp only [Act.put, List.setIfInBounds_toArray, List.set_cons_zero, List.set_cons_succ])
              refine E_take0 hQ (fun _ => hHeld) 2 (v := ?ev3) rfl rfl (by kernel_rfl) (by kernel_rfl) (by kernel_rfl) (by decide) (by rfl) ?ey3 ?er3
              case ey3 => (intro w; go_simp; (try with_reducible rfl))
              (try simp only [Act.put, List.setIfInBounds_toArray, List.set_cons_zero, List.set_cons_succ])
              refine E_take hQ hHeld 3 (v := ?ev4) rfl rfl (by kernel_rfl) (by kernel_rfl) (by kernel_rfl) (by kernel_rfl) (by kernel_rfl) (by rfl) ?ey4 ?er4
              case ey4 => (intro w hSw; (try dsimp only at hSw); go_simp; (try with_reducible rfl))
              (try simp only [Act.put, List.setIfInBounds_toArray, List.set_cons_zero, List.set_cons_succ])
              refine E_one 4 (by kernel_rfl) rfl (by rfl) (fun K hK => ?_)
              go_simp
              refine (rdig_any s.first _ HNS.out.2.2.1 HNS.out.2.2.2.1).mono ?_
              rintro e w25 ⟨rfl, rfl⟩
              refine hK.out _ _ (fun _ _ => hHeld) (fun hHeld' => ?_)
              replace hHeld := hHeld' (by rfl) (by decide)
              clear hK hHeld'
              (try simp only [Act.put, List.setIfInBounds_toArray, List.set_cons_zero, List.set_cons_succ])
              refine E_one 5 (by kernel_rfl) rfl (by rfl) (fun K hK => ?_)
              go_simp
              refine (rScalar_any (digS s.first) _).mono ?_
              rintro e we ⟨rfl, hbx⟩
              have HD := Lib.hid hbx
              have HDE : Hid (Below w24.heap.size w24 we) := Lib.hid (((Below.refl _ w24).drew).trans hbx)
              clear hbx
              refine hK.out _ _ (fun _ _ => ⟨cellB HD.out hHeld.1, cellB HD.out hHeld.2.1, cellB HD.out hHeld.2.2.1, cellB HD.out hHeld.2.2.2.1, cellB HD.out hHeld.2.2.2.2.1, cellB HD.out hHeld.2.2.2.2.2⟩) (fun hHeld' => ?_)
              replace hHeld := hHeld' (by rfl) (by decide)
              clear hK hHeld'
              (try simp only [Act.put, List.setIfInBounds_toArray, List.set_cons_zero, List.set_cons_succ])
              refine E_one 6 (by kernel_rfl) rfl (by rfl) (fun K hK => ?_)
              go_simp
              refine (MR.out.put w24.heap.size sFirst (numT s.first) _ we HDE.out (Nat.le_refl _) (num_node _ _ _) (by simp) (by simp) (by decide)).mono ?_
              rintro e wf ⟨ka', kn', kc', ba', bn', bc', rfl, hm', ht', hb'⟩
              obtain ⟨q0, q1, q2, q3, q4⟩ := cells5 ht'
              obtain ⟨f0, f1, f2, f3, f4⟩ := cells5w ht'
              have HM' := Lib.hid hm'
              have HT' := Lib.hid ht'
              have HB' := Lib.hid hb'
              clear hm' ht' hb'
              refine hK.out _ _ (fun _ h => absurd rfl h) (fun _ => ?_)
              clear hK hHeld
              (try simp only [Act.put, List.setIfInBounds_toArray, List.set_cons_zero, List.set_cons_succ])
              refine E_one 7 (by kernel_rfl) rfl (by rfl) (fun K hK => ?_)
              go_simp
              (try simp only [Act.put, List.setIfInBounds_toArray, List.set_cons_zero, List.set_cons_succ])
              refine hK.out _ _ (fun h => absurd h (by decide)) (fun _ => ?_)
              clear hK
              (try simp only [Act.put, List.setIfInBounds_toArray, List.set_cons_zero, List.set_cons_succ])
              refine E_done (by kernel_rfl) ?_ _
              refine hK'.out _ _ ?_
              have hms := MapZ.stored HM'.out HT'.out MR.out.bin MR.out.lo
              have hbs := set5w_below (x0 := .int .u8 3) (x1 := .string { data := #[] }) (x2 := .slice ka' kn' kc') (x3 := .slice ba' bn' bc') (x4 := .int .i64 0) ((HB24.out.trans (HDE.out.mono HB24.out.size)).trans HB'.out) MR.out.lo
              clear q0 q1 q2 q3 q4 f0 f1 f2 f3 f4 a0 a1 a2 a3 a4 a5 a6 a7 a8 a9 a10 a11 a12 r0 r1 r2 r3 r4
              generalize (((((wf.setCell ⟨T10, 0, none⟩ (.int .u8 3)).setCell ⟨T10, 1, none⟩ (.string { data := #[] })).setCell ⟨T10, 2, none⟩ (.slice ka' kn' kc')).setCell ⟨T10, 3, none⟩ (.slice ba' bn' bc')).setCell ⟨T10, 4, none⟩ (.int .i64 0)) = w26 at *
              have MR2 := Lib.hid hms
              have HB26 := Lib.hid hbs
              clear hms hbs
              have M26 := Lib.hid (M10.out.below HB26.out)
              have hTR2 := MR2.out.lt
              obtain ⟨a0, a1, a2, a3, a4, a5, a6, a7, a8, a9, a10, a11, a12⟩ := cells13q (((FB10.out.trans (HB26.out.mono hl10)).block wo.heap.size (by omega)).trans HKB.out)
              obtain ⟨r0, r1, r2, r3, r4⟩ := cells5 MR2.out.at'
              obtain ⟨t0, t1, t2, t3, t4⟩ := cells5 M26.out.at'
              have hT7l : T7 < w10.heap.size := M10.out.lt
              go_wp2
              refine E_region (S := (fun W => W.cell? ⟨T7, 0, none⟩ = some (.int .u8 3) ∧ W.cell? ⟨T7, 1, none⟩ = some (.string { data := #[] }) ∧ W.cell? ⟨T7, 2, none⟩ = some (.slice ka10 kn10 kc10) ∧ W.cell? ⟨T7, 3, none⟩ = some (.slice ba10 bn10 bc10) ∧ W.cell? ⟨T7, 4, none⟩ = some (.int .i64 0) ∧ W.cell? ⟨T10, 0, none⟩ = some (.int .u8 3) ∧ W.cell? ⟨T10, 1, none⟩ = some (.string { data := #[] }) ∧ W.cell? ⟨T10, 2, none⟩ = some (.slice ka' kn' kc') ∧ W.cell? ⟨T10, 3, none⟩ = some (.slice ba' bn' bc') ∧ W.cell? ⟨T10, 4, none⟩ = some (.int .i64 0) ∧ W.cell? ⟨wo.heap.size, 6, none⟩ = some (.int .i64 s.factor))) 8 (by kernel_rfl) ⟨t0, t1, t2, t3, t4, r0, r1, r2, r3, r4, a6⟩ (fun _ _ _ _ _ h => h) (fun Q' hQ hK' hHeld => ?_)
              refine E_take hQ hHeld 0 (v := ?fv1) rfl rfl (by kernel_rfl) (by kernel_rfl) (by kernel_rfl) (by kernel_rfl) (by kernel_rfl) (by rfl) ?fy1 ?fr1
              case fy1 => (intro w hSw; (try dsimp only at hSw); go_simp; (try with_reducible rfl))
              (try simp only [Act.put, List.setIfInBounds_toArray, List.set_cons_zero, List.set_cons_succ])
              refine E_take hQ hHeld 1 (v := ?fv2) rfl rfl (by kernel_rfl) (by kernel_rfl) (by kernel_rfl) (by kernel_rfl) (by kernel_rfl) (by rfl) ?fy2 ?fr2
              case fy2 => (intro w hSw; (try dsimp only at hSw); go_simp; (try with_reducible rfl))
              (try simp only [Act.put, List.setIfInBounds_toArray, List.set_cons_zero, List.set_cons_succ])
              refine E_take0 hQ (fun _ => hHeld) 2 (v := ?fv3) rfl rfl (by kernel_rfl) (by kernel_rfl) (by kernel_rfl) (by decide) (by rfl) ?fy3 ?fr3
              case fy3 => (intro w; go_simp; (try with_reducible rfl))
              (try simp only [Act.put, List.setIfInBounds_toArray, List.set_cons_zero, List.set_cons_succ])
              refine E_take0 hQ (fun _ => hHeld) 3 (v := ?fv4) rfl rfl (by kernel_rfl) (by kernel_rfl) (by kernel_rfl) (by decide) (by rfl) ?fy4 ?fr4
              case fy4 => (intro w; go_simp; (try with_reducible rfl))
              (try simp only [Act.put, List.setIfInBounds_toArray, List.set_cons_zero, List.set_cons_succ])
              refine E_take hQ hHeld 4 (v := ?fv5) rfl rfl (by kernel_rfl) (by kernel_rfl) (by kernel_rfl) (by kernel_rfl) (by kernel_rfl) (by rfl) ?fy5 ?fr5
              case fy5 => (intro w hSw; (try dsimp only at hSw); go_simp; (try with_reducible rfl))
              (try simp only [Act.put, List.setIfInBounds_toArray, List.set_cons_zero, List.set_cons_succ])
              refine E_one 5 (by kernel_rfl) rfl (by rfl) (fun K hK => ?_)
              go_simp
              refine (rdig_any s.factor _ HNS.out.2.2.2.2.1 HNS.out.2.2.2.2.2.1).mono ?_
              rintro e w27 ⟨rfl, rfl⟩
              refine hK.out _ _ (fun _ _ => hHeld) (fun hHeld' => ?_)
              replace hHeld := hHeld' (by rfl) (by decide)
              clear hK hHeld'
              (try simp only [Act.put, List.setIfInBounds_toArray, List.set_cons_zero, List.set_cons_succ])
              refine E_one 6 (by kernel_rfl) rfl (by rfl) (fun K hK => ?_)
              go_simp
              refine (rScalar_any (digS s.factor) _).mono ?_
              rintro e we2 ⟨rfl, hbx⟩
              have HD2 := Lib.hid hbx
              have HDE2 : Hid (Below w26.heap.size w26 we2) := Lib.hid (((Below.refl _ w26).drew).trans hbx)
              clear hbx
              refine hK.out _ _ (fun _ _ => ⟨cellB HD2.out hHeld.1, cellB HD2.out hHeld.2.1, cellB HD2.out hHeld.2.2.1, cellB HD2.out hHeld.2.2.2.1, cellB HD2.out hHeld.2.2.2.2.1, cellB HD2.out hHeld.2.2.2.2.2.1, cellB HD2.out hHeld.2.2.2.2.2.2.1, cellB HD2.out hHeld.2.2.2.2.2.2.2.1, cellB HD2.out hHeld.2.2.2.2.2.2.2.2.1, cellB HD2.out hHeld.2.2.2.2.2.2.2.2.2.1, cellB HD2.out hHeld.2.2.2.2.2.2.2.2.2.2⟩) (fun hHeld' => ?_)
              replace hHeld := hHeld' (by rfl) (by decide)
              clear hK hHeld'
              (try simp only [Act.put, List.setIfInBounds_toArray, List.set_cons_zero, List.set_cons_succ])
              refine E_one 7 (by kernel_rfl) rfl (by rfl) (fun K hK => ?_)
              go_simp
              refine (MR2.out.put w26.heap.size sFactor (numT s.factor) _ we2 HDE2.out (Nat.le_refl _) (num_node _ _ _) (by simp) (by simp) (by decide)).mono ?_
              rintro e wg ⟨kaS, knS, kcS, baS, bnS, bcS, rfl, hmS, htS, hbS⟩
              obtain ⟨q0, q1, q2, q3, q4⟩ := cells5 htS
              have HMS := Lib.hid hmS
              have HBG := Lib.hid ((HB26.out.trans (HDE2.out.mono HB26.out.size)).trans hbS)
              have HBS := Lib.hid hbS
              have HTRE : Hid (retryT s.most s.first s.factor = mapT ([] ++ [sMost] ++ [sFirst] ++ [sFactor]) ([] ++ [numT s.most] ++ [numT s.first] ++ [numT s.factor])) := Lib.hid rfl
              clear hmS htS hbS
              refine hK.out _ _ (fun _ _ => ⟨cellLo HBS.out hT7l hHeld.1, cellLo HBS.out hT7l hHeld.2.1, cellLo HBS.out hT7l hHeld.2.2.1, cellLo HBS.out hT7l hHeld.2.2.2.1, cellLo HBS.out hT7l hHeld.2.2.2.2.1, q0, q1, q2, q3, q4, cellLo HBS.out (by show wo.heap.size < _; omega) hHeld.2.2.2.2.2.2.2.2.2.2⟩) (fun hHeld' => ?_)
              replace hHeld := hHeld' (by rfl) (by decide)
              clear hK hHeld'
              (try simp only [Act.put, List.setIfInBounds_toArray, List.set_cons_zero, List.set_cons_succ])
              refine E_one 8 (by kernel_rfl) rfl (by rfl) (fun K hK => ?_)
              go_simp
              refine (M10.out.put w10.heap.size sRetry (retryT s.most s.first s.factor) _ wg HBG.out (Nat.le_refl _) (by rw [HTRE.out]; exact HMS.out.nodeP (fun g h1 h2 => .inl ⟨h1, h2⟩)) (Nat.le_trans (consIf_le (consIf_le (Nat.le_refl 2))) (by decide)) (Nat.le_trans (consIf_le (consIf_le (Nat.le_refl 2))) (by decide)) (by decide)).mono ?_
              clear q0 q1 q2 q3 q4
              rintro e wh ⟨kaU, knU, kcU, baU, bnU, bcU, rfl, hm', ht', hb'⟩
              obtain ⟨q0, q1, q2, q3, q4⟩ := cells5 ht'
              obtain ⟨f0, f1, f2, f3, f4⟩ := cells5w ht'
              have HMU := Lib.hid hm'
              have HTU := Lib.hid ht'
              have HBU := Lib.hid (FB10.out.trans ((HBG.out.mono hl10).trans hb'))
              clear hm' ht' hb'
              refine hK.out _ _ (fun _ h => absurd rfl h) (fun _ => ?_)
              clear hK hHeld
              (try simp only [Act.put, List.setIfInBounds_toArray, List.set_cons_zero, List.set_cons_succ])
              refine E_one 9 (by kernel_rfl) rfl (by rfl) (fun K hK => ?_)
              go_simp
              (try simp only [Act.put, List.setIfInBounds_toArray, List.set_cons_zero, List.set_cons_succ])
              refine hK.out _ _ (fun h => absurd h (by decide)) (fun _ => ?_)
              clear hK
              (try simp only [Act.put, List.setIfInBounds_toArray, List.set_cons_zero, List.set_cons_succ])
              refine E_done (by kernel_rfl) ?_ _
              refine hK'.out _ _ ?_
              clear q0 q1 q2 q3 q4 f0 f1 f2 f3 f4 t0 t1 t2 t3 t4 a0 a1 a2 a3 a4 a5 a6 a7 a8 a9 a10 a11 a12 r0 r1 r2 r3 r4
              go_wp2_with fail
              go_meet
              exact ⟨kaU, knU, kcU, baU, bnU, bcU, by rw [hX]; exact MapZ.stored HMU.out HTU.out M10.out.bin M10.out.lo, set5w_below HBU.out M10.out.lo⟩
            · have hX0 : hasRetry s = false := by simpa using hX
              have hX1 : (hasRetry s) = false := hX0
              rw [hX1]
              clear hX1
              go_wp2_with fail
              go_meet
              exact ⟨_, _, _, _, _, _, by rw [hX0]; exact M10.out, FB10.out⟩
          case rest =>
          obtain ⟨ka11, kn11, kc11, ba11, bn11, bc11, hm11, hb11⟩ := hcut
          generalize wc = w11 at *
          clear t0 t1 t2 t3 t4 a0 a1 a2 a3 a4 a5 a6 a7 a8 a9 a10 a11 a12 M10 FB10 hl10
          have M11 := Lib.hid hm11
          have FB11 := Lib.hid hb11
          have hl11 : (wo.heap.size + 1) ≤ w11.heap.size := by have := hb11.size; omega
          clear hm11 hb11
          obtain ⟨t0, t1, t2, t3, t4⟩ := cells5 M11.out.at'
          obtain ⟨a0, a1, a2, a3, a4, a5, a6, a7, a8, a9, a10, a11, a12⟩ := cells13q ((FB11.out.block wo.heap.size (by omega)).trans HKB.out)
          go_upto_if 109 with fail
          go_cut [] (fun wx => ∃ ka' kn' kc' ba' bn' bc', MapZ wx w.heap.size (wo.heap.size + 1) T7 (consIf (hasLimit s) (consIf (hasRetry s) (consIf (hasAfter s) (consIf (hasUndo s) [sName, sAction] sUndo) sAfter) sRetry) sLimit) (consIf (hasLimit s) (consIf (hasRetry s) (consIf (hasAfter s) (consIf (hasUndo s) [scalarT s.name, scalarT s.action] (scalarT s.undo)) (seqT (s.after.map scalarT))) (retryT s.most s.first s.factor)) (numT s.limit)) ka' kn' kc' ba' bn' bc' ∧ Below (wo.heap.size + 1) wA wx)
          case first =>
            by_cases hX : hasLimit s = true
            · have hX1 : (s.limit != 0) = true := hX
              rw [hX1]
              clear hX1
              go_wp2
              refine E_region (S := (fun W => W.cell? ⟨T7, 0, none⟩ = some (.int .u8 3) ∧ W.cell? ⟨T7, 1, none⟩ = some (.string { data := #[] }) ∧ W.cell? ⟨T7, 2, none⟩ = some (.slice ka11 kn11 kc11) ∧ W.cell? ⟨T7, 3, none⟩ = some (.slice ba11 bn11 bc11) ∧ W.cell? ⟨T7, 4, none⟩ = some (.int .i64 0) ∧ W.cell? ⟨wo.heap.size, 7, none⟩ = some (.int .i64 s.limit))) 5 (by kernel_rfl) ⟨t0, t1, t2, t3, t4, a7⟩ (fun _ _ _ _ _ h => h) (fun Q' hQ hK' hHeld => ?_)
              refine E_take hQ hHeld 0 (v := ?gv1) rfl rfl (by kernel_rfl) (by kernel_rfl) (by kernel_rfl) (by kernel_rfl) (by kernel_rfl) (by rfl) ?gy1 ?gr1
              case gy1 => (intro w hSw; (try dsimp only at hSw); go_simp; (try with_reducible rfl))
              (try simp only [Act.put, List.setIfInBounds_toArray, List.set_cons_zero, List.set_cons_succ])
              refine E_take0 hQ (fun _ => hHeld) 1 (v := ?gv2) rfl rfl (by kernel_rfl) (by kernel_rfl) (by kernel_rfl) (by decide) (by rfl) ?gy2 ?gr2
              case gy2 => (intro w; go_simp; (try with_reducible rfl))
              (try simp only [Act.put, List.setIfInBounds_toArray, List.set_cons_zero, List.set_cons_succ])
              refine E_take hQ hHeld 2 (v := ?gv3) rfl rfl (by kernel_rfl) (by kernel_rfl) (by kernel_rfl) (by kernel_rfl) (by kernel_rfl) (by rfl) ?gy3 ?gr3
              case gy3 => (intro w hSw; (try dsimp only at hSw); go_simp; (try with_reducible rfl))
              (try simp only [Act.put, List.setIfInBounds_toArray, List.set_cons_zero, List.set_cons_succ])
              refine E_one 3 (by kernel_rfl) rfl (by rfl) (fun K hK => ?_)
              go_simp
              refine (rdig_any s.limit _ HNS.out.2.2.2.2.2.2.1 HNS.out.2.2.2.2.2.2.2).mono ?_
              rintro e w27 ⟨rfl, rfl⟩
              refine hK.out _ _ (fun _ _ => hHeld) (fun hHeld' => ?_)
              replace hHeld := hHeld' (by rfl) (by decide)
              clear hK hHeld'
              (try simp only [Act.put, List.setIfInBounds_toArray, List.set_cons_zero, List.set_cons_succ])
              refine E_one 4 (by kernel_rfl) rfl (by rfl) (fun K hK => ?_)
              go_simp
              refine (rScalar_any (digS s.limit) _).mono ?_
              rintro e we ⟨rfl, hbx⟩
              have HD := Lib.hid hbx
              have HDE : Hid (Below w11.heap.size w11 we) := Lib.hid (((Below.refl _ w11).drew).trans hbx)
              have hlx : (wo.heap.size + 1) ≤ we.heap.size := Nat.le_trans hl11 HDE.out.size
              clear hbx
              refine hK.out _ _ (fun _ _ => ⟨cellB HD.out hHeld.1, cellB HD.out hHeld.2.1, cellB HD.out hHeld.2.2.1, cellB HD.out hHeld.2.2.2.1, cellB HD.out hHeld.2.2.2.2.1, cellB HD.out hHeld.2.2.2.2.2⟩) (fun hHeld' => ?_)
              replace hHeld := hHeld' (by rfl) (by decide)
              clear hK hHeld'
              (try simp only [Act.put, List.setIfInBounds_toArray, List.set_cons_zero, List.set_cons_succ])
              refine E_one 5 (by kernel_rfl) rfl (by rfl) (fun K hK => ?_)
              go_simp
              refine (M11.out.put w11.heap.size sLimit (numT s.limit) _ we HDE.out (Nat.le_refl _) (num_node _ _ _) (Nat.le_trans (consIf_le (consIf_le (consIf_le (Nat.le_refl 2)))) (by decide)) (Nat.le_trans (consIf_le (consIf_le (consIf_le (Nat.le_refl 2)))) (by decide)) (by decide)).mono ?_
              rintro e wf ⟨ka', kn', kc', ba', bn', bc', rfl, hm', ht', hb'⟩
              obtain ⟨q0, q1, q2, q3, q4⟩ := cells5 ht'
              obtain ⟨f0, f1, f2, f3, f4⟩ := cells5w ht'
              have HM' := Lib.hid hm'
              have HT' := Lib.hid ht'
              have HB' := Lib.hid hb'
              clear hm' ht' hb'
              refine hK.out _ _ (fun _ h => absurd rfl h) (fun _ => ?_)
              clear hK hHeld
              (try simp only [Act.put, List.setIfInBounds_toArray, List.set_cons_zero, List.set_cons_succ])
              refine E_one 6 (by kernel_rfl) rfl (by rfl) (fun K hK => ?_)
              go_simp
              (try simp only [Act.put, List.setIfInBounds_toArray, List.set_cons_zero, List.set_cons_succ])
              refine hK.out _ _ (fun h => absurd h (by decide)) (fun _ => ?_)
              clear hK
              (try simp only [Act.put, List.setIfInBounds_toArray, List.set_cons_zero, List.set_cons_succ])
              refine E_done (by kernel_rfl) ?_ _
              refine hK'.out _ _ ?_
              clear q0 q1 q2 q3 q4 f0 f1 f2 f3 f4 t0 t1 t2 t3 t4 a0 a1 a2 a3 a4 a5 a6 a7 a8 a9 a10 a11 a12
              go_wp2_with fail
              go_meet
              exact ⟨ka', kn', kc', ba', bn', bc', by rw [hX]; exact MapZ.stored HM'.out HT'.out M11.out.bin M11.out.lo, set5w_below (FB11.out.trans ((HDE.out.mono hl11).trans HB'.out)) M11.out.lo⟩
            · have hX0 : hasLimit s = false := by simpa using hX
              have hX1 : (s.limit != 0) = false := hX0
              rw [hX1]
              clear hX1
              go_wp2_with fail
              go_meet
              exact ⟨_, _, _, _, _, _, by rw [hX0]; exact M11.out, FB11.out⟩
          case rest =>
          obtain ⟨ka12, kn12, kc12, ba12, bn12, bc12, hm12, hb12⟩ := hcut
          generalize wc = w12 at *
          clear t0 t1 t2 t3 t4 a0 a1 a2 a3 a4 a5 a6 a7 a8 a9 a10 a11 a12 M11 FB11 hl11
          have M12 := Lib.hid hm12
          have FB12 := Lib.hid hb12
          have hl12 : (wo.heap.size + 1) ≤ w12.heap.size := by have := hb12.size; omega
          clear hm12 hb12
          obtain ⟨t0, t1, t2, t3, t4⟩ := cells5 M12.out.at'
          obtain ⟨a0, a1, a2, a3, a4, a5, a6, a7, a8, a9, a10, a11, a12⟩ := cells13q ((FB12.out.block wo.heap.size (by omega)).trans HKB.out)
          go_wp2_with fail
          have hsz12 : Below wA.heap.size wA w12 := by rw [hszA]; exact FB12.out
          refine (None_any s.note _ w12 (HSR.out.note.belowW hsz12)).mono ?_
          rintro e w13 ⟨rfl, hb13⟩
          have M13 := Lib.hid (M12.out.below hb13)
          have FB13 := Lib.hid (FB12.out.trans (hb13.mono hl12))
          have hl13 : (wo.heap.size + 1) ≤ w13.heap.size := Nat.le_trans hl12 hb13.size
          clear t0 t1 t2 t3 t4 a0 a1 a2 a3 a4 a5 a6 a7 a8 a9 a10 a11 a12 hb13 hsz12 M12 FB12 hl12
          obtain ⟨t0, t1, t2, t3, t4⟩ := cells5 M13.out.at'
          obtain ⟨a0, a1, a2, a3, a4, a5, a6, a7, a8, a9, a10, a11, a12⟩ := cells13q ((FB13.out.block wo.heap.size (by omega)).trans HKB.out)
          go_upto_if 119 with fail
          go_cut [] (fun wx => ∃ ka' kn' kc' ba' bn' bc', MapZ wx w.heap.size (wo.heap.size + 1) T7 (consIf (hasNote s) (consIf (hasLimit s) (consIf (hasRetry s) (consIf (hasAfter s) (consIf (hasUndo s) [sName, sAction] sUndo) sAfter) sRetry) sLimit) sNote) (consIf (hasNote s) (consIf (hasLimit s) (consIf (hasRetry s) (consIf (hasAfter s) (consIf (hasUndo s) [scalarT s.name, scalarT s.action] (scalarT s.undo)) (seqT (s.after.map scalarT))) (retryT s.most s.first s.factor)) (numT s.limit)) (s.note)) ka' kn' kc' ba' bn' bc' ∧ Below (wo.heap.size + 1) wA wx)
          case first =>
            by_cases hX : hasNote s = true
            · have hX1 : (!noneT s.note) = true := hX
              rw [hX1]
              clear hX1
              go_wp2_with fail
              have HBX : Hid (Below w.heap.size w w13) := Lib.hid (HBW.out.trans ((HA.out.mono (by have := HBW.out.size; omega)).trans (FB13.out.mono (by have := HBW.out.size; omega))))
              refine (M13.out.put w13.heap.size sNote s.note _ w13 (Below.refl _ _) (Nat.le_refl _) (nodeO_new w _ HN0.out (fun g hg => .inl hg) HBX.out) (Nat.le_trans (consIf_le (consIf_le (consIf_le (consIf_le (Nat.le_refl 2))))) (by decide)) (Nat.le_trans (consIf_le (consIf_le (consIf_le (consIf_le (Nat.le_refl 2))))) (by decide)) (by decide)).mono ?_
              rintro e wf ⟨ka', kn', kc', ba', bn', bc', rfl, hm', ht', hb'⟩
              obtain ⟨q0, q1, q2, q3, q4⟩ := cells5 ht'
              obtain ⟨f0, f1, f2, f3, f4⟩ := cells5w ht'
              have HM' := Lib.hid hm'
              have HT' := Lib.hid ht'
              have HB' := Lib.hid hb'
              clear hm' ht' hb' t0 t1 t2 t3 t4 a0 a1 a2 a3 a4 a5 a6 a7 a8 a9 a10 a11 a12
              go_wp2_with fail
              clear q0 q1 q2 q3 q4 f0 f1 f2 f3 f4
              go_meet
              exact ⟨ka', kn', kc', ba', bn', bc', by rw [hX]; exact MapZ.stored HM'.out HT'.out M13.out.bin M13.out.lo, set5w_below (FB13.out.trans HB'.out) M13.out.lo⟩
            · have hX0 : hasNote s = false := by simpa using hX
              have hX1 : (!noneT s.note) = false := hX0
              rw [hX1]
              clear hX1
              go_wp2_with fail
              go_meet
              exact ⟨_, _, _, _, _, _, by rw [hX0]; exact M13.out, FB13.out⟩
          case rest =>
          obtain ⟨ka14, kn14, kc14, ba14, bn14, bc14, hm14, hb14⟩ := hcut
          generalize wc = w14 at *
          clear t0 t1 t2 t3 t4 a0 a1 a2 a3 a4 a5 a6 a7 a8 a9 a10 a11 a12 M13 FB13 hl13
          have M14 := Lib.hid hm14
          have FB14 := Lib.hid hb14
          have hl14 : (wo.heap.size + 1) ≤ w14.heap.size := by have := hb14.size; omega
          clear hm14 hb14
          have HNT : Hid (mapT (consIf (hasNote s) (consIf (hasLimit s) (consIf (hasRetry s) (consIf (hasAfter s) (consIf (hasUndo s) [sName, sAction] sUndo) sAfter) sRetry) sLimit) sNote) (consIf (hasNote s) (consIf (hasLimit s) (consIf (hasRetry s) (consIf (hasAfter s) (consIf (hasUndo s) [scalarT s.name, scalarT s.action] (scalarT s.undo)) (seqT (s.after.map scalarT))) (retryT s.most s.first s.factor)) (numT s.limit)) (s.note)) = stepT s) := Lib.hid rfl
          have hbo : Below wo.heap.size wo w14 := HA.out.trans (FB14.out.mono (by omega))
          have hO := (hbo.block N4 hNr).trans HR.out.at'
          obtain ⟨-, -, -, x3, -⟩ := cells5 hO
          obtain ⟨t0, t1, t2, t3, t4⟩ := cells5 M14.out.at'
          obtain ⟨xs, hxs⟩ := HR.out.owns
          have HXS := Lib.hid hxs
          have h6 : Below w14.heap.size w14 (w14.alloc (.cells #[.int .u8 3, .string { data := #[] }, .slice ka14 kn14 kc14, .slice ba14 bn14 bc14, .int .i64 0] 34)) := (Below.refl _ _).alloc (Nat.le_refl _) _
          have HB6 := Lib.hid (hbo.trans (h6.mono (by omega)))
          have HOW6 := Lib.hid (ownsB hxs HB6.out)
          have HO := Lib.hid ((h6.block N4 (by omega)).trans hO)
          have HNK := Lib.hid (M14.out.node.keep (w' := (w14.alloc (.cells #[.int .u8 3, .string { data := #[] }, .slice ka14 kn14 kc14, .slice ba14 bn14 bc14, .int .i64 0] 34))) (Q := PV w.heap.size (wo.heap.size + 1) (w14.alloc (.cells #[.int .u8 3, .string { data := #[] }, .slice ka14 kn14 kc14, .slice ba14 bn14 bc14, .int .i64 0] 34)).heap.size) (fun g hP hl => h6.block g hl) (fun g hP => by
            rcases hP with hP | hP
            · exact .inl hP
            · exact .inr ⟨hP.1, by have := hP.2; have := h6.size; omega⟩))
          have hN6 : N4 < (w14.alloc (.cells #[.int .u8 3, .string { data := #[] }, .slice ka14 kn14 kc14, .slice ba14 bn14 bc14, .int .i64 0] 34)).heap.size := by have := h6.size; omega
          clear hbo hO hxs h6
          go_upto_region 7 with (at_builtin; go_must (refine wpList_push rfl (.tmp 125) (.tmp 127) 32 rfl (N4 + 1) 34 i0 (.agg #[.int .u8 0, .string { data := #[] }, .slice none 0 0, .slice none 0 0, .int .i64 0]) 5 80 Try.underlying32 hi hz0 hz1 hz2 rfl (by decide) vc ((d.steps.take j).map stepT).length xs rfl HOW6.out ⟨w14.heap.size, 0, none⟩ 1 1 _ rfl rfl (World.news_of_block (World.alloc_heap_new w14 _)) (by simp [Value.oneCell']) (by have := HLK.out; unfold maxLen; omega) (by have := HLK.out; omega) (by have := HLK.out; simp; omega) ?_; intro v8 wP hown8 hgrow8 hfr8; obtain ⟨a8, c8, rfl⟩ := (RdS.of_owns hown8).form; have hx8 := (hgrow8.block N4 hN6 (fun e => by have := (HXS.out.lt _ e.symm).1; omega)).trans HO.out; obtain ⟨-, -, -, q3, -⟩ := cells5 hx8; obtain ⟨-, -, -, f3, -⟩ := cells5w hx8; have HGR8 := Lib.hid hgrow8; have HO8 := Lib.hid hown8; have HF8 := Lib.hid hfr8; clear hx8 hgrow8 hown8 hfr8))
          have hnk2 := HNK.out
          rw [HNT.out] at hnk2
          have HSTP := SeqV.step (s := (wo.heap.size + 1)) (kid := stepT s) HR.out HB6.out (by omega) hnk2 HGR8.out HOW6.out HO8.out HF8.out
          have HS1 := Lib.hid HSTP.1
          have HS2 := Lib.hid HSTP.2
          clear HSTP hnk2 q3 f3 x3 t0 t1 t2 t3 t4 x0 x1 x2
          go_wp2_with fail
          go_roundw
          case rel =>
            rw [HLK.out, HE1.out] at HS1
            rw [HLK.out] at HS2
            exact ⟨j + 1, _, by omega, by go_num, HS1, Lib.hid (HB.out.trans HS2.out)⟩
          case measure => simp [intOf]; omega
    · obtain rfl : j = d.steps.length := by omega
      rw [List.take_length] at HR
      obtain ⟨b4, n4, c4, rfl⟩ := HR.out.formV
      have HX4 : Hid (Below wd.heap.size wd wo) := Lib.hid (by rw [HN4.out]; exact HXD.out.trans HB.out)
      have hN4r := HR.out.lt
      have MO := Lib.hid (HMB.out.below HX4.out)
      obtain ⟨t0, t1, t2, t3, t4⟩ := cells5 MO.out.at'
      obtain ⟨y0, y1, y2, y3, y4⟩ := cells5 HR.out.at'
      have hg1 := (HB2.out.block (w.heap.size + 1) (by omega)).trans G1.out
      have HG1 := Lib.hid hg1
      clear hg1 hbw
      go_wp2_with fail
      refine (HMB.out.put (N4 + 1) sSteps (seqT (d.steps.map stepT)) _ wo HX4.out (by have := HN4.out; omega) HR.out.node (Nat.le_trans (consIf_le (Nat.le_refl 1)) (by decide)) (Nat.le_trans (consIf_le (Nat.le_refl 1)) (by decide)) (by decide)).mono ?_
      rintro e wf ⟨ka', kn', kc', ba', bn', bc', rfl, hm', ht', hb'⟩
      have hg1 := (hb'.block _ (by omega)).trans HG1.out
      obtain ⟨q0, q1, q2, q3, q4⟩ := cells5 hg1
      obtain ⟨f0, f1, f2, f3, f4⟩ := cells5w hg1
      have HG := Lib.hid hg1
      have HNF := Lib.hid (hm'.nodeP (fun g h1 h2 => .inl ⟨h1, h2⟩))
      have HBO := Lib.hid (HBW.out.trans (hb'.mono (by omega)))
      clear hm' ht' hb' hg1 t0 t1 t2 t3 t4 y0 y1 y2 y3 y4 x0 x1 x2
      go_wp2
      have hset := set5w (x0 := .int .u8 3) (x1 := .string { data := #[] }) (x2 := .slice ka' kn' kc') (x3 := .slice ba' bn' bc') (x4 := .int .i64 0) HG.out
      have hbf := set5w_below (x0 := .int .u8 3) (x1 := .string { data := #[] }) (x2 := .slice ka' kn' kc') (x3 := .slice ba' bn' bc') (x4 := .int .i64 0) (HBO.out) (B := w.heap.size + 1) (by omega)
      have hof : ∀ g, g ≠ w.heap.size + 1 → (((((wf.setCell ⟨w.heap.size + 1, 0, none⟩ (.int .u8 3)).setCell ⟨w.heap.size + 1, 1, none⟩ (.string { data := #[] })).setCell ⟨w.heap.size + 1, 2, none⟩ (.slice ka' kn' kc')).setCell ⟨w.heap.size + 1, 3, none⟩ (.slice ba' bn' bc')).setCell ⟨w.heap.size + 1, 4, none⟩ (.int .i64 0)).heap[g]? = wf.heap[g]? := fun g hg => set5w_other hg
      have hsf : (((((wf.setCell ⟨w.heap.size + 1, 0, none⟩ (.int .u8 3)).setCell ⟨w.heap.size + 1, 1, none⟩ (.string { data := #[] })).setCell ⟨w.heap.size + 1, 2, none⟩ (.slice ka' kn' kc')).setCell ⟨w.heap.size + 1, 3, none⟩ (.slice ba' bn' bc')).setCell ⟨w.heap.size + 1, 4, none⟩ (.int .i64 0)).heap.size = wf.heap.size := by simp
      clear q0 q1 q2 q3 q4 f0 f1 f2 f3 f4
      generalize (((((wf.setCell ⟨w.heap.size + 1, 0, none⟩ (.int .u8 3)).setCell ⟨w.heap.size + 1, 1, none⟩ (.string { data := #[] })).setCell ⟨w.heap.size + 1, 2, none⟩ (.slice ka' kn' kc')).setCell ⟨w.heap.size + 1, 3, none⟩ (.slice ba' bn' bc')).setCell ⟨w.heap.size + 1, 4, none⟩ (.int .i64 0)) = wz9 at *
      obtain ⟨y0, y1, y2, y3, y4⟩ := cells5 hset
      have HOF := Lib.hid hof
      have HSF := Lib.hid hsf
      have HBF := Lib.hid hbf
      clear hof hsf hbf hset
      refine bodyPost_ret (v := .agg #[.int .u8 3, .string { data := #[] }, .slice ka' kn' kc', .slice ba' bn' bc', .int .i64 0]) (by simp [results, Try.results26, go_sem, y0, y1, y2, y3, y4]) rfl ?_
      have HDT : Hid (mapT (consIf (hasText d) [sSaga] sText ++ [sSteps]) (consIf (hasText d) [scalarT d.name] (scalarT d.text) ++ [seqT (d.steps.map stepT)]) = defT d) := Lib.hid rfl
      rw [← HDT.out]
      refine ⟨_, rfl, NodeO.toR (HNF.out.keep (fun g hP _ => HOF.out g (by rcases hP with hP | hP
                                                                           · omega
                                                                           · have := hP.1; omega)) (fun g hP => hP)), HBF.out⟩
end Go.Proofs.Ytlakmfhpinljjaa
