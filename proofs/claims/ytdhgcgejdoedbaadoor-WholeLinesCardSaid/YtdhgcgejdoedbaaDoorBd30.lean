/-
  line.Join: contract.
-/
import Derived.Deep.DeepCutAuto
import Derived.Test.YtdhgcgejdoedbaaDoorBd3
import Derived.Test.YtdhgcgejdoedbaaDoorBd15
import Derived.Test.YtdhgcgejdoedbaaDoorBd28
import Derived.Test.YtdhgcgejdoedbaaDoorBd29
namespace Go.Proofs.YtdhgcgejdoedbaaDoor
open Go.RowKit Go.WideShapes

theorem bld_below {T e : TypeId} {B b : Nat} {bs : List Value} {w w' : World} (h : Lib.IsBuilder T e B b bs w) (hb : Below w.heap.size w w') : Lib.IsBuilder T e B b bs w' := by
  rcases h with ⟨h1, v, h2, h3, h4⟩ | ⟨h1, v, h2, h3, h4⟩
  · exact .inl ⟨h1, v, (hb.block b (Array.getElem?_eq_some_iff.1 h2).1).trans h2, ownsB h3 hb, h4⟩
  · exact .inr ⟨h1, v, (hb.block b (Array.getElem?_eq_some_iff.1 h2).1).trans h2, ownsB h3 hb, h4⟩
theorem bld_lt {T e : TypeId} {B b : Nat} {bs : List Value} {w : World} (h : Lib.IsBuilder T e B b bs w) : b < w.heap.size := by
  rcases h with ⟨_, v, h2, _⟩ | ⟨_, v, h2, _⟩
  · exact (Array.getElem?_eq_some_iff.1 h2).1
  · exact (Array.getElem?_eq_some_iff.1 h2).1
theorem strCells_app (a b : ByteArray) : Lib.strCells (a ++ b) = Lib.strCells a ++ Lib.strCells b := by simp [Lib.strCells]
theorem lineC_get : ∀ (l : List LineD) (k : Nat) (h : k < l.length) (j : Nat), j < 3 → (l.flatMap lineC)[k * 3 + j]? = (lineC l[k])[j]?
  | [], k, h, _, _ => absurd h (by simp)
  | x :: l, 0, _, j, hj => by
    rw [List.flatMap_cons, List.getElem?_append_left (by simp [lineC]; omega)]
    simp
  | x :: l, k + 1, h, j, hj => by
    rw [List.flatMap_cons, List.getElem?_append_right (by simp [lineC]; omega)]
    have : (k + 1) * 3 + j - (lineC x).length = k * 3 + j := by simp [lineC]; omega
    rw [this, lineC_get l k (by simpa using h) j hj]
    simp
/-- Lines as a text. -/
def lineT (x : LineD) : List Nat := List.replicate (min x.2.1 100) 32 ++ x.2.2 ++ [10]
def joinT (l : List LineD) : List Nat := l.flatMap lineT
theorem joinT_snoc (l : List LineD) (x : LineD) : joinT (l ++ [x]) = joinT l ++ lineT x := by simp [joinT]
theorem joinT_len (m : Nat) (l : List LineD) (h : ∀ x ∈ l, x.2.2.length ≤ m) : (joinT l).length ≤ l.length * (m + 101) := by
  induction l with
  | nil => simp [joinT]
  | cons x l ih =>
    have h1 := ih fun y hy => h y (by simp [hy])
    have h2 := h x (by simp)
    unfold joinT at *
    rw [List.flatMap_cons, List.length_append, List.length_cons, Nat.add_mul]
    have : (lineT x).length ≤ m + 101 := by unfold lineT; simp; omega
    omega
theorem rep_mkS (c : Nat) : (⟨(Lib.repeatL ({ data := #[32] } : ByteArray).data.toList c).toArray⟩ : ByteArray) = mkS (List.replicate c 32) := by
  have : Lib.repeatL [32] c = List.replicate c 32 := by
    induction c with
    | zero => rfl
    | succ c ih => rw [Lib.repeatL, ih, List.replicate_succ]; rfl
  show (⟨(Lib.repeatL [32] c).toArray⟩ : ByteArray) = _
  rw [this]
  simp [mkS]

set_option maxRecDepth 100000 in
set_option maxHeartbeats 4000000 in
theorem lnJoin_any (l : List LineD) (v : Value) (w : World) (hv : RdS w v 3 l.length (l.flatMap lineC)) (hl : l.length ≤ 1000) (hsz : ∀ x ∈ l, x.2.2.length ≤ 1000000) (hcol : ∀ x ∈ l, x.2.1 ≤ 1000000) :
    Calls Tryd.prog 9 #[v] w fun e w' => e = .returned (.string (mkS (joinT l))) ∧ Below w.heap.size w w' := by
  have hmn := @run_min2 Tryd.prog
  have hmx := @run_max2 Tryd.prog
  have HV := Lib.hid hv
  have HSZ := Lib.hid hsz
  have HCL := Lib.hid hcol
  obtain ⟨va, vc, rfl⟩ := hv.form
  have hb0 : Below w.heap.size w (w.alloc (.cells #[.pointer none, .slice none 0 0] 48)) := (Below.refl _ _).alloc (Nat.le_refl _) _
  have hfr := Lib.fresh_isBuilder 48 5 w
  have HB0 := Lib.hid hb0
  have HI0 := Lib.hid hfr
  clear hv hsz hcol hb0 hfr
  go_enter Tryd.func9, Tryd.ntmps9
  go_wp2_with fail
  generalize (w.alloc (.cells #[.pointer none, .slice none 0 0] 48)) = w0 at *
  go_loopg [8] (l.length + 1) (fun gk i wr => ∃ k : Nat, k + gk = l.length + 1 ∧ k ≤ l.length ∧ i = .int .i64 k ∧ Hid (Lib.IsBuilder 48 5 w.heap.size w.heap.size (Lib.strCells (mkS (joinT (l.take k)))) wr) ∧ Hid (Below w.heap.size w wr))
  case atStart => exact ⟨0, by omega, by omega, rfl, Lib.hid (by simpa [joinT, mkS, Lib.strCells] using HI0.out), HB0⟩
  case round =>
    obtain ⟨k, hgk, hk, rfl, HI, HB⟩ := hrel
    have hg : gk = l.length + 1 - k := by omega
    subst hg
    by_cases hkl : k < l.length
    · have d1 : decide ((k : Int) < (l.length : Int)) = true := decide_eq_true (by omega)
      have hk1 : (k : Int) < (l.length : Int) := by omega
      rcases (HV.out.below HB.out).cases (by decide) with ⟨h0, _⟩ | ⟨hn, _, g, off, cap', hq, h1, h2, h3⟩
      · omega
      · obtain ⟨rfl, rfl⟩ : va = some ⟨g, off, none⟩ ∧ vc = cap' := by injection hq with q1 q2 q3; exact ⟨q1, q3⟩
        have z0 := h3 (k * 3) (.int .i64 (l[k].1 : Nat)) (by have := lineC_get l k hkl 0 (by decide); simpa [lineC] using this)
        have z1 := h3 (k * 3 + 1) (.int .i64 (l[k].2.1 : Nat)) (by have := lineC_get l k hkl 1 (by decide); simpa [lineC] using this)
        have z2 := h3 (k * 3 + 2) (.string (mkS l[k].2.2)) (by have := lineC_get l k hkl 2 (by decide); simpa [lineC] using this)
        rw [← Nat.add_assoc] at z1 z2
        have hxz := HSZ.out l[k] (List.getElem_mem hkl)
        have hxc := HCL.out l[k] (List.getElem_mem hkl)
        have hjl := joinT_len 1000000 (l.take k) (fun y hy => HSZ.out y (List.mem_of_mem_take hy))
        rw [List.length_take] at hjl
        have hjl2 : min k l.length * (1000000 + 101) ≤ 1000 * (1000000 + 101) := Nat.mul_le_mul_right _ (by omega)
        have HN : Hid (joinT (l.take (k + 1)) = joinT (l.take k) ++ lineT l[k]) := Lib.hid (by rw [List.take_succ_eq_append_getElem hkl, joinT_snoc])
        clear hq h3
        generalize hlk : l[k] = x at *
        generalize joinT (l.take k) = r at *
        have hrz := mkS_size r
        have htz := mkS_size x.2.2
        have hcm : min (x.2.1 : Int) 100 = ((min x.2.1 100 : Nat) : Int) := by omega
        have HLT : Hid (lineT x = List.replicate (min x.2.1 100) 32 ++ x.2.2 ++ [10]) := Lib.hid rfl
        have hmc : min x.2.1 100 ≤ 100 := by omega
        have hbl := bld_lt HI.out
        go_upto_region 5 with fail
        have hx := World.alloc_heap_new wr (.cells #[.int .i64 (x.1 : Nat), .int .i64 (x.2.1 : Nat), .string (mkS x.2.2)] 31)
        have hbx : Below wr.heap.size wr (wr.alloc (.cells #[.int .i64 (x.1 : Nat), .int .i64 (x.2.1 : Nat), .string (mkS x.2.2)] 31)) := (Below.refl _ _).alloc (Nat.le_refl _) _
        have HIX := Lib.hid (bld_below HI.out hbx)
        have HBX := Lib.hid (bthen HB.out (Nat.le_refl _) hbx)
        generalize (wr.alloc (.cells #[.int .i64 (x.1 : Nat), .int .i64 (x.2.1 : Nat), .string (mkS x.2.2)] 31)) = wx at *
        obtain ⟨p0, p1, p2, -, -, -⟩ := cells3h hx
        have HX := Lib.hid hx
        have hxl := (Array.getElem?_eq_some_iff.1 hx).1
        clear z0 z1 z2 hbx hx
        generalize hcc : min x.2.1 100 = c at *
        have HRP : Hid (∀ w, Calls Tryd.prog 19 #[.string { data := #[32] }, .int .i64 (c : Int)] w fun e w' => e = .returned (.string (mkS (List.replicate c 32))) ∧ Below w.heap.size w w') := Lib.hid (fun w => by
          have := repeat_any { data := #[32] } c w (by omega) (by rw [show ({ data := #[32] } : ByteArray).size = 1 from rfl]; omega)
          rw [rep_mkS] at this; exact this)
        have hzr : (mkS (List.replicate c 32)).size = c := by rw [mkS_size, List.length_replicate]
        go_wp2_with fail
        refine (HRP.out _).mono ?_
        rintro e w4 ⟨rfl, hb4⟩
        have HI4 := Lib.hid (bld_below HIX.out hb4)
        have HB4 := Lib.hid (bthen HBX.out (Nat.le_refl _) hb4)
        have HX4 := Lib.hid ((hb4.block _ hxl).trans HX.out)
        clear p0 p1 p2 hb4
        go_wp2_with fail
        refine (WriteStringK_any w.heap.size w.heap.size _ _ w4 HI4.out (by rw [Lib.strCells_length]; omega) HB4.out.size).mono ?_
        rintro e w5 ⟨rfl, hi5, hb5, hk5⟩
        have HI5 := Lib.hid hi5
        have HB5 := Lib.hid (HB4.out.trans hb5)
        have hx5 := hk5 _ _ _ _ HX4.out (by omega) (by decide)
        obtain ⟨p0, p1, p2, -, -, -⟩ := cells3h hx5
        clear hi5 hb5 hk5 hx5
        go_wp2_with fail
        refine (WriteString_any w.heap.size w.heap.size _ _ w5 HI5.out (by rw [List.length_append, Lib.strCells_length, Lib.strCells_length]; omega) HB5.out.size).mono ?_
        rintro e w6 ⟨rfl, hi6, hb6⟩
        have HI6 := Lib.hid hi6
        have HB6 := Lib.hid (HB5.out.trans hb6)
        clear hi6 hb6 p0 p1 p2
        go_wp2_with fail
        refine (bWriteB_any w.heap.size w.heap.size _ 10 w6 HI6.out (by rw [List.length_append, List.length_append, Lib.strCells_length, Lib.strCells_length, Lib.strCells_length]; omega) HB6.out.size).mono ?_
        rintro e w7 ⟨rfl, hi7, hb7⟩
        have HI7 : Hid (Lib.IsBuilder 48 5 w.heap.size w.heap.size (Lib.strCells (mkS (joinT (l.take (k + 1))))) w7) := Lib.hid (by
          rw [HN.out, HLT.out, ← mkS_append, ← mkS_append, ← mkS_append, strCells_app, strCells_app, strCells_app]
          have h9 : Lib.strCells (mkS [10]) = [.int .u8 10] := rfl
          rw [h9, ← List.append_assoc, ← List.append_assoc]
          exact .inr hi7)
        have HB7 := Lib.hid (HB6.out.trans hb7)
        clear hi7 hb7
        go_wp2_with fail
        go_roundg (l.length + 1 - (k + 1))
        case measure => omega
        case rel => exact ⟨k + 1, by omega, by omega, by go_num, HI7, HB7⟩
    · have d1 : decide ((k : Int) < (l.length : Int)) = false := decide_eq_false (by omega)
      have hk1 : ¬ (k : Int) < (l.length : Int) := by omega
      have hI := HI.out
      rw [List.take_of_length_le (by omega), Lib.strCells_eq] at hI
      have HIF := Lib.hid hI
      clear hI
      go_wp2_with fail
      refine (BString_any w.heap.size w.heap.size _ wr HIF.out HB.out.size).mono ?_
      rintro e w7 ⟨rfl, hb7⟩
      have HB7 := Lib.hid (HB.out.trans hb7)
      clear hb7
      go_wp2_with fail
      go_ret
      exact ⟨rfl, HB7.out⟩
end Go.Proofs.YtdhgcgejdoedbaaDoor

/-
  WholeLines: the plain law; awakeLines.
-/
namespace Go.Proofs.YtdhgcgejdoedbaaDoor
open Go.RowKit Go.WideShapes

/-- A text on a line, moved in, with a remark. -/
def lineAt (cf : Nat → Nat) (r : List Nat) (i : Nat) (t : ByteArray) : LineD := (i + 1, cf i, wrL (bsN t) ++ 32 :: 35 :: r)
def lnsF (cf : Nat → Nat) (r : List Nat) : Nat → List ByteArray → List LineD
  | _, [] => []
  | i, t :: ts => lineAt cf r i t :: lnsF cf r (i + 1) ts
def outF (cf : Nat → Nat) : Nat → List ByteArray → List LineD
  | _, [] => []
  | i, t :: ts => (i + 1, cf i, wrL (bsN t)) :: outF cf (i + 1) ts
theorem lnsF_len (cf : Nat → Nat) (r : List Nat) : ∀ (l : List ByteArray) (i : Nat), (lnsF cf r i l).length = l.length
  | [], _ => rfl
  | t :: l, i => by rw [lnsF, List.length_cons, List.length_cons, lnsF_len cf r l]
theorem outF_len (cf : Nat → Nat) : ∀ (l : List ByteArray) (i : Nat), (outF cf i l).length = l.length
  | [], _ => rfl
  | t :: l, i => by rw [outF, List.length_cons, List.length_cons, outF_len cf l]
theorem lnsF_snoc (cf : Nat → Nat) (r : List Nat) : ∀ (l : List ByteArray) (t : ByteArray) (i : Nat), lnsF cf r i (l ++ [t]) = lnsF cf r i l ++ [lineAt cf r (i + l.length) t]
  | [], t, i => rfl
  | s :: l, t, i => by rw [List.cons_append, lnsF, lnsF_snoc cf r l, lnsF, List.length_cons, List.cons_append, show i + 1 + l.length = i + (l.length + 1) by omega]
theorem lnsF_get (cf : Nat → Nat) (r : List Nat) : ∀ (l : List ByteArray) (i k : Nat) (h : k < l.length), (lnsF cf r i l)[k]'(by rw [lnsF_len]; exact h) = lineAt cf r (i + k) l[k]
  | [], _, k, h => absurd h (by simp)
  | t :: l, i, 0, _ => rfl
  | t :: l, i, k + 1, h => by
    have := lnsF_get cf r l (i + 1) k (by simpa using h)
    simp only [lnsF, List.getElem_cons_succ]
    rw [this]; congr 1; omega
theorem outF_get (cf : Nat → Nat) : ∀ (l : List ByteArray) (i k : Nat) (h : k < l.length), (outF cf i l)[k]'(by rw [outF_len]; exact h) = (i + k + 1, cf (i + k), wrL (bsN l[k]))
  | [], _, k, h => absurd h (by simp)
  | t :: l, i, 0, _ => rfl
  | t :: l, i, k + 1, h => by
    have := outF_get cf l (i + 1) k (by simpa using h)
    simp only [outF, List.getElem_cons_succ]
    rw [this]
    congr 1
    · omega
    · congr 2; omega
theorem lnsF_mem (cf : Nat → Nat) (r : List Nat) : ∀ (l : List ByteArray) (i : Nat) (x : LineD), x ∈ lnsF cf r i l → ∃ j t, t ∈ l ∧ x = lineAt cf r j t
  | [], _, x, h => by cases h
  | t :: l, i, x, h => by
    rw [lnsF] at h
    rcases List.mem_cons.1 h with rfl | h
    · exact ⟨i, t, by simp, rfl⟩
    · obtain ⟨j, s, hs, hx⟩ := lnsF_mem cf r l _ x h
      exact ⟨j, s, by simp [hs], hx⟩
/-- A line ahead of what ends it. -/
def prfT (x : LineD) : List Nat := List.replicate (min x.2.1 100) 32 ++ x.2.2
theorem joinT_pre (l : List LineD) : joinT l = (l.map prfT).flatMap fun t => t ++ [10] := by
  unfold joinT
  rw [List.flatMap_map]
  rfl
theorem prfT_even {cf : Nat → Nat} {r : List Nat} {j : Nat} {t : ByteArray} (hr : ∀ c ∈ r, evenB c = true) : ∀ c ∈ prfT (lineAt cf r j t), evenB c = true := by
  intro c hc
  unfold prfT lineAt at hc
  rcases List.mem_append.1 hc with h | h
  · obtain ⟨_, rfl⟩ := List.mem_replicate.1 h; rfl
  · rcases List.mem_append.1 h with h | h
    · exact wrL_even (bsN_lt t) c h
    · rcases List.mem_cons.1 h with rfl | h
      · rfl
      · rcases List.mem_cons.1 h with rfl | h
        · rfl
        · exact hr c h
theorem prfT_utf {cf : Nat → Nat} {r : List Nat} {j : Nat} {t : ByteArray} (hr : Utf r) (ht : Utf (bsN t)) : Utf (prfT (lineAt cf r j t)) := by
  unfold prfT lineAt
  refine Utf.append (Utf.ascii fun c hc => ?_) (Utf.append (utf_put ht) (Utf.append (a := [32, 35]) (Utf.ascii (by simp)) hr))
  obtain ⟨_, rfl⟩ := List.mem_replicate.1 hc; decide
theorem lines_of {cf : Nat → Nat} {r : List Nat} {l : List ByteArray} (hr : ∀ c ∈ r, evenB c = true) : linesN (joinT (lnsF cf r 0 l)) = (lnsF cf r 0 l).map prfT := by
  rw [joinT_pre, linesN_join]
  intro t ht h10
  obtain ⟨x, hx, rfl⟩ := List.mem_map.1 ht
  obtain ⟨j, s, _, rfl⟩ := lnsF_mem cf r l 0 x hx
  exact even_ne (prfT_even hr 10 h10) rfl
theorem joinT_lt {cf : Nat → Nat} {r : List Nat} {l : List ByteArray} (hb : AllLt 256 r) : AllLt 256 (joinT (lnsF cf r 0 l)) := by
  intro c hc
  rw [joinT_pre] at hc
  obtain ⟨t, ht, hct⟩ := List.mem_flatMap.1 hc
  obtain ⟨x, hx, rfl⟩ := List.mem_map.1 ht
  obtain ⟨j, s, _, rfl⟩ := lnsF_mem cf r l 0 x hx
  rcases List.mem_append.1 hct with h | h
  · unfold prfT lineAt at h
    rcases List.mem_append.1 h with h | h
    · obtain ⟨_, rfl⟩ := List.mem_replicate.1 h; decide
    · rcases List.mem_append.1 h with h | h
      · exact wrL_lt (bsN_lt s) c h
      · rcases List.mem_cons.1 h with rfl | h
        · decide
        · rcases List.mem_cons.1 h with rfl | h
          · decide
          · exact hb c h
  · have : c = 10 := by simpa using h
    subst this; decide
theorem fine_of {cf : Nat → Nat} {r : List Nat} {l : List ByteArray} (hl : l.length ≤ 20) (hsz : ∀ t ∈ l, t.size ≤ 1000) (hrl : r.length ≤ 100) (hr : ∀ c ∈ r, evenB c = true) (hb : AllLt 256 r) (hru : Utf r) (hu : ∀ t ∈ l, Utf (bsN t)) : FineT (mkS (joinT (lnsF cf r 0 l))) := by
  have hbs := bsN_mkS (joinT_lt (cf := cf) (l := l) hb)
  refine ⟨?_, ?_, ?_⟩
  · rw [mkS_size]
    have := joinT_len 4104 (lnsF cf r 0 l) (fun x hx => by
      obtain ⟨j, s, hs, rfl⟩ := lnsF_mem cf r l 0 x hx
      have h1 := wrL_len (bsN s)
      have h2 := hsz s hs
      rw [bsN_len] at h1
      unfold lineAt
      simp; omega)
    rw [lnsF_len] at this
    have : l.length * (4104 + 101) ≤ 20 * (4104 + 101) := Nat.mul_le_mul_right _ hl
    omega
  · rw [hbs, joinT_pre]
    refine Utf.flat fun t ht => ?_
    obtain ⟨x, hx, rfl⟩ := List.mem_map.1 ht
    obtain ⟨j, s, hs, rfl⟩ := lnsF_mem cf r l 0 x hx
    exact (prfT_utf hru (hu s hs)).append (Utf.ascii (by simp))
  · rw [hbs, lines_of hr]
    intro t ht
    obtain ⟨x, hx, rfl⟩ := List.mem_map.1 ht
    obtain ⟨j, s, _, rfl⟩ := lnsF_mem cf r l 0 x hx
    exact prfT_even hr
theorem allN_out {cf : Nat → Nat} {r : List Nat} (hc : ∀ i, cf i ≤ 100) : ∀ (l : List ByteArray) (i : Nat), allN (i + 1) ((lnsF cf r i l).map prfT) = outF cf i l
  | [], _ => rfl
  | t :: l, i => by
    have hp : prfT (lineAt cf r i t) = List.replicate (cf i) 32 ++ wrL (bsN t) ++ 32 :: 35 :: r := by
      unfold prfT lineAt
      rw [Nat.min_eq_left (hc i), List.append_assoc]
    rw [lnsF, List.map_cons, allN, hp, strip_remark, trimL_put, if_neg (wrL_ne _), outF, allN_out hc l (i + 1)]
    congr 1
    congr 2
    simp
theorem lines_law {cf : Nat → Nat} {r : List Nat} {l : List ByteArray} (hc : ∀ i, cf i ≤ 100) (hr : ∀ c ∈ r, evenB c = true) (hb : AllLt 256 r) : allN 1 (linesN (bsN (mkS (joinT (lnsF cf r 0 l))))) = outF cf 0 l := by
  rw [bsN_mkS (joinT_lt hb), lines_of hr]
  exact allN_out hc l 0

theorem awk_fine : FineT { data := #[32, 32, 34, 97, 32, 35, 32, 98, 34, 32, 35, 32, 99] } := by
  refine ⟨by decide, Utf.ascii (by decide), by decide +kernel⟩
theorem awk_all : allN 1 (linesN (bsN { data := #[32, 32, 34, 97, 32, 35, 32, 98, 34, 32, 35, 32, 99] })) = [(1, 2, [34, 97, 32, 35, 32, 98, 34])] := by decide +kernel

set_option maxRecDepth 100000 in
set_option maxHeartbeats 4000000 in
theorem awakeLines_any (w : World) :
    Calls Tryd.prog 4 #[] w fun e w' => e = .returned (.bool true) ∧ Below w.heap.size w w' := by
  have HA := Lib.hid (fun w => lnAll_any _ w awk_fine)
  rw [awk_all] at HA
  have HRD := Lib.hid (fun w => scRead_any (mkS [34, 97, 32, 35, 32, 98, 34]) { data := #[97, 32, 35, 32, 98] } w (by decide +kernel) (by decide) (Utf.ascii (by decide)))
  go_enter Tryd.func4, Tryd.ntmps4
  go_wp2_with fail
  refine (HA.out _).mono ?_
  rintro e w1 ⟨v, rfl, ho, hb1⟩
  have hr := RdS.of_owns ho
  rcases hr.cases (by decide) with ⟨h0, _⟩ | ⟨hn, _, g, off, cap, rfl, h1, h2, h3⟩
  · cases h0
  · have z1 := h3 1 (.int .i64 2) rfl
    have z2 := h3 2 (.string (mkS [34, 97, 32, 35, 32, 98, 34])) rfl
    have HB1 := Lib.hid hb1
    have HZ1 := Lib.hid z1
    have e5 : (({ data := #[97, 32, 35, 32, 98] } : ByteArray) == { data := #[97, 32, 35, 32, 98] }) = true := by decide
    have z2a := cellB ((Below.refl _ w1).alloc (Nat.le_refl _) (.cells #[.int .i64 0, .int .i64 0] 33)) z2
    clear h3 hr ho hb1
    go_wp2_with fail
    refine (HRD.out _).mono ?_
    rintro e w2 ⟨rfl, hb2⟩
    have z3 := cellB hb2 (cellB ((Below.refl _ w1).alloc (Nat.le_refl _) (.cells #[.int .i64 0, .int .i64 0] 33)) HZ1.out)
    have HB2 := Lib.hid (bthen (HB1.out.alloc HB1.out.size (.cells #[.int .i64 0, .int .i64 0] 33)) (by have := HB1.out.size; simp <;> omega) hb2)
    clear hb2 z1 z2 z2a
    go_wp2_with fail
    go_ret
    exact ⟨rfl, HB2.out⟩
end Go.Proofs.YtdhgcgejdoedbaaDoor

/-
  WholeLines: the law's walk.
-/
namespace Go.Proofs.YtdhgcgejdoedbaaDoor
open Go.RowKit Go.WideShapes

/-- How far a line is moved in. -/
def cfN (cs : List Nat) (i : Nat) : Nat := cs[i]?.getD 0 % 100
theorem strs_get (l : List ByteArray) (k : Nat) (h : k < l.length) : (strsV l)[k]? = some (.string l[k]) := by simp [strsV, h]

set_option maxRecDepth 100000 in
set_option maxHeartbeats 4000000 in
theorem WholeLines_any (l : List ByteArray) (v : Value) (cs : List Nat) (vc : Value) (r : ByteArray) (w : World) (hwl : ∀ s ∈ l, s.size ≤ maxLen) (hv : RdS w v 1 l.length (strsV l)) (hcs : AllLt 256 cs) (hc : RdS w vc 1 cs.length (u8s cs)) (hr : r.size ≤ maxLen) :
    Calls Tryd.prog 3 #[v, vc, .string r] w fun e w' => e = .returned (.bool true) ∧ Below w.heap.size w w' := by
  obtain ⟨i0, hi, hz0, hz1, hz2⟩ := info_parts Tryd.info_line
  unfold maxLen at hr
  have HV := Lib.hid hv
  have HC := Lib.hid hc
  have HWL := Lib.hid hwl
  have HCS := Lib.hid hcs
  obtain ⟨va, vk, rfl⟩ := hv.form
  obtain ⟨ca, ck, rfl⟩ := hc.form
  have HAT := Lib.hid (fun k (h : k < r.size) => bsN_at (s := r) h)
  have HCK := Lib.hid (fun w => Check_any r 100 w (by omega))
  have hzl := bsN_len r
  clear hv hc hwl hcs
  go_enter Tryd.func3, Tryd.ntmps3
  go_wp2_with fail
  refine (awakeLines_any w).mono ?_
  rintro e w1 ⟨rfl, hb1⟩
  by_cases hA : 20 < l.length
  · have d1 : decide (20 < (l.length : Int)) = true := decide_eq_true (by omega)
    go_wp2_with fail
    go_ret
    exact ⟨rfl, hb1⟩
  have d1 : decide (20 < (l.length : Int)) = false := decide_eq_false (by omega)
  by_cases hB : 100 < r.size
  · have d2 : decide (100 < (r.size : Int)) = true := decide_eq_true (by omega)
    go_wp2_with fail
    go_ret
    exact ⟨rfl, hb1⟩
  have d2 : decide (100 < (r.size : Int)) = false := decide_eq_false (by omega)
  have hzu : checkN (bsN r) 100 = 0 → Utf (bsN r) := fun h => by
    refine first_utf (bsN_lt r) ?_
    unfold checkN at h
    rw [if_neg (by rw [hzl]; omega)] at h
    by_cases h2 : firstX 0 (bsN r) < 0
    · exact h2
    · rw [if_neg h2] at h; cases h
  have HZU := Lib.hid hzu
  clear hzu
  go_wp2_with fail
  refine (HCK.out _).mono ?_
  rintro e w2 ⟨rfl, hb2⟩
  have HB2 := Lib.hid (bthen hb1 (Nat.le_refl _) hb2)
  clear hb1 hb2
  by_cases hz : checkN (bsN r) 100 = 0
  case neg =>
    generalize checkN (bsN r) 100 = z at *
    have e1 : (z == 0) = false := by simpa using hz
    have e2 : (z != 0) = true := by simpa using hz
    go_wp2_with fail
    go_ret
    exact ⟨rfl, HB2.out⟩
  have HU := Lib.hid (HZU.out hz)
  rw [hz]
  clear hz HZU
  go_wp2_with fail
  go_loopg [7] (r.size + 1) (fun gk i wr => ∃ k : Nat, k + gk = r.size + 1 ∧ k ≤ r.size ∧ i = .int .i64 k ∧ Hid (∀ j (hj : j < r.size), j < k → evenB r[j].toNat = true) ∧ wr = w2)
  case atStart => exact ⟨0, by omega, by omega, rfl, Lib.hid (fun j _ h => by omega), rfl⟩
  case round =>
    obtain ⟨k, hgk, hk, rfl, HE, rfl⟩ := hrel
    have hg : gk = r.size + 1 - k := by omega
    subst hg
    by_cases hks : k < r.size
    · have hk1 : (k : Int) < (r.size : Int) := by omega
      have d3 : decide ((k : Int) < (r.size : Int)) = true := decide_eq_true (by omega)
      have HES : Hid (evenB r[k].toNat = true → ∀ j (hj : j < r.size), j < k + 1 → evenB r[j].toNat = true) := Lib.hid (fun h j hj hjk => by
        rcases Nat.lt_or_ge j k with h' | h'
        · exact HE.out j hj h'
        · obtain rfl : j = k := by omega
          exact h)
      generalize hc : r[k].toNat = c at *
      by_cases h32 : c < 32
      · have d4 : decide ((c : Int) < 32) = true := decide_eq_true (by omega)
        go_wp2_with fail
        go_ret
        exact ⟨rfl, HB2.out⟩
      have d4 : decide ((c : Int) < 32) = false := decide_eq_false (by omega)
      by_cases h127 : c = 127
      · have e4 : ((c : Int) == 127) = true := by simp; omega
        go_wp2_with fail
        go_ret
        exact ⟨rfl, HB2.out⟩
      have e4 : ((c : Int) == 127) = false := by simp; omega
      go_wp2_with fail
      go_roundg (r.size + 1 - (k + 1))
      case measure => omega
      case rel => exact ⟨k + 1, by omega, by omega, by go_num, Lib.hid (HES.out (by unfold evenB; simp; omega)), rfl⟩
    have hk1 : ¬ (k : Int) < (r.size : Int) := by omega
    have d3 : decide ((k : Int) < (r.size : Int)) = false := decide_eq_false (by omega)
    have HEV : Hid (∀ c ∈ bsN r, evenB c = true) := Lib.hid (fun c hc => by
      obtain ⟨j, hj, rfl⟩ := List.getElem_of_mem hc
      rw [hzl] at hj
      rw [HAT.out j hj]
      exact HE.out j hj (by omega))
    go_wp2_with fail
    rename World => wo
    go_loopg [9, 8] (l.length + 1) (fun gk i s8 wr => ∃ (k : Nat) (sa : Option Addr) (sc : Nat), k + gk = l.length + 1 ∧ k ≤ l.length ∧ i = .int .i64 k ∧ s8 = .slice sa k sc ∧ Hid (∀ t ∈ l.take k, t.size ≤ 1000 ∧ Utf (bsN t)) ∧ Hid (wr.ownsRow w.heap.size 31 3 (.slice sa k sc) k ((lnsF (cfN cs) (bsN r) 0 (l.take k)).flatMap lineC)) ∧ Hid (Below w.heap.size w wr))
    case atStart => exact ⟨0, none, 0, by omega, by omega, rfl, rfl, Lib.hid (fun t h => by simp at h), Lib.hid (World.ownsRow_nil _ _ _ _), HB2⟩
    case round =>
      obtain ⟨k, sa, sc, hgk, hk, rfl, rfl, HT, HO, HB⟩ := hrel
      rename World => wi
      have hg : gk = l.length + 1 - k := by omega
      subst hg
      by_cases hkl : k < l.length
      · have hk1 : (k : Int) < (l.length : Int) := by omega
        have d3 : decide ((k : Int) < (l.length : Int)) = true := decide_eq_true (by omega)
        rcases (HV.out.below HB.out).cases (by decide) with ⟨h0, _⟩ | ⟨hn, _, g, off, cap', hq, h1, h2, h3⟩
        · omega
        obtain ⟨rfl, rfl⟩ : va = some ⟨g, off, none⟩ ∧ vk = cap' := by injection hq with q1 q2 q3; exact ⟨q1, q3⟩
        have z0 := h3 k (.string l[k]) (strs_get l k hkl)
        have htz := HWL.out l[k] (List.getElem_mem hkl)
        unfold maxLen at htz
        have HTK : Hid (l.take (k + 1) = l.take k ++ [l[k]]) := Lib.hid (List.take_succ_eq_append_getElem hkl)
        have HLN : Hid (lnsF (cfN cs) (bsN r) 0 (l.take (k + 1)) = lnsF (cfN cs) (bsN r) 0 (l.take k) ++ [lineAt (cfN cs) (bsN r) k l[k]]) := Lib.hid (by rw [HTK.out, lnsF_snoc, List.length_take, Nat.zero_add, Nat.min_eq_left (by omega)])
        have HZ0 := Lib.hid z0
        clear hq h3
        generalize l[k] = t at *
        by_cases hs1 : 1000 < t.size
        · have d4 : decide (1000 < (t.size : Int)) = true := decide_eq_true (by omega)
          go_wp2_with fail
          go_ret
          exact ⟨rfl, HB.out⟩
        have d4 : decide (1000 < (t.size : Int)) = false := decide_eq_false (by omega)
        have HF := Lib.hid (fun w => First_any t w (by omega))
        have hfu : ¬ 0 ≤ firstX 0 (bsN t) → Utf (bsN t) := fun h => first_utf (bsN_lt t) (by omega)
        have HFU := Lib.hid hfu
        have HPU := Lib.hid (fun w => sPut_any t w (by omega))
        clear hfu
        generalize firstX 0 (bsN t) = q at *
        go_wp2_with fail
        refine (HF.out _).mono ?_
        rintro e w3 ⟨rfl, hb3⟩
        have HB3 := Lib.hid (bthen HB.out (Nat.le_refl _) hb3)
        have HO3 := Lib.hid (ownsB HO.out hb3)
        have z3 := cellB hb3 HZ0.out
        clear hb3 z0
        by_cases hq0 : 0 ≤ q
        · have d5 : decide (0 ≤ q) = true := decide_eq_true hq0
          go_wp2_with fail
          go_ret
          exact ⟨rfl, HB3.out⟩
        have d5 : decide (0 ≤ q) = false := decide_eq_false hq0
        have HTU := Lib.hid (HFU.out (by omega))
        clear HFU hq0
        go_upto_if 70 with fail
        go_cut [10] (fun s10 wx => s10 = .int .i64 (cfN cs k : Nat) ∧ wx = w3)
        case first =>
          by_cases hkc : k < cs.length
          · have d6 : decide ((k : Int) < (cs.length : Int)) = true := decide_eq_true (by omega)
            have hk2 : (k : Int) < (cs.length : Int) := by omega
            rcases (HC.out.below HB3.out).cases (by decide) with ⟨h0, _⟩ | ⟨hn2, _, g2, off2, cap2, hq2, h12, h22, h32⟩
            · omega
            obtain ⟨rfl, rfl⟩ : ca = some ⟨g2, off2, none⟩ ∧ ck = cap2 := by injection hq2 with q1 q2 q3; exact ⟨q1, q3⟩
            have y0 := h32 k _ (u8s_get cs k hkc)
            have hcl : cs[k]?.getD 0 < 256 := by
              have := HCS.out cs[k] (List.getElem_mem hkc)
              rw [List.getElem?_eq_getElem hkc]; exact this
            have hcf : cfN cs k = cs[k]?.getD 0 % 100 := rfl
            generalize cs[k]?.getD 0 = c at *
            obtain ⟨m, hm⟩ : ∃ m, c % 100 = m := ⟨_, rfl⟩
            have hct : (c : Int).tmod 100 = (m : Int) := by rw [Int.tmod_eq_emod_of_nonneg (by omega)]; omega
            rw [hm] at hcf
            clear hm
            have HCF := Lib.hid hcf
            clear hcf hq2 h32
            go_wp2_with fail
            go_meet
            exact ⟨by rw [HCF.out], rfl⟩
          · have d6 : decide ((k : Int) < (cs.length : Int)) = false := decide_eq_false (by omega)
            have hk2 : ¬ (k : Int) < (cs.length : Int) := by omega
            have HCF : Hid (cfN cs k = 0) := Lib.hid (by unfold cfN; rw [List.getElem?_eq_none (by omega)]; rfl)
            go_wp2_with fail
            go_meet
            exact ⟨by rw [HCF.out]; rfl, rfl⟩
        case rest =>
        obtain ⟨rfl, rfl⟩ := hcut
        have hcfl : cfN cs k < 100 := Nat.mod_lt _ (by decide)
        have HLA : Hid (lineAt (cfN cs) (bsN r) k t = (k + 1, cfN cs k, wrL (bsN t) ++ 32 :: 35 :: bsN r)) := Lib.hid rfl
        generalize cfN cs k = cf at *
        go_wp2_with fail
        refine (HPU.out _).mono ?_
        rintro e w4 ⟨rfl, hb4⟩
        have HB4 := Lib.hid (bthen HB3.out (Nat.le_refl _) hb4)
        have HO4 := Lib.hid (ownsB HO3.out hb4)
        have HSE : Hid (putS t ++ { data := #[32, 35] } ++ r = mkS (wrL (bsN t) ++ 32 :: 35 :: bsN r)) := Lib.hid (by
          have h1 : putS t = mkS (wrL (bsN t)) := by rw [← putS_bytes, mkS_bsN]
          have h2 : ({ data := #[32, 35] } : ByteArray) = mkS [32, 35] := rfl
          rw [h1, h2, mkS_append]
          conv => lhs; rw [← mkS_bsN r, mkS_append]
          simp)
        have hob := HB4.out.size
        clear hb4 z3
        have hpz : (putS t).size ≤ 4002 := by
          have h1 := wrL_len (bsN t)
          rw [← putS_bytes, bsN_len, bsN_len] at h1; omega
        have hpa : (putS t ++ { data := #[32, 35] }).size = (putS t).size + 2 := by rw [ByteArray.size_append]; rfl
        generalize putS t = pt at *
        go_wp2_with (at_builtin; go_must (refine wpList_push rfl _ _ 27 rfl w.heap.size 31 i0 (.agg #[.int .i64 0, .int .i64 0, .string { data := #[] }]) 3 32 Tryd.underlying27 hi hz0 hz1 hz2 rfl (by decide) _ _ _ rfl (HO4.out.alloc _) ⟨w4.heap.size, 0, none⟩ 1 1 [_, _, _] rfl rfl (new3 _ _ _ _ _) (by simp [Value.oneCell']) (by unfold maxLen; omega) (by omega) (by simp; omega) ?_; intro v' w5 hown' hgrow hfr; have HOP := Lib.hid hown'; have HBP := Lib.hid (below_push HB4.out (by omega) HO4.out (Nat.le_refl _) hgrow); clear hown' hgrow hfr))
        have HOQ : Hid (w5.ownsRow w.heap.size 31 3 v' (k + 1) ((lnsF (cfN cs) (bsN r) 0 (l.take (k + 1))).flatMap lineC)) := Lib.hid (by
          rw [HLN.out, HLA.out, List.flatMap_append]
          have h9 := HOP.out
          rw [HSE.out] at h9
          exact h9)
        obtain ⟨va', vc', rfl⟩ := (RdS.of_owns HOQ.out).form
        have HT2 : Hid (∀ t ∈ l.take (k + 1), t.size ≤ 1000 ∧ Utf (bsN t)) := Lib.hid (fun s hs => by
          rw [HTK.out] at hs
          rcases List.mem_append.1 hs with h | h
          · exact HT.out s h
          · obtain rfl : s = t := by simpa using h
            exact ⟨by omega, HTU.out⟩)
        go_roundg (l.length + 1 - (k + 1))
        case measure => omega
        case rel => exact ⟨k + 1, va', vc', by omega, by omega, by go_num, rfl, HT2, HOQ, HBP⟩
      have hk1 : ¬ (k : Int) < (l.length : Int) := by omega
      have d3 : decide ((k : Int) < (l.length : Int)) = false := decide_eq_false (by omega)
      obtain rfl : k = l.length := by omega
      have hTL := HT.out
      rw [List.take_length] at hTL
      have hOL := HO.out
      rw [List.take_length] at hOL
      have hcf : ∀ i, cfN cs i ≤ 100 := fun i => Nat.le_of_lt (Nat.mod_lt _ (by decide))
      have hfine := fine_of (cf := cfN cs) (r := bsN r) (l := l) (by omega) (fun t ht => (hTL t ht).1) (by rw [hzl]; omega) HEV.out (bsN_lt r) HU.out (fun t ht => (hTL t ht).2)
      have hlaw := lines_law (cf := cfN cs) (r := bsN r) (l := l) hcf HEV.out (bsN_lt r)
      have HALL := Lib.hid (fun w => lnAll_any (mkS (joinT (lnsF (cfN cs) (bsN r) 0 l))) w hfine)
      rw [hlaw, outF_len] at HALL
      have hjn : Calls Tryd.prog 9 #[.slice sa l.length sc] wi fun e w' => e = .returned (.string (mkS (joinT (lnsF (cfN cs) (bsN r) 0 l)))) ∧ Below wi.heap.size wi w' :=
        lnJoin_any (lnsF (cfN cs) (bsN r) 0 l) _ wi (by rw [lnsF_len]; exact RdS.of_owns hOL) (by rw [lnsF_len]; omega) (fun x hx => by
          obtain ⟨j, s, hs, rfl⟩ := lnsF_mem _ _ l 0 x hx
          have h1 := wrL_len (bsN s)
          have h2 := (hTL s hs).1
          rw [bsN_len] at h1
          unfold lineAt
          simp; omega) (fun x hx => by
          obtain ⟨j, s, hs, rfl⟩ := lnsF_mem _ _ l 0 x hx
          have := hcf j
          unfold lineAt
          simp; omega)
      have HJN := Lib.hid hjn
      have HTL := Lib.hid hTL
      have HOL := Lib.hid hOL
      clear hTL hOL hcf hfine hlaw hjn HT HO
      generalize mkS (joinT (lnsF (cfN cs) (bsN r) 0 l)) = txt at *
      go_wp2_with fail
      refine HJN.out.mono ?_
      rintro e w3 ⟨rfl, hb3⟩
      have HB3 := Lib.hid (bthen HB.out (Nat.le_refl _) hb3)
      have HOL3 := Lib.hid (ownsB HOL.out hb3)
      clear hb3
      go_wp2_with fail
      refine (HALL.out _).mono ?_
      rintro e w4 ⟨v4, rfl, ho4, hb4⟩
      have hbF : Below w4.heap.size w4 (w4.alloc (.cells #[.int .i64 0, .int .i64 0] 33)) := (Below.refl _ _).alloc (Nat.le_refl _) _
      have HB4 := Lib.hid (bthen HB3.out (Nat.le_refl _) hb4)
      have HR1 := Lib.hid ((RdS.of_owns ho4).below hbF)
      have HR2 := Lib.hid ((RdS.of_owns (ownsB HOL3.out hb4)).below hbF)
      have HB5 := Lib.hid (bthen HB4.out (Nat.le_refl _) hbF)
      have hfl := World.alloc_heap_new w4 (.cells #[.int .i64 0, .int .i64 0] 33)
      obtain ⟨p0, p1, -, -⟩ := cells2 hfl
      obtain ⟨a4, k4, rfl⟩ := (RdS.of_owns ho4).form
      clear hb4 ho4 hbF HOL HOL3 hfl
      go_upto_region 21 with fail
      generalize (w4.alloc (.cells #[.int .i64 0, .int .i64 0] 33)) = w5 at *
      go_wp2_with fail
      clear p0 p1
      go_loopg [13] (l.length + 1) (fun gk i wr => ∃ (k : Nat), k + gk = l.length + 1 ∧ k ≤ l.length ∧ i = .int .i64 k ∧ Hid (Below w5.heap.size w5 wr))
      case atStart => exact ⟨0, by omega, by omega, rfl, Lib.hid (Below.refl _ _)⟩
      case round =>
        obtain ⟨k, hgk, hk, rfl, HBW⟩ := hrel
        rename World => wj
        have hg : gk = l.length + 1 - k := by omega
        subst hg
        have HBJ := Lib.hid (bthen HB5.out (Nat.le_refl _) HBW.out)
        by_cases hkl : k < l.length
        · have hk1 : (k : Int) < (l.length : Int) := by omega
          have d3 : decide ((k : Int) < (l.length : Int)) = true := decide_eq_true (by omega)
          rcases (HV.out.below HBJ.out).cases (by decide) with ⟨h0, _⟩ | ⟨_, _, g0, o0, c0, hq0, _, _, h03⟩
          · omega
          rcases (HR1.out.below HBW.out).cases (by decide) with ⟨h0, _⟩ | ⟨_, _, g1, o1, c1, hq1, _, _, h13⟩
          · omega
          rcases (HR2.out.below HBW.out).cases (by decide) with ⟨h0, _⟩ | ⟨_, _, g2, o2, c2, hq2, _, _, h23⟩
          · omega
          obtain ⟨rfl, rfl⟩ : va = some ⟨g0, o0, none⟩ ∧ vk = c0 := by injection hq0 with q1 q2 q3; exact ⟨q1, q3⟩
          obtain ⟨rfl, rfl⟩ : a4 = some ⟨g1, o1, none⟩ ∧ k4 = c1 := by injection hq1 with q1 q2 q3; exact ⟨q1, q3⟩
          obtain ⟨rfl, rfl⟩ : sa = some ⟨g2, o2, none⟩ ∧ sc = c2 := by injection hq2 with q1 q2 q3; exact ⟨q1, q3⟩
          have x0 := h03 k _ (strs_get l k hkl)
          have x1 := h13 (k * 3) (.int .i64 ((k : Int) + 1)) (by
            have := lineC_get (outF (cfN cs) 0 l) k (by rw [outF_len]; exact hkl) 0 (by decide)
            rw [outF_get (cfN cs) l 0 k hkl] at this
            simpa [lineC] using this)
          have x2 := h13 (k * 3 + 1) (.int .i64 (cfN cs k : Nat)) (by
            have := lineC_get (outF (cfN cs) 0 l) k (by rw [outF_len]; exact hkl) 1 (by decide)
            rw [outF_get (cfN cs) l 0 k hkl] at this
            simpa [lineC] using this)
          have x4 := h13 (k * 3 + 2) (.string (mkS (wrL (bsN l[k])))) (by
            have := lineC_get (outF (cfN cs) 0 l) k (by rw [outF_len]; exact hkl) 2 (by decide)
            rw [outF_get (cfN cs) l 0 k hkl] at this
            simpa [lineC] using this)
          have x3 := h23 (k * 3 + 1) (.int .i64 (cfN cs k : Nat)) (by
            have := lineC_get (lnsF (cfN cs) (bsN r) 0 l) k (by rw [lnsF_len]; exact hkl) 1 (by decide)
            rw [lnsF_get (cfN cs) (bsN r) l 0 k hkl] at this
            simpa [lineC, lineAt] using this)
          rw [← Nat.add_assoc] at x2 x3 x4
          obtain ⟨ht1, ht2⟩ := HTL.out l[k] (List.getElem_mem hkl)
          have HRD := Lib.hid (fun w => scRead_any (mkS (wrL (bsN l[k]))) l[k] w (bsN_mkS (wrL_lt (bsN_lt _))) (by omega) ht2)
          have hw1 : IntKind.i64.wrap ((k : Int) + 1) = (k : Int) + 1 := IntWalk.i64_in _ (by omega)
          have HX0 := Lib.hid x0
          have HX1 := Lib.hid x1
          have HX2 := Lib.hid x2
          have HX3 := Lib.hid x3
          clear h03 h13 h23 hq0 hq1 hq2 ht1 ht2 x0 x1 x2 x3
          generalize l[k] = t at *
          go_wp2_with fail
          refine (HRD.out _).mono ?_
          rintro e w7 ⟨rfl, hb7⟩
          have x0 := cellB hb7 HX0.out
          have x1 := cellB hb7 HX1.out
          have x2 := cellB hb7 HX2.out
          have x3 := cellB hb7 HX3.out
          have HB7 := Lib.hid (HBW.out.trans (hb7.mono HBW.out.size))
          clear hb7 x4
          go_upto_region 27 with fail
          refine E_region (S := (fun W => W.cell? ⟨g0, o0 + k, none⟩ = some (.string t) ∧ W.cell? ⟨g1, o1 + k * 3, none⟩ = some (.int .i64 ((k : Int) + 1)) ∧ W.cell? ⟨g1, o1 + k * 3 + 1, none⟩ = some (.int .i64 (cfN cs k : Nat)) ∧ W.cell? ⟨g2, o2 + k * 3 + 1, none⟩ = some (.int .i64 (cfN cs k : Nat)))) 32 (by kernel_rfl) ⟨x0, x1, x2, x3⟩ (fun _ _ _ _ _ h => h) (fun Q' hQ hK' hHeld => ?_)
          refine E_take0 hQ (fun _ => hHeld) 0 (v := ?lqv1) rfl rfl (by kernel_rfl) (by kernel_rfl) (by kernel_rfl) (by decide) (by rfl) ?lqy1 ?lqr1
          case lqy1 => (intro w; go_simp; (try with_reducible rfl))
          (try simp only [Act.put, List.setIfInBounds_toArray, List.set_cons_zero, List.set_cons_succ])
          refine E_take0 hQ (fun _ => hHeld) 1 (v := ?lqv2) rfl rfl (by kernel_rfl) (by kernel_rfl) (by kernel_rfl) (by decide) (by rfl) ?lqy2 ?lqr2
          case lqy2 => (intro w; go_simp; (try with_reducible rfl))
          (try simp only [Act.put, List.setIfInBounds_toArray, List.set_cons_zero, List.set_cons_succ])
          refine E_take0 hQ (fun _ => hHeld) 2 (v := ?lqv3) rfl rfl (by kernel_rfl) (by kernel_rfl) (by kernel_rfl) (by decide) (by rfl) ?lqy3 ?lqr3
          case lqy3 => (intro w; go_simp; (try with_reducible rfl))
          (try simp only [Act.put, List.setIfInBounds_toArray, List.set_cons_zero, List.set_cons_succ])
          refine E_take0 hQ (fun _ => hHeld) 3 (v := ?lqv4) rfl rfl (by kernel_rfl) (by kernel_rfl) (by kernel_rfl) (by decide) (by rfl) ?lqy4 ?lqr4
          case lqy4 => (intro w; go_simp; (try with_reducible rfl))
          (try simp only [Act.put, List.setIfInBounds_toArray, List.set_cons_zero, List.set_cons_succ])
          refine E_take0 hQ (fun _ => hHeld) 4 (v := ?lqv5) rfl rfl (by kernel_rfl) (by kernel_rfl) (by kernel_rfl) (by decide) (by rfl) ?lqy5 ?lqr5
          case lqy5 => (intro w; go_simp; (try with_reducible rfl))
          (try simp only [Act.put, List.setIfInBounds_toArray, List.set_cons_zero, List.set_cons_succ])
          refine E_take0 hQ (fun _ => hHeld) 5 (v := ?lqv6) rfl rfl (by kernel_rfl) (by kernel_rfl) (by kernel_rfl) (by decide) (by rfl) ?lqy6 ?lqr6
          case lqy6 => (intro w; go_simp; (try with_reducible rfl))
          (try simp only [Act.put, List.setIfInBounds_toArray, List.set_cons_zero, List.set_cons_succ])
          refine E_take0 hQ (fun _ => hHeld) 6 (v := ?lqv7) rfl rfl (by kernel_rfl) (by kernel_rfl) (by kernel_rfl) (by decide) (by rfl) ?lqy7 ?lqr7
          case lqy7 => (intro w; go_simp; (try with_reducible rfl))
          (try simp only [Act.put, List.setIfInBounds_toArray, List.set_cons_zero, List.set_cons_succ])
          refine E_take hQ hHeld 7 (v := ?lqv8) rfl rfl (by kernel_rfl) (by kernel_rfl) (by kernel_rfl) (by kernel_rfl) (by kernel_rfl) (by rfl) ?lqy8 ?lqr8
          case lqy8 => (intro w hSw; (try dsimp only at hSw); go_simp; (try with_reducible rfl))
          (try simp only [Act.put, List.setIfInBounds_toArray, List.set_cons_zero, List.set_cons_succ])
          refine E_take0 hQ (fun _ => hHeld) 8 (v := ?lqv9) rfl rfl (by kernel_rfl) (by kernel_rfl) (by kernel_rfl) (by decide) (by rfl) ?lqy9 ?lqr9
          case lqy9 => (intro w; go_simp; (try with_reducible rfl))
          (try simp only [Act.put, List.setIfInBounds_toArray, List.set_cons_zero, List.set_cons_succ])
          refine E_take0 hQ (fun _ => hHeld) 9 (v := ?lqv10) rfl rfl (by kernel_rfl) (by kernel_rfl) (by kernel_rfl) (by decide) (by rfl) ?lqy10 ?lqr10
          case lqy10 => (intro w; go_simp; (try with_reducible rfl))
          (try simp only [Act.put, List.setIfInBounds_toArray, List.set_cons_zero, List.set_cons_succ])
          refine E_take0 hQ (fun _ => hHeld) 10 (v := ?lqv11) rfl rfl (by kernel_rfl) (by kernel_rfl) (by kernel_rfl) (by decide) (by rfl) ?lqy11 ?lqr11
          case lqy11 => (intro w; go_simp; (try with_reducible rfl))
          (try simp only [Act.put, List.setIfInBounds_toArray, List.set_cons_zero, List.set_cons_succ])
          refine E_take0 hQ (fun _ => hHeld) 11 (v := ?lqv12) rfl rfl (by kernel_rfl) (by kernel_rfl) (by kernel_rfl) (by decide) (by rfl) ?lqy12 ?lqr12
          case lqy12 => (intro w; go_simp; (try with_reducible rfl))
          (try simp only [Act.put, List.setIfInBounds_toArray, List.set_cons_zero, List.set_cons_succ])
          refine E_take0 hQ (fun _ => hHeld) 12 (v := ?lqv13) rfl rfl (by kernel_rfl) (by kernel_rfl) (by kernel_rfl) (by decide) (by rfl) ?lqy13 ?lqr13
          case lqy13 => (intro w; go_simp; (try with_reducible rfl))
          (try simp only [Act.put, List.setIfInBounds_toArray, List.set_cons_zero, List.set_cons_succ])
          refine E_take0 hQ (fun _ => hHeld) 13 (v := ?lqv14) rfl rfl (by kernel_rfl) (by kernel_rfl) (by kernel_rfl) (by decide) (by rfl) ?lqy14 ?lqr14
          case lqy14 => (intro w; go_simp; (try with_reducible rfl))
          (try simp only [Act.put, List.setIfInBounds_toArray, List.set_cons_zero, List.set_cons_succ])
          refine E_take0 hQ (fun _ => hHeld) 14 (v := ?lqv15) rfl rfl (by kernel_rfl) (by kernel_rfl) (by kernel_rfl) (by decide) (by rfl) ?lqy15 ?lqr15
          case lqy15 => (intro w; go_simp; (try with_reducible rfl))
          (try simp only [Act.put, List.setIfInBounds_toArray, List.set_cons_zero, List.set_cons_succ])
          refine E_take hQ hHeld 15 (v := ?lqv16) rfl rfl (by kernel_rfl) (by kernel_rfl) (by kernel_rfl) (by kernel_rfl) (by kernel_rfl) (by rfl) ?lqy16 ?lqr16
          case lqy16 => (intro w hSw; (try dsimp only at hSw); go_simp; (try with_reducible rfl))
          (try simp only [Act.put, List.setIfInBounds_toArray, List.set_cons_zero, List.set_cons_succ])
          refine E_take0 hQ (fun _ => hHeld) 16 (v := ?lqv17) rfl rfl (by kernel_rfl) (by kernel_rfl) (by kernel_rfl) (by decide) (by rfl) ?lqy17 ?lqr17
          case lqy17 => (intro w; go_simp; (try with_reducible rfl))
          (try simp only [Act.put, List.setIfInBounds_toArray, List.set_cons_zero, List.set_cons_succ])
          refine E_take0 hQ (fun _ => hHeld) 17 (v := ?lqv18) rfl rfl (by kernel_rfl) (by kernel_rfl) (by kernel_rfl) (by decide) (by rfl) ?lqy18 ?lqr18
          case lqy18 => (intro w; go_simp; (try with_reducible rfl))
          (try simp only [Act.put, List.setIfInBounds_toArray, List.set_cons_zero, List.set_cons_succ])
          refine E_take0 hQ (fun _ => hHeld) 18 (v := ?lqv19) rfl rfl (by kernel_rfl) (by kernel_rfl) (by kernel_rfl) (by decide) (by rfl) ?lqy19 ?lqr19
          case lqy19 => (intro w; go_simp; (try with_reducible rfl))
          (try simp only [Act.put, List.setIfInBounds_toArray, List.set_cons_zero, List.set_cons_succ])
          refine E_take0 hQ (fun _ => hHeld) 19 (v := ?lqv20) rfl rfl (by kernel_rfl) (by kernel_rfl) (by kernel_rfl) (by decide) (by rfl) ?lqy20 ?lqr20
          case lqy20 => (intro w; go_simp; (try with_reducible rfl))
          (try simp only [Act.put, List.setIfInBounds_toArray, List.set_cons_zero, List.set_cons_succ])
          refine E_take0 hQ (fun _ => hHeld) 20 (v := ?lqv21) rfl rfl (by kernel_rfl) (by kernel_rfl) (by kernel_rfl) (by decide) (by rfl) ?lqy21 ?lqr21
          case lqy21 => (intro w; go_simp; (try with_reducible rfl))
          (try simp only [Act.put, List.setIfInBounds_toArray, List.set_cons_zero, List.set_cons_succ])
          refine E_take0 hQ (fun _ => hHeld) 21 (v := ?lqv22) rfl rfl (by kernel_rfl) (by kernel_rfl) (by kernel_rfl) (by decide) (by rfl) ?lqy22 ?lqr22
          case lqy22 => (intro w; go_simp; (try with_reducible rfl))
          (try simp only [Act.put, List.setIfInBounds_toArray, List.set_cons_zero, List.set_cons_succ])
          refine E_take0 hQ (fun _ => hHeld) 22 (v := ?lqv23) rfl rfl (by kernel_rfl) (by kernel_rfl) (by kernel_rfl) (by decide) (by rfl) ?lqy23 ?lqr23
          case lqy23 => (intro w; go_simp; (try with_reducible rfl))
          (try simp only [Act.put, List.setIfInBounds_toArray, List.set_cons_zero, List.set_cons_succ])
          refine E_take0 hQ (fun _ => hHeld) 23 (v := ?lqv24) rfl rfl (by kernel_rfl) (by kernel_rfl) (by kernel_rfl) (by decide) (by rfl) ?lqy24 ?lqr24
          case lqy24 => (intro w; go_simp; (try with_reducible rfl))
          (try simp only [Act.put, List.setIfInBounds_toArray, List.set_cons_zero, List.set_cons_succ])
          refine E_take0 hQ (fun _ => hHeld) 24 (v := ?lqv25) rfl rfl (by kernel_rfl) (by kernel_rfl) (by kernel_rfl) (by decide) (by rfl) ?lqy25 ?lqr25
          case lqy25 => (intro w; go_simp; (try with_reducible rfl))
          (try simp only [Act.put, List.setIfInBounds_toArray, List.set_cons_zero, List.set_cons_succ])
          refine E_take hQ hHeld 25 (v := ?lqv26) rfl rfl (by kernel_rfl) (by kernel_rfl) (by kernel_rfl) (by kernel_rfl) (by kernel_rfl) (by rfl) ?lqy26 ?lqr26
          case lqy26 => (intro w hSw; (try dsimp only at hSw); go_simp; (try with_reducible rfl))
          (try simp only [Act.put, List.setIfInBounds_toArray, List.set_cons_zero, List.set_cons_succ])
          refine E_take0 hQ (fun _ => hHeld) 26 (v := ?lqv27) rfl rfl (by kernel_rfl) (by kernel_rfl) (by kernel_rfl) (by decide) (by rfl) ?lqy27 ?lqr27
          case lqy27 => (intro w; go_simp; (try with_reducible rfl))
          (try simp only [Act.put, List.setIfInBounds_toArray, List.set_cons_zero, List.set_cons_succ])
          refine E_take0 hQ (fun _ => hHeld) 27 (v := ?lqv28) rfl rfl (by kernel_rfl) (by kernel_rfl) (by kernel_rfl) (by decide) (by rfl) ?lqy28 ?lqr28
          case lqy28 => (intro w; go_simp; (try with_reducible rfl))
          (try simp only [Act.put, List.setIfInBounds_toArray, List.set_cons_zero, List.set_cons_succ])
          refine E_take0 hQ (fun _ => hHeld) 28 (v := ?lqv29) rfl rfl (by kernel_rfl) (by kernel_rfl) (by kernel_rfl) (by decide) (by rfl) ?lqy29 ?lqr29
          case lqy29 => (intro w; go_simp; (try with_reducible rfl))
          (try simp only [Act.put, List.setIfInBounds_toArray, List.set_cons_zero, List.set_cons_succ])
          refine E_take0 hQ (fun _ => hHeld) 29 (v := ?lqv30) rfl rfl (by kernel_rfl) (by kernel_rfl) (by kernel_rfl) (by decide) (by rfl) ?lqy30 ?lqr30
          case lqy30 => (intro w; go_simp; (try with_reducible rfl))
          (try simp only [Act.put, List.setIfInBounds_toArray, List.set_cons_zero, List.set_cons_succ])
          refine E_take hQ hHeld 30 (v := ?lqv31) rfl rfl (by kernel_rfl) (by kernel_rfl) (by kernel_rfl) (by kernel_rfl) (by kernel_rfl) (by rfl) ?lqy31 ?lqr31
          case lqy31 => (intro w hSw; (try dsimp only at hSw); go_simp; (try with_reducible rfl))
          (try simp only [Act.put, List.setIfInBounds_toArray, List.set_cons_zero, List.set_cons_succ])
          refine E_take0 hQ (fun _ => hHeld) 31 (v := ?lqv32) rfl rfl (by kernel_rfl) (by kernel_rfl) (by kernel_rfl) (by decide) (by rfl) ?lqy32 ?lqr32
          case lqy32 => (intro w; go_simp; (try with_reducible rfl))
          (try simp only [Act.put, List.setIfInBounds_toArray, List.set_cons_zero, List.set_cons_succ])
          refine E_one 32 (by kernel_rfl) rfl (by rfl) (fun K hK => ?_)
          go_simp
          (try simp only [Act.put, List.setIfInBounds_toArray, List.set_cons_zero, List.set_cons_succ])
          refine hK.out _ _ (fun _ h => absurd rfl h) (fun _ => ?_)
          clear hK hHeld
          (try simp only [Act.put, List.setIfInBounds_toArray, List.set_cons_zero, List.set_cons_succ])
          refine E_done (by kernel_rfl) ?_ _
          refine hK'.out _ _ ?_
          go_wp2_with fail
          go_roundg (l.length + 1 - (k + 1))
          case measure => omega
          case rel => exact ⟨k + 1, by omega, by omega, by go_num, Lib.hid HB7.out.drew⟩
        have hk1 : ¬ (k : Int) < (l.length : Int) := by omega
        have d3 : decide ((k : Int) < (l.length : Int)) = false := decide_eq_false (by omega)
        go_wp2_with fail
        go_ret
        exact ⟨rfl, HBJ.out⟩
end Go.Proofs.YtdhgcgejdoedbaaDoor
