/-
  rescriptref21.Changes: contract.
-/
import Derived.Test.YtlakmfhpinljjaaBc7
import Derived.Test.YtlakmfhpinljjaaBc24
import Derived.Test.YtlakmfhpinljjaaBc30
import Derived.Test.YtlakmfhpinljjaaBc33
namespace Go.Proofs.Ytlakmfhpinljjaa
open Go Go.RowKit Go.WideShapes

theorem set7 {W : World} {B : Nat} {t : TypeId} {c0 c1 c2 c3 c4 c5 c6 x0 x1 x2 x3 x4 x5 x6 : Value} (h : W.heap[B]? = some (.cells #[c0, c1, c2, c3, c4, c5, c6] t (0, 0))) : (((((((W.setCell ⟨B, 0, none⟩ x0).setCell ⟨B, 1, none⟩ x1).setCell ⟨B, 2, none⟩ x2).setCell ⟨B, 3, none⟩ x3).setCell ⟨B, 4, none⟩ x4).setCell ⟨B, 5, none⟩ x5).setCell ⟨B, 6, none⟩ x6).heap[B]? = some (.cells #[x0, x1, x2, x3, x4, x5, x6] t (0, 0)) := by
  simp [World.setCell, h, Array.getElem?_modify]
theorem set7_below {n : Nat} {w W : World} (hb : Below n w W) {B : Nat} {x0 x1 x2 x3 x4 x5 x6 : Value} (h : n ≤ B) : Below n w (((((((W.setCell ⟨B, 0, none⟩ x0).setCell ⟨B, 1, none⟩ x1).setCell ⟨B, 2, none⟩ x2).setCell ⟨B, 3, none⟩ x3).setCell ⟨B, 4, none⟩ x4).setCell ⟨B, 5, none⟩ x5).setCell ⟨B, 6, none⟩ x6) :=
  (((((((hb.setCell (p := ⟨B, 0, none⟩) h _).setCell (p := ⟨B, 1, none⟩) h _).setCell (p := ⟨B, 2, none⟩) h _).setCell (p := ⟨B, 3, none⟩) h _).setCell (p := ⟨B, 4, none⟩) h _).setCell (p := ⟨B, 5, none⟩) h _).setCell (p := ⟨B, 6, none⟩) h _)
theorem cells7 {W : World} {B : Nat} {t : TypeId} {c0 c1 c2 c3 c4 c5 c6 : Value} (h : W.heap[B]? = some (.cells #[c0, c1, c2, c3, c4, c5, c6] t (0, 0))) : W.cell? ⟨B, 0, none⟩ = some c0 ∧ W.cell? ⟨B, 1, none⟩ = some c1 ∧ W.cell? ⟨B, 2, none⟩ = some c2 ∧ W.cell? ⟨B, 3, none⟩ = some c3 ∧ W.cell? ⟨B, 4, none⟩ = some c4 ∧ W.cell? ⟨B, 5, none⟩ = some c5 ∧ W.cell? ⟨B, 6, none⟩ = some c6 ∧ W.frozen? ⟨B, 0, none⟩ = false ∧ W.frozen? ⟨B, 1, none⟩ = false ∧ W.frozen? ⟨B, 2, none⟩ = false ∧ W.frozen? ⟨B, 3, none⟩ = false ∧ W.frozen? ⟨B, 4, none⟩ = false ∧ W.frozen? ⟨B, 5, none⟩ = false ∧ W.frozen? ⟨B, 6, none⟩ = false := by
  refine ⟨?_, ?_, ?_, ?_, ?_, ?_, ?_, ?_, ?_, ?_, ?_, ?_, ?_, ?_⟩ <;> simp [World.cell?, World.frozen?, h]
theorem ifs3n (a b c d e f : Int) (w : World) : (if a = b then if c = d then if e = f then Result.ok (Next.value (Value.bool false)) w else Result.ok (Next.value (Value.bool true)) w else Result.ok (Next.value (Value.bool true)) w else Result.ok (Next.value (Value.bool true)) w) = Result.ok (Next.value (.bool (!(decide (a = b) && decide (c = d) && decide (e = f))))) w := by
  by_cases h1 : a = b <;> by_cases h2 : c = d <;> by_cases h3 : e = f <;> simp [h1, h2, h3]
theorem cell_of {W : World} {g : Nat} {l : List Value} {t : TypeId} {fr : Nat × Nat} (h : W.heap[g]? = some (.cells l.toArray t fr)) {q : Nat} {c : Value} (hq : l[q]? = some c) : W.cell? ⟨g, q, none⟩ = some c := by
  simp only [World.cell?, h, Option.bind_some]; simpa using hq
/-- A list of texts that the call owns. -/
def OwnL (W : World) (B : Nat) (va : Option Addr) (vc : Nat) (l : List ByteArray) : Prop := W.ownsRow B 9 1 (.slice va l.length vc) l.length (strsV l)
theorem OwnL.below {W W' : World} {B vc : Nat} {va : Option Addr} {l : List ByteArray} (h : OwnL W B va vc l) (hb : Below W.heap.size W W') : OwnL W' B va vc l := ownsB h hb
theorem OwnL.alloc {W : World} {B vc : Nat} {va : Option Addr} {l : List ByteArray} (h : OwnL W B va vc l) (ob : Obj) : (W.alloc ob).ownsRow B 9 1 (.slice va l.length vc) l.length (strsV l) := World.ownsRow.alloc h ob
theorem OwnL.drew {W : World} {B vc : Nat} {va : Option Addr} {l : List ByteArray} (h : OwnL W B va vc l) : OwnL W.drew B va vc l := h.below ((Below.refl _ _).drew)
theorem OwnL.ne {W : World} {B vc : Nat} {va : Option Addr} {l : List ByteArray} (h : OwnL W B va vc l) {q : Nat} {c : Array Value} {t : TypeId} {fr : Nat × Nat} (hq : W.heap[q]? = some (.cells c t fr)) (ht : t ≠ 9) : (Value.slice va l.length vc).ownBlock ≠ some q := by
  intro e
  obtain ⟨cur, hc⟩ := owns_cells h e
  rw [hq] at hc
  cases hc
  exact ht rfl
theorem list_pushed {W w1 : World} {B vc : Nat} {va : Option Addr} {l : List ByteArray} {x : ByteArray} {v' : Value} {tmp : Obj} (h : OwnL W B va vc l) (hB : B ≤ W.heap.size) (hown' : w1.ownsRow B 9 1 v' (l.length + 1) (strsV l ++ [.string x])) (hgrow : (W.alloc tmp).grownBy w1 (Value.slice va l.length vc).ownBlock) :
    ∃ va' vc', v' = .slice va' (l.length + 1) vc' ∧ OwnL w1 B va' vc' (l ++ [x]) ∧ Below B W w1 ∧ (∀ (q : Nat) (ob : Obj), W.heap[q]? = some ob → (Value.slice va l.length vc).ownBlock ≠ some q → w1.heap[q]? = some ob) := by
  obtain ⟨va', vc', rfl⟩ := (RdS.of_owns hown').form
  refine ⟨va', vc', rfl, ?_, ((Below.refl B W).alloc hB tmp).grown hgrow (by simp; omega) (fun j ej => (World.ownsRow.lt h j ej).1), fun q ob hq hne => ?_⟩
  · have e : strsV l ++ [.string x] = strsV (l ++ [x]) := by simp [strsV]
    rw [e] at hown'
    unfold OwnL
    simpa using hown'
  · have hl := (Array.getElem?_eq_some_iff.1 hq).1
    rw [hgrow.block q (by simp; omega) (fun e => hne e.symm)]
    exact (Below.heap_alloc _ _ _ hl).trans hq

theorem dotN_eq (k : Nat) (n : ByteArray) : dotN k n = digS (k : Int) ++ { data := #[46] } ++ n := rfl
theorem acc_step {c u u' : List ByteArray} {f : ByteArray → ByteArray} {n : ByteArray} (h : u' = u ++ if false then [] else [n]) : c ++ u'.map f = c ++ u.map f ++ [f n] := by rw [h]; simp
theorem acc_same {u u' : List ByteArray} {n : ByteArray} (h : u' = u ++ if true then [] else [n]) : u' = u := by rw [h]; simp

set_option maxRecDepth 100000 in
set_option maxHeartbeats 8000000 in
theorem rdChanges_any (a b : DefD) (ca cb : List Value) (sa sb : Option Addr) (sc sd : Nat) (w : World) (h : DefR w ca a sa sc) (h' : DefR w cb b sb sd) (hla : a.steps.length ≤ 30) (hlb : b.steps.length ≤ 30) :
    Calls Try.prog 32 #[.agg ca.toArray, .agg cb.toArray] w fun e w' => ∃ v, e = .returned v ∧ RdS w' v 1 (changesD a b).length (strsV (changesD a b)) ∧ Below w.heap.size w w' := by
  obtain ⟨i0, hi, hz0, hz1, hz2⟩ := info_parts Try.info_str
  obtain ⟨rfl, hna, hta, hva⟩ := h
  obtain ⟨rfl, hnb, htb, hvb⟩ := h'
  obtain ⟨_, _, he1, hl1, hl2⟩ := hva.form
  obtain ⟨_, _, he2, hl3, hl4⟩ := hvb.form
  cases he1
  cases he2
  obtain ⟨hb0, g0, g1, hsz⟩ := alloc2 w 24 24 #[.string a.name, .string a.text, .slice sa a.steps.length sc] #[.string b.name, .string b.text, .slice sb b.steps.length sd]
  have HVA0 := Lib.hid hva
  have HVB0 := Lib.hid hvb
  clear hva hvb
  go_enter Try.func32, Try.ntmps32
  go_upto_region 2 with fail
  generalize ((w.alloc (.cells #[.string a.name, .string a.text, .slice sa a.steps.length sc] 24)).alloc (.cells #[.string b.name, .string b.text, .slice sb b.steps.length sd] 24)) = w2 at *
  have HB0 := Lib.hid hb0
  have G0 := Lib.hid g0
  have G1 := Lib.hid g1
  have HSZ := Lib.hid hsz
  have HO0 : Hid (OwnL w2 (w.heap.size + 2) none 0 []) := Lib.hid (World.ownsRow_nil _ _ _ _)
  have hnil : ([] : List ByteArray).length = 0 := rfl
  obtain ⟨p0, p1, p2, -, -, -⟩ := cells3h g0
  obtain ⟨r0, r1, r2, -, -, -⟩ := cells3h g1
  have hsl : w.heap.size + 2 ≤ w2.heap.size := by omega
  clear hb0 g0 g1 hsz
  go_upto_if 16 with fail
  go_cut [5] (fun s5 wx => ∃ va vc, s5 = .slice va (headA a b).length vc ∧ OwnL wx (w.heap.size + 2) va vc (headA a b) ∧ Below (w.heap.size + 2) w2 wx)
  case first =>
    by_cases hn : a.name = b.name
    · have hd : (!(a.name.toList == b.name.toList)) = false := by rw [beqS_yes hn]; rfl
      have HH : Hid (headA a b = []) := Lib.hid (if_pos hn)
      rw [hd]
      clear hn hd
      go_wp2_with fail
      go_meet
      exact ⟨none, 0, by rw [HH.out]; rfl, by rw [HH.out]; exact HO0.out, Below.refl _ _⟩
    · have hd : (!(a.name.toList == b.name.toList)) = true := by rw [beqS_no hn]; rfl
      have HH : Hid (headA a b = [] ++ [sSaga]) := Lib.hid (if_neg hn)
      rw [hd]
      clear hn hd
      go_wp2_with (at_builtin; go_must (refine wpList_push rfl _ _ 31 rfl (w.heap.size + 2) 9 i0 (.string ByteArray.empty) 1 16 Try.underlying31 hi hz0 hz1 hz2 rfl (by decide) _ _ _ rfl ((show w2.ownsRow (w.heap.size + 2) 9 1 (.slice none 0 0) 0 (strsV []) from HO0.out).alloc _) ⟨w2.heap.size, 0, none⟩ 1 1 [_] rfl rfl (cell_one_new _ _ _) (by simp [Value.oneCell']) (by unfold maxLen; omega) (by omega) (by simp; omega) ?_; intro v' w9 hown' hgrow hfr; obtain ⟨va', vc', rfl, ko1, ko2, ko3⟩ := list_pushed HO0.out (show (w.heap.size + 2) ≤ w2.heap.size by omega) hown' hgrow; have KO1 := Lib.hid ko1; have KO2 := Lib.hid ko2; clear hown' hgrow hfr ko1 ko2 ko3))
      go_meet
      exact ⟨va', vc', by rw [HH.out]; rfl, by rw [HH.out]; exact KO1.out, KO2.out⟩
  case rest =>
  obtain ⟨va, vc, rfl, ho, hb⟩ := hcut
  generalize wc = w4 at *
  have HO1 := Lib.hid ho
  have HB1 := Lib.hid hb
  have hs4 := hb.size
  have hhl : (headA a b).length ≤ 1 := by unfold headA; split <;> simp
  clear p0 p1 p2 r0 r1 r2
  obtain ⟨p0, p1, p2, -, -, -⟩ := cells3h ((hb.block _ (by omega)).trans G0.out)
  obtain ⟨r0, r1, r2, -, -, -⟩ := cells3h ((hb.block _ (by omega)).trans G1.out)
  clear ho hb HO0
  go_upto_if 24 with fail
  go_cut [5] (fun s5 wx => ∃ va vc, s5 = .slice va (headB a b).length vc ∧ OwnL wx (w.heap.size + 2) va vc (headB a b) ∧ Below (w.heap.size + 2) w2 wx)
  case first =>
    by_cases hn : a.text = b.text
    · have hd : (!(a.text.toList == b.text.toList)) = false := by rw [beqS_yes hn]; rfl
      have HH : Hid (headB a b = headA a b) := Lib.hid (by unfold headB; rw [if_pos hn, List.append_nil])
      rw [hd]
      clear hn hd
      go_wp2_with fail
      go_meet
      exact ⟨va, vc, by rw [HH.out], by rw [HH.out]; exact HO1.out, HB1.out⟩
    · have hd : (!(a.text.toList == b.text.toList)) = true := by rw [beqS_no hn]; rfl
      have HH : Hid (headB a b = headA a b ++ [sText]) := Lib.hid (by unfold headB; rw [if_neg hn])
      rw [hd]
      clear hn hd
      go_wp2_with (at_builtin; go_must (refine wpList_push rfl _ _ 31 rfl (w.heap.size + 2) 9 i0 (.string ByteArray.empty) 1 16 Try.underlying31 hi hz0 hz1 hz2 rfl (by decide) _ _ _ rfl (HO1.out.alloc _) ⟨w4.heap.size, 0, none⟩ 1 1 [_] rfl rfl (cell_one_new _ _ _) (by simp [Value.oneCell']) (by unfold maxLen; omega) (by omega) (by simp; omega) ?_; intro v' w9 hown' hgrow hfr; obtain ⟨va', vc', rfl, ko1, ko2, ko3⟩ := list_pushed HO1.out (show (w.heap.size + 2) ≤ w4.heap.size by omega) hown' hgrow; have KO1 := Lib.hid ko1; have KO2 := Lib.hid ko2; clear hown' hgrow hfr ko1 ko2 ko3))
      go_meet
      exact ⟨va', vc', by rw [HH.out, List.length_append]; rfl, by rw [HH.out]; exact KO1.out, HB1.out.trans KO2.out⟩
  case rest =>
  obtain ⟨va, vc, rfl, ho, hb⟩ := hcut
  generalize wc = w5 at *
  rw [← chgL_zero] at ho
  rw [← chgL_zero]
  have HO2 := Lib.hid ho
  have HB2 := Lib.hid hb
  clear p0 p1 p2 r0 r1 r2 hs4
  clear ho hb HO1 HB1 hhl
  generalize hM : max a.steps.length b.steps.length = M at *
  have hM30 : M ≤ 30 := by omega
  go_wp2_with fail
  go_loopg [6, 5] (M + 1) (fun gk i v wr => ∃ (k : Nat) (va : Option Addr) (vc : Nat), k + gk = M + 1 ∧ k ≤ M ∧ i = .int .i64 k ∧ v = .slice va (chgL a b k).length vc ∧ Hid (OwnL wr (w.heap.size + 2) va vc (chgL a b k)) ∧ Hid (Below (w.heap.size + 2) w2 wr))
  case atStart => exact ⟨0, _, _, by omega, by omega, rfl, rfl, HO2, HB2⟩
  case round =>
    obtain ⟨k, va, vc, hgk, hk, rfl, rfl, HO, HBR⟩ := hrel
    have hg : gk = M + 1 - k := by omega
    subst hg
    clear hgk
    have hbr := HBR.out
    have hsr := hbr.size
    obtain ⟨p0, p1, p2, -, -, -⟩ := cells3h ((hbr.block _ (by omega)).trans G0.out)
    obtain ⟨r0, r1, r2, -, -, -⟩ := cells3h ((hbr.block _ (by omega)).trans G1.out)
    have hcl := chgL_len a b k
    have hds := digS_size (k : Int)
    have HDIG := Lib.hid (fun W => rdig_any (k : Int) W (by omega) (by omega))
    have hk0 : (0 : Int) ≤ (k : Int) := by omega
    clear hbr
    by_cases hka : k < a.steps.length
    · have d1 : decide ((k : Int) < (a.steps.length : Int)) = true := decide_eq_true (by omega)
      by_cases hkb : k < b.steps.length
      · have d3 : decide ((b.steps.length : Int) ≤ (k : Int)) = false := decide_eq_false (by omega)
        have d4 : decide ((a.steps.length : Int) ≤ (k : Int)) = false := decide_eq_false (by omega)
        have HCI := Lib.hid (chgI_parts hkb hka)
        have HBW := Lib.hid (HB0.out.trans (HBR.out.mono (by omega)))
        obtain ⟨g, off, cap, aa1, ac1, ka1, kc1, ba1, bc1, he, q1, q2, hn1, z0, z1, z2, z3, z4, z5, z6, z7, z8, z9, z10, z11, z12⟩ := (HVA0.out.below HBW.out).at hka
        obtain ⟨g', off', cap', aa2, ac2, ka2, kc2, ba2, bc2, he', q1', q2', hn2, y0, y1, y2, y3, y4, y5, y6, y7, y8, y9, y10, y11, y12⟩ := (HVB0.out.below HBW.out).at hkb
        cases he
        cases he'
        have HN1 := Lib.hid hn1
        have HN2 := Lib.hid hn2
        have hk1 : (k : Int) < (a.steps.length : Int) := by omega
        have hk2 : (k : Int) < (b.steps.length : Int) := by omega
        clear hn1 hn2
        generalize a.steps[k] = s at *
        generalize b.steps[k] = t at *
        go_upto_region 13 with fail
        go_cut [7, 8] (fun s6 s7 wx => ∃ g6 g7, s6 = .pointer (some ⟨g6, 0, none⟩) ∧ s7 = .pointer (some ⟨g7, 0, none⟩) ∧ wx.heap[g6]? = some (.cells #[.string s.name, .string s.action, .string s.undo, .slice aa1 s.after.length ac1, .int .i64 s.most, .int .i64 s.first, .int .i64 s.factor, .int .i64 s.limit, .int .u8 (s.note.kind : Int), .string s.note.text, .slice ka1 s.note.keys.length kc1, .slice ba1 s.note.kids.length bc1, .int .i64 s.note.line] 45 (0, 0)) ∧ wx.heap[g7]? = some (.cells #[.string t.name, .string t.action, .string t.undo, .slice aa2 t.after.length ac2, .int .i64 t.most, .int .i64 t.first, .int .i64 t.factor, .int .i64 t.limit, .int .u8 (t.note.kind : Int), .string t.note.text, .slice ka2 t.note.keys.length kc2, .slice ba2 t.note.kids.length bc2, .int .i64 t.note.line] 45 (0, 0)) ∧ Below wr.heap.size wr wx)
        case first =>
          have hz : Below wr.heap.size wr (wr.alloc (.cells #[.string { data := #[] }, .string { data := #[] }, .string { data := #[] }, .slice none 0 0, .int .i64 0, .int .i64 0, .int .i64 0, .int .i64 0, .int .u8 0, .string { data := #[] }, .slice none 0 0, .slice none 0 0, .int .i64 0] 45)) := (Below.refl _ _).alloc (Nat.le_refl _) _
          have r2Z := cellB hz r2
          obtain ⟨yZ0, yZ1, yZ2, yZ3, yZ4, yZ5, yZ6, yZ7, yZ8, yZ9, yZ10, yZ11, yZ12⟩ := At13.below ⟨y0, y1, y2, y3, y4, y5, y6, y7, y8, y9, y10, y11, y12⟩ hz
          have p2Z := cellB hz p2
          obtain ⟨zZ0, zZ1, zZ2, zZ3, zZ4, zZ5, zZ6, zZ7, zZ8, zZ9, zZ10, zZ11, zZ12⟩ := At13.below ⟨z0, z1, z2, z3, z4, z5, z6, z7, z8, z9, z10, z11, z12⟩ hz
          clear hz
          have hz : Below wr.heap.size wr ((wr.alloc (.cells #[.string { data := #[] }, .string { data := #[] }, .string { data := #[] }, .slice none 0 0, .int .i64 0, .int .i64 0, .int .i64 0, .int .i64 0, .int .u8 0, .string { data := #[] }, .slice none 0 0, .slice none 0 0, .int .i64 0] 45)).alloc (.cells #[.string { data := #[] }, .string { data := #[] }, .string { data := #[] }, .slice none 0 0, .int .i64 0, .int .i64 0, .int .i64 0, .int .i64 0, .int .u8 0, .string { data := #[] }, .slice none 0 0, .slice none 0 0, .int .i64 0] 45)) := ((Below.refl _ _).alloc (Nat.le_refl _) _).alloc (by simp) _
          have r2ZZ := cellB hz r2
          obtain ⟨yZZ0, yZZ1, yZZ2, yZZ3, yZZ4, yZZ5, yZZ6, yZZ7, yZZ8, yZZ9, yZZ10, yZZ11, yZZ12⟩ := At13.below ⟨y0, y1, y2, y3, y4, y5, y6, y7, y8, y9, y10, y11, y12⟩ hz
          have p2ZZ := cellB hz p2
          obtain ⟨zZZ0, zZZ1, zZZ2, zZZ3, zZZ4, zZZ5, zZZ6, zZZ7, zZZ8, zZZ9, zZZ10, zZZ11, zZZ12⟩ := At13.below ⟨z0, z1, z2, z3, z4, z5, z6, z7, z8, z9, z10, z11, z12⟩ hz
          clear hz
          have hz : Below wr.heap.size wr (wr.alloc (.cells #[.string s.name, .string s.action, .string s.undo, .slice aa1 s.after.length ac1, .int .i64 s.most, .int .i64 s.first, .int .i64 s.factor, .int .i64 s.limit, .int .u8 (s.note.kind : Int), .string s.note.text, .slice ka1 s.note.keys.length kc1, .slice ba1 s.note.kids.length bc1, .int .i64 s.note.line] 45)) := (Below.refl _ _).alloc (Nat.le_refl _) _
          have r2S := cellB hz r2
          obtain ⟨yS0, yS1, yS2, yS3, yS4, yS5, yS6, yS7, yS8, yS9, yS10, yS11, yS12⟩ := At13.below ⟨y0, y1, y2, y3, y4, y5, y6, y7, y8, y9, y10, y11, y12⟩ hz
          clear hz
          have hz : Below wr.heap.size wr ((wr.alloc (.cells #[.string s.name, .string s.action, .string s.undo, .slice aa1 s.after.length ac1, .int .i64 s.most, .int .i64 s.first, .int .i64 s.factor, .int .i64 s.limit, .int .u8 (s.note.kind : Int), .string s.note.text, .slice ka1 s.note.keys.length kc1, .slice ba1 s.note.kids.length bc1, .int .i64 s.note.line] 45)).alloc (.cells #[.string { data := #[] }, .string { data := #[] }, .string { data := #[] }, .slice none 0 0, .int .i64 0, .int .i64 0, .int .i64 0, .int .i64 0, .int .u8 0, .string { data := #[] }, .slice none 0 0, .slice none 0 0, .int .i64 0] 45)) := ((Below.refl _ _).alloc (Nat.le_refl _) _).alloc (by simp) _
          have r2SZ := cellB hz r2
          obtain ⟨ySZ0, ySZ1, ySZ2, ySZ3, ySZ4, ySZ5, ySZ6, ySZ7, ySZ8, ySZ9, ySZ10, ySZ11, ySZ12⟩ := At13.below ⟨y0, y1, y2, y3, y4, y5, y6, y7, y8, y9, y10, y11, y12⟩ hz
          clear hz
          have hz : Below wr.heap.size wr ((wr.alloc (.cells #[.string { data := #[] }, .string { data := #[] }, .string { data := #[] }, .slice none 0 0, .int .i64 0, .int .i64 0, .int .i64 0, .int .i64 0, .int .u8 0, .string { data := #[] }, .slice none 0 0, .slice none 0 0, .int .i64 0] 45)).alloc (.cells #[.string s.name, .string s.action, .string s.undo, .slice aa1 s.after.length ac1, .int .i64 s.most, .int .i64 s.first, .int .i64 s.factor, .int .i64 s.limit, .int .u8 (s.note.kind : Int), .string s.note.text, .slice ka1 s.note.keys.length kc1, .slice ba1 s.note.kids.length bc1, .int .i64 s.note.line] 45)) := ((Below.refl _ _).alloc (Nat.le_refl _) _).alloc (by simp) _
          have r2ZS := cellB hz r2
          obtain ⟨yZS0, yZS1, yZS2, yZS3, yZS4, yZS5, yZS6, yZS7, yZS8, yZS9, yZS10, yZS11, yZS12⟩ := At13.below ⟨y0, y1, y2, y3, y4, y5, y6, y7, y8, y9, y10, y11, y12⟩ hz
          clear hz
          have hz : Below wr.heap.size wr (wr.alloc (.cells #[.string t.name, .string t.action, .string t.undo, .slice aa2 t.after.length ac2, .int .i64 t.most, .int .i64 t.first, .int .i64 t.factor, .int .i64 t.limit, .int .u8 (t.note.kind : Int), .string t.note.text, .slice ka2 t.note.keys.length kc2, .slice ba2 t.note.kids.length bc2, .int .i64 t.note.line] 45)) := (Below.refl _ _).alloc (Nat.le_refl _) _
          have p2T := cellB hz p2
          obtain ⟨zT0, zT1, zT2, zT3, zT4, zT5, zT6, zT7, zT8, zT9, zT10, zT11, zT12⟩ := At13.below ⟨z0, z1, z2, z3, z4, z5, z6, z7, z8, z9, z10, z11, z12⟩ hz
          clear hz
          have hz : Below wr.heap.size wr ((wr.alloc (.cells #[.string t.name, .string t.action, .string t.undo, .slice aa2 t.after.length ac2, .int .i64 t.most, .int .i64 t.first, .int .i64 t.factor, .int .i64 t.limit, .int .u8 (t.note.kind : Int), .string t.note.text, .slice ka2 t.note.keys.length kc2, .slice ba2 t.note.kids.length bc2, .int .i64 t.note.line] 45)).alloc (.cells #[.string { data := #[] }, .string { data := #[] }, .string { data := #[] }, .slice none 0 0, .int .i64 0, .int .i64 0, .int .i64 0, .int .i64 0, .int .u8 0, .string { data := #[] }, .slice none 0 0, .slice none 0 0, .int .i64 0] 45)) := ((Below.refl _ _).alloc (Nat.le_refl _) _).alloc (by simp) _
          have p2TZ := cellB hz p2
          obtain ⟨zTZ0, zTZ1, zTZ2, zTZ3, zTZ4, zTZ5, zTZ6, zTZ7, zTZ8, zTZ9, zTZ10, zTZ11, zTZ12⟩ := At13.below ⟨z0, z1, z2, z3, z4, z5, z6, z7, z8, z9, z10, z11, z12⟩ hz
          clear hz
          have hz : Below wr.heap.size wr ((wr.alloc (.cells #[.string { data := #[] }, .string { data := #[] }, .string { data := #[] }, .slice none 0 0, .int .i64 0, .int .i64 0, .int .i64 0, .int .i64 0, .int .u8 0, .string { data := #[] }, .slice none 0 0, .slice none 0 0, .int .i64 0] 45)).alloc (.cells #[.string t.name, .string t.action, .string t.undo, .slice aa2 t.after.length ac2, .int .i64 t.most, .int .i64 t.first, .int .i64 t.factor, .int .i64 t.limit, .int .u8 (t.note.kind : Int), .string t.note.text, .slice ka2 t.note.keys.length kc2, .slice ba2 t.note.kids.length bc2, .int .i64 t.note.line] 45)) := ((Below.refl _ _).alloc (Nat.le_refl _) _).alloc (by simp) _
          have p2ZT := cellB hz p2
          obtain ⟨zZT0, zZT1, zZT2, zZT3, zZT4, zZT5, zZT6, zZT7, zZT8, zZT9, zZT10, zZT11, zZT12⟩ := At13.below ⟨z0, z1, z2, z3, z4, z5, z6, z7, z8, z9, z10, z11, z12⟩ hz
          clear hz
          go_region
          all_goals (go_wp2_with fail; go_meet)
          all_goals (first | exact ⟨_, _, rfl, rfl, (two_newW wr _ _ _ _).1, (two_newW wr _ _ _ _).2.1, (two_newW wr _ _ _ _).2.2⟩ | exact ⟨_, _, rfl, rfl, (two_newW wr _ _ _ _).2.1, (two_newW wr _ _ _ _).1, (two_newW wr _ _ _ _).2.2⟩)
        case rest =>
        obtain ⟨g6, g7, rfl, rfl, h6, h7, hbx⟩ := hcut
        generalize wc = wx at *
        clear z0 y0 z1 y1 z2 y2 z3 y3 z4 y4 z5 y5 z6 y6 z7 y7 z8 y8 z9 y9 z10 y10 z11 y11 z12 y12 p0 p1 p2 r0 r1 r2
        go_upto_region 15 with fail
        have hby := (Below.refl wx.heap.size wx).alloc (Nat.le_refl _) (.cells #[.string { data := #[110, 97, 109, 101] }, .string { data := #[97, 99, 116, 105, 111, 110] }, .string { data := #[117, 110, 100, 111] }, .string { data := #[97, 102, 116, 101, 114] }, .string { data := #[114, 101, 116, 114, 121] }, .string { data := #[108, 105, 109, 105, 116] }, .string { data := #[110, 111, 116, 101] }] 102)
        have H9 := Lib.hid (World.alloc_heap_new wx (.cells #[.string { data := #[110, 97, 109, 101] }, .string { data := #[97, 99, 116, 105, 111, 110] }, .string { data := #[117, 110, 100, 111] }, .string { data := #[97, 102, 116, 101, 114] }, .string { data := #[114, 101, 116, 114, 121] }, .string { data := #[108, 105, 109, 105, 116] }, .string { data := #[110, 111, 116, 101] }] 102))
        have hxy := bthen hbx (Nat.le_refl _) hby
        have h6y := (hby.block _ (Array.getElem?_eq_some_iff.1 h6).1).trans h6
        have h7y := (hby.block _ (Array.getElem?_eq_some_iff.1 h7).1).trans h7
        generalize wx.alloc (.cells #[.string { data := #[110, 97, 109, 101] }, .string { data := #[97, 99, 116, 105, 111, 110] }, .string { data := #[117, 110, 100, 111] }, .string { data := #[97, 102, 116, 101, 114] }, .string { data := #[114, 101, 116, 114, 121] }, .string { data := #[108, 105, 109, 105, 116] }, .string { data := #[110, 111, 116, 101] }] 102) = wy at *
        generalize hT9 : wx.heap.size = T9 at *
        have HXY := Lib.hid hxy
        have HVA := Lib.hid (HN1.out.after.below hxy)
        have HVB := Lib.hid (HN2.out.after.below hxy)
        have HNA := Lib.hid (HN1.out.note.belowW hxy)
        have HNB := Lib.hid (HN2.out.note.belowW hxy)
        have HOY := Lib.hid (HO.out.below hxy)
        obtain ⟨z0, z1, z2, z3, z4, z5, z6, z7, z8, z9, z10, z11, z12⟩ := cells13q h6y
        obtain ⟨y0, y1, y2, y3, y4, y5, y6, y7, y8, y9, y10, y11, y12⟩ := cells13q h7y
        clear hby hxy h6 h7 h6y h7y hbx hT9
        go_cut [10] (fun s10 wz => ∃ g10, s10 = .pointer (some ⟨g10, 0, none⟩) ∧ wz.heap[g10]? = some (.cells #[.bool (!decide (s.name = t.name)), .bool (!decide (s.action = t.action)), .bool (!decide (s.undo = t.undo)), .bool (!decide (s.after = t.after)), .bool (!(decide (s.most = t.most) && decide (s.first = t.first) && decide (s.factor = t.factor))), .bool (!decide (s.limit = t.limit)), .bool (!sameT s.note t.note)] 103 (0, 0)) ∧ Below wy.heap.size wy wz)
        case first =>
          clear HDIG hcl hds d1 d3 d4 hk0 hk1 hk2 hka hkb q1 q2 q1' q2' hl1 hl2 hl3 hl4 hsr hna hta hnb htb hz0 hz1 hz2 hi hla hlb HVA0 HVB0 G0 G1 HO2 HB2 HB0 HSZ hsl HCI HOY hnil
          have qq0 := beqS s.name t.name
          have qq1 := beqS s.action t.action
          have qq2 := beqS s.undo t.undo
          have qq5 : (s.limit != t.limit) = !decide (s.limit = t.limit) := by rw [Bool.eq_iff_iff]; simp
          generalize hx0 : decide (s.name = t.name) = x0 at *
          generalize hx1 : decide (s.action = t.action) = x1 at *
          generalize hx2 : decide (s.undo = t.undo) = x2 at *
          generalize hx3 : decide (s.after = t.after) = x3 at *
          generalize hx4 : (decide (s.most = t.most) && decide (s.first = t.first) && decide (s.factor = t.factor)) = x4 at *
          generalize hx5 : decide (s.limit = t.limit) = x5 at *
          generalize hx6 : sameT s.note t.note = x6 at *
          refine E_region (S := (fun W => W.cell? ⟨g6, 0, none⟩ = some (.string s.name) ∧ W.cell? ⟨g6, 1, none⟩ = some (.string s.action) ∧ W.cell? ⟨g6, 2, none⟩ = some (.string s.undo) ∧ W.cell? ⟨g6, 3, none⟩ = some (.slice aa1 s.after.length ac1) ∧ W.cell? ⟨g6, 4, none⟩ = some (.int .i64 s.most) ∧ W.cell? ⟨g6, 5, none⟩ = some (.int .i64 s.first) ∧ W.cell? ⟨g6, 6, none⟩ = some (.int .i64 s.factor) ∧ W.cell? ⟨g6, 7, none⟩ = some (.int .i64 s.limit) ∧ W.cell? ⟨g6, 8, none⟩ = some (.int .u8 (s.note.kind : Int)) ∧ W.cell? ⟨g6, 9, none⟩ = some (.string s.note.text) ∧ W.cell? ⟨g6, 10, none⟩ = some (.slice ka1 s.note.keys.length kc1) ∧ W.cell? ⟨g6, 11, none⟩ = some (.slice ba1 s.note.kids.length bc1) ∧ W.cell? ⟨g6, 12, none⟩ = some (.int .i64 s.note.line) ∧ W.cell? ⟨g7, 0, none⟩ = some (.string t.name) ∧ W.cell? ⟨g7, 1, none⟩ = some (.string t.action) ∧ W.cell? ⟨g7, 2, none⟩ = some (.string t.undo) ∧ W.cell? ⟨g7, 3, none⟩ = some (.slice aa2 t.after.length ac2) ∧ W.cell? ⟨g7, 4, none⟩ = some (.int .i64 t.most) ∧ W.cell? ⟨g7, 5, none⟩ = some (.int .i64 t.first) ∧ W.cell? ⟨g7, 6, none⟩ = some (.int .i64 t.factor) ∧ W.cell? ⟨g7, 7, none⟩ = some (.int .i64 t.limit) ∧ W.cell? ⟨g7, 8, none⟩ = some (.int .u8 (t.note.kind : Int)) ∧ W.cell? ⟨g7, 9, none⟩ = some (.string t.note.text) ∧ W.cell? ⟨g7, 10, none⟩ = some (.slice ka2 t.note.keys.length kc2) ∧ W.cell? ⟨g7, 11, none⟩ = some (.slice ba2 t.note.kids.length bc2) ∧ W.cell? ⟨g7, 12, none⟩ = some (.int .i64 t.note.line))) 39 (by kernel_rfl) ⟨z0, z1, z2, z3, z4, z5, z6, z7, z8, z9, z10, z11, z12, y0, y1, y2, y3, y4, y5, y6, y7, y8, y9, y10, y11, y12⟩ (fun _ _ _ _ _ h => h) (fun Q' hQ hK' hHeld => ?_)
          refine E_take0 hQ (fun _ => hHeld) 0 (v := ?zv1) rfl rfl (by kernel_rfl) (by kernel_rfl) (by kernel_rfl) (by decide) (by rfl) ?zy1 ?zr1
          case zy1 => (intro w; go_simp; (try with_reducible rfl))
          (try simp only [Act.put, List.setIfInBounds_toArray, List.set_cons_zero, List.set_cons_succ])
          refine E_take hQ hHeld 1 (v := ?zv2) rfl rfl (by kernel_rfl) (by kernel_rfl) (by kernel_rfl) (by kernel_rfl) (by kernel_rfl) (by rfl) ?zy2 ?zr2
          case zy2 => (intro w hSw; (try dsimp only at hSw); go_simp; (try with_reducible rfl))
          (try simp only [Act.put, List.setIfInBounds_toArray, List.set_cons_zero, List.set_cons_succ])
          refine E_take0 hQ (fun _ => hHeld) 2 (v := ?zv3) rfl rfl (by kernel_rfl) (by kernel_rfl) (by kernel_rfl) (by decide) (by rfl) ?zy3 ?zr3
          case zy3 => (intro w; go_simp; (try with_reducible rfl))
          (try simp only [Act.put, List.setIfInBounds_toArray, List.set_cons_zero, List.set_cons_succ])
          refine E_take hQ hHeld 3 (v := ?zv4) rfl rfl (by kernel_rfl) (by kernel_rfl) (by kernel_rfl) (by kernel_rfl) (by kernel_rfl) (by rfl) ?zy4 ?zr4
          case zy4 => (intro w hSw; (try dsimp only at hSw); go_simp; (try with_reducible rfl))
          (try simp only [Act.put, List.setIfInBounds_toArray, List.set_cons_zero, List.set_cons_succ])
          refine E_take0 hQ (fun _ => hHeld) 4 (v := ?zv5) rfl rfl (by kernel_rfl) (by kernel_rfl) (by kernel_rfl) (by decide) (by rfl) ?zy5 ?zr5
          case zy5 => (intro w; go_simp; (try with_reducible rfl))
          (try simp only [Act.put, List.setIfInBounds_toArray, List.set_cons_zero, List.set_cons_succ])
          refine E_take0 hQ (fun _ => hHeld) 5 (v := ?zv6) rfl rfl (by kernel_rfl) (by kernel_rfl) (by kernel_rfl) (by decide) (by rfl) ?zy6 ?zr6
          case zy6 => (intro w; go_simp; (try with_reducible rfl))
          (try simp only [Act.put, List.setIfInBounds_toArray, List.set_cons_zero, List.set_cons_succ])
          refine E_take hQ hHeld 6 (v := ?zv7) rfl rfl (by kernel_rfl) (by kernel_rfl) (by kernel_rfl) (by kernel_rfl) (by kernel_rfl) (by rfl) ?zy7 ?zr7
          case zy7 => (intro w hSw; (try dsimp only at hSw); go_simp; (try with_reducible rfl))
          (try simp only [Act.put, List.setIfInBounds_toArray, List.set_cons_zero, List.set_cons_succ])
          refine E_take0 hQ (fun _ => hHeld) 7 (v := ?zv8) rfl rfl (by kernel_rfl) (by kernel_rfl) (by kernel_rfl) (by decide) (by rfl) ?zy8 ?zr8
          case zy8 => (intro w; go_simp; (try with_reducible rfl))
          (try simp only [Act.put, List.setIfInBounds_toArray, List.set_cons_zero, List.set_cons_succ])
          refine E_take hQ hHeld 8 (v := ?zv9) rfl rfl (by kernel_rfl) (by kernel_rfl) (by kernel_rfl) (by kernel_rfl) (by kernel_rfl) (by rfl) ?zy9 ?zr9
          case zy9 => (intro w hSw; (try dsimp only at hSw); go_simp; (try with_reducible rfl))
          (try simp only [Act.put, List.setIfInBounds_toArray, List.set_cons_zero, List.set_cons_succ])
          refine E_take0 hQ (fun _ => hHeld) 9 (v := ?zv10) rfl rfl (by kernel_rfl) (by kernel_rfl) (by kernel_rfl) (by decide) (by rfl) ?zy10 ?zr10
          case zy10 => (intro w; go_simp; (try with_reducible rfl))
          (try simp only [Act.put, List.setIfInBounds_toArray, List.set_cons_zero, List.set_cons_succ])
          refine E_take0 hQ (fun _ => hHeld) 10 (v := ?zv11) rfl rfl (by kernel_rfl) (by kernel_rfl) (by kernel_rfl) (by decide) (by rfl) ?zy11 ?zr11
          case zy11 => (intro w; go_simp; (try with_reducible rfl))
          (try simp only [Act.put, List.setIfInBounds_toArray, List.set_cons_zero, List.set_cons_succ])
          refine E_take hQ hHeld 11 (v := ?zv12) rfl rfl (by kernel_rfl) (by kernel_rfl) (by kernel_rfl) (by kernel_rfl) (by kernel_rfl) (by rfl) ?zy12 ?zr12
          case zy12 => (intro w hSw; (try dsimp only at hSw); go_simp; (try with_reducible rfl))
          (try simp only [Act.put, List.setIfInBounds_toArray, List.set_cons_zero, List.set_cons_succ])
          refine E_take0 hQ (fun _ => hHeld) 12 (v := ?zv13) rfl rfl (by kernel_rfl) (by kernel_rfl) (by kernel_rfl) (by decide) (by rfl) ?zy13 ?zr13
          case zy13 => (intro w; go_simp; (try with_reducible rfl))
          (try simp only [Act.put, List.setIfInBounds_toArray, List.set_cons_zero, List.set_cons_succ])
          refine E_take hQ hHeld 13 (v := ?zv14) rfl rfl (by kernel_rfl) (by kernel_rfl) (by kernel_rfl) (by kernel_rfl) (by kernel_rfl) (by rfl) ?zy14 ?zr14
          case zy14 => (intro w hSw; (try dsimp only at hSw); go_simp; (try with_reducible rfl))
          (try simp only [Act.put, List.setIfInBounds_toArray, List.set_cons_zero, List.set_cons_succ])
          refine E_take0 hQ (fun _ => hHeld) 14 (v := ?zv15) rfl rfl (by kernel_rfl) (by kernel_rfl) (by kernel_rfl) (by decide) (by rfl) ?zy15 ?zr15
          case zy15 => (intro w; go_simp; (try with_reducible rfl))
          (try simp only [Act.put, List.setIfInBounds_toArray, List.set_cons_zero, List.set_cons_succ])
          refine E_take0 hQ (fun _ => hHeld) 15 (v := ?zv16) rfl rfl (by kernel_rfl) (by kernel_rfl) (by kernel_rfl) (by decide) (by rfl) ?zy16 ?zr16
          case zy16 => (intro w; go_simp; (try with_reducible rfl))
          (try simp only [Act.put, List.setIfInBounds_toArray, List.set_cons_zero, List.set_cons_succ])
          refine E_take hQ hHeld 16 (v := ?zv17) rfl rfl (by kernel_rfl) (by kernel_rfl) (by kernel_rfl) (by kernel_rfl) (by kernel_rfl) (by rfl) ?zy17 ?zr17
          case zy17 => (intro w hSw; (try dsimp only at hSw); go_simp; (try with_reducible rfl))
          (try simp only [Act.put, List.setIfInBounds_toArray, List.set_cons_zero, List.set_cons_succ])
          refine E_take0 hQ (fun _ => hHeld) 17 (v := ?zv18) rfl rfl (by kernel_rfl) (by kernel_rfl) (by kernel_rfl) (by decide) (by rfl) ?zy18 ?zr18
          case zy18 => (intro w; go_simp; (try with_reducible rfl))
          (try simp only [Act.put, List.setIfInBounds_toArray, List.set_cons_zero, List.set_cons_succ])
          refine E_take hQ hHeld 18 (v := ?zv19) rfl rfl (by kernel_rfl) (by kernel_rfl) (by kernel_rfl) (by kernel_rfl) (by kernel_rfl) (by rfl) ?zy19 ?zr19
          case zy19 => (intro w hSw; (try dsimp only at hSw); go_simp; (try with_reducible rfl))
          (try simp only [Act.put, List.setIfInBounds_toArray, List.set_cons_zero, List.set_cons_succ])
          refine E_take0 hQ (fun _ => hHeld) 21 (v := ?zv20) rfl rfl (by kernel_rfl) (by kernel_rfl) (by kernel_rfl) (by decide) (by rfl) ?zy20 ?zr20
          case zy20 => (intro w; go_simp; (try with_reducible rfl))
          (try simp only [Act.put, List.setIfInBounds_toArray, List.set_cons_zero, List.set_cons_succ])
          refine E_take hQ hHeld 22 (v := ?zv21) rfl rfl (by kernel_rfl) (by kernel_rfl) (by kernel_rfl) (by kernel_rfl) (by kernel_rfl) (by rfl) ?zy21 ?zr21
          case zy21 => (intro w hSw; (try dsimp only at hSw); go_simp; (try with_reducible rfl))
          (try simp only [Act.put, List.setIfInBounds_toArray, List.set_cons_zero, List.set_cons_succ])
          refine E_take0 hQ (fun _ => hHeld) 23 (v := ?zv22) rfl rfl (by kernel_rfl) (by kernel_rfl) (by kernel_rfl) (by decide) (by rfl) ?zy22 ?zr22
          case zy22 => (intro w; go_simp; (try with_reducible rfl))
          (try simp only [Act.put, List.setIfInBounds_toArray, List.set_cons_zero, List.set_cons_succ])
          refine E_take hQ hHeld 24 (v := ?zv23) rfl rfl (by kernel_rfl) (by kernel_rfl) (by kernel_rfl) (by kernel_rfl) (by kernel_rfl) (by rfl) ?zy23 ?zr23
          case zy23 => (intro w hSw; (try dsimp only at hSw); go_simp; (try with_reducible rfl))
          (try simp only [Act.put, List.setIfInBounds_toArray, List.set_cons_zero, List.set_cons_succ])
          refine E_take0 hQ (fun _ => hHeld) 25 (v := ?zv24) rfl rfl (by kernel_rfl) (by kernel_rfl) (by kernel_rfl) (by decide) (by rfl) ?zy24 ?zr24
          case zy24 => (intro w; go_simp; (rw [ifs3n, hx4]))
          (try simp only [Act.put, List.setIfInBounds_toArray, List.set_cons_zero, List.set_cons_succ])
          refine E_take0 hQ (fun _ => hHeld) 26 (v := ?zv25) rfl rfl (by kernel_rfl) (by kernel_rfl) (by kernel_rfl) (by decide) (by rfl) ?zy25 ?zr25
          case zy25 => (intro w; go_simp; (try with_reducible rfl))
          (try simp only [Act.put, List.setIfInBounds_toArray, List.set_cons_zero, List.set_cons_succ])
          refine E_take hQ hHeld 27 (v := ?zv26) rfl rfl (by kernel_rfl) (by kernel_rfl) (by kernel_rfl) (by kernel_rfl) (by kernel_rfl) (by rfl) ?zy26 ?zr26
          case zy26 => (intro w hSw; (try dsimp only at hSw); go_simp; (try with_reducible rfl))
          (try simp only [Act.put, List.setIfInBounds_toArray, List.set_cons_zero, List.set_cons_succ])
          refine E_take0 hQ (fun _ => hHeld) 28 (v := ?zv27) rfl rfl (by kernel_rfl) (by kernel_rfl) (by kernel_rfl) (by decide) (by rfl) ?zy27 ?zr27
          case zy27 => (intro w; go_simp; (try with_reducible rfl))
          (try simp only [Act.put, List.setIfInBounds_toArray, List.set_cons_zero, List.set_cons_succ])
          refine E_take hQ hHeld 29 (v := ?zv28) rfl rfl (by kernel_rfl) (by kernel_rfl) (by kernel_rfl) (by kernel_rfl) (by kernel_rfl) (by rfl) ?zy28 ?zr28
          case zy28 => (intro w hSw; (try dsimp only at hSw); go_simp; (try with_reducible rfl))
          (try simp only [Act.put, List.setIfInBounds_toArray, List.set_cons_zero, List.set_cons_succ])
          refine E_take0 hQ (fun _ => hHeld) 30 (v := ?zv29) rfl rfl (by kernel_rfl) (by kernel_rfl) (by kernel_rfl) (by decide) (by rfl) ?zy29 ?zr29
          case zy29 => (intro w; go_simp; (try with_reducible rfl))
          (try simp only [Act.put, List.setIfInBounds_toArray, List.set_cons_zero, List.set_cons_succ])
          refine E_take0 hQ (fun _ => hHeld) 31 (v := ?zv30) rfl rfl (by kernel_rfl) (by kernel_rfl) (by kernel_rfl) (by decide) (by rfl) ?zy30 ?zr30
          case zy30 => (intro w; go_simp; (try with_reducible rfl))
          (try simp only [Act.put, List.setIfInBounds_toArray, List.set_cons_zero, List.set_cons_succ])
          refine E_take hQ hHeld 32 (v := ?zv31) rfl rfl (by kernel_rfl) (by kernel_rfl) (by kernel_rfl) (by kernel_rfl) (by kernel_rfl) (by rfl) ?zy31 ?zr31
          case zy31 => (intro w hSw; (try dsimp only at hSw); go_simp; (try with_reducible rfl))
          (try simp only [Act.put, List.setIfInBounds_toArray, List.set_cons_zero, List.set_cons_succ])
          refine E_take0 hQ (fun _ => hHeld) 33 (v := ?zv32) rfl rfl (by kernel_rfl) (by kernel_rfl) (by kernel_rfl) (by decide) (by rfl) ?zy32 ?zr32
          case zy32 => (intro w; go_simp; (try with_reducible rfl))
          (try simp only [Act.put, List.setIfInBounds_toArray, List.set_cons_zero, List.set_cons_succ])
          refine E_take hQ hHeld 34 (v := ?zv33) rfl rfl (by kernel_rfl) (by kernel_rfl) (by kernel_rfl) (by kernel_rfl) (by kernel_rfl) (by rfl) ?zy33 ?zr33
          case zy33 => (intro w hSw; (try dsimp only at hSw); go_simp; (try with_reducible rfl))
          (try simp only [Act.put, List.setIfInBounds_toArray, List.set_cons_zero, List.set_cons_succ])
          have HY0 : Hid (Below wy.heap.size wy wy.drew) := Lib.hid ((Below.refl _ _).drew)
          generalize wy.drew = wn0 at *
          refine E_two 19 38 (by kernel_rfl) rfl rfl (by rfl) (by rfl) (fun K hK => ?_) (fun K hK => ?_)
          · go_simp
            refine (Texts_any s.after t.after _ _ _ (HVA.out.below HY0.out) (HVB.out.below HY0.out)).mono ?_
            rintro e wn1 ⟨rfl, hb⟩
            have HD1 := Lib.hid hb
            have HY1 := Lib.hid (bthen HY0.out (Nat.le_refl _) hb)
            clear hb
            refine hK.out _ _ (fun _ _ => ⟨cellB HD1.out hHeld.1, cellB HD1.out hHeld.2.1, cellB HD1.out hHeld.2.2.1, cellB HD1.out hHeld.2.2.2.1, cellB HD1.out hHeld.2.2.2.2.1, cellB HD1.out hHeld.2.2.2.2.2.1, cellB HD1.out hHeld.2.2.2.2.2.2.1, cellB HD1.out hHeld.2.2.2.2.2.2.2.1, cellB HD1.out hHeld.2.2.2.2.2.2.2.2.1, cellB HD1.out hHeld.2.2.2.2.2.2.2.2.2.1, cellB HD1.out hHeld.2.2.2.2.2.2.2.2.2.2.1, cellB HD1.out hHeld.2.2.2.2.2.2.2.2.2.2.2.1, cellB HD1.out hHeld.2.2.2.2.2.2.2.2.2.2.2.2.1, cellB HD1.out hHeld.2.2.2.2.2.2.2.2.2.2.2.2.2.1, cellB HD1.out hHeld.2.2.2.2.2.2.2.2.2.2.2.2.2.2.1, cellB HD1.out hHeld.2.2.2.2.2.2.2.2.2.2.2.2.2.2.2.1, cellB HD1.out hHeld.2.2.2.2.2.2.2.2.2.2.2.2.2.2.2.2.1, cellB HD1.out hHeld.2.2.2.2.2.2.2.2.2.2.2.2.2.2.2.2.2.1, cellB HD1.out hHeld.2.2.2.2.2.2.2.2.2.2.2.2.2.2.2.2.2.2.1, cellB HD1.out hHeld.2.2.2.2.2.2.2.2.2.2.2.2.2.2.2.2.2.2.2.1, cellB HD1.out hHeld.2.2.2.2.2.2.2.2.2.2.2.2.2.2.2.2.2.2.2.2.1, cellB HD1.out hHeld.2.2.2.2.2.2.2.2.2.2.2.2.2.2.2.2.2.2.2.2.2.1, cellB HD1.out hHeld.2.2.2.2.2.2.2.2.2.2.2.2.2.2.2.2.2.2.2.2.2.2.1, cellB HD1.out hHeld.2.2.2.2.2.2.2.2.2.2.2.2.2.2.2.2.2.2.2.2.2.2.2.1, cellB HD1.out hHeld.2.2.2.2.2.2.2.2.2.2.2.2.2.2.2.2.2.2.2.2.2.2.2.2.1, cellB HD1.out hHeld.2.2.2.2.2.2.2.2.2.2.2.2.2.2.2.2.2.2.2.2.2.2.2.2.2⟩) (fun hHeld' => ?_)
            replace hHeld := hHeld' (by rfl) (by decide)
            clear hK hHeld'
            (try simp only [Act.put, List.setIfInBounds_toArray, List.set_cons_zero, List.set_cons_succ])
            refine E_take0 hQ (fun _ => hHeld) 20 (v := ?zv34) rfl rfl (by kernel_rfl) (by kernel_rfl) (by kernel_rfl) (by decide) (by rfl) ?zy34 ?zr34
            case zy34 => (intro w; go_simp; (try with_reducible rfl))
            (try simp only [Act.put, List.setIfInBounds_toArray, List.set_cons_zero, List.set_cons_succ])
            refine E_two 35 38 (by kernel_rfl) rfl rfl (by rfl) (by rfl) (fun K hK => ?_) (fun K hK => ?_)
            · go_simp
              refine (rSameT_any s.note t.note _ _ _ (HNA.out.belowW HY1.out) (HNB.out.belowW HY1.out)).mono ?_
              rintro e wn2 ⟨rfl, hb⟩
              have HD2 := Lib.hid hb
              have HY2 := Lib.hid (bthen HY1.out (Nat.le_refl _) hb)
              clear hb
              refine hK.out _ _ (fun _ _ => ⟨cellB HD2.out hHeld.1, cellB HD2.out hHeld.2.1, cellB HD2.out hHeld.2.2.1, cellB HD2.out hHeld.2.2.2.1, cellB HD2.out hHeld.2.2.2.2.1, cellB HD2.out hHeld.2.2.2.2.2.1, cellB HD2.out hHeld.2.2.2.2.2.2.1, cellB HD2.out hHeld.2.2.2.2.2.2.2.1, cellB HD2.out hHeld.2.2.2.2.2.2.2.2.1, cellB HD2.out hHeld.2.2.2.2.2.2.2.2.2.1, cellB HD2.out hHeld.2.2.2.2.2.2.2.2.2.2.1, cellB HD2.out hHeld.2.2.2.2.2.2.2.2.2.2.2.1, cellB HD2.out hHeld.2.2.2.2.2.2.2.2.2.2.2.2.1, cellB HD2.out hHeld.2.2.2.2.2.2.2.2.2.2.2.2.2.1, cellB HD2.out hHeld.2.2.2.2.2.2.2.2.2.2.2.2.2.2.1, cellB HD2.out hHeld.2.2.2.2.2.2.2.2.2.2.2.2.2.2.2.1, cellB HD2.out hHeld.2.2.2.2.2.2.2.2.2.2.2.2.2.2.2.2.1, cellB HD2.out hHeld.2.2.2.2.2.2.2.2.2.2.2.2.2.2.2.2.2.1, cellB HD2.out hHeld.2.2.2.2.2.2.2.2.2.2.2.2.2.2.2.2.2.2.1, cellB HD2.out hHeld.2.2.2.2.2.2.2.2.2.2.2.2.2.2.2.2.2.2.2.1, cellB HD2.out hHeld.2.2.2.2.2.2.2.2.2.2.2.2.2.2.2.2.2.2.2.2.1, cellB HD2.out hHeld.2.2.2.2.2.2.2.2.2.2.2.2.2.2.2.2.2.2.2.2.2.1, cellB HD2.out hHeld.2.2.2.2.2.2.2.2.2.2.2.2.2.2.2.2.2.2.2.2.2.2.1, cellB HD2.out hHeld.2.2.2.2.2.2.2.2.2.2.2.2.2.2.2.2.2.2.2.2.2.2.2.1, cellB HD2.out hHeld.2.2.2.2.2.2.2.2.2.2.2.2.2.2.2.2.2.2.2.2.2.2.2.2.1, cellB HD2.out hHeld.2.2.2.2.2.2.2.2.2.2.2.2.2.2.2.2.2.2.2.2.2.2.2.2.2⟩) (fun hHeld' => ?_)
              replace hHeld := hHeld' (by rfl) (by decide)
              clear hK hHeld'
              (try simp only [Act.put, List.setIfInBounds_toArray, List.set_cons_zero, List.set_cons_succ])
              refine E_take0 hQ (fun _ => hHeld) 36 (v := ?zv35) rfl rfl (by kernel_rfl) (by kernel_rfl) (by kernel_rfl) (by decide) (by rfl) ?zy35 ?zr35
              case zy35 => (intro w; go_simp; (try with_reducible rfl))
              (try simp only [Act.put, List.setIfInBounds_toArray, List.set_cons_zero, List.set_cons_succ])
              refine E_take0 hQ (fun _ => hHeld) 37 (v := ?zv36) rfl rfl (by kernel_rfl) (by kernel_rfl) (by kernel_rfl) (by decide) (by rfl) ?zy36 ?zr36
              case zy36 => (intro w; go_simp; (try with_reducible rfl))
              (try simp only [Act.put, List.setIfInBounds_toArray, List.set_cons_zero, List.set_cons_succ])
              refine E_one 38 (by kernel_rfl) rfl (by rfl) (fun K hK => ?_)
              go_simp
              have hb : Below wn2.heap.size wn2 (wn2.alloc (.cells #[.bool false, .bool false, .bool false, .bool false, .bool false, .bool false, .bool false] 103)) := (Below.refl _ _).alloc (Nat.le_refl _) _
              have FT3 := Lib.hid (World.alloc_heap_new wn2 (.cells #[.bool false, .bool false, .bool false, .bool false, .bool false, .bool false, .bool false] 103))
              have HL3 : wy.heap.size ≤ wn2.heap.size := HY2.out.size
              have HD3 := Lib.hid hb
              have HY3 := Lib.hid (bthen HY2.out (Nat.le_refl _) hb)
              clear hb
              (try simp only [Act.put, List.setIfInBounds_toArray, List.set_cons_zero, List.set_cons_succ])
              refine hK.out _ _ (fun _ _ => ⟨cellB HD3.out hHeld.1, cellB HD3.out hHeld.2.1, cellB HD3.out hHeld.2.2.1, cellB HD3.out hHeld.2.2.2.1, cellB HD3.out hHeld.2.2.2.2.1, cellB HD3.out hHeld.2.2.2.2.2.1, cellB HD3.out hHeld.2.2.2.2.2.2.1, cellB HD3.out hHeld.2.2.2.2.2.2.2.1, cellB HD3.out hHeld.2.2.2.2.2.2.2.2.1, cellB HD3.out hHeld.2.2.2.2.2.2.2.2.2.1, cellB HD3.out hHeld.2.2.2.2.2.2.2.2.2.2.1, cellB HD3.out hHeld.2.2.2.2.2.2.2.2.2.2.2.1, cellB HD3.out hHeld.2.2.2.2.2.2.2.2.2.2.2.2.1, cellB HD3.out hHeld.2.2.2.2.2.2.2.2.2.2.2.2.2.1, cellB HD3.out hHeld.2.2.2.2.2.2.2.2.2.2.2.2.2.2.1, cellB HD3.out hHeld.2.2.2.2.2.2.2.2.2.2.2.2.2.2.2.1, cellB HD3.out hHeld.2.2.2.2.2.2.2.2.2.2.2.2.2.2.2.2.1, cellB HD3.out hHeld.2.2.2.2.2.2.2.2.2.2.2.2.2.2.2.2.2.1, cellB HD3.out hHeld.2.2.2.2.2.2.2.2.2.2.2.2.2.2.2.2.2.2.1, cellB HD3.out hHeld.2.2.2.2.2.2.2.2.2.2.2.2.2.2.2.2.2.2.2.1, cellB HD3.out hHeld.2.2.2.2.2.2.2.2.2.2.2.2.2.2.2.2.2.2.2.2.1, cellB HD3.out hHeld.2.2.2.2.2.2.2.2.2.2.2.2.2.2.2.2.2.2.2.2.2.1, cellB HD3.out hHeld.2.2.2.2.2.2.2.2.2.2.2.2.2.2.2.2.2.2.2.2.2.2.1, cellB HD3.out hHeld.2.2.2.2.2.2.2.2.2.2.2.2.2.2.2.2.2.2.2.2.2.2.2.1, cellB HD3.out hHeld.2.2.2.2.2.2.2.2.2.2.2.2.2.2.2.2.2.2.2.2.2.2.2.2.1, cellB HD3.out hHeld.2.2.2.2.2.2.2.2.2.2.2.2.2.2.2.2.2.2.2.2.2.2.2.2.2⟩) (fun hHeld' => ?_)
              replace hHeld := hHeld' (by rfl) (by decide)
              clear hK hHeld'
              (try simp only [Act.put, List.setIfInBounds_toArray, List.set_cons_zero, List.set_cons_succ])
              generalize wn2.alloc (.cells #[.bool false, .bool false, .bool false, .bool false, .bool false, .bool false, .bool false] 103) = wn3 at *
              generalize wn2.heap.size = T3 at *
              have hset := set7 (x0 := .bool (!x0)) (x1 := .bool (!x1)) (x2 := .bool (!x2)) (x3 := .bool (!x3)) (x4 := .bool (!x4)) (x5 := .bool (!x5)) (x6 := .bool (!x6)) FT3.out
              have hbel := set7_below (x0 := .bool (!x0)) (x1 := .bool (!x1)) (x2 := .bool (!x2)) (x3 := .bool (!x3)) (x4 := .bool (!x4)) (x5 := .bool (!x5)) (x6 := .bool (!x6)) HY3.out (B := T3) HL3
              obtain ⟨u0a, u1a, u2a, u3a, u4a, u5a, u6a, f0a, f1a, f2a, f3a, f4a, f5a, f6a⟩ := cells7 FT3.out
              refine E_one 39 (by kernel_rfl) rfl (by rfl) (fun K hK => ?_)
              go_simp
              (try simp only [Act.put, List.setIfInBounds_toArray, List.set_cons_zero, List.set_cons_succ])
              refine hK.out _ _ (fun _ h => absurd rfl h) (fun _ => ?_)
              clear hK hHeld
              (try simp only [Act.put, List.setIfInBounds_toArray, List.set_cons_zero, List.set_cons_succ])
              refine E_done (by kernel_rfl) ?_ _
              refine hK'.out _ _ ?_
              clear u0a f0a u1a f1a u2a f2a u3a f3a u4a f4a u5a f5a u6a f6a
              go_wp2_with fail
              go_meet
              exact ⟨T3, rfl, hset, hbel⟩
            · go_simp
              have hb : Below wn1.heap.size wn1 (wn1.alloc (.cells #[.bool false, .bool false, .bool false, .bool false, .bool false, .bool false, .bool false] 103)) := (Below.refl _ _).alloc (Nat.le_refl _) _
              have FT4 := Lib.hid (World.alloc_heap_new wn1 (.cells #[.bool false, .bool false, .bool false, .bool false, .bool false, .bool false, .bool false] 103))
              have HL4 : wy.heap.size ≤ wn1.heap.size := HY1.out.size
              have HD4 := Lib.hid hb
              have HY4 := Lib.hid (bthen HY1.out (Nat.le_refl _) hb)
              clear hb
              (try simp only [Act.put, List.setIfInBounds_toArray, List.set_cons_zero, List.set_cons_succ])
              refine hK.out _ _ (fun _ _ => ⟨cellB HD4.out hHeld.1, cellB HD4.out hHeld.2.1, cellB HD4.out hHeld.2.2.1, cellB HD4.out hHeld.2.2.2.1, cellB HD4.out hHeld.2.2.2.2.1, cellB HD4.out hHeld.2.2.2.2.2.1, cellB HD4.out hHeld.2.2.2.2.2.2.1, cellB HD4.out hHeld.2.2.2.2.2.2.2.1, cellB HD4.out hHeld.2.2.2.2.2.2.2.2.1, cellB HD4.out hHeld.2.2.2.2.2.2.2.2.2.1, cellB HD4.out hHeld.2.2.2.2.2.2.2.2.2.2.1, cellB HD4.out hHeld.2.2.2.2.2.2.2.2.2.2.2.1, cellB HD4.out hHeld.2.2.2.2.2.2.2.2.2.2.2.2.1, cellB HD4.out hHeld.2.2.2.2.2.2.2.2.2.2.2.2.2.1, cellB HD4.out hHeld.2.2.2.2.2.2.2.2.2.2.2.2.2.2.1, cellB HD4.out hHeld.2.2.2.2.2.2.2.2.2.2.2.2.2.2.2.1, cellB HD4.out hHeld.2.2.2.2.2.2.2.2.2.2.2.2.2.2.2.2.1, cellB HD4.out hHeld.2.2.2.2.2.2.2.2.2.2.2.2.2.2.2.2.2.1, cellB HD4.out hHeld.2.2.2.2.2.2.2.2.2.2.2.2.2.2.2.2.2.2.1, cellB HD4.out hHeld.2.2.2.2.2.2.2.2.2.2.2.2.2.2.2.2.2.2.2.1, cellB HD4.out hHeld.2.2.2.2.2.2.2.2.2.2.2.2.2.2.2.2.2.2.2.2.1, cellB HD4.out hHeld.2.2.2.2.2.2.2.2.2.2.2.2.2.2.2.2.2.2.2.2.2.1, cellB HD4.out hHeld.2.2.2.2.2.2.2.2.2.2.2.2.2.2.2.2.2.2.2.2.2.2.1, cellB HD4.out hHeld.2.2.2.2.2.2.2.2.2.2.2.2.2.2.2.2.2.2.2.2.2.2.2.1, cellB HD4.out hHeld.2.2.2.2.2.2.2.2.2.2.2.2.2.2.2.2.2.2.2.2.2.2.2.2.1, cellB HD4.out hHeld.2.2.2.2.2.2.2.2.2.2.2.2.2.2.2.2.2.2.2.2.2.2.2.2.2⟩) (fun hHeld' => ?_)
              replace hHeld := hHeld' (by rfl) (by decide)
              clear hK hHeld'
              (try simp only [Act.put, List.setIfInBounds_toArray, List.set_cons_zero, List.set_cons_succ])
              generalize wn1.alloc (.cells #[.bool false, .bool false, .bool false, .bool false, .bool false, .bool false, .bool false] 103) = wn4 at *
              generalize wn1.heap.size = T4 at *
              refine E_one 35 (by kernel_rfl) rfl (by rfl) (fun K hK => ?_)
              go_simp
              refine (rSameT_any s.note t.note _ _ _ (HNA.out.belowW HY4.out) (HNB.out.belowW HY4.out)).mono ?_
              rintro e wn5 ⟨rfl, hb⟩
              have FT5 := Lib.hid ((hb.block _ (Array.getElem?_eq_some_iff.1 FT4.out).1).trans FT4.out)
              have HD5 := Lib.hid hb
              have HY5 := Lib.hid (bthen HY4.out (Nat.le_refl _) hb)
              clear hb
              refine hK.out _ _ (fun _ _ => ⟨cellB HD5.out hHeld.1, cellB HD5.out hHeld.2.1, cellB HD5.out hHeld.2.2.1, cellB HD5.out hHeld.2.2.2.1, cellB HD5.out hHeld.2.2.2.2.1, cellB HD5.out hHeld.2.2.2.2.2.1, cellB HD5.out hHeld.2.2.2.2.2.2.1, cellB HD5.out hHeld.2.2.2.2.2.2.2.1, cellB HD5.out hHeld.2.2.2.2.2.2.2.2.1, cellB HD5.out hHeld.2.2.2.2.2.2.2.2.2.1, cellB HD5.out hHeld.2.2.2.2.2.2.2.2.2.2.1, cellB HD5.out hHeld.2.2.2.2.2.2.2.2.2.2.2.1, cellB HD5.out hHeld.2.2.2.2.2.2.2.2.2.2.2.2.1, cellB HD5.out hHeld.2.2.2.2.2.2.2.2.2.2.2.2.2.1, cellB HD5.out hHeld.2.2.2.2.2.2.2.2.2.2.2.2.2.2.1, cellB HD5.out hHeld.2.2.2.2.2.2.2.2.2.2.2.2.2.2.2.1, cellB HD5.out hHeld.2.2.2.2.2.2.2.2.2.2.2.2.2.2.2.2.1, cellB HD5.out hHeld.2.2.2.2.2.2.2.2.2.2.2.2.2.2.2.2.2.1, cellB HD5.out hHeld.2.2.2.2.2.2.2.2.2.2.2.2.2.2.2.2.2.2.1, cellB HD5.out hHeld.2.2.2.2.2.2.2.2.2.2.2.2.2.2.2.2.2.2.2.1, cellB HD5.out hHeld.2.2.2.2.2.2.2.2.2.2.2.2.2.2.2.2.2.2.2.2.1, cellB HD5.out hHeld.2.2.2.2.2.2.2.2.2.2.2.2.2.2.2.2.2.2.2.2.2.1, cellB HD5.out hHeld.2.2.2.2.2.2.2.2.2.2.2.2.2.2.2.2.2.2.2.2.2.2.1, cellB HD5.out hHeld.2.2.2.2.2.2.2.2.2.2.2.2.2.2.2.2.2.2.2.2.2.2.2.1, cellB HD5.out hHeld.2.2.2.2.2.2.2.2.2.2.2.2.2.2.2.2.2.2.2.2.2.2.2.2.1, cellB HD5.out hHeld.2.2.2.2.2.2.2.2.2.2.2.2.2.2.2.2.2.2.2.2.2.2.2.2.2⟩) (fun hHeld' => ?_)
              replace hHeld := hHeld' (by rfl) (by decide)
              clear hK hHeld'
              (try simp only [Act.put, List.setIfInBounds_toArray, List.set_cons_zero, List.set_cons_succ])
              refine E_take0 hQ (fun _ => hHeld) 36 (v := ?zv37) rfl rfl (by kernel_rfl) (by kernel_rfl) (by kernel_rfl) (by decide) (by rfl) ?zy37 ?zr37
              case zy37 => (intro w; go_simp; (try with_reducible rfl))
              (try simp only [Act.put, List.setIfInBounds_toArray, List.set_cons_zero, List.set_cons_succ])
              refine E_take0 hQ (fun _ => hHeld) 37 (v := ?zv38) rfl rfl (by kernel_rfl) (by kernel_rfl) (by kernel_rfl) (by decide) (by rfl) ?zy38 ?zr38
              case zy38 => (intro w; go_simp; (try with_reducible rfl))
              (try simp only [Act.put, List.setIfInBounds_toArray, List.set_cons_zero, List.set_cons_succ])
              have hset := set7 (x0 := .bool (!x0)) (x1 := .bool (!x1)) (x2 := .bool (!x2)) (x3 := .bool (!x3)) (x4 := .bool (!x4)) (x5 := .bool (!x5)) (x6 := .bool (!x6)) FT5.out
              have hbel := set7_below (x0 := .bool (!x0)) (x1 := .bool (!x1)) (x2 := .bool (!x2)) (x3 := .bool (!x3)) (x4 := .bool (!x4)) (x5 := .bool (!x5)) (x6 := .bool (!x6)) HY5.out (B := T4) HL4
              obtain ⟨u0a, u1a, u2a, u3a, u4a, u5a, u6a, f0a, f1a, f2a, f3a, f4a, f5a, f6a⟩ := cells7 FT5.out
              refine E_one 39 (by kernel_rfl) rfl (by rfl) (fun K hK => ?_)
              go_simp
              (try simp only [Act.put, List.setIfInBounds_toArray, List.set_cons_zero, List.set_cons_succ])
              refine hK.out _ _ (fun _ h => absurd rfl h) (fun _ => ?_)
              clear hK hHeld
              (try simp only [Act.put, List.setIfInBounds_toArray, List.set_cons_zero, List.set_cons_succ])
              refine E_done (by kernel_rfl) ?_ _
              refine hK'.out _ _ ?_
              clear u0a f0a u1a f1a u2a f2a u3a f3a u4a f4a u5a f5a u6a f6a
              go_wp2_with fail
              go_meet
              exact ⟨T4, rfl, hset, hbel⟩
          · go_simp
            have hb : Below wn0.heap.size wn0 (wn0.alloc (.cells #[.bool false, .bool false, .bool false, .bool false, .bool false, .bool false, .bool false] 103)) := (Below.refl _ _).alloc (Nat.le_refl _) _
            have FT6 := Lib.hid (World.alloc_heap_new wn0 (.cells #[.bool false, .bool false, .bool false, .bool false, .bool false, .bool false, .bool false] 103))
            have HL6 : wy.heap.size ≤ wn0.heap.size := HY0.out.size
            have HD6 := Lib.hid hb
            have HY6 := Lib.hid (bthen HY0.out (Nat.le_refl _) hb)
            clear hb
            (try simp only [Act.put, List.setIfInBounds_toArray, List.set_cons_zero, List.set_cons_succ])
            refine hK.out _ _ (fun _ _ => ⟨cellB HD6.out hHeld.1, cellB HD6.out hHeld.2.1, cellB HD6.out hHeld.2.2.1, cellB HD6.out hHeld.2.2.2.1, cellB HD6.out hHeld.2.2.2.2.1, cellB HD6.out hHeld.2.2.2.2.2.1, cellB HD6.out hHeld.2.2.2.2.2.2.1, cellB HD6.out hHeld.2.2.2.2.2.2.2.1, cellB HD6.out hHeld.2.2.2.2.2.2.2.2.1, cellB HD6.out hHeld.2.2.2.2.2.2.2.2.2.1, cellB HD6.out hHeld.2.2.2.2.2.2.2.2.2.2.1, cellB HD6.out hHeld.2.2.2.2.2.2.2.2.2.2.2.1, cellB HD6.out hHeld.2.2.2.2.2.2.2.2.2.2.2.2.1, cellB HD6.out hHeld.2.2.2.2.2.2.2.2.2.2.2.2.2.1, cellB HD6.out hHeld.2.2.2.2.2.2.2.2.2.2.2.2.2.2.1, cellB HD6.out hHeld.2.2.2.2.2.2.2.2.2.2.2.2.2.2.2.1, cellB HD6.out hHeld.2.2.2.2.2.2.2.2.2.2.2.2.2.2.2.2.1, cellB HD6.out hHeld.2.2.2.2.2.2.2.2.2.2.2.2.2.2.2.2.2.1, cellB HD6.out hHeld.2.2.2.2.2.2.2.2.2.2.2.2.2.2.2.2.2.2.1, cellB HD6.out hHeld.2.2.2.2.2.2.2.2.2.2.2.2.2.2.2.2.2.2.2.1, cellB HD6.out hHeld.2.2.2.2.2.2.2.2.2.2.2.2.2.2.2.2.2.2.2.2.1, cellB HD6.out hHeld.2.2.2.2.2.2.2.2.2.2.2.2.2.2.2.2.2.2.2.2.2.1, cellB HD6.out hHeld.2.2.2.2.2.2.2.2.2.2.2.2.2.2.2.2.2.2.2.2.2.2.1, cellB HD6.out hHeld.2.2.2.2.2.2.2.2.2.2.2.2.2.2.2.2.2.2.2.2.2.2.2.1, cellB HD6.out hHeld.2.2.2.2.2.2.2.2.2.2.2.2.2.2.2.2.2.2.2.2.2.2.2.2.1, cellB HD6.out hHeld.2.2.2.2.2.2.2.2.2.2.2.2.2.2.2.2.2.2.2.2.2.2.2.2.2⟩) (fun hHeld' => ?_)
            replace hHeld := hHeld' (by rfl) (by decide)
            clear hK hHeld'
            (try simp only [Act.put, List.setIfInBounds_toArray, List.set_cons_zero, List.set_cons_succ])
            generalize wn0.alloc (.cells #[.bool false, .bool false, .bool false, .bool false, .bool false, .bool false, .bool false] 103) = wn6 at *
            generalize wn0.heap.size = T6 at *
            refine E_one 19 (by kernel_rfl) rfl (by rfl) (fun K hK => ?_)
            go_simp
            refine (Texts_any s.after t.after _ _ _ (HVA.out.below HY6.out) (HVB.out.below HY6.out)).mono ?_
            rintro e wn7 ⟨rfl, hb⟩
            have FT7 := Lib.hid ((hb.block _ (Array.getElem?_eq_some_iff.1 FT6.out).1).trans FT6.out)
            have HD7 := Lib.hid hb
            have HY7 := Lib.hid (bthen HY6.out (Nat.le_refl _) hb)
            clear hb
            refine hK.out _ _ (fun _ _ => ⟨cellB HD7.out hHeld.1, cellB HD7.out hHeld.2.1, cellB HD7.out hHeld.2.2.1, cellB HD7.out hHeld.2.2.2.1, cellB HD7.out hHeld.2.2.2.2.1, cellB HD7.out hHeld.2.2.2.2.2.1, cellB HD7.out hHeld.2.2.2.2.2.2.1, cellB HD7.out hHeld.2.2.2.2.2.2.2.1, cellB HD7.out hHeld.2.2.2.2.2.2.2.2.1, cellB HD7.out hHeld.2.2.2.2.2.2.2.2.2.1, cellB HD7.out hHeld.2.2.2.2.2.2.2.2.2.2.1, cellB HD7.out hHeld.2.2.2.2.2.2.2.2.2.2.2.1, cellB HD7.out hHeld.2.2.2.2.2.2.2.2.2.2.2.2.1, cellB HD7.out hHeld.2.2.2.2.2.2.2.2.2.2.2.2.2.1, cellB HD7.out hHeld.2.2.2.2.2.2.2.2.2.2.2.2.2.2.1, cellB HD7.out hHeld.2.2.2.2.2.2.2.2.2.2.2.2.2.2.2.1, cellB HD7.out hHeld.2.2.2.2.2.2.2.2.2.2.2.2.2.2.2.2.1, cellB HD7.out hHeld.2.2.2.2.2.2.2.2.2.2.2.2.2.2.2.2.2.1, cellB HD7.out hHeld.2.2.2.2.2.2.2.2.2.2.2.2.2.2.2.2.2.2.1, cellB HD7.out hHeld.2.2.2.2.2.2.2.2.2.2.2.2.2.2.2.2.2.2.2.1, cellB HD7.out hHeld.2.2.2.2.2.2.2.2.2.2.2.2.2.2.2.2.2.2.2.2.1, cellB HD7.out hHeld.2.2.2.2.2.2.2.2.2.2.2.2.2.2.2.2.2.2.2.2.2.1, cellB HD7.out hHeld.2.2.2.2.2.2.2.2.2.2.2.2.2.2.2.2.2.2.2.2.2.2.1, cellB HD7.out hHeld.2.2.2.2.2.2.2.2.2.2.2.2.2.2.2.2.2.2.2.2.2.2.2.1, cellB HD7.out hHeld.2.2.2.2.2.2.2.2.2.2.2.2.2.2.2.2.2.2.2.2.2.2.2.2.1, cellB HD7.out hHeld.2.2.2.2.2.2.2.2.2.2.2.2.2.2.2.2.2.2.2.2.2.2.2.2.2⟩) (fun hHeld' => ?_)
            replace hHeld := hHeld' (by rfl) (by decide)
            clear hK hHeld'
            (try simp only [Act.put, List.setIfInBounds_toArray, List.set_cons_zero, List.set_cons_succ])
            refine E_take0 hQ (fun _ => hHeld) 20 (v := ?zv39) rfl rfl (by kernel_rfl) (by kernel_rfl) (by kernel_rfl) (by decide) (by rfl) ?zy39 ?zr39
            case zy39 => (intro w; go_simp; (try with_reducible rfl))
            (try simp only [Act.put, List.setIfInBounds_toArray, List.set_cons_zero, List.set_cons_succ])
            refine E_one 35 (by kernel_rfl) rfl (by rfl) (fun K hK => ?_)
            go_simp
            refine (rSameT_any s.note t.note _ _ _ (HNA.out.belowW HY7.out) (HNB.out.belowW HY7.out)).mono ?_
            rintro e wn8 ⟨rfl, hb⟩
            have FT8 := Lib.hid ((hb.block _ (Array.getElem?_eq_some_iff.1 FT7.out).1).trans FT7.out)
            have HD8 := Lib.hid hb
            have HY8 := Lib.hid (bthen HY7.out (Nat.le_refl _) hb)
            clear hb
            refine hK.out _ _ (fun _ _ => ⟨cellB HD8.out hHeld.1, cellB HD8.out hHeld.2.1, cellB HD8.out hHeld.2.2.1, cellB HD8.out hHeld.2.2.2.1, cellB HD8.out hHeld.2.2.2.2.1, cellB HD8.out hHeld.2.2.2.2.2.1, cellB HD8.out hHeld.2.2.2.2.2.2.1, cellB HD8.out hHeld.2.2.2.2.2.2.2.1, cellB HD8.out hHeld.2.2.2.2.2.2.2.2.1, cellB HD8.out hHeld.2.2.2.2.2.2.2.2.2.1, cellB HD8.out hHeld.2.2.2.2.2.2.2.2.2.2.1, cellB HD8.out hHeld.2.2.2.2.2.2.2.2.2.2.2.1, cellB HD8.out hHeld.2.2.2.2.2.2.2.2.2.2.2.2.1, cellB HD8.out hHeld.2.2.2.2.2.2.2.2.2.2.2.2.2.1, cellB HD8.out hHeld.2.2.2.2.2.2.2.2.2.2.2.2.2.2.1, cellB HD8.out hHeld.2.2.2.2.2.2.2.2.2.2.2.2.2.2.2.1, cellB HD8.out hHeld.2.2.2.2.2.2.2.2.2.2.2.2.2.2.2.2.1, cellB HD8.out hHeld.2.2.2.2.2.2.2.2.2.2.2.2.2.2.2.2.2.1, cellB HD8.out hHeld.2.2.2.2.2.2.2.2.2.2.2.2.2.2.2.2.2.2.1, cellB HD8.out hHeld.2.2.2.2.2.2.2.2.2.2.2.2.2.2.2.2.2.2.2.1, cellB HD8.out hHeld.2.2.2.2.2.2.2.2.2.2.2.2.2.2.2.2.2.2.2.2.1, cellB HD8.out hHeld.2.2.2.2.2.2.2.2.2.2.2.2.2.2.2.2.2.2.2.2.2.1, cellB HD8.out hHeld.2.2.2.2.2.2.2.2.2.2.2.2.2.2.2.2.2.2.2.2.2.2.1, cellB HD8.out hHeld.2.2.2.2.2.2.2.2.2.2.2.2.2.2.2.2.2.2.2.2.2.2.2.1, cellB HD8.out hHeld.2.2.2.2.2.2.2.2.2.2.2.2.2.2.2.2.2.2.2.2.2.2.2.2.1, cellB HD8.out hHeld.2.2.2.2.2.2.2.2.2.2.2.2.2.2.2.2.2.2.2.2.2.2.2.2.2⟩) (fun hHeld' => ?_)
            replace hHeld := hHeld' (by rfl) (by decide)
            clear hK hHeld'
            (try simp only [Act.put, List.setIfInBounds_toArray, List.set_cons_zero, List.set_cons_succ])
            refine E_take0 hQ (fun _ => hHeld) 36 (v := ?zv40) rfl rfl (by kernel_rfl) (by kernel_rfl) (by kernel_rfl) (by decide) (by rfl) ?zy40 ?zr40
            case zy40 => (intro w; go_simp; (try with_reducible rfl))
            (try simp only [Act.put, List.setIfInBounds_toArray, List.set_cons_zero, List.set_cons_succ])
            refine E_take0 hQ (fun _ => hHeld) 37 (v := ?zv41) rfl rfl (by kernel_rfl) (by kernel_rfl) (by kernel_rfl) (by decide) (by rfl) ?zy41 ?zr41
            case zy41 => (intro w; go_simp; (try with_reducible rfl))
            (try simp only [Act.put, List.setIfInBounds_toArray, List.set_cons_zero, List.set_cons_succ])
            have hset := set7 (x0 := .bool (!x0)) (x1 := .bool (!x1)) (x2 := .bool (!x2)) (x3 := .bool (!x3)) (x4 := .bool (!x4)) (x5 := .bool (!x5)) (x6 := .bool (!x6)) FT8.out
            have hbel := set7_below (x0 := .bool (!x0)) (x1 := .bool (!x1)) (x2 := .bool (!x2)) (x3 := .bool (!x3)) (x4 := .bool (!x4)) (x5 := .bool (!x5)) (x6 := .bool (!x6)) HY8.out (B := T6) HL6
            obtain ⟨u0a, u1a, u2a, u3a, u4a, u5a, u6a, f0a, f1a, f2a, f3a, f4a, f5a, f6a⟩ := cells7 FT8.out
            refine E_one 39 (by kernel_rfl) rfl (by rfl) (fun K hK => ?_)
            go_simp
            (try simp only [Act.put, List.setIfInBounds_toArray, List.set_cons_zero, List.set_cons_succ])
            refine hK.out _ _ (fun _ h => absurd rfl h) (fun _ => ?_)
            clear hK hHeld
            (try simp only [Act.put, List.setIfInBounds_toArray, List.set_cons_zero, List.set_cons_succ])
            refine E_done (by kernel_rfl) ?_ _
            refine hK'.out _ _ ?_
            clear u0a f0a u1a f1a u2a f2a u3a f3a u4a f4a u5a f5a u6a f6a
            go_wp2_with fail
            go_meet
            exact ⟨T6, rfl, hset, hbel⟩
        case rest =>
        obtain ⟨g10, rfl, h10, hbz⟩ := hcut
        generalize wc = wz at *
        clear z0 y0 z1 y1 z2 y2 z3 y3 z4 y4 z5 y5 z6 y6 z7 y7 z8 y8 z9 y9 z10 y10 z11 y11 z12 y12
        have H9Z := Lib.hid ((hbz.block _ (Array.getElem?_eq_some_iff.1 H9.out).1).trans H9.out)
        have H10 := Lib.hid h10
        have HOZ := Lib.hid (HOY.out.below hbz)
        have HBZ := Lib.hid (bthen (bthen HBR.out (by omega) HXY.out) (by omega) hbz)
        clear h10 hbz
        have HA7 : Hid (chgL a b k ++ (unlB (nmL.take 7) ((alikeL s t).take 7)).map (dotN k) = chgL a b (k + 1)) := Lib.hid (by rw [chgL_succ, HCI.out]; rfl)
        have HA0 : Hid (chgL a b k ++ (unlB (nmL.take 0) ((alikeL s t).take 0)).map (dotN k) = chgL a b k) := Lib.hid (by simp [unlB])
        have HNS : Hid (∀ x ∈ nmL, x.size ≤ 6) := Lib.hid (by decide)
        have H10Z : Hid (wz.heap[g10]? = some (.cells ((alikeL s t).map fun x => Value.bool (!x)).toArray 103 (0, 0))) := Lib.hid H10.out
        have H9ZZ : Hid (wz.heap[T9]? = some (.cells (nmL.map Value.string).toArray 102 (0, 0))) := Lib.hid H9Z.out
        clear H9 H9Z H10 HOY
        have hAL := alikeL_len s t
        go_wp2_with fail
        go_loopg [11, 5] (7 + 1) (fun gk j v wi => ∃ (q : Nat) (va : Option Addr) (vc : Nat), q + gk = 7 + 1 ∧ q ≤ 7 ∧ j = .int .i64 q ∧ v = .slice va (chgL a b k ++ (unlB (nmL.take q) ((alikeL s t).take q)).map (dotN k)).length vc ∧ Hid (OwnL wi (w.heap.size + 2) va vc (chgL a b k ++ (unlB (nmL.take q) ((alikeL s t).take q)).map (dotN k))) ∧ Hid (wi.heap[T9]? = some (.cells (nmL.map Value.string).toArray 102 (0, 0))) ∧ Hid (wi.heap[g10]? = some (.cells ((alikeL s t).map fun x => Value.bool (!x)).toArray 103 (0, 0))) ∧ Hid (Below (w.heap.size + 2) w2 wi))
        case atStart => exact ⟨0, va, vc, by omega, by omega, rfl, by rw [HA0.out], by rw [HA0.out]; exact HOZ, H9ZZ, H10Z, HBZ⟩
        case round =>
          rename World => wi
          obtain ⟨q, va, vc, hgq, hq, rfl, rfl, HOI, H9I, H10I, HBI⟩ := hrel
          have hg : gk = 7 + 1 - q := by omega
          subst hg
          clear hgq
          by_cases hlt : q < 7
          · have hlt2 : q < (alikeL s t).length := by omega
            have h9q : _ := cell_of H9I.out (q := q) (c := .string (nmL[q]'hlt)) (by rw [List.getElem?_map, List.getElem?_eq_getElem hlt]; rfl)
            have h10q : _ := cell_of H10I.out (q := q) (c := .bool (!((alikeL s t)[q]'hlt2))) (by rw [List.getElem?_map, List.getElem?_eq_getElem hlt2]; rfl)
            have HT := Lib.hid (unlB_take (l := nmL) (m := alikeL s t) (k := q) hlt hlt2)
            have hns := HNS.out _ (List.getElem_mem hlt)
            have hul := unlB_len (nmL.take q) ((alikeL s t).take q)
            have hq0 : (0 : Int) ≤ (q : Int) := by omega
            have hq1 : (q : Int) < 7 := by omega
            have HN9 := Lib.hid (HOI.out.ne H9I.out (by decide))
            have HN10 := Lib.hid (HOI.out.ne H10I.out (by decide))
            have hbi := HBI.out.size
            have hal : (chgL a b k ++ (unlB (nmL.take q) ((alikeL s t).take q)).map (dotN k)).length ≤ 300 := by rw [List.length_append, List.length_map]; rw [List.length_take] at hul; omega
            obtain ⟨n, hn⟩ : ∃ n, (nmL[q]'hlt) = n := ⟨_, rfl⟩
            obtain ⟨bv, hbv⟩ : ∃ bv, ((alikeL s t)[q]'hlt2) = bv := ⟨_, rfl⟩
            rw [hn] at h9q HT hns
            rw [hbv] at h10q HT
            clear hn hbv hAL
            cases bv with
            | true =>
              have HT2 : Hid (unlB (nmL.take (q + 1)) ((alikeL s t).take (q + 1)) = unlB (nmL.take q) ((alikeL s t).take q)) := Lib.hid (acc_same HT.out)
              have h10r : wi.cell? ⟨g10, q, none⟩ = some (.bool false) := by rw [h10q]; rfl
              clear h10q hul hal
              go_wp2_with fail
              go_roundg (7 + 1 - (q + 1))
              case measure => omega
              case rel => exact ⟨q + 1, va, vc, by omega, by omega, by go_num, by rw [HT2.out, List.length_append, List.length_map], by rw [HT2.out]; exact HOI, H9I, H10I, HBI⟩
            | false =>
              have HT2 : Hid (chgL a b k ++ (unlB (nmL.take (q + 1)) ((alikeL s t).take (q + 1))).map (dotN k) = chgL a b k ++ (unlB (nmL.take q) ((alikeL s t).take q)).map (dotN k) ++ [dotN k n]) := Lib.hid (acc_step HT.out)
              have HDOT := Lib.hid (dotN_eq k n)
              have h10r : wi.cell? ⟨g10, q, none⟩ = some (.bool true) := by rw [h10q]; rfl
              clear h10q hul
              generalize digS (k : Int) = dk at *
              generalize chgL a b k ++ (unlB (nmL.take q) ((alikeL s t).take q)).map (dotN k) = acc at *
              have hcat1 : ¬ 9223372036854775807 < dk.size + 1 := by omega
              have hcat2 : ¬ 9223372036854775807 < dk.size + 1 + n.size := by omega
              go_wp2_with fail
              refine E_region (S := (fun W => W.cell? ⟨T9, q, none⟩ = some (.string n))) 9 (by kernel_rfl) h9q (fun _ _ _ _ _ h => h) (fun Q' hQ hK' hHeld => ?_)
              refine E_take0 hQ (fun _ => hHeld) 0 (v := ?mv1) rfl rfl (by kernel_rfl) (by kernel_rfl) (by kernel_rfl) (by decide) (by rfl) ?my1 ?mr1
              case my1 => (intro w; go_simp; (try with_reducible rfl))
              (try simp only [Act.put, List.setIfInBounds_toArray, List.set_cons_zero, List.set_cons_succ])
              refine E_take0 hQ (fun _ => hHeld) 1 (v := ?mv2) rfl rfl (by kernel_rfl) (by kernel_rfl) (by kernel_rfl) (by decide) (by rfl) ?my2 ?mr2
              case my2 => (intro w; go_simp; (try with_reducible rfl))
              (try simp only [Act.put, List.setIfInBounds_toArray, List.set_cons_zero, List.set_cons_succ])
              refine E_take0 hQ (fun _ => hHeld) 4 (v := ?mv3) rfl rfl (by kernel_rfl) (by kernel_rfl) (by kernel_rfl) (by decide) (by rfl) ?my3 ?mr3
              case my3 => (intro w; go_simp; (try with_reducible rfl))
              (try simp only [Act.put, List.setIfInBounds_toArray, List.set_cons_zero, List.set_cons_succ])
              refine E_take0 hQ (fun _ => hHeld) 5 (v := ?mv4) rfl rfl (by kernel_rfl) (by kernel_rfl) (by kernel_rfl) (by decide) (by rfl) ?my4 ?mr4
              case my4 => (intro w; go_simp; (try with_reducible rfl))
              (try simp only [Act.put, List.setIfInBounds_toArray, List.set_cons_zero, List.set_cons_succ])
              refine E_take hQ hHeld 6 (v := ?mv5) rfl rfl (by kernel_rfl) (by kernel_rfl) (by kernel_rfl) (by kernel_rfl) (by kernel_rfl) (by rfl) ?my5 ?mr5
              case my5 => (intro w hSw; (try dsimp only at hSw); go_simp; (try with_reducible rfl))
              (try simp only [Act.put, List.setIfInBounds_toArray, List.set_cons_zero, List.set_cons_succ])
              refine E_one 2 (by kernel_rfl) rfl (by rfl) (fun K hK => ?_)
              go_simp
              refine (HDIG.out _).mono ?_
              rintro e wd ⟨rfl, rfl⟩
              refine hK.out _ _ (fun _ _ => hHeld) (fun hHeld' => ?_)
              replace hHeld := hHeld' (by rfl) (by decide)
              clear hK hHeld'
              (try simp only [Act.put, List.setIfInBounds_toArray, List.set_cons_zero, List.set_cons_succ])
              refine E_take0 hQ (fun _ => hHeld) 3 (v := ?mv6) rfl rfl (by kernel_rfl) (by kernel_rfl) (by kernel_rfl) (by decide) (by rfl) ?my6 ?mr6
              case my6 => (intro w; go_simp; (try with_reducible rfl))
              (try simp only [Act.put, List.setIfInBounds_toArray, List.set_cons_zero, List.set_cons_succ])
              refine E_take0 hQ (fun _ => hHeld) 7 (v := ?mv7) rfl rfl (by kernel_rfl) (by kernel_rfl) (by kernel_rfl) (by decide) (by rfl) ?my7 ?mr7
              case my7 => (intro w; go_simp; (try with_reducible rfl))
              (try simp only [Act.put, List.setIfInBounds_toArray, List.set_cons_zero, List.set_cons_succ])
              refine E_one 8 (by kernel_rfl) rfl (by rfl) (fun K hK => ?_)
              go_simp
              have HX8 : Hid (Below wi.drew.heap.size wi.drew (wi.drew.alloc (.cells #[.string (dk ++ { data := #[46] } ++ n)] 9))) := Lib.hid ((Below.refl _ _).alloc (Nat.le_refl _) _)
              (try simp only [Act.put, List.setIfInBounds_toArray, List.set_cons_zero, List.set_cons_succ])
              refine hK.out _ _ (fun _ _ => cellB HX8.out hHeld) (fun hHeld' => ?_)
              replace hHeld := hHeld' (by rfl) (by decide)
              clear hK hHeld'
              (try simp only [Act.put, List.setIfInBounds_toArray, List.set_cons_zero, List.set_cons_succ])
              refine E_one 9 (by kernel_rfl) rfl (by rfl) (fun K hK => ?_)
              have hww : (wi.alloc (.cells #[.string (dk ++ { data := #[46] } ++ n)] 9)).drew = (wi.drew.alloc (.cells #[.string (dk ++ { data := #[46] } ++ n)] 9)) := rfl
              rw [hww]
              refine wp_append_lies _ (.tmp 120) (.tmp 128) 31 (by rfl) (w.heap.size + 2) 9 i0 (.string ByteArray.empty) 1 16 Try.underlying31 hi hz0 hz1 hz2 rfl (by decide) (.slice va acc.length vc) acc.length (strsV acc) (by rfl) (HOI.out.drew.alloc _) ⟨wi.heap.size, 0, none⟩ 1 1 [.string (dk ++ { data := #[46] } ++ n)] (by rfl) rfl (World.news_of_block (World.alloc_heap_new wi.drew _)) (by simp [Value.oneCell']) (by omega) (by unfold maxLen; omega) (by omega) (by simp; omega) _ rfl ?_
              intro g9 cap9 w9 hown' hgrow hat hlt9
              obtain ⟨va', vc', he9, ko1, ko2, ko3⟩ := list_pushed (W := wi.drew) HOI.out.drew (by show (w.heap.size + 2) ≤ wi.heap.size; omega) hown' hgrow
              cases he9
              have KO1 := Lib.hid ko1
              have KO2 := Lib.hid ko2
              have KO3 := Lib.hid ko3
              clear hown' hgrow ko1 ko2 ko3
              (try simp only [Act.put, List.setIfInBounds_toArray, List.set_cons_zero, List.set_cons_succ])
              refine hK.out _ _ (fun _ h => absurd rfl h) (fun _ => ?_)
              clear hK hHeld
              (try simp only [Act.put, List.setIfInBounds_toArray, List.set_cons_zero, List.set_cons_succ])
              refine E_take0 hQ (fun h => absurd h (by decide)) 10 (v := ?mv8) rfl rfl (by kernel_rfl) (by kernel_rfl) (by kernel_rfl) (by decide) (by rfl) ?my8 ?mr8
              case my8 => (intro w; go_simp; (try with_reducible rfl))
              (try simp only [Act.put, List.setIfInBounds_toArray, List.set_cons_zero, List.set_cons_succ])
              refine E_done (by kernel_rfl) ?_ _
              refine hK'.out _ _ ?_

              go_wp2_with fail
              go_roundg (7 + 1 - (q + 1))
              case measure => omega
              case rel => exact ⟨q + 1, some ⟨g9, 0, none⟩, cap9, by omega, by omega, by go_num, by rw [HT2.out, List.length_append]; rfl, by rw [HT2.out, HDOT.out]; exact KO1, Lib.hid (KO3.out _ _ H9I.out HN9.out), Lib.hid (KO3.out _ _ H10I.out HN10.out), Lib.hid (HBI.out.drew.trans KO2.out)⟩
          · obtain rfl : q = 7 := by omega
            rw [HA7.out] at HOI
            rw [HA7.out]
            go_wp2_with fail
            go_roundg (M + 1 - (k + 1))
            case measure => omega
            case rel => exact ⟨k + 1, va, vc, by omega, by omega, by go_num, rfl, HOI, HBI⟩
      · have d3 : decide ((b.steps.length : Int) ≤ (k : Int)) = true := decide_eq_true (by omega)
        have HCI := Lib.hid (chgI_minus (a := a) (show b.steps.length ≤ k by omega))
        go_wp2_with (first | (go_at_call 79; refine (HDIG.out _).mono ?_; rintro e w8 ⟨rfl, rfl⟩) | (at_builtin; go_must (refine wpList_push rfl _ _ 31 rfl (w.heap.size + 2) 9 i0 (.string ByteArray.empty) 1 16 Try.underlying31 hi hz0 hz1 hz2 rfl (by decide) _ _ _ rfl (HO.out.alloc _) ⟨wr.heap.size, 0, none⟩ 1 1 [_] rfl rfl (cell_one_new _ _ _) (by simp [Value.oneCell']) (by unfold maxLen; omega) (by omega) (by simp; omega) ?_; intro v' w9 hown' hgrow hfr; obtain ⟨va', vc', rfl, ko1, ko2, ko3⟩ := list_pushed HO.out (show (w.heap.size + 2) ≤ wr.heap.size by omega) hown' hgrow; have KO1 := Lib.hid ko1; have KO2 := Lib.hid ko2; clear hown' hgrow hfr ko1 ko2 ko3)))
        go_roundg (M + 1 - (k + 1))
        case measure => omega
        case rel => exact ⟨k + 1, va', vc', by omega, by omega, by go_num, by rw [chgL_succ, HCI.out, List.length_append]; rfl, by rw [chgL_succ, HCI.out]; exact KO1, Lib.hid (HBR.out.trans KO2.out)⟩
    · have d1 : decide ((k : Int) < (a.steps.length : Int)) = false := decide_eq_false (by omega)
      by_cases hkb : k < b.steps.length
      · have d2 : decide ((k : Int) < (b.steps.length : Int)) = true := decide_eq_true (by omega)
        have d3 : decide ((b.steps.length : Int) ≤ (k : Int)) = false := decide_eq_false (by omega)
        have d4 : decide ((a.steps.length : Int) ≤ (k : Int)) = true := decide_eq_true (by omega)
        have HCI := Lib.hid (chgI_plus (a := a) hkb (by omega))
        go_wp2_with (first | (go_at_call 79; refine (HDIG.out _).mono ?_; rintro e w8 ⟨rfl, rfl⟩) | (at_builtin; go_must (refine wpList_push rfl _ _ 31 rfl (w.heap.size + 2) 9 i0 (.string ByteArray.empty) 1 16 Try.underlying31 hi hz0 hz1 hz2 rfl (by decide) _ _ _ rfl (HO.out.alloc _) ⟨wr.heap.size, 0, none⟩ 1 1 [_] rfl rfl (cell_one_new _ _ _) (by simp [Value.oneCell']) (by unfold maxLen; omega) (by omega) (by simp; omega) ?_; intro v' w9 hown' hgrow hfr; obtain ⟨va', vc', rfl, ko1, ko2, ko3⟩ := list_pushed HO.out (show (w.heap.size + 2) ≤ wr.heap.size by omega) hown' hgrow; have KO1 := Lib.hid ko1; have KO2 := Lib.hid ko2; clear hown' hgrow hfr ko1 ko2 ko3)))
        go_roundg (M + 1 - (k + 1))
        case measure => omega
        case rel => exact ⟨k + 1, va', vc', by omega, by omega, by go_num, by rw [chgL_succ, HCI.out, List.length_append]; rfl, by rw [chgL_succ, HCI.out]; exact KO1, Lib.hid (HBR.out.trans KO2.out)⟩
      · have d2 : decide ((k : Int) < (b.steps.length : Int)) = false := decide_eq_false (by omega)
        have hkM : k = M := by omega
        have HFIN : Hid (changesD a b = chgL a b k) := Lib.hid (by unfold changesD; rw [hM, hkM])
        clear hkM
        go_wp2
        go_ret
        exact ⟨.slice va (chgL a b k).length vc, rfl, by rw [HFIN.out]; exact RdS.of_owns (show wr.ownsRow (w.heap.size + 2) 9 1 (.slice va (chgL a b k).length vc) (chgL a b k).length (strsV (chgL a b k)) from HO.out), HB0.out.trans (HBR.out.mono (by omega))⟩
end Go.Proofs.Ytlakmfhpinljjaa
