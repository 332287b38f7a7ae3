/-
  block.Copy, def.tree: contracts.
-/
import Derived.Test.YtgafjjgnbcjmpaaBq15
import Derived.Test.YtgafjjgnbcjmpaaBq18
namespace Go.Proofs.Ytgafjjgnbcjmpaa
open Go Go.RowKit Go.WideShapes

set_option maxRecDepth 100000 in
theorem Copy_any (x : Tree) (cs : List Value) (w : World) (h : NodeR w cs x) (hs : SmallP 18 x) :
    Calls Try.prog 23 #[.agg cs.toArray] w fun e w' => ∃ cs', e = .returned (.agg cs'.toArray) ∧ NodeO w' (inSpan w.heap.size w'.heap.size) cs' x ∧ Below w.heap.size w w' := by
  have H := Lib.hid h
  obtain ⟨ka, kc, ba, bc, rfl⟩ := h.cells
  clear h
  go_enter Try.func23, Try.ntmps23
  go_wp2_with fail
  obtain ⟨hb0, g0, g1, hsz⟩ := alloc2 w 34 34 #[.int .u8 (x.kind : Int), .string x.text, .slice ka x.keys.length kc, .slice ba x.kids.length bc, .int .i64 x.line] #[.int .u8 0, .string { data := #[] }, .slice none 0 0, .slice none 0 0, .int .i64 0]
  generalize hwz : (w.alloc (.cells #[.int .u8 (x.kind : Int), .string x.text, .slice ka x.keys.length kc, .slice ba x.kids.length bc, .int .i64 x.line] 34)).alloc (.cells #[.int .u8 0, .string { data := #[] }, .slice none 0 0, .slice none 0 0, .int .i64 0] 34) = wz at *
  clear hwz
  refine (clone_any x 18 18 _ wz (H.out.belowW hb0) hs (Nat.le_refl _) (by decide)).mono ?_
  rintro e w1 ⟨cs', rfl, hn1, hb1⟩
  obtain ⟨ka', kc', ba', bc', rfl⟩ := hn1.cells
  have g2 := (hb1.block _ (by omega)).trans g1
  have HG := Lib.hid g2
  obtain ⟨q0, q1, q2, q3, q4⟩ := cells5 g2
  obtain ⟨f0, f1, f2, f3, f4⟩ := cells5w g2
  have HN := Lib.hid hn1
  have HB := Lib.hid (hb0.trans (hb1.mono (by omega)))
  clear g0 g1 g2 hn1 hb0 hb1
  go_wp2
  have hset := set5w (x0 := .int .u8 (x.kind : Int)) (x1 := .string x.text) (x2 := .slice ka' x.keys.length kc') (x3 := .slice ba' x.kids.length bc') (x4 := .int .i64 x.line) HG.out
  have hbf := set5w_below (x0 := .int .u8 (x.kind : Int)) (x1 := .string x.text) (x2 := .slice ka' x.keys.length kc') (x3 := .slice ba' x.kids.length bc') (x4 := .int .i64 x.line) (HB.out) (B := w.heap.size + 1) (by omega)
  have hof : ∀ g, g ≠ w.heap.size + 1 → (((((w1.setCell ⟨w.heap.size + 1, 0, none⟩ (.int .u8 (x.kind : Int))).setCell ⟨w.heap.size + 1, 1, none⟩ (.string x.text)).setCell ⟨w.heap.size + 1, 2, none⟩ (.slice ka' x.keys.length kc')).setCell ⟨w.heap.size + 1, 3, none⟩ (.slice ba' x.kids.length bc')).setCell ⟨w.heap.size + 1, 4, none⟩ (.int .i64 x.line)).heap[g]? = w1.heap[g]? := fun g hg => set5w_other hg
  have hsf : (((((w1.setCell ⟨w.heap.size + 1, 0, none⟩ (.int .u8 (x.kind : Int))).setCell ⟨w.heap.size + 1, 1, none⟩ (.string x.text)).setCell ⟨w.heap.size + 1, 2, none⟩ (.slice ka' x.keys.length kc')).setCell ⟨w.heap.size + 1, 3, none⟩ (.slice ba' x.kids.length bc')).setCell ⟨w.heap.size + 1, 4, none⟩ (.int .i64 x.line)).heap.size = w1.heap.size := by simp
  clear q0 q1 q2 q3 q4 f0 f1 f2 f3 f4
  generalize (((((w1.setCell ⟨w.heap.size + 1, 0, none⟩ (.int .u8 (x.kind : Int))).setCell ⟨w.heap.size + 1, 1, none⟩ (.string x.text)).setCell ⟨w.heap.size + 1, 2, none⟩ (.slice ka' x.keys.length kc')).setCell ⟨w.heap.size + 1, 3, none⟩ (.slice ba' x.kids.length bc')).setCell ⟨w.heap.size + 1, 4, none⟩ (.int .i64 x.line)) = wf at *
  obtain ⟨y0, y1, y2, y3, y4⟩ := cells5 hset
  have HOF := Lib.hid hof
  have HSF := Lib.hid hsf
  have HBF := Lib.hid hbf
  clear hof hsf hbf hset
  refine bodyPost_ret (v := .agg #[.int .u8 (x.kind : Int), .string x.text, .slice ka' x.keys.length kc', .slice ba' x.kids.length bc', .int .i64 x.line]) (by simp [results, Try.results23, go_sem, y0, y1, y2, y3, y4]) rfl ?_
  refine ⟨_, rfl, HN.out.keep (fun g hP _ => HOF.out g (by have := hP.1; omega)) (fun g hP => ⟨by have := hP.1; omega, by have := hP.2; have := HSF.out; omega⟩), HBF.out⟩

def sName : ByteArray := { data := #[110, 97, 109, 101] }
def sAction : ByteArray := { data := #[97, 99, 116, 105, 111, 110] }
def sUndo : ByteArray := { data := #[117, 110, 100, 111] }
def sAfter : ByteArray := { data := #[97, 102, 116, 101, 114] }
def sRetry : ByteArray := { data := #[114, 101, 116, 114, 121] }
def sLimit : ByteArray := { data := #[108, 105, 109, 105, 116] }
def sNote : ByteArray := { data := #[110, 111, 116, 101] }
def sSaga : ByteArray := { data := #[115, 97, 103, 97] }
def sText : ByteArray := { data := #[116, 101, 120, 116] }
def sSteps : ByteArray := { data := #[115, 116, 101, 112, 115] }
def hasUndo (s : StepD) : Bool := !s.undo.toList.isEmpty
def hasAfter (s : StepD) : Bool := decide (0 < s.after.length)
def hasRetry (s : StepD) : Bool := !((s.most == 0 && s.first == 0) && s.factor == 0)
def hasLimit (s : StepD) : Bool := s.limit != 0
def hasNote (s : StepD) : Bool := !noneT s.note
def stepKs (s : StepD) : List ByteArray := consIf (hasNote s) (consIf (hasLimit s) (consIf (hasRetry s) (consIf (hasAfter s) (consIf (hasUndo s) [sName, sAction] sUndo) sAfter) sRetry) sLimit) sNote
def stepCs (s : StepD) : List Tree := consIf (hasNote s) (consIf (hasLimit s) (consIf (hasRetry s) (consIf (hasAfter s) (consIf (hasUndo s) [scalarT s.name, scalarT s.action] (scalarT s.undo)) (seqT (s.after.map scalarT))) (retryT s.most s.first s.factor)) (numT s.limit)) s.note
theorem heldN3 {W W' : World} {p q r : Addr} {a b c : Value} (h : W.cell? p = some a ∧ W.cell? q = some b ∧ W.cell? r = some c) (hb : Below W.heap.size W W') : W'.cell? p = some a ∧ W'.cell? q = some b ∧ W'.cell? r = some c := ⟨cellB hb h.1, cellB hb h.2.1, cellB hb h.2.2⟩
theorem heldN5 {W W' : World} {p q r s u : Addr} {a b c d e : Value} (h : W.cell? p = some a ∧ W.cell? q = some b ∧ W.cell? r = some c ∧ W.cell? s = some d ∧ W.cell? u = some e) (hb : Below W.heap.size W W') : W'.cell? p = some a ∧ W'.cell? q = some b ∧ W'.cell? r = some c ∧ W'.cell? s = some d ∧ W'.cell? u = some e := ⟨cellB hb h.1, cellB hb h.2.1, cellB hb h.2.2.1, cellB hb h.2.2.2.1, cellB hb h.2.2.2.2⟩
theorem consIf_le {α : Type} {b : Bool} {l : List α} {x : α} {n : Nat} (h : l.length ≤ n) : (consIf b l x).length ≤ n + 1 := by have := consIf_len b l x; omega
theorem hasRetry_ifs (s : StepD) (w : World) : (if s.most = 0 then if s.first = 0 then if s.factor = 0 then Result.ok (Next.value (Value.bool false)) w else Result.ok (Next.value (Value.bool true)) w else Result.ok (Next.value (Value.bool true)) w else Result.ok (Next.value (Value.bool true)) w) = Result.ok (Next.value (.bool (hasRetry s))) w := by
  unfold hasRetry
  by_cases h1 : s.most = 0 <;> by_cases h2 : s.first = 0 <;> by_cases h3 : s.factor = 0 <;> simp [h1, h2, h3]
/-- A step's tree. -/
def stepT (s : StepD) : Tree := mapT (stepKs s) (stepCs s)

set_option maxRecDepth 100000 in
set_option maxHeartbeats 2000000 in
theorem dtree_any (s : StepD) (cs : List Value) (aa ka ba : Option Addr) (ac kc bc : Nat) (w : World) (h : StepR w cs s aa ac ka kc ba bc) (hs : SmallS s) :
    Calls Try.prog 18 #[.agg cs.toArray] w fun e w' => ∃ cs' : List Value, e = .returned (.agg cs'.toArray) ∧ NodeO w' (inSpan w.heap.size w'.heap.size) cs' (stepT s) ∧ Below w.heap.size w w' := by
  obtain ⟨rfl, hok, hva, hno⟩ := h
  have HVA := Lib.hid hva
  have HNO := Lib.hid hno
  have HOK := Lib.hid hok
  have HSM := Lib.hid hs
  have hal := hs.after
  clear hva hno hok hs
  go_enter Try.func18, Try.ntmps18
  go_wp2_with fail
  obtain ⟨hb0, g0, g1, hsz⟩ := alloc2 w 45 34 #[.string s.name, .string s.action, .string s.undo, .slice aa s.after.length ac, .int .i64 s.most, .int .i64 s.first, .int .i64 s.factor, .int .i64 s.limit, .int .u8 (s.note.kind : Int), .string s.note.text, .slice ka s.note.keys.length kc, .slice ba s.note.kids.length bc, .int .i64 s.note.line] #[.int .u8 0, .string { data := #[] }, .slice none 0 0, .slice none 0 0, .int .i64 0]
  generalize hwz : (w.alloc (.cells #[.string s.name, .string s.action, .string s.undo, .slice aa s.after.length ac, .int .i64 s.most, .int .i64 s.first, .int .i64 s.factor, .int .i64 s.limit, .int .u8 (s.note.kind : Int), .string s.note.text, .slice ka s.note.keys.length kc, .slice ba s.note.kids.length bc, .int .i64 s.note.line] 45)).alloc (.cells #[.int .u8 0, .string { data := #[] }, .slice none 0 0, .slice none 0 0, .int .i64 0] 34) = wz at *
  have HSZ := Lib.hid hsz
  have HB0 := Lib.hid hb0
  have G0 := Lib.hid g0
  have G1 := Lib.hid g1
  clear hsz hb0 g0 g1 hwz
  refine (builder_new (w.heap.size + 2) _ HSZ.out).mono ?_
  rintro e w1 ⟨rfl, hB1, hb1⟩
  have hN1 : Below (w.heap.size + 2) wz w1 := hb1
  obtain ⟨x0, x1, x2, x3, x4, x5, x6, x7, x8, x9, x10, x11, x12⟩ := at13_block ((hN1.block _ (by omega)).trans G0.out)
  have HB1 := Lib.hid hB1
  have HN1 := Lib.hid hN1
  clear hB1 hb1 hN1
  go_wp2_with fail
  refine (dtext_any s.name _).mono ?_
  rintro e wa0 ⟨rfl, hbwa0⟩
  clear x0 x1 x2 x3 x4 x5 x6 x7 x8 x9 x10 x11 x12
  go_wp2_with fail
  refine (put_any true (w.heap.size + 2) (w.heap.size + 2 + 2) w1.heap.size sName (scalarT s.name) [] [] _ w1 wa0 HB1.out hbwa0 (Nat.le_refl _) (scalar_node _ _ HOK.out.name) (by decide) (Nat.le_trans (Nat.le_refl 0) (by decide)) (Nat.le_trans (Nat.le_refl 0) (by decide))).mono ?_
  rintro e wb0 ⟨rfl, hB', hb'⟩
  have hlewb0 := HB1.out.le
  have hN' : Below (w.heap.size + 2) wz wb0 := (HN1.out.trans (hbwa0.mono (by omega))).trans hb'
  obtain ⟨x0, x1, x2, x3, x4, x5, x6, x7, x8, x9, x10, x11, x12⟩ := at13_block ((hN'.block _ (by omega)).trans G0.out)
  have HBwb0 := Lib.hid hB'
  have HNwb0 := Lib.hid hN'
  clear hB' hb' hN' hbwa0
  go_wp2_with fail
  refine (dtext_any s.action _).mono ?_
  rintro e wa1 ⟨rfl, hbwa1⟩
  clear x0 x1 x2 x3 x4 x5 x6 x7 x8 x9 x10 x11 x12
  go_wp2_with fail
  refine (put_any true (w.heap.size + 2) (w.heap.size + 2 + 2) wb0.heap.size sAction (scalarT s.action) [sName] [scalarT s.name] _ wb0 wa1 HBwb0.out hbwa1 (Nat.le_refl _) (scalar_node _ _ HOK.out.action) (by decide) (Nat.le_trans (Nat.le_refl 1) (by decide)) (Nat.le_trans (Nat.le_refl 1) (by decide))).mono ?_
  rintro e wb1 ⟨rfl, hB', hb'⟩
  have hlewb1 := HBwb0.out.le
  have hN' : Below (w.heap.size + 2) wz wb1 := (HNwb0.out.trans (hbwa1.mono (by omega))).trans hb'
  obtain ⟨x0, x1, x2, x3, x4, x5, x6, x7, x8, x9, x10, x11, x12⟩ := at13_block ((hN'.block _ (by omega)).trans G0.out)
  have HBwb1 := Lib.hid hB'
  have HNwb1 := Lib.hid hN'
  clear hB' hb' hN' hbwa1
  have hcl : ∀ (b1 b2 b3 b4 : Bool), Hid True := fun _ _ _ _ => Lib.hid trivial
  clear hcl
  go_wp2
  refine E_region (S := (fun W => W.cell? ⟨w.heap.size, 2, none⟩ = some (.string s.undo))) 7 (by kernel_rfl) x2 (fun _ _ _ _ _ h => h) (fun Q' hQ hK' hHeld => ?_)
  refine E_take0 hQ (fun _ => hHeld) 0 (v := ?av1) rfl rfl (by kernel_rfl) (by kernel_rfl) (by kernel_rfl) (by decide) (by rfl) ?ay1 ?ar1
  case ay1 => (intro w; go_simp; (try with_reducible rfl))
  (try simp only [Act.put, List.setIfInBounds_toArray, List.set_cons_zero, List.set_cons_succ])
  refine E_take0 hQ (fun _ => hHeld) 1 (v := ?av2) rfl rfl (by kernel_rfl) (by kernel_rfl) (by kernel_rfl) (by decide) (by rfl) ?ay2 ?ar2
  case ay2 => (intro w; go_simp; (try with_reducible rfl))
  (try simp only [Act.put, List.setIfInBounds_toArray, List.set_cons_zero, List.set_cons_succ])
  refine E_take hQ hHeld 2 (v := ?av3) rfl rfl (by kernel_rfl) (by kernel_rfl) (by kernel_rfl) (by kernel_rfl) (by kernel_rfl) (by rfl) ?ay3 ?ar3
  case ay3 => (intro w hSw; (try dsimp only at hSw); go_simp; (try with_reducible rfl))
  (try simp only [Act.put, List.setIfInBounds_toArray, List.set_cons_zero, List.set_cons_succ])
  refine E_take0 hQ (fun _ => hHeld) 3 (v := ?av4) rfl rfl (by kernel_rfl) (by kernel_rfl) (by kernel_rfl) (by decide) (by rfl) ?ay4 ?ar4
  case ay4 => (intro w; go_simp; (try with_reducible rfl))
  (try simp only [Act.put, List.setIfInBounds_toArray, List.set_cons_zero, List.set_cons_succ])
  refine E_take0 hQ (fun _ => hHeld) 4 (v := ?av5) rfl rfl (by kernel_rfl) (by kernel_rfl) (by kernel_rfl) (by decide) (by rfl) ?ay5 ?ar5
  case ay5 => (intro w; go_simp; (try with_reducible rfl))
  (try simp only [Act.put, List.setIfInBounds_toArray, List.set_cons_zero, List.set_cons_succ])
  refine E_take hQ hHeld 5 (v := ?av6) rfl rfl (by kernel_rfl) (by kernel_rfl) (by kernel_rfl) (by kernel_rfl) (by kernel_rfl) (by rfl) ?ay6 ?ar6
  case ay6 => (intro w hSw; (try dsimp only at hSw); go_simp; (try with_reducible rfl))
  (try simp only [Act.put, List.setIfInBounds_toArray, List.set_cons_zero, List.set_cons_succ])
  refine E_one 6 (by kernel_rfl) rfl (by rfl) (fun K hK => ?_)
  go_simp
  refine (dtext_any s.undo _).mono ?_
  rintro e wa4 ⟨rfl, hbwa4⟩
  have HDwa4 := Lib.hid hbwa4
  have hbwa4 : Below wb1.heap.size wb1 wa4 := ((Below.refl _ wb1).drew).trans hbwa4
  (skip)
  refine hK.out _ _ (fun _ _ => held1 hHeld HDwa4.out) (fun hHeld' => ?_)
  replace hHeld := hHeld' (by rfl) (by decide)
  clear hK hHeld'
  (try simp only [Act.put, List.setIfInBounds_toArray, List.set_cons_zero, List.set_cons_succ])
  refine E_one 7 (by kernel_rfl) rfl (by rfl) (fun K hK => ?_)
  go_simp
  refine (put_any (hasUndo s) (w.heap.size + 2) (w.heap.size + 2 + 2) wb1.heap.size sUndo (scalarT s.undo) [sName, sAction] [scalarT s.name, scalarT s.action] _ wb1 wa4 HBwb1.out hbwa4 (Nat.le_refl _) (scalar_node _ _ HOK.out.undo) (by decide) (Nat.le_trans (Nat.le_refl 2) (by decide)) (Nat.le_trans (Nat.le_refl 2) (by decide))).mono ?_
  rintro e wb4 ⟨rfl, hB', hb'⟩
  have hlewb4 := HBwb1.out.le
  have hN' : Below (w.heap.size + 2) wz wb4 := (HNwb1.out.trans (hbwa4.mono (by omega))).trans hb'
  obtain ⟨x0, x1, x2, x3, x4, x5, x6, x7, x8, x9, x10, x11, x12⟩ := at13_block ((hN'.block _ (by omega)).trans G0.out)
  have HBwb4 := Lib.hid hB'
  have HNwb4 := Lib.hid hN'
  clear hB' hb' hN' hbwa4
  (skip)
  refine hK.out _ _ (fun _ h => absurd rfl h) (fun _ => ?_)
  clear hK hHeld
  (try simp only [Act.put, List.setIfInBounds_toArray, List.set_cons_zero, List.set_cons_succ])
  refine E_done (by kernel_rfl) ?_ _
  refine hK'.out _ _ ?_
  go_wp2
  refine E_region (S := (fun W => W.cell? ⟨w.heap.size, 3, none⟩ = some (.slice aa s.after.length ac))) 8 (by kernel_rfl) x3 (fun _ _ _ _ _ h => h) (fun Q' hQ hK' hHeld => ?_)
  refine E_take0 hQ (fun _ => hHeld) 0 (v := ?bv1) rfl rfl (by kernel_rfl) (by kernel_rfl) (by kernel_rfl) (by decide) (by rfl) ?by1 ?br1
  case by1 => (intro w; go_simp; (try with_reducible rfl))
  (try simp only [Act.put, List.setIfInBounds_toArray, List.set_cons_zero, List.set_cons_succ])
  refine E_take0 hQ (fun _ => hHeld) 1 (v := ?bv2) rfl rfl (by kernel_rfl) (by kernel_rfl) (by kernel_rfl) (by decide) (by rfl) ?by2 ?br2
  case by2 => (intro w; go_simp; (try with_reducible rfl))
  (try simp only [Act.put, List.setIfInBounds_toArray, List.set_cons_zero, List.set_cons_succ])
  refine E_take hQ hHeld 2 (v := ?bv3) rfl rfl (by kernel_rfl) (by kernel_rfl) (by kernel_rfl) (by kernel_rfl) (by kernel_rfl) (by rfl) ?by3 ?br3
  case by3 => (intro w hSw; (try dsimp only at hSw); go_simp; (try with_reducible rfl))
  (try simp only [Act.put, List.setIfInBounds_toArray, List.set_cons_zero, List.set_cons_succ])
  refine E_take0 hQ (fun _ => hHeld) 3 (v := ?bv4) rfl rfl (by kernel_rfl) (by kernel_rfl) (by kernel_rfl) (by decide) (by rfl) ?by4 ?br4
  case by4 => (intro w; go_simp; (try with_reducible rfl))
  (try simp only [Act.put, List.setIfInBounds_toArray, List.set_cons_zero, List.set_cons_succ])
  refine E_take0 hQ (fun _ => hHeld) 4 (v := ?bv5) rfl rfl (by kernel_rfl) (by kernel_rfl) (by kernel_rfl) (by decide) (by rfl) ?by5 ?br5
  case by5 => (intro w; go_simp; (try with_reducible rfl))
  (try simp only [Act.put, List.setIfInBounds_toArray, List.set_cons_zero, List.set_cons_succ])
  refine E_take0 hQ (fun _ => hHeld) 5 (v := ?bv6) rfl rfl (by kernel_rfl) (by kernel_rfl) (by kernel_rfl) (by decide) (by rfl) ?by6 ?br6
  case by6 => (intro w; go_simp; (try with_reducible rfl))
  (try simp only [Act.put, List.setIfInBounds_toArray, List.set_cons_zero, List.set_cons_succ])
  refine E_take hQ hHeld 6 (v := ?bv7) rfl rfl (by kernel_rfl) (by kernel_rfl) (by kernel_rfl) (by kernel_rfl) (by kernel_rfl) (by rfl) ?by7 ?br7
  case by7 => (intro w hSw; (try dsimp only at hSw); go_simp; (try with_reducible rfl))
  (try simp only [Act.put, List.setIfInBounds_toArray, List.set_cons_zero, List.set_cons_succ])
  refine E_one 7 (by kernel_rfl) rfl (by rfl) (fun K hK => ?_)
  go_simp
  refine (drow_any s.after _ _ (HVA.out.below ((HB0.out.trans (HNwb4.out.mono (by omega))).drew)) (fun a ha => (HOK.out.after a ha)) (by omega)).mono ?_
  rintro e wa5 ⟨cs5, rfl, hn5, -, hbwa5⟩
  obtain ⟨ka5, kc5, ba5, bc5, rfl⟩ := hn5.cells
  have HNK5 := Lib.hid hn5
  clear hn5
  have HDwa5 := Lib.hid hbwa5
  have hbwa5 : Below wb4.heap.size wb4 wa5 := ((Below.refl _ wb4).drew).trans hbwa5
  (skip)
  refine hK.out _ _ (fun _ _ => held1 hHeld HDwa5.out) (fun hHeld' => ?_)
  replace hHeld := hHeld' (by rfl) (by decide)
  clear hK hHeld'
  (try simp only [Act.put, List.setIfInBounds_toArray, List.set_cons_zero, List.set_cons_succ])
  refine E_one 8 (by kernel_rfl) rfl (by rfl) (fun K hK => ?_)
  go_simp
  refine (put_any (hasAfter s) (w.heap.size + 2) (w.heap.size + 2 + 2) wb4.heap.size sAfter (seqT (s.after.map scalarT)) (consIf (hasUndo s) [sName, sAction] sUndo) (consIf (hasUndo s) [scalarT s.name, scalarT s.action] (scalarT s.undo)) _ wb4 wa5 HBwb4.out hbwa5 (Nat.le_refl _) HNK5.out (by decide) (Nat.le_trans (consIf_le (Nat.le_refl 2)) (by decide)) (Nat.le_trans (consIf_le (Nat.le_refl 2)) (by decide))).mono ?_
  rintro e wb5 ⟨rfl, hB', hb'⟩
  have hlewb5 := HBwb4.out.le
  have hN' : Below (w.heap.size + 2) wz wb5 := (HNwb4.out.trans (hbwa5.mono (by omega))).trans hb'
  obtain ⟨x0, x1, x2, x3, x4, x5, x6, x7, x8, x9, x10, x11, x12⟩ := at13_block ((hN'.block _ (by omega)).trans G0.out)
  have HBwb5 := Lib.hid hB'
  have HNwb5 := Lib.hid hN'
  clear hB' hb' hN' hbwa5
  (skip)
  refine hK.out _ _ (fun _ h => absurd rfl h) (fun _ => ?_)
  clear hK hHeld
  (try simp only [Act.put, List.setIfInBounds_toArray, List.set_cons_zero, List.set_cons_succ])
  refine E_done (by kernel_rfl) ?_ _
  refine hK'.out _ _ ?_
  go_wp2
  refine E_region (S := (fun W => W.cell? ⟨w.heap.size, 4, none⟩ = some (.int .i64 s.most) ∧ W.cell? ⟨w.heap.size, 5, none⟩ = some (.int .i64 s.first) ∧ W.cell? ⟨w.heap.size, 6, none⟩ = some (.int .i64 s.factor))) 8 (by kernel_rfl) ⟨x4, x5, x6⟩ (fun _ _ _ _ _ h => h) (fun Q' hQ hK' hHeld => ?_)
  refine E_take0 hQ (fun _ => hHeld) 0 (v := ?cv1) rfl rfl (by kernel_rfl) (by kernel_rfl) (by kernel_rfl) (by decide) (by rfl) ?cy1 ?cr1
  case cy1 => (intro w; go_simp; (try with_reducible rfl))
  (try simp only [Act.put, List.setIfInBounds_toArray, List.set_cons_zero, List.set_cons_succ])
  refine E_take0 hQ (fun _ => hHeld) 1 (v := ?cv2) rfl rfl (by kernel_rfl) (by kernel_rfl) (by kernel_rfl) (by decide) (by rfl) ?cy2 ?cr2
  case cy2 => (intro w; go_simp; (try with_reducible rfl))
  (try simp only [Act.put, List.setIfInBounds_toArray, List.set_cons_zero, List.set_cons_succ])
  refine E_take hQ hHeld 2 (v := ?cv3) rfl rfl (by kernel_rfl) (by kernel_rfl) (by kernel_rfl) (by kernel_rfl) (by kernel_rfl) (by rfl) ?cy3 ?cr3
  case cy3 => (intro w hSw; (try dsimp only at hSw); go_simp; (try with_reducible rfl))
  (try simp only [Act.put, List.setIfInBounds_toArray, List.set_cons_zero, List.set_cons_succ])
  refine E_take0 hQ (fun _ => hHeld) 3 (v := ?cv4) rfl rfl (by kernel_rfl) (by kernel_rfl) (by kernel_rfl) (by decide) (by rfl) ?cy4 ?cr4
  case cy4 => (intro w; go_simp; (try with_reducible rfl))
  (try simp only [Act.put, List.setIfInBounds_toArray, List.set_cons_zero, List.set_cons_succ])
  refine E_take0 hQ (fun _ => hHeld) 4 (v := ?cv5) rfl rfl (by kernel_rfl) (by kernel_rfl) (by kernel_rfl) (by decide) (by rfl) ?cy5 ?cr5
  case cy5 => (intro w; go_simp; exact hasRetry_ifs s w)
  (try simp only [Act.put, List.setIfInBounds_toArray, List.set_cons_zero, List.set_cons_succ])
  refine E_take0 hQ (fun _ => hHeld) 5 (v := ?cv6) rfl rfl (by kernel_rfl) (by kernel_rfl) (by kernel_rfl) (by decide) (by rfl) ?cy6 ?cr6
  case cy6 => (intro w; go_simp; (try with_reducible rfl))
  (try simp only [Act.put, List.setIfInBounds_toArray, List.set_cons_zero, List.set_cons_succ])
  refine E_take hQ hHeld 6 (v := ?cv7) rfl rfl (by kernel_rfl) (by kernel_rfl) (by kernel_rfl) (by kernel_rfl) (by kernel_rfl) (by rfl) ?cy7 ?cr7
  case cy7 => (intro w hSw; (try dsimp only at hSw); go_simp; (try with_reducible rfl))
  (try simp only [Act.put, List.setIfInBounds_toArray, List.set_cons_zero, List.set_cons_succ])
  refine E_one 7 (by kernel_rfl) rfl (by rfl) (fun K hK => ?_)
  go_simp
  refine (dretry_any s.most s.first s.factor _).mono ?_
  rintro e wa6 ⟨cs6, rfl, hn6, hbwa6⟩
  obtain ⟨ka6, kc6, ba6, bc6, rfl⟩ := hn6.cells
  have HNK6 := Lib.hid hn6
  clear hn6
  have HDwa6 := Lib.hid hbwa6
  have hbwa6 : Below wb5.heap.size wb5 wa6 := ((Below.refl _ wb5).drew).trans hbwa6
  (skip)
  refine hK.out _ _ (fun _ _ => heldN3 hHeld HDwa6.out) (fun hHeld' => ?_)
  replace hHeld := hHeld' (by rfl) (by decide)
  clear hK hHeld'
  (try simp only [Act.put, List.setIfInBounds_toArray, List.set_cons_zero, List.set_cons_succ])
  refine E_one 8 (by kernel_rfl) rfl (by rfl) (fun K hK => ?_)
  go_simp
  refine (put_any (hasRetry s) (w.heap.size + 2) (w.heap.size + 2 + 2) wb5.heap.size sRetry (retryT s.most s.first s.factor) (consIf (hasAfter s) (consIf (hasUndo s) [sName, sAction] sUndo) sAfter) (consIf (hasAfter s) (consIf (hasUndo s) [scalarT s.name, scalarT s.action] (scalarT s.undo)) (seqT (s.after.map scalarT))) _ wb5 wa6 HBwb5.out hbwa6 (Nat.le_refl _) HNK6.out (by decide) (Nat.le_trans (consIf_le (consIf_le (Nat.le_refl 2))) (by decide)) (Nat.le_trans (consIf_le (consIf_le (Nat.le_refl 2))) (by decide))).mono ?_
  rintro e wb6 ⟨rfl, hB', hb'⟩
  have hlewb6 := HBwb5.out.le
  have hN' : Below (w.heap.size + 2) wz wb6 := (HNwb5.out.trans (hbwa6.mono (by omega))).trans hb'
  obtain ⟨x0, x1, x2, x3, x4, x5, x6, x7, x8, x9, x10, x11, x12⟩ := at13_block ((hN'.block _ (by omega)).trans G0.out)
  have HBwb6 := Lib.hid hB'
  have HNwb6 := Lib.hid hN'
  clear hB' hb' hN' hbwa6
  (skip)
  refine hK.out _ _ (fun _ h => absurd rfl h) (fun _ => ?_)
  clear hK hHeld
  (try simp only [Act.put, List.setIfInBounds_toArray, List.set_cons_zero, List.set_cons_succ])
  refine E_done (by kernel_rfl) ?_ _
  refine hK'.out _ _ ?_
  go_wp2
  refine E_region (S := (fun W => W.cell? ⟨w.heap.size, 7, none⟩ = some (.int .i64 s.limit))) 7 (by kernel_rfl) x7 (fun _ _ _ _ _ h => h) (fun Q' hQ hK' hHeld => ?_)
  refine E_take0 hQ (fun _ => hHeld) 0 (v := ?dv1) rfl rfl (by kernel_rfl) (by kernel_rfl) (by kernel_rfl) (by decide) (by rfl) ?dy1 ?dr1
  case dy1 => (intro w; go_simp; (try with_reducible rfl))
  (try simp only [Act.put, List.setIfInBounds_toArray, List.set_cons_zero, List.set_cons_succ])
  refine E_take0 hQ (fun _ => hHeld) 1 (v := ?dv2) rfl rfl (by kernel_rfl) (by kernel_rfl) (by kernel_rfl) (by decide) (by rfl) ?dy2 ?dr2
  case dy2 => (intro w; go_simp; (try with_reducible rfl))
  (try simp only [Act.put, List.setIfInBounds_toArray, List.set_cons_zero, List.set_cons_succ])
  refine E_take hQ hHeld 2 (v := ?dv3) rfl rfl (by kernel_rfl) (by kernel_rfl) (by kernel_rfl) (by kernel_rfl) (by kernel_rfl) (by rfl) ?dy3 ?dr3
  case dy3 => (intro w hSw; (try dsimp only at hSw); go_simp; (try with_reducible rfl))
  (try simp only [Act.put, List.setIfInBounds_toArray, List.set_cons_zero, List.set_cons_succ])
  refine E_take0 hQ (fun _ => hHeld) 3 (v := ?dv4) rfl rfl (by kernel_rfl) (by kernel_rfl) (by kernel_rfl) (by decide) (by rfl) ?dy4 ?dr4
  case dy4 => (intro w; go_simp; (try with_reducible rfl))
  (try simp only [Act.put, List.setIfInBounds_toArray, List.set_cons_zero, List.set_cons_succ])
  refine E_take0 hQ (fun _ => hHeld) 4 (v := ?dv5) rfl rfl (by kernel_rfl) (by kernel_rfl) (by kernel_rfl) (by decide) (by rfl) ?dy5 ?dr5
  case dy5 => (intro w; go_simp; (try with_reducible rfl))
  (try simp only [Act.put, List.setIfInBounds_toArray, List.set_cons_zero, List.set_cons_succ])
  refine E_take hQ hHeld 5 (v := ?dv6) rfl rfl (by kernel_rfl) (by kernel_rfl) (by kernel_rfl) (by kernel_rfl) (by kernel_rfl) (by rfl) ?dy6 ?dr6
  case dy6 => (intro w hSw; (try dsimp only at hSw); go_simp; (try with_reducible rfl))
  (try simp only [Act.put, List.setIfInBounds_toArray, List.set_cons_zero, List.set_cons_succ])
  refine E_one 6 (by kernel_rfl) rfl (by rfl) (fun K hK => ?_)
  go_simp
  refine (dnumber_any s.limit _).mono ?_
  rintro e wa7 ⟨rfl, hbwa7⟩
  have HDwa7 := Lib.hid hbwa7
  have hbwa7 : Below wb6.heap.size wb6 wa7 := ((Below.refl _ wb6).drew).trans hbwa7
  (skip)
  refine hK.out _ _ (fun _ _ => held1 hHeld HDwa7.out) (fun hHeld' => ?_)
  replace hHeld := hHeld' (by rfl) (by decide)
  clear hK hHeld'
  (try simp only [Act.put, List.setIfInBounds_toArray, List.set_cons_zero, List.set_cons_succ])
  refine E_one 7 (by kernel_rfl) rfl (by rfl) (fun K hK => ?_)
  go_simp
  refine (put_any (hasLimit s) (w.heap.size + 2) (w.heap.size + 2 + 2) wb6.heap.size sLimit (numT s.limit) (consIf (hasRetry s) (consIf (hasAfter s) (consIf (hasUndo s) [sName, sAction] sUndo) sAfter) sRetry) (consIf (hasRetry s) (consIf (hasAfter s) (consIf (hasUndo s) [scalarT s.name, scalarT s.action] (scalarT s.undo)) (seqT (s.after.map scalarT))) (retryT s.most s.first s.factor)) _ wb6 wa7 HBwb6.out hbwa7 (Nat.le_refl _) (num_node _ _ _) (by decide) (Nat.le_trans (consIf_le (consIf_le (consIf_le (Nat.le_refl 2)))) (by decide)) (Nat.le_trans (consIf_le (consIf_le (consIf_le (Nat.le_refl 2)))) (by decide))).mono ?_
  rintro e wb7 ⟨rfl, hB', hb'⟩
  have hlewb7 := HBwb6.out.le
  have hN' : Below (w.heap.size + 2) wz wb7 := (HNwb6.out.trans (hbwa7.mono (by omega))).trans hb'
  obtain ⟨x0, x1, x2, x3, x4, x5, x6, x7, x8, x9, x10, x11, x12⟩ := at13_block ((hN'.block _ (by omega)).trans G0.out)
  have HBwb7 := Lib.hid hB'
  have HNwb7 := Lib.hid hN'
  clear hB' hb' hN' hbwa7
  (skip)
  refine hK.out _ _ (fun _ h => absurd rfl h) (fun _ => ?_)
  clear hK hHeld
  (try simp only [Act.put, List.setIfInBounds_toArray, List.set_cons_zero, List.set_cons_succ])
  refine E_done (by kernel_rfl) ?_ _
  refine hK'.out _ _ ?_
  go_wp2
  refine E_region (S := (fun W => W.cell? ⟨w.heap.size, 8, none⟩ = some (.int .u8 (s.note.kind : Int)) ∧ W.cell? ⟨w.heap.size, 9, none⟩ = some (.string s.note.text) ∧ W.cell? ⟨w.heap.size, 10, none⟩ = some (.slice ka s.note.keys.length kc) ∧ W.cell? ⟨w.heap.size, 11, none⟩ = some (.slice ba s.note.kids.length bc) ∧ W.cell? ⟨w.heap.size, 12, none⟩ = some (.int .i64 s.note.line))) 7 (by kernel_rfl) ⟨x8, x9, x10, x11, x12⟩ (fun _ _ _ _ _ h => h) (fun Q' hQ hK' hHeld => ?_)
  refine E_take0 hQ (fun _ => hHeld) 0 (v := ?zv1) rfl rfl (by kernel_rfl) (by kernel_rfl) (by kernel_rfl) (by decide) (by rfl) ?zy1 ?zr1
  case zy1 => (intro w; go_simp; (try with_reducible rfl))
  (try simp only [Act.put, List.setIfInBounds_toArray, List.set_cons_zero, List.set_cons_succ])
  refine E_take0 hQ (fun _ => hHeld) 1 (v := ?zv2) rfl rfl (by kernel_rfl) (by kernel_rfl) (by kernel_rfl) (by decide) (by rfl) ?zy2 ?zr2
  case zy2 => (intro w; go_simp; (try with_reducible rfl))
  (try simp only [Act.put, List.setIfInBounds_toArray, List.set_cons_zero, List.set_cons_succ])
  refine E_take hQ hHeld 2 (v := ?zv3) rfl rfl (by kernel_rfl) (by kernel_rfl) (by kernel_rfl) (by kernel_rfl) (by kernel_rfl) (by rfl) ?zy3 ?zr3
  case zy3 => (intro w hSw; (try dsimp only at hSw); go_simp; (try with_reducible rfl))
  (try simp only [Act.put, List.setIfInBounds_toArray, List.set_cons_zero, List.set_cons_succ])
  refine E_take0 hQ (fun _ => hHeld) 4 (v := ?zv4) rfl rfl (by kernel_rfl) (by kernel_rfl) (by kernel_rfl) (by decide) (by rfl) ?zy4 ?zr4
  case zy4 => (intro w; go_simp; (try with_reducible rfl))
  (try simp only [Act.put, List.setIfInBounds_toArray, List.set_cons_zero, List.set_cons_succ])
  refine E_take hQ hHeld 5 (v := ?zv5) rfl rfl (by kernel_rfl) (by kernel_rfl) (by kernel_rfl) (by kernel_rfl) (by kernel_rfl) (by rfl) ?zy5 ?zr5
  case zy5 => (intro w hSw; (try dsimp only at hSw); go_simp; (try with_reducible rfl))
  (try simp only [Act.put, List.setIfInBounds_toArray, List.set_cons_zero, List.set_cons_succ])
  refine E_one 3 (by kernel_rfl) rfl (by rfl) (fun K hK => ?_)
  go_simp
  refine (note_any s.note _ _ (HNO.out.belowW ((HB0.out.trans (HNwb7.out.mono (by omega))).drew))).mono ?_
  rintro e wn ⟨rfl, hbn⟩
  have HDn := Lib.hid hbn
  have hbn : Below wb7.heap.size wb7 wn := ((Below.refl _ wb7).drew).trans hbn
  have HBN := Lib.hid hbn
  have hsn := hbn.size
  clear hbn
  (skip)
  refine hK.out _ _ (fun _ _ => heldN5 hHeld HDn.out) (fun hHeld' => ?_)
  replace hHeld := hHeld' (by rfl) (by decide)
  clear hK hHeld'
  (try simp only [Act.put, List.setIfInBounds_toArray, List.set_cons_zero, List.set_cons_succ])
  refine E_one 6 (by kernel_rfl) rfl (by rfl) (fun K hK => ?_)
  go_simp
  refine (Copy_any s.note _ wn (HNO.out.belowW ((HB0.out.trans (HNwb7.out.mono (by omega))).trans (HBN.out.mono (by have h1 := HB0.out.size; have h2 := HNwb7.out.size; omega)))) HSM.out.note).mono ?_
  rintro e wa8 ⟨cs8, rfl, hn8, hbwa8⟩
  obtain ⟨ka8, kc8, ba8, bc8, rfl⟩ := hn8.cells
  have HNK8 := Lib.hid hn8
  have HD8 := Lib.hid hbwa8
  have hbwa8 : Below wb7.heap.size wb7 wa8 := HBN.out.trans (hbwa8.mono hsn)
  clear hn8
  (skip)
  refine hK.out _ _ (fun _ _ => heldN5 hHeld HD8.out) (fun hHeld' => ?_)
  replace hHeld := hHeld' (by rfl) (by decide)
  clear hK hHeld'
  (try simp only [Act.put, List.setIfInBounds_toArray, List.set_cons_zero, List.set_cons_succ])
  refine E_one 7 (by kernel_rfl) rfl (by rfl) (fun K hK => ?_)
  go_simp
  refine (put_any (hasNote s) (w.heap.size + 2) (w.heap.size + 2 + 2) wn.heap.size sNote (s.note) (consIf (hasLimit s) (consIf (hasRetry s) (consIf (hasAfter s) (consIf (hasUndo s) [sName, sAction] sUndo) sAfter) sRetry) sLimit) (consIf (hasLimit s) (consIf (hasRetry s) (consIf (hasAfter s) (consIf (hasUndo s) [scalarT s.name, scalarT s.action] (scalarT s.undo)) (seqT (s.after.map scalarT))) (retryT s.most s.first s.factor)) (numT s.limit)) _ wb7 wa8 HBwb7.out hbwa8 hsn HNK8.out (by decide) (Nat.le_trans (consIf_le (consIf_le (consIf_le (consIf_le (Nat.le_refl 2))))) (by decide)) (Nat.le_trans (consIf_le (consIf_le (consIf_le (consIf_le (Nat.le_refl 2))))) (by decide))).mono ?_
  rintro e wb8 ⟨rfl, hB', hb'⟩
  have hlewb8 := HBwb7.out.le
  have hN' : Below (w.heap.size + 2) wz wb8 := (HNwb7.out.trans (hbwa8.mono (by omega))).trans hb'
  obtain ⟨x0, x1, x2, x3, x4, x5, x6, x7, x8, x9, x10, x11, x12⟩ := at13_block ((hN'.block _ (by omega)).trans G0.out)
  have HBwb8 := Lib.hid hB'
  have HNwb8 := Lib.hid hN'
  clear hB' hb' hN' hbwa8
  (skip)
  refine hK.out _ _ (fun _ h => absurd rfl h) (fun _ => ?_)
  clear hK hHeld
  (try simp only [Act.put, List.setIfInBounds_toArray, List.set_cons_zero, List.set_cons_succ])
  refine E_done (by kernel_rfl) ?_ _
  refine hK'.out _ _ ?_
  clear x0 x1 x2 x3 x4 x5 x6 x7 x8 x9 x10 x11 x12
  obtain ⟨kaF, kcF, baF, bcF, hno, n0, n1, n2, n3, n4⟩ := HBwb8.out.cells
  rw [show (consIf (hasNote s) (consIf (hasLimit s) (consIf (hasRetry s) (consIf (hasAfter s) (consIf (hasUndo s) [sName, sAction] sUndo) sAfter) sRetry) sLimit) sNote) = stepKs s from rfl, show (consIf (hasNote s) (consIf (hasLimit s) (consIf (hasRetry s) (consIf (hasAfter s) (consIf (hasUndo s) [scalarT s.name, scalarT s.action] (scalarT s.undo)) (seqT (s.after.map scalarT))) (retryT s.most s.first s.factor)) (numT s.limit)) (s.note)) = stepCs s from rfl] at *
  have HNOF := Lib.hid hno
  have g1 := (HNwb8.out.block _ (by omega)).trans G1.out
  have HG := Lib.hid g1
  obtain ⟨q0, q1, q2, q3, q4⟩ := cells5 g1
  obtain ⟨f0, f1, f2, f3, f4⟩ := cells5w g1
  clear g1 hno
  go_wp2
  have hset := set5w (x0 := .int .u8 3) (x1 := .string { data := #[] }) (x2 := .slice kaF (stepKs s).length kcF) (x3 := .slice baF (stepCs s).length bcF) (x4 := .int .i64 0) HG.out
  have hbf := set5w_below (x0 := .int .u8 3) (x1 := .string { data := #[] }) (x2 := .slice kaF (stepKs s).length kcF) (x3 := .slice baF (stepCs s).length bcF) (x4 := .int .i64 0) (HB0.out.trans (HNwb8.out.mono (by omega))) (B := w.heap.size + 1) (by omega)
  have hof : ∀ g, g ≠ w.heap.size + 1 → (((((wb8.setCell ⟨w.heap.size + 1, 0, none⟩ (.int .u8 3)).setCell ⟨w.heap.size + 1, 1, none⟩ (.string { data := #[] })).setCell ⟨w.heap.size + 1, 2, none⟩ (.slice kaF (stepKs s).length kcF)).setCell ⟨w.heap.size + 1, 3, none⟩ (.slice baF (stepCs s).length bcF)).setCell ⟨w.heap.size + 1, 4, none⟩ (.int .i64 0)).heap[g]? = wb8.heap[g]? := fun g hg => set5w_other hg
  have hsf : (((((wb8.setCell ⟨w.heap.size + 1, 0, none⟩ (.int .u8 3)).setCell ⟨w.heap.size + 1, 1, none⟩ (.string { data := #[] })).setCell ⟨w.heap.size + 1, 2, none⟩ (.slice kaF (stepKs s).length kcF)).setCell ⟨w.heap.size + 1, 3, none⟩ (.slice baF (stepCs s).length bcF)).setCell ⟨w.heap.size + 1, 4, none⟩ (.int .i64 0)).heap.size = wb8.heap.size := by simp
  clear q0 q1 q2 q3 q4 f0 f1 f2 f3 f4 n0 n1 n2 n3 n4
  generalize (((((wb8.setCell ⟨w.heap.size + 1, 0, none⟩ (.int .u8 3)).setCell ⟨w.heap.size + 1, 1, none⟩ (.string { data := #[] })).setCell ⟨w.heap.size + 1, 2, none⟩ (.slice kaF (stepKs s).length kcF)).setCell ⟨w.heap.size + 1, 3, none⟩ (.slice baF (stepCs s).length bcF)).setCell ⟨w.heap.size + 1, 4, none⟩ (.int .i64 0)) = wf at *
  obtain ⟨y0, y1, y2, y3, y4⟩ := cells5 hset
  have HOF := Lib.hid hof
  have HSF := Lib.hid hsf
  have HBF := Lib.hid hbf
  clear hof hsf hbf hset
  refine bodyPost_ret (v := .agg #[.int .u8 3, .string { data := #[] }, .slice kaF (stepKs s).length kcF, .slice baF (stepCs s).length bcF, .int .i64 0]) (by simp [results, Try.results18, go_sem, y0, y1, y2, y3, y4]) rfl ?_
  refine ⟨_, rfl, HNOF.out.keep (fun g hP _ => HOF.out g (by have := hP.1; omega)) (fun g hP => ⟨by have := hP.1; omega, by have := hP.2; have := HSF.out; omega⟩), HBF.out⟩
end Go.Proofs.Ytgafjjgnbcjmpaa

/-
  def.Tree: contract.
-/
namespace Go.Proofs.Ytgafjjgnbcjmpaa
open Go Go.RowKit Go.WideShapes

/-- What a builder may write: its two blocks, and those that came before. -/
def Zb (lo N B0 g : Nat) : Prop := g < lo ∨ N ≤ g ∧ g < B0
/-- A builder whose kids may be older than it is. -/
structure Built2 (w : World) (lo N B0 : Nat) (keys : List ByteArray) (kids : List Tree) : Prop where
  ex : ∃ vk vc, MapB w B0 (Zb lo N B0) vk vc keys kids ∧ Bld w N (N + 1) 3 { data := #[] } vk vc 0
  lt : N + 1 < B0
  lo : lo ≤ N
  le : B0 ≤ w.heap.size
theorem Built2.below {w w' : World} {lo N B0 : Nat} {keys : List ByteArray} {kids : List Tree} (h : Built2 w lo N B0 keys kids) (hb : Below w.heap.size w w') : Built2 w' lo N B0 keys kids := by
  obtain ⟨vk, vc, h1, h2⟩ := h.ex
  exact ⟨⟨vk, vc, h1.below hb, h2.below hb⟩, h.lt, h.lo, by have := h.le; have := hb.size; omega⟩
theorem put_any2 (b : Bool) (lo N B0 s : Nat) (key : ByteArray) (kid : Tree) (keys : List ByteArray) (kids : List Tree) (cs : List Value) (w w1 : World)
    (hm : Built2 w lo N B0 keys kids) (hb : Below w.heap.size w w1) (hs : w.heap.size ≤ s) (hkid : NodeO w1 (fun g => inSpan lo N g ∨ inSpan s w1.heap.size g) cs kid) (hkey : key.size ≤ maxLen) (hk1 : keys.length ≤ 19) (hk2 : kids.length ≤ 19) :
    Calls Try.prog 44 #[.bool b, .string key, .agg cs.toArray, .pointer (some ⟨N + 1, 0, none⟩)] w1 fun e w' => e = .returned (.tuple #[]) ∧ Built2 w' lo N B0 (consIf b keys key) (consIf b kids kid) ∧ Below N w1 w' := by
  obtain ⟨vk, vc, hm1, hm2⟩ := hm.ex
  have hlt := hm.lt
  have hle := hm.le
  have hlo := hm.lo
  have hsz := hb.size
  cases b with
  | false =>
    refine (put_no N (N + 1) key kid cs _ w1 hkid).mono ?_
    rintro e w2 ⟨rfl, hb2⟩
    refine ⟨rfl, ?_, hb2.mono (by omega)⟩
    simp only [consIf, Bool.false_eq_true, if_false]
    exact (hm.below hb).below hb2
  | true =>
    have hm3 := hm1.below hb
    have ho : ∀ g, (vk.ownBlock = some g ∨ vc.ownBlock = some g) → B0 ≤ g ∧ g < w.heap.size := by
      intro g hg
      rcases hg with hg | hg
      · exact hm1.kown.lt g hg
      · obtain ⟨rows, _, h2, _⟩ := hm1.cown; exact h2.lt g hg
    have hk3 : NodeO w1 (okB (Zb lo N B0) w1 vk vc) cs kid := hkid.keep (fun _ _ _ => rfl) (fun g hg => by
      rcases hg with hg | hg
      · have h1 := hg.1; have h2 := hg.2
        exact ⟨by omega, fun hz => by rcases hz with hz | hz <;> omega, fun e => by have := (ho g (.inl e)).1; omega, fun e => by have := (ho g (.inr e)).1; omega⟩
      · have h1 := hg.1; have h2 := hg.2
        exact ⟨h2, fun hz => by rcases hz with hz | hz <;> omega, fun e => by have := (ho g (.inl e)).2; omega, fun e => by have := (ho g (.inr e)).2; omega⟩)
    refine (put_yes N (N + 1) B0 N (Zb lo N B0) key kid keys kids vk vc cs 3 { data := #[] } 0 w1 hm3 (hm2.below hb) hk3 (.inr ⟨by omega, by omega⟩) (.inr ⟨by omega, by omega⟩) (fun g hg => by rcases hg with hg | hg <;> omega) (by omega) (Nat.le_refl _) (by omega) (by omega) (by omega) (by omega) hkey).mono ?_
    rintro e w2 ⟨rfl, vk', vc', h1, h2, h3⟩
    exact ⟨rfl, ⟨⟨vk', vc', by simpa only [consIf, if_true] using h1, h2⟩, hlt, hlo, by have := h3.size; omega⟩, h3⟩
theorem builder_new2 (lo N : Nat) (W : World) (hN : W.heap.size = N) (hlo : lo ≤ N) :
    Calls Try.prog 19 #[] W fun e w' => e = .returned (.tuple #[.pointer (some ⟨N, 0, none⟩), .func (.func 44) #[] #[.pointer (some ⟨N + 1, 0, none⟩)]]) ∧ Built2 w' lo N (N + 2) [] [] ∧ Below N W w' := by
  refine (builder_new N W hN).mono ?_
  rintro e w' ⟨rfl, hB, hb⟩
  obtain ⟨vk, vc, h1, h2⟩ := hB.ex
  obtain ⟨ka, kc, ba, bc, rfl, rfl⟩ := h1.form
  refine ⟨rfl, ⟨⟨_, _, ⟨h1.kown, ?_, fun g hg hz => ?_, fun g hg hz => ?_, by simp⟩, h2⟩, by omega, hlo, hB.le⟩, hb⟩
  · obtain ⟨rows, e1, e2, e3⟩ := h1.cown
    exact ⟨rows, e1, e2, fun i r x hr hx => by simp at hx⟩
  · have := h1.kZ g hg; have h5 := (h1.kown.lt g hg).1
    rcases hz with hz | hz
    · omega
    · omega
  · obtain ⟨rows, e1, e2, e3⟩ := h1.cown
    have h5 := (e2.lt g hg).1
    rcases hz with hz | hz
    · omega
    · omega
theorem Built2.cells {w : World} {lo N B0 : Nat} {keys : List ByteArray} {kids : List Tree} (h : Built2 w lo N B0 keys kids) : ∃ ka kc ba bc, NodeO w (inSpan lo w.heap.size) [.int .u8 3, .string { data := #[] }, .slice ka keys.length kc, .slice ba kids.length bc, .int .i64 0] (.mk 3 { data := #[] } keys kids 0) ∧
    w.cell? ⟨N, 0, none⟩ = some (.int .u8 3) ∧ w.cell? ⟨N, 1, none⟩ = some (.string { data := #[] }) ∧ w.cell? ⟨N, 2, none⟩ = some (.slice ka keys.length kc) ∧ w.cell? ⟨N, 3, none⟩ = some (.slice ba kids.length bc) ∧ w.cell? ⟨N, 4, none⟩ = some (.int .i64 0) := by
  obtain ⟨vk, vc, h1, h2⟩ := h.ex
  obtain ⟨ka, kc, ba, bc, rfl, rfl⟩ := h1.form
  have h3 := cells5 h2.node
  refine ⟨ka, kc, ba, bc, h1.node (P := inSpan lo w.heap.size) (fun g hg hz => ⟨?_, hg⟩) (k := 3) (by decide) (by simp [ByteArray.size]) (by decide), h3⟩
  rcases Nat.lt_or_ge g lo with h4 | h4
  · exact absurd (.inl h4) hz
  · exact h4
def hasText (d : DefD) : Bool := !d.text.toList.isEmpty
def defKs (d : DefD) : List ByteArray := consIf (hasText d) [sSaga] sText ++ [sSteps]
def defCs (d : DefD) : List Tree := consIf (hasText d) [scalarT d.name] (scalarT d.text) ++ [seqT (d.steps.map stepT)]
/-- A definition's tree. -/
def defT (d : DefD) : Tree := mapT (defKs d) (defCs d)
theorem held14 {W W' : World} {p : Addr} {g : Nat} {v c0 c1 c2 c3 c4 c5 c6 c7 c8 c9 c10 c11 c12 : Value} (h : W.cell? p = some v ∧ W.cell? ⟨g, 0, none⟩ = some c0 ∧ W.cell? ⟨g, 1, none⟩ = some c1 ∧ W.cell? ⟨g, 2, none⟩ = some c2 ∧ W.cell? ⟨g, 3, none⟩ = some c3 ∧ W.cell? ⟨g, 4, none⟩ = some c4 ∧ W.cell? ⟨g, 5, none⟩ = some c5 ∧ W.cell? ⟨g, 6, none⟩ = some c6 ∧ W.cell? ⟨g, 7, none⟩ = some c7 ∧ W.cell? ⟨g, 8, none⟩ = some c8 ∧ W.cell? ⟨g, 9, none⟩ = some c9 ∧ W.cell? ⟨g, 10, none⟩ = some c10 ∧ W.cell? ⟨g, 11, none⟩ = some c11 ∧ W.cell? ⟨g, 12, none⟩ = some c12) (hb : Below W.heap.size W W') : W'.cell? p = some v ∧ W'.cell? ⟨g, 0, none⟩ = some c0 ∧ W'.cell? ⟨g, 1, none⟩ = some c1 ∧ W'.cell? ⟨g, 2, none⟩ = some c2 ∧ W'.cell? ⟨g, 3, none⟩ = some c3 ∧ W'.cell? ⟨g, 4, none⟩ = some c4 ∧ W'.cell? ⟨g, 5, none⟩ = some c5 ∧ W'.cell? ⟨g, 6, none⟩ = some c6 ∧ W'.cell? ⟨g, 7, none⟩ = some c7 ∧ W'.cell? ⟨g, 8, none⟩ = some c8 ∧ W'.cell? ⟨g, 9, none⟩ = some c9 ∧ W'.cell? ⟨g, 10, none⟩ = some c10 ∧ W'.cell? ⟨g, 11, none⟩ = some c11 ∧ W'.cell? ⟨g, 12, none⟩ = some c12 :=
  ⟨cellB hb h.1, cellB hb h.2.1, cellB hb h.2.2.1, cellB hb h.2.2.2.1, cellB hb h.2.2.2.2.1, cellB hb h.2.2.2.2.2.1, cellB hb h.2.2.2.2.2.2.1, cellB hb h.2.2.2.2.2.2.2.1, cellB hb h.2.2.2.2.2.2.2.2.1, cellB hb h.2.2.2.2.2.2.2.2.2.1, cellB hb h.2.2.2.2.2.2.2.2.2.2.1, cellB hb h.2.2.2.2.2.2.2.2.2.2.2.1, cellB hb h.2.2.2.2.2.2.2.2.2.2.2.2.1, cellB hb h.2.2.2.2.2.2.2.2.2.2.2.2.2⟩

set_option maxRecDepth 100000 in
set_option maxHeartbeats 4000000 in
theorem dTree_any (d : DefD) (cs : List Value) (sa : Option Addr) (sc : Nat) (w : World) (h : DefR w cs d sa sc) (hs : SmallD d) :
    Calls Try.prog 7 #[.agg cs.toArray] w fun e w' => ∃ cs' : List Value, e = .returned (.agg cs'.toArray) ∧ NodeO w' (inSpan w.heap.size w'.heap.size) cs' (defT d) ∧ Below w.heap.size w w' := by
  obtain ⟨i0, hi, hz0, hz1, hz2⟩ := info_parts Try.info_node
  obtain ⟨rfl, hnm, htx, hst⟩ := h
  have HST := Lib.hid hst
  have HSM := Lib.hid hs
  have hds := hs.steps
  clear hst hs
  go_enter Try.func7, Try.ntmps7
  go_wp2_with fail
  obtain ⟨hb0, g0, g1, hsz⟩ := alloc2 w 24 34 #[.string d.name, .string d.text, .slice sa d.steps.length sc] #[.int .u8 0, .string { data := #[] }, .slice none 0 0, .slice none 0 0, .int .i64 0]
  generalize hwz : (w.alloc (.cells #[.string d.name, .string d.text, .slice sa d.steps.length sc] 24)).alloc (.cells #[.int .u8 0, .string { data := #[] }, .slice none 0 0, .slice none 0 0, .int .i64 0] 34) = wz at *
  have HSZ := Lib.hid hsz
  have HB0 := Lib.hid hb0
  have G0 := Lib.hid g0
  have G1 := Lib.hid g1
  clear hsz hb0 g0 g1 hwz
  refine (drow_any [] (.slice none 0 0) wz ⟨rfl, none, 0, rfl, Nat.le_refl _, Nat.zero_le _, .inl rfl⟩ (by simp) (by simp)).mono ?_
  rintro e w1 ⟨cs1, rfl, -, hcs1, hb1⟩
  obtain rfl := hcs1 rfl
  have hN1 : Below (w.heap.size + 2) wz w1 := hb1.mono (by have := HSZ.out; omega)
  have hlt1 : w.heap.size < w1.heap.size := by have := hN1.size; have := HSZ.out; omega
  have hb2 : Below w1.heap.size w1 (w1.alloc (.cells #[.int .u8 2, .string { data := #[] }, .slice none 0 0, .slice none 0 0, .int .i64 0] 34)) := (Below.refl _ _).alloc (Nat.le_refl _) _
  obtain ⟨x0, x1, x2⟩ := cells3 ((hb2.block _ hlt1).trans ((hN1.block _ (by omega)).trans G0.out))
  have HN1 := Lib.hid hN1
  have HB2 := Lib.hid hb2
  clear hcs1 hb1 hN1 hb2
  go_wp2
  have hsq0 := World.alloc_heap_new w1 (.cells #[.int .u8 2, .string { data := #[] }, .slice none 0 0, .slice none 0 0, .int .i64 0] 34)
  have hsz2 : (w1.alloc (.cells #[.int .u8 2, .string { data := #[] }, .slice none 0 0, .slice none 0 0, .int .i64 0] 34)).heap.size = w1.heap.size + 1 := by simp
  clear x0 x1 x2
  generalize w1.alloc (.cells #[.int .u8 2, .string { data := #[] }, .slice none 0 0, .slice none 0 0, .int .i64 0] 34) = w2 at *
  have HSQ := Lib.hid (SeqB.new (B0 := w1.heap.size + 1) hsq0 (by omega) (by omega))
  have HSZ2 := Lib.hid hsz2
  clear hsq0 hsz2
  have hle1 : w.heap.size + 2 ≤ w1.heap.size := by have := HN1.out.size; have := HSZ.out; omega
  go_loopw [12] (fun i wr => ∃ (j : Nat) (vc : Value), j ≤ d.steps.length ∧ i = .int .i64 j ∧ Hid (SeqB wr w1.heap.size (w1.heap.size + 1) vc ((d.steps.take j).map stepT)) ∧ Hid (Below w1.heap.size w2 wr)) (fun i _ => d.steps.length - (intOf i).toNat)
  case atStart => exact ⟨0, _, by omega, rfl, HSQ, Lib.hid (Below.refl _ _)⟩
  case round =>
    obtain ⟨j, vc, hj, rfl, HR, HB⟩ := hrel
    have hbw : Below w.heap.size w wr := HB0.out.trans ((HN1.out.mono (by omega)).trans ((HB2.out.mono (by omega)).trans (HB.out.mono (by omega))))
    have HBW := Lib.hid hbw
    by_cases hlt : j < d.steps.length
    · obtain ⟨g, off, cap, aa, ac, ka, kc, ba, bc, he, q1, q2, hsr, ⟨a0, a1, a2, a3, a4, a5, a6, a7, a8, a9, a10, a11, a12⟩⟩ := (HST.out.below hbw).at hlt
      cases he
      have hO := HR.out.at'
      have hA : Below wr.heap.size wr (wr.alloc (.cells #[.string d.steps[j].name, .string d.steps[j].action, .string d.steps[j].undo, .slice aa d.steps[j].after.length ac, .int .i64 d.steps[j].most, .int .i64 d.steps[j].first, .int .i64 d.steps[j].factor, .int .i64 d.steps[j].limit, .int .u8 (d.steps[j].note.kind : Int), .string d.steps[j].note.text, .slice ka d.steps[j].note.keys.length kc, .slice ba d.steps[j].note.kids.length bc, .int .i64 d.steps[j].note.line] 45)) := (Below.refl _ _).alloc (Nat.le_refl _) _
      have hKB := World.alloc_heap_new wr (.cells #[.string d.steps[j].name, .string d.steps[j].action, .string d.steps[j].undo, .slice aa d.steps[j].after.length ac, .int .i64 d.steps[j].most, .int .i64 d.steps[j].first, .int .i64 d.steps[j].factor, .int .i64 d.steps[j].limit, .int .u8 (d.steps[j].note.kind : Int), .string d.steps[j].note.text, .slice ka d.steps[j].note.keys.length kc, .slice ba d.steps[j].note.kids.length bc, .int .i64 d.steps[j].note.line] 45)
      have hszA : (wr.alloc (.cells #[.string d.steps[j].name, .string d.steps[j].action, .string d.steps[j].undo, .slice aa d.steps[j].after.length ac, .int .i64 d.steps[j].most, .int .i64 d.steps[j].first, .int .i64 d.steps[j].factor, .int .i64 d.steps[j].limit, .int .u8 (d.steps[j].note.kind : Int), .string d.steps[j].note.text, .slice ka d.steps[j].note.keys.length kc, .slice ba d.steps[j].note.kids.length bc, .int .i64 d.steps[j].note.line] 45)).heap.size = wr.heap.size + 1 := by simp
      have hOA := (hA.block _ (Array.getElem?_eq_some_iff.1 hO).1).trans hO
      have hOL := (Array.getElem?_eq_some_iff.1 hO).1
      have hrs := HR.out.le
      obtain ⟨xs, hxs⟩ := HR.out.owns
      have HXS := Lib.hid hxs
      have HSR := Lib.hid (hsr.below hA)
      have hj0 : (0 : Int) ≤ (j : Int) := by omega
      have hj1 : (j : Int) < (d.steps.length : Int) := by omega
      have hlk : (d.steps.take j).length = j := by simp; omega
      clear hO hsr hxs hbw
      go_wp2_with fail
      clear a0 a1 a2 a3 a4 a5 a6 a7 a8 a9 a10 a11 a12
      generalize wr.alloc (.cells #[.string d.steps[j].name, .string d.steps[j].action, .string d.steps[j].undo, .slice aa d.steps[j].after.length ac, .int .i64 d.steps[j].most, .int .i64 d.steps[j].first, .int .i64 d.steps[j].factor, .int .i64 d.steps[j].limit, .int .u8 (d.steps[j].note.kind : Int), .string d.steps[j].note.text, .slice ka d.steps[j].note.keys.length kc, .slice ba d.steps[j].note.kids.length bc, .int .i64 d.steps[j].note.line] 45) = wA at *
      obtain ⟨a0, a1, a2, a3, a4, a5, a6, a7, a8, a9, a10, a11, a12⟩ := at13_block hKB
      obtain ⟨-, -, -, x3, -⟩ := cells5 hOA
      have HOA := Lib.hid hOA
      have hOAL := (Array.getElem?_eq_some_iff.1 hOA).1
      have HA := Lib.hid hA
      have HXA := Lib.hid (ownsB HXS.out hA)
      clear hKB hOA hA
      refine E_region (S := (fun W => W.cell? ⟨w1.heap.size, 3, none⟩ = some vc ∧ W.cell? ⟨wr.heap.size, 0, none⟩ = some (.string d.steps[j].name) ∧ W.cell? ⟨wr.heap.size, 1, none⟩ = some (.string d.steps[j].action) ∧ W.cell? ⟨wr.heap.size, 2, none⟩ = some (.string d.steps[j].undo) ∧ W.cell? ⟨wr.heap.size, 3, none⟩ = some (.slice aa d.steps[j].after.length ac) ∧ W.cell? ⟨wr.heap.size, 4, none⟩ = some (.int .i64 d.steps[j].most) ∧ W.cell? ⟨wr.heap.size, 5, none⟩ = some (.int .i64 d.steps[j].first) ∧ W.cell? ⟨wr.heap.size, 6, none⟩ = some (.int .i64 d.steps[j].factor) ∧ W.cell? ⟨wr.heap.size, 7, none⟩ = some (.int .i64 d.steps[j].limit) ∧ W.cell? ⟨wr.heap.size, 8, none⟩ = some (.int .u8 (d.steps[j].note.kind : Int)) ∧ W.cell? ⟨wr.heap.size, 9, none⟩ = some (.string d.steps[j].note.text) ∧ W.cell? ⟨wr.heap.size, 10, none⟩ = some (.slice ka d.steps[j].note.keys.length kc) ∧ W.cell? ⟨wr.heap.size, 11, none⟩ = some (.slice ba d.steps[j].note.kids.length bc) ∧ W.cell? ⟨wr.heap.size, 12, none⟩ = some (.int .i64 d.steps[j].note.line))) 5 (by kernel_rfl) ⟨x3, a0, a1, a2, a3, a4, a5, a6, a7, a8, a9, a10, a11, a12⟩ (fun _ _ _ _ _ h => h) (fun Q' hQ hK' hHeld => ?_)
      refine E_take0 hQ (fun _ => hHeld) 0 (v := ?ev1) rfl rfl (by kernel_rfl) (by kernel_rfl) (by kernel_rfl) (by decide) (by rfl) ?ey1 ?er1
      case ey1 => (intro w; go_simp; (try with_reducible rfl))
      (try simp only [Act.put, List.setIfInBounds_toArray, List.set_cons_zero, List.set_cons_succ])
      refine E_take hQ hHeld 1 (v := ?ev2) rfl rfl (by kernel_rfl) (by kernel_rfl) (by kernel_rfl) (by kernel_rfl) (by kernel_rfl) (by rfl) ?ey2 ?er2
      case ey2 => (intro w hSw; (try dsimp only at hSw); go_simp; (try with_reducible rfl))
      (try simp only [Act.put, List.setIfInBounds_toArray, List.set_cons_zero, List.set_cons_succ])
      refine E_take hQ hHeld 2 (v := ?ev3) rfl rfl (by kernel_rfl) (by kernel_rfl) (by kernel_rfl) (by kernel_rfl) (by kernel_rfl) (by rfl) ?ey3 ?er3
      case ey3 => (intro w hSw; (try dsimp only at hSw); go_simp; (try with_reducible rfl))
      (try simp only [Act.put, List.setIfInBounds_toArray, List.set_cons_zero, List.set_cons_succ])
      refine E_one 3 (by kernel_rfl) rfl (by rfl) (fun K hK => ?_)
      go_simp
      refine (dtree_any d.steps[j] _ aa ka ba ac kc bc _ (HSR.out.below ((Below.refl _ wA).drew)) (HSM.out.each _ (List.getElem_mem hlt))).mono ?_
      rintro e w5 ⟨cs5, rfl, hn5, hb5⟩
      obtain ⟨ka5, kc5, ba5, bc5, rfl⟩ := hn5.cells
      have HBD := Lib.hid hb5
      have hb5 : Below wA.heap.size wA w5 := ((Below.refl _ wA).drew).trans hb5
      have h6 : Below w5.heap.size w5 (w5.alloc (.cells #[.int .u8 ((stepT d.steps[j]).kind : Int), .string (stepT d.steps[j]).text, .slice ka5 (stepT d.steps[j]).keys.length kc5, .slice ba5 (stepT d.steps[j]).kids.length bc5, .int .i64 (stepT d.steps[j]).line] 34)) := (Below.refl _ _).alloc (Nat.le_refl _) _
      have HB6 := Lib.hid (hb5.trans (h6.mono hb5.size))
      have HOW6 := Lib.hid (ownsB HXA.out HB6.out)
      have HNK := Lib.hid (hn5.keep (w' := w5.alloc (.cells #[.int .u8 ((stepT d.steps[j]).kind : Int), .string (stepT d.steps[j]).text, .slice ka5 (stepT d.steps[j]).keys.length kc5, .slice ba5 (stepT d.steps[j]).kids.length bc5, .int .i64 (stepT d.steps[j]).line] 34)) (Q := inSpan wA.heap.size (w5.alloc (.cells #[.int .u8 ((stepT d.steps[j]).kind : Int), .string (stepT d.steps[j]).text, .slice ka5 (stepT d.steps[j]).keys.length kc5, .slice ba5 (stepT d.steps[j]).kids.length bc5, .int .i64 (stepT d.steps[j]).line] 34)).heap.size) (fun g hP hl => h6.block g hl) (fun g hP => ⟨hP.1, by have := hP.2; have := h6.size; omega⟩))
      have H6 := Lib.hid h6
      have hsz5 := hb5.size
      clear h6 hb5 hn5
      (skip)
      refine hK.out _ _ (fun _ _ => held14 hHeld HBD.out) (fun hHeld' => ?_)
      replace hHeld := hHeld' (by rfl) (by decide)
      clear hK hHeld'
      (try simp only [Act.put, List.setIfInBounds_toArray, List.set_cons_zero, List.set_cons_succ])
      refine E_one 4 (by kernel_rfl) rfl (by rfl) (fun K hK => ?_)
      go_simp
      (try simp only [Act.put, List.setIfInBounds_toArray, List.set_cons_zero, List.set_cons_succ])
      refine hK.out _ _ (fun _ _ => held14 hHeld H6.out) (fun hHeld' => ?_)
      replace hHeld := hHeld' (by rfl) (by decide)
      clear hK hHeld'
      (try simp only [Act.put, List.setIfInBounds_toArray, List.set_cons_zero, List.set_cons_succ])
      refine E_one 5 (by kernel_rfl) rfl (by rfl) (fun K hK => ?_)
      refine wp_append_lies _ (.tmp 17) (.tmp 20) 32 (by rfl) (w1.heap.size + 1) 34 i0 (.agg #[.int .u8 0, .string { data := #[] }, .slice none 0 0, .slice none 0 0, .int .i64 0]) 5 80 Try.underlying32 hi hz0 hz1 hz2 rfl (by decide) vc ((d.steps.take j).map stepT).length xs (by rfl) HOW6.out ⟨w5.heap.size, 0, none⟩ 1 1 _ (by rfl) rfl (World.news_of_block (World.alloc_heap_new w5 _)) (by simp [Value.oneCell']) (by omega) (by unfold maxLen; simp; omega) (by simp; omega) (by simp; omega) _ rfl ?_
      intro g7 cap7 w7 hown7 hgrow hat hlt7
      have hx8 := hgrow.block w1.heap.size (by have := H6.out.size; omega) (fun e => by have := (HXS.out.lt _ e.symm).1; omega)
      have hO7 := hx8.trans ((HB6.out.block _ hOAL).trans HOA.out)
      obtain ⟨-, -, -, x7, -⟩ := cells5 hO7
      obtain ⟨-, -, -, f7, -⟩ := cells5w hO7
      have HG7 := Lib.hid hgrow
      have HO7 := Lib.hid hown7
      have HAT := Lib.hid hat
      clear hgrow hown7 hat hx8 hO7
      (try simp only [Act.put, List.setIfInBounds_toArray, List.set_cons_zero, List.set_cons_succ])
      refine hK.out _ _ (fun _ h => absurd rfl h) (fun _ => ?_)
      clear hK hHeld
      (try simp only [Act.put, List.setIfInBounds_toArray, List.set_cons_zero, List.set_cons_succ])
      refine E_take0 hQ (fun h => absurd h (by decide)) 6 (v := ?ev4) rfl rfl (by kernel_rfl) (by kernel_rfl) (by kernel_rfl) (by decide) (by rfl) ?ey4 ?er4
      case ey4 => (intro w; go_simp; (try with_reducible rfl))
      (try simp only [Act.put, List.setIfInBounds_toArray, List.set_cons_zero, List.set_cons_succ])
      refine E_one 7 (by kernel_rfl) rfl (by rfl) (fun K hK => ?_)
      go_simp
      (try simp only [Act.put, List.setIfInBounds_toArray, List.set_cons_zero, List.set_cons_succ])
      refine hK.out _ _ (fun h => absurd h (by decide)) (fun _ => ?_)
      clear hK
      (try simp only [Act.put, List.setIfInBounds_toArray, List.set_cons_zero, List.set_cons_succ])
      refine E_done (by kernel_rfl) ?_ _
      refine hK'.out _ _ ?_
      have HSTP := HR.out.step (HA.out.trans (HB6.out.mono (by omega))) (by omega) HNK.out HG7.out HOW6.out HO7.out (by rcases HAT.out with h | h; exact .inl (by rw [h]; rfl); exact .inr (by rw [h]; rfl))
      have hll : ((d.steps.take j).map stepT).length = j := by rw [List.length_map]; exact hlk
      rw [hll] at HSTP
      have HS1 := Lib.hid HSTP.1
      have HS2 := Lib.hid HSTP.2
      clear HSTP x7 f7 x3 a0 a1 a2 a3 a4 a5 a6 a7 a8 a9 a10 a11 a12
      go_wp2
      go_roundw
      case rel =>
        have e1 : (d.steps.take j).map stepT ++ [stepT d.steps[j]] = (d.steps.take (j + 1)).map stepT := by rw [List.take_succ_eq_append_getElem hlt, List.map_append]; rfl
        rw [e1] at HS1
        exact ⟨j + 1, _, by omega, by go_num, HS1, Lib.hid (HB.out.trans HS2.out)⟩
      case measure => simp [intOf]; omega
    · obtain rfl : j = d.steps.length := by omega
      rw [List.take_length] at HR
      have hg0 : wr.heap[w.heap.size]? = _ := (HB.out.block _ (by omega)).trans ((HB2.out.block _ (by omega)).trans ((HN1.out.block _ (by omega)).trans G0.out))
      have hg1 : wr.heap[w.heap.size + 1]? = _ := (HB.out.block _ (by omega)).trans ((HB2.out.block _ (by omega)).trans ((HN1.out.block _ (by omega)).trans G1.out))
      have hl0 := (Array.getElem?_eq_some_iff.1 hg0).1
      have hl1 := (Array.getElem?_eq_some_iff.1 hg1).1
      have GR0 := Lib.hid hg0
      have GR1 := Lib.hid hg1
      have hrs := HR.out.le
      clear hg0 hg1 hbw
      go_wp2_with fail
      refine (builder_new2 (w.heap.size + 2) wr.heap.size wr rfl (by omega)).mono ?_
      rintro e wb ⟨rfl, hB1, hb1⟩
      have HNB := Lib.hid hb1
      obtain ⟨x0, x1, x2⟩ := cells3 ((hb1.block _ (by omega)).trans GR0.out)
      have HBb := Lib.hid hB1
      clear hB1 hb1
      go_wp2_with fail
      refine (dtext_any d.name _).mono ?_
      rintro e wc ⟨rfl, hbwc⟩
      clear x0 x1 x2
      go_wp2_with fail
      refine (put_any2 true (w.heap.size + 2) wr.heap.size (wr.heap.size + 2) wb.heap.size sSaga (scalarT d.name) [] [] _ wb wc HBb.out hbwc (Nat.le_refl _) (scalar_node _ _ hnm) (by decide) (by simp) (by simp)).mono ?_
      rintro e wd ⟨rfl, hB', hb'⟩
      have hN' : Below wr.heap.size wr wd := (HNB.out.trans (hbwc.mono (by have := HBb.out.le; omega))).trans hb'
      obtain ⟨x0, x1, x2⟩ := cells3 ((hN'.block _ (by omega)).trans GR0.out)
      have HBd := Lib.hid hB'
      have HNd := Lib.hid hN'
      clear hB' hb' hN' hbwc
      go_wp2
      refine E_region (S := (fun W => W.cell? ⟨w.heap.size, 1, none⟩ = some (.string d.text))) 7 (by kernel_rfl) x1 (fun _ _ _ _ _ h => h) (fun Q' hQ hK' hHeld => ?_)
      refine E_take0 hQ (fun _ => hHeld) 0 (v := ?fv1) rfl rfl (by kernel_rfl) (by kernel_rfl) (by kernel_rfl) (by decide) (by rfl) ?fy1 ?fr1
      case fy1 => (intro w; go_simp; (try with_reducible rfl))
      (try simp only [Act.put, List.setIfInBounds_toArray, List.set_cons_zero, List.set_cons_succ])
      refine E_take0 hQ (fun _ => hHeld) 1 (v := ?fv2) rfl rfl (by kernel_rfl) (by kernel_rfl) (by kernel_rfl) (by decide) (by rfl) ?fy2 ?fr2
      case fy2 => (intro w; go_simp; (try with_reducible rfl))
      (try simp only [Act.put, List.setIfInBounds_toArray, List.set_cons_zero, List.set_cons_succ])
      refine E_take hQ hHeld 2 (v := ?fv3) rfl rfl (by kernel_rfl) (by kernel_rfl) (by kernel_rfl) (by kernel_rfl) (by kernel_rfl) (by rfl) ?fy3 ?fr3
      case fy3 => (intro w hSw; (try dsimp only at hSw); go_simp; (try with_reducible rfl))
      (try simp only [Act.put, List.setIfInBounds_toArray, List.set_cons_zero, List.set_cons_succ])
      refine E_take0 hQ (fun _ => hHeld) 3 (v := ?fv4) rfl rfl (by kernel_rfl) (by kernel_rfl) (by kernel_rfl) (by decide) (by rfl) ?fy4 ?fr4
      case fy4 => (intro w; go_simp; (try with_reducible rfl))
      (try simp only [Act.put, List.setIfInBounds_toArray, List.set_cons_zero, List.set_cons_succ])
      refine E_take0 hQ (fun _ => hHeld) 4 (v := ?fv5) rfl rfl (by kernel_rfl) (by kernel_rfl) (by kernel_rfl) (by decide) (by rfl) ?fy5 ?fr5
      case fy5 => (intro w; go_simp; (try with_reducible rfl))
      (try simp only [Act.put, List.setIfInBounds_toArray, List.set_cons_zero, List.set_cons_succ])
      refine E_take hQ hHeld 5 (v := ?fv6) rfl rfl (by kernel_rfl) (by kernel_rfl) (by kernel_rfl) (by kernel_rfl) (by kernel_rfl) (by rfl) ?fy6 ?fr6
      case fy6 => (intro w hSw; (try dsimp only at hSw); go_simp; (try with_reducible rfl))
      (try simp only [Act.put, List.setIfInBounds_toArray, List.set_cons_zero, List.set_cons_succ])
      refine E_one 6 (by kernel_rfl) rfl (by rfl) (fun K hK => ?_)
      go_simp
      refine (dtext_any d.text _).mono ?_
      rintro e we ⟨rfl, hbwe⟩
      have HDe := Lib.hid hbwe
      have hbwe : Below wd.heap.size wd we := ((Below.refl _ wd).drew).trans hbwe
      (skip)
      refine hK.out _ _ (fun _ _ => held1 hHeld HDe.out) (fun hHeld' => ?_)
      replace hHeld := hHeld' (by rfl) (by decide)
      clear hK hHeld'
      (try simp only [Act.put, List.setIfInBounds_toArray, List.set_cons_zero, List.set_cons_succ])
      refine E_one 7 (by kernel_rfl) rfl (by rfl) (fun K hK => ?_)
      go_simp
      refine (put_any2 (hasText d) (w.heap.size + 2) wr.heap.size (wr.heap.size + 2) wd.heap.size sText (scalarT d.text) [sSaga] [scalarT d.name] _ wd we HBd.out hbwe (Nat.le_refl _) (scalar_node _ _ htx) (by decide) (by simp) (by simp)).mono ?_
      rintro e wf ⟨rfl, hB', hb'⟩
      have hN' : Below wr.heap.size wr wf := (HNd.out.trans (hbwe.mono (by have := HBd.out.le; omega))).trans hb'
      have HBf := Lib.hid hB'
      have HNf := Lib.hid hN'
      clear hB' hb' hN' hbwe
      (skip)
      refine hK.out _ _ (fun _ h => absurd rfl h) (fun _ => ?_)
      clear hK hHeld
      (try simp only [Act.put, List.setIfInBounds_toArray, List.set_cons_zero, List.set_cons_succ])
      refine E_done (by kernel_rfl) ?_ _
      refine hK'.out _ _ ?_
      obtain ⟨baS, bcS, rfl⟩ := HR.out.form
      rw [List.length_map] at *
      have hso := (HNf.out.block w1.heap.size (by omega)).trans HR.out.at'
      obtain ⟨y0, y1, y2, y3, y4⟩ := cells5 hso
      have HNS := Lib.hid (HR.out.node.keep (w' := wf) (Q := fun g => inSpan (w.heap.size + 2) wr.heap.size g ∨ inSpan wf.heap.size wf.heap.size g) (fun g hP hl => HNf.out.block g hl) (fun g hP => .inl ⟨by have := hP.1; omega, hP.2⟩))
      clear x0 x1 x2 hso
      go_wp2_with fail
      refine (put_any2 true (w.heap.size + 2) wr.heap.size (wr.heap.size + 2) wf.heap.size sSteps (seqT (d.steps.map stepT)) (consIf (hasText d) [sSaga] sText) (consIf (hasText d) [scalarT d.name] (scalarT d.text)) _ wf wf HBf.out (Below.refl _ _) (Nat.le_refl _) HNS.out (by decide) (Nat.le_trans (consIf_le (Nat.le_refl 1)) (by decide)) (Nat.le_trans (consIf_le (Nat.le_refl 1)) (by decide))).mono ?_
      rintro e wg ⟨rfl, hB', hb'⟩
      have hN' : Below wr.heap.size wr wg := HNf.out.trans hb'
      obtain ⟨kaF, kcF, baF, bcF, hno, n0, n1, n2, n3, n4⟩ := hB'.cells
      rw [show consIf true (consIf (hasText d) [sSaga] sText) sSteps = defKs d from rfl, show consIf true (consIf (hasText d) [scalarT d.name] (scalarT d.text)) (seqT (d.steps.map stepT)) = defCs d from rfl] at *
      have HNOF := Lib.hid hno
      have g1 := (hN'.block _ (by omega)).trans GR1.out
      have HG := Lib.hid g1
      have HNG := Lib.hid hN'
      obtain ⟨q0, q1, q2, q3, q4⟩ := cells5 g1
      obtain ⟨f0, f1, f2, f3, f4⟩ := cells5w g1
      clear g1 hno hB' hb' hN' y0 y1 y2 y3 y4
      go_wp2
      have hset := set5w (x0 := .int .u8 3) (x1 := .string { data := #[] }) (x2 := .slice kaF (defKs d).length kcF) (x3 := .slice baF (defCs d).length bcF) (x4 := .int .i64 0) HG.out
      have hbf := set5w_below (x0 := .int .u8 3) (x1 := .string { data := #[] }) (x2 := .slice kaF (defKs d).length kcF) (x3 := .slice baF (defCs d).length bcF) (x4 := .int .i64 0) (HBW.out.trans (HNG.out.mono (by omega))) (B := w.heap.size + 1) (by omega)
      have hof : ∀ g, g ≠ w.heap.size + 1 → (((((wg.setCell ⟨w.heap.size + 1, 0, none⟩ (.int .u8 3)).setCell ⟨w.heap.size + 1, 1, none⟩ (.string { data := #[] })).setCell ⟨w.heap.size + 1, 2, none⟩ (.slice kaF (defKs d).length kcF)).setCell ⟨w.heap.size + 1, 3, none⟩ (.slice baF (defCs d).length bcF)).setCell ⟨w.heap.size + 1, 4, none⟩ (.int .i64 0)).heap[g]? = wg.heap[g]? := fun g hg => set5w_other hg
      have hsf : (((((wg.setCell ⟨w.heap.size + 1, 0, none⟩ (.int .u8 3)).setCell ⟨w.heap.size + 1, 1, none⟩ (.string { data := #[] })).setCell ⟨w.heap.size + 1, 2, none⟩ (.slice kaF (defKs d).length kcF)).setCell ⟨w.heap.size + 1, 3, none⟩ (.slice baF (defCs d).length bcF)).setCell ⟨w.heap.size + 1, 4, none⟩ (.int .i64 0)).heap.size = wg.heap.size := by simp
      clear q0 q1 q2 q3 q4 f0 f1 f2 f3 f4 n0 n1 n2 n3 n4
      generalize (((((wg.setCell ⟨w.heap.size + 1, 0, none⟩ (.int .u8 3)).setCell ⟨w.heap.size + 1, 1, none⟩ (.string { data := #[] })).setCell ⟨w.heap.size + 1, 2, none⟩ (.slice kaF (defKs d).length kcF)).setCell ⟨w.heap.size + 1, 3, none⟩ (.slice baF (defCs d).length bcF)).setCell ⟨w.heap.size + 1, 4, none⟩ (.int .i64 0)) = wz9 at *
      obtain ⟨y0, y1, y2, y3, y4⟩ := cells5 hset
      have HOF := Lib.hid hof
      have HSF := Lib.hid hsf
      have HBF := Lib.hid hbf
      clear hof hsf hbf hset
      refine bodyPost_ret (v := .agg #[.int .u8 3, .string { data := #[] }, .slice kaF (defKs d).length kcF, .slice baF (defCs d).length bcF, .int .i64 0]) (by simp [results, Try.results7, go_sem, y0, y1, y2, y3, y4]) rfl ?_
      refine ⟨_, rfl, HNOF.out.keep (fun g hP _ => HOF.out g (by have := hP.1; omega)) (fun g hP => ⟨by have := hP.1; omega, by have := hP.2; have := HSF.out; omega⟩), HBF.out⟩
end Go.Proofs.Ytgafjjgnbcjmpaa

/-
  Plain: the tree of a definition that may be, is one that may be; like definitions have like trees (no program).
-/
namespace Go.Proofs.Ytgafjjgnbcjmpaa
open Go Go.RowKit

theorem c64_4096 {s : ByteArray} (h : c64 s = 0) : checkN (bsN s) 4096 = 0 := by
  unfold c64 at h
  unfold checkN at h ⊢
  split at h
  · cases h
  · rw [if_neg (by omega)]; exact h
theorem enc_ascii {l : List Nat} (h : ∀ b ∈ l, b < 128) : textN l = l := by
  induction l with
  | nil => rfl
  | cons a l ih => rw [textN_cons, ih (fun b hb => h b (List.mem_cons_of_mem _ hb)), encN, if_pos (h a (List.mem_cons_self ..))]; rfl
theorem valid_ascii {l : List Nat} (h : ∀ b ∈ l, b < 128) : ValidAll l := fun c hc => by have := h c hc; unfold validN; omega
theorem check_ascii {l : List Nat} (h : ∀ b ∈ l, b < 128) {most : Int} (hm : (l.length : Int) ≤ most) : checkN l most = 0 := by
  unfold checkN
  have := first_ok (valid_ascii h) 0
  rw [enc_ascii h] at this
  rw [if_neg (by omega), if_pos (by omega)]
theorem digS_check (n : Int) : checkN (bsN (digS n)) 4096 = 0 := by
  refine check_ascii (fun b hb => ?_) (by rw [bsN_len]; have := digS_size n; omega)
  unfold digS at hb
  split at hb
  · rw [bsN_mkS (digN_lt _)] at hb
    have := digN_all _ b hb; omega
  · simp [bsN] at hb

theorem rcheckTs_all {lev : Nat} {l : List Tree} (h : ∀ x ∈ l, rcheckT lev x = 0) : rcheckTs lev l = 0 := by
  induction l with
  | nil => rfl
  | cons a l ih => rw [rcheckTs, if_pos (h a (List.mem_cons_self ..))]; exact ih fun x hx => h x (List.mem_cons_of_mem _ hx)
theorem rcheckTs_mem {lev : Nat} {l : List Tree} (h : rcheckTs lev l = 0) : ∀ x ∈ l, rcheckT lev x = 0 := by
  induction l with
  | nil => intro x hx; cases hx
  | cons a l ih =>
    rw [rcheckTs] at h
    split at h
    · rename_i h0
      intro x hx
      rcases List.mem_cons.1 hx with rfl | hx
      · exact h0
      · exact ih h x hx
    · exact absurd h (by assumption)
theorem rcheck_mk {lev k : Nat} {t : ByteArray} {ks : List ByteArray} {kids : List Tree} {l : Int} (hn : nodeC lev (.mk k t ks kids l) = 0) (hk : ∀ x ∈ kids, rcheckT (lev + 1) x = 0) : rcheckT lev (.mk k t ks kids l) = 0 := by
  rw [rcheckT, if_pos hn]; exact rcheckTs_all hk
theorem nodeC_lev {lev lev' : Nat} {x : Tree} (h : nodeC lev x = 0) (h' : lev' ≤ 16) : nodeC lev' x = 0 := by
  unfold nodeC at h ⊢
  split at h
  · cases h
  · rw [if_neg (by omega)]; exact h
theorem depthTs_lim {n m : Nat} {l : List Tree} : depthTs n l ≤ m ↔ ∀ x ∈ l, depthT n x ≤ m := by
  induction l with
  | nil => simp [depthTs]
  | cons a l ih => rw [depthTs]; simp only [List.mem_cons, forall_eq_or_imp, ← ih]; omega
theorem depthT_mono : ∀ (x : Tree) (n n' : Nat), n ≤ n' → depthT n x ≤ depthT n' x := by
  refine Tree.ind fun k t ks kids l ih n n' hn => ?_
  cases n with
  | zero => rw [depthT]; omega
  | succ n =>
    obtain ⟨m, rfl⟩ : ∃ m, n' = m + 1 := ⟨n' - 1, by omega⟩
    rw [depthT, depthT]
    have hmm : n ≤ m := by omega
    have : depthTs n kids ≤ depthTs m kids := depthTs_lim.2 fun x hx => Nat.le_trans (ih x hx n m hmm) (depthTs_lim.1 (Nat.le_refl _) x hx)
    omega
theorem rcheck_lev : ∀ (x : Tree) (lev lev' n m : Nat), rcheckT lev x = 0 → depthT n x ≤ m → m < n → lev' + m ≤ 17 → rcheckT lev' x = 0 := by
  refine Tree.ind fun k t ks kids l ih lev lev' n m h hd hm hl => ?_
  obtain ⟨n, rfl⟩ : ∃ p, n = p + 1 := ⟨n - 1, by omega⟩
  rw [depthT] at hd
  rw [rcheckT] at h
  split at h
  · rename_i h0
    refine rcheck_mk (nodeC_lev h0 (by omega)) fun x hx => ?_
    exact ih x hx (lev + 1) (lev' + 1) n (m - 1) (rcheckTs_mem h x hx) (depthTs_lim.1 (show depthTs n kids ≤ m - 1 by omega) x hx) (by omega) (by omega)
  · exact absurd h (by assumption)

theorem mem_consIf {α : Type} {b : Bool} {l : List α} {x y : α} (h : y ∈ consIf b l x) : y ∈ l ∨ (b = true ∧ y = x) := by
  unfold consIf at h
  split at h
  · rcases List.mem_append.1 h with h | h
    · exact .inl h
    · exact .inr ⟨by assumption, List.mem_singleton.1 h⟩
  · exact .inl h
theorem consIf_lens {α β : Type} (b : Bool) {l : List α} {m : List β} (x : α) (y : β) (h : l.length = m.length) : (consIf b l x).length = (consIf b m y).length := by
  cases b <;> simp [consIf, h]
theorem stepKs_keys (s : StepD) : keysC (stepKs s) = 0 := by
  unfold stepKs
  generalize hasNote s = b1
  generalize hasLimit s = b2
  generalize hasRetry s = b3
  generalize hasAfter s = b4
  generalize hasUndo s = b5
  revert b1 b2 b3 b4 b5
  decide +kernel
theorem defKs_keys (d : DefD) : keysC (defKs d) = 0 := by
  unfold defKs
  generalize hasText d = b1
  revert b1
  decide +kernel
theorem step_lens (s : StepD) : (stepKs s).length = (stepCs s).length :=
  consIf_lens _ _ _ (consIf_lens _ _ _ (consIf_lens _ _ _ (consIf_lens _ _ _ (consIf_lens _ _ _ rfl))))
theorem def_lens (d : DefD) : (defKs d).length = (defCs d).length := by
  unfold defKs defCs
  rw [List.length_append, List.length_append, consIf_lens (hasText d) sText (scalarT d.text) (l := [sSaga]) (m := [scalarT d.name]) rfl]; rfl

theorem scalar_check {s : ByteArray} {lev : Nat} (hl : lev ≤ 16) (h : checkN (bsN s) 4096 = 0) : rcheckT lev (scalarT s) = 0 := by
  refine rcheck_mk ?_ fun x hx => by cases hx
  rw [nodeC, if_neg (by omega), if_neg (by simp [Tree.kind]), if_neg (by simp [oddT]), if_pos (by exact h)]; rfl
theorem empty_check : checkN (bsN { data := #[] }) 4096 = 0 := by decide +kernel
theorem map_check {ks : List ByteArray} {kids : List Tree} {lev : Nat} (hl : lev ≤ 16) (hk : keysC ks = 0) (hlen : ks.length = kids.length) (h : ∀ x ∈ kids, rcheckT (lev + 1) x = 0) : rcheckT lev (mapT ks kids) = 0 := by
  refine rcheck_mk ?_ h
  have e := empty_check
  rw [nodeC, if_neg (by omega), if_neg (by simp [Tree.kind]), if_neg (by simp [oddT, hlen, ByteArray.size]), if_pos (by exact e)]; exact hk
theorem seq_check {kids : List Tree} {lev : Nat} (hl : lev ≤ 16) (h : ∀ x ∈ kids, rcheckT (lev + 1) x = 0) : rcheckT lev (seqT kids) = 0 := by
  refine rcheck_mk ?_ h
  have e := empty_check
  rw [nodeC, if_neg (by omega), if_neg (by simp [Tree.kind]), if_neg (by simp [oddT, ByteArray.size]), if_pos (by exact e)]; rfl
theorem retryKs_keys : keysC [sMost, sFirst, sFactor] = 0 := by decide +kernel
theorem textsC_mem {l : List ByteArray} (h : textsC l = 0) : ∀ s ∈ l, c64 s = 0 := fun s hs => firstNZ_zero.1 h _ (List.mem_map.2 ⟨s, hs, rfl⟩)

/-- What it is for a step to be right. -/
structure StepFine (s : StepD) : Prop where
  texts : ∀ x ∈ [s.name, s.action, s.undo], c64 x = 0
  after : ∀ x ∈ s.after, c64 x = 0
  fits : fitsB [s.most, s.first, s.factor, s.limit] = true
  note : noneT s.note = true ∨ (checkT s.note = 0 ∧ depthT 18 s.note ≤ 13)
theorem stepC_fine {s : StepD} (h : stepC s = 0) : StepFine s := by
  unfold stepC at h
  split at h
  · rename_i h1; exact absurd h h1
  · rename_i h1
    split at h
    · cases h
    · split at h
      · rename_i h2; exact absurd h h2
      · rename_i h2
        split at h
        · cases h
        · rename_i h3
          refine ⟨textsC_mem (by omega), textsC_mem (by omega), by simpa using h3, ?_⟩
          split at h
          · exact .inl (by assumption)
          · split at h
            · rename_i h4; exact absurd h h4
            · split at h
              · cases h
              · exact .inr ⟨by omega, by omega⟩
theorem stepsC_zero : ∀ {l : List StepD} {i : Nat}, stepsC l i = (0, 0) → ∀ s ∈ l, stepC s = 0
  | [], _, _, s, hs => by cases hs
  | a :: l, i, h, s, hs => by
    rw [stepsC] at h
    split at h
    · rename_i h0
      rcases List.mem_cons.1 hs with rfl | hs
      · exact h0
      · exact stepsC_zero h s hs
    · rename_i h0; exact absurd (congrArg Prod.fst h) h0
structure DefFine (d : DefD) : Prop where
  name : c64 d.name = 0
  text : checkN (bsN d.text) 4096 = 0
  steps : ∀ s ∈ d.steps, StepFine s
theorem stepsC_fst {l : List StepD} : ∀ {i : Nat}, (stepsC l i).1 = 0 → stepsC l i = (0, 0) := by
  induction l with
  | nil => intro i _; rfl
  | cons a l ih =>
    intro i h
    rw [stepsC] at h ⊢
    split at h
    · rw [if_pos (by assumption)]; exact ih h
    · exact absurd h (by assumption)
theorem defC_fine {d : DefD} (h : (defC d).1 = 0) : DefFine d := by
  unfold defC at h
  split at h
  · rename_i h1; exact absurd h h1
  · split at h
    · rename_i h1; exact absurd h h1
    · split at h
      · cases h
      · exact ⟨by omega, by omega, fun s hs => stepC_fine (stepsC_zero (stepsC_fst h) s hs)⟩

theorem stepCs_mem {s : StepD} {x : Tree} (h : x ∈ stepCs s) : x = scalarT s.name ∨ x = scalarT s.action ∨ x = scalarT s.undo ∨ x = seqT (s.after.map scalarT) ∨ x = retryT s.most s.first s.factor ∨ x = numT s.limit ∨ (noneT s.note = false ∧ x = s.note) := by
  unfold stepCs at h
  rcases mem_consIf h with h | ⟨h1, rfl⟩
  · rcases mem_consIf h with h | ⟨-, rfl⟩
    · rcases mem_consIf h with h | ⟨-, rfl⟩
      · rcases mem_consIf h with h | ⟨-, rfl⟩
        · rcases mem_consIf h with h | ⟨-, rfl⟩
          · simp at h; rcases h with rfl | rfl <;> simp
          · simp
        · simp
      · simp
    · simp
  · unfold hasNote at h1; simp at h1; simp [h1]
theorem stepT_check {s : StepD} (h : StepFine s) : rcheckT 3 (stepT s) = 0 := by
  refine map_check (by omega) (stepKs_keys s) (step_lens s) fun x hx => ?_
  rcases stepCs_mem hx with rfl | rfl | rfl | rfl | rfl | rfl | ⟨hn, rfl⟩
  · exact scalar_check (by omega) (c64_4096 (h.texts _ (by simp)))
  · exact scalar_check (by omega) (c64_4096 (h.texts _ (by simp)))
  · exact scalar_check (by omega) (c64_4096 (h.texts _ (by simp)))
  · refine seq_check (by omega) fun x hx => ?_
    obtain ⟨a, ha, rfl⟩ := List.mem_map.1 hx
    exact scalar_check (by omega) (c64_4096 (h.after a ha))
  · refine map_check (by omega) retryKs_keys rfl fun x hx => ?_
    simp at hx
    rcases hx with rfl | rfl | rfl <;> exact scalar_check (by omega) (digS_check _)
  · exact scalar_check (by omega) (digS_check _)
  · rcases h.note with h1 | ⟨h1, h2⟩
    · rw [hn] at h1; cases h1
    · rw [← rcheckT_check] at h1
      exact rcheck_lev _ 1 4 18 13 h1 h2 (by omega) (by omega)
theorem defCs_mem {d : DefD} {x : Tree} (h : x ∈ defCs d) : x = scalarT d.name ∨ x = scalarT d.text ∨ x = seqT (d.steps.map stepT) := by
  unfold defCs at h
  rcases List.mem_append.1 h with h | h
  · rcases mem_consIf h with h | ⟨-, rfl⟩
    · simp at h; simp [h]
    · simp
  · simp at h; simp [h]
/-- The tree of a definition that may be, may be. -/
theorem defT_check {d : DefD} (h : DefFine d) : checkT (defT d) = 0 := by
  rw [← rcheckT_check]
  refine map_check (by omega) (defKs_keys d) (def_lens d) fun x hx => ?_
  rcases defCs_mem hx with rfl | rfl | rfl
  · exact scalar_check (by omega) (c64_4096 h.name)
  · exact scalar_check (by omega) h.text
  · refine seq_check (by omega) fun x hx => ?_
    obtain ⟨s, hs, rfl⟩ := List.mem_map.1 hx
    exact stepT_check (h.steps s hs)

theorem depth_mk {n m k : Nat} {t : ByteArray} {ks : List ByteArray} {kids : List Tree} {l : Int} (h : ∀ x ∈ kids, depthT n x ≤ m) : depthT (n + 1) (.mk k t ks kids l) ≤ m + 1 := by
  rw [depthT]; have := depthTs_lim.2 h; omega
theorem depth_scalar (n : Nat) (s : ByteArray) : depthT n (scalarT s) ≤ 1 := by
  cases n with
  | zero => simp [depthT]
  | succ n => exact depth_mk fun x hx => by cases hx
theorem stepT_depth {s : StepD} (h : StepFine s) : depthT 16 (stepT s) ≤ 14 := by
  refine depth_mk (n := 15) (m := 13) fun x hx => ?_
  rcases stepCs_mem hx with rfl | rfl | rfl | rfl | rfl | rfl | ⟨hn, rfl⟩
  · exact Nat.le_trans (depth_scalar _ _) (by omega)
  · exact Nat.le_trans (depth_scalar _ _) (by omega)
  · exact Nat.le_trans (depth_scalar _ _) (by omega)
  · refine Nat.le_trans (depth_mk (n := 14) (m := 1) fun x hx => ?_) (by omega)
    obtain ⟨a, ha, rfl⟩ := List.mem_map.1 hx
    exact depth_scalar _ _
  · refine Nat.le_trans (depth_mk (n := 14) (m := 1) fun x hx => ?_) (by omega)
    simp at hx
    rcases hx with rfl | rfl | rfl <;> exact depth_scalar _ _
  · exact Nat.le_trans (depth_scalar _ _) (by omega)
  · rcases h.note with h1 | ⟨-, h2⟩
    · rw [hn] at h1; cases h1
    · exact Nat.le_trans (depthT_mono _ 15 18 (by omega)) h2
theorem defT_depth {d : DefD} (h : DefFine d) : depthT 18 (defT d) ≤ 16 := by
  refine depth_mk (n := 17) (m := 15) fun x hx => ?_
  rcases defCs_mem hx with rfl | rfl | rfl
  · exact Nat.le_trans (depth_scalar _ _) (by omega)
  · exact Nat.le_trans (depth_scalar _ _) (by omega)
  · refine depth_mk (n := 16) (m := 14) fun x hx => ?_
    obtain ⟨s, hs, rfl⟩ := List.mem_map.1 hx
    exact stepT_depth (h.steps s hs)

theorem small_scalar {n : Nat} {s : ByteArray} (h : s.size ≤ 5000) : SmallP (n + 1) (scalarT s) := .mk h (by simp) (fun s hs => by cases hs) (fun x hx => by cases hx) (by simp)
theorem keys200 {ks : List ByteArray} (h : ks.all (fun s => decide (s.size ≤ 200)) = true) : ∀ s ∈ ks, s.size ≤ 200 := fun s hs => by simpa using List.all_eq_true.1 h s hs
theorem stepKs_small (s : StepD) : (stepKs s).all (fun s => decide (s.size ≤ 200)) = true ∧ (stepKs s).length ≤ 7 := by
  unfold stepKs
  generalize hasNote s = b1
  generalize hasLimit s = b2
  generalize hasRetry s = b3
  generalize hasAfter s = b4
  generalize hasUndo s = b5
  revert b1 b2 b3 b4 b5
  decide +kernel
theorem defKs_small (d : DefD) : (defKs d).all (fun s => decide (s.size ≤ 200)) = true ∧ (defKs d).length ≤ 3 := by
  unfold defKs
  generalize hasText d = b1
  revert b1
  decide +kernel
theorem small_seq {n : Nat} {kids : List Tree} (h : ∀ x ∈ kids, SmallP n x) (hl : kids.length ≤ 150) : SmallP (n + 1) (seqT kids) := .mk (by decide) (by simp) (fun s hs => by cases hs) h hl
theorem stepT_small {s : StepD} (h : SmallS s) : SmallP 19 (stepT s) := by
  have hk := stepKs_small s
  have hl := step_lens s
  refine .mk (by decide) (by omega) (keys200 hk.1) (fun x hx => ?_) (by omega)
  rcases stepCs_mem hx with rfl | rfl | rfl | rfl | rfl | rfl | ⟨hn, rfl⟩
  · exact small_scalar (by have := h.name; omega)
  · exact small_scalar (by have := h.action; omega)
  · exact small_scalar (by have := h.undo; omega)
  · refine small_seq (n := 17) (fun x hx => ?_) (by have := h.after; simp; omega)
    obtain ⟨a, ha, rfl⟩ := List.mem_map.1 hx
    exact small_scalar (by have := h.aft a ha; omega)
  · refine .mk (n := 17) (by decide) (by decide) (keys200 (by decide +kernel)) (fun x hx => ?_) (by simp)
    simp at hx
    rcases hx with rfl | rfl | rfl <;> exact small_scalar (by have := digS_size s.most; have := digS_size s.first; have := digS_size s.factor; omega)
  · exact small_scalar (by have := digS_size s.limit; omega)
  · exact h.note
theorem defT_small {d : DefD} (h : SmallD d) : SmallP 21 (defT d) := by
  have hk := defKs_small d
  have hl := def_lens d
  refine .mk (by decide) (by omega) (keys200 hk.1) (fun x hx => ?_) (by omega)
  rcases defCs_mem hx with rfl | rfl | rfl
  · exact small_scalar (by have := h.name; omega)
  · exact small_scalar (by have := h.text; omega)
  · refine small_seq (n := 19) (fun x hx => ?_) (by have := h.steps; simp; omega)
    obtain ⟨s, hs, rfl⟩ := List.mem_map.1 hx
    exact stepT_small (h.each s hs)

/-- Are steps alike? -/
def sameS (s t : StepD) : Bool := decide (s.name = t.name) && decide (s.action = t.action) && decide (s.undo = t.undo) && decide (s.after = t.after) && (decide (s.most = t.most) && decide (s.first = t.first) && decide (s.factor = t.factor)) && decide (s.limit = t.limit) && sameT s.note t.note
def sameSs : List StepD → List StepD → Bool
  | [], [] => true
  | a :: l, b :: m => sameS a b && sameSs l m
  | [], _ :: _ => false
  | _ :: _, [] => false
def sameD (a b : DefD) : Bool := decide (a.name = b.name) && decide (a.text = b.text) && sameSs a.steps b.steps
theorem sameS_refl (s : StepD) : sameS s s = true := by simp [sameS, sameT_refl]
theorem sameSs_refl : ∀ l, sameSs l l = true
  | [] => rfl
  | a :: l => by simp [sameSs, sameS_refl, sameSs_refl l]
theorem sameD_refl (d : DefD) : sameD d d = true := by simp [sameD, sameSs_refl]
theorem sameS_symm (s t : StepD) : sameS s t = sameS t s := by
  have h1 : decide (s.name = t.name) = decide (t.name = s.name) := decide_eq_decide.2 eq_comm
  have h2 : decide (s.action = t.action) = decide (t.action = s.action) := decide_eq_decide.2 eq_comm
  have h3 : decide (s.undo = t.undo) = decide (t.undo = s.undo) := decide_eq_decide.2 eq_comm
  have h4 : decide (s.after = t.after) = decide (t.after = s.after) := decide_eq_decide.2 eq_comm
  have h5 : decide (s.most = t.most) = decide (t.most = s.most) := decide_eq_decide.2 eq_comm
  have h6 : decide (s.first = t.first) = decide (t.first = s.first) := decide_eq_decide.2 eq_comm
  have h7 : decide (s.factor = t.factor) = decide (t.factor = s.factor) := decide_eq_decide.2 eq_comm
  have h8 : decide (s.limit = t.limit) = decide (t.limit = s.limit) := decide_eq_decide.2 eq_comm
  unfold sameS
  rw [h1, h2, h3, h4, h5, h6, h7, h8, sameT_symm s.note]
theorem sameSs_iff : ∀ {l m : List StepD}, sameSs l m = true ↔ l.length = m.length ∧ ∀ (i : Nat) (a b : StepD), l[i]? = some a → m[i]? = some b → sameS a b = true
  | [], [] => by simp [sameSs]
  | a :: l, b :: m => by
    simp only [sameSs, Bool.and_eq_true, List.length_cons, Nat.add_right_cancel_iff]
    rw [sameSs_iff]
    constructor
    · rintro ⟨h1, h2, h3⟩
      refine ⟨h2, fun i x y hx hy => ?_⟩
      cases i with
      | zero => simp at hx hy; subst hx hy; exact h1
      | succ i => exact h3 i x y (by simpa using hx) (by simpa using hy)
    · rintro ⟨h2, h3⟩
      exact ⟨h3 0 a b rfl rfl, h2, fun i x y hx hy => h3 (i + 1) x y (by simpa using hx) (by simpa using hy)⟩
  | [], _ :: _ => by simp [sameSs]
  | _ :: _, [] => by simp [sameSs]
theorem sameTs_snoc {l m : List Tree} {x y : Tree} (h : sameTs l m = true) (hx : sameT x y = true) : sameTs (l ++ [x]) (m ++ [y]) = true := by
  induction l generalizing m with
  | nil =>
    cases m with
    | nil => simp [sameTs, hx]
    | cons b m => simp [sameTs] at h
  | cons a l ih =>
    cases m with
    | nil => simp [sameTs] at h
    | cons b m =>
      simp only [sameTs, Bool.and_eq_true, List.cons_append] at h ⊢
      exact ⟨h.1, ih h.2⟩
theorem sameTs_consIf {b : Bool} {l m : List Tree} {x y : Tree} (h : sameTs l m = true) (hx : sameT x y = true) : sameTs (consIf b l x) (consIf b m y) = true := by
  cases b with
  | false => exact h
  | true => exact sameTs_snoc h hx
theorem noneT_like {x y : Tree} (h : sameT x y = true) : noneT x = noneT y := by
  obtain ⟨k, t, ks, kids, l⟩ := x
  obtain ⟨k', t', ks', kids', l'⟩ := y
  simp only [sameT, Bool.and_eq_true, decide_eq_true_eq] at h
  obtain ⟨⟨⟨rfl, rfl⟩, rfl⟩, h4⟩ := h
  have := sameTs_len h4
  exact congrArg (fun b => (decide (k = 0) && decide (t.size = 0) && decide (ks.length = 0) && b)) (show decide (kids.length = 0) = decide (kids'.length = 0) by rw [this])
theorem sameS_trees {s t : StepD} (h : sameS s t = true) : sameT (stepT s) (stepT t) = true := by
  simp only [sameS, Bool.and_eq_true, decide_eq_true_eq] at h
  obtain ⟨⟨⟨⟨⟨⟨h1, h2⟩, h3⟩, h4⟩, ⟨h5, h6⟩, h7⟩, h8⟩, h9⟩ := h
  have e1 : hasNote s = hasNote t := by unfold hasNote; rw [noneT_like h9]
  have e2 : hasLimit s = hasLimit t := by unfold hasLimit; rw [h8]
  have e3 : hasRetry s = hasRetry t := by unfold hasRetry; rw [h5, h6, h7]
  have e4 : hasAfter s = hasAfter t := by unfold hasAfter; rw [h4]
  have e5 : hasUndo s = hasUndo t := by unfold hasUndo; rw [h3]
  have ek : stepKs s = stepKs t := by unfold stepKs; rw [e1, e2, e3, e4, e5]
  unfold stepT mapT
  simp only [sameT, ek, decide_true, Bool.true_and]
  unfold stepCs
  rw [e1, e2, e3, e4, e5, h1, h2, h3, h4, h5, h6, h7, h8]
  exact sameTs_consIf (sameTs_iff.2 ⟨rfl, fun i a b ha hb => by rw [ha] at hb; cases hb; exact sameT_refl a⟩) h9
theorem sameSs_trees : ∀ {l m : List StepD}, sameSs l m = true → sameTs (l.map stepT) (m.map stepT) = true
  | [], [], _ => rfl
  | a :: l, b :: m, h => by
    simp only [sameSs, Bool.and_eq_true] at h
    simp [sameTs, sameS_trees h.1, sameSs_trees h.2]
  | [], _ :: _, h => by simp [sameSs] at h
  | _ :: _, [], h => by simp [sameSs] at h
/-- Like definitions have like trees. -/
theorem sameD_trees {a b : DefD} (h : sameD a b = true) : sameT (defT a) (defT b) = true := by
  simp only [sameD, Bool.and_eq_true, decide_eq_true_eq] at h
  obtain ⟨⟨h1, h2⟩, h3⟩ := h
  have e1 : hasText a = hasText b := by unfold hasText; rw [h2]
  have ek : defKs a = defKs b := by unfold defKs; rw [e1]
  unfold defT mapT
  simp only [sameT, ek, decide_true, Bool.true_and]
  unfold defCs
  rw [e1, h1, h2]
  refine sameTs_snoc (sameTs_consIf (by simp [sameTs, sameT_refl]) (sameT_refl _)) ?_
  unfold seqT
  simp [sameT, sameSs_trees h3]
end Go.Proofs.Ytgafjjgnbcjmpaa
