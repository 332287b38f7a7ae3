/-
  def.unlike: what it gives is an iterator over the names of what is unlike.
-/
import Derived.Sort.CutIn
import Derived.Test.YtlakmfhpinljjaaBp5
import Derived.Test.YtlakmfhpinljjaaBp32
import Derived.Test.YtlakmfhpinljjaaBp33
namespace Go.Proofs.Ytlakmfhpinljjaa
open Go.RowKit Go.WideShapes
attribute [local go_sem] Oper.semAt_some wide_fn wide_depth wide_fn' wide_depth'

theorem opWide_of_wp {P : Program} {o : Oper} {a : Act} {w : World} {K : Act → World → Prop} {Q : Exit → Act → World → Prop} (hnd : ∀ c, o.op ≠ .defer c) (h : o.wp P a w K (onlyNormal Q)) :
    o.wpIn Fence.wide 0 P a w K Q := by
  refine ⟨fun _ _ => trivial, ?_⟩
  rw [Oper.semAt_plain _ _ _ hnd]
  unfold Oper.wp at h
  generalize (execOp a.eval o).run P w = r at *
  cases r with
  | ok n w' =>
    cases n with
    | value v => exact h
    | skip => exact h
    | defer d => exact h
    | enter f args =>
      refine ⟨fun h => (by cases h), callsIn_wide.2 (Calls.mono h (fun e w'' he => ?_))⟩
      cases e with
      | returned v => exact he
      | panicked chain => exact absurd he.1 (by simp)
      | outgrown => obtain ⟨_, _, h1, _⟩ := he; cases h1
    | row row args =>
      refine ⟨fun h => (by cases h), fun c cs _ => ?_⟩
      obtain ⟨v, w'', h1, h2⟩ := h c cs
      exact ⟨v, w'', h1, stepsIn_wide.2 h2⟩
    | _ => exact h.elim
  | halt x w' =>
    cases x <;> first | exact h.elim | exact absurd h.1 (by simp)
theorem anyWide_of_any {P : Program} {md : Region.Mode} {ops : Array Oper} {Q : Exit → Act → World → Prop} (hnd : ∀ (i : Nat) (o : Oper), ops[i]? = some o → ∀ c, o.op ≠ .defer c) :
    ∀ (fuel : Nat) (listed : Array Bool) (a : Act) (w : World), wpAny P md ops (onlyNormal Q) fuel listed a w → wpAnyIn Fence.wide 0 P md ops Q fuel listed a w := by
  intro fuel
  induction fuel with
  | zero => exact fun listed a w h => ⟨h.1, h.2.2⟩
  | succ fuel ih =>
    intro listed a w h
    refine ⟨fun hr => (h.1 hr).2, fun i hi => ?_⟩
    have hh := h.2 i hi
    unfold wpOp at hh
    unfold wpOpIn
    cases ho : ops[i]? with
    | none => simp only [ho] at hh ⊢; exact ih _ _ _ hh
    | some o =>
      simp only [ho] at hh ⊢
      by_cases hw : Region.wanted o (yielded ops a.tmps) = true
      · rw [if_pos hw] at hh ⊢
        rcases hh with hh | ⟨_, _, _, hh, _⟩
        · exact opWide_of_wp (hnd i o ho) (Oper.wp_mono (fun a w h => ih _ _ _ h) hh)
        · cases hh
      · rw [if_neg hw] at hh ⊢
        exact ⟨fun _ _ => trivial, ih _ _ _ hh⟩
/-- A drawn region in an iterator's own body. -/
theorem E_regionW {P : Program} {l : List Oper} {Q : Exit → Act → World → Prop} {S : World → Prop} {id : Nat} {a : Act} {w : World} (k : Nat) (hm : P.follows .mixedOrders = true) (hnd : noDefer l = true) (hS : S w.drew)
    (h : ∀ Q' : Exit → Act → World → Prop, (∀ c a (d : Tmp) v w, Q' (.panic c) (a.put (some d) v) w → Q' (.panic c) a w) → Shut (∀ a w, Q .normal a w → Q' .normal a w) → S w.drew →
      wpAnyE P .any l.toArray Q' S k l.toArray.size (Array.replicate l.toArray.size false) a w.drew) : (Code.region id l.toArray true).wpIn Fence.wide 0 P Q a w :=
  wpIn_region_any hm (anyWide_of_any (noDefer_spec hnd) _ _ _ _ (wpAny_of_E _ _ _ _ (h (onlyNormal Q) (fun _ _ _ _ _ h => absurd h.1 (by simp)) (fun _ _ h => ⟨rfl, h⟩) hS)))

theorem list13 {cs : List Value} (h : cs.length = 13) : ∃ a0 a1 a2 a3 a4 a5 a6 a7 a8 a9 a10 a11 a12, cs = [a0, a1, a2, a3, a4, a5, a6, a7, a8, a9, a10, a11, a12] := by
  rcases cs with _ | ⟨a0, _ | ⟨a1, _ | ⟨a2, _ | ⟨a3, _ | ⟨a4, _ | ⟨a5, _ | ⟨a6, _ | ⟨a7, _ | ⟨a8, _ | ⟨a9, _ | ⟨a10, _ | ⟨a11, _ | ⟨a12, _ | ⟨a13, l⟩⟩⟩⟩⟩⟩⟩⟩⟩⟩⟩⟩⟩⟩ <;> first | (exact ⟨_, _, _, _, _, _, _, _, _, _, _, _, _, rfl⟩) | (simp at h) | (simp at h; omega)
theorem set14 {W : World} {B : Nat} {t : TypeId} {c0 c1 c2 c3 c4 c5 c6 c7 c8 c9 c10 c11 c12 c13 x0 x1 x2 x3 x4 x5 x6 x7 x8 x9 x10 x11 x12 x13 : Value} (h : W.heap[B]? = some (.cells #[c0, c1, c2, c3, c4, c5, c6, c7, c8, c9, c10, c11, c12, c13] t (0, 0))) : ((((((((((((((W.setCell ⟨B, 0, none⟩ x0).setCell ⟨B, 1, none⟩ x1).setCell ⟨B, 2, none⟩ x2).setCell ⟨B, 3, none⟩ x3).setCell ⟨B, 4, none⟩ x4).setCell ⟨B, 5, none⟩ x5).setCell ⟨B, 6, none⟩ x6).setCell ⟨B, 7, none⟩ x7).setCell ⟨B, 8, none⟩ x8).setCell ⟨B, 9, none⟩ x9).setCell ⟨B, 10, none⟩ x10).setCell ⟨B, 11, none⟩ x11).setCell ⟨B, 12, none⟩ x12).setCell ⟨B, 13, none⟩ x13).heap[B]? = some (.cells #[x0, x1, x2, x3, x4, x5, x6, x7, x8, x9, x10, x11, x12, x13] t (0, 0)) := by
  simp [World.setCell, h, Array.getElem?_modify]
theorem set14_below {n : Nat} {w W : World} (hb : Below n w W) {B : Nat} {x0 x1 x2 x3 x4 x5 x6 x7 x8 x9 x10 x11 x12 x13 : Value} (h : n ≤ B) : Below n w ((((((((((((((W.setCell ⟨B, 0, none⟩ x0).setCell ⟨B, 1, none⟩ x1).setCell ⟨B, 2, none⟩ x2).setCell ⟨B, 3, none⟩ x3).setCell ⟨B, 4, none⟩ x4).setCell ⟨B, 5, none⟩ x5).setCell ⟨B, 6, none⟩ x6).setCell ⟨B, 7, none⟩ x7).setCell ⟨B, 8, none⟩ x8).setCell ⟨B, 9, none⟩ x9).setCell ⟨B, 10, none⟩ x10).setCell ⟨B, 11, none⟩ x11).setCell ⟨B, 12, none⟩ x12).setCell ⟨B, 13, none⟩ x13) :=
  ((((((((((((((hb.setCell (p := ⟨B, 0, none⟩) h _).setCell (p := ⟨B, 1, none⟩) h _).setCell (p := ⟨B, 2, none⟩) h _).setCell (p := ⟨B, 3, none⟩) h _).setCell (p := ⟨B, 4, none⟩) h _).setCell (p := ⟨B, 5, none⟩) h _).setCell (p := ⟨B, 6, none⟩) h _).setCell (p := ⟨B, 7, none⟩) h _).setCell (p := ⟨B, 8, none⟩) h _).setCell (p := ⟨B, 9, none⟩) h _).setCell (p := ⟨B, 10, none⟩) h _).setCell (p := ⟨B, 11, none⟩) h _).setCell (p := ⟨B, 12, none⟩) h _).setCell (p := ⟨B, 13, none⟩) h _)
theorem cells14 {W : World} {B : Nat} {t : TypeId} {c0 c1 c2 c3 c4 c5 c6 c7 c8 c9 c10 c11 c12 c13 : Value} (h : W.heap[B]? = some (.cells #[c0, c1, c2, c3, c4, c5, c6, c7, c8, c9, c10, c11, c12, c13] t (0, 0))) : W.cell? ⟨B, 0, none⟩ = some c0 ∧ W.cell? ⟨B, 1, none⟩ = some c1 ∧ W.cell? ⟨B, 2, none⟩ = some c2 ∧ W.cell? ⟨B, 3, none⟩ = some c3 ∧ W.cell? ⟨B, 4, none⟩ = some c4 ∧ W.cell? ⟨B, 5, none⟩ = some c5 ∧ W.cell? ⟨B, 6, none⟩ = some c6 ∧ W.cell? ⟨B, 7, none⟩ = some c7 ∧ W.cell? ⟨B, 8, none⟩ = some c8 ∧ W.cell? ⟨B, 9, none⟩ = some c9 ∧ W.cell? ⟨B, 10, none⟩ = some c10 ∧ W.cell? ⟨B, 11, none⟩ = some c11 ∧ W.cell? ⟨B, 12, none⟩ = some c12 ∧ W.cell? ⟨B, 13, none⟩ = some c13 ∧ W.frozen? ⟨B, 0, none⟩ = false ∧ W.frozen? ⟨B, 1, none⟩ = false ∧ W.frozen? ⟨B, 2, none⟩ = false ∧ W.frozen? ⟨B, 3, none⟩ = false ∧ W.frozen? ⟨B, 4, none⟩ = false ∧ W.frozen? ⟨B, 5, none⟩ = false ∧ W.frozen? ⟨B, 6, none⟩ = false ∧ W.frozen? ⟨B, 7, none⟩ = false ∧ W.frozen? ⟨B, 8, none⟩ = false ∧ W.frozen? ⟨B, 9, none⟩ = false ∧ W.frozen? ⟨B, 10, none⟩ = false ∧ W.frozen? ⟨B, 11, none⟩ = false ∧ W.frozen? ⟨B, 12, none⟩ = false ∧ W.frozen? ⟨B, 13, none⟩ = false := by
  refine ⟨?_, ?_, ?_, ?_, ?_, ?_, ?_, ?_, ?_, ?_, ?_, ?_, ?_, ?_, ?_, ?_, ?_, ?_, ?_, ?_, ?_, ?_, ?_, ?_, ?_, ?_, ?_, ?_⟩ <;> simp [World.cell?, World.frozen?, h]


set_option maxRecDepth 100000 in
theorem unlike_any (_s _t : StepD) (cs ct : List Value) (w : World) (h : cs.length = 13) (h' : ct.length = 13) :
    Calls Try.prog 85 #[.agg cs.toArray, .agg ct.toArray] w fun e w' => e = .returned (.func (.func 125) #[] #[.pointer (some ⟨w.heap.size, 0, none⟩), .pointer (some ⟨w.heap.size + 1, 0, none⟩)]) ∧ (w.alloc (.cells cs.toArray 45)).alloc (.cells ct.toArray 45) = w' := by
  obtain ⟨a0, a1, a2, a3, a4, a5, a6, a7, a8, a9, a10, a11, a12, rfl⟩ : ∃ a0 a1 a2 a3 a4 a5 a6 a7 a8 a9 a10 a11 a12, cs = [a0, a1, a2, a3, a4, a5, a6, a7, a8, a9, a10, a11, a12] := list13 h
  obtain ⟨b0, b1, b2, b3, b4, b5, b6, b7, b8, b9, b10, b11, b12, rfl⟩ : ∃ b0 b1 b2 b3 b4 b5 b6 b7 b8 b9 b10 b11 b12, ct = [b0, b1, b2, b3, b4, b5, b6, b7, b8, b9, b10, b11, b12] := list13 h'
  go_enter Try.func85, Try.ntmps85
  go_wp2
  go_ret
  exact ⟨rfl, rfl⟩

theorem ifs3 (a b c d e f : Int) (w : World) : (if a = b then if c = d then if e = f then Result.ok (Next.value (Value.bool true)) w else Result.ok (Next.value (Value.bool false)) w else Result.ok (Next.value (Value.bool false)) w else Result.ok (Next.value (Value.bool false)) w) = Result.ok (Next.value (.bool (decide (a = b) && decide (c = d) && decide (e = f)))) w := by
  by_cases h1 : a = b <;> by_cases h2 : c = d <;> by_cases h3 : e = f <;> simp [h1, h2, h3]
set_option maxRecDepth 100000 in
theorem index_parts (x0 x1 x2 x3 x4 x5 x6 : Bool) (k : Nat) (hk : k < 7) (w : World) :
    (Instr.index 146 (.agg #[.string { data := #[110, 97, 109, 101] }, .bool x0, .string { data := #[97, 99, 116, 105, 111, 110] }, .bool x1, .string { data := #[117, 110, 100, 111] }, .bool x2, .string { data := #[97, 102, 116, 101, 114] }, .bool x3, .string { data := #[114, 101, 116, 114, 121] }, .bool x4, .string { data := #[108, 105, 109, 105, 116] }, .bool x5, .string { data := #[110, 111, 116, 101] }, .bool x6]) (.int .i64 (k : Int))).run Try.prog w = .ok (.agg #[.string (nmL[k]'hk), .bool ([x0, x1, x2, x3, x4, x5, x6][k]'hk)]) w := by
  have : k = 0 ∨ k = 1 ∨ k = 2 ∨ k = 3 ∨ k = 4 ∨ k = 5 ∨ k = 6 := by omega
  rcases this with rfl | rfl | rfl | rfl | rfl | rfl | rfl <;> (first | rfl | (show _ = _; kernel_rfl))

set_option maxRecDepth 100000 in
set_option maxHeartbeats 8000000 in
theorem unlike_iter (s t : StepD) (a1 a2 k1 k2 b1 b2 : Option Addr) (c1 c2 d1 d2 e1 e2 n0 X Y : Nat) (w0 w : World) (_hX : n0 ≤ X) (_hY : n0 ≤ Y) (_hnw : n0 ≤ w.heap.size)
    (hbX : w.heap[X]? = some (.cells #[.string s.name, .string s.action, .string s.undo, .slice a1 s.after.length c1, .int .i64 s.most, .int .i64 s.first, .int .i64 s.factor, .int .i64 s.limit, .int .u8 (s.note.kind : Int), .string s.note.text, .slice k1 s.note.keys.length d1, .slice b1 s.note.kids.length e1, .int .i64 s.note.line] 45 (0, 0))) (hbY : w.heap[Y]? = some (.cells #[.string t.name, .string t.action, .string t.undo, .slice a2 t.after.length c2, .int .i64 t.most, .int .i64 t.first, .int .i64 t.factor, .int .i64 t.limit, .int .u8 (t.note.kind : Int), .string t.note.text, .slice k2 t.note.keys.length d2, .slice b2 t.note.kids.length e2, .int .i64 t.note.line] 45 (0, 0)))
    (hva : RdS w0 (.slice a1 s.after.length c1) 1 s.after.length (strsV s.after)) (hvb : RdS w0 (.slice a2 t.after.length c2) 1 t.after.length (strsV t.after))
    (hna : NodeR w0 [.int .u8 (s.note.kind : Int), .string s.note.text, .slice k1 s.note.keys.length d1, .slice b1 s.note.kids.length e1, .int .i64 s.note.line] s.note) (hnb : NodeR w0 [.int .u8 (t.note.kind : Int), .string t.note.text, .slice k2 t.note.keys.length d2, .slice b2 t.note.kids.length e2, .int .i64 t.note.line] t.note) (h0w : Below w0.heap.size w0 w) (_h0n : w0.heap.size ≤ n0) :
    IterAt Try.prog n0 125 #[.pointer (some ⟨X, 0, none⟩), .pointer (some ⟨Y, 0, none⟩)] (fun n => #[.string n]) (unl s t) True (fun j => j = X ∨ j = Y) w := by
  intro l J Jx W _ hS hn0 hbl hJ hJx hY2 h0
  have hltX := (Array.getElem?_eq_some_iff.1 hbX).1
  have hltY := (Array.getElem?_eq_some_iff.1 hbY).1
  have hbX' := (hbl.block X hltX).trans hbX
  have hbY' := (hbl.block Y hltY).trans hbY
  have h0W := bthen h0w (Nat.le_refl _) hbl
  obtain ⟨p0, p1, p2, p3, p4, p5, p6, p7, p8, p9, p10, p11, p12⟩ := cells13q hbX'
  obtain ⟨r0, r1, r2, r3, r4, r5, r6, r7, r8, r9, r10, r11, r12⟩ := cells13q hbY'
  have HVA := Lib.hid (hva.below h0W)
  have HVB := Lib.hid (hvb.below h0W)
  have HNA := Lib.hid (hna.belowW h0W)
  have HNB := Lib.hid (hnb.belowW h0W)
  have HY := Lib.hid hY2
  have HS := Lib.hid hS
  have HJ := Lib.hid hJ
  have H0 := Lib.hid h0
  clear hY2 hS hva hvb hna hnb hbX hbY hbX' hbY' h0w hbl hltX hltY hJ hJx
  refine callsIn_of_wp Try.func125 rfl trivial ?_ rfl
  simp only [Try.ntmps125, List.size_toArray, List.length_cons, List.length_nil, Nat.reduceAdd, Nat.reduceSub, Array.replicate_succ, Array.replicate_zero, List.push_toArray, List.append_toArray, List.nil_append, List.cons_append]
  gi_upto_region 0 with fail
  gi_cut [4] from 5 (fun s4 wx => ∃ g, s4 = .pointer (some ⟨g, 0, none⟩) ∧ wx.heap[g]? = some (.cells #[.string { data := #[110, 97, 109, 101] }, .bool (decide (s.name = t.name)), .string { data := #[97, 99, 116, 105, 111, 110] }, .bool (decide (s.action = t.action)), .string { data := #[117, 110, 100, 111] }, .bool (decide (s.undo = t.undo)), .string { data := #[97, 102, 116, 101, 114] }, .bool (decide (s.after = t.after)), .string { data := #[114, 101, 116, 114, 121] }, .bool ((decide (s.most = t.most) && decide (s.first = t.first) && decide (s.factor = t.factor))), .string { data := #[108, 105, 109, 105, 116] }, .bool (decide (s.limit = t.limit)), .string { data := #[110, 111, 116, 101] }, .bool (sameT s.note t.note)] 146 (0, 0)) ∧ Below W.heap.size W wx)
  case first =>
    have q0 := beqS s.name t.name
    have q1 := beqS s.action t.action
    have q2 := beqS s.undo t.undo
    have q5 : (s.limit == t.limit) = decide (s.limit = t.limit) := by rw [Bool.eq_iff_iff]; simp
    refine E_regionW (S := (fun W => W.cell? ⟨X, 0, none⟩ = some (.string s.name) ∧ W.cell? ⟨X, 1, none⟩ = some (.string s.action) ∧ W.cell? ⟨X, 2, none⟩ = some (.string s.undo) ∧ W.cell? ⟨X, 3, none⟩ = some (.slice a1 s.after.length c1) ∧ W.cell? ⟨X, 4, none⟩ = some (.int .i64 s.most) ∧ W.cell? ⟨X, 5, none⟩ = some (.int .i64 s.first) ∧ W.cell? ⟨X, 6, none⟩ = some (.int .i64 s.factor) ∧ W.cell? ⟨X, 7, none⟩ = some (.int .i64 s.limit) ∧ W.cell? ⟨X, 8, none⟩ = some (.int .u8 (s.note.kind : Int)) ∧ W.cell? ⟨X, 9, none⟩ = some (.string s.note.text) ∧ W.cell? ⟨X, 10, none⟩ = some (.slice k1 s.note.keys.length d1) ∧ W.cell? ⟨X, 11, none⟩ = some (.slice b1 s.note.kids.length e1) ∧ W.cell? ⟨X, 12, none⟩ = some (.int .i64 s.note.line) ∧ W.cell? ⟨Y, 0, none⟩ = some (.string t.name) ∧ W.cell? ⟨Y, 1, none⟩ = some (.string t.action) ∧ W.cell? ⟨Y, 2, none⟩ = some (.string t.undo) ∧ W.cell? ⟨Y, 3, none⟩ = some (.slice a2 t.after.length c2) ∧ W.cell? ⟨Y, 4, none⟩ = some (.int .i64 t.most) ∧ W.cell? ⟨Y, 5, none⟩ = some (.int .i64 t.first) ∧ W.cell? ⟨Y, 6, none⟩ = some (.int .i64 t.factor) ∧ W.cell? ⟨Y, 7, none⟩ = some (.int .i64 t.limit) ∧ W.cell? ⟨Y, 8, none⟩ = some (.int .u8 (t.note.kind : Int)) ∧ W.cell? ⟨Y, 9, none⟩ = some (.string t.note.text) ∧ W.cell? ⟨Y, 10, none⟩ = some (.slice k2 t.note.keys.length d2) ∧ W.cell? ⟨Y, 11, none⟩ = some (.slice b2 t.note.kids.length e2) ∧ W.cell? ⟨Y, 12, none⟩ = some (.int .i64 t.note.line))) 44 (by kernel_rfl) (by kernel_rfl) ⟨p0, p1, p2, p3, p4, p5, p6, p7, p8, p9, p10, p11, p12, r0, r1, r2, r3, r4, r5, r6, r7, r8, r9, r10, r11, r12⟩ (fun Q' hQ hK' hHeld => ?_)
    refine E_take0 hQ (fun _ => hHeld) 0 (v := ?zv1) rfl rfl (by kernel_rfl) (by kernel_rfl) (by kernel_rfl) (by decide) (by rfl) ?zy1 ?zr1
    case zy1 => (intro w; go_simp; (try with_reducible rfl))
    (try simp only [Act.put, List.setIfInBounds_toArray, List.set_cons_zero, List.set_cons_succ])
    refine E_take hQ hHeld 1 (v := ?zv2) rfl rfl (by kernel_rfl) (by kernel_rfl) (by kernel_rfl) (by kernel_rfl) (by kernel_rfl) (by rfl) ?zy2 ?zr2
    case zy2 => (intro w hSw; (try dsimp only at hSw); go_simp; (try with_reducible rfl))
    (try simp only [Act.put, List.setIfInBounds_toArray, List.set_cons_zero, List.set_cons_succ])
    refine E_take0 hQ (fun _ => hHeld) 2 (v := ?zv3) rfl rfl (by kernel_rfl) (by kernel_rfl) (by kernel_rfl) (by decide) (by rfl) ?zy3 ?zr3
    case zy3 => (intro w; go_simp; (try with_reducible rfl))
    (try simp only [Act.put, List.setIfInBounds_toArray, List.set_cons_zero, List.set_cons_succ])
    refine E_take hQ hHeld 3 (v := ?zv4) rfl rfl (by kernel_rfl) (by kernel_rfl) (by kernel_rfl) (by kernel_rfl) (by kernel_rfl) (by rfl) ?zy4 ?zr4
    case zy4 => (intro w hSw; (try dsimp only at hSw); go_simp; (try with_reducible rfl))
    (try simp only [Act.put, List.setIfInBounds_toArray, List.set_cons_zero, List.set_cons_succ])
    refine E_take0 hQ (fun _ => hHeld) 4 (v := ?zv5) rfl rfl (by kernel_rfl) (by kernel_rfl) (by kernel_rfl) (by decide) (by rfl) ?zy5 ?zr5
    case zy5 => (intro w; go_simp; (try with_reducible rfl))
    (try simp only [Act.put, List.setIfInBounds_toArray, List.set_cons_zero, List.set_cons_succ])
    refine E_take0 hQ (fun _ => hHeld) 5 (v := ?zv6) rfl rfl (by kernel_rfl) (by kernel_rfl) (by kernel_rfl) (by decide) (by rfl) ?zy6 ?zr6
    case zy6 => (intro w; go_simp; (try with_reducible rfl))
    (try simp only [Act.put, List.setIfInBounds_toArray, List.set_cons_zero, List.set_cons_succ])
    refine E_take0 hQ (fun _ => hHeld) 6 (v := ?zv7) rfl rfl (by kernel_rfl) (by kernel_rfl) (by kernel_rfl) (by decide) (by rfl) ?zy7 ?zr7
    case zy7 => (intro w; go_simp; (try with_reducible rfl))
    (try simp only [Act.put, List.setIfInBounds_toArray, List.set_cons_zero, List.set_cons_succ])
    refine E_take hQ hHeld 7 (v := ?zv8) rfl rfl (by kernel_rfl) (by kernel_rfl) (by kernel_rfl) (by kernel_rfl) (by kernel_rfl) (by rfl) ?zy8 ?zr8
    case zy8 => (intro w hSw; (try dsimp only at hSw); go_simp; (try with_reducible rfl))
    (try simp only [Act.put, List.setIfInBounds_toArray, List.set_cons_zero, List.set_cons_succ])
    refine E_take0 hQ (fun _ => hHeld) 8 (v := ?zv9) rfl rfl (by kernel_rfl) (by kernel_rfl) (by kernel_rfl) (by decide) (by rfl) ?zy9 ?zr9
    case zy9 => (intro w; go_simp; (try with_reducible rfl))
    (try simp only [Act.put, List.setIfInBounds_toArray, List.set_cons_zero, List.set_cons_succ])
    refine E_take hQ hHeld 9 (v := ?zv10) rfl rfl (by kernel_rfl) (by kernel_rfl) (by kernel_rfl) (by kernel_rfl) (by kernel_rfl) (by rfl) ?zy10 ?zr10
    case zy10 => (intro w hSw; (try dsimp only at hSw); go_simp; (try with_reducible rfl))
    (try simp only [Act.put, List.setIfInBounds_toArray, List.set_cons_zero, List.set_cons_succ])
    refine E_take0 hQ (fun _ => hHeld) 10 (v := ?zv11) rfl rfl (by kernel_rfl) (by kernel_rfl) (by kernel_rfl) (by decide) (by rfl) ?zy11 ?zr11
    case zy11 => (intro w; go_simp; (try with_reducible rfl))
    (try simp only [Act.put, List.setIfInBounds_toArray, List.set_cons_zero, List.set_cons_succ])
    refine E_take0 hQ (fun _ => hHeld) 11 (v := ?zv12) rfl rfl (by kernel_rfl) (by kernel_rfl) (by kernel_rfl) (by decide) (by rfl) ?zy12 ?zr12
    case zy12 => (intro w; go_simp; (try with_reducible rfl))
    (try simp only [Act.put, List.setIfInBounds_toArray, List.set_cons_zero, List.set_cons_succ])
    refine E_take0 hQ (fun _ => hHeld) 12 (v := ?zv13) rfl rfl (by kernel_rfl) (by kernel_rfl) (by kernel_rfl) (by decide) (by rfl) ?zy13 ?zr13
    case zy13 => (intro w; go_simp; (try with_reducible rfl))
    (try simp only [Act.put, List.setIfInBounds_toArray, List.set_cons_zero, List.set_cons_succ])
    refine E_take hQ hHeld 13 (v := ?zv14) rfl rfl (by kernel_rfl) (by kernel_rfl) (by kernel_rfl) (by kernel_rfl) (by kernel_rfl) (by rfl) ?zy14 ?zr14
    case zy14 => (intro w hSw; (try dsimp only at hSw); go_simp; (try with_reducible rfl))
    (try simp only [Act.put, List.setIfInBounds_toArray, List.set_cons_zero, List.set_cons_succ])
    refine E_take0 hQ (fun _ => hHeld) 14 (v := ?zv15) rfl rfl (by kernel_rfl) (by kernel_rfl) (by kernel_rfl) (by decide) (by rfl) ?zy15 ?zr15
    case zy15 => (intro w; go_simp; (try with_reducible rfl))
    (try simp only [Act.put, List.setIfInBounds_toArray, List.set_cons_zero, List.set_cons_succ])
    refine E_take hQ hHeld 15 (v := ?zv16) rfl rfl (by kernel_rfl) (by kernel_rfl) (by kernel_rfl) (by kernel_rfl) (by kernel_rfl) (by rfl) ?zy16 ?zr16
    case zy16 => (intro w hSw; (try dsimp only at hSw); go_simp; (try with_reducible rfl))
    (try simp only [Act.put, List.setIfInBounds_toArray, List.set_cons_zero, List.set_cons_succ])
    refine E_take0 hQ (fun _ => hHeld) 16 (v := ?zv17) rfl rfl (by kernel_rfl) (by kernel_rfl) (by kernel_rfl) (by decide) (by rfl) ?zy17 ?zr17
    case zy17 => (intro w; go_simp; (try with_reducible rfl))
    (try simp only [Act.put, List.setIfInBounds_toArray, List.set_cons_zero, List.set_cons_succ])
    refine E_take0 hQ (fun _ => hHeld) 17 (v := ?zv18) rfl rfl (by kernel_rfl) (by kernel_rfl) (by kernel_rfl) (by decide) (by rfl) ?zy18 ?zr18
    case zy18 => (intro w; go_simp; (try with_reducible rfl))
    (try simp only [Act.put, List.setIfInBounds_toArray, List.set_cons_zero, List.set_cons_succ])
    refine E_take0 hQ (fun _ => hHeld) 18 (v := ?zv19) rfl rfl (by kernel_rfl) (by kernel_rfl) (by kernel_rfl) (by decide) (by rfl) ?zy19 ?zr19
    case zy19 => (intro w; go_simp; (try with_reducible rfl))
    (try simp only [Act.put, List.setIfInBounds_toArray, List.set_cons_zero, List.set_cons_succ])
    refine E_take hQ hHeld 19 (v := ?zv20) rfl rfl (by kernel_rfl) (by kernel_rfl) (by kernel_rfl) (by kernel_rfl) (by kernel_rfl) (by rfl) ?zy20 ?zr20
    case zy20 => (intro w hSw; (try dsimp only at hSw); go_simp; (try with_reducible rfl))
    (try simp only [Act.put, List.setIfInBounds_toArray, List.set_cons_zero, List.set_cons_succ])
    refine E_take0 hQ (fun _ => hHeld) 20 (v := ?zv21) rfl rfl (by kernel_rfl) (by kernel_rfl) (by kernel_rfl) (by decide) (by rfl) ?zy21 ?zr21
    case zy21 => (intro w; go_simp; (try with_reducible rfl))
    (try simp only [Act.put, List.setIfInBounds_toArray, List.set_cons_zero, List.set_cons_succ])
    refine E_take hQ hHeld 21 (v := ?zv22) rfl rfl (by kernel_rfl) (by kernel_rfl) (by kernel_rfl) (by kernel_rfl) (by kernel_rfl) (by rfl) ?zy22 ?zr22
    case zy22 => (intro w hSw; (try dsimp only at hSw); go_simp; (try with_reducible rfl))
    (try simp only [Act.put, List.setIfInBounds_toArray, List.set_cons_zero, List.set_cons_succ])
    refine E_take0 hQ (fun _ => hHeld) 24 (v := ?zv23) rfl rfl (by kernel_rfl) (by kernel_rfl) (by kernel_rfl) (by decide) (by rfl) ?zy23 ?zr23
    case zy23 => (intro w; go_simp; (try with_reducible rfl))
    (try simp only [Act.put, List.setIfInBounds_toArray, List.set_cons_zero, List.set_cons_succ])
    refine E_take hQ hHeld 25 (v := ?zv24) rfl rfl (by kernel_rfl) (by kernel_rfl) (by kernel_rfl) (by kernel_rfl) (by kernel_rfl) (by rfl) ?zy24 ?zr24
    case zy24 => (intro w hSw; (try dsimp only at hSw); go_simp; (try with_reducible rfl))
    (try simp only [Act.put, List.setIfInBounds_toArray, List.set_cons_zero, List.set_cons_succ])
    refine E_take0 hQ (fun _ => hHeld) 26 (v := ?zv25) rfl rfl (by kernel_rfl) (by kernel_rfl) (by kernel_rfl) (by decide) (by rfl) ?zy25 ?zr25
    case zy25 => (intro w; go_simp; (try with_reducible rfl))
    (try simp only [Act.put, List.setIfInBounds_toArray, List.set_cons_zero, List.set_cons_succ])
    refine E_take hQ hHeld 27 (v := ?zv26) rfl rfl (by kernel_rfl) (by kernel_rfl) (by kernel_rfl) (by kernel_rfl) (by kernel_rfl) (by rfl) ?zy26 ?zr26
    case zy26 => (intro w hSw; (try dsimp only at hSw); go_simp; (try with_reducible rfl))
    (try simp only [Act.put, List.setIfInBounds_toArray, List.set_cons_zero, List.set_cons_succ])
    refine E_take0 hQ (fun _ => hHeld) 28 (v := ?zv27) rfl rfl (by kernel_rfl) (by kernel_rfl) (by kernel_rfl) (by decide) (by rfl) ?zy27 ?zr27
    case zy27 => (intro w; go_simp; (rw [ifs3]))
    (try simp only [Act.put, List.setIfInBounds_toArray, List.set_cons_zero, List.set_cons_succ])
    refine E_take0 hQ (fun _ => hHeld) 29 (v := ?zv28) rfl rfl (by kernel_rfl) (by kernel_rfl) (by kernel_rfl) (by decide) (by rfl) ?zy28 ?zr28
    case zy28 => (intro w; go_simp; (try with_reducible rfl))
    (try simp only [Act.put, List.setIfInBounds_toArray, List.set_cons_zero, List.set_cons_succ])
    refine E_take0 hQ (fun _ => hHeld) 30 (v := ?zv29) rfl rfl (by kernel_rfl) (by kernel_rfl) (by kernel_rfl) (by decide) (by rfl) ?zy29 ?zr29
    case zy29 => (intro w; go_simp; (try with_reducible rfl))
    (try simp only [Act.put, List.setIfInBounds_toArray, List.set_cons_zero, List.set_cons_succ])
    refine E_take hQ hHeld 31 (v := ?zv30) rfl rfl (by kernel_rfl) (by kernel_rfl) (by kernel_rfl) (by kernel_rfl) (by kernel_rfl) (by rfl) ?zy30 ?zr30
    case zy30 => (intro w hSw; (try dsimp only at hSw); go_simp; (try with_reducible rfl))
    (try simp only [Act.put, List.setIfInBounds_toArray, List.set_cons_zero, List.set_cons_succ])
    refine E_take0 hQ (fun _ => hHeld) 32 (v := ?zv31) rfl rfl (by kernel_rfl) (by kernel_rfl) (by kernel_rfl) (by decide) (by rfl) ?zy31 ?zr31
    case zy31 => (intro w; go_simp; (try with_reducible rfl))
    (try simp only [Act.put, List.setIfInBounds_toArray, List.set_cons_zero, List.set_cons_succ])
    refine E_take hQ hHeld 33 (v := ?zv32) rfl rfl (by kernel_rfl) (by kernel_rfl) (by kernel_rfl) (by kernel_rfl) (by kernel_rfl) (by rfl) ?zy32 ?zr32
    case zy32 => (intro w hSw; (try dsimp only at hSw); go_simp; (try with_reducible rfl))
    (try simp only [Act.put, List.setIfInBounds_toArray, List.set_cons_zero, List.set_cons_succ])
    refine E_take0 hQ (fun _ => hHeld) 34 (v := ?zv33) rfl rfl (by kernel_rfl) (by kernel_rfl) (by kernel_rfl) (by decide) (by rfl) ?zy33 ?zr33
    case zy33 => (intro w; go_simp; (try with_reducible rfl))
    (try simp only [Act.put, List.setIfInBounds_toArray, List.set_cons_zero, List.set_cons_succ])
    refine E_take0 hQ (fun _ => hHeld) 35 (v := ?zv34) rfl rfl (by kernel_rfl) (by kernel_rfl) (by kernel_rfl) (by decide) (by rfl) ?zy34 ?zr34
    case zy34 => (intro w; go_simp; (try with_reducible rfl))
    (try simp only [Act.put, List.setIfInBounds_toArray, List.set_cons_zero, List.set_cons_succ])
    refine E_take0 hQ (fun _ => hHeld) 36 (v := ?zv35) rfl rfl (by kernel_rfl) (by kernel_rfl) (by kernel_rfl) (by decide) (by rfl) ?zy35 ?zr35
    case zy35 => (intro w; go_simp; (try with_reducible rfl))
    (try simp only [Act.put, List.setIfInBounds_toArray, List.set_cons_zero, List.set_cons_succ])
    refine E_take hQ hHeld 37 (v := ?zv36) rfl rfl (by kernel_rfl) (by kernel_rfl) (by kernel_rfl) (by kernel_rfl) (by kernel_rfl) (by rfl) ?zy36 ?zr36
    case zy36 => (intro w hSw; (try dsimp only at hSw); go_simp; (try with_reducible rfl))
    (try simp only [Act.put, List.setIfInBounds_toArray, List.set_cons_zero, List.set_cons_succ])
    refine E_take0 hQ (fun _ => hHeld) 38 (v := ?zv37) rfl rfl (by kernel_rfl) (by kernel_rfl) (by kernel_rfl) (by decide) (by rfl) ?zy37 ?zr37
    case zy37 => (intro w; go_simp; (try with_reducible rfl))
    (try simp only [Act.put, List.setIfInBounds_toArray, List.set_cons_zero, List.set_cons_succ])
    refine E_take hQ hHeld 39 (v := ?zv38) rfl rfl (by kernel_rfl) (by kernel_rfl) (by kernel_rfl) (by kernel_rfl) (by kernel_rfl) (by rfl) ?zy38 ?zr38
    case zy38 => (intro w hSw; (try dsimp only at hSw); go_simp; (try with_reducible rfl))
    (try simp only [Act.put, List.setIfInBounds_toArray, List.set_cons_zero, List.set_cons_succ])
    have HB0 : Hid (Below W.heap.size W W.drew) := Lib.hid ((Below.refl _ _).drew)
    generalize W.drew = wn0 at *
    refine E_two 22 43 (by kernel_rfl) rfl rfl (by rfl) (by rfl) (fun K hK => ?_) (fun K hK => ?_)
    · go_simp
      refine (EqualS_any s.after t.after _ _ _ (HVA.out.below HB0.out) (HVB.out.below HB0.out)).mono ?_
      rintro e wn1 ⟨rfl, hb⟩
      have HD1 := Lib.hid hb
      have HB1 := Lib.hid (bthen HB0.out (Nat.le_refl _) hb)
      clear hb
      refine hK.out _ _ (fun _ _ => ⟨cellB HD1.out hHeld.1, cellB HD1.out hHeld.2.1, cellB HD1.out hHeld.2.2.1, cellB HD1.out hHeld.2.2.2.1, cellB HD1.out hHeld.2.2.2.2.1, cellB HD1.out hHeld.2.2.2.2.2.1, cellB HD1.out hHeld.2.2.2.2.2.2.1, cellB HD1.out hHeld.2.2.2.2.2.2.2.1, cellB HD1.out hHeld.2.2.2.2.2.2.2.2.1, cellB HD1.out hHeld.2.2.2.2.2.2.2.2.2.1, cellB HD1.out hHeld.2.2.2.2.2.2.2.2.2.2.1, cellB HD1.out hHeld.2.2.2.2.2.2.2.2.2.2.2.1, cellB HD1.out hHeld.2.2.2.2.2.2.2.2.2.2.2.2.1, cellB HD1.out hHeld.2.2.2.2.2.2.2.2.2.2.2.2.2.1, cellB HD1.out hHeld.2.2.2.2.2.2.2.2.2.2.2.2.2.2.1, cellB HD1.out hHeld.2.2.2.2.2.2.2.2.2.2.2.2.2.2.2.1, cellB HD1.out hHeld.2.2.2.2.2.2.2.2.2.2.2.2.2.2.2.2.1, cellB HD1.out hHeld.2.2.2.2.2.2.2.2.2.2.2.2.2.2.2.2.2.1, cellB HD1.out hHeld.2.2.2.2.2.2.2.2.2.2.2.2.2.2.2.2.2.2.1, cellB HD1.out hHeld.2.2.2.2.2.2.2.2.2.2.2.2.2.2.2.2.2.2.2.1, cellB HD1.out hHeld.2.2.2.2.2.2.2.2.2.2.2.2.2.2.2.2.2.2.2.2.1, cellB HD1.out hHeld.2.2.2.2.2.2.2.2.2.2.2.2.2.2.2.2.2.2.2.2.2.1, cellB HD1.out hHeld.2.2.2.2.2.2.2.2.2.2.2.2.2.2.2.2.2.2.2.2.2.2.1, cellB HD1.out hHeld.2.2.2.2.2.2.2.2.2.2.2.2.2.2.2.2.2.2.2.2.2.2.2.1, cellB HD1.out hHeld.2.2.2.2.2.2.2.2.2.2.2.2.2.2.2.2.2.2.2.2.2.2.2.2.1, cellB HD1.out hHeld.2.2.2.2.2.2.2.2.2.2.2.2.2.2.2.2.2.2.2.2.2.2.2.2.2⟩) (fun hHeld' => ?_)
      replace hHeld := hHeld' (by rfl) (by decide)
      clear hK hHeld'
      (try simp only [Act.put, List.setIfInBounds_toArray, List.set_cons_zero, List.set_cons_succ])
      refine E_take0 hQ (fun _ => hHeld) 23 (v := ?zv39) rfl rfl (by kernel_rfl) (by kernel_rfl) (by kernel_rfl) (by decide) (by rfl) ?zy39 ?zr39
      case zy39 => (intro w; go_simp; (try with_reducible rfl))
      (try simp only [Act.put, List.setIfInBounds_toArray, List.set_cons_zero, List.set_cons_succ])
      refine E_two 40 43 (by kernel_rfl) rfl rfl (by rfl) (by rfl) (fun K hK => ?_) (fun K hK => ?_)
      · go_simp
        refine (bSame_any s.note t.note _ _ _ (HNA.out.belowW HB1.out) (HNB.out.belowW HB1.out)).mono ?_
        rintro e wn2 ⟨rfl, hb⟩
        have HD2 := Lib.hid hb
        have HB2 := Lib.hid (bthen HB1.out (Nat.le_refl _) hb)
        clear hb
        refine hK.out _ _ (fun _ _ => ⟨cellB HD2.out hHeld.1, cellB HD2.out hHeld.2.1, cellB HD2.out hHeld.2.2.1, cellB HD2.out hHeld.2.2.2.1, cellB HD2.out hHeld.2.2.2.2.1, cellB HD2.out hHeld.2.2.2.2.2.1, cellB HD2.out hHeld.2.2.2.2.2.2.1, cellB HD2.out hHeld.2.2.2.2.2.2.2.1, cellB HD2.out hHeld.2.2.2.2.2.2.2.2.1, cellB HD2.out hHeld.2.2.2.2.2.2.2.2.2.1, cellB HD2.out hHeld.2.2.2.2.2.2.2.2.2.2.1, cellB HD2.out hHeld.2.2.2.2.2.2.2.2.2.2.2.1, cellB HD2.out hHeld.2.2.2.2.2.2.2.2.2.2.2.2.1, cellB HD2.out hHeld.2.2.2.2.2.2.2.2.2.2.2.2.2.1, cellB HD2.out hHeld.2.2.2.2.2.2.2.2.2.2.2.2.2.2.1, cellB HD2.out hHeld.2.2.2.2.2.2.2.2.2.2.2.2.2.2.2.1, cellB HD2.out hHeld.2.2.2.2.2.2.2.2.2.2.2.2.2.2.2.2.1, cellB HD2.out hHeld.2.2.2.2.2.2.2.2.2.2.2.2.2.2.2.2.2.1, cellB HD2.out hHeld.2.2.2.2.2.2.2.2.2.2.2.2.2.2.2.2.2.2.1, cellB HD2.out hHeld.2.2.2.2.2.2.2.2.2.2.2.2.2.2.2.2.2.2.2.1, cellB HD2.out hHeld.2.2.2.2.2.2.2.2.2.2.2.2.2.2.2.2.2.2.2.2.1, cellB HD2.out hHeld.2.2.2.2.2.2.2.2.2.2.2.2.2.2.2.2.2.2.2.2.2.1, cellB HD2.out hHeld.2.2.2.2.2.2.2.2.2.2.2.2.2.2.2.2.2.2.2.2.2.2.1, cellB HD2.out hHeld.2.2.2.2.2.2.2.2.2.2.2.2.2.2.2.2.2.2.2.2.2.2.2.1, cellB HD2.out hHeld.2.2.2.2.2.2.2.2.2.2.2.2.2.2.2.2.2.2.2.2.2.2.2.2.1, cellB HD2.out hHeld.2.2.2.2.2.2.2.2.2.2.2.2.2.2.2.2.2.2.2.2.2.2.2.2.2⟩) (fun hHeld' => ?_)
        replace hHeld := hHeld' (by rfl) (by decide)
        clear hK hHeld'
        (try simp only [Act.put, List.setIfInBounds_toArray, List.set_cons_zero, List.set_cons_succ])
        refine E_take0 hQ (fun _ => hHeld) 41 (v := ?zv40) rfl rfl (by kernel_rfl) (by kernel_rfl) (by kernel_rfl) (by decide) (by rfl) ?zy40 ?zr40
        case zy40 => (intro w; go_simp; (try with_reducible rfl))
        (try simp only [Act.put, List.setIfInBounds_toArray, List.set_cons_zero, List.set_cons_succ])
        refine E_take0 hQ (fun _ => hHeld) 42 (v := ?zv41) rfl rfl (by kernel_rfl) (by kernel_rfl) (by kernel_rfl) (by decide) (by rfl) ?zy41 ?zr41
        case zy41 => (intro w; go_simp; (try with_reducible rfl))
        (try simp only [Act.put, List.setIfInBounds_toArray, List.set_cons_zero, List.set_cons_succ])
        refine E_one 43 (by kernel_rfl) rfl (by rfl) (fun K hK => ?_)
        go_simp
        have hb : Below wn2.heap.size wn2 (wn2.alloc (.cells #[.string { data := #[] }, .bool false, .string { data := #[] }, .bool false, .string { data := #[] }, .bool false, .string { data := #[] }, .bool false, .string { data := #[] }, .bool false, .string { data := #[] }, .bool false, .string { data := #[] }, .bool false] 146)) := (Below.refl _ _).alloc (Nat.le_refl _) _
        have FT3 := Lib.hid (World.alloc_heap_new wn2 (.cells #[.string { data := #[] }, .bool false, .string { data := #[] }, .bool false, .string { data := #[] }, .bool false, .string { data := #[] }, .bool false, .string { data := #[] }, .bool false, .string { data := #[] }, .bool false, .string { data := #[] }, .bool false] 146))
        have HL3 : W.heap.size ≤ wn2.heap.size := HB2.out.size
        have HD3 := Lib.hid hb
        have HB3 := Lib.hid (bthen HB2.out (Nat.le_refl _) hb)
        clear hb
        (try simp only [Act.put, List.setIfInBounds_toArray, List.set_cons_zero, List.set_cons_succ])
        refine hK.out _ _ (fun _ _ => ⟨cellB HD3.out hHeld.1, cellB HD3.out hHeld.2.1, cellB HD3.out hHeld.2.2.1, cellB HD3.out hHeld.2.2.2.1, cellB HD3.out hHeld.2.2.2.2.1, cellB HD3.out hHeld.2.2.2.2.2.1, cellB HD3.out hHeld.2.2.2.2.2.2.1, cellB HD3.out hHeld.2.2.2.2.2.2.2.1, cellB HD3.out hHeld.2.2.2.2.2.2.2.2.1, cellB HD3.out hHeld.2.2.2.2.2.2.2.2.2.1, cellB HD3.out hHeld.2.2.2.2.2.2.2.2.2.2.1, cellB HD3.out hHeld.2.2.2.2.2.2.2.2.2.2.2.1, cellB HD3.out hHeld.2.2.2.2.2.2.2.2.2.2.2.2.1, cellB HD3.out hHeld.2.2.2.2.2.2.2.2.2.2.2.2.2.1, cellB HD3.out hHeld.2.2.2.2.2.2.2.2.2.2.2.2.2.2.1, cellB HD3.out hHeld.2.2.2.2.2.2.2.2.2.2.2.2.2.2.2.1, cellB HD3.out hHeld.2.2.2.2.2.2.2.2.2.2.2.2.2.2.2.2.1, cellB HD3.out hHeld.2.2.2.2.2.2.2.2.2.2.2.2.2.2.2.2.2.1, cellB HD3.out hHeld.2.2.2.2.2.2.2.2.2.2.2.2.2.2.2.2.2.2.1, cellB HD3.out hHeld.2.2.2.2.2.2.2.2.2.2.2.2.2.2.2.2.2.2.2.1, cellB HD3.out hHeld.2.2.2.2.2.2.2.2.2.2.2.2.2.2.2.2.2.2.2.2.1, cellB HD3.out hHeld.2.2.2.2.2.2.2.2.2.2.2.2.2.2.2.2.2.2.2.2.2.1, cellB HD3.out hHeld.2.2.2.2.2.2.2.2.2.2.2.2.2.2.2.2.2.2.2.2.2.2.1, cellB HD3.out hHeld.2.2.2.2.2.2.2.2.2.2.2.2.2.2.2.2.2.2.2.2.2.2.2.1, cellB HD3.out hHeld.2.2.2.2.2.2.2.2.2.2.2.2.2.2.2.2.2.2.2.2.2.2.2.2.1, cellB HD3.out hHeld.2.2.2.2.2.2.2.2.2.2.2.2.2.2.2.2.2.2.2.2.2.2.2.2.2⟩) (fun hHeld' => ?_)
        replace hHeld := hHeld' (by rfl) (by decide)
        clear hK hHeld'
        (try simp only [Act.put, List.setIfInBounds_toArray, List.set_cons_zero, List.set_cons_succ])
        generalize wn2.alloc (.cells #[.string { data := #[] }, .bool false, .string { data := #[] }, .bool false, .string { data := #[] }, .bool false, .string { data := #[] }, .bool false, .string { data := #[] }, .bool false, .string { data := #[] }, .bool false, .string { data := #[] }, .bool false] 146) = wn3 at *
        generalize wn2.heap.size = T3 at *
        have hset := set14 (x0 := .string { data := #[110, 97, 109, 101] }) (x1 := .bool (decide (s.name = t.name))) (x2 := .string { data := #[97, 99, 116, 105, 111, 110] }) (x3 := .bool (decide (s.action = t.action))) (x4 := .string { data := #[117, 110, 100, 111] }) (x5 := .bool (decide (s.undo = t.undo))) (x6 := .string { data := #[97, 102, 116, 101, 114] }) (x7 := .bool (decide (s.after = t.after))) (x8 := .string { data := #[114, 101, 116, 114, 121] }) (x9 := .bool ((decide (s.most = t.most) && decide (s.first = t.first) && decide (s.factor = t.factor)))) (x10 := .string { data := #[108, 105, 109, 105, 116] }) (x11 := .bool (decide (s.limit = t.limit))) (x12 := .string { data := #[110, 111, 116, 101] }) (x13 := .bool (sameT s.note t.note)) FT3.out
        have hbel := set14_below (x0 := .string { data := #[110, 97, 109, 101] }) (x1 := .bool (decide (s.name = t.name))) (x2 := .string { data := #[97, 99, 116, 105, 111, 110] }) (x3 := .bool (decide (s.action = t.action))) (x4 := .string { data := #[117, 110, 100, 111] }) (x5 := .bool (decide (s.undo = t.undo))) (x6 := .string { data := #[97, 102, 116, 101, 114] }) (x7 := .bool (decide (s.after = t.after))) (x8 := .string { data := #[114, 101, 116, 114, 121] }) (x9 := .bool ((decide (s.most = t.most) && decide (s.first = t.first) && decide (s.factor = t.factor)))) (x10 := .string { data := #[108, 105, 109, 105, 116] }) (x11 := .bool (decide (s.limit = t.limit))) (x12 := .string { data := #[110, 111, 116, 101] }) (x13 := .bool (sameT s.note t.note)) HB3.out (B := T3) HL3
        obtain ⟨u0, u1, u2, u3, u4, u5, u6, u7, u8, u9, u10, u11, u12, u13, f0, f1, f2, f3, f4, f5, f6, f7, f8, f9, f10, f11, f12, f13⟩ := cells14 FT3.out
        refine E_one 44 (by kernel_rfl) rfl (by rfl) (fun K hK => ?_)
        go_simp
        (try simp only [Act.put, List.setIfInBounds_toArray, List.set_cons_zero, List.set_cons_succ])
        refine hK.out _ _ (fun _ h => absurd rfl h) (fun _ => ?_)
        clear hK hHeld
        (try simp only [Act.put, List.setIfInBounds_toArray, List.set_cons_zero, List.set_cons_succ])
        refine E_done (by kernel_rfl) ?_ _
        refine hK'.out _ _ ?_
        clear u0 f0 u1 f1 u2 f2 u3 f3 u4 f4 u5 f5 u6 f6 u7 f7 u8 f8 u9 f9 u10 f10 u11 f11 u12 f12 u13 f13
        gi_wp2_with fail
        gi_meet
        exact ⟨T3, rfl, hset, hbel⟩
      · go_simp
        have hb : Below wn1.heap.size wn1 (wn1.alloc (.cells #[.string { data := #[] }, .bool false, .string { data := #[] }, .bool false, .string { data := #[] }, .bool false, .string { data := #[] }, .bool false, .string { data := #[] }, .bool false, .string { data := #[] }, .bool false, .string { data := #[] }, .bool false] 146)) := (Below.refl _ _).alloc (Nat.le_refl _) _
        have FT4 := Lib.hid (World.alloc_heap_new wn1 (.cells #[.string { data := #[] }, .bool false, .string { data := #[] }, .bool false, .string { data := #[] }, .bool false, .string { data := #[] }, .bool false, .string { data := #[] }, .bool false, .string { data := #[] }, .bool false, .string { data := #[] }, .bool false] 146))
        have HL4 : W.heap.size ≤ wn1.heap.size := HB1.out.size
        have HD4 := Lib.hid hb
        have HB4 := Lib.hid (bthen HB1.out (Nat.le_refl _) hb)
        clear hb
        (try simp only [Act.put, List.setIfInBounds_toArray, List.set_cons_zero, List.set_cons_succ])
        refine hK.out _ _ (fun _ _ => ⟨cellB HD4.out hHeld.1, cellB HD4.out hHeld.2.1, cellB HD4.out hHeld.2.2.1, cellB HD4.out hHeld.2.2.2.1, cellB HD4.out hHeld.2.2.2.2.1, cellB HD4.out hHeld.2.2.2.2.2.1, cellB HD4.out hHeld.2.2.2.2.2.2.1, cellB HD4.out hHeld.2.2.2.2.2.2.2.1, cellB HD4.out hHeld.2.2.2.2.2.2.2.2.1, cellB HD4.out hHeld.2.2.2.2.2.2.2.2.2.1, cellB HD4.out hHeld.2.2.2.2.2.2.2.2.2.2.1, cellB HD4.out hHeld.2.2.2.2.2.2.2.2.2.2.2.1, cellB HD4.out hHeld.2.2.2.2.2.2.2.2.2.2.2.2.1, cellB HD4.out hHeld.2.2.2.2.2.2.2.2.2.2.2.2.2.1, cellB HD4.out hHeld.2.2.2.2.2.2.2.2.2.2.2.2.2.2.1, cellB HD4.out hHeld.2.2.2.2.2.2.2.2.2.2.2.2.2.2.2.1, cellB HD4.out hHeld.2.2.2.2.2.2.2.2.2.2.2.2.2.2.2.2.1, cellB HD4.out hHeld.2.2.2.2.2.2.2.2.2.2.2.2.2.2.2.2.2.1, cellB HD4.out hHeld.2.2.2.2.2.2.2.2.2.2.2.2.2.2.2.2.2.2.1, cellB HD4.out hHeld.2.2.2.2.2.2.2.2.2.2.2.2.2.2.2.2.2.2.2.1, cellB HD4.out hHeld.2.2.2.2.2.2.2.2.2.2.2.2.2.2.2.2.2.2.2.2.1, cellB HD4.out hHeld.2.2.2.2.2.2.2.2.2.2.2.2.2.2.2.2.2.2.2.2.2.1, cellB HD4.out hHeld.2.2.2.2.2.2.2.2.2.2.2.2.2.2.2.2.2.2.2.2.2.2.1, cellB HD4.out hHeld.2.2.2.2.2.2.2.2.2.2.2.2.2.2.2.2.2.2.2.2.2.2.2.1, cellB HD4.out hHeld.2.2.2.2.2.2.2.2.2.2.2.2.2.2.2.2.2.2.2.2.2.2.2.2.1, cellB HD4.out hHeld.2.2.2.2.2.2.2.2.2.2.2.2.2.2.2.2.2.2.2.2.2.2.2.2.2⟩) (fun hHeld' => ?_)
        replace hHeld := hHeld' (by rfl) (by decide)
        clear hK hHeld'
        (try simp only [Act.put, List.setIfInBounds_toArray, List.set_cons_zero, List.set_cons_succ])
        generalize wn1.alloc (.cells #[.string { data := #[] }, .bool false, .string { data := #[] }, .bool false, .string { data := #[] }, .bool false, .string { data := #[] }, .bool false, .string { data := #[] }, .bool false, .string { data := #[] }, .bool false, .string { data := #[] }, .bool false] 146) = wn4 at *
        generalize wn1.heap.size = T4 at *
        refine E_one 40 (by kernel_rfl) rfl (by rfl) (fun K hK => ?_)
        go_simp
        refine (bSame_any s.note t.note _ _ _ (HNA.out.belowW HB4.out) (HNB.out.belowW HB4.out)).mono ?_
        rintro e wn5 ⟨rfl, hb⟩
        have FT5 := Lib.hid ((hb.block _ (Array.getElem?_eq_some_iff.1 FT4.out).1).trans FT4.out)
        have HD5 := Lib.hid hb
        have HB5 := Lib.hid (bthen HB4.out (Nat.le_refl _) hb)
        clear hb
        refine hK.out _ _ (fun _ _ => ⟨cellB HD5.out hHeld.1, cellB HD5.out hHeld.2.1, cellB HD5.out hHeld.2.2.1, cellB HD5.out hHeld.2.2.2.1, cellB HD5.out hHeld.2.2.2.2.1, cellB HD5.out hHeld.2.2.2.2.2.1, cellB HD5.out hHeld.2.2.2.2.2.2.1, cellB HD5.out hHeld.2.2.2.2.2.2.2.1, cellB HD5.out hHeld.2.2.2.2.2.2.2.2.1, cellB HD5.out hHeld.2.2.2.2.2.2.2.2.2.1, cellB HD5.out hHeld.2.2.2.2.2.2.2.2.2.2.1, cellB HD5.out hHeld.2.2.2.2.2.2.2.2.2.2.2.1, cellB HD5.out hHeld.2.2.2.2.2.2.2.2.2.2.2.2.1, cellB HD5.out hHeld.2.2.2.2.2.2.2.2.2.2.2.2.2.1, cellB HD5.out hHeld.2.2.2.2.2.2.2.2.2.2.2.2.2.2.1, cellB HD5.out hHeld.2.2.2.2.2.2.2.2.2.2.2.2.2.2.2.1, cellB HD5.out hHeld.2.2.2.2.2.2.2.2.2.2.2.2.2.2.2.2.1, cellB HD5.out hHeld.2.2.2.2.2.2.2.2.2.2.2.2.2.2.2.2.2.1, cellB HD5.out hHeld.2.2.2.2.2.2.2.2.2.2.2.2.2.2.2.2.2.2.1, cellB HD5.out hHeld.2.2.2.2.2.2.2.2.2.2.2.2.2.2.2.2.2.2.2.1, cellB HD5.out hHeld.2.2.2.2.2.2.2.2.2.2.2.2.2.2.2.2.2.2.2.2.1, cellB HD5.out hHeld.2.2.2.2.2.2.2.2.2.2.2.2.2.2.2.2.2.2.2.2.2.1, cellB HD5.out hHeld.2.2.2.2.2.2.2.2.2.2.2.2.2.2.2.2.2.2.2.2.2.2.1, cellB HD5.out hHeld.2.2.2.2.2.2.2.2.2.2.2.2.2.2.2.2.2.2.2.2.2.2.2.1, cellB HD5.out hHeld.2.2.2.2.2.2.2.2.2.2.2.2.2.2.2.2.2.2.2.2.2.2.2.2.1, cellB HD5.out hHeld.2.2.2.2.2.2.2.2.2.2.2.2.2.2.2.2.2.2.2.2.2.2.2.2.2⟩) (fun hHeld' => ?_)
        replace hHeld := hHeld' (by rfl) (by decide)
        clear hK hHeld'
        (try simp only [Act.put, List.setIfInBounds_toArray, List.set_cons_zero, List.set_cons_succ])
        refine E_take0 hQ (fun _ => hHeld) 41 (v := ?zv42) rfl rfl (by kernel_rfl) (by kernel_rfl) (by kernel_rfl) (by decide) (by rfl) ?zy42 ?zr42
        case zy42 => (intro w; go_simp; (try with_reducible rfl))
        (try simp only [Act.put, List.setIfInBounds_toArray, List.set_cons_zero, List.set_cons_succ])
        refine E_take0 hQ (fun _ => hHeld) 42 (v := ?zv43) rfl rfl (by kernel_rfl) (by kernel_rfl) (by kernel_rfl) (by decide) (by rfl) ?zy43 ?zr43
        case zy43 => (intro w; go_simp; (try with_reducible rfl))
        (try simp only [Act.put, List.setIfInBounds_toArray, List.set_cons_zero, List.set_cons_succ])
        have hset := set14 (x0 := .string { data := #[110, 97, 109, 101] }) (x1 := .bool (decide (s.name = t.name))) (x2 := .string { data := #[97, 99, 116, 105, 111, 110] }) (x3 := .bool (decide (s.action = t.action))) (x4 := .string { data := #[117, 110, 100, 111] }) (x5 := .bool (decide (s.undo = t.undo))) (x6 := .string { data := #[97, 102, 116, 101, 114] }) (x7 := .bool (decide (s.after = t.after))) (x8 := .string { data := #[114, 101, 116, 114, 121] }) (x9 := .bool ((decide (s.most = t.most) && decide (s.first = t.first) && decide (s.factor = t.factor)))) (x10 := .string { data := #[108, 105, 109, 105, 116] }) (x11 := .bool (decide (s.limit = t.limit))) (x12 := .string { data := #[110, 111, 116, 101] }) (x13 := .bool (sameT s.note t.note)) FT5.out
        have hbel := set14_below (x0 := .string { data := #[110, 97, 109, 101] }) (x1 := .bool (decide (s.name = t.name))) (x2 := .string { data := #[97, 99, 116, 105, 111, 110] }) (x3 := .bool (decide (s.action = t.action))) (x4 := .string { data := #[117, 110, 100, 111] }) (x5 := .bool (decide (s.undo = t.undo))) (x6 := .string { data := #[97, 102, 116, 101, 114] }) (x7 := .bool (decide (s.after = t.after))) (x8 := .string { data := #[114, 101, 116, 114, 121] }) (x9 := .bool ((decide (s.most = t.most) && decide (s.first = t.first) && decide (s.factor = t.factor)))) (x10 := .string { data := #[108, 105, 109, 105, 116] }) (x11 := .bool (decide (s.limit = t.limit))) (x12 := .string { data := #[110, 111, 116, 101] }) (x13 := .bool (sameT s.note t.note)) HB5.out (B := T4) HL4
        obtain ⟨u0, u1, u2, u3, u4, u5, u6, u7, u8, u9, u10, u11, u12, u13, f0, f1, f2, f3, f4, f5, f6, f7, f8, f9, f10, f11, f12, f13⟩ := cells14 FT5.out
        refine E_one 44 (by kernel_rfl) rfl (by rfl) (fun K hK => ?_)
        go_simp
        (try simp only [Act.put, List.setIfInBounds_toArray, List.set_cons_zero, List.set_cons_succ])
        refine hK.out _ _ (fun _ h => absurd rfl h) (fun _ => ?_)
        clear hK hHeld
        (try simp only [Act.put, List.setIfInBounds_toArray, List.set_cons_zero, List.set_cons_succ])
        refine E_done (by kernel_rfl) ?_ _
        refine hK'.out _ _ ?_
        clear u0 f0 u1 f1 u2 f2 u3 f3 u4 f4 u5 f5 u6 f6 u7 f7 u8 f8 u9 f9 u10 f10 u11 f11 u12 f12 u13 f13
        gi_wp2_with fail
        gi_meet
        exact ⟨T4, rfl, hset, hbel⟩
    · go_simp
      have hb : Below wn0.heap.size wn0 (wn0.alloc (.cells #[.string { data := #[] }, .bool false, .string { data := #[] }, .bool false, .string { data := #[] }, .bool false, .string { data := #[] }, .bool false, .string { data := #[] }, .bool false, .string { data := #[] }, .bool false, .string { data := #[] }, .bool false] 146)) := (Below.refl _ _).alloc (Nat.le_refl _) _
      have FT6 := Lib.hid (World.alloc_heap_new wn0 (.cells #[.string { data := #[] }, .bool false, .string { data := #[] }, .bool false, .string { data := #[] }, .bool false, .string { data := #[] }, .bool false, .string { data := #[] }, .bool false, .string { data := #[] }, .bool false, .string { data := #[] }, .bool false] 146))
      have HL6 : W.heap.size ≤ wn0.heap.size := HB0.out.size
      have HD6 := Lib.hid hb
      have HB6 := Lib.hid (bthen HB0.out (Nat.le_refl _) hb)
      clear hb
      (try simp only [Act.put, List.setIfInBounds_toArray, List.set_cons_zero, List.set_cons_succ])
      refine hK.out _ _ (fun _ _ => ⟨cellB HD6.out hHeld.1, cellB HD6.out hHeld.2.1, cellB HD6.out hHeld.2.2.1, cellB HD6.out hHeld.2.2.2.1, cellB HD6.out hHeld.2.2.2.2.1, cellB HD6.out hHeld.2.2.2.2.2.1, cellB HD6.out hHeld.2.2.2.2.2.2.1, cellB HD6.out hHeld.2.2.2.2.2.2.2.1, cellB HD6.out hHeld.2.2.2.2.2.2.2.2.1, cellB HD6.out hHeld.2.2.2.2.2.2.2.2.2.1, cellB HD6.out hHeld.2.2.2.2.2.2.2.2.2.2.1, cellB HD6.out hHeld.2.2.2.2.2.2.2.2.2.2.2.1, cellB HD6.out hHeld.2.2.2.2.2.2.2.2.2.2.2.2.1, cellB HD6.out hHeld.2.2.2.2.2.2.2.2.2.2.2.2.2.1, cellB HD6.out hHeld.2.2.2.2.2.2.2.2.2.2.2.2.2.2.1, cellB HD6.out hHeld.2.2.2.2.2.2.2.2.2.2.2.2.2.2.2.1, cellB HD6.out hHeld.2.2.2.2.2.2.2.2.2.2.2.2.2.2.2.2.1, cellB HD6.out hHeld.2.2.2.2.2.2.2.2.2.2.2.2.2.2.2.2.2.1, cellB HD6.out hHeld.2.2.2.2.2.2.2.2.2.2.2.2.2.2.2.2.2.2.1, cellB HD6.out hHeld.2.2.2.2.2.2.2.2.2.2.2.2.2.2.2.2.2.2.2.1, cellB HD6.out hHeld.2.2.2.2.2.2.2.2.2.2.2.2.2.2.2.2.2.2.2.2.1, cellB HD6.out hHeld.2.2.2.2.2.2.2.2.2.2.2.2.2.2.2.2.2.2.2.2.2.1, cellB HD6.out hHeld.2.2.2.2.2.2.2.2.2.2.2.2.2.2.2.2.2.2.2.2.2.2.1, cellB HD6.out hHeld.2.2.2.2.2.2.2.2.2.2.2.2.2.2.2.2.2.2.2.2.2.2.2.1, cellB HD6.out hHeld.2.2.2.2.2.2.2.2.2.2.2.2.2.2.2.2.2.2.2.2.2.2.2.2.1, cellB HD6.out hHeld.2.2.2.2.2.2.2.2.2.2.2.2.2.2.2.2.2.2.2.2.2.2.2.2.2⟩) (fun hHeld' => ?_)
      replace hHeld := hHeld' (by rfl) (by decide)
      clear hK hHeld'
      (try simp only [Act.put, List.setIfInBounds_toArray, List.set_cons_zero, List.set_cons_succ])
      generalize wn0.alloc (.cells #[.string { data := #[] }, .bool false, .string { data := #[] }, .bool false, .string { data := #[] }, .bool false, .string { data := #[] }, .bool false, .string { data := #[] }, .bool false, .string { data := #[] }, .bool false, .string { data := #[] }, .bool false] 146) = wn6 at *
      generalize wn0.heap.size = T6 at *
      refine E_one 22 (by kernel_rfl) rfl (by rfl) (fun K hK => ?_)
      go_simp
      refine (EqualS_any s.after t.after _ _ _ (HVA.out.below HB6.out) (HVB.out.below HB6.out)).mono ?_
      rintro e wn7 ⟨rfl, hb⟩
      have FT7 := Lib.hid ((hb.block _ (Array.getElem?_eq_some_iff.1 FT6.out).1).trans FT6.out)
      have HD7 := Lib.hid hb
      have HB7 := Lib.hid (bthen HB6.out (Nat.le_refl _) hb)
      clear hb
      refine hK.out _ _ (fun _ _ => ⟨cellB HD7.out hHeld.1, cellB HD7.out hHeld.2.1, cellB HD7.out hHeld.2.2.1, cellB HD7.out hHeld.2.2.2.1, cellB HD7.out hHeld.2.2.2.2.1, cellB HD7.out hHeld.2.2.2.2.2.1, cellB HD7.out hHeld.2.2.2.2.2.2.1, cellB HD7.out hHeld.2.2.2.2.2.2.2.1, cellB HD7.out hHeld.2.2.2.2.2.2.2.2.1, cellB HD7.out hHeld.2.2.2.2.2.2.2.2.2.1, cellB HD7.out hHeld.2.2.2.2.2.2.2.2.2.2.1, cellB HD7.out hHeld.2.2.2.2.2.2.2.2.2.2.2.1, cellB HD7.out hHeld.2.2.2.2.2.2.2.2.2.2.2.2.1, cellB HD7.out hHeld.2.2.2.2.2.2.2.2.2.2.2.2.2.1, cellB HD7.out hHeld.2.2.2.2.2.2.2.2.2.2.2.2.2.2.1, cellB HD7.out hHeld.2.2.2.2.2.2.2.2.2.2.2.2.2.2.2.1, cellB HD7.out hHeld.2.2.2.2.2.2.2.2.2.2.2.2.2.2.2.2.1, cellB HD7.out hHeld.2.2.2.2.2.2.2.2.2.2.2.2.2.2.2.2.2.1, cellB HD7.out hHeld.2.2.2.2.2.2.2.2.2.2.2.2.2.2.2.2.2.2.1, cellB HD7.out hHeld.2.2.2.2.2.2.2.2.2.2.2.2.2.2.2.2.2.2.2.1, cellB HD7.out hHeld.2.2.2.2.2.2.2.2.2.2.2.2.2.2.2.2.2.2.2.2.1, cellB HD7.out hHeld.2.2.2.2.2.2.2.2.2.2.2.2.2.2.2.2.2.2.2.2.2.1, cellB HD7.out hHeld.2.2.2.2.2.2.2.2.2.2.2.2.2.2.2.2.2.2.2.2.2.2.1, cellB HD7.out hHeld.2.2.2.2.2.2.2.2.2.2.2.2.2.2.2.2.2.2.2.2.2.2.2.1, cellB HD7.out hHeld.2.2.2.2.2.2.2.2.2.2.2.2.2.2.2.2.2.2.2.2.2.2.2.2.1, cellB HD7.out hHeld.2.2.2.2.2.2.2.2.2.2.2.2.2.2.2.2.2.2.2.2.2.2.2.2.2⟩) (fun hHeld' => ?_)
      replace hHeld := hHeld' (by rfl) (by decide)
      clear hK hHeld'
      (try simp only [Act.put, List.setIfInBounds_toArray, List.set_cons_zero, List.set_cons_succ])
      refine E_take0 hQ (fun _ => hHeld) 23 (v := ?zv44) rfl rfl (by kernel_rfl) (by kernel_rfl) (by kernel_rfl) (by decide) (by rfl) ?zy44 ?zr44
      case zy44 => (intro w; go_simp; (try with_reducible rfl))
      (try simp only [Act.put, List.setIfInBounds_toArray, List.set_cons_zero, List.set_cons_succ])
      refine E_one 40 (by kernel_rfl) rfl (by rfl) (fun K hK => ?_)
      go_simp
      refine (bSame_any s.note t.note _ _ _ (HNA.out.belowW HB7.out) (HNB.out.belowW HB7.out)).mono ?_
      rintro e wn8 ⟨rfl, hb⟩
      have FT8 := Lib.hid ((hb.block _ (Array.getElem?_eq_some_iff.1 FT7.out).1).trans FT7.out)
      have HD8 := Lib.hid hb
      have HB8 := Lib.hid (bthen HB7.out (Nat.le_refl _) hb)
      clear hb
      refine hK.out _ _ (fun _ _ => ⟨cellB HD8.out hHeld.1, cellB HD8.out hHeld.2.1, cellB HD8.out hHeld.2.2.1, cellB HD8.out hHeld.2.2.2.1, cellB HD8.out hHeld.2.2.2.2.1, cellB HD8.out hHeld.2.2.2.2.2.1, cellB HD8.out hHeld.2.2.2.2.2.2.1, cellB HD8.out hHeld.2.2.2.2.2.2.2.1, cellB HD8.out hHeld.2.2.2.2.2.2.2.2.1, cellB HD8.out hHeld.2.2.2.2.2.2.2.2.2.1, cellB HD8.out hHeld.2.2.2.2.2.2.2.2.2.2.1, cellB HD8.out hHeld.2.2.2.2.2.2.2.2.2.2.2.1, cellB HD8.out hHeld.2.2.2.2.2.2.2.2.2.2.2.2.1, cellB HD8.out hHeld.2.2.2.2.2.2.2.2.2.2.2.2.2.1, cellB HD8.out hHeld.2.2.2.2.2.2.2.2.2.2.2.2.2.2.1, cellB HD8.out hHeld.2.2.2.2.2.2.2.2.2.2.2.2.2.2.2.1, cellB HD8.out hHeld.2.2.2.2.2.2.2.2.2.2.2.2.2.2.2.2.1, cellB HD8.out hHeld.2.2.2.2.2.2.2.2.2.2.2.2.2.2.2.2.2.1, cellB HD8.out hHeld.2.2.2.2.2.2.2.2.2.2.2.2.2.2.2.2.2.2.1, cellB HD8.out hHeld.2.2.2.2.2.2.2.2.2.2.2.2.2.2.2.2.2.2.2.1, cellB HD8.out hHeld.2.2.2.2.2.2.2.2.2.2.2.2.2.2.2.2.2.2.2.2.1, cellB HD8.out hHeld.2.2.2.2.2.2.2.2.2.2.2.2.2.2.2.2.2.2.2.2.2.1, cellB HD8.out hHeld.2.2.2.2.2.2.2.2.2.2.2.2.2.2.2.2.2.2.2.2.2.2.1, cellB HD8.out hHeld.2.2.2.2.2.2.2.2.2.2.2.2.2.2.2.2.2.2.2.2.2.2.2.1, cellB HD8.out hHeld.2.2.2.2.2.2.2.2.2.2.2.2.2.2.2.2.2.2.2.2.2.2.2.2.1, cellB HD8.out hHeld.2.2.2.2.2.2.2.2.2.2.2.2.2.2.2.2.2.2.2.2.2.2.2.2.2⟩) (fun hHeld' => ?_)
      replace hHeld := hHeld' (by rfl) (by decide)
      clear hK hHeld'
      (try simp only [Act.put, List.setIfInBounds_toArray, List.set_cons_zero, List.set_cons_succ])
      refine E_take0 hQ (fun _ => hHeld) 41 (v := ?zv45) rfl rfl (by kernel_rfl) (by kernel_rfl) (by kernel_rfl) (by decide) (by rfl) ?zy45 ?zr45
      case zy45 => (intro w; go_simp; (try with_reducible rfl))
      (try simp only [Act.put, List.setIfInBounds_toArray, List.set_cons_zero, List.set_cons_succ])
      refine E_take0 hQ (fun _ => hHeld) 42 (v := ?zv46) rfl rfl (by kernel_rfl) (by kernel_rfl) (by kernel_rfl) (by decide) (by rfl) ?zy46 ?zr46
      case zy46 => (intro w; go_simp; (try with_reducible rfl))
      (try simp only [Act.put, List.setIfInBounds_toArray, List.set_cons_zero, List.set_cons_succ])
      have hset := set14 (x0 := .string { data := #[110, 97, 109, 101] }) (x1 := .bool (decide (s.name = t.name))) (x2 := .string { data := #[97, 99, 116, 105, 111, 110] }) (x3 := .bool (decide (s.action = t.action))) (x4 := .string { data := #[117, 110, 100, 111] }) (x5 := .bool (decide (s.undo = t.undo))) (x6 := .string { data := #[97, 102, 116, 101, 114] }) (x7 := .bool (decide (s.after = t.after))) (x8 := .string { data := #[114, 101, 116, 114, 121] }) (x9 := .bool ((decide (s.most = t.most) && decide (s.first = t.first) && decide (s.factor = t.factor)))) (x10 := .string { data := #[108, 105, 109, 105, 116] }) (x11 := .bool (decide (s.limit = t.limit))) (x12 := .string { data := #[110, 111, 116, 101] }) (x13 := .bool (sameT s.note t.note)) FT8.out
      have hbel := set14_below (x0 := .string { data := #[110, 97, 109, 101] }) (x1 := .bool (decide (s.name = t.name))) (x2 := .string { data := #[97, 99, 116, 105, 111, 110] }) (x3 := .bool (decide (s.action = t.action))) (x4 := .string { data := #[117, 110, 100, 111] }) (x5 := .bool (decide (s.undo = t.undo))) (x6 := .string { data := #[97, 102, 116, 101, 114] }) (x7 := .bool (decide (s.after = t.after))) (x8 := .string { data := #[114, 101, 116, 114, 121] }) (x9 := .bool ((decide (s.most = t.most) && decide (s.first = t.first) && decide (s.factor = t.factor)))) (x10 := .string { data := #[108, 105, 109, 105, 116] }) (x11 := .bool (decide (s.limit = t.limit))) (x12 := .string { data := #[110, 111, 116, 101] }) (x13 := .bool (sameT s.note t.note)) HB8.out (B := T6) HL6
      obtain ⟨u0, u1, u2, u3, u4, u5, u6, u7, u8, u9, u10, u11, u12, u13, f0, f1, f2, f3, f4, f5, f6, f7, f8, f9, f10, f11, f12, f13⟩ := cells14 FT8.out
      refine E_one 44 (by kernel_rfl) rfl (by rfl) (fun K hK => ?_)
      go_simp
      (try simp only [Act.put, List.setIfInBounds_toArray, List.set_cons_zero, List.set_cons_succ])
      refine hK.out _ _ (fun _ h => absurd rfl h) (fun _ => ?_)
      clear hK hHeld
      (try simp only [Act.put, List.setIfInBounds_toArray, List.set_cons_zero, List.set_cons_succ])
      refine E_done (by kernel_rfl) ?_ _
      refine hK'.out _ _ ?_
      clear u0 f0 u1 f1 u2 f2 u3 f3 u4 f4 u5 f5 u6 f6 u7 f7 u8 f8 u9 f9 u10 f10 u11 f11 u12 f12 u13 f13
      gi_wp2_with fail
      gi_meet
      exact ⟨T6, rfl, hset, hbel⟩
  case rest =>
  obtain ⟨g, rfl, hg, hbx⟩ := hcut
  generalize wc = W1 at *
  have HX : Hid (alikeL s t = [decide (s.name = t.name), decide (s.action = t.action), decide (s.undo = t.undo), decide (s.after = t.after), (decide (s.most = t.most) && decide (s.first = t.first) && decide (s.factor = t.factor)), decide (s.limit = t.limit), sameT s.note t.note]) := Lib.hid rfl
  generalize hx0 : decide (s.name = t.name) = x0 at *
  generalize hx1 : decide (s.action = t.action) = x1 at *
  generalize hx2 : decide (s.undo = t.undo) = x2 at *
  generalize hx3 : decide (s.after = t.after) = x3 at *
  generalize hx4 : (decide (s.most = t.most) && decide (s.first = t.first) && decide (s.factor = t.factor)) = x4 at *
  generalize hx5 : decide (s.limit = t.limit) = x5 at *
  generalize hx6 : sameT s.note t.note = x6 at *
  obtain ⟨u0a, u1a, u2a, u3a, u4a, u5a, u6a, u7a, u8a, u9a, u10a, u11a, u12a, u13a, -⟩ := cells14 hg
  have hix := fun k hk w => index_parts x0 x1 x2 x3 x4 x5 x6 k hk w
  have hJ1 := HJ.out _ _ _ _ _ HS.out H0.out (Step.of_below hn0 hbx)
  have hS1 : ∀ k, (k = X ∨ k = Y) → n0 ≤ k ∧ k < W1.heap.size := fun k hk => by have := HS.out k hk; have := hbx.size; omega
  have HS1 := Lib.hid hS1
  have HJ1 := Lib.hid hJ1
  have hn1 : n0 ≤ W1.heap.size := Nat.le_trans hn0 hbx.size
  clear p0 r0 p1 r1 p2 r2 p3 r3 p4 r4 p5 r5 p6 r6 p7 r7 p8 r8 p9 r9 p10 r10 p11 r11 p12 r12 hS1 hJ1 hg hbx H0 HS
  gi_wp2_with fail
  clear u0a u1a u2a u3a u4a u5a u6a u7a u8a u9a u10a u11a u12a u13a
  gi_loopg [51] (7 + 1) (fun gk i wr => ∃ (S : Nat → Prop) (k : Nat), k + gk = 7 + 1 ∧ k ≤ 7 ∧ Hid (∀ j, S j → n0 ≤ j ∧ j < wr.heap.size) ∧ i = .int .i64 k ∧ Hid (J S (unlB (nmL.take k) ((alikeL s t).take k)) wr) ∧ n0 ≤ wr.heap.size)
  case atStart => exact ⟨_, 0, by omega, by omega, HS1, rfl, HJ1, hn1⟩
  case round =>
    obtain ⟨S, k, hgk, hk, hSb, rfl, hJs, hnr⟩ := hrel
    have hg : gk = 7 + 1 - k := by omega
    subst hg
    clear hgk
    by_cases hlt : k < 7
    · have hix1 := fun w => hix k hlt w
      have HTK := Lib.hid (unlB_take (l := nmL) (m := alikeL s t) (k := k) hlt hlt)
      have HPX := Lib.hid (unlB_prefix nmL (alikeL s t) (k + 1))
      have hk0 : (0 : Int) ≤ (k : Int) := by omega
      have hk1 : (k : Int) < 7 := by omega
      have hkx : ([x0, x1, x2, x3, x4, x5, x6][k]'hlt) = ((alikeL s t)[k]'hlt) := by congr 1; exact HX.out.symm
      rw [hkx] at hix1
      clear hkx hix
      generalize (nmL[k]'hlt) = n at *
      generalize ((alikeL s t)[k]'hlt) = bv at *
      have hba : Below wr.heap.size wr (wr.alloc (.cells #[.string n, .bool bv] 145)) := (Below.refl _ _).alloc (Nat.le_refl _) _
      have hJa := HJ.out _ _ _ _ _ hSb.out hJs.out (Step.of_below hnr hba)
      have hSa : ∀ j, S j → n0 ≤ j ∧ j < (wr.alloc (.cells #[.string n, .bool bv] 145)).heap.size := fun j hj => by have := hSb.out j hj; have := hba.size; omega
      have hsza := hba.size
      cases bv with
      | true =>
        have HT2 : Hid (unlB (nmL.take (k + 1)) ((alikeL s t).take (k + 1)) = unlB (nmL.take k) ((alikeL s t).take k)) := Lib.hid (by rw [HTK.out]; simp)
        have HJA := Lib.hid hJa
        have HSA := Lib.hid hSa
        clear hba hJa hSa
        gi_wp2_with fail
        gi_roundg (7 + 1 - (k + 1))
        case measure => omega
        case rel => exact ⟨S, k + 1, by omega, by omega, HSA, by go_num, by rw [HT2.out]; exact HJA, by omega⟩
      | false =>
        have HT2 : Hid (unlB (nmL.take (k + 1)) ((alikeL s t).take (k + 1)) = unlB (nmL.take k) ((alikeL s t).take k) ++ [n]) := Lib.hid (by rw [HTK.out]; simp)
        obtain ⟨fn, tmps, assign, body, hy, hRr⟩ := HY.out S _ n _ hSa hJa (by rw [← HT2.out]; exact HPX.out)
        rw [← HT2.out] at hRr
        have HSA := Lib.hid hSa
        clear hba hJa hSa
        gi_wp2_with fail
        refine hRr.mono ?_
        rintro e W' (⟨rfl, hJ', hk'⟩ | ⟨rfl, hJ', hk'⟩)
        · clear hy hRr
          have hsw := hk'.below.size
          have HJ2 := Lib.hid hJ'
          clear hJ'
          gi_wp2_with fail
          gi_roundg (7 + 1 - (k + 1))
          case measure => omega
          case rel => exact ⟨S, k + 1, by omega, by omega, Lib.hid (fun j hj => by have := HSA.out j hj; have := hk'.below.size; omega), by go_num, HJ2, by omega⟩
        · clear hy hRr
          have HJ2 := Lib.hid hJ'
          clear hJ'
          gi_wp2
          refine bodyPost_ret (results_none rfl _ _ _) rfl ?_
          exact ⟨⟨_, rfl⟩, S, (fun j hj => by have := HSA.out j hj; have := hk'.below.size; omega), .inr ⟨_, HPX.out, HJ2.out⟩⟩
    · have hkl : k = 7 := by omega
      subst hkl
      gi_wp2
      go_end0
      exact ⟨⟨_, rfl⟩, S, hSb.out, .inl hJs.out⟩
end Go.Proofs.Ytlakmfhpinljjaa
