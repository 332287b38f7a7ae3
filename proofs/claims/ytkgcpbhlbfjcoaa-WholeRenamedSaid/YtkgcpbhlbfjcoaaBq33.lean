/-
  def.unlike: what it gives is an iterator over the names of what is unlike.
-/
import Derived.Sort.CutIn
import Derived.Test.YtkgcpbhlbfjcoaaBq4
import Derived.Test.YtkgcpbhlbfjcoaaBq5
import Derived.Test.YtkgcpbhlbfjcoaaBq7
import Derived.Test.YtkgcpbhlbfjcoaaBq27
import Derived.Test.YtkgcpbhlbfjcoaaBq30
import Derived.Test.YtkgcpbhlbfjcoaaBq31
namespace Go.Proofs.Ytkgcpbhlbfjcoaa
open Go.RowKit Go.WideShapes
attribute [local go_sem] Oper.semAt_some wide_fn wide_depth wide_fn' wide_depth'

theorem opWide_of_wp {P : Program} {o : Oper} {a : Act} {w : World} {K : Act → World → Prop} {Q : Exit → Act → World → Prop} (hnd : ∀ c, o.op ≠ .defer c) (h : o.wp P a w K (onlyNormal Q)) :
    o.wpIn Fence.wide 0 P a w K Q := by
  refine ⟨fun _ _ => trivial, ?_⟩
  rw [Oper.semAt_plain _ _ _ hnd]
  unfold Oper.wp at h
  generalize (execOp a.eval o).run P w = r at *
  cases r with
  | ok n w' =>
    cases n with
    | value v => exact h
    | skip => exact h
    | defer d => exact h
    | enter f args =>
      refine ⟨fun h => (by cases h), callsIn_wide.2 (Calls.mono h (fun e w'' he => ?_))⟩
      cases e with
      | returned v => exact he
      | panicked chain => exact absurd he.1 (by simp)
      | outgrown => obtain ⟨_, _, h1, _⟩ := he; cases h1
    | row row args =>
      refine ⟨fun h => (by cases h), fun c cs _ => ?_⟩
      obtain ⟨v, w'', h1, h2⟩ := h c cs
      exact ⟨v, w'', h1, stepsIn_wide.2 h2⟩
    | _ => exact h.elim
  | halt x w' =>
    cases x <;> first | exact h.elim | exact absurd h.1 (by simp)
theorem anyWide_of_any {P : Program} {md : Region.Mode} {ops : Array Oper} {Q : Exit → Act → World → Prop} (hnd : ∀ (i : Nat) (o : Oper), ops[i]? = some o → ∀ c, o.op ≠ .defer c) :
    ∀ (fuel : Nat) (listed : Array Bool) (a : Act) (w : World), wpAny P md ops (onlyNormal Q) fuel listed a w → wpAnyIn Fence.wide 0 P md ops Q fuel listed a w := by
  intro fuel
  induction fuel with
  | zero => exact fun listed a w h => ⟨h.1, h.2.2⟩
  | succ fuel ih =>
    intro listed a w h
    refine ⟨fun hr => (h.1 hr).2, fun i hi => ?_⟩
    have hh := h.2 i hi
    unfold wpOp at hh
    unfold wpOpIn
    cases ho : ops[i]? with
    | none => simp only [ho] at hh ⊢; exact ih _ _ _ hh
    | some o =>
      simp only [ho] at hh ⊢
      by_cases hw : Region.wanted o (yielded ops a.tmps) = true
      · rw [if_pos hw] at hh ⊢
        rcases hh with hh | ⟨_, _, _, hh, _⟩
        · exact opWide_of_wp (hnd i o ho) (Oper.wp_mono (fun a w h => ih _ _ _ h) hh)
        · cases hh
      · rw [if_neg hw] at hh ⊢
        exact ⟨fun _ _ => trivial, ih _ _ _ hh⟩
/-- A drawn region in an iterator's own body. -/
theorem E_regionW {P : Program} {l : List Oper} {Q : Exit → Act → World → Prop} {S : World → Prop} {id : Nat} {a : Act} {w : World} (k : Nat) (hm : P.follows .mixedOrders = true) (hnd : noDefer l = true) (hS : S w.drew)
    (h : ∀ Q' : Exit → Act → World → Prop, (∀ c a (d : Tmp) v w, Q' (.panic c) (a.put (some d) v) w → Q' (.panic c) a w) → Shut (∀ a w, Q .normal a w → Q' .normal a w) → S w.drew →
      wpAnyE P .any l.toArray Q' S k l.toArray.size (Array.replicate l.toArray.size false) a w.drew) : (Code.region id l.toArray true).wpIn Fence.wide 0 P Q a w :=
  wpIn_region_any hm (anyWide_of_any (noDefer_spec hnd) _ _ _ _ (wpAny_of_E _ _ _ _ (h (onlyNormal Q) (fun _ _ _ _ _ h => absurd h.1 (by simp)) (fun _ _ h => ⟨rfl, h⟩) hS)))

theorem list13 {cs : List Value} (h : cs.length = 13) : ∃ a0 a1 a2 a3 a4 a5 a6 a7 a8 a9 a10 a11 a12, cs = [a0, a1, a2, a3, a4, a5, a6, a7, a8, a9, a10, a11, a12] := by
  rcases cs with _ | ⟨a0, _ | ⟨a1, _ | ⟨a2, _ | ⟨a3, _ | ⟨a4, _ | ⟨a5, _ | ⟨a6, _ | ⟨a7, _ | ⟨a8, _ | ⟨a9, _ | ⟨a10, _ | ⟨a11, _ | ⟨a12, _ | ⟨a13, l⟩⟩⟩⟩⟩⟩⟩⟩⟩⟩⟩⟩⟩⟩ <;> first | (exact ⟨_, _, _, _, _, _, _, _, _, _, _, _, _, rfl⟩) | (simp at h) | (simp at h; omega)
theorem set14 {W : World} {B : Nat} {t : TypeId} {c0 c1 c2 c3 c4 c5 c6 c7 c8 c9 c10 c11 c12 c13 x0 x1 x2 x3 x4 x5 x6 x7 x8 x9 x10 x11 x12 x13 : Value} (h : W.heap[B]? = some (.cells #[c0, c1, c2, c3, c4, c5, c6, c7, c8, c9, c10, c11, c12, c13] t (0, 0))) : ((((((((((((((W.setCell ⟨B, 0, none⟩ x0).setCell ⟨B, 1, none⟩ x1).setCell ⟨B, 2, none⟩ x2).setCell ⟨B, 3, none⟩ x3).setCell ⟨B, 4, none⟩ x4).setCell ⟨B, 5, none⟩ x5).setCell ⟨B, 6, none⟩ x6).setCell ⟨B, 7, none⟩ x7).setCell ⟨B, 8, none⟩ x8).setCell ⟨B, 9, none⟩ x9).setCell ⟨B, 10, none⟩ x10).setCell ⟨B, 11, none⟩ x11).setCell ⟨B, 12, none⟩ x12).setCell ⟨B, 13, none⟩ x13).heap[B]? = some (.cells #[x0, x1, x2, x3, x4, x5, x6, x7, x8, x9, x10, x11, x12, x13] t (0, 0)) := by
  simp [World.setCell, h, Array.getElem?_modify]
theorem set14_below {n : Nat} {w W : World} (hb : Below n w W) {B : Nat} {x0 x1 x2 x3 x4 x5 x6 x7 x8 x9 x10 x11 x12 x13 : Value} (h : n ≤ B) : Below n w ((((((((((((((W.setCell ⟨B, 0, none⟩ x0).setCell ⟨B, 1, none⟩ x1).setCell ⟨B, 2, none⟩ x2).setCell ⟨B, 3, none⟩ x3).setCell ⟨B, 4, none⟩ x4).setCell ⟨B, 5, none⟩ x5).setCell ⟨B, 6, none⟩ x6).setCell ⟨B, 7, none⟩ x7).setCell ⟨B, 8, none⟩ x8).setCell ⟨B, 9, none⟩ x9).setCell ⟨B, 10, none⟩ x10).setCell ⟨B, 11, none⟩ x11).setCell ⟨B, 12, none⟩ x12).setCell ⟨B, 13, none⟩ x13) :=
  ((((((((((((((hb.setCell (p := ⟨B, 0, none⟩) h _).setCell (p := ⟨B, 1, none⟩) h _).setCell (p := ⟨B, 2, none⟩) h _).setCell (p := ⟨B, 3, none⟩) h _).setCell (p := ⟨B, 4, none⟩) h _).setCell (p := ⟨B, 5, none⟩) h _).setCell (p := ⟨B, 6, none⟩) h _).setCell (p := ⟨B, 7, none⟩) h _).setCell (p := ⟨B, 8, none⟩) h _).setCell (p := ⟨B, 9, none⟩) h _).setCell (p := ⟨B, 10, none⟩) h _).setCell (p := ⟨B, 11, none⟩) h _).setCell (p := ⟨B, 12, none⟩) h _).setCell (p := ⟨B, 13, none⟩) h _)
theorem cells14 {W : World} {B : Nat} {t : TypeId} {c0 c1 c2 c3 c4 c5 c6 c7 c8 c9 c10 c11 c12 c13 : Value} (h : W.heap[B]? = some (.cells #[c0, c1, c2, c3, c4, c5, c6, c7, c8, c9, c10, c11, c12, c13] t (0, 0))) : W.cell? ⟨B, 0, none⟩ = some c0 ∧ W.cell? ⟨B, 1, none⟩ = some c1 ∧ W.cell? ⟨B, 2, none⟩ = some c2 ∧ W.cell? ⟨B, 3, none⟩ = some c3 ∧ W.cell? ⟨B, 4, none⟩ = some c4 ∧ W.cell? ⟨B, 5, none⟩ = some c5 ∧ W.cell? ⟨B, 6, none⟩ = some c6 ∧ W.cell? ⟨B, 7, none⟩ = some c7 ∧ W.cell? ⟨B, 8, none⟩ = some c8 ∧ W.cell? ⟨B, 9, none⟩ = some c9 ∧ W.cell? ⟨B, 10, none⟩ = some c10 ∧ W.cell? ⟨B, 11, none⟩ = some c11 ∧ W.cell? ⟨B, 12, none⟩ = some c12 ∧ W.cell? ⟨B, 13, none⟩ = some c13 ∧ W.frozen? ⟨B, 0, none⟩ = false ∧ W.frozen? ⟨B, 1, none⟩ = false ∧ W.frozen? ⟨B, 2, none⟩ = false ∧ W.frozen? ⟨B, 3, none⟩ = false ∧ W.frozen? ⟨B, 4, none⟩ = false ∧ W.frozen? ⟨B, 5, none⟩ = false ∧ W.frozen? ⟨B, 6, none⟩ = false ∧ W.frozen? ⟨B, 7, none⟩ = false ∧ W.frozen? ⟨B, 8, none⟩ = false ∧ W.frozen? ⟨B, 9, none⟩ = false ∧ W.frozen? ⟨B, 10, none⟩ = false ∧ W.frozen? ⟨B, 11, none⟩ = false ∧ W.frozen? ⟨B, 12, none⟩ = false ∧ W.frozen? ⟨B, 13, none⟩ = false := by
  refine ⟨?_, ?_, ?_, ?_, ?_, ?_, ?_, ?_, ?_, ?_, ?_, ?_, ?_, ?_, ?_, ?_, ?_, ?_, ?_, ?_, ?_, ?_, ?_, ?_, ?_, ?_, ?_, ?_⟩ <;> simp [World.cell?, World.frozen?, h]


theorem ifs3 (a b c d e f : Int) (w : World) : (if a = b then if c = d then if e = f then Result.ok (Next.value (Value.bool true)) w else Result.ok (Next.value (Value.bool false)) w else Result.ok (Next.value (Value.bool false)) w else Result.ok (Next.value (Value.bool false)) w) = Result.ok (Next.value (.bool (decide (a = b) && decide (c = d) && decide (e = f)))) w := by
  by_cases h1 : a = b <;> by_cases h2 : c = d <;> by_cases h3 : e = f <;> simp [h1, h2, h3]
end Go.Proofs.Ytkgcpbhlbfjcoaa

/-
  def.Changes: contract.
-/
namespace Go.Proofs.Ytkgcpbhlbfjcoaa
open Go.RowKit Go.WideShapes
attribute [local go_sem] Oper.semAt_some wide_fn wide_depth wide_fn' wide_depth'

/-- A list of texts that a box holds. -/
structure OutB (W : World) (B : Nat) (va : Option Addr) (vc : Nat) (l : List ByteArray) : Prop where
  box : Boxed W B 31 (.slice va l.length vc)
  own : W.ownsRow B 9 1 (.slice va l.length vc) l.length (strsV l)
theorem OutB.below {W W' : World} {B vc : Nat} {va : Option Addr} {l : List ByteArray} (h : OutB W B va vc l) (hb : Below W.heap.size W W') : OutB W' B va vc l := ⟨(hb.block _ h.box.lt).trans h.box, ownsB h.own hb⟩
theorem strsV_snoc (l : List ByteArray) (x : ByteArray) : strsV l ++ [.string x] = strsV (l ++ [x]) := by simp [strsV]
theorem out_pushedS {W w1 : World} {B vc : Nat} {va : Option Addr} {l : List ByteArray} {x : ByteArray} {v' : Value} {tmp : Obj} {S : Nat → Prop} (h : OutB W B va vc l) (hS : ∀ k, S k → B ≤ k ∧ k < W.heap.size) (hSB : ¬ S B) (hSr : ∀ g, (Value.slice va l.length vc).ownBlock = some g → ¬ S g)
    (hown' : w1.ownsRow B 9 1 v' (l.length + 1) (strsV l ++ [.string x])) (hgrow : (W.alloc tmp).grownBy w1 (Value.slice va l.length vc).ownBlock) (hfr : Fresh (W.alloc tmp) (.slice va l.length vc) v') :
    ∃ va' vc', v' = .slice va' (l.length + 1) vc' ∧ Boxed w1 B 31 (.slice va l.length vc) ∧ OutB (w1.setCell ⟨B, 0, none⟩ v') B va' vc' (l ++ [x]) ∧ Keep B S W (w1.setCell ⟨B, 0, none⟩ v') ∧ (∀ Ds, Marks Ds W → Marks Ds (w1.setCell ⟨B, 0, none⟩ v')) ∧ (∀ g, v'.ownBlock = some g → ¬ S g) ∧
      (∀ q, q < W.heap.size → (Value.slice va l.length vc).ownBlock ≠ some q → v'.ownBlock ≠ some q) ∧ (∀ (q : Nat) (o : Obj), W.heap[q]? = some o → q ≠ B → (Value.slice va l.length vc).ownBlock ≠ some q → (w1.setCell ⟨B, 0, none⟩ v').heap[q]? = some o) := by
  obtain ⟨va', vc', rfl⟩ := (RdS.of_owns hown').form
  obtain ⟨h1, h2, h3, h4, h5⟩ := boxed_pushed (n0 := B) (S := S) h.box (by decide) h.own (Nat.le_of_lt h.box.lt) (Nat.le_refl _) (Nat.le_refl _) hS hSB hSr hown' hgrow hfr
  refine ⟨va', vc', rfl, h1, ⟨by simpa using h2, ?_⟩, h4, fun Ds hm => (hm.grown h.own tmp hgrow).setCell h1 _, h5, fun q hq hne e => ?_, fun q o ho hq hne => pushed_other hgrow ho hq hne⟩
  · rw [strsV_snoc] at h3
    simpa using h3
  · rcases hfr q e with hf | hf
    · exact hne hf
    · simp at hf; omega
theorem out_pushed {W w1 : World} {B vc : Nat} {va : Option Addr} {l : List ByteArray} {x : ByteArray} {v' : Value} {tmp : Obj} (h : OutB W B va vc l) (hown' : w1.ownsRow B 9 1 v' (l.length + 1) (strsV l ++ [.string x])) (hgrow : (W.alloc tmp).grownBy w1 (Value.slice va l.length vc).ownBlock) (hfr : Fresh (W.alloc tmp) (.slice va l.length vc) v') :
    ∃ va' vc', v' = .slice va' (l.length + 1) vc' ∧ Boxed w1 B 31 (.slice va l.length vc) ∧ OutB (w1.setCell ⟨B, 0, none⟩ v') B va' vc' (l ++ [x]) ∧ Below B W (w1.setCell ⟨B, 0, none⟩ v') ∧ (∀ Ds, Marks Ds W → Marks Ds (w1.setCell ⟨B, 0, none⟩ v')) := by
  obtain ⟨va', vc', h1, h2, h3, h4, h5, _⟩ := out_pushedS (S := fun _ => False) h (fun _ h => h.elim) id (fun _ _ h => h) hown' hgrow hfr
  exact ⟨va', vc', h1, h2, h3, h4.below, h5⟩
theorem unl_mem {s t : StepD} {n : ByteArray} (h : n ∈ unl s t) : n.size ≤ 6 := by
  have key : ∀ (l : List ByteArray) (m : List Bool), ∀ x ∈ unlB l m, x ∈ l := by
    intro l
    induction l with
    | nil => intro m x hx; simp [unlB] at hx
    | cons a l ih =>
      intro m x hx
      cases m with
      | nil => simp [unlB] at hx
      | cons b m =>
        rw [unlB] at hx
        split at hx
        · exact List.mem_cons_of_mem _ (ih m x hx)
        · rcases List.mem_cons.1 hx with rfl | hx
          · exact List.mem_cons_self
          · exact List.mem_cons_of_mem _ (ih m x hx)
  have := key _ _ _ h
  simp only [nmL, List.mem_cons, List.not_mem_nil, or_false] at this
  rcases this with rfl | rfl | rfl | rfl | rfl | rfl | rfl <;> decide

end Go.Proofs.Ytkgcpbhlbfjcoaa
