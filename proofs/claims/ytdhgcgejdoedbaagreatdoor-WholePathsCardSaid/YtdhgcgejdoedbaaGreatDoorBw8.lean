/-
  A drawn region at the wide fence, in an iterator's own body and in a round. Conditions: none of the program's.
-/
import Derived.Sort.CutIn
import Derived.Test.YtdhgcgejdoedbaaGreatDoorBw5
import Derived.Test.YtdhgcgejdoedbaaGreatDoorBw7
namespace Go.Proofs.YtdhgcgejdoedbaaGreatDoor
open Go.RowKit Go.WideShapes
attribute [local go_sem] Oper.semAt_some wide_fn wide_depth wide_fn' wide_depth'

theorem opWide_of_wp {P : Program} {o : Oper} {a : Act} {w : World} {K : Act → World → Prop} {Q : Exit → Act → World → Prop} (hnd : ∀ c, o.op ≠ .defer c) (h : o.wp P a w K (onlyNormal Q)) :
    o.wpIn Fence.wide 0 P a w K Q := by
  refine ⟨fun _ _ => trivial, ?_⟩
  rw [Oper.semAt_plain _ _ _ hnd]
  unfold Oper.wp at h
  generalize (execOp a.eval o).run P w = r at *
  cases r with
  | ok n w' =>
    cases n with
    | value v => exact h
    | skip => exact h
    | defer d => exact h
    | enter f args =>
      refine ⟨fun h => (by cases h), callsIn_wide.2 (Calls.mono h (fun e w'' he => ?_))⟩
      cases e with
      | returned v => exact he
      | panicked chain => exact absurd he.1 (by simp)
      | outgrown => obtain ⟨_, _, h1, _⟩ := he; cases h1
    | row row args =>
      refine ⟨fun h => (by cases h), fun c cs _ => ?_⟩
      obtain ⟨v, w'', h1, h2⟩ := h c cs
      exact ⟨v, w'', h1, stepsIn_wide.2 h2⟩
    | _ => exact h.elim
  | halt x w' =>
    cases x <;> first | exact h.elim | exact absurd h.1 (by simp)
theorem anyWide_of_any {P : Program} {md : Region.Mode} {ops : Array Oper} {Q : Exit → Act → World → Prop} (hnd : ∀ (i : Nat) (o : Oper), ops[i]? = some o → ∀ c, o.op ≠ .defer c) :
    ∀ (fuel : Nat) (listed : Array Bool) (a : Act) (w : World), wpAny P md ops (onlyNormal Q) fuel listed a w → wpAnyIn Fence.wide 0 P md ops Q fuel listed a w := by
  intro fuel
  induction fuel with
  | zero => exact fun listed a w h => ⟨h.1, h.2.2⟩
  | succ fuel ih =>
    intro listed a w h
    refine ⟨fun hr => (h.1 hr).2, fun i hi => ?_⟩
    have hh := h.2 i hi
    unfold wpOp at hh
    unfold wpOpIn
    cases ho : ops[i]? with
    | none => simp only [ho] at hh ⊢; exact ih _ _ _ hh
    | some o =>
      simp only [ho] at hh ⊢
      by_cases hw : Region.wanted o (yielded ops a.tmps) = true
      · rw [if_pos hw] at hh ⊢
        rcases hh with hh | ⟨_, _, _, hh, _⟩
        · exact opWide_of_wp (hnd i o ho) (Oper.wp_mono (fun a w h => ih _ _ _ h) hh)
        · cases hh
      · rw [if_neg hw] at hh ⊢
        exact ⟨fun _ _ => trivial, ih _ _ _ hh⟩
theorem E_regionW {P : Program} {l : List Oper} {Q : Exit → Act → World → Prop} {S : World → Prop} {id : Nat} {a : Act} {w : World} (k : Nat) (hm : P.follows .mixedOrders = true) (hnd : noDefer l = true) (hS : S w.drew)
    (h : ∀ Q' : Exit → Act → World → Prop, (∀ c a (d : Tmp) v w, Q' (.panic c) (a.put (some d) v) w → Q' (.panic c) a w) → Shut (∀ a w, Q .normal a w → Q' .normal a w) → S w.drew →
      wpAnyE P .any l.toArray Q' S k l.toArray.size (Array.replicate l.toArray.size false) a w.drew) : (Code.region id l.toArray true).wpIn Fence.wide 0 P Q a w :=
  wpIn_region_any hm (anyWide_of_any (noDefer_spec hnd) _ _ _ _ (wpAny_of_E _ _ _ _ (h (onlyNormal Q) (fun _ _ _ _ _ h => absurd h.1 (by simp)) (fun _ _ h => ⟨rfl, h⟩) hS)))

end Go.Proofs.YtdhgcgejdoedbaaGreatDoor

/-
  A drawn region in a round, in which one operation (number k) calls a loop's yield: all that k waits for goes first. Conditions: none of the program's.
-/
namespace Go.Proofs.YtdhgcgejdoedbaaGreatDoor
open Go Go.RowKit

section
variable {P : Program} {ops : Array Oper} {Q : Exit → Act → World → Prop} {md : Region.Mode} {S : World → Prop} {k : Nat} {Z : Nat → Array Bool → Act → World → Prop}

def wpAnyX (P : Program) (md : Region.Mode) (ops : Array Oper) (Q : Exit → Act → World → Prop) (S : World → Prop) (k : Nat) (Z : Nat → Array Bool → Act → World → Prop) : Nat → Array Bool → Act → World → Prop
  | 0, _, _, _ => False
  | fuel + 1, listed, a, w =>
    Region.ready md ops listed ≠ [] ∧
    ∀ i ∈ Region.ready md ops listed, (i = k → Z fuel listed a w) ∧ (i ≠ k → wpOp P ops Q i (fun a' w' => S w' ∧ wpAnyX P md ops Q S k Z fuel (listed.setIfInBounds i true) a' w') a w)

theorem wpAnyX_first {i d : Nat} {oi : Oper} {v : Value} (hi : ops[i]? = some oi) (hsel : ∀ (j : Nat) (o : Oper) cs b, ops[j]? = some o → o.op ≠ .select cs b)
    (hQ : ∀ c a w, Q (.panic c) (a.put oi.dst v) w → Q (.panic c) a w) (hw : waitsN md ops d k i = true) (hik : i ≠ k) :
    ∀ (fuel : Nat) (listed : Array Bool) (a : Act) (w : World),
      (∀ j oj, ops[j]? = some oj → j ≠ i → listed.getD j true = false → (∀ e ∈ oj.after, Region.binds md e = true → e.on ≠ i) → oi.apart ops oj = true) →
      ClosedL md ops listed → i ∈ Region.ready md ops listed → YieldsIf P ops S oi v a → S w →
      wpAnyX P md ops Q S k Z fuel (listed.setIfInBounds i true) (a.put oi.dst v) w → wpAnyX P md ops Q S k Z (fuel + 1) listed a w := by
  intro fuel
  induction fuel with
  | zero => intro listed a w _ _ _ _ _ H; exact H.elim
  | succ fuel ih =>
    intro listed a w hfree hcl hr hy hS H
    refine ⟨fun h => (by rw [h] at hr; cases hr), fun j hj => ?_⟩
    by_cases hji : j = i
    · subst hji; exact ⟨fun h => absurd h hik, fun _ => hy.wpOp hi hS ⟨hS, H⟩⟩
    · have hjk : j ≠ k := fun e => by
        subst e
        have h2 := waitsN_ready hcl hw hj
        rw [unlisted_both (mem_ready.1 hr).1] at h2
        cases h2
      have h1 := (H.2 j (ready_mono hj hji)).2 hjk
      obtain ⟨hjun, oj, hoj, hall⟩ := mem_ready.1 hj
      have hnot : ∀ e ∈ oj.after, Region.binds md e = true → e.on ≠ i := fun e he hb heq => by
        have h1 := hall e he hb
        rw [heq, unlisted_both (mem_ready.1 hr).1] at h1
        cases h1
      have h2 := wpOp_putIf hoj (hfree j oj hoj hji hjun hnot) (fun cs b => hsel i oi cs b hi) (fun cs b => hsel j oj cs b hoj) hQ hy h1
      have hfree' : ∀ m om, ops[m]? = some om → m ≠ i → (listed.setIfInBounds j true).getD m true = false →
          (∀ e ∈ om.after, Region.binds md e = true → e.on ≠ i) → oi.apart ops om = true := fun m om hm hmi hun hno => by
        refine hfree m om hm hmi ?_ hno
        by_cases hjm : j = m
        · subst hjm; exact hjun
        · rw [getD_set_ne true hjm] at hun; exact hun
      refine ⟨fun h => absurd h hjk, fun _ => wpOp_mono (fun a' w' h3 => ⟨h3.2.1, ih (listed.setIfInBounds j true) a' w' hfree' (hcl.set hj) (ready_mono hr (Ne.symm hji)) h3.1 h3.2.1 ?_⟩) h2⟩
      rw [Array.setIfInBounds_comm _ _ hji]
      exact h3.2.2
theorem anyIn_of_X {QI : Exit → Act → World → Prop} (lp : Nat) (hnd : ∀ (i : Nat) (o : Oper), ops[i]? = some o → ∀ c, o.op ≠ .defer c)
    (hZ : ∀ fuel listed a w, Z fuel listed a w → wpOpIn (Fence.wide.inRound lp) 0 P ops QI k (wpAnyIn (Fence.wide.inRound lp) 0 P md ops QI fuel (listed.setIfInBounds k true)) a w) :
    ∀ (fuel : Nat) (listed : Array Bool) (a : Act) (w : World), wpAnyX P md ops (onlyNormal QI) S k Z fuel listed a w → wpAnyIn (Fence.wide.inRound lp) 0 P md ops QI fuel listed a w := by
  intro fuel
  induction fuel with
  | zero => intro listed a w h; exact h.elim
  | succ fuel ih =>
    intro listed a w h
    refine ⟨fun h0 => absurd h0 h.1, fun i hi => ?_⟩
    by_cases hik : i = k
    · subst hik; exact hZ _ _ _ _ ((h.2 i hi).1 rfl)
    · have hh := (h.2 i hi).2 hik
      unfold wpOp at hh
      unfold wpOpIn
      cases ho : ops[i]? with
      | none => simp only [ho] at hh ⊢; exact ih _ _ _ hh.2
      | some o =>
        simp only [ho] at hh ⊢
        by_cases hw : Region.wanted o (yielded ops a.tmps) = true
        · rw [if_pos hw] at hh ⊢
          rcases hh with hh | ⟨_, _, _, hh, _⟩
          · exact opIn_of_wp lp (hnd i o ho) (Oper.wp_mono (fun a w h => ih _ _ _ h.2) hh)
          · cases hh
        · rw [if_neg hw] at hh ⊢
          exact ⟨fun _ _ => trivial, ih _ _ _ hh.2⟩
end
theorem X_region {P : Program} {l : List Oper} {Q : Exit → Act → World → Prop} {S : World → Prop} {id lp : Nat} {a : Act} {w : World} (k : Nat) (hm : P.follows .mixedOrders = true) (hnd : noDefer l = true)
    (h : (∀ c a (d : Tmp) v w, onlyNormal Q (.panic c) (a.put (some d) v) w → onlyNormal Q (.panic c) a w) →
      wpAnyX P .any l.toArray (onlyNormal Q) S k (fun fuel listed a w => wpOpIn (Fence.wide.inRound lp) 0 P l.toArray Q k (wpAnyIn (Fence.wide.inRound lp) 0 P .any l.toArray Q fuel (listed.setIfInBounds k true)) a w) l.toArray.size (Array.replicate l.toArray.size false) a w.drew) :
    (Code.region id l.toArray true).wpIn (Fence.wide.inRound lp) 0 P Q a w :=
  wpIn_region_any hm (anyIn_of_X lp (noDefer_spec hnd) (fun _ _ _ _ h => h) _ _ _ _ (h (fun _ _ _ _ _ h => absurd h.1 (by simp))))
theorem X_take {P : Program} {ops : List Oper} {Q : Exit → Act → World → Prop} {S : World → Prop} {k fuel : Nat} {Z : Nat → Array Bool → Act → World → Prop} {listed : Array Bool} {a : Act} {w : World}
    (hQ : ∀ c a (d : Tmp) v w, Q (.panic c) (a.put (some d) v) w → Q (.panic c) a w) (hS : S w) (i : Nat) {oi : Oper} {v : Value} {d : Tmp} (hi : ops[i]? = some oi) (hd : oi.dst = some d)
    (hs : Region.noSelect ops.toArray = true) (hf : Region.free .any ops.toArray listed i = true) (hr : (Region.ready .any ops.toArray listed).contains i = true) (hcl : closedB .any ops.toArray listed = true) (hk : (waitsN .any ops.toArray 8 k i && decide (i ≠ k)) = true)
    (hw : Region.wanted oi (yielded ops.toArray a.tmps) = true) (hy : ∀ w, S w → (execOp a.eval oi).run P w = .ok (.value v) w)
    (h : wpAnyX P .any ops.toArray Q S k Z fuel (listed.setIfInBounds i true) (a.put (some d) v) w) : wpAnyX P .any ops.toArray Q S k Z (fuel + 1) listed a w := by
  simp only [Bool.and_eq_true, decide_eq_true_eq] at hk
  have hi' : ops.toArray[i]? = some oi := by simpa using hi
  exact wpAnyX_first hi' (Region.noSelect_spec hs) (fun c a w h => hQ c a d _ w (by rw [hd] at h; exact h)) hk.1 hk.2 fuel listed a w (Region.free_spec hi' hf) (closedB_spec hcl) (by simpa using hr) (.inl ⟨hw, hy⟩) hS (by rw [hd]; exact h)
theorem X_one {P : Program} {ops : List Oper} {Q : Exit → Act → World → Prop} {S : World → Prop} {k fuel : Nat} {Z : Nat → Array Bool → Act → World → Prop} {listed : Array Bool} {a : Act} {w : World} (i : Nat) {oi : Oper} (hr : Region.ready .any ops.toArray listed = [i]) (hi : ops[i]? = some oi) (hik : i ≠ k)
    (hw : Region.wanted oi (yielded ops.toArray a.tmps) = true)
    (h : ∀ K : Act → World → Prop, Shut (∀ a' w', S w' → (S w' → wpAnyX P .any ops.toArray Q S k Z fuel (listed.setIfInBounds i true) a' w') → K a' w') → oi.wp P a w K Q) : wpAnyX P .any ops.toArray Q S k Z (fuel + 1) listed a w := by
  refine ⟨fun h0 => (by rw [hr] at h0; cases h0), fun j hj => ?_⟩
  rw [hr] at hj
  obtain rfl : j = i := by simpa using hj
  have hi' : ops.toArray[j]? = some oi := by simpa using hi
  refine ⟨fun h => absurd h hik, fun _ => ?_⟩
  unfold wpOp
  simp only [hi', hw, if_true]
  exact .inl (h _ (fun a' w' h1 h2 => ⟨h1, h2 h1⟩))
theorem X_last {P : Program} {ops : List Oper} {Q QI : Exit → Act → World → Prop} {S : World → Prop} {k fuel lp : Nat} {listed : Array Bool} {a : Act} {w : World} {ok : Oper} (hr : Region.ready .any ops.toArray listed = [k]) (hi : ops[k]? = some ok)
    (hw : Region.wanted ok (yielded ops.toArray a.tmps) = true)
    (h : ∀ K : Act → World → Prop, Shut (∀ a' w', wpAnyIn (Fence.wide.inRound lp) 0 P .any ops.toArray QI fuel (listed.setIfInBounds k true) a' w' → K a' w') → ok.wpIn (Fence.wide.inRound lp) 0 P a w K QI) :
    wpAnyX P .any ops.toArray Q S k (fun fuel listed a w => wpOpIn (Fence.wide.inRound lp) 0 P ops.toArray QI k (wpAnyIn (Fence.wide.inRound lp) 0 P .any ops.toArray QI fuel (listed.setIfInBounds k true)) a w) (fuel + 1) listed a w := by
  refine ⟨fun h0 => (by rw [hr] at h0; cases h0), fun j hj => ?_⟩
  rw [hr] at hj
  obtain rfl : j = k := by simpa using hj
  have hi' : ops.toArray[j]? = some ok := by simpa using hi
  refine ⟨fun _ => ?_, fun h => absurd rfl h⟩
  unfold wpOpIn
  simp only [hi', hw, if_true]
  exact h _ (fun a' w' h1 => h1)
theorem X_after {P : Program} {ops : List Oper} {QI : Exit → Act → World → Prop} {fuel lp : Nat} {listed : Array Bool} {a : Act} {w : World} (i : Nat) {oi : Oper} {v : Value} {d : Tmp} (hr : Region.ready .any ops.toArray listed = [i]) (hi : ops[i]? = some oi) (hd : oi.dst = some d)
    (hnd : noDefer ops = true) (hw : Region.wanted oi (yielded ops.toArray a.tmps) = true) (hy : ∀ w, (execOp a.eval oi).run P w = .ok (.value v) w)
    (h : wpAnyIn (Fence.wide.inRound lp) 0 P .any ops.toArray QI fuel (listed.setIfInBounds i true) (a.put (some d) v) w) : wpAnyIn (Fence.wide.inRound lp) 0 P .any ops.toArray QI (fuel + 1) listed a w := by
  refine ⟨fun h0 => (by rw [hr] at h0; cases h0), fun j hj => ?_⟩
  rw [hr] at hj
  obtain rfl : j = i := by simpa using hj
  have hi' : ops.toArray[j]? = some oi := by simpa using hi
  unfold wpOpIn
  simp only [hi', hw, if_true]
  refine ⟨fun _ _ => trivial, ?_⟩
  rw [Oper.semAt_eq _ _ _ (noDefer_spec hnd _ _ hi'), hy, Oper.uponIn_value, hd]
  exact h
theorem X_done {P : Program} {ops : Array Oper} {QI : Exit → Act → World → Prop} {lp : Nat} {listed : Array Bool} {a : Act} {w : World} (hr : Region.ready .any ops listed = []) (h : QI .normal a w) : ∀ fuel, wpAnyIn (Fence.wide.inRound lp) 0 P .any ops QI fuel listed a w
  | 0 => ⟨hr, h⟩
  | _ + 1 => ⟨fun _ => h, by rw [hr]; simp⟩
end Go.Proofs.YtdhgcgejdoedbaaGreatDoor
