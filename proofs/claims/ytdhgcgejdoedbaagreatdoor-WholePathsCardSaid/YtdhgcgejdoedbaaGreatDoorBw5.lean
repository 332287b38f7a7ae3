/-
  A region that draws its order, all of whose operations but the last ones only read: walked in the order of the text, inside a round of a loop over a function. Conditions: none of the program's.
-/
import Derived.StillTailTactics
import Derived.OrdersIn
import Derived.Test.YtdhgcgejdoedbaaGreatDoorBw4
namespace Go.Proofs.YtdhgcgejdoedbaaGreatDoor
open Go Go.RowKit

def onlyNormal (Q : Exit → Act → World → Prop) : Exit → Act → World → Prop := fun e a w => e = .normal ∧ Q .normal a w

theorem opIn_of_wp {P : Program} {o : Oper} {a : Act} {w : World} {K : Act → World → Prop} {Q : Exit → Act → World → Prop} (l : Nat) (hnd : ∀ c, o.op ≠ .defer c) (h : o.wp P a w K (onlyNormal Q)) :
    o.wpIn (Fence.wide.inRound l) 0 P a w K Q := by
  refine ⟨fun _ _ => trivial, ?_⟩
  rw [Oper.semAt_plain _ _ _ hnd]
  unfold Oper.wp at h
  generalize (execOp a.eval o).run P w = r at *
  cases r with
  | ok n w' =>
    cases n with
    | value v => exact h
    | skip => exact h
    | defer d => exact h
    | enter f args =>
      refine ⟨fun h => (by cases h), CallsIn.inRound l (callsIn_wide.2 (Calls.mono h (fun e w'' he => ?_)))⟩
      cases e with
      | returned v => exact he
      | panicked chain => exact absurd he.1 (by simp)
      | outgrown => obtain ⟨_, _, h1, _⟩ := he; cases h1
    | row row args =>
      refine ⟨fun h => (by cases h), fun c cs _ => ?_⟩
      obtain ⟨v, w'', h1, h2⟩ := h c cs
      exact ⟨v, w'', h1, stepsIn_wide.2 h2⟩
    | _ => exact h.elim
  | halt x w' =>
    cases x <;> first | exact h.elim | exact absurd h.1 (by simp)

def noDefer (l : List Oper) : Bool := l.all fun o => match o.op with | .defer _ => false | _ => true
theorem noDefer_spec {l : List Oper} (h : noDefer l = true) : ∀ (i : Nat) (o : Oper), l.toArray[i]? = some o → ∀ c, o.op ≠ .defer c := by
  intro i o ho c hc
  have hm : o ∈ l := List.mem_of_getElem? (by simpa using ho)
  have := List.all_eq_true.1 h o hm
  rw [hc] at this
  cases this

end Go.Proofs.YtdhgcgejdoedbaaGreatDoor
