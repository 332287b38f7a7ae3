/-
  A drawn region walked by hand at the kit's laws on orders (Derived.OrdersHeld), where a guard says no. Conditions: none of the program's.
-/
import Derived.Test.YtigeedaihbpjiaaSl
import Derived.Deep.RegionHeld3
import Derived.Deep.DrawnRows
namespace Go.Proofs.Ytigeedaihbpjiaa
open Go Go.RowKit

/-- The beginning, the post a letter. -/
theorem held_region {P : Program} {ops : Array Oper} {Q : Exit → Act → World → Prop} {S : World → Prop} {id : Nat} {a : Act} {w : World} (hm : P.follows .mixedOrders = true) (hS : S w.drew)
    (hQ : ∀ c a (d : Tmp) v w, Q (.panic c) (a.put (some d) v) w → Q (.panic c) a w)
    (h : ∀ Q' : Exit → Act → World → Prop, (∀ c a (d : Tmp) v w, Q' (.panic c) (a.put (some d) v) w → Q' (.panic c) a w) → Shut (∀ a w, Q .normal a w → Q' .normal a w) → S w.drew →
      wpAnyH P .any ops Q' S ops.size (Array.replicate ops.size false) a w.drew) : (Code.region id ops true).wp P Q a w :=
  wp_region_held hm (h Q hQ (fun _ _ h => h) hS)

theorem held_take {P : Program} {ops : List Oper} {Q : Exit → Act → World → Prop} {S : World → Prop} {fuel : Nat} {listed : Array Bool} {a : Act} {w : World}
    (hQ : ∀ c a (d : Tmp) v w, Q (.panic c) (a.put (some d) v) w → Q (.panic c) a w) (hS : S w) (i : Nat) {oi : Oper} {v : Value} {d : Tmp} (hi : ops[i]? = some oi) (hd : oi.dst = some d)
    (hs : Region.noSelect ops.toArray = true) (hf : Region.free .any ops.toArray listed i = true) (hr : (Region.ready .any ops.toArray listed).contains i = true)
    (hw : Region.wanted oi (yielded ops.toArray a.tmps) = true) (hy : ∀ w, S w → (execOp a.eval oi).run P w = .ok (.value v) w)
    (h : wpAnyH P .any ops.toArray Q S fuel (listed.setIfInBounds i true) (a.put (some d) v) w) : wpAnyH P .any ops.toArray Q S (fuel + 1) listed a w :=
  wpAnyH_take (by simpa using hi) hs hf hr (fun c a w h => hQ c a d _ w (by rw [hd] at h; exact h)) (.inl ⟨hw, hy⟩) hS (by rw [hd]; exact h)

theorem held_off {P : Program} {ops : List Oper} {Q : Exit → Act → World → Prop} {S : World → Prop} {fuel : Nat} {listed : Array Bool} {a : Act} {w : World}
    (hQ : ∀ c a (d : Tmp) v w, Q (.panic c) (a.put (some d) v) w → Q (.panic c) a w) (hS : S w) (i : Nat) {oi : Oper} {d : Tmp} (hi : ops[i]? = some oi) (hd : oi.dst = some d)
    (hs : Region.noSelect ops.toArray = true) (hf : Region.free .any ops.toArray listed i = true) (hr : (Region.ready .any ops.toArray listed).contains i = true)
    (hw : Region.wanted oi (yielded ops.toArray a.tmps) = false)
    (h : wpAnyH P .any ops.toArray Q S fuel (listed.setIfInBounds i true) (a.put (some d) undef) w) : wpAnyH P .any ops.toArray Q S (fuel + 1) listed a w :=
  wpAnyH_take (by simpa using hi) hs hf hr (fun c a w h => hQ c a d _ w (by rw [hd] at h; exact h)) (.inr ⟨hw, rfl⟩) hS (by rw [hd]; exact h)
end Go.Proofs.Ytigeedaihbpjiaa
