/-
  bytes.Clone, inlet.New, rest, Left: contracts.
-/
import Derived.Test.YtigeedaihbpjiaaRows
import Derived.Test.YtigeedaihbpjiaaSl
import Derived.Lib.SmallJoins
import Derived.Deep.QuietTactic
import Derived.BigQuiet
namespace Go.Proofs.Ytigeedaihbpjiaa
open Go.RowKit

theorem Try.info_u8n : (Try.prog.info? 5).map (fun i => (i.zero, i.size, i.bytes)) = some (some (.int .u8 0), 1, 1) := by kernel_rfl

set_option maxRecDepth 100000 in
set_option maxHeartbeats 1000000 in
theorem Clone_any (l : List Nat) (v : Value) (w : World) (hr : RdS w v 1 l.length (u8s l)) (hbig : l.length ≤ 1099511627776) :
    Calls Try.prog 83 #[v] w fun e w' => ∃ v', e = .returned v' ∧ RdS w' v' 1 l.length (u8s l) ∧ (∀ g, v'.ownBlock = some g → w.heap.size ≤ g ∧ g < w'.heap.size) ∧ Below w.heap.size w w' := by
  obtain ⟨i0, hi, hz0, hz1, hz2⟩ := info_parts Try.info_u8n
  have HR := Lib.hid hr
  obtain ⟨a, cap, rfl⟩ := hr.form
  have q22 : ∀ (w : World) (a : Option Addr) (n c n' c' : Nat), (binOp .eql 24 (.slice a n c) (.slice none n' c')).run Try.prog w = .ok (.bool a.isNone) w := fun w a n c n' c' => Lib.run_eql_slice_nil w _ _ a n c n' c' Try.underlying24
  cases a with
  | none =>
    have h0 : l = [] := by
      rcases hr.cases (by decide) with ⟨h0, _⟩ | ⟨hn, _, g, off, cap', hq, _⟩
      · exact List.eq_nil_of_length_eq_zero h0
      · cases hq
    subst h0
    clear hr
    go_enter Try.func83, Try.ntmps83
    go_wp2
    go_ret
    exact ⟨_, rfl, ⟨rfl, none, 0, rfl, Nat.le_refl _, Nat.zero_le _, .inl rfl⟩, by simp [Value.ownBlock], Below.refl _ _⟩
  | some x =>
    clear hr
    go_enter Try.func83, Try.ntmps83
    go_wp2_with (at_builtin; go_must (refine wpList_pushS rfl _ _ 24 rfl w.heap.size 5 i0 (.int .u8 0) 1 1 Try.underlying24 hi hz0 hz1 hz2 rfl (by decide) _ _ _ rfl (World.ownsRow_made w #[] 0 (Nat.le_refl _) (Nat.zero_le _) rfl) _ l.length (u8s l) rfl (HR.out.below ((Below.refl _ w).alloc (Nat.le_refl _) _)) (u8s_one l) (by unfold maxLen; omega) (by omega) (by simp) ?_; intro v' w2 hown' hgrow hfr))
    have hgrow : (w.alloc (.cells #[] 5)).grownBy w2 (some w.heap.size) := hgrow
    go_ret
    have hown : w2.ownsRow w.heap.size 5 1 v' l.length (u8s l) := by simpa using hown'
    refine ⟨v', rfl, RdS.of_owns hown, fun g hg => hown.lt g hg, ?_⟩
    exact ((Below.refl w.heap.size w).alloc (Nat.le_refl _) _).grown hgrow (by simp) (fun j ej => by cases ej; exact Nat.le_refl _)

/-- A reader: its block, the bytes, where it is. -/
def InAt (W : World) (B : Nat) (l : List Nat) (at_ : Nat) : Prop := ∃ v, W.heap[B]? = some (.cells #[v, .int .i64 (at_ : Int)] 135 (0, 0)) ∧ RdS W v 1 l.length (u8s l) ∧ (∀ g, v.ownBlock = some g → g < B) ∧ at_ ≤ l.length
theorem InAt.below {W W' : World} {B at_ : Nat} {l : List Nat} (h : InAt W B l at_) (hb : Below W.heap.size W W') : InAt W' B l at_ := by
  obtain ⟨v, h1, h2, h3, h4⟩ := h
  exact ⟨v, (hb.block _ (Array.getElem?_eq_some_iff.1 h1).1).trans h1, h2.below hb, h3, h4⟩

set_option maxRecDepth 100000 in
set_option maxHeartbeats 1000000 in
theorem New_any (l : List Nat) (v : Value) (w : World) (hr : RdS w v 1 l.length (u8s l)) (hbig : l.length ≤ 1099511627776) :
    Calls Try.prog 45 #[v] w fun e w' => ∃ B, e = .returned (.pointer (some ⟨B, 0, none⟩)) ∧ InAt w' B l 0 ∧ w.heap.size ≤ B ∧ Below w.heap.size w w' := by
  have HC := Lib.hid (Clone_any l v w hr hbig)
  obtain ⟨a, cap, rfl⟩ := hr.form
  clear hr
  go_enter Try.func45, Try.ntmps45
  go_wp2_with fail
  refine HC.out.mono ?_
  rintro e w1 ⟨v1, rfl, h1, h2, hb1⟩
  have H1 := Lib.hid h1
  have H2 := Lib.hid h2
  obtain ⟨va, vc, rfl⟩ := h1.form
  clear h1 h2
  go_wp2
  go_ret
  have hb2 : Below w1.heap.size w1 (w1.alloc (.cells #[.slice va l.length vc, .int .i64 0] 135)) := (Below.refl _ w1).alloc (Nat.le_refl _) _
  refine ⟨w1.heap.size, rfl, ⟨_, World.alloc_heap_new w1 _, H1.out.below hb2, fun g hg => (H2.out g hg).2, Nat.zero_le _⟩, hb1.size, bthen hb1 (Nat.le_refl _) hb2⟩

theorem rds_dropI {W : World} {a : Option Addr} {c at_ : Nat} {l : List Nat} (h : RdS W (.slice a l.length c) 1 l.length (u8s l)) (hat : at_ ≤ l.length) :
    RdS W (.slice (if l.length = at_ then a else Option.map (fun x => x.add at_) a) (l.length - at_) (l.length - at_)) 1 (l.drop at_).length (u8s (l.drop at_)) := by
  have hlen : l.length ≤ maxLen := by obtain ⟨_, a', c', _, q1, q2, _⟩ := h; omega
  by_cases he : l.length = at_
  · have hd : l.drop at_ = [] := List.drop_eq_nil_of_le (by omega)
    rw [hd, if_pos he]
    exact ⟨rfl, a, l.length - at_, by rw [List.length_nil, show l.length - at_ = 0 by omega], by simp, by omega, .inl rfl⟩
  · rw [if_neg he]
    rcases h.cases (by decide) with ⟨h0, _⟩ | ⟨hn, _, g, off, cap', hq, q1, q2, q3⟩
    · omega
    · injection hq with e1 e2 e3
      subst e1 e3
      refine ⟨by simp [u8s], some ⟨g, off + at_, none⟩, l.length - at_, by rw [List.length_drop]; simp [Addr.add_lit], by rw [List.length_drop]; exact Nat.le_refl _, by omega, .inr ⟨g, off + at_, rfl, fun i x hi => ?_⟩⟩
      have := q3 (at_ + i) x (by simpa [u8s, List.getElem?_drop] using hi)
      rwa [← Nat.add_assoc] at this

set_option maxRecDepth 100000 in
set_option maxHeartbeats 1000000 in
theorem rest_any (l : List Nat) (B at_ : Nat) (w : World) (h : InAt w B l at_) (hbig : l.length ≤ 1099511627776) :
    Calls Try.prog 84 #[.pointer (some ⟨B, 0, none⟩)] w fun e w' => ∃ v', e = .returned v' ∧ RdS w' v' 1 (l.drop at_).length (u8s (l.drop at_)) ∧ (∀ g, v'.ownBlock = some g → g < B) ∧ Below w.heap.size w w' := by
  obtain ⟨v, h1, h2, h3, h4⟩ := h
  obtain ⟨a, c, rfl⟩ := h2.form
  have c0 : w.cell? ⟨B, 0, none⟩ = some (.slice a l.length c) := by simp [World.cell?, h1]
  have c1 : w.cell? ⟨B, 1, none⟩ = some (.int .i64 (at_ : Int)) := by simp [World.cell?, h1]
  have hcc : l.length ≤ c ∧ c ≤ 9223372036854775807 := by
    obtain ⟨_, a', c', he, h1, h2, _⟩ := h2
    injection he with _ _ e3; subst e3; unfold maxLen at h2; exact ⟨h1, h2⟩
  obtain ⟨hc1, hc2⟩ := hcc
  have H2 := Lib.hid h2
  have H3 : Hid (∀ g, (Value.slice (if l.length = at_ then a else Option.map (fun x => x.add at_) a) (l.length - at_) (l.length - at_)).ownBlock = some g → g < B) := Lib.hid (by
    intro g hg
    apply h3 g
    split at hg
    · cases a with
      | none => cases hg
      | some y => exact hg
    · cases a with
      | none => simp [Value.ownBlock] at hg
      | some y =>
        have e : (y.add at_).block = y.block := by unfold Addr.add; split <;> rfl
        simpa [Value.ownBlock, e] using hg)
  have hat : (at_ : Int) ≤ l.length := by omega
  clear h1 h2 h3
  go_enter Try.func84, Try.ntmps84
  go_wp2_with fail
  go_quiet (fail)
  have HD := Lib.hid (rds_dropI H2.out h4)
  have hlen := List.length_drop (l := l) (i := at_)
  generalize (if l.length = at_ then a else Option.map (fun x => x.add at_) a) = a2 at *
  go_wp2
  go_ret
  exact ⟨_, rfl, by have := HD.out.below (belowN (Below.refl _ w) nq); rwa [hlen] at this ⊢, H3.out, belowN (Below.refl _ w) nq⟩

set_option maxRecDepth 100000 in
theorem Left_any (l : List Nat) (B at_ : Nat) (w : World) (h : InAt w B l at_) (hbig : l.length ≤ 1099511627776) :
    Calls Try.prog 47 #[.pointer (some ⟨B, 0, none⟩)] w fun e w' => e = .returned (.int .i64 ((l.length - at_ : Nat) : Int)) ∧ Below w.heap.size w w' := by
  have HC := Lib.hid (rest_any l B at_ w h hbig)
  clear h
  go_enter Try.func47, Try.ntmps47
  go_wp2_with fail
  refine HC.out.mono ?_
  rintro e w1 ⟨v1, rfl, h1, _, hb1⟩
  have hcc : ∃ a c, v1 = .slice a (l.length - at_) c ∧ l.length - at_ ≤ c ∧ c ≤ 9223372036854775807 := by
    obtain ⟨_, a', c', he, q1, q2, _⟩ := h1
    rw [List.length_drop] at he q1
    exact ⟨a', c', he, q1, by unfold maxLen at q2; exact q2⟩
  obtain ⟨va, vc, rfl, hv1, hv2⟩ := hcc
  clear h1
  go_wp2
  go_ret
  exact ⟨rfl, hb1⟩
end Go.Proofs.Ytigeedaihbpjiaa
