/-
  TagFixed: for every input the law returns true, and each argument reads behind the call as it read before. No conditions.
-/
import Derived.Test.YtigeedaihbpjiaaRows
import Derived.Test.YtigeedaihbpjiaaOp
import Derived.Test.YtigeedaihbpjiaaTj
namespace Go.Proofs.Ytigeedaihbpjiaa
open Go.ChangeShapes Go.WideShapes Go.ChangeAt Go.RowKit

theorem ownTagFixed : ownKnob Try.prog.godebug = none := by kernel_rfl
theorem laidOutTagFixed : laidOutB Try.prog = true := by kernel_rfl

set_option maxRecDepth 100000 in
theorem TagFixed_lifted (os : Os) (started : os.Started) (H : Type) (enc : TypeId × Value → H) :
    ReturnsInHanded {} Try.checked os 4 .any (Rows.tagFixedSpec.pre6 enc Try.prog Try.f4 Rows.tagFixedRow.domain false) (Rows.tagFixedSpec.post enc Try.prog Try.f4 false true false false) := by
  refine returnsInHanded_of_change (C := Try.checked) ownTagFixed started (by kernel_rfl) Try.func4
    (ChangeSpec.witness6 (enc := enc) (C := Try.checked) false ⟨#[], #[.int .u32 0, .int .u64 0, .slice none 0 0, .int .u8 0], []⟩ 8 (by kernel_rfl) (by kernel_rfl) (by kernel_rfl) (by kernel_rfl)) ?_
  intro W base args ds gs before hval0 hW hcnd _
  have hval : ∀ (j : Nat) t v, Try.f4.params[j]? = some t → args[j]? = some v → Value.okWide Try.prog W .any base t v := hval0
  have hW' := hW
  obtain ⟨p, q, hA0, hV, rfl, hfz, hnd⟩ := hW
  have hA : DataW.TrodAll enc Try.prog W 0 (fun _ => true) true Try.f4.params.toList args.toList ds p := hA0
  rw [Try.params4] at hA hval
  obtain ⟨v0, vs0, d0, ds0, p0, q0, hargs, rfl, rfl, h0, r0⟩ := trodAll_cons hA
  obtain ⟨v1, vs1, d1, ds1, p1, q1, rfl, rfl, rfl, h1, r1⟩ := trodAll_cons r0
  obtain ⟨v2, vs2, d2, ds2, p2, q2, rfl, rfl, rfl, h2, r2⟩ := trodAll_cons r1
  obtain ⟨v3, vs3, d3, ds3, p3, q3, rfl, rfl, rfl, h3, r3⟩ := trodAll_cons r2
  obtain ⟨rfl, rfl, rfl⟩ := trodAll_nil r3
  obtain rfl : args = #[v0, v1, v2, v3] := by cases args; simp_all
  obtain ⟨rfl, rfl⟩ := trodVars_none hV
  have k0 := h0
  have lt0 := trod_ltR h0
  have k1 := h1
  have lt1 := trod_ltR h1
  have k2 := h2
  have lt2 := trod_ltR h2
  have k3 := h3
  have lt3 := trod_ltR h3
  obtain ⟨a0, rfl, _, _, w0⟩ := open_int Try.underlying40 (hval 0 40 v0 rfl rfl) h0
  obtain ⟨b0, rfl⟩ : ∃ b : Nat, a0 = (b : Int) := ⟨a0.toNat, by have := wf_u32 w0; omega⟩
  obtain ⟨a1, rfl, _, _, w1⟩ := open_int Try.underlying28 (hval 1 28 v1 rfl rfl) h1
  obtain ⟨b1, rfl⟩ : ∃ b : Nat, a1 = (b : Int) := ⟨a1.toNat, by have := wf_u64 w1; omega⟩
  obtain ⟨l2, w2, x2⟩ := open_u8sR Try.underlying24 Try.underlying5 (by kernel_rfl) (hval 2 24 v2 rfl rfl) h2
  obtain ⟨a3, rfl, _, _, w3⟩ := open_int Try.underlying5 (hval 3 5 v3 rfl rfl) h3
  obtain ⟨b3, rfl⟩ : ∃ b : Nat, a3 = (b : Int) := ⟨a3.toNat, by have := wf_u8 w3; omega⟩
  clear hA0 hval0
  refine (TagFixed_any b0 b1 l2 v2 b3 W (by have := wf_u32 w0; omega) (by have := wf_u64 w1; omega) w2 x2 (by have := wf_u8 w3; omega)).mono fun e W' ⟨he, bel⟩ => ?_
  subst he
  exact ⟨_, rfl, _, _, _, [], _, [], hW', trodAll_mk1 (shut_bool Try.underlying4 _), (trodAll_cons_mk (Below.trod laidOutTagFixed (by kernel_rfl) (of_decide_eq_true (by kernel_rfl)) k0 bel lt0) (trodAll_cons_mk (Below.trod laidOutTagFixed (by kernel_rfl) (of_decide_eq_true (by kernel_rfl)) k1 bel lt1) (trodAll_cons_mk (Below.trod laidOutTagFixed (by kernel_rfl) (of_decide_eq_true (by kernel_rfl)) k2 bel lt2) (trodAll_cons_mk (Below.trod laidOutTagFixed (by kernel_rfl) (of_decide_eq_true (by kernel_rfl)) k3 bel lt3) trodAll_mk0)))), rfl, bel.frame _, fun h => by cases h⟩

/-- The statement. -/
theorem TagFixed_holds : Rows.TagFixedSaid :=
  OpenClaim.holds_of_wide 4 Try.f4 rfl rfl rfl rfl rfl rfl rfl ⟨rfl, rfl, rfl, rfl, rfl⟩ rfl rfl rfl rfl rfl (by kernel_rfl) Try.func4 (by kernel_rfl)
    (of_decide_eq_true (by kernel_rfl)) (by unfold Func.isWrapper; first | (rw [if_pos (by decide +kernel)]; kernel_rfl) | (rw [if_neg (by decide +kernel)]; exact ⟨rfl, rfl⟩))
    (fun os started H enc _ => TagFixed_lifted os started H enc)
end Go.Proofs.Ytigeedaihbpjiaa
