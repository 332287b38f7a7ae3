/-
  WholePaths: for every input the law returns true, and each argument reads behind the call as it read before. No conditions.
-/
import Derived.Test.YtdhgcgejdoedbaaGreatDoorRows
import Derived.Test.YtdhgcgejdoedbaaGreatDoorCards
import Derived.Test.YtdhgcgejdoedbaaGreatDoorTie
import Derived.ProofKit
import Derived.OpenShut
import Derived.LaidMore
import Derived.Lay
import Derived.SevenTiedAt
import Derived.Stop.Joined
import Derived.Test.YtdhgcgejdoedbaaGreatDoorBw9
import Derived.Test.YtdhgcgejdoedbaaGreatDoorBw24
import Derived.Test.YtdhgcgejdoedbaaGreatDoorBw38
namespace Go.Proofs.YtdhgcgejdoedbaaGreatDoor
open Go.ChangeShapes Go.WideShapes Go.ChangeAt Go.RowKit

theorem ownWholePaths : ownKnob Tryz.prog.godebug = none := by kernel_rfl
theorem laidOutWholePaths : laidOutB Tryz.prog = true := by kernel_rfl

set_option maxRecDepth 100000 in
theorem WholePaths_lifted (os : Os) (started : os.Started) (H : Type) (enc : TypeId × Value → H) :
    ReturnsInHanded {} Tryz.checked os 4 .any (fun w args => (Rows.wholePathsSpec.pre enc Tryz.prog Tryz.f4 Rows.wholePathsRow.domain false w args ∧ laidMetH Tryz.prog Rows.wholePathsRow.laid w) ∧ sizedMet enc Tryz.prog Tryz.f4 (OpenSpec.ofChange Rows.wholePathsSpec) false w args) (Rows.wholePathsSpec.post enc Tryz.prog Tryz.f4 false true false false) := by
  refine returnsInHanded_of_change_and (C := Tryz.checked) (X := fun w _ => laidMetH Tryz.prog Rows.wholePathsRow.laid w) (fun _ _ _ hh h => h.of_heap hh) ownWholePaths started (by kernel_rfl) Tryz.func4
    (ChangeSpec.witness_shaped (enc := enc) (C := Tryz.checked) (os := os) (X := fun w _ => laidMetH Tryz.prog Rows.wholePathsRow.laid w) false (World.laidAll Tryz.prog os Rows.wholePathsRow.laid) #[.agg #[.int .u8 0, .string ByteArray.empty, .slice none 0 0, .slice none 0 0, .int .i64 0], .slice none 0 0] 8 (World.laidAll_os _ _ _)
      (World.shaped_of_ZipB (by kernel_rfl) (by kernel_rfl)) (by kernel_rfl) (by kernel_rfl) (by kernel_rfl)
      (by rw [MakeChecks.laidMetH_plain _ _ _ (by kernel_rfl)]; exact laidMet_laidAll _ (by kernel_rfl) (by kernel_rfl))) ?_
  intro W base args ds gs before hval0 hW hcnd _ _ _
  have hval : ∀ (j : Nat) t v, Tryz.f4.params[j]? = some t → args[j]? = some v → Value.okWide Tryz.prog W .any base t v := hval0
  have hW' := hW
  obtain ⟨p, q, hA0, hV, rfl, hfz, hnd⟩ := hW
  have hA : DataW.TrodAll enc Tryz.prog W 0 (fun _ => true) true Tryz.f4.params.toList args.toList ds p := hA0
  rw [Tryz.params4] at hA hval
  obtain ⟨v0, vs0, d0, ds0, p0, q0, hargs, rfl, rfl, h0, r0⟩ := trodAll_cons hA
  obtain ⟨v1, vs1, d1, ds1, p1, q1, rfl, rfl, rfl, h1, r1⟩ := trodAll_cons r0
  obtain ⟨rfl, rfl, rfl⟩ := trodAll_nil r1
  obtain rfl : args = #[v0, v1] := by cases args; simp_all
  obtain ⟨rfl, rfl⟩ := trodVars_none hV
  have k0 := h0
  have lt0 := trod_ltR h0
  have k1 := h1
  have lt1 := trod_ltR h1
  obtain ⟨x0d, n0c, rfl, x0⟩ := open_nodeR (hval 0 25 v0 rfl rfl) h0
  obtain ⟨l1, w1, x1⟩ := open_u8sR Tryz.underlying42 Tryz.underlying5 (by kernel_rfl) (hval 1 42 v1 rfl rfl) h1
  clear hA0 hval0
  refine (WholePaths_any x0d n0c l1 v1 W x0 w1 x1).mono fun e W' ⟨he, bel⟩ => ?_
  subst he
  exact ⟨_, rfl, _, _, _, [], _, [], hW', trodAll_mk1 (shut_bool Tryz.underlying4 _), (trodAll_cons_mk (Below.trod laidOutWholePaths (by kernel_rfl) (of_decide_eq_true (by kernel_rfl)) k0 bel lt0) (trodAll_cons_mk (Below.trod laidOutWholePaths (by kernel_rfl) (of_decide_eq_true (by kernel_rfl)) k1 bel lt1) trodAll_mk0)), rfl, bel.frame _, fun h => by cases h⟩

/-- The row's statement. -/
theorem WholePaths_row : Rows.WholePathsSaid :=
  OpenClaim.holds_of_wide 4 Tryz.f4 rfl rfl rfl rfl rfl rfl rfl ⟨rfl, rfl, rfl, rfl, rfl⟩ rfl rfl rfl rfl rfl (by kernel_rfl) Tryz.func4 (by kernel_rfl)
    (of_decide_eq_true (by kernel_rfl)) (by unfold Func.isWrapper; first | (rw [if_pos (by decide +kernel)]; kernel_rfl) | (rw [if_neg (by decide +kernel)]; exact ⟨rfl, rfl⟩))
    (fun os started H enc _ => WholePaths_lifted os started H enc)
/-- The statement: the tied card. -/
theorem WholePaths_holds : Rows.WholePathsCardSaid :=
  Claim7.holds_tied_plain_at .later [] [.data, .pinned] true (true, "8dd755de22251c40afc8660f2538062d732a9c621a24cae3a3f362d3223697d8") true WholePaths_row (fun _ h => by cases h) (by kernel_rfl) (fun _ h => by cases h) wholePaths_row_tie rfl ⟨rfl, rfl⟩ (by kernel_rfl) rfl
    (fun f fn hf hfn => by
      obtain rfl : f = 4 := Option.some.inj ((show Tryz.prog.funcNamed "rescript/rescripttop.WholePaths" = some 4 by kernel_rfl).symm.trans hf) |>.symm
      obtain rfl : fn = Tryz.f4 := (Option.some.inj (Tryz.func4.symm.trans hfn)).symm
      exact ⟨by kernel_rfl, fun j t ht => by
        rw [Tryz.params4] at ht
        have hm : t ∈ [25, 42] := by simpa using Array.mem_of_getElem? ht
        have hall : ([25, 42].all fun u => !Tryz.prog.wantsStandIn u) = true := by kernel_rfl
        exact (show Tryz.prog.wantsStandIn t = false by simpa using List.all_eq_true.1 hall t hm)⟩)
    (by kernel_rfl)
end Go.Proofs.YtdhgcgejdoedbaaGreatDoor
