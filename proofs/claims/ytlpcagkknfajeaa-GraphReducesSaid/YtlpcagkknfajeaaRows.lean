/-
  NARROWER THAN 'FOR EVERY INPUT', by the rows' own cells (each row's printed sentence says how): StepEnds: loops.
  DERIVED. THE GIVEN ROWS OF THIS SEAT. 3 by the template 'for every input the law returns true; each argument reads behind the call as it read before'; 0 by the template 'total and deterministic' (their statements: YtlpcagkknfajeaaTotals.lean).
  GIVEN WITH THE SEED: the statements are not yours to turn. If you find one false, say at which input.
  Laid BY PROGRAM, IN A SANDBOX (cutbox-rows.mjs): the forced cells as the released guide's own fill.sh prints them over the translation 1abed2f5b637d17a… (all of the seat's roots in one cut). By AI agents, Wed Nov 11 2026. No macro, syntax, notation, axiom, sorry.
-/
import Derived.Test.YtlpcagkknfajeaaChecked
import GoSem.Claim
import GoSem.ClaimJoined
import GoSem.ClaimMapViews
import Derived.JoinedTies
import Derived.KernelRfl
namespace Go.Proofs.Ytlpcagkknfajeaa
/- THE CELL 'sum', in the pinned program and in every row, IS THE sha256 OF THE DUMP (.gsa) THAT YtlpcagkknfajeaaProg.lean LOADS. Nothing in Lean hashes anything: it is a label: what it is worth is what the hold of that sum in a sandbox is worth. -/
noncomputable def Try.pinned : Pinned := { name := "ytlpcagkknfajeaa", sum := "1abed2f5b637d17a2582487331b4fba15db258d226957ab71aaf133c1997a6e1", checked := Try.checked }
namespace Rows
def none {H : Type} : Left H := { results := [], args := [] }

/-- 'rescriptlaw31.StepEnds': WHATEVER THE INPUT: true; the input reads as it did. -/
def stepEndsSpec : ChangeSpec := { name := "stepEnds", fn := fun _ => fun
  | [d1, d2, d3] => { results := [.lit (.bool true)], args := [d1, d2, d3] }
  | _ => none }
def stepEndsRow : OpenClaim := { program := "ytlpcagkknfajeaa", sum := "1abed2f5b637d17a2582487331b4fba15db258d226957ab71aaf133c1997a6e1", func := "rescript/rescriptlaw31.StepEnds", spec := "stepEnds", unfollowed := true, recurses := true, loops := true, apart := false }
def StepEndsSaid : Prop := stepEndsRow.holds Try.pinned (OpenSpec.ofChange stepEndsSpec)

/-- ITS FALSE NEIGHBOUR: 'it returns false'. Refute it at one input. -/
def stepEndsWrong : ChangeSpec := { name := "stepEnds", fn := fun _ => fun
  | [d1, d2, d3] => { results := [.lit (.bool false)], args := [d1, d2, d3] }
  | _ => none }
def StepEndsWrongFalsely : Prop := stepEndsRow.holds Try.pinned (OpenSpec.ofChange stepEndsWrong)

/-- 'rescriptlaw26.GraphWaves': WHATEVER THE INPUT: true; the input reads as it did. -/
def graphWavesSpec : ChangeSpec := { name := "graphWaves", fn := fun _ => fun
  | [d] => { results := [.lit (.bool true)], args := [d] }
  | _ => none }
def graphWavesRow : OpenClaim := { program := "ytlpcagkknfajeaa", sum := "1abed2f5b637d17a2582487331b4fba15db258d226957ab71aaf133c1997a6e1", func := "rescript/rescriptlaw26.GraphWaves", spec := "graphWaves", unfollowed := true, recurses := true, apart := false }
def GraphWavesSaid : Prop := graphWavesRow.holds Try.pinned (OpenSpec.ofChange graphWavesSpec)

/-- ITS FALSE NEIGHBOUR: 'it returns false'. Refute it at one input. -/
def graphWavesWrong : ChangeSpec := { name := "graphWaves", fn := fun _ => fun
  | [d] => { results := [.lit (.bool false)], args := [d] }
  | _ => none }
def GraphWavesWrongFalsely : Prop := graphWavesRow.holds Try.pinned (OpenSpec.ofChange graphWavesWrong)

/-- 'rescriptlaw26.GraphReduces': WHATEVER THE INPUT: true; the input reads as it did. -/
def graphReducesSpec : ChangeSpec := { name := "graphReduces", fn := fun _ => fun
  | [d] => { results := [.lit (.bool true)], args := [d] }
  | _ => none }
def graphReducesRow : OpenClaim := { program := "ytlpcagkknfajeaa", sum := "1abed2f5b637d17a2582487331b4fba15db258d226957ab71aaf133c1997a6e1", func := "rescript/rescriptlaw26.GraphReduces", spec := "graphReduces", unfollowed := true, recurses := true, apart := false }
def GraphReducesSaid : Prop := graphReducesRow.holds Try.pinned (OpenSpec.ofChange graphReducesSpec)

/-- ITS FALSE NEIGHBOUR: 'it returns false'. Refute it at one input. -/
def graphReducesWrong : ChangeSpec := { name := "graphReduces", fn := fun _ => fun
  | [d] => { results := [.lit (.bool false)], args := [d] }
  | _ => none }
def GraphReducesWrongFalsely : Prop := graphReducesRow.holds Try.pinned (OpenSpec.ofChange graphReducesWrong)

/- THE SECOND FORM. 'bulk': how many values and letters a reading holds, each counted each time it is reached (what is shared counts as often as it is met; a slice's spare places count too). A statement '..UptoSaid' is the law's where the arguments, and the package variables that the reading takes, are together of bulk at most 1048576: NARROWER than '..Said'. Prove '..Said' where nothing that the law and all that it calls make is longer than what came in: it says more and counts as full. Else prove '..UptoSaid'. A law counts once. -/
mutual
def uptoBulk {H : Type} : DataW H → Nat
  | .lit (.string bytes) => bytes.length + 1
  | .lit _ => 1
  | .nil => 1
  | .ptr d => uptoBulk d + 1
  | .slice elems spare => uptoBulkAll elems + uptoBulkAll spare + 1
  | .agg parts => uptoBulkAll parts + 1
  | .iface _ d => uptoBulk d + 1
  | .map entries => uptoBulkEntries entries + 1
  | .held _ => 1
def uptoBulkAll {H : Type} : List (DataW H) → Nat
  | [] => 0
  | d :: r => uptoBulk d + uptoBulkAll r
def uptoBulkEntries {H : Type} : List (Lit × DataW H) → Nat
  | [] => 0
  | x :: r => uptoBulkEntry x + uptoBulkEntries r
def uptoBulkEntry {H : Type} : Lit × DataW H → Nat
  | (.string bytes, d) => bytes.length + uptoBulk d + 1
  | (_, d) => uptoBulk d + 1
 end
def uptoSmall : (H : Type) → List (DataW H) → Bool := fun _ ds => decide (uptoBulkAll ds ≤ 1048576)
def OpenSpec.upto (s : _root_.Go.ChangeSpec) : _root_.Go.OpenSpec := { _root_.Go.OpenSpec.ofChange s with cond := some uptoSmall }

/-- 'rescriptlaw31.StepEnds', WHERE WHAT IT READS IS OF BULK AT MOST 1048576: true; the input reads as it did. -/
def stepEndsUptoRow : OpenClaim := { program := "ytlpcagkknfajeaa", sum := "1abed2f5b637d17a2582487331b4fba15db258d226957ab71aaf133c1997a6e1", func := "rescript/rescriptlaw31.StepEnds", spec := "stepEnds", unfollowed := true, recurses := true, loops := true, apart := false, narrowed := true }
def StepEndsUptoSaid : Prop := stepEndsUptoRow.holds Try.pinned (OpenSpec.upto stepEndsSpec)

/-- 'rescriptlaw26.GraphWaves', WHERE WHAT IT READS IS OF BULK AT MOST 1048576: true; the input reads as it did. -/
def graphWavesUptoRow : OpenClaim := { program := "ytlpcagkknfajeaa", sum := "1abed2f5b637d17a2582487331b4fba15db258d226957ab71aaf133c1997a6e1", func := "rescript/rescriptlaw26.GraphWaves", spec := "graphWaves", unfollowed := true, recurses := true, apart := false, narrowed := true }
def GraphWavesUptoSaid : Prop := graphWavesUptoRow.holds Try.pinned (OpenSpec.upto graphWavesSpec)

/-- 'rescriptlaw26.GraphReduces', WHERE WHAT IT READS IS OF BULK AT MOST 1048576: true; the input reads as it did. -/
def graphReducesUptoRow : OpenClaim := { program := "ytlpcagkknfajeaa", sum := "1abed2f5b637d17a2582487331b4fba15db258d226957ab71aaf133c1997a6e1", func := "rescript/rescriptlaw26.GraphReduces", spec := "graphReduces", unfollowed := true, recurses := true, apart := false, narrowed := true }
def GraphReducesUptoSaid : Prop := graphReducesUptoRow.holds Try.pinned (OpenSpec.upto graphReducesSpec)

end Rows
end Go.Proofs.Ytlpcagkknfajeaa
