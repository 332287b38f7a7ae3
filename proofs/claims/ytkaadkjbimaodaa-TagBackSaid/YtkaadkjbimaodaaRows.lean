/-
  NARROWER THAN 'FOR EVERY INPUT', by the rows' own cells (each row's printed sentence says how): BackoffSpans: loops · BackoffPlans: loops.
  DERIVED. THE GIVEN ROWS OF THIS SEAT. 12 by the template 'for every input the law returns true; each argument reads behind the call as it read before'; 0 by the template 'total and deterministic' (their statements: YtkaadkjbimaodaaTotals.lean).
  GIVEN WITH THE SEED: the statements are not yours to turn. If you find one false, say at which input.
  Laid BY PROGRAM, IN A SANDBOX (cutbox-rows.mjs): the forced cells as the released guide's own fill.sh prints them over the translation 3b6ef4cf1431d170… (all of the seat's roots in one cut). By AI agents, Wed Nov 11 2026. No macro, syntax, notation, axiom, sorry.
-/
import Derived.Test.YtkaadkjbimaodaaChecked
import GoSem.Claim
import GoSem.ClaimJoined
import GoSem.ClaimMapViews
import Derived.JoinedTies
import Derived.KernelRfl
namespace Go.Proofs.Ytkaadkjbimaodaa
/- THE CELL 'sum', in the pinned program and in every row, IS THE sha256 OF THE DUMP (.gsa) THAT YtkaadkjbimaodaaProg.lean LOADS. Nothing in Lean hashes anything: it is a label: what it is worth is what the hold of that sum in a sandbox is worth. -/
noncomputable def Try.pinned : Pinned := { name := "ytkaadkjbimaodaa", sum := "3b6ef4cf1431d1704bf634ab99053ee571e33def8632c352af395fa8e7606899", checked := Try.checked }
namespace Rows
def none {H : Type} : Left H := { results := [], args := [] }

/-- 'rescriptlaw29.BackoffWaits': WHATEVER THE INPUT: true; the input reads as it did. -/
def backoffWaitsSpec : ChangeSpec := { name := "backoffWaits", fn := fun _ => fun
  | [d1, d2] => { results := [.lit (.bool true)], args := [d1, d2] }
  | _ => none }
def backoffWaitsRow : OpenClaim := { program := "ytkaadkjbimaodaa", sum := "3b6ef4cf1431d1704bf634ab99053ee571e33def8632c352af395fa8e7606899", func := "rescript/rescriptlaw29.BackoffWaits", spec := "backoffWaits", unfollowed := true, recurses := true, apart := false }
def BackoffWaitsSaid : Prop := backoffWaitsRow.holds Try.pinned (OpenSpec.ofChange backoffWaitsSpec)

/-- ITS FALSE NEIGHBOUR: 'it returns false'. Refute it at one input. -/
def backoffWaitsWrong : ChangeSpec := { name := "backoffWaits", fn := fun _ => fun
  | [d1, d2] => { results := [.lit (.bool false)], args := [d1, d2] }
  | _ => none }
def BackoffWaitsWrongFalsely : Prop := backoffWaitsRow.holds Try.pinned (OpenSpec.ofChange backoffWaitsWrong)

/-- 'rescriptlaw29.BackoffSpans': WHATEVER THE INPUT: true; the input reads as it did. -/
def backoffSpansSpec : ChangeSpec := { name := "backoffSpans", fn := fun _ => fun
  | [d] => { results := [.lit (.bool true)], args := [d] }
  | _ => none }
def backoffSpansRow : OpenClaim := { program := "ytkaadkjbimaodaa", sum := "3b6ef4cf1431d1704bf634ab99053ee571e33def8632c352af395fa8e7606899", func := "rescript/rescriptlaw29.BackoffSpans", spec := "backoffSpans", unfollowed := true, recurses := true, loops := true, apart := false }
def BackoffSpansSaid : Prop := backoffSpansRow.holds Try.pinned (OpenSpec.ofChange backoffSpansSpec)

/-- ITS FALSE NEIGHBOUR: 'it returns false'. Refute it at one input. -/
def backoffSpansWrong : ChangeSpec := { name := "backoffSpans", fn := fun _ => fun
  | [d] => { results := [.lit (.bool false)], args := [d] }
  | _ => none }
def BackoffSpansWrongFalsely : Prop := backoffSpansRow.holds Try.pinned (OpenSpec.ofChange backoffSpansWrong)

/-- 'rescriptlaw29.BackoffGrows': WHATEVER THE INPUT: true; the input reads as it did. -/
def backoffGrowsSpec : ChangeSpec := { name := "backoffGrows", fn := fun _ => fun
  | [d1, d2, d3] => { results := [.lit (.bool true)], args := [d1, d2, d3] }
  | _ => none }
def backoffGrowsRow : OpenClaim := { program := "ytkaadkjbimaodaa", sum := "3b6ef4cf1431d1704bf634ab99053ee571e33def8632c352af395fa8e7606899", func := "rescript/rescriptlaw29.BackoffGrows", spec := "backoffGrows", unfollowed := true, recurses := true, apart := false }
def BackoffGrowsSaid : Prop := backoffGrowsRow.holds Try.pinned (OpenSpec.ofChange backoffGrowsSpec)

/-- ITS FALSE NEIGHBOUR: 'it returns false'. Refute it at one input. -/
def backoffGrowsWrong : ChangeSpec := { name := "backoffGrows", fn := fun _ => fun
  | [d1, d2, d3] => { results := [.lit (.bool false)], args := [d1, d2, d3] }
  | _ => none }
def BackoffGrowsWrongFalsely : Prop := backoffGrowsRow.holds Try.pinned (OpenSpec.ofChange backoffGrowsWrong)

/-- 'rescriptlaw01.VarintWrites': WHATEVER THE INPUT: true; the input reads as it did. -/
def varintWritesSpec : ChangeSpec := { name := "varintWrites", fn := fun _ => fun
  | [d] => { results := [.lit (.bool true)], args := [d] }
  | _ => none }
def varintWritesRow : OpenClaim := { program := "ytkaadkjbimaodaa", sum := "3b6ef4cf1431d1704bf634ab99053ee571e33def8632c352af395fa8e7606899", func := "rescript/rescriptlaw01.VarintWrites", spec := "varintWrites", unfollowed := true, recurses := true, apart := false }
def VarintWritesSaid : Prop := varintWritesRow.holds Try.pinned (OpenSpec.ofChange varintWritesSpec)

/-- ITS FALSE NEIGHBOUR: 'it returns false'. Refute it at one input. -/
def varintWritesWrong : ChangeSpec := { name := "varintWrites", fn := fun _ => fun
  | [d] => { results := [.lit (.bool false)], args := [d] }
  | _ => none }
def VarintWritesWrongFalsely : Prop := varintWritesRow.holds Try.pinned (OpenSpec.ofChange varintWritesWrong)

/-- 'rescriptlaw01.VarintReads': WHATEVER THE INPUT: true; the input reads as it did. -/
def varintReadsSpec : ChangeSpec := { name := "varintReads", fn := fun _ => fun
  | [d] => { results := [.lit (.bool true)], args := [d] }
  | _ => none }
def varintReadsRow : OpenClaim := { program := "ytkaadkjbimaodaa", sum := "3b6ef4cf1431d1704bf634ab99053ee571e33def8632c352af395fa8e7606899", func := "rescript/rescriptlaw01.VarintReads", spec := "varintReads", unfollowed := true, recurses := true, apart := false }
def VarintReadsSaid : Prop := varintReadsRow.holds Try.pinned (OpenSpec.ofChange varintReadsSpec)

/-- ITS FALSE NEIGHBOUR: 'it returns false'. Refute it at one input. -/
def varintReadsWrong : ChangeSpec := { name := "varintReads", fn := fun _ => fun
  | [d] => { results := [.lit (.bool false)], args := [d] }
  | _ => none }
def VarintReadsWrongFalsely : Prop := varintReadsRow.holds Try.pinned (OpenSpec.ofChange varintReadsWrong)

/-- 'rescriptlaw01.VarintBack': WHATEVER THE INPUT: true; the input reads as it did. -/
def varintBackSpec : ChangeSpec := { name := "varintBack", fn := fun _ => fun
  | [d1, d2, d3, d4] => { results := [.lit (.bool true)], args := [d1, d2, d3, d4] }
  | _ => none }
def varintBackRow : OpenClaim := { program := "ytkaadkjbimaodaa", sum := "3b6ef4cf1431d1704bf634ab99053ee571e33def8632c352af395fa8e7606899", func := "rescript/rescriptlaw01.VarintBack", spec := "varintBack", unfollowed := true, recurses := true, apart := false }
def VarintBackSaid : Prop := varintBackRow.holds Try.pinned (OpenSpec.ofChange varintBackSpec)

/-- ITS FALSE NEIGHBOUR: 'it returns false'. Refute it at one input. -/
def varintBackWrong : ChangeSpec := { name := "varintBack", fn := fun _ => fun
  | [d1, d2, d3, d4] => { results := [.lit (.bool false)], args := [d1, d2, d3, d4] }
  | _ => none }
def VarintBackWrongFalsely : Prop := varintBackRow.holds Try.pinned (OpenSpec.ofChange varintBackWrong)

/-- 'rescriptlaw01.VarintZigs': WHATEVER THE INPUT: true; the input reads as it did. -/
def varintZigsSpec : ChangeSpec := { name := "varintZigs", fn := fun _ => fun
  | [d1, d2] => { results := [.lit (.bool true)], args := [d1, d2] }
  | _ => none }
def varintZigsRow : OpenClaim := { program := "ytkaadkjbimaodaa", sum := "3b6ef4cf1431d1704bf634ab99053ee571e33def8632c352af395fa8e7606899", func := "rescript/rescriptlaw01.VarintZigs", spec := "varintZigs", unfollowed := true, recurses := true, apart := false }
def VarintZigsSaid : Prop := varintZigsRow.holds Try.pinned (OpenSpec.ofChange varintZigsSpec)

/-- ITS FALSE NEIGHBOUR: 'it returns false'. Refute it at one input. -/
def varintZigsWrong : ChangeSpec := { name := "varintZigs", fn := fun _ => fun
  | [d1, d2] => { results := [.lit (.bool false)], args := [d1, d2] }
  | _ => none }
def VarintZigsWrongFalsely : Prop := varintZigsRow.holds Try.pinned (OpenSpec.ofChange varintZigsWrong)

/-- 'rescriptlaw01.VarintAll': WHATEVER THE INPUT: true; the input reads as it did. -/
def varintAllSpec : ChangeSpec := { name := "varintAll", fn := fun _ => fun
  | [d1, d2] => { results := [.lit (.bool true)], args := [d1, d2] }
  | _ => none }
def varintAllRow : OpenClaim := { program := "ytkaadkjbimaodaa", sum := "3b6ef4cf1431d1704bf634ab99053ee571e33def8632c352af395fa8e7606899", func := "rescript/rescriptlaw01.VarintAll", spec := "varintAll", unfollowed := true, recurses := true, apart := false }
def VarintAllSaid : Prop := varintAllRow.holds Try.pinned (OpenSpec.ofChange varintAllSpec)

/-- ITS FALSE NEIGHBOUR: 'it returns false'. Refute it at one input. -/
def varintAllWrong : ChangeSpec := { name := "varintAll", fn := fun _ => fun
  | [d1, d2] => { results := [.lit (.bool false)], args := [d1, d2] }
  | _ => none }
def VarintAllWrongFalsely : Prop := varintAllRow.holds Try.pinned (OpenSpec.ofChange varintAllWrong)

/-- 'rescriptlaw29.BackoffPlans': WHATEVER THE INPUT: true; the input reads as it did. -/
def backoffPlansSpec : ChangeSpec := { name := "backoffPlans", fn := fun _ => fun
  | [d1, d2] => { results := [.lit (.bool true)], args := [d1, d2] }
  | _ => none }
def backoffPlansRow : OpenClaim := { program := "ytkaadkjbimaodaa", sum := "3b6ef4cf1431d1704bf634ab99053ee571e33def8632c352af395fa8e7606899", func := "rescript/rescriptlaw29.BackoffPlans", spec := "backoffPlans", unfollowed := true, recurses := true, loops := true, apart := false }
def BackoffPlansSaid : Prop := backoffPlansRow.holds Try.pinned (OpenSpec.ofChange backoffPlansSpec)

/-- ITS FALSE NEIGHBOUR: 'it returns false'. Refute it at one input. -/
def backoffPlansWrong : ChangeSpec := { name := "backoffPlans", fn := fun _ => fun
  | [d1, d2] => { results := [.lit (.bool false)], args := [d1, d2] }
  | _ => none }
def BackoffPlansWrongFalsely : Prop := backoffPlansRow.holds Try.pinned (OpenSpec.ofChange backoffPlansWrong)

/-- 'rescriptlaw02.TagMakes': WHATEVER THE INPUT: true; the input reads as it did. -/
def tagMakesSpec : ChangeSpec := { name := "tagMakes", fn := fun _ => fun
  | [d1, d2] => { results := [.lit (.bool true)], args := [d1, d2] }
  | _ => none }
def tagMakesRow : OpenClaim := { program := "ytkaadkjbimaodaa", sum := "3b6ef4cf1431d1704bf634ab99053ee571e33def8632c352af395fa8e7606899", func := "rescript/rescriptlaw02.TagMakes", spec := "tagMakes", unfollowed := true, recurses := true, apart := false }
def TagMakesSaid : Prop := tagMakesRow.holds Try.pinned (OpenSpec.ofChange tagMakesSpec)

/-- ITS FALSE NEIGHBOUR: 'it returns false'. Refute it at one input. -/
def tagMakesWrong : ChangeSpec := { name := "tagMakes", fn := fun _ => fun
  | [d1, d2] => { results := [.lit (.bool false)], args := [d1, d2] }
  | _ => none }
def TagMakesWrongFalsely : Prop := tagMakesRow.holds Try.pinned (OpenSpec.ofChange tagMakesWrong)

/-- 'rescriptlaw02.TagSplits': WHATEVER THE INPUT: true; the input reads as it did. -/
def tagSplitsSpec : ChangeSpec := { name := "tagSplits", fn := fun _ => fun
  | [d] => { results := [.lit (.bool true)], args := [d] }
  | _ => none }
def tagSplitsRow : OpenClaim := { program := "ytkaadkjbimaodaa", sum := "3b6ef4cf1431d1704bf634ab99053ee571e33def8632c352af395fa8e7606899", func := "rescript/rescriptlaw02.TagSplits", spec := "tagSplits", unfollowed := true, recurses := true, apart := false }
def TagSplitsSaid : Prop := tagSplitsRow.holds Try.pinned (OpenSpec.ofChange tagSplitsSpec)

/-- ITS FALSE NEIGHBOUR: 'it returns false'. Refute it at one input. -/
def tagSplitsWrong : ChangeSpec := { name := "tagSplits", fn := fun _ => fun
  | [d] => { results := [.lit (.bool false)], args := [d] }
  | _ => none }
def TagSplitsWrongFalsely : Prop := tagSplitsRow.holds Try.pinned (OpenSpec.ofChange tagSplitsWrong)

/-- 'rescriptlaw02.TagBack': WHATEVER THE INPUT: true; the input reads as it did. -/
def tagBackSpec : ChangeSpec := { name := "tagBack", fn := fun _ => fun
  | [d1, d2, d3] => { results := [.lit (.bool true)], args := [d1, d2, d3] }
  | _ => none }
def tagBackRow : OpenClaim := { program := "ytkaadkjbimaodaa", sum := "3b6ef4cf1431d1704bf634ab99053ee571e33def8632c352af395fa8e7606899", func := "rescript/rescriptlaw02.TagBack", spec := "tagBack", unfollowed := true, recurses := true, apart := false }
def TagBackSaid : Prop := tagBackRow.holds Try.pinned (OpenSpec.ofChange tagBackSpec)

/-- ITS FALSE NEIGHBOUR: 'it returns false'. Refute it at one input. -/
def tagBackWrong : ChangeSpec := { name := "tagBack", fn := fun _ => fun
  | [d1, d2, d3] => { results := [.lit (.bool false)], args := [d1, d2, d3] }
  | _ => none }
def TagBackWrongFalsely : Prop := tagBackRow.holds Try.pinned (OpenSpec.ofChange tagBackWrong)

/- THE SECOND FORM. 'bulk': how many values and letters a reading holds, each counted each time it is reached (what is shared counts as often as it is met; a slice's spare places count too). A statement '..UptoSaid' is the law's where the arguments, and the package variables that the reading takes, are together of bulk at most 1048576: NARROWER than '..Said'. Prove '..Said' where nothing that the law and all that it calls make is longer than what came in: it says more and counts as full. Else prove '..UptoSaid'. A law counts once. -/
mutual
def uptoBulk {H : Type} : DataW H → Nat
  | .lit (.string bytes) => bytes.length + 1
  | .lit _ => 1
  | .nil => 1
  | .ptr d => uptoBulk d + 1
  | .slice elems spare => uptoBulkAll elems + uptoBulkAll spare + 1
  | .agg parts => uptoBulkAll parts + 1
  | .iface _ d => uptoBulk d + 1
  | .map entries => uptoBulkEntries entries + 1
  | .held _ => 1
def uptoBulkAll {H : Type} : List (DataW H) → Nat
  | [] => 0
  | d :: r => uptoBulk d + uptoBulkAll r
def uptoBulkEntries {H : Type} : List (Lit × DataW H) → Nat
  | [] => 0
  | x :: r => uptoBulkEntry x + uptoBulkEntries r
def uptoBulkEntry {H : Type} : Lit × DataW H → Nat
  | (.string bytes, d) => bytes.length + uptoBulk d + 1
  | (_, d) => uptoBulk d + 1
 end
def uptoSmall : (H : Type) → List (DataW H) → Bool := fun _ ds => decide (uptoBulkAll ds ≤ 1048576)
def OpenSpec.upto (s : _root_.Go.ChangeSpec) : _root_.Go.OpenSpec := { _root_.Go.OpenSpec.ofChange s with cond := some uptoSmall }

/-- 'rescriptlaw29.BackoffWaits', WHERE WHAT IT READS IS OF BULK AT MOST 1048576: true; the input reads as it did. -/
def backoffWaitsUptoRow : OpenClaim := { program := "ytkaadkjbimaodaa", sum := "3b6ef4cf1431d1704bf634ab99053ee571e33def8632c352af395fa8e7606899", func := "rescript/rescriptlaw29.BackoffWaits", spec := "backoffWaits", unfollowed := true, recurses := true, apart := false, narrowed := true }
def BackoffWaitsUptoSaid : Prop := backoffWaitsUptoRow.holds Try.pinned (OpenSpec.upto backoffWaitsSpec)

/-- 'rescriptlaw29.BackoffSpans', WHERE WHAT IT READS IS OF BULK AT MOST 1048576: true; the input reads as it did. -/
def backoffSpansUptoRow : OpenClaim := { program := "ytkaadkjbimaodaa", sum := "3b6ef4cf1431d1704bf634ab99053ee571e33def8632c352af395fa8e7606899", func := "rescript/rescriptlaw29.BackoffSpans", spec := "backoffSpans", unfollowed := true, recurses := true, loops := true, apart := false, narrowed := true }
def BackoffSpansUptoSaid : Prop := backoffSpansUptoRow.holds Try.pinned (OpenSpec.upto backoffSpansSpec)

/-- 'rescriptlaw29.BackoffGrows', WHERE WHAT IT READS IS OF BULK AT MOST 1048576: true; the input reads as it did. -/
def backoffGrowsUptoRow : OpenClaim := { program := "ytkaadkjbimaodaa", sum := "3b6ef4cf1431d1704bf634ab99053ee571e33def8632c352af395fa8e7606899", func := "rescript/rescriptlaw29.BackoffGrows", spec := "backoffGrows", unfollowed := true, recurses := true, apart := false, narrowed := true }
def BackoffGrowsUptoSaid : Prop := backoffGrowsUptoRow.holds Try.pinned (OpenSpec.upto backoffGrowsSpec)

/-- 'rescriptlaw01.VarintWrites', WHERE WHAT IT READS IS OF BULK AT MOST 1048576: true; the input reads as it did. -/
def varintWritesUptoRow : OpenClaim := { program := "ytkaadkjbimaodaa", sum := "3b6ef4cf1431d1704bf634ab99053ee571e33def8632c352af395fa8e7606899", func := "rescript/rescriptlaw01.VarintWrites", spec := "varintWrites", unfollowed := true, recurses := true, apart := false, narrowed := true }
def VarintWritesUptoSaid : Prop := varintWritesUptoRow.holds Try.pinned (OpenSpec.upto varintWritesSpec)

/-- 'rescriptlaw01.VarintReads', WHERE WHAT IT READS IS OF BULK AT MOST 1048576: true; the input reads as it did. -/
def varintReadsUptoRow : OpenClaim := { program := "ytkaadkjbimaodaa", sum := "3b6ef4cf1431d1704bf634ab99053ee571e33def8632c352af395fa8e7606899", func := "rescript/rescriptlaw01.VarintReads", spec := "varintReads", unfollowed := true, recurses := true, apart := false, narrowed := true }
def VarintReadsUptoSaid : Prop := varintReadsUptoRow.holds Try.pinned (OpenSpec.upto varintReadsSpec)

/-- 'rescriptlaw01.VarintBack', WHERE WHAT IT READS IS OF BULK AT MOST 1048576: true; the input reads as it did. -/
def varintBackUptoRow : OpenClaim := { program := "ytkaadkjbimaodaa", sum := "3b6ef4cf1431d1704bf634ab99053ee571e33def8632c352af395fa8e7606899", func := "rescript/rescriptlaw01.VarintBack", spec := "varintBack", unfollowed := true, recurses := true, apart := false, narrowed := true }
def VarintBackUptoSaid : Prop := varintBackUptoRow.holds Try.pinned (OpenSpec.upto varintBackSpec)

/-- 'rescriptlaw01.VarintZigs', WHERE WHAT IT READS IS OF BULK AT MOST 1048576: true; the input reads as it did. -/
def varintZigsUptoRow : OpenClaim := { program := "ytkaadkjbimaodaa", sum := "3b6ef4cf1431d1704bf634ab99053ee571e33def8632c352af395fa8e7606899", func := "rescript/rescriptlaw01.VarintZigs", spec := "varintZigs", unfollowed := true, recurses := true, apart := false, narrowed := true }
def VarintZigsUptoSaid : Prop := varintZigsUptoRow.holds Try.pinned (OpenSpec.upto varintZigsSpec)

/-- 'rescriptlaw01.VarintAll', WHERE WHAT IT READS IS OF BULK AT MOST 1048576: true; the input reads as it did. -/
def varintAllUptoRow : OpenClaim := { program := "ytkaadkjbimaodaa", sum := "3b6ef4cf1431d1704bf634ab99053ee571e33def8632c352af395fa8e7606899", func := "rescript/rescriptlaw01.VarintAll", spec := "varintAll", unfollowed := true, recurses := true, apart := false, narrowed := true }
def VarintAllUptoSaid : Prop := varintAllUptoRow.holds Try.pinned (OpenSpec.upto varintAllSpec)

/-- 'rescriptlaw29.BackoffPlans', WHERE WHAT IT READS IS OF BULK AT MOST 1048576: true; the input reads as it did. -/
def backoffPlansUptoRow : OpenClaim := { program := "ytkaadkjbimaodaa", sum := "3b6ef4cf1431d1704bf634ab99053ee571e33def8632c352af395fa8e7606899", func := "rescript/rescriptlaw29.BackoffPlans", spec := "backoffPlans", unfollowed := true, recurses := true, loops := true, apart := false, narrowed := true }
def BackoffPlansUptoSaid : Prop := backoffPlansUptoRow.holds Try.pinned (OpenSpec.upto backoffPlansSpec)

/-- 'rescriptlaw02.TagMakes', WHERE WHAT IT READS IS OF BULK AT MOST 1048576: true; the input reads as it did. -/
def tagMakesUptoRow : OpenClaim := { program := "ytkaadkjbimaodaa", sum := "3b6ef4cf1431d1704bf634ab99053ee571e33def8632c352af395fa8e7606899", func := "rescript/rescriptlaw02.TagMakes", spec := "tagMakes", unfollowed := true, recurses := true, apart := false, narrowed := true }
def TagMakesUptoSaid : Prop := tagMakesUptoRow.holds Try.pinned (OpenSpec.upto tagMakesSpec)

/-- 'rescriptlaw02.TagSplits', WHERE WHAT IT READS IS OF BULK AT MOST 1048576: true; the input reads as it did. -/
def tagSplitsUptoRow : OpenClaim := { program := "ytkaadkjbimaodaa", sum := "3b6ef4cf1431d1704bf634ab99053ee571e33def8632c352af395fa8e7606899", func := "rescript/rescriptlaw02.TagSplits", spec := "tagSplits", unfollowed := true, recurses := true, apart := false, narrowed := true }
def TagSplitsUptoSaid : Prop := tagSplitsUptoRow.holds Try.pinned (OpenSpec.upto tagSplitsSpec)

/-- 'rescriptlaw02.TagBack', WHERE WHAT IT READS IS OF BULK AT MOST 1048576: true; the input reads as it did. -/
def tagBackUptoRow : OpenClaim := { program := "ytkaadkjbimaodaa", sum := "3b6ef4cf1431d1704bf634ab99053ee571e33def8632c352af395fa8e7606899", func := "rescript/rescriptlaw02.TagBack", spec := "tagBack", unfollowed := true, recurses := true, apart := false, narrowed := true }
def TagBackUptoSaid : Prop := tagBackUptoRow.holds Try.pinned (OpenSpec.upto tagBackSpec)

end Rows
end Go.Proofs.Ytkaadkjbimaodaa
