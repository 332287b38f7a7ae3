/-
  NARROWER THAN 'FOR EVERY INPUT', by the rows' own cells (each row's printed sentence says how): WholeSteps: loops · BoundsReal: loops · NamesChecks: loops · NamesRefs: loops · NamesRight: loops · WholeRenamed: loops.
  DERIVED. THE GIVEN ROWS OF THIS SEAT. 10 by the template 'for every input the law returns true; each argument reads behind the call as it read before'; 0 by the template 'total and deterministic' (their statements: YtbnggfhofdpdcaaTotals.lean).
  GIVEN WITH THE SEED: the statements are not yours to turn. If you find one false, say at which input.
  Laid BY PROGRAM, IN A SANDBOX (cutbox-rows.mjs): the forced cells as the released guide's own fill.sh prints them over the translation 506e53dd675fb56b… (all of the seat's roots in one cut). By AI agents, Wed Nov 11 2026. No macro, syntax, notation, axiom, sorry.
-/
import Derived.Test.YtbnggfhofdpdcaaChecked
import GoSem.Claim
import GoSem.ClaimJoined
import GoSem.ClaimMapViews
import Derived.JoinedTies
import Derived.KernelRfl
namespace Go.Proofs.Ytbnggfhofdpdcaa
/- THE CELL 'sum', in the pinned program and in every row, IS THE sha256 OF THE DUMP (.gsa) THAT YtbnggfhofdpdcaaProg.lean LOADS. Nothing in Lean hashes anything: it is a label: what it is worth is what the hold of that sum in a sandbox is worth. -/
noncomputable def Try.pinned : Pinned := { name := "ytbnggfhofdpdcaa", sum := "506e53dd675fb56bfbe3b45e6ad19cc17c2b54aade1f1918f2bd66c77d354092", checked := Try.checked }
namespace Rows
def none {H : Type} : Left H := { results := [], args := [] }

/-- 'rescripttop.WholeSteps': WHATEVER THE INPUT: true; the input reads as it did. -/
def wholeStepsSpec : ChangeSpec := { name := "wholeSteps", fn := fun _ => fun
  | [d1, d2] => { results := [.lit (.bool true)], args := [d1, d2] }
  | _ => none }
def wholeStepsRow : OpenClaim := { program := "ytbnggfhofdpdcaa", sum := "506e53dd675fb56bfbe3b45e6ad19cc17c2b54aade1f1918f2bd66c77d354092", func := "rescript/rescripttop.WholeSteps", spec := "wholeSteps", unfollowed := true, recurses := true, loops := true, plainKeys := false, apart := false }
def WholeStepsSaid : Prop := wholeStepsRow.holds Try.pinned (OpenSpec.ofChange wholeStepsSpec)

/-- ITS FALSE NEIGHBOUR: 'it returns false'. Refute it at one input. -/
def wholeStepsWrong : ChangeSpec := { name := "wholeSteps", fn := fun _ => fun
  | [d1, d2] => { results := [.lit (.bool false)], args := [d1, d2] }
  | _ => none }
def WholeStepsWrongFalsely : Prop := wholeStepsRow.holds Try.pinned (OpenSpec.ofChange wholeStepsWrong)

/-- 'rescriptlaw27.BoundsReal': WHATEVER THE INPUT: true; the input reads as it did. -/
def boundsRealSpec : ChangeSpec := { name := "boundsReal", fn := fun _ => fun
  | [d] => { results := [.lit (.bool true)], args := [d] }
  | _ => none }
def boundsRealRow : OpenClaim := { program := "ytbnggfhofdpdcaa", sum := "506e53dd675fb56bfbe3b45e6ad19cc17c2b54aade1f1918f2bd66c77d354092", func := "rescript/rescriptlaw27.BoundsReal", spec := "boundsReal", inPlace := ["internal/bytealg.abigen_runtime_cmpstring"], unfollowed := true, recurses := true, loops := true, plainKeys := false, apart := false }
def BoundsRealSaid : Prop := boundsRealRow.holds Try.pinned (OpenSpec.ofChange boundsRealSpec)

/-- ITS FALSE NEIGHBOUR: 'it returns false'. Refute it at one input. -/
def boundsRealWrong : ChangeSpec := { name := "boundsReal", fn := fun _ => fun
  | [d] => { results := [.lit (.bool false)], args := [d] }
  | _ => none }
def BoundsRealWrongFalsely : Prop := boundsRealRow.holds Try.pinned (OpenSpec.ofChange boundsRealWrong)

/-- 'rescriptlaw25.NamesChecks': WHATEVER THE INPUT: true; the input reads as it did. -/
def namesChecksSpec : ChangeSpec := { name := "namesChecks", fn := fun _ => fun
  | [d1, d2] => { results := [.lit (.bool true)], args := [d1, d2] }
  | _ => none }
def namesChecksRow : OpenClaim := { program := "ytbnggfhofdpdcaa", sum := "506e53dd675fb56bfbe3b45e6ad19cc17c2b54aade1f1918f2bd66c77d354092", func := "rescript/rescriptlaw25.NamesChecks", spec := "namesChecks", inPlace := ["internal/bytealg.IndexByteString", "internal/bytealg.abigen_runtime_cmpstring"], unfollowed := true, recurses := true, loops := true, plainKeys := false, apart := false }
def NamesChecksSaid : Prop := namesChecksRow.holds Try.pinned (OpenSpec.ofChange namesChecksSpec)

/-- ITS FALSE NEIGHBOUR: 'it returns false'. Refute it at one input. -/
def namesChecksWrong : ChangeSpec := { name := "namesChecks", fn := fun _ => fun
  | [d1, d2] => { results := [.lit (.bool false)], args := [d1, d2] }
  | _ => none }
def NamesChecksWrongFalsely : Prop := namesChecksRow.holds Try.pinned (OpenSpec.ofChange namesChecksWrong)

/-- 'rescriptlaw25.NamesRefs': WHATEVER THE INPUT: true; the input reads as it did. -/
def namesRefsSpec : ChangeSpec := { name := "namesRefs", fn := fun _ => fun
  | [d] => { results := [.lit (.bool true)], args := [d] }
  | _ => none }
def namesRefsRow : OpenClaim := { program := "ytbnggfhofdpdcaa", sum := "506e53dd675fb56bfbe3b45e6ad19cc17c2b54aade1f1918f2bd66c77d354092", func := "rescript/rescriptlaw25.NamesRefs", spec := "namesRefs", inPlace := ["internal/bytealg.IndexByteString", "internal/bytealg.abigen_runtime_cmpstring"], unfollowed := true, recurses := true, loops := true, plainKeys := false, apart := false }
def NamesRefsSaid : Prop := namesRefsRow.holds Try.pinned (OpenSpec.ofChange namesRefsSpec)

/-- ITS FALSE NEIGHBOUR: 'it returns false'. Refute it at one input. -/
def namesRefsWrong : ChangeSpec := { name := "namesRefs", fn := fun _ => fun
  | [d] => { results := [.lit (.bool false)], args := [d] }
  | _ => none }
def NamesRefsWrongFalsely : Prop := namesRefsRow.holds Try.pinned (OpenSpec.ofChange namesRefsWrong)

/-- 'rescriptlaw25.NamesRight': WHATEVER THE INPUT: true; the input reads as it did. -/
def namesRightSpec : ChangeSpec := { name := "namesRight", fn := fun _ => fun
  | [d] => { results := [.lit (.bool true)], args := [d] }
  | _ => none }
def namesRightRow : OpenClaim := { program := "ytbnggfhofdpdcaa", sum := "506e53dd675fb56bfbe3b45e6ad19cc17c2b54aade1f1918f2bd66c77d354092", func := "rescript/rescriptlaw25.NamesRight", spec := "namesRight", inPlace := ["internal/bytealg.IndexByteString", "internal/bytealg.abigen_runtime_cmpstring"], unfollowed := true, recurses := true, loops := true, plainKeys := false, apart := false }
def NamesRightSaid : Prop := namesRightRow.holds Try.pinned (OpenSpec.ofChange namesRightSpec)

/-- ITS FALSE NEIGHBOUR: 'it returns false'. Refute it at one input. -/
def namesRightWrong : ChangeSpec := { name := "namesRight", fn := fun _ => fun
  | [d] => { results := [.lit (.bool false)], args := [d] }
  | _ => none }
def NamesRightWrongFalsely : Prop := namesRightRow.holds Try.pinned (OpenSpec.ofChange namesRightWrong)

/-- 'rescriptlaw24.DiagSorts': WHATEVER THE INPUT: true; the input reads as it did. -/
def diagSortsSpec : ChangeSpec := { name := "diagSorts", fn := fun _ => fun
  | [d1, d2, d3, d4] => { results := [.lit (.bool true)], args := [d1, d2, d3, d4] }
  | _ => none }
def diagSortsRow : OpenClaim := { program := "ytbnggfhofdpdcaa", sum := "506e53dd675fb56bfbe3b45e6ad19cc17c2b54aade1f1918f2bd66c77d354092", func := "rescript/rescriptlaw24.DiagSorts", spec := "diagSorts", inPlace := ["internal/bytealg.abigen_runtime_cmpstring", "internal/bytealg.IndexByteString", "internal/abi.NoEscape", "internal/bytealg.MakeNoZero"], unfollowed := true, recurses := true, plainKeys := false, apart := false }
def DiagSortsSaid : Prop := diagSortsRow.holds Try.pinned (OpenSpec.ofChange diagSortsSpec)

/-- ITS FALSE NEIGHBOUR: 'it returns false'. Refute it at one input. -/
def diagSortsWrong : ChangeSpec := { name := "diagSorts", fn := fun _ => fun
  | [d1, d2, d3, d4] => { results := [.lit (.bool false)], args := [d1, d2, d3, d4] }
  | _ => none }
def DiagSortsWrongFalsely : Prop := diagSortsRow.holds Try.pinned (OpenSpec.ofChange diagSortsWrong)

/-- 'rescriptlaw24.DiagTexts': WHATEVER THE INPUT: true; the input reads as it did. -/
def diagTextsSpec : ChangeSpec := { name := "diagTexts", fn := fun _ => fun
  | [d1, d2, d3] => { results := [.lit (.bool true)], args := [d1, d2, d3] }
  | _ => none }
def diagTextsRow : OpenClaim := { program := "ytbnggfhofdpdcaa", sum := "506e53dd675fb56bfbe3b45e6ad19cc17c2b54aade1f1918f2bd66c77d354092", func := "rescript/rescriptlaw24.DiagTexts", spec := "diagTexts", inPlace := ["internal/bytealg.abigen_runtime_cmpstring", "internal/bytealg.IndexByteString", "internal/abi.NoEscape", "internal/bytealg.MakeNoZero"], unfollowed := true, recurses := true, plainKeys := false, apart := false }
def DiagTextsSaid : Prop := diagTextsRow.holds Try.pinned (OpenSpec.ofChange diagTextsSpec)

/-- ITS FALSE NEIGHBOUR: 'it returns false'. Refute it at one input. -/
def diagTextsWrong : ChangeSpec := { name := "diagTexts", fn := fun _ => fun
  | [d1, d2, d3] => { results := [.lit (.bool false)], args := [d1, d2, d3] }
  | _ => none }
def DiagTextsWrongFalsely : Prop := diagTextsRow.holds Try.pinned (OpenSpec.ofChange diagTextsWrong)

/-- 'rescriptlaw24.DiagStays': WHATEVER THE INPUT: true; the input reads as it did. -/
def diagStaysSpec : ChangeSpec := { name := "diagStays", fn := fun _ => fun
  | [d1, d2] => { results := [.lit (.bool true)], args := [d1, d2] }
  | _ => none }
def diagStaysRow : OpenClaim := { program := "ytbnggfhofdpdcaa", sum := "506e53dd675fb56bfbe3b45e6ad19cc17c2b54aade1f1918f2bd66c77d354092", func := "rescript/rescriptlaw24.DiagStays", spec := "diagStays", inPlace := ["internal/bytealg.abigen_runtime_cmpstring", "internal/bytealg.IndexByteString", "internal/abi.NoEscape", "internal/bytealg.MakeNoZero"], unfollowed := true, recurses := true, plainKeys := false, apart := false }
def DiagStaysSaid : Prop := diagStaysRow.holds Try.pinned (OpenSpec.ofChange diagStaysSpec)

/-- ITS FALSE NEIGHBOUR: 'it returns false'. Refute it at one input. -/
def diagStaysWrong : ChangeSpec := { name := "diagStays", fn := fun _ => fun
  | [d1, d2] => { results := [.lit (.bool false)], args := [d1, d2] }
  | _ => none }
def DiagStaysWrongFalsely : Prop := diagStaysRow.holds Try.pinned (OpenSpec.ofChange diagStaysWrong)

/-- 'rescripttop.WholeRenamed': WHATEVER THE INPUT: true; the input reads as it did. -/
def wholeRenamedSpec : ChangeSpec := { name := "wholeRenamed", fn := fun _ => fun
  | [d1, d2] => { results := [.lit (.bool true)], args := [d1, d2] }
  | _ => none }
def wholeRenamedRow : OpenClaim := { program := "ytbnggfhofdpdcaa", sum := "506e53dd675fb56bfbe3b45e6ad19cc17c2b54aade1f1918f2bd66c77d354092", func := "rescript/rescripttop.WholeRenamed", spec := "wholeRenamed", inPlace := ["internal/bytealg.IndexByteString", "internal/bytealg.abigen_runtime_cmpstring"], unfollowed := true, recurses := true, loops := true, plainKeys := false, apart := false }
def WholeRenamedSaid : Prop := wholeRenamedRow.holds Try.pinned (OpenSpec.ofChange wholeRenamedSpec)

/-- ITS FALSE NEIGHBOUR: 'it returns false'. Refute it at one input. -/
def wholeRenamedWrong : ChangeSpec := { name := "wholeRenamed", fn := fun _ => fun
  | [d1, d2] => { results := [.lit (.bool false)], args := [d1, d2] }
  | _ => none }
def WholeRenamedWrongFalsely : Prop := wholeRenamedRow.holds Try.pinned (OpenSpec.ofChange wholeRenamedWrong)

/-- 'rescripttop.WholeWaits': WHATEVER THE INPUT: true; the input reads as it did. -/
def wholeWaitsSpec : ChangeSpec := { name := "wholeWaits", fn := fun _ => fun
  | [d1, d2] => { results := [.lit (.bool true)], args := [d1, d2] }
  | _ => none }
def wholeWaitsRow : OpenClaim := { program := "ytbnggfhofdpdcaa", sum := "506e53dd675fb56bfbe3b45e6ad19cc17c2b54aade1f1918f2bd66c77d354092", func := "rescript/rescripttop.WholeWaits", spec := "wholeWaits", unfollowed := true, recurses := true, plainKeys := false, apart := false }
def WholeWaitsSaid : Prop := wholeWaitsRow.holds Try.pinned (OpenSpec.ofChange wholeWaitsSpec)

/-- ITS FALSE NEIGHBOUR: 'it returns false'. Refute it at one input. -/
def wholeWaitsWrong : ChangeSpec := { name := "wholeWaits", fn := fun _ => fun
  | [d1, d2] => { results := [.lit (.bool false)], args := [d1, d2] }
  | _ => none }
def WholeWaitsWrongFalsely : Prop := wholeWaitsRow.holds Try.pinned (OpenSpec.ofChange wholeWaitsWrong)

/- THE SECOND FORM. 'bulk': how many values and letters a reading holds, each counted each time it is reached (what is shared counts as often as it is met; a slice's spare places count too). A statement '..UptoSaid' is the law's where the arguments, and the package variables that the reading takes, are together of bulk at most 1048576: NARROWER than '..Said'. Prove '..Said' where nothing that the law and all that it calls make is longer than what came in: it says more and counts as full. Else prove '..UptoSaid'. A law counts once. -/
mutual
def uptoBulk {H : Type} : DataW H → Nat
  | .lit (.string bytes) => bytes.length + 1
  | .lit _ => 1
  | .nil => 1
  | .ptr d => uptoBulk d + 1
  | .slice elems spare => uptoBulkAll elems + uptoBulkAll spare + 1
  | .agg parts => uptoBulkAll parts + 1
  | .iface _ d => uptoBulk d + 1
  | .map entries => uptoBulkEntries entries + 1
  | .held _ => 1
def uptoBulkAll {H : Type} : List (DataW H) → Nat
  | [] => 0
  | d :: r => uptoBulk d + uptoBulkAll r
def uptoBulkEntries {H : Type} : List (Lit × DataW H) → Nat
  | [] => 0
  | x :: r => uptoBulkEntry x + uptoBulkEntries r
def uptoBulkEntry {H : Type} : Lit × DataW H → Nat
  | (.string bytes, d) => bytes.length + uptoBulk d + 1
  | (_, d) => uptoBulk d + 1
 end
def uptoSmall : (H : Type) → List (DataW H) → Bool := fun _ ds => decide (uptoBulkAll ds ≤ 1048576)
def OpenSpec.upto (s : _root_.Go.ChangeSpec) : _root_.Go.OpenSpec := { _root_.Go.OpenSpec.ofChange s with cond := some uptoSmall }

/-- 'rescripttop.WholeSteps', WHERE WHAT IT READS IS OF BULK AT MOST 1048576: true; the input reads as it did. -/
def wholeStepsUptoRow : OpenClaim := { program := "ytbnggfhofdpdcaa", sum := "506e53dd675fb56bfbe3b45e6ad19cc17c2b54aade1f1918f2bd66c77d354092", func := "rescript/rescripttop.WholeSteps", spec := "wholeSteps", unfollowed := true, recurses := true, loops := true, plainKeys := false, apart := false, narrowed := true }
def WholeStepsUptoSaid : Prop := wholeStepsUptoRow.holds Try.pinned (OpenSpec.upto wholeStepsSpec)

/-- 'rescriptlaw27.BoundsReal', WHERE WHAT IT READS IS OF BULK AT MOST 1048576: true; the input reads as it did. -/
def boundsRealUptoRow : OpenClaim := { program := "ytbnggfhofdpdcaa", sum := "506e53dd675fb56bfbe3b45e6ad19cc17c2b54aade1f1918f2bd66c77d354092", func := "rescript/rescriptlaw27.BoundsReal", spec := "boundsReal", inPlace := ["internal/bytealg.abigen_runtime_cmpstring"], unfollowed := true, recurses := true, loops := true, plainKeys := false, apart := false, narrowed := true }
def BoundsRealUptoSaid : Prop := boundsRealUptoRow.holds Try.pinned (OpenSpec.upto boundsRealSpec)

/-- 'rescriptlaw25.NamesChecks', WHERE WHAT IT READS IS OF BULK AT MOST 1048576: true; the input reads as it did. -/
def namesChecksUptoRow : OpenClaim := { program := "ytbnggfhofdpdcaa", sum := "506e53dd675fb56bfbe3b45e6ad19cc17c2b54aade1f1918f2bd66c77d354092", func := "rescript/rescriptlaw25.NamesChecks", spec := "namesChecks", inPlace := ["internal/bytealg.IndexByteString", "internal/bytealg.abigen_runtime_cmpstring"], unfollowed := true, recurses := true, loops := true, plainKeys := false, apart := false, narrowed := true }
def NamesChecksUptoSaid : Prop := namesChecksUptoRow.holds Try.pinned (OpenSpec.upto namesChecksSpec)

/-- 'rescriptlaw25.NamesRefs', WHERE WHAT IT READS IS OF BULK AT MOST 1048576: true; the input reads as it did. -/
def namesRefsUptoRow : OpenClaim := { program := "ytbnggfhofdpdcaa", sum := "506e53dd675fb56bfbe3b45e6ad19cc17c2b54aade1f1918f2bd66c77d354092", func := "rescript/rescriptlaw25.NamesRefs", spec := "namesRefs", inPlace := ["internal/bytealg.IndexByteString", "internal/bytealg.abigen_runtime_cmpstring"], unfollowed := true, recurses := true, loops := true, plainKeys := false, apart := false, narrowed := true }
def NamesRefsUptoSaid : Prop := namesRefsUptoRow.holds Try.pinned (OpenSpec.upto namesRefsSpec)

/-- 'rescriptlaw25.NamesRight', WHERE WHAT IT READS IS OF BULK AT MOST 1048576: true; the input reads as it did. -/
def namesRightUptoRow : OpenClaim := { program := "ytbnggfhofdpdcaa", sum := "506e53dd675fb56bfbe3b45e6ad19cc17c2b54aade1f1918f2bd66c77d354092", func := "rescript/rescriptlaw25.NamesRight", spec := "namesRight", inPlace := ["internal/bytealg.IndexByteString", "internal/bytealg.abigen_runtime_cmpstring"], unfollowed := true, recurses := true, loops := true, plainKeys := false, apart := false, narrowed := true }
def NamesRightUptoSaid : Prop := namesRightUptoRow.holds Try.pinned (OpenSpec.upto namesRightSpec)

/-- 'rescriptlaw24.DiagSorts', WHERE WHAT IT READS IS OF BULK AT MOST 1048576: true; the input reads as it did. -/
def diagSortsUptoRow : OpenClaim := { program := "ytbnggfhofdpdcaa", sum := "506e53dd675fb56bfbe3b45e6ad19cc17c2b54aade1f1918f2bd66c77d354092", func := "rescript/rescriptlaw24.DiagSorts", spec := "diagSorts", inPlace := ["internal/bytealg.abigen_runtime_cmpstring", "internal/bytealg.IndexByteString", "internal/abi.NoEscape", "internal/bytealg.MakeNoZero"], unfollowed := true, recurses := true, plainKeys := false, apart := false, narrowed := true }
def DiagSortsUptoSaid : Prop := diagSortsUptoRow.holds Try.pinned (OpenSpec.upto diagSortsSpec)

/-- 'rescriptlaw24.DiagTexts', WHERE WHAT IT READS IS OF BULK AT MOST 1048576: true; the input reads as it did. -/
def diagTextsUptoRow : OpenClaim := { program := "ytbnggfhofdpdcaa", sum := "506e53dd675fb56bfbe3b45e6ad19cc17c2b54aade1f1918f2bd66c77d354092", func := "rescript/rescriptlaw24.DiagTexts", spec := "diagTexts", inPlace := ["internal/bytealg.abigen_runtime_cmpstring", "internal/bytealg.IndexByteString", "internal/abi.NoEscape", "internal/bytealg.MakeNoZero"], unfollowed := true, recurses := true, plainKeys := false, apart := false, narrowed := true }
def DiagTextsUptoSaid : Prop := diagTextsUptoRow.holds Try.pinned (OpenSpec.upto diagTextsSpec)

/-- 'rescriptlaw24.DiagStays', WHERE WHAT IT READS IS OF BULK AT MOST 1048576: true; the input reads as it did. -/
def diagStaysUptoRow : OpenClaim := { program := "ytbnggfhofdpdcaa", sum := "506e53dd675fb56bfbe3b45e6ad19cc17c2b54aade1f1918f2bd66c77d354092", func := "rescript/rescriptlaw24.DiagStays", spec := "diagStays", inPlace := ["internal/bytealg.abigen_runtime_cmpstring", "internal/bytealg.IndexByteString", "internal/abi.NoEscape", "internal/bytealg.MakeNoZero"], unfollowed := true, recurses := true, plainKeys := false, apart := false, narrowed := true }
def DiagStaysUptoSaid : Prop := diagStaysUptoRow.holds Try.pinned (OpenSpec.upto diagStaysSpec)

/-- 'rescripttop.WholeRenamed', WHERE WHAT IT READS IS OF BULK AT MOST 1048576: true; the input reads as it did. -/
def wholeRenamedUptoRow : OpenClaim := { program := "ytbnggfhofdpdcaa", sum := "506e53dd675fb56bfbe3b45e6ad19cc17c2b54aade1f1918f2bd66c77d354092", func := "rescript/rescripttop.WholeRenamed", spec := "wholeRenamed", inPlace := ["internal/bytealg.IndexByteString", "internal/bytealg.abigen_runtime_cmpstring"], unfollowed := true, recurses := true, loops := true, plainKeys := false, apart := false, narrowed := true }
def WholeRenamedUptoSaid : Prop := wholeRenamedUptoRow.holds Try.pinned (OpenSpec.upto wholeRenamedSpec)

/-- 'rescripttop.WholeWaits', WHERE WHAT IT READS IS OF BULK AT MOST 1048576: true; the input reads as it did. -/
def wholeWaitsUptoRow : OpenClaim := { program := "ytbnggfhofdpdcaa", sum := "506e53dd675fb56bfbe3b45e6ad19cc17c2b54aade1f1918f2bd66c77d354092", func := "rescript/rescripttop.WholeWaits", spec := "wholeWaits", unfollowed := true, recurses := true, plainKeys := false, apart := false, narrowed := true }
def WholeWaitsUptoSaid : Prop := wholeWaitsUptoRow.holds Try.pinned (OpenSpec.upto wholeWaitsSpec)

end Rows
end Go.Proofs.Ytbnggfhofdpdcaa
