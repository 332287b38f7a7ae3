/-
  NARROWER THAN 'FOR EVERY INPUT', by the rows' own cells (each row's printed sentence says how): StepPlays: loops · StepOnce: loops.
  DERIVED. THE GIVEN ROWS OF THIS SEAT. 12 by the template 'for every input the law returns true; each argument reads behind the call as it read before'; 0 by the template 'total and deterministic' (their statements: YtigeedaihbpjiaaTotals.lean).
  GIVEN WITH THE SEED: the statements are not yours to turn. If you find one false, say at which input.
  Laid BY PROGRAM, IN A SANDBOX (cutbox-rows.mjs): the forced cells as the released guide's own fill.sh prints them over the translation ad83a01dd9edacfe… (all of the seat's roots in one cut). By AI agents, Wed Nov 11 2026. No macro, syntax, notation, axiom, sorry.
-/
import Derived.Test.YtigeedaihbpjiaaChecked
import GoSem.Claim
import GoSem.ClaimJoined
import GoSem.ClaimMapViews
import Derived.JoinedTies
import Derived.KernelRfl
namespace Go.Proofs.Ytigeedaihbpjiaa
/- THE CELL 'sum', in the pinned program and in every row, IS THE sha256 OF THE DUMP (.gsa) THAT YtigeedaihbpjiaaProg.lean LOADS. Nothing in Lean hashes anything: it is a label: what it is worth is what the hold of that sum in a sandbox is worth. -/
noncomputable def Try.pinned : Pinned := { name := "ytigeedaihbpjiaa", sum := "ad83a01dd9edacfedc3b965275c470416d6cee2dd9d488266230e7ad463eef88", checked := Try.checked }
namespace Rows
def none {H : Type} : Left H := { results := [], args := [] }

/-- 'rescripttop.WholeHeads': WHATEVER THE INPUT: true; the input reads as it did. -/
def wholeHeadsSpec : ChangeSpec := { name := "wholeHeads", fn := fun _ => fun
  | [d] => { results := [.lit (.bool true)], args := [d] }
  | _ => none }
def wholeHeadsRow : OpenClaim := { program := "ytigeedaihbpjiaa", sum := "ad83a01dd9edacfedc3b965275c470416d6cee2dd9d488266230e7ad463eef88", func := "rescript/rescripttop.WholeHeads", spec := "wholeHeads", unfollowed := true, recurses := true, apart := false }
def WholeHeadsSaid : Prop := wholeHeadsRow.holds Try.pinned (OpenSpec.ofChange wholeHeadsSpec)

/-- ITS FALSE NEIGHBOUR: 'it returns false'. Refute it at one input. -/
def wholeHeadsWrong : ChangeSpec := { name := "wholeHeads", fn := fun _ => fun
  | [d] => { results := [.lit (.bool false)], args := [d] }
  | _ => none }
def WholeHeadsWrongFalsely : Prop := wholeHeadsRow.holds Try.pinned (OpenSpec.ofChange wholeHeadsWrong)

/-- 'rescriptlaw02.TagFixed': WHATEVER THE INPUT: true; the input reads as it did. -/
def tagFixedSpec : ChangeSpec := { name := "tagFixed", fn := fun _ => fun
  | [d1, d2, d3, d4] => { results := [.lit (.bool true)], args := [d1, d2, d3, d4] }
  | _ => none }
def tagFixedRow : OpenClaim := { program := "ytigeedaihbpjiaa", sum := "ad83a01dd9edacfedc3b965275c470416d6cee2dd9d488266230e7ad463eef88", func := "rescript/rescriptlaw02.TagFixed", spec := "tagFixed", unfollowed := true, recurses := true, apart := false }
def TagFixedSaid : Prop := tagFixedRow.holds Try.pinned (OpenSpec.ofChange tagFixedSpec)

/-- ITS FALSE NEIGHBOUR: 'it returns false'. Refute it at one input. -/
def tagFixedWrong : ChangeSpec := { name := "tagFixed", fn := fun _ => fun
  | [d1, d2, d3, d4] => { results := [.lit (.bool false)], args := [d1, d2, d3, d4] }
  | _ => none }
def TagFixedWrongFalsely : Prop := tagFixedRow.holds Try.pinned (OpenSpec.ofChange tagFixedWrong)

/-- 'rescriptlaw03.UtfFirst': WHATEVER THE INPUT: true; the input reads as it did. -/
def utfFirstSpec : ChangeSpec := { name := "utfFirst", fn := fun _ => fun
  | [d] => { results := [.lit (.bool true)], args := [d] }
  | _ => none }
def utfFirstRow : OpenClaim := { program := "ytigeedaihbpjiaa", sum := "ad83a01dd9edacfedc3b965275c470416d6cee2dd9d488266230e7ad463eef88", func := "rescript/rescriptlaw03.UtfFirst", spec := "utfFirst", inPlace := ["internal/abi.NoEscape"], apart := false }
def UtfFirstSaid : Prop := utfFirstRow.holds Try.pinned (OpenSpec.ofChange utfFirstSpec)

/-- ITS FALSE NEIGHBOUR: 'it returns false'. Refute it at one input. -/
def utfFirstWrong : ChangeSpec := { name := "utfFirst", fn := fun _ => fun
  | [d] => { results := [.lit (.bool false)], args := [d] }
  | _ => none }
def UtfFirstWrongFalsely : Prop := utfFirstRow.holds Try.pinned (OpenSpec.ofChange utfFirstWrong)

/-- 'rescriptlaw03.UtfTexts': WHATEVER THE INPUT: true; the input reads as it did. -/
def utfTextsSpec : ChangeSpec := { name := "utfTexts", fn := fun _ => fun
  | [d] => { results := [.lit (.bool true)], args := [d] }
  | _ => none }
def utfTextsRow : OpenClaim := { program := "ytigeedaihbpjiaa", sum := "ad83a01dd9edacfedc3b965275c470416d6cee2dd9d488266230e7ad463eef88", func := "rescript/rescriptlaw03.UtfTexts", spec := "utfTexts", inPlace := ["internal/abi.NoEscape"], apart := false }
def UtfTextsSaid : Prop := utfTextsRow.holds Try.pinned (OpenSpec.ofChange utfTextsSpec)

/-- ITS FALSE NEIGHBOUR: 'it returns false'. Refute it at one input. -/
def utfTextsWrong : ChangeSpec := { name := "utfTexts", fn := fun _ => fun
  | [d] => { results := [.lit (.bool false)], args := [d] }
  | _ => none }
def UtfTextsWrongFalsely : Prop := utfTextsRow.holds Try.pinned (OpenSpec.ofChange utfTextsWrong)

/-- 'rescriptlaw03.UtfBack': WHATEVER THE INPUT: true; the input reads as it did. -/
def utfBackSpec : ChangeSpec := { name := "utfBack", fn := fun _ => fun
  | [d1, d2, d3] => { results := [.lit (.bool true)], args := [d1, d2, d3] }
  | _ => none }
def utfBackRow : OpenClaim := { program := "ytigeedaihbpjiaa", sum := "ad83a01dd9edacfedc3b965275c470416d6cee2dd9d488266230e7ad463eef88", func := "rescript/rescriptlaw03.UtfBack", spec := "utfBack", inPlace := ["internal/abi.NoEscape"], apart := false }
def UtfBackSaid : Prop := utfBackRow.holds Try.pinned (OpenSpec.ofChange utfBackSpec)

/-- ITS FALSE NEIGHBOUR: 'it returns false'. Refute it at one input. -/
def utfBackWrong : ChangeSpec := { name := "utfBack", fn := fun _ => fun
  | [d1, d2, d3] => { results := [.lit (.bool false)], args := [d1, d2, d3] }
  | _ => none }
def UtfBackWrongFalsely : Prop := utfBackRow.holds Try.pinned (OpenSpec.ofChange utfBackWrong)

/-- 'rescriptlaw03.UtfChecks': WHATEVER THE INPUT: true; the input reads as it did. -/
def utfChecksSpec : ChangeSpec := { name := "utfChecks", fn := fun _ => fun
  | [d1, d2] => { results := [.lit (.bool true)], args := [d1, d2] }
  | _ => none }
def utfChecksRow : OpenClaim := { program := "ytigeedaihbpjiaa", sum := "ad83a01dd9edacfedc3b965275c470416d6cee2dd9d488266230e7ad463eef88", func := "rescript/rescriptlaw03.UtfChecks", spec := "utfChecks", inPlace := ["internal/abi.NoEscape"], apart := false }
def UtfChecksSaid : Prop := utfChecksRow.holds Try.pinned (OpenSpec.ofChange utfChecksSpec)

/-- ITS FALSE NEIGHBOUR: 'it returns false'. Refute it at one input. -/
def utfChecksWrong : ChangeSpec := { name := "utfChecks", fn := fun _ => fun
  | [d1, d2] => { results := [.lit (.bool false)], args := [d1, d2] }
  | _ => none }
def UtfChecksWrongFalsely : Prop := utfChecksRow.holds Try.pinned (OpenSpec.ofChange utfChecksWrong)

/-- 'rescripttop.WholeTexts': WHATEVER THE INPUT: true; the input reads as it did. -/
def wholeTextsSpec : ChangeSpec := { name := "wholeTexts", fn := fun _ => fun
  | [d1, d2] => { results := [.lit (.bool true)], args := [d1, d2] }
  | _ => none }
def wholeTextsRow : OpenClaim := { program := "ytigeedaihbpjiaa", sum := "ad83a01dd9edacfedc3b965275c470416d6cee2dd9d488266230e7ad463eef88", func := "rescript/rescripttop.WholeTexts", spec := "wholeTexts", inPlace := ["internal/abi.NoEscape"], unfollowed := true, recurses := true, apart := false }
def WholeTextsSaid : Prop := wholeTextsRow.holds Try.pinned (OpenSpec.ofChange wholeTextsSpec)

/-- ITS FALSE NEIGHBOUR: 'it returns false'. Refute it at one input. -/
def wholeTextsWrong : ChangeSpec := { name := "wholeTexts", fn := fun _ => fun
  | [d1, d2] => { results := [.lit (.bool false)], args := [d1, d2] }
  | _ => none }
def WholeTextsWrongFalsely : Prop := wholeTextsRow.holds Try.pinned (OpenSpec.ofChange wholeTextsWrong)

/-- 'rescriptlaw31.StepPlays': WHATEVER THE INPUT: true; the input reads as it did. -/
def stepPlaysSpec : ChangeSpec := { name := "stepPlays", fn := fun _ => fun
  | [d1, d2, d3] => { results := [.lit (.bool true)], args := [d1, d2, d3] }
  | _ => none }
def stepPlaysRow : OpenClaim := { program := "ytigeedaihbpjiaa", sum := "ad83a01dd9edacfedc3b965275c470416d6cee2dd9d488266230e7ad463eef88", func := "rescript/rescriptlaw31.StepPlays", spec := "stepPlays", unfollowed := true, recurses := true, loops := true, apart := false }
def StepPlaysSaid : Prop := stepPlaysRow.holds Try.pinned (OpenSpec.ofChange stepPlaysSpec)

/-- ITS FALSE NEIGHBOUR: 'it returns false'. Refute it at one input. -/
def stepPlaysWrong : ChangeSpec := { name := "stepPlays", fn := fun _ => fun
  | [d1, d2, d3] => { results := [.lit (.bool false)], args := [d1, d2, d3] }
  | _ => none }
def StepPlaysWrongFalsely : Prop := stepPlaysRow.holds Try.pinned (OpenSpec.ofChange stepPlaysWrong)

/-- 'rescriptlaw31.StepOnce': WHATEVER THE INPUT: true; the input reads as it did. -/
def stepOnceSpec : ChangeSpec := { name := "stepOnce", fn := fun _ => fun
  | [d1, d2, d3, d4, d5] => { results := [.lit (.bool true)], args := [d1, d2, d3, d4, d5] }
  | _ => none }
def stepOnceRow : OpenClaim := { program := "ytigeedaihbpjiaa", sum := "ad83a01dd9edacfedc3b965275c470416d6cee2dd9d488266230e7ad463eef88", func := "rescript/rescriptlaw31.StepOnce", spec := "stepOnce", unfollowed := true, recurses := true, loops := true, apart := false }
def StepOnceSaid : Prop := stepOnceRow.holds Try.pinned (OpenSpec.ofChange stepOnceSpec)

/-- ITS FALSE NEIGHBOUR: 'it returns false'. Refute it at one input. -/
def stepOnceWrong : ChangeSpec := { name := "stepOnce", fn := fun _ => fun
  | [d1, d2, d3, d4, d5] => { results := [.lit (.bool false)], args := [d1, d2, d3, d4, d5] }
  | _ => none }
def StepOnceWrongFalsely : Prop := stepOnceRow.holds Try.pinned (OpenSpec.ofChange stepOnceWrong)

/-- 'rescriptlaw26.GraphOrders': WHATEVER THE INPUT: true; the input reads as it did. -/
def graphOrdersSpec : ChangeSpec := { name := "graphOrders", fn := fun _ => fun
  | [d] => { results := [.lit (.bool true)], args := [d] }
  | _ => none }
def graphOrdersRow : OpenClaim := { program := "ytigeedaihbpjiaa", sum := "ad83a01dd9edacfedc3b965275c470416d6cee2dd9d488266230e7ad463eef88", func := "rescript/rescriptlaw26.GraphOrders", spec := "graphOrders", unfollowed := true, recurses := true, apart := false }
def GraphOrdersSaid : Prop := graphOrdersRow.holds Try.pinned (OpenSpec.ofChange graphOrdersSpec)

/-- ITS FALSE NEIGHBOUR: 'it returns false'. Refute it at one input. -/
def graphOrdersWrong : ChangeSpec := { name := "graphOrders", fn := fun _ => fun
  | [d] => { results := [.lit (.bool false)], args := [d] }
  | _ => none }
def GraphOrdersWrongFalsely : Prop := graphOrdersRow.holds Try.pinned (OpenSpec.ofChange graphOrdersWrong)

/-- 'rescriptlaw26.GraphTells': WHATEVER THE INPUT: true; the input reads as it did. -/
def graphTellsSpec : ChangeSpec := { name := "graphTells", fn := fun _ => fun
  | [d1, d2, d3] => { results := [.lit (.bool true)], args := [d1, d2, d3] }
  | _ => none }
def graphTellsRow : OpenClaim := { program := "ytigeedaihbpjiaa", sum := "ad83a01dd9edacfedc3b965275c470416d6cee2dd9d488266230e7ad463eef88", func := "rescript/rescriptlaw26.GraphTells", spec := "graphTells", unfollowed := true, recurses := true, apart := false }
def GraphTellsSaid : Prop := graphTellsRow.holds Try.pinned (OpenSpec.ofChange graphTellsSpec)

/-- ITS FALSE NEIGHBOUR: 'it returns false'. Refute it at one input. -/
def graphTellsWrong : ChangeSpec := { name := "graphTells", fn := fun _ => fun
  | [d1, d2, d3] => { results := [.lit (.bool false)], args := [d1, d2, d3] }
  | _ => none }
def GraphTellsWrongFalsely : Prop := graphTellsRow.holds Try.pinned (OpenSpec.ofChange graphTellsWrong)

/-- 'rescriptlaw26.GraphStands': WHATEVER THE INPUT: true; the input reads as it did. -/
def graphStandsSpec : ChangeSpec := { name := "graphStands", fn := fun _ => fun
  | [d] => { results := [.lit (.bool true)], args := [d] }
  | _ => none }
def graphStandsRow : OpenClaim := { program := "ytigeedaihbpjiaa", sum := "ad83a01dd9edacfedc3b965275c470416d6cee2dd9d488266230e7ad463eef88", func := "rescript/rescriptlaw26.GraphStands", spec := "graphStands", unfollowed := true, recurses := true, apart := false }
def GraphStandsSaid : Prop := graphStandsRow.holds Try.pinned (OpenSpec.ofChange graphStandsSpec)

/-- ITS FALSE NEIGHBOUR: 'it returns false'. Refute it at one input. -/
def graphStandsWrong : ChangeSpec := { name := "graphStands", fn := fun _ => fun
  | [d] => { results := [.lit (.bool false)], args := [d] }
  | _ => none }
def GraphStandsWrongFalsely : Prop := graphStandsRow.holds Try.pinned (OpenSpec.ofChange graphStandsWrong)

/- THE SECOND FORM. 'bulk': how many values and letters a reading holds, each counted each time it is reached (what is shared counts as often as it is met; a slice's spare places count too). A statement '..UptoSaid' is the law's where the arguments, and the package variables that the reading takes, are together of bulk at most 1048576: NARROWER than '..Said'. Prove '..Said' where nothing that the law and all that it calls make is longer than what came in: it says more and counts as full. Else prove '..UptoSaid'. A law counts once. -/
mutual
def uptoBulk {H : Type} : DataW H → Nat
  | .lit (.string bytes) => bytes.length + 1
  | .lit _ => 1
  | .nil => 1
  | .ptr d => uptoBulk d + 1
  | .slice elems spare => uptoBulkAll elems + uptoBulkAll spare + 1
  | .agg parts => uptoBulkAll parts + 1
  | .iface _ d => uptoBulk d + 1
  | .map entries => uptoBulkEntries entries + 1
  | .held _ => 1
def uptoBulkAll {H : Type} : List (DataW H) → Nat
  | [] => 0
  | d :: r => uptoBulk d + uptoBulkAll r
def uptoBulkEntries {H : Type} : List (Lit × DataW H) → Nat
  | [] => 0
  | x :: r => uptoBulkEntry x + uptoBulkEntries r
def uptoBulkEntry {H : Type} : Lit × DataW H → Nat
  | (.string bytes, d) => bytes.length + uptoBulk d + 1
  | (_, d) => uptoBulk d + 1
 end
def uptoSmall : (H : Type) → List (DataW H) → Bool := fun _ ds => decide (uptoBulkAll ds ≤ 1048576)
def OpenSpec.upto (s : _root_.Go.ChangeSpec) : _root_.Go.OpenSpec := { _root_.Go.OpenSpec.ofChange s with cond := some uptoSmall }

/-- 'rescripttop.WholeHeads', WHERE WHAT IT READS IS OF BULK AT MOST 1048576: true; the input reads as it did. -/
def wholeHeadsUptoRow : OpenClaim := { program := "ytigeedaihbpjiaa", sum := "ad83a01dd9edacfedc3b965275c470416d6cee2dd9d488266230e7ad463eef88", func := "rescript/rescripttop.WholeHeads", spec := "wholeHeads", unfollowed := true, recurses := true, apart := false, narrowed := true }
def WholeHeadsUptoSaid : Prop := wholeHeadsUptoRow.holds Try.pinned (OpenSpec.upto wholeHeadsSpec)

/-- 'rescriptlaw02.TagFixed', WHERE WHAT IT READS IS OF BULK AT MOST 1048576: true; the input reads as it did. -/
def tagFixedUptoRow : OpenClaim := { program := "ytigeedaihbpjiaa", sum := "ad83a01dd9edacfedc3b965275c470416d6cee2dd9d488266230e7ad463eef88", func := "rescript/rescriptlaw02.TagFixed", spec := "tagFixed", unfollowed := true, recurses := true, apart := false, narrowed := true }
def TagFixedUptoSaid : Prop := tagFixedUptoRow.holds Try.pinned (OpenSpec.upto tagFixedSpec)

/-- 'rescriptlaw03.UtfFirst', WHERE WHAT IT READS IS OF BULK AT MOST 1048576: true; the input reads as it did. -/
def utfFirstUptoRow : OpenClaim := { program := "ytigeedaihbpjiaa", sum := "ad83a01dd9edacfedc3b965275c470416d6cee2dd9d488266230e7ad463eef88", func := "rescript/rescriptlaw03.UtfFirst", spec := "utfFirst", inPlace := ["internal/abi.NoEscape"], apart := false, narrowed := true }
def UtfFirstUptoSaid : Prop := utfFirstUptoRow.holds Try.pinned (OpenSpec.upto utfFirstSpec)

/-- 'rescriptlaw03.UtfTexts', WHERE WHAT IT READS IS OF BULK AT MOST 1048576: true; the input reads as it did. -/
def utfTextsUptoRow : OpenClaim := { program := "ytigeedaihbpjiaa", sum := "ad83a01dd9edacfedc3b965275c470416d6cee2dd9d488266230e7ad463eef88", func := "rescript/rescriptlaw03.UtfTexts", spec := "utfTexts", inPlace := ["internal/abi.NoEscape"], apart := false, narrowed := true }
def UtfTextsUptoSaid : Prop := utfTextsUptoRow.holds Try.pinned (OpenSpec.upto utfTextsSpec)

/-- 'rescriptlaw03.UtfBack', WHERE WHAT IT READS IS OF BULK AT MOST 1048576: true; the input reads as it did. -/
def utfBackUptoRow : OpenClaim := { program := "ytigeedaihbpjiaa", sum := "ad83a01dd9edacfedc3b965275c470416d6cee2dd9d488266230e7ad463eef88", func := "rescript/rescriptlaw03.UtfBack", spec := "utfBack", inPlace := ["internal/abi.NoEscape"], apart := false, narrowed := true }
def UtfBackUptoSaid : Prop := utfBackUptoRow.holds Try.pinned (OpenSpec.upto utfBackSpec)

/-- 'rescriptlaw03.UtfChecks', WHERE WHAT IT READS IS OF BULK AT MOST 1048576: true; the input reads as it did. -/
def utfChecksUptoRow : OpenClaim := { program := "ytigeedaihbpjiaa", sum := "ad83a01dd9edacfedc3b965275c470416d6cee2dd9d488266230e7ad463eef88", func := "rescript/rescriptlaw03.UtfChecks", spec := "utfChecks", inPlace := ["internal/abi.NoEscape"], apart := false, narrowed := true }
def UtfChecksUptoSaid : Prop := utfChecksUptoRow.holds Try.pinned (OpenSpec.upto utfChecksSpec)

/-- 'rescripttop.WholeTexts', WHERE WHAT IT READS IS OF BULK AT MOST 1048576: true; the input reads as it did. -/
def wholeTextsUptoRow : OpenClaim := { program := "ytigeedaihbpjiaa", sum := "ad83a01dd9edacfedc3b965275c470416d6cee2dd9d488266230e7ad463eef88", func := "rescript/rescripttop.WholeTexts", spec := "wholeTexts", inPlace := ["internal/abi.NoEscape"], unfollowed := true, recurses := true, apart := false, narrowed := true }
def WholeTextsUptoSaid : Prop := wholeTextsUptoRow.holds Try.pinned (OpenSpec.upto wholeTextsSpec)

/-- 'rescriptlaw31.StepPlays', WHERE WHAT IT READS IS OF BULK AT MOST 1048576: true; the input reads as it did. -/
def stepPlaysUptoRow : OpenClaim := { program := "ytigeedaihbpjiaa", sum := "ad83a01dd9edacfedc3b965275c470416d6cee2dd9d488266230e7ad463eef88", func := "rescript/rescriptlaw31.StepPlays", spec := "stepPlays", unfollowed := true, recurses := true, loops := true, apart := false, narrowed := true }
def StepPlaysUptoSaid : Prop := stepPlaysUptoRow.holds Try.pinned (OpenSpec.upto stepPlaysSpec)

/-- 'rescriptlaw31.StepOnce', WHERE WHAT IT READS IS OF BULK AT MOST 1048576: true; the input reads as it did. -/
def stepOnceUptoRow : OpenClaim := { program := "ytigeedaihbpjiaa", sum := "ad83a01dd9edacfedc3b965275c470416d6cee2dd9d488266230e7ad463eef88", func := "rescript/rescriptlaw31.StepOnce", spec := "stepOnce", unfollowed := true, recurses := true, loops := true, apart := false, narrowed := true }
def StepOnceUptoSaid : Prop := stepOnceUptoRow.holds Try.pinned (OpenSpec.upto stepOnceSpec)

/-- 'rescriptlaw26.GraphOrders', WHERE WHAT IT READS IS OF BULK AT MOST 1048576: true; the input reads as it did. -/
def graphOrdersUptoRow : OpenClaim := { program := "ytigeedaihbpjiaa", sum := "ad83a01dd9edacfedc3b965275c470416d6cee2dd9d488266230e7ad463eef88", func := "rescript/rescriptlaw26.GraphOrders", spec := "graphOrders", unfollowed := true, recurses := true, apart := false, narrowed := true }
def GraphOrdersUptoSaid : Prop := graphOrdersUptoRow.holds Try.pinned (OpenSpec.upto graphOrdersSpec)

/-- 'rescriptlaw26.GraphTells', WHERE WHAT IT READS IS OF BULK AT MOST 1048576: true; the input reads as it did. -/
def graphTellsUptoRow : OpenClaim := { program := "ytigeedaihbpjiaa", sum := "ad83a01dd9edacfedc3b965275c470416d6cee2dd9d488266230e7ad463eef88", func := "rescript/rescriptlaw26.GraphTells", spec := "graphTells", unfollowed := true, recurses := true, apart := false, narrowed := true }
def GraphTellsUptoSaid : Prop := graphTellsUptoRow.holds Try.pinned (OpenSpec.upto graphTellsSpec)

/-- 'rescriptlaw26.GraphStands', WHERE WHAT IT READS IS OF BULK AT MOST 1048576: true; the input reads as it did. -/
def graphStandsUptoRow : OpenClaim := { program := "ytigeedaihbpjiaa", sum := "ad83a01dd9edacfedc3b965275c470416d6cee2dd9d488266230e7ad463eef88", func := "rescript/rescriptlaw26.GraphStands", spec := "graphStands", unfollowed := true, recurses := true, apart := false, narrowed := true }
def GraphStandsUptoSaid : Prop := graphStandsUptoRow.holds Try.pinned (OpenSpec.upto graphStandsSpec)

end Rows
end Go.Proofs.Ytigeedaihbpjiaa
