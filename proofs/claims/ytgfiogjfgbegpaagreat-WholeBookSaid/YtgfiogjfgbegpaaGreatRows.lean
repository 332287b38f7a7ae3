/-
  NARROWER THAN 'FOR EVERY INPUT', by the rows' own cells (each row's printed sentence says how): WholeTwice: loops · WholeNever: loops · WholeBack: loops · WholeBook: loops.
  DERIVED. THE GIVEN ROWS OF THIS SEAT. 4 by the template 'for every input the law returns true; each argument reads behind the call as it read before'; 0 by the template 'total and deterministic' (their statements: YtgfiogjfgbegpaaGreatTotals.lean).
  GIVEN WITH THE SEED: the statements are not yours to turn. If you find one false, say at which input.
  Laid BY PROGRAM, IN A SANDBOX (cutbox-rows.mjs): the forced cells as the released guide's own fill.sh prints them over the translation 7724382c37387ea3… (all of the seat's roots in one cut). By AI agents, Wed Nov 11 2026. No macro, syntax, notation, axiom, sorry.
-/
import Derived.Test.YtgfiogjfgbegpaaGreatChecked
import GoSem.Claim
import GoSem.ClaimJoined
import GoSem.ClaimMapViews
import Derived.JoinedTies
import Derived.KernelRfl
namespace Go.Proofs.YtgfiogjfgbegpaaGreat
/- THE CELL 'sum', in the pinned program and in every row, IS THE sha256 OF THE DUMP (.gsa) THAT YtgfiogjfgbegpaaGreatProg.lean LOADS. Nothing in Lean hashes anything: it is a label: what it is worth is what the hold of that sum in a sandbox is worth. -/
noncomputable def Tryz.pinned : Pinned := { name := "ytgfiogjfgbegpaagreat", sum := "7724382c37387ea3c29fe397f9c55ba48fe7156e8e6229b539cafc4685e98b17", checked := Tryz.checked }
namespace Rows
def none {H : Type} : Left H := { results := [], args := [] }

/-- 'rescripttop.WholeTwice': WHATEVER THE INPUT: true; the input reads as it did. -/
def wholeTwiceSpec : ChangeSpec := { name := "wholeTwice", fn := fun _ => fun
  | [d1, d2, d3] => { results := [.lit (.bool true)], args := [d1, d2, d3] }
  | _ => none }
def wholeTwiceRow : OpenClaim := { program := "ytgfiogjfgbegpaagreat", sum := "7724382c37387ea3c29fe397f9c55ba48fe7156e8e6229b539cafc4685e98b17", func := "rescript/rescripttop.WholeTwice", spec := "wholeTwice", inPlace := ["internal/bytealg.IndexByteString", "internal/bytealg.abigen_runtime_cmpstring"], unfollowed := true, recurses := true, loops := true, plainKeys := false, apart := false }
def WholeTwiceSaid : Prop := wholeTwiceRow.holds Tryz.pinned (OpenSpec.ofChange wholeTwiceSpec)

/-- ITS FALSE NEIGHBOUR: 'it returns false'. Refute it at one input. -/
def wholeTwiceWrong : ChangeSpec := { name := "wholeTwice", fn := fun _ => fun
  | [d1, d2, d3] => { results := [.lit (.bool false)], args := [d1, d2, d3] }
  | _ => none }
def WholeTwiceWrongFalsely : Prop := wholeTwiceRow.holds Tryz.pinned (OpenSpec.ofChange wholeTwiceWrong)

/-- 'rescripttop.WholeNever': WHATEVER THE INPUT: true; the input reads as it did. -/
def wholeNeverSpec : ChangeSpec := { name := "wholeNever", fn := fun _ => fun
  | [d] => { results := [.lit (.bool true)], args := [d] }
  | _ => none }
def wholeNeverRow : OpenClaim := { program := "ytgfiogjfgbegpaagreat", sum := "7724382c37387ea3c29fe397f9c55ba48fe7156e8e6229b539cafc4685e98b17", func := "rescript/rescripttop.WholeNever", spec := "wholeNever", inPlace := ["internal/bytealg.IndexByteString", "internal/bytealg.abigen_runtime_cmpstring"], unfollowed := true, recurses := true, loops := true, plainKeys := false, apart := false }
def WholeNeverSaid : Prop := wholeNeverRow.holds Tryz.pinned (OpenSpec.ofChange wholeNeverSpec)

/-- ITS FALSE NEIGHBOUR: 'it returns false'. Refute it at one input. -/
def wholeNeverWrong : ChangeSpec := { name := "wholeNever", fn := fun _ => fun
  | [d] => { results := [.lit (.bool false)], args := [d] }
  | _ => none }
def WholeNeverWrongFalsely : Prop := wholeNeverRow.holds Tryz.pinned (OpenSpec.ofChange wholeNeverWrong)

/-- 'rescripttop.WholeBack': WHATEVER THE INPUT: true; the input reads as it did. -/
def wholeBackSpec : ChangeSpec := { name := "wholeBack", fn := fun _ => fun
  | [d1, d2] => { results := [.lit (.bool true)], args := [d1, d2] }
  | _ => none }
def wholeBackRow : OpenClaim := { program := "ytgfiogjfgbegpaagreat", sum := "7724382c37387ea3c29fe397f9c55ba48fe7156e8e6229b539cafc4685e98b17", func := "rescript/rescripttop.WholeBack", spec := "wholeBack", inPlace := ["internal/bytealg.IndexByteString", "internal/bytealg.abigen_runtime_cmpstring"], unfollowed := true, recurses := true, loops := true, plainKeys := false, apart := false }
def WholeBackSaid : Prop := wholeBackRow.holds Tryz.pinned (OpenSpec.ofChange wholeBackSpec)

/-- ITS FALSE NEIGHBOUR: 'it returns false'. Refute it at one input. -/
def wholeBackWrong : ChangeSpec := { name := "wholeBack", fn := fun _ => fun
  | [d1, d2] => { results := [.lit (.bool false)], args := [d1, d2] }
  | _ => none }
def WholeBackWrongFalsely : Prop := wholeBackRow.holds Tryz.pinned (OpenSpec.ofChange wholeBackWrong)

/-- 'rescripttop.WholeBook': WHATEVER THE INPUT: true; the input reads as it did. -/
def wholeBookSpec : ChangeSpec := { name := "wholeBook", fn := fun _ => fun
  | [d1, d2] => { results := [.lit (.bool true)], args := [d1, d2] }
  | _ => none }
def wholeBookRow : OpenClaim := { program := "ytgfiogjfgbegpaagreat", sum := "7724382c37387ea3c29fe397f9c55ba48fe7156e8e6229b539cafc4685e98b17", func := "rescript/rescripttop.WholeBook", spec := "wholeBook", inPlace := ["internal/bytealg.IndexByteString", "internal/bytealg.abigen_runtime_cmpstring"], unfollowed := true, recurses := true, loops := true, plainKeys := false, apart := false }
def WholeBookSaid : Prop := wholeBookRow.holds Tryz.pinned (OpenSpec.ofChange wholeBookSpec)

/-- ITS FALSE NEIGHBOUR: 'it returns false'. Refute it at one input. -/
def wholeBookWrong : ChangeSpec := { name := "wholeBook", fn := fun _ => fun
  | [d1, d2] => { results := [.lit (.bool false)], args := [d1, d2] }
  | _ => none }
def WholeBookWrongFalsely : Prop := wholeBookRow.holds Tryz.pinned (OpenSpec.ofChange wholeBookWrong)

/- THE SECOND FORM. 'bulk': how many values and letters a reading holds, each counted each time it is reached (what is shared counts as often as it is met; a slice's spare places count too). A statement '..UptoSaid' is the law's where the arguments, and the package variables that the reading takes, are together of bulk at most 1048576: NARROWER than '..Said'. Prove '..Said' where nothing that the law and all that it calls make is longer than what came in: it says more and counts as full. Else prove '..UptoSaid'. A law counts once. -/
mutual
def uptoBulk {H : Type} : DataW H → Nat
  | .lit (.string bytes) => bytes.length + 1
  | .lit _ => 1
  | .nil => 1
  | .ptr d => uptoBulk d + 1
  | .slice elems spare => uptoBulkAll elems + uptoBulkAll spare + 1
  | .agg parts => uptoBulkAll parts + 1
  | .iface _ d => uptoBulk d + 1
  | .map entries => uptoBulkEntries entries + 1
  | .held _ => 1
def uptoBulkAll {H : Type} : List (DataW H) → Nat
  | [] => 0
  | d :: r => uptoBulk d + uptoBulkAll r
def uptoBulkEntries {H : Type} : List (Lit × DataW H) → Nat
  | [] => 0
  | x :: r => uptoBulkEntry x + uptoBulkEntries r
def uptoBulkEntry {H : Type} : Lit × DataW H → Nat
  | (.string bytes, d) => bytes.length + uptoBulk d + 1
  | (_, d) => uptoBulk d + 1
 end
def uptoSmall : (H : Type) → List (DataW H) → Bool := fun _ ds => decide (uptoBulkAll ds ≤ 1048576)
def OpenSpec.upto (s : _root_.Go.ChangeSpec) : _root_.Go.OpenSpec := { _root_.Go.OpenSpec.ofChange s with cond := some uptoSmall }

/-- 'rescripttop.WholeTwice', WHERE WHAT IT READS IS OF BULK AT MOST 1048576: true; the input reads as it did. -/
def wholeTwiceUptoRow : OpenClaim := { program := "ytgfiogjfgbegpaagreat", sum := "7724382c37387ea3c29fe397f9c55ba48fe7156e8e6229b539cafc4685e98b17", func := "rescript/rescripttop.WholeTwice", spec := "wholeTwice", inPlace := ["internal/bytealg.IndexByteString", "internal/bytealg.abigen_runtime_cmpstring"], unfollowed := true, recurses := true, loops := true, plainKeys := false, apart := false, narrowed := true }
def WholeTwiceUptoSaid : Prop := wholeTwiceUptoRow.holds Tryz.pinned (OpenSpec.upto wholeTwiceSpec)

/-- 'rescripttop.WholeNever', WHERE WHAT IT READS IS OF BULK AT MOST 1048576: true; the input reads as it did. -/
def wholeNeverUptoRow : OpenClaim := { program := "ytgfiogjfgbegpaagreat", sum := "7724382c37387ea3c29fe397f9c55ba48fe7156e8e6229b539cafc4685e98b17", func := "rescript/rescripttop.WholeNever", spec := "wholeNever", inPlace := ["internal/bytealg.IndexByteString", "internal/bytealg.abigen_runtime_cmpstring"], unfollowed := true, recurses := true, loops := true, plainKeys := false, apart := false, narrowed := true }
def WholeNeverUptoSaid : Prop := wholeNeverUptoRow.holds Tryz.pinned (OpenSpec.upto wholeNeverSpec)

/-- 'rescripttop.WholeBack', WHERE WHAT IT READS IS OF BULK AT MOST 1048576: true; the input reads as it did. -/
def wholeBackUptoRow : OpenClaim := { program := "ytgfiogjfgbegpaagreat", sum := "7724382c37387ea3c29fe397f9c55ba48fe7156e8e6229b539cafc4685e98b17", func := "rescript/rescripttop.WholeBack", spec := "wholeBack", inPlace := ["internal/bytealg.IndexByteString", "internal/bytealg.abigen_runtime_cmpstring"], unfollowed := true, recurses := true, loops := true, plainKeys := false, apart := false, narrowed := true }
def WholeBackUptoSaid : Prop := wholeBackUptoRow.holds Tryz.pinned (OpenSpec.upto wholeBackSpec)

/-- 'rescripttop.WholeBook', WHERE WHAT IT READS IS OF BULK AT MOST 1048576: true; the input reads as it did. -/
def wholeBookUptoRow : OpenClaim := { program := "ytgfiogjfgbegpaagreat", sum := "7724382c37387ea3c29fe397f9c55ba48fe7156e8e6229b539cafc4685e98b17", func := "rescript/rescripttop.WholeBook", spec := "wholeBook", inPlace := ["internal/bytealg.IndexByteString", "internal/bytealg.abigen_runtime_cmpstring"], unfollowed := true, recurses := true, loops := true, plainKeys := false, apart := false, narrowed := true }
def WholeBookUptoSaid : Prop := wholeBookUptoRow.holds Tryz.pinned (OpenSpec.upto wholeBookSpec)

end Rows
end Go.Proofs.YtgfiogjfgbegpaaGreat
