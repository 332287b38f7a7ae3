/-
  DERIVED. GIVEN WITH THE SEED: THE CARDS: each row of YtdhgcgejdoedbaaDoorRows.lean that lists a variable, with what it lists TIED to the program's text (the seventh form; the later family's looks); each row that meets fmt, with fmt's text TOLD by the authors' own Lean function (tested against real Go, not proved from fmt's source: count such statements apart). THE CARD IS WHAT COUNTS. Prove the row's statement (the work); the ties are given (YtdhgcgejdoedbaaDoorTie.lean); close each card by the builder's one call (the guide's Derived/Test/ToyasCard.lean, 'card_holds'). Laid BY PROGRAM, IN A SANDBOX (cutbox-door.mjs). By AI agents, Wed Nov 11 2026. No macro, syntax, notation, axiom, sorry.
-/
import Derived.Test.YtdhgcgejdoedbaaDoorRows
import GoSem.ClaimSeven
namespace Go.Proofs.YtdhgcgejdoedbaaDoor
namespace Rows

/-- THE TIED CARD OF 'rescripttop.WholeLines'. -/
def wholeLinesCard : Claim7 := { stood := { row := wholeLinesRow, standIns := [], harness := (true, "faacc7bf83bbf2423140ad39d6f71a95b3d81cb75e678f5fc3c821c4797bd6fc"), looks := false }, kinds := [], alts := [], laidByText := true, laidKinds := [.data, .pinned], laidTests := true, laidLooks := .later }
def WholeLinesCardSaid : Prop := Claim7.holds Tryd.pinned (.plain (OpenSpec.ofChange wholeLinesSpec)) wholeLinesCard

/-- THE SECOND FORM's CARD OF 'rescripttop.WholeLines'. -/
def wholeLinesUptoCard : Claim7 := { stood := { row := wholeLinesUptoRow, standIns := [], harness := (true, "faacc7bf83bbf2423140ad39d6f71a95b3d81cb75e678f5fc3c821c4797bd6fc"), looks := false }, kinds := [], alts := [], laidByText := true, laidKinds := [.data, .pinned], laidTests := true, laidLooks := .later }
def WholeLinesUptoCardSaid : Prop := Claim7.holds Tryd.pinned (.plain (OpenSpec.upto wholeLinesSpec)) wholeLinesUptoCard
end Rows
end Go.Proofs.YtdhgcgejdoedbaaDoor
