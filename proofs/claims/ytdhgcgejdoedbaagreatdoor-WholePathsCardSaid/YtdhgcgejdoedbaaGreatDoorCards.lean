/-
  DERIVED. GIVEN WITH THE SEED: THE CARDS: each row of YtdhgcgejdoedbaaGreatDoorRows.lean that lists a variable, with what it lists TIED to the program's text (the seventh form; the later family's looks); each row that meets fmt, with fmt's text TOLD by the authors' own Lean function (tested against real Go, not proved from fmt's source: count such statements apart). THE CARD IS WHAT COUNTS. Prove the row's statement (the work); the ties are given (YtdhgcgejdoedbaaGreatDoorTie.lean); close each card by the builder's one call (the guide's Derived/Test/ToyasCard.lean, 'card_holds'). Laid BY PROGRAM, IN A SANDBOX (cutbox-door.mjs). By AI agents, Wed Nov 11 2026. No macro, syntax, notation, axiom, sorry.
-/
import Derived.Test.YtdhgcgejdoedbaaGreatDoorRows
import GoSem.ClaimSeven
namespace Go.Proofs.YtdhgcgejdoedbaaGreatDoor
namespace Rows

/-- THE TIED CARD OF 'rescripttop.WholeTokens'. -/
def wholeTokensCard : Claim7 := { stood := { row := wholeTokensRow, standIns := [], harness := (true, "8dd755de22251c40afc8660f2538062d732a9c621a24cae3a3f362d3223697d8"), looks := true }, kinds := [], alts := [], laidByText := true, laidKinds := [.data, .pinned], laidTests := true, laidLooks := .later }
def WholeTokensCardSaid : Prop := Claim7.holds Tryz.pinned (.plain (OpenSpec.ofChange wholeTokensSpec)) wholeTokensCard

/-- THE TIED CARD OF 'rescripttop.WholePaths'. -/
def wholePathsCard : Claim7 := { stood := { row := wholePathsRow, standIns := [], harness := (true, "8dd755de22251c40afc8660f2538062d732a9c621a24cae3a3f362d3223697d8"), looks := true }, kinds := [], alts := [], laidByText := true, laidKinds := [.data, .pinned], laidTests := true, laidLooks := .later }
def WholePathsCardSaid : Prop := Claim7.holds Tryz.pinned (.plain (OpenSpec.ofChange wholePathsSpec)) wholePathsCard

/-- THE SECOND FORM's CARD OF 'rescripttop.WholeTokens'. -/
def wholeTokensUptoCard : Claim7 := { stood := { row := wholeTokensUptoRow, standIns := [], harness := (true, "8dd755de22251c40afc8660f2538062d732a9c621a24cae3a3f362d3223697d8"), looks := true }, kinds := [], alts := [], laidByText := true, laidKinds := [.data, .pinned], laidTests := true, laidLooks := .later }
def WholeTokensUptoCardSaid : Prop := Claim7.holds Tryz.pinned (.plain (OpenSpec.upto wholeTokensSpec)) wholeTokensUptoCard

/-- THE SECOND FORM's CARD OF 'rescripttop.WholePaths'. -/
def wholePathsUptoCard : Claim7 := { stood := { row := wholePathsUptoRow, standIns := [], harness := (true, "8dd755de22251c40afc8660f2538062d732a9c621a24cae3a3f362d3223697d8"), looks := true }, kinds := [], alts := [], laidByText := true, laidKinds := [.data, .pinned], laidTests := true, laidLooks := .later }
def WholePathsUptoCardSaid : Prop := Claim7.holds Tryz.pinned (.plain (OpenSpec.upto wholePathsSpec)) wholePathsUptoCard
end Rows
end Go.Proofs.YtdhgcgejdoedbaaGreatDoor
