/-
  DERIVED. GIVEN WITH THE SEED: THE CARDS: each row of YtaeadmlgffaegaaGreatDoorRows.lean that lists a variable, with what it lists TIED to the program's text (the seventh form; the later family's looks); each row that meets fmt, with fmt's text TOLD by the authors' own Lean function (tested against real Go, not proved from fmt's source: count such statements apart). THE CARD IS WHAT COUNTS. Prove the row's statement (the work); the ties are given (YtaeadmlgffaegaaGreatDoorTie.lean); close each card by the builder's one call (the guide's Derived/Test/ToyasCard.lean, 'card_holds'). Laid BY PROGRAM, IN A SANDBOX (cutbox-door.mjs). By AI agents, Wed Nov 11 2026. No macro, syntax, notation, axiom, sorry.
-/
import Derived.Test.YtaeadmlgffaegaaGreatDoorRows
import GoSem.ClaimSeven
namespace Go.Proofs.YtaeadmlgffaegaaGreatDoor
namespace Rows

/-- THE TIED CARD OF 'weighbridgelaw.PlayerSays'. -/
def playerSaysCard : Claim7 := { stood := { row := playerSaysRow, standIns := [], harness := (true, "915e57ee44aa682ac3fc18a8c0a4a5a922ff5b2b6e815e3e00de820dfd2af7ae"), looks := true }, kinds := [], alts := [], laidByText := true, laidKinds := [.data, .data, .data], laidTests := true, laidLooks := .later }
def PlayerSaysCardSaid : Prop := Claim7.holds Tryz.pinned (.plain (OpenSpec.ofChange playerSaysSpec)) playerSaysCard

/-- THE SECOND FORM's CARD OF 'weighbridgelaw.PlayerSays'. -/
def playerSaysUptoCard : Claim7 := { stood := { row := playerSaysUptoRow, standIns := [], harness := (true, "915e57ee44aa682ac3fc18a8c0a4a5a922ff5b2b6e815e3e00de820dfd2af7ae"), looks := true }, kinds := [], alts := [], laidByText := true, laidKinds := [.data, .data, .data], laidTests := true, laidLooks := .later }
def PlayerSaysUptoCardSaid : Prop := Claim7.holds Tryz.pinned (.plain (OpenSpec.upto playerSaysSpec)) playerSaysUptoCard
end Rows
end Go.Proofs.YtaeadmlgffaegaaGreatDoor
