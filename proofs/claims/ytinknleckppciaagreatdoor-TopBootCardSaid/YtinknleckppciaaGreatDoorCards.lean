/-
  DERIVED. GIVEN WITH THE SEED: THE CARDS: each row of YtinknleckppciaaGreatDoorRows.lean that lists a variable, with what it lists TIED to the program's text (the seventh form; the later family's looks); each row that meets fmt, with fmt's text TOLD by the authors' own Lean function (tested against real Go, not proved from fmt's source: count such statements apart). THE CARD IS WHAT COUNTS. Prove the row's statement (the work); the ties are given (YtinknleckppciaaGreatDoorTie.lean); close each card by the builder's one call (the guide's Derived/Test/ToyasCard.lean, 'card_holds'). Laid BY PROGRAM, IN A SANDBOX (cutbox-door.mjs). By AI agents, Wed Nov 11 2026. No macro, syntax, notation, axiom, sorry.
-/
import Derived.Test.YtinknleckppciaaGreatDoorRows
import GoSem.ClaimSeven
namespace Go.Proofs.YtinknleckppciaaGreatDoor
namespace Rows

/-- THE TIED CARD OF 'weighbridgetop.TopTwice'. -/
def topTwiceCard : Claim7 := { stood := { row := topTwiceRow, standIns := [], harness := (true, "1447f075f44d7ce0e12dbf6770eccb3627febfc4027d444cb29c5d88c7e724ab"), looks := true }, kinds := [], alts := [], laidByText := true, laidKinds := [.data, .data, .data], laidTests := true, laidLooks := .later }
def TopTwiceCardSaid : Prop := Claim7.holds Tryz.pinned (.plain (OpenSpec.ofChange topTwiceSpec)) topTwiceCard

/-- THE TIED CARD OF 'weighbridgetop.TopBoot'. -/
def topBootCard : Claim7 := { stood := { row := topBootRow, standIns := [], harness := (true, "1447f075f44d7ce0e12dbf6770eccb3627febfc4027d444cb29c5d88c7e724ab"), looks := true }, kinds := [], alts := [], laidByText := true, laidKinds := [.data, .data, .data], laidTests := true, laidLooks := .later }
def TopBootCardSaid : Prop := Claim7.holds Tryz.pinned (.plain (OpenSpec.ofChange topBootSpec)) topBootCard

/-- THE SECOND FORM's CARD OF 'weighbridgetop.TopTwice'. -/
def topTwiceUptoCard : Claim7 := { stood := { row := topTwiceUptoRow, standIns := [], harness := (true, "1447f075f44d7ce0e12dbf6770eccb3627febfc4027d444cb29c5d88c7e724ab"), looks := true }, kinds := [], alts := [], laidByText := true, laidKinds := [.data, .data, .data], laidTests := true, laidLooks := .later }
def TopTwiceUptoCardSaid : Prop := Claim7.holds Tryz.pinned (.plain (OpenSpec.upto topTwiceSpec)) topTwiceUptoCard

/-- THE SECOND FORM's CARD OF 'weighbridgetop.TopBoot'. -/
def topBootUptoCard : Claim7 := { stood := { row := topBootUptoRow, standIns := [], harness := (true, "1447f075f44d7ce0e12dbf6770eccb3627febfc4027d444cb29c5d88c7e724ab"), looks := true }, kinds := [], alts := [], laidByText := true, laidKinds := [.data, .data, .data], laidTests := true, laidLooks := .later }
def TopBootUptoCardSaid : Prop := Claim7.holds Tryz.pinned (.plain (OpenSpec.upto topBootSpec)) topBootUptoCard
end Rows
end Go.Proofs.YtinknleckppciaaGreatDoor
