/-
  DERIVED. GIVEN WITH THE SEED: THE CARDS: each row of YtangbdahnmomlaaGreatDoorRows.lean that lists a variable, with what it lists TIED to the program's text (the seventh form; the later family's looks); each row that meets fmt, with fmt's text TOLD by the authors' own Lean function (tested against real Go, not proved from fmt's source: count such statements apart). THE CARD IS WHAT COUNTS. Prove the row's statement (the work); the ties are given (YtangbdahnmomlaaGreatDoorTie.lean); close each card by the builder's one call (the guide's Derived/Test/ToyasCard.lean, 'card_holds'). Laid BY PROGRAM, IN A SANDBOX (cutbox-door.mjs). By AI agents, Wed Nov 11 2026. No macro, syntax, notation, axiom, sorry.
-/
import Derived.Test.YtangbdahnmomlaaGreatDoorRows
import GoSem.ClaimSeven
namespace Go.Proofs.YtangbdahnmomlaaGreatDoor
namespace Rows

/-- THE TIED CARD OF 'posthornlaw16.SpoolTurns'. -/
def spoolTurnsCard : Claim7 := { stood := { row := spoolTurnsRow, standIns := [], harness := (true, "3cf730c022f7e9a796cad71c5a6774e1f2bc1dd45a4dcae5a5f0ca2b8b08ecbf"), looks := true }, kinds := [], alts := [], laidByText := true, laidKinds := [.data, .data, .data, .data, .pinned], laidTests := true, laidLooks := .later }
def SpoolTurnsCardSaid : Prop := Claim7.holds Tryz.pinned (.plain (OpenSpec.ofChange spoolTurnsSpec)) spoolTurnsCard

/-- THE TIED CARD OF 'posthornlaw16.SpoolKeeps'. -/
def spoolKeepsCard : Claim7 := { stood := { row := spoolKeepsRow, standIns := [], harness := (true, "3cf730c022f7e9a796cad71c5a6774e1f2bc1dd45a4dcae5a5f0ca2b8b08ecbf"), looks := true }, kinds := [], alts := [], laidByText := true, laidKinds := [.data, .data, .data, .data, .pinned], laidTests := true, laidLooks := .later }
def SpoolKeepsCardSaid : Prop := Claim7.holds Tryz.pinned (.plain (OpenSpec.ofChange spoolKeepsSpec)) spoolKeepsCard

/-- THE TIED CARD OF 'posthornlaw16.SpoolAgain'. -/
def spoolAgainCard : Claim7 := { stood := { row := spoolAgainRow, standIns := [], harness := (true, "3cf730c022f7e9a796cad71c5a6774e1f2bc1dd45a4dcae5a5f0ca2b8b08ecbf"), looks := true }, kinds := [], alts := [], laidByText := true, laidKinds := [.data, .data, .data, .data, .pinned], laidTests := true, laidLooks := .later }
def SpoolAgainCardSaid : Prop := Claim7.holds Tryz.pinned (.plain (OpenSpec.ofChange spoolAgainSpec)) spoolAgainCard

/-- THE SECOND FORM's CARD OF 'posthornlaw16.SpoolTurns'. -/
def spoolTurnsUptoCard : Claim7 := { stood := { row := spoolTurnsUptoRow, standIns := [], harness := (true, "3cf730c022f7e9a796cad71c5a6774e1f2bc1dd45a4dcae5a5f0ca2b8b08ecbf"), looks := true }, kinds := [], alts := [], laidByText := true, laidKinds := [.data, .data, .data, .data, .pinned], laidTests := true, laidLooks := .later }
def SpoolTurnsUptoCardSaid : Prop := Claim7.holds Tryz.pinned (.plain (OpenSpec.upto spoolTurnsSpec)) spoolTurnsUptoCard

/-- THE SECOND FORM's CARD OF 'posthornlaw16.SpoolKeeps'. -/
def spoolKeepsUptoCard : Claim7 := { stood := { row := spoolKeepsUptoRow, standIns := [], harness := (true, "3cf730c022f7e9a796cad71c5a6774e1f2bc1dd45a4dcae5a5f0ca2b8b08ecbf"), looks := true }, kinds := [], alts := [], laidByText := true, laidKinds := [.data, .data, .data, .data, .pinned], laidTests := true, laidLooks := .later }
def SpoolKeepsUptoCardSaid : Prop := Claim7.holds Tryz.pinned (.plain (OpenSpec.upto spoolKeepsSpec)) spoolKeepsUptoCard

/-- THE SECOND FORM's CARD OF 'posthornlaw16.SpoolAgain'. -/
def spoolAgainUptoCard : Claim7 := { stood := { row := spoolAgainUptoRow, standIns := [], harness := (true, "3cf730c022f7e9a796cad71c5a6774e1f2bc1dd45a4dcae5a5f0ca2b8b08ecbf"), looks := true }, kinds := [], alts := [], laidByText := true, laidKinds := [.data, .data, .data, .data, .pinned], laidTests := true, laidLooks := .later }
def SpoolAgainUptoCardSaid : Prop := Claim7.holds Tryz.pinned (.plain (OpenSpec.upto spoolAgainSpec)) spoolAgainUptoCard
end Rows
end Go.Proofs.YtangbdahnmomlaaGreatDoor
