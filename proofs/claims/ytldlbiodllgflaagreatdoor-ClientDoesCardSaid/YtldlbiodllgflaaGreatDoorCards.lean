/-
  DERIVED. GIVEN WITH THE SEED: THE CARDS: each row of YtldlbiodllgflaaGreatDoorRows.lean that lists a variable, with what it lists TIED to the program's text (the seventh form; the later family's looks); each row that meets fmt, with fmt's text TOLD by the authors' own Lean function (tested against real Go, not proved from fmt's source: count such statements apart). THE CARD IS WHAT COUNTS. Prove the row's statement (the work); the ties are given (YtldlbiodllgflaaGreatDoorTie.lean); close each card by the builder's one call (the guide's Derived/Test/ToyasCard.lean, 'card_holds'). Laid BY PROGRAM, IN A SANDBOX (cutbox-door.mjs). By AI agents, Wed Nov 11 2026. No macro, syntax, notation, axiom, sorry.
-/
import Derived.Test.YtldlbiodllgflaaGreatDoorRows
import GoSem.ClaimSeven
namespace Go.Proofs.YtldlbiodllgflaaGreatDoor
namespace Rows

/-- THE TIED CARD OF 'posthornlaw22.ClientDoes'. -/
def clientDoesCard : Claim7 := { stood := { row := clientDoesRow, standIns := [], harness := (true, "458b3f7b835326ffcb33a9ef1444bcc4243898e86dafaca732df3a15a9fe39dd"), looks := true }, kinds := [], alts := [], laidByText := true, laidKinds := [.data, .data, .data, .data, .pinned], laidTests := true, laidLooks := .later }
def ClientDoesCardSaid : Prop := Claim7.holds Tryz.pinned (.plain (OpenSpec.ofChange clientDoesSpec)) clientDoesCard

/-- THE TIED CARD OF 'posthornlaw22.ClientDone'. -/
def clientDoneCard : Claim7 := { stood := { row := clientDoneRow, standIns := [], harness := (true, "458b3f7b835326ffcb33a9ef1444bcc4243898e86dafaca732df3a15a9fe39dd"), looks := true }, kinds := [], alts := [], laidByText := true, laidKinds := [.data, .data, .data, .data, .pinned], laidTests := true, laidLooks := .later }
def ClientDoneCardSaid : Prop := Claim7.holds Tryz.pinned (.plain (OpenSpec.ofChange clientDoneSpec)) clientDoneCard

/-- THE TIED CARD OF 'posthornlaw22.ClientEnds'. -/
def clientEndsCard : Claim7 := { stood := { row := clientEndsRow, standIns := [], harness := (true, "458b3f7b835326ffcb33a9ef1444bcc4243898e86dafaca732df3a15a9fe39dd"), looks := true }, kinds := [], alts := [], laidByText := true, laidKinds := [.data, .data, .data, .data, .pinned], laidTests := true, laidLooks := .later }
def ClientEndsCardSaid : Prop := Claim7.holds Tryz.pinned (.plain (OpenSpec.ofChange clientEndsSpec)) clientEndsCard

/-- THE TIED CARD OF 'posthornlaw22.ClientSays'. -/
def clientSaysCard : Claim7 := { stood := { row := clientSaysRow, standIns := [], harness := (true, "458b3f7b835326ffcb33a9ef1444bcc4243898e86dafaca732df3a15a9fe39dd"), looks := true }, kinds := [], alts := [], laidByText := true, laidKinds := [.data, .data, .data, .data, .sentinel, .sentinel, .pinned], laidTests := true, laidLooks := .later }
def ClientSaysCardSaid : Prop := Claim7.holds Tryz.pinned (.plain (OpenSpec.ofChange clientSaysSpec)) clientSaysCard

/-- THE TIED CARD OF 'posthornlaw22.ClientHello'. -/
def clientHelloCard : Claim7 := { stood := { row := clientHelloRow, standIns := [], harness := (true, "458b3f7b835326ffcb33a9ef1444bcc4243898e86dafaca732df3a15a9fe39dd"), looks := true }, kinds := [], alts := [], laidByText := true, laidKinds := [.data, .data, .data, .data, .sentinel, .sentinel, .pinned], laidTests := true, laidLooks := .later }
def ClientHelloCardSaid : Prop := Claim7.holds Tryz.pinned (.plain (OpenSpec.ofChange clientHelloSpec)) clientHelloCard

/-- THE SECOND FORM's CARD OF 'posthornlaw22.ClientDoes'. -/
def clientDoesUptoCard : Claim7 := { stood := { row := clientDoesUptoRow, standIns := [], harness := (true, "458b3f7b835326ffcb33a9ef1444bcc4243898e86dafaca732df3a15a9fe39dd"), looks := true }, kinds := [], alts := [], laidByText := true, laidKinds := [.data, .data, .data, .data, .pinned], laidTests := true, laidLooks := .later }
def ClientDoesUptoCardSaid : Prop := Claim7.holds Tryz.pinned (.plain (OpenSpec.upto clientDoesSpec)) clientDoesUptoCard

/-- THE SECOND FORM's CARD OF 'posthornlaw22.ClientDone'. -/
def clientDoneUptoCard : Claim7 := { stood := { row := clientDoneUptoRow, standIns := [], harness := (true, "458b3f7b835326ffcb33a9ef1444bcc4243898e86dafaca732df3a15a9fe39dd"), looks := true }, kinds := [], alts := [], laidByText := true, laidKinds := [.data, .data, .data, .data, .pinned], laidTests := true, laidLooks := .later }
def ClientDoneUptoCardSaid : Prop := Claim7.holds Tryz.pinned (.plain (OpenSpec.upto clientDoneSpec)) clientDoneUptoCard

/-- THE SECOND FORM's CARD OF 'posthornlaw22.ClientEnds'. -/
def clientEndsUptoCard : Claim7 := { stood := { row := clientEndsUptoRow, standIns := [], harness := (true, "458b3f7b835326ffcb33a9ef1444bcc4243898e86dafaca732df3a15a9fe39dd"), looks := true }, kinds := [], alts := [], laidByText := true, laidKinds := [.data, .data, .data, .data, .pinned], laidTests := true, laidLooks := .later }
def ClientEndsUptoCardSaid : Prop := Claim7.holds Tryz.pinned (.plain (OpenSpec.upto clientEndsSpec)) clientEndsUptoCard

/-- THE SECOND FORM's CARD OF 'posthornlaw22.ClientSays'. -/
def clientSaysUptoCard : Claim7 := { stood := { row := clientSaysUptoRow, standIns := [], harness := (true, "458b3f7b835326ffcb33a9ef1444bcc4243898e86dafaca732df3a15a9fe39dd"), looks := true }, kinds := [], alts := [], laidByText := true, laidKinds := [.data, .data, .data, .data, .sentinel, .sentinel, .pinned], laidTests := true, laidLooks := .later }
def ClientSaysUptoCardSaid : Prop := Claim7.holds Tryz.pinned (.plain (OpenSpec.upto clientSaysSpec)) clientSaysUptoCard

/-- THE SECOND FORM's CARD OF 'posthornlaw22.ClientHello'. -/
def clientHelloUptoCard : Claim7 := { stood := { row := clientHelloUptoRow, standIns := [], harness := (true, "458b3f7b835326ffcb33a9ef1444bcc4243898e86dafaca732df3a15a9fe39dd"), looks := true }, kinds := [], alts := [], laidByText := true, laidKinds := [.data, .data, .data, .data, .sentinel, .sentinel, .pinned], laidTests := true, laidLooks := .later }
def ClientHelloUptoCardSaid : Prop := Claim7.holds Tryz.pinned (.plain (OpenSpec.upto clientHelloSpec)) clientHelloUptoCard
end Rows
end Go.Proofs.YtldlbiodllgflaaGreatDoor
