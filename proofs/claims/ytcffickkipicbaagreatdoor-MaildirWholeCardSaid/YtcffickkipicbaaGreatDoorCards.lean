/-
  DERIVED. GIVEN WITH THE SEED: THE CARDS: each row of YtcffickkipicbaaGreatDoorRows.lean that lists a variable, with what it lists TIED to the program's text (the seventh form; the later family's looks); each row that meets fmt, with fmt's text TOLD by the authors' own Lean function (tested against real Go, not proved from fmt's source: count such statements apart). THE CARD IS WHAT COUNTS. Prove the row's statement (the work); the ties are given (YtcffickkipicbaaGreatDoorTie.lean); close each card by the builder's one call (the guide's Derived/Test/ToyasCard.lean, 'card_holds'). Laid BY PROGRAM, IN A SANDBOX (cutbox-door.mjs). By AI agents, Wed Nov 11 2026. No macro, syntax, notation, axiom, sorry.
-/
import Derived.Test.YtcffickkipicbaaGreatDoorRows
import GoSem.ClaimSeven
namespace Go.Proofs.YtcffickkipicbaaGreatDoor
namespace Rows

/-- THE TIED CARD OF 'posthornlaw19.MaildirNames'. -/
def maildirNamesCard : Claim7 := { stood := { row := maildirNamesRow, standIns := [], harness := (true, "aa9bbf633786f108e5a4c14ac18de937b023f78f167c7c0d8c2b376609812a2f"), looks := true }, kinds := [], alts := [], laidByText := true, laidKinds := [.data, .data, .data, .sentinel, .sentinel], laidTests := true, laidLooks := .later }
def MaildirNamesCardSaid : Prop := Claim7.holds Tryz.pinned (.plain (OpenSpec.ofChange maildirNamesSpec)) maildirNamesCard

/-- THE TIED CARD OF 'posthornlaw19.MaildirOrder'. -/
def maildirOrderCard : Claim7 := { stood := { row := maildirOrderRow, standIns := [], harness := (true, "aa9bbf633786f108e5a4c14ac18de937b023f78f167c7c0d8c2b376609812a2f"), looks := true }, kinds := [], alts := [], laidByText := true, laidKinds := [.data, .data, .data, .sentinel, .sentinel], laidTests := true, laidLooks := .later }
def MaildirOrderCardSaid : Prop := Claim7.holds Tryz.pinned (.plain (OpenSpec.ofChange maildirOrderSpec)) maildirOrderCard

/-- THE TIED CARD OF 'posthornlaw19.MaildirOnce'. -/
def maildirOnceCard : Claim7 := { stood := { row := maildirOnceRow, standIns := [], harness := (true, "aa9bbf633786f108e5a4c14ac18de937b023f78f167c7c0d8c2b376609812a2f"), looks := true }, kinds := [], alts := [], laidByText := true, laidKinds := [.data, .data, .data, .sentinel, .sentinel], laidTests := true, laidLooks := .later }
def MaildirOnceCardSaid : Prop := Claim7.holds Tryz.pinned (.plain (OpenSpec.ofChange maildirOnceSpec)) maildirOnceCard

/-- THE TIED CARD OF 'posthornlaw19.MaildirLeft'. -/
def maildirLeftCard : Claim7 := { stood := { row := maildirLeftRow, standIns := [], harness := (true, "aa9bbf633786f108e5a4c14ac18de937b023f78f167c7c0d8c2b376609812a2f"), looks := true }, kinds := [], alts := [], laidByText := true, laidKinds := [.data, .data, .data, .sentinel, .sentinel], laidTests := true, laidLooks := .later }
def MaildirLeftCardSaid : Prop := Claim7.holds Tryz.pinned (.plain (OpenSpec.ofChange maildirLeftSpec)) maildirLeftCard

/-- THE TIED CARD OF 'posthornlaw19.MaildirDoes'. -/
def maildirDoesCard : Claim7 := { stood := { row := maildirDoesRow, standIns := [], harness := (true, "aa9bbf633786f108e5a4c14ac18de937b023f78f167c7c0d8c2b376609812a2f"), looks := true }, kinds := [], alts := [], laidByText := true, laidKinds := [.data, .data, .data, .sentinel, .sentinel], laidTests := true, laidLooks := .later }
def MaildirDoesCardSaid : Prop := Claim7.holds Tryz.pinned (.plain (OpenSpec.ofChange maildirDoesSpec)) maildirDoesCard

/-- THE TIED CARD OF 'posthornlaw19.MaildirWhole'. -/
def maildirWholeCard : Claim7 := { stood := { row := maildirWholeRow, standIns := [], harness := (true, "aa9bbf633786f108e5a4c14ac18de937b023f78f167c7c0d8c2b376609812a2f"), looks := true }, kinds := [], alts := [], laidByText := true, laidKinds := [.data, .data, .data, .sentinel, .sentinel], laidTests := true, laidLooks := .later }
def MaildirWholeCardSaid : Prop := Claim7.holds Tryz.pinned (.plain (OpenSpec.ofChange maildirWholeSpec)) maildirWholeCard

/-- THE SECOND FORM's CARD OF 'posthornlaw19.MaildirNames'. -/
def maildirNamesUptoCard : Claim7 := { stood := { row := maildirNamesUptoRow, standIns := [], harness := (true, "aa9bbf633786f108e5a4c14ac18de937b023f78f167c7c0d8c2b376609812a2f"), looks := true }, kinds := [], alts := [], laidByText := true, laidKinds := [.data, .data, .data, .sentinel, .sentinel], laidTests := true, laidLooks := .later }
def MaildirNamesUptoCardSaid : Prop := Claim7.holds Tryz.pinned (.plain (OpenSpec.upto maildirNamesSpec)) maildirNamesUptoCard

/-- THE SECOND FORM's CARD OF 'posthornlaw19.MaildirOrder'. -/
def maildirOrderUptoCard : Claim7 := { stood := { row := maildirOrderUptoRow, standIns := [], harness := (true, "aa9bbf633786f108e5a4c14ac18de937b023f78f167c7c0d8c2b376609812a2f"), looks := true }, kinds := [], alts := [], laidByText := true, laidKinds := [.data, .data, .data, .sentinel, .sentinel], laidTests := true, laidLooks := .later }
def MaildirOrderUptoCardSaid : Prop := Claim7.holds Tryz.pinned (.plain (OpenSpec.upto maildirOrderSpec)) maildirOrderUptoCard

/-- THE SECOND FORM's CARD OF 'posthornlaw19.MaildirOnce'. -/
def maildirOnceUptoCard : Claim7 := { stood := { row := maildirOnceUptoRow, standIns := [], harness := (true, "aa9bbf633786f108e5a4c14ac18de937b023f78f167c7c0d8c2b376609812a2f"), looks := true }, kinds := [], alts := [], laidByText := true, laidKinds := [.data, .data, .data, .sentinel, .sentinel], laidTests := true, laidLooks := .later }
def MaildirOnceUptoCardSaid : Prop := Claim7.holds Tryz.pinned (.plain (OpenSpec.upto maildirOnceSpec)) maildirOnceUptoCard

/-- THE SECOND FORM's CARD OF 'posthornlaw19.MaildirLeft'. -/
def maildirLeftUptoCard : Claim7 := { stood := { row := maildirLeftUptoRow, standIns := [], harness := (true, "aa9bbf633786f108e5a4c14ac18de937b023f78f167c7c0d8c2b376609812a2f"), looks := true }, kinds := [], alts := [], laidByText := true, laidKinds := [.data, .data, .data, .sentinel, .sentinel], laidTests := true, laidLooks := .later }
def MaildirLeftUptoCardSaid : Prop := Claim7.holds Tryz.pinned (.plain (OpenSpec.upto maildirLeftSpec)) maildirLeftUptoCard

/-- THE SECOND FORM's CARD OF 'posthornlaw19.MaildirDoes'. -/
def maildirDoesUptoCard : Claim7 := { stood := { row := maildirDoesUptoRow, standIns := [], harness := (true, "aa9bbf633786f108e5a4c14ac18de937b023f78f167c7c0d8c2b376609812a2f"), looks := true }, kinds := [], alts := [], laidByText := true, laidKinds := [.data, .data, .data, .sentinel, .sentinel], laidTests := true, laidLooks := .later }
def MaildirDoesUptoCardSaid : Prop := Claim7.holds Tryz.pinned (.plain (OpenSpec.upto maildirDoesSpec)) maildirDoesUptoCard

/-- THE SECOND FORM's CARD OF 'posthornlaw19.MaildirWhole'. -/
def maildirWholeUptoCard : Claim7 := { stood := { row := maildirWholeUptoRow, standIns := [], harness := (true, "aa9bbf633786f108e5a4c14ac18de937b023f78f167c7c0d8c2b376609812a2f"), looks := true }, kinds := [], alts := [], laidByText := true, laidKinds := [.data, .data, .data, .sentinel, .sentinel], laidTests := true, laidLooks := .later }
def MaildirWholeUptoCardSaid : Prop := Claim7.holds Tryz.pinned (.plain (OpenSpec.upto maildirWholeSpec)) maildirWholeUptoCard
end Rows
end Go.Proofs.YtcffickkipicbaaGreatDoor
