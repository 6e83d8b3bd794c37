/-
  DERIVED. GIVEN WITH THE SEED: THE CARDS: each row of YtapenolbbofjkaaGreatDoorRows.lean that lists a variable, with what it lists TIED to the program's text (the seventh form; the later family's looks); each row that meets fmt, with fmt's text TOLD by the authors' own Lean function (tested against real Go, not proved from fmt's source: count such statements apart). THE CARD IS WHAT COUNTS. Prove the row's statement (the work); the ties are given (YtapenolbbofjkaaGreatDoorTie.lean); close each card by the builder's one call (the guide's Derived/Test/ToyasCard.lean, 'card_holds'). Laid BY PROGRAM, IN A SANDBOX (cutbox-door.mjs). By AI agents, Wed Nov 11 2026. No macro, syntax, notation, axiom, sorry.
-/
import Derived.Test.YtapenolbbofjkaaGreatDoorRows
import GoSem.ClaimSeven
namespace Go.Proofs.YtapenolbbofjkaaGreatDoor
namespace Rows

/-- THE TIED CARD OF 'posthornlaw21.ServerPieces'. -/
def serverPiecesCard : Claim7 := { stood := { row := serverPiecesRow, standIns := [], harness := (true, "6860827743f8a68521b3f3a06694c6b26e10b1af57f11ef6ec251b9ad5b1c076"), looks := true }, kinds := [], alts := [], laidByText := true, laidKinds := [.data, .data, .data, .data, .sentinel, .sentinel, .pinned], laidTests := true, laidLooks := .later }
def ServerPiecesCardSaid : Prop := Claim7.holds Tryz.pinned (.plain (OpenSpec.ofChange serverPiecesSpec)) serverPiecesCard

/-- THE TIED CARD OF 'posthornlaw21.ServerTakes'. -/
def serverTakesCard : Claim7 := { stood := { row := serverTakesRow, standIns := [], harness := (true, "6860827743f8a68521b3f3a06694c6b26e10b1af57f11ef6ec251b9ad5b1c076"), looks := true }, kinds := [], alts := [], laidByText := true, laidKinds := [.data, .data, .data, .data, .sentinel, .sentinel, .pinned], laidTests := true, laidLooks := .later }
def ServerTakesCardSaid : Prop := Claim7.holds Tryz.pinned (.plain (OpenSpec.ofChange serverTakesSpec)) serverTakesCard

/-- THE TIED CARD OF 'posthornlaw21.ServerOffers'. -/
def serverOffersCard : Claim7 := { stood := { row := serverOffersRow, standIns := [], harness := (true, "6860827743f8a68521b3f3a06694c6b26e10b1af57f11ef6ec251b9ad5b1c076"), looks := true }, kinds := [], alts := [], laidByText := true, laidKinds := [.data, .data, .data, .data, .sentinel, .sentinel, .pinned], laidTests := true, laidLooks := .later }
def ServerOffersCardSaid : Prop := Claim7.holds Tryz.pinned (.plain (OpenSpec.ofChange serverOffersSpec)) serverOffersCard

/-- THE TIED CARD OF 'posthornlaw21.ServerEnds'. -/
def serverEndsCard : Claim7 := { stood := { row := serverEndsRow, standIns := [], harness := (true, "6860827743f8a68521b3f3a06694c6b26e10b1af57f11ef6ec251b9ad5b1c076"), looks := true }, kinds := [], alts := [], laidByText := true, laidKinds := [.data, .data, .data, .data, .sentinel, .sentinel, .pinned], laidTests := true, laidLooks := .later }
def ServerEndsCardSaid : Prop := Claim7.holds Tryz.pinned (.plain (OpenSpec.ofChange serverEndsSpec)) serverEndsCard

/-- THE TIED CARD OF 'posthornlaw22.ClientServer'. -/
def clientServerCard : Claim7 := { stood := { row := clientServerRow, standIns := [], harness := (true, "6860827743f8a68521b3f3a06694c6b26e10b1af57f11ef6ec251b9ad5b1c076"), looks := true }, kinds := [], alts := [], laidByText := true, laidKinds := [.data, .data, .data, .data, .sentinel, .sentinel, .pinned], laidTests := true, laidLooks := .later }
def ClientServerCardSaid : Prop := Claim7.holds Tryz.pinned (.plain (OpenSpec.ofChange clientServerSpec)) clientServerCard

/-- THE SECOND FORM's CARD OF 'posthornlaw21.ServerPieces'. -/
def serverPiecesUptoCard : Claim7 := { stood := { row := serverPiecesUptoRow, standIns := [], harness := (true, "6860827743f8a68521b3f3a06694c6b26e10b1af57f11ef6ec251b9ad5b1c076"), looks := true }, kinds := [], alts := [], laidByText := true, laidKinds := [.data, .data, .data, .data, .sentinel, .sentinel, .pinned], laidTests := true, laidLooks := .later }
def ServerPiecesUptoCardSaid : Prop := Claim7.holds Tryz.pinned (.plain (OpenSpec.upto serverPiecesSpec)) serverPiecesUptoCard

/-- THE SECOND FORM's CARD OF 'posthornlaw21.ServerTakes'. -/
def serverTakesUptoCard : Claim7 := { stood := { row := serverTakesUptoRow, standIns := [], harness := (true, "6860827743f8a68521b3f3a06694c6b26e10b1af57f11ef6ec251b9ad5b1c076"), looks := true }, kinds := [], alts := [], laidByText := true, laidKinds := [.data, .data, .data, .data, .sentinel, .sentinel, .pinned], laidTests := true, laidLooks := .later }
def ServerTakesUptoCardSaid : Prop := Claim7.holds Tryz.pinned (.plain (OpenSpec.upto serverTakesSpec)) serverTakesUptoCard

/-- THE SECOND FORM's CARD OF 'posthornlaw21.ServerOffers'. -/
def serverOffersUptoCard : Claim7 := { stood := { row := serverOffersUptoRow, standIns := [], harness := (true, "6860827743f8a68521b3f3a06694c6b26e10b1af57f11ef6ec251b9ad5b1c076"), looks := true }, kinds := [], alts := [], laidByText := true, laidKinds := [.data, .data, .data, .data, .sentinel, .sentinel, .pinned], laidTests := true, laidLooks := .later }
def ServerOffersUptoCardSaid : Prop := Claim7.holds Tryz.pinned (.plain (OpenSpec.upto serverOffersSpec)) serverOffersUptoCard

/-- THE SECOND FORM's CARD OF 'posthornlaw21.ServerEnds'. -/
def serverEndsUptoCard : Claim7 := { stood := { row := serverEndsUptoRow, standIns := [], harness := (true, "6860827743f8a68521b3f3a06694c6b26e10b1af57f11ef6ec251b9ad5b1c076"), looks := true }, kinds := [], alts := [], laidByText := true, laidKinds := [.data, .data, .data, .data, .sentinel, .sentinel, .pinned], laidTests := true, laidLooks := .later }
def ServerEndsUptoCardSaid : Prop := Claim7.holds Tryz.pinned (.plain (OpenSpec.upto serverEndsSpec)) serverEndsUptoCard

/-- THE SECOND FORM's CARD OF 'posthornlaw22.ClientServer'. -/
def clientServerUptoCard : Claim7 := { stood := { row := clientServerUptoRow, standIns := [], harness := (true, "6860827743f8a68521b3f3a06694c6b26e10b1af57f11ef6ec251b9ad5b1c076"), looks := true }, kinds := [], alts := [], laidByText := true, laidKinds := [.data, .data, .data, .data, .sentinel, .sentinel, .pinned], laidTests := true, laidLooks := .later }
def ClientServerUptoCardSaid : Prop := Claim7.holds Tryz.pinned (.plain (OpenSpec.upto clientServerSpec)) clientServerUptoCard
end Rows
end Go.Proofs.YtapenolbbofjkaaGreatDoor
