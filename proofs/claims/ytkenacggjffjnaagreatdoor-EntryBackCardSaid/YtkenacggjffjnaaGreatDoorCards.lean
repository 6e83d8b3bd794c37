/-
  DERIVED. GIVEN WITH THE SEED: THE CARDS: each row of YtkenacggjffjnaaGreatDoorRows.lean that lists a variable, with what it lists TIED to the program's text (the seventh form; the later family's looks); each row that meets fmt, with fmt's text TOLD by the authors' own Lean function (tested against real Go, not proved from fmt's source: count such statements apart). THE CARD IS WHAT COUNTS. Prove the row's statement (the work); the ties are given (YtkenacggjffjnaaGreatDoorTie.lean); close each card by the builder's one call (the guide's Derived/Test/ToyasCard.lean, 'card_holds'). Laid BY PROGRAM, IN A SANDBOX (cutbox-door.mjs). By AI agents, Wed Nov 11 2026. No macro, syntax, notation, axiom, sorry.
-/
import Derived.Test.YtkenacggjffjnaaGreatDoorRows
import GoSem.ClaimSeven
namespace Go.Proofs.YtkenacggjffjnaaGreatDoor
namespace Rows

/-- THE TIED CARD OF 'posthornlaw15.EntryHeads'. -/
def entryHeadsCard : Claim7 := { stood := { row := entryHeadsRow, standIns := [], harness := (true, "d85a0959a6c3d6360a9bdd9a0c5c5a25409b763e3f0a94d8cded54b3f0c256f1"), looks := false }, kinds := [], alts := [], laidByText := true, laidKinds := [.data, .data, .data, .data, .pinned], laidTests := true, laidLooks := .later }
def EntryHeadsCardSaid : Prop := Claim7.holds Tryz.pinned (.plain (OpenSpec.ofChange entryHeadsSpec)) entryHeadsCard

/-- THE TIED CARD OF 'posthornlaw15.EntryFills'. -/
def entryFillsCard : Claim7 := { stood := { row := entryFillsRow, standIns := [], harness := (true, "d85a0959a6c3d6360a9bdd9a0c5c5a25409b763e3f0a94d8cded54b3f0c256f1"), looks := false }, kinds := [], alts := [], laidByText := true, laidKinds := [.data, .data, .data, .data, .pinned], laidTests := true, laidLooks := .later }
def EntryFillsCardSaid : Prop := Claim7.holds Tryz.pinned (.plain (OpenSpec.ofChange entryFillsSpec)) entryFillsCard

/-- THE TIED CARD OF 'posthornlaw15.EntryBuckets'. -/
def entryBucketsCard : Claim7 := { stood := { row := entryBucketsRow, standIns := [], harness := (true, "d85a0959a6c3d6360a9bdd9a0c5c5a25409b763e3f0a94d8cded54b3f0c256f1"), looks := false }, kinds := [], alts := [], laidByText := true, laidKinds := [.data, .data, .data, .data, .pinned], laidTests := true, laidLooks := .later }
def EntryBucketsCardSaid : Prop := Claim7.holds Tryz.pinned (.plain (OpenSpec.ofChange entryBucketsSpec)) entryBucketsCard

/-- THE TIED CARD OF 'posthornlaw15.EntryTurned'. -/
def entryTurnedCard : Claim7 := { stood := { row := entryTurnedRow, standIns := [], harness := (true, "d85a0959a6c3d6360a9bdd9a0c5c5a25409b763e3f0a94d8cded54b3f0c256f1"), looks := false }, kinds := [], alts := [], laidByText := true, laidKinds := [.data, .data, .data, .data, .pinned], laidTests := true, laidLooks := .later }
def EntryTurnedCardSaid : Prop := Claim7.holds Tryz.pinned (.plain (OpenSpec.ofChange entryTurnedSpec)) entryTurnedCard

/-- THE TIED CARD OF 'posthornlaw15.EntryFiles'. -/
def entryFilesCard : Claim7 := { stood := { row := entryFilesRow, standIns := [], harness := (true, "d85a0959a6c3d6360a9bdd9a0c5c5a25409b763e3f0a94d8cded54b3f0c256f1"), looks := false }, kinds := [], alts := [], laidByText := true, laidKinds := [.data, .data, .data, .data, .pinned], laidTests := true, laidLooks := .later }
def EntryFilesCardSaid : Prop := Claim7.holds Tryz.pinned (.plain (OpenSpec.ofChange entryFilesSpec)) entryFilesCard

/-- THE TIED CARD OF 'posthornlaw15.EntryBack'. -/
def entryBackCard : Claim7 := { stood := { row := entryBackRow, standIns := [], harness := (true, "d85a0959a6c3d6360a9bdd9a0c5c5a25409b763e3f0a94d8cded54b3f0c256f1"), looks := false }, kinds := [], alts := [], laidByText := true, laidKinds := [.data, .data, .data, .data, .pinned], laidTests := true, laidLooks := .later }
def EntryBackCardSaid : Prop := Claim7.holds Tryz.pinned (.plain (OpenSpec.ofChange entryBackSpec)) entryBackCard

/-- THE SECOND FORM's CARD OF 'posthornlaw15.EntryHeads'. -/
def entryHeadsUptoCard : Claim7 := { stood := { row := entryHeadsUptoRow, standIns := [], harness := (true, "d85a0959a6c3d6360a9bdd9a0c5c5a25409b763e3f0a94d8cded54b3f0c256f1"), looks := false }, kinds := [], alts := [], laidByText := true, laidKinds := [.data, .data, .data, .data, .pinned], laidTests := true, laidLooks := .later }
def EntryHeadsUptoCardSaid : Prop := Claim7.holds Tryz.pinned (.plain (OpenSpec.upto entryHeadsSpec)) entryHeadsUptoCard

/-- THE SECOND FORM's CARD OF 'posthornlaw15.EntryFills'. -/
def entryFillsUptoCard : Claim7 := { stood := { row := entryFillsUptoRow, standIns := [], harness := (true, "d85a0959a6c3d6360a9bdd9a0c5c5a25409b763e3f0a94d8cded54b3f0c256f1"), looks := false }, kinds := [], alts := [], laidByText := true, laidKinds := [.data, .data, .data, .data, .pinned], laidTests := true, laidLooks := .later }
def EntryFillsUptoCardSaid : Prop := Claim7.holds Tryz.pinned (.plain (OpenSpec.upto entryFillsSpec)) entryFillsUptoCard

/-- THE SECOND FORM's CARD OF 'posthornlaw15.EntryBuckets'. -/
def entryBucketsUptoCard : Claim7 := { stood := { row := entryBucketsUptoRow, standIns := [], harness := (true, "d85a0959a6c3d6360a9bdd9a0c5c5a25409b763e3f0a94d8cded54b3f0c256f1"), looks := false }, kinds := [], alts := [], laidByText := true, laidKinds := [.data, .data, .data, .data, .pinned], laidTests := true, laidLooks := .later }
def EntryBucketsUptoCardSaid : Prop := Claim7.holds Tryz.pinned (.plain (OpenSpec.upto entryBucketsSpec)) entryBucketsUptoCard

/-- THE SECOND FORM's CARD OF 'posthornlaw15.EntryTurned'. -/
def entryTurnedUptoCard : Claim7 := { stood := { row := entryTurnedUptoRow, standIns := [], harness := (true, "d85a0959a6c3d6360a9bdd9a0c5c5a25409b763e3f0a94d8cded54b3f0c256f1"), looks := false }, kinds := [], alts := [], laidByText := true, laidKinds := [.data, .data, .data, .data, .pinned], laidTests := true, laidLooks := .later }
def EntryTurnedUptoCardSaid : Prop := Claim7.holds Tryz.pinned (.plain (OpenSpec.upto entryTurnedSpec)) entryTurnedUptoCard

/-- THE SECOND FORM's CARD OF 'posthornlaw15.EntryFiles'. -/
def entryFilesUptoCard : Claim7 := { stood := { row := entryFilesUptoRow, standIns := [], harness := (true, "d85a0959a6c3d6360a9bdd9a0c5c5a25409b763e3f0a94d8cded54b3f0c256f1"), looks := false }, kinds := [], alts := [], laidByText := true, laidKinds := [.data, .data, .data, .data, .pinned], laidTests := true, laidLooks := .later }
def EntryFilesUptoCardSaid : Prop := Claim7.holds Tryz.pinned (.plain (OpenSpec.upto entryFilesSpec)) entryFilesUptoCard

/-- THE SECOND FORM's CARD OF 'posthornlaw15.EntryBack'. -/
def entryBackUptoCard : Claim7 := { stood := { row := entryBackUptoRow, standIns := [], harness := (true, "d85a0959a6c3d6360a9bdd9a0c5c5a25409b763e3f0a94d8cded54b3f0c256f1"), looks := false }, kinds := [], alts := [], laidByText := true, laidKinds := [.data, .data, .data, .data, .pinned], laidTests := true, laidLooks := .later }
def EntryBackUptoCardSaid : Prop := Claim7.holds Tryz.pinned (.plain (OpenSpec.upto entryBackSpec)) entryBackUptoCard
end Rows
end Go.Proofs.YtkenacggjffjnaaGreatDoor
