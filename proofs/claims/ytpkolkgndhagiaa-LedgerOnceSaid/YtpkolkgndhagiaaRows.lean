/-
  No cell of these rows narrows 'for every input' (looked for: loops, veiled, ifaces, maps, wideKeys, modest, calm, conditions, laid).
  DERIVED. THE GIVEN ROWS OF THIS SEAT. 10 by the template 'for every input the law returns true; each argument reads behind the call as it read before'; 0 by the template 'total and deterministic' (their statements: YtpkolkgndhagiaaTotals.lean).
  GIVEN WITH THE SEED: the statements are not yours to turn. If you find one false, say at which input.
  Laid BY PROGRAM, IN A SANDBOX (cutbox-rows.mjs): the forced cells as the released guide's own fill.sh prints them over the translation 113b685117ff69a9… (all of the seat's roots in one cut). By AI agents, Wed Nov 11 2026. No macro, syntax, notation, axiom, sorry.
-/
import Derived.Test.YtpkolkgndhagiaaChecked
import GoSem.Claim
import GoSem.ClaimJoined
import GoSem.ClaimMapViews
import Derived.JoinedTies
import Derived.KernelRfl
namespace Go.Proofs.Ytpkolkgndhagiaa
/- THE CELL 'sum', in the pinned program and in every row, IS THE sha256 OF THE DUMP (.gsa) THAT YtpkolkgndhagiaaProg.lean LOADS. Nothing in Lean hashes anything: it is a label: what it is worth is what the hold of that sum in a sandbox is worth. -/
noncomputable def Try.pinned : Pinned := { name := "ytpkolkgndhagiaa", sum := "113b685117ff69a90ea0981e281487fb2193f8b6b294b1c61a83bc6f1ac5eb1f", checked := Try.checked }
namespace Rows
def none {H : Type} : Left H := { results := [], args := [] }

/-- 'posthornlaw13.LedgerRows': WHATEVER THE INPUT: true; the input reads as it did. -/
def ledgerRowsSpec : ChangeSpec := { name := "ledgerRows", fn := fun _ => fun
  | [d1, d2] => { results := [.lit (.bool true)], args := [d1, d2] }
  | _ => none }
def ledgerRowsRow : OpenClaim := { program := "ytpkolkgndhagiaa", sum := "113b685117ff69a90ea0981e281487fb2193f8b6b294b1c61a83bc6f1ac5eb1f", func := "posthorn/posthornlaw13.LedgerRows", spec := "ledgerRows", inPlace := ["internal/bytealg.IndexByteString", "maps.clone", "internal/abi.NoEscape"], unfollowed := true, recurses := true, plainKeys := false, apart := false }
def LedgerRowsSaid : Prop := ledgerRowsRow.holds Try.pinned (OpenSpec.ofChange ledgerRowsSpec)

/-- ITS FALSE NEIGHBOUR: 'it returns false'. Refute it at one input. -/
def ledgerRowsWrong : ChangeSpec := { name := "ledgerRows", fn := fun _ => fun
  | [d1, d2] => { results := [.lit (.bool false)], args := [d1, d2] }
  | _ => none }
def LedgerRowsWrongFalsely : Prop := ledgerRowsRow.holds Try.pinned (OpenSpec.ofChange ledgerRowsWrong)

/-- 'posthornlaw13.LedgerSpent': WHATEVER THE INPUT: true; the input reads as it did. -/
def ledgerSpentSpec : ChangeSpec := { name := "ledgerSpent", fn := fun _ => fun
  | [d1, d2, d3, d4] => { results := [.lit (.bool true)], args := [d1, d2, d3, d4] }
  | _ => none }
def ledgerSpentRow : OpenClaim := { program := "ytpkolkgndhagiaa", sum := "113b685117ff69a90ea0981e281487fb2193f8b6b294b1c61a83bc6f1ac5eb1f", func := "posthorn/posthornlaw13.LedgerSpent", spec := "ledgerSpent", inPlace := ["internal/bytealg.IndexByteString", "maps.clone", "internal/abi.NoEscape"], unfollowed := true, recurses := true, plainKeys := false, apart := false }
def LedgerSpentSaid : Prop := ledgerSpentRow.holds Try.pinned (OpenSpec.ofChange ledgerSpentSpec)

/-- ITS FALSE NEIGHBOUR: 'it returns false'. Refute it at one input. -/
def ledgerSpentWrong : ChangeSpec := { name := "ledgerSpent", fn := fun _ => fun
  | [d1, d2, d3, d4] => { results := [.lit (.bool false)], args := [d1, d2, d3, d4] }
  | _ => none }
def LedgerSpentWrongFalsely : Prop := ledgerSpentRow.holds Try.pinned (OpenSpec.ofChange ledgerSpentWrong)

/-- 'posthornlaw13.LedgerFile': WHATEVER THE INPUT: true; the input reads as it did. -/
def ledgerFileSpec : ChangeSpec := { name := "ledgerFile", fn := fun _ => fun
  | [d1, d2] => { results := [.lit (.bool true)], args := [d1, d2] }
  | _ => none }
def ledgerFileRow : OpenClaim := { program := "ytpkolkgndhagiaa", sum := "113b685117ff69a90ea0981e281487fb2193f8b6b294b1c61a83bc6f1ac5eb1f", func := "posthorn/posthornlaw13.LedgerFile", spec := "ledgerFile", inPlace := ["internal/bytealg.IndexByteString", "maps.clone", "internal/abi.NoEscape"], unfollowed := true, recurses := true, plainKeys := false, apart := false }
def LedgerFileSaid : Prop := ledgerFileRow.holds Try.pinned (OpenSpec.ofChange ledgerFileSpec)

/-- ITS FALSE NEIGHBOUR: 'it returns false'. Refute it at one input. -/
def ledgerFileWrong : ChangeSpec := { name := "ledgerFile", fn := fun _ => fun
  | [d1, d2] => { results := [.lit (.bool false)], args := [d1, d2] }
  | _ => none }
def LedgerFileWrongFalsely : Prop := ledgerFileRow.holds Try.pinned (OpenSpec.ofChange ledgerFileWrong)

/-- 'posthornlaw13.LedgerAhead': WHATEVER THE INPUT: true; the input reads as it did. -/
def ledgerAheadSpec : ChangeSpec := { name := "ledgerAhead", fn := fun _ => fun
  | [d1, d2, d3, d4] => { results := [.lit (.bool true)], args := [d1, d2, d3, d4] }
  | _ => none }
def ledgerAheadRow : OpenClaim := { program := "ytpkolkgndhagiaa", sum := "113b685117ff69a90ea0981e281487fb2193f8b6b294b1c61a83bc6f1ac5eb1f", func := "posthorn/posthornlaw13.LedgerAhead", spec := "ledgerAhead", inPlace := ["internal/bytealg.IndexByteString", "maps.clone", "internal/abi.NoEscape"], unfollowed := true, recurses := true, plainKeys := false, apart := false }
def LedgerAheadSaid : Prop := ledgerAheadRow.holds Try.pinned (OpenSpec.ofChange ledgerAheadSpec)

/-- ITS FALSE NEIGHBOUR: 'it returns false'. Refute it at one input. -/
def ledgerAheadWrong : ChangeSpec := { name := "ledgerAhead", fn := fun _ => fun
  | [d1, d2, d3, d4] => { results := [.lit (.bool false)], args := [d1, d2, d3, d4] }
  | _ => none }
def LedgerAheadWrongFalsely : Prop := ledgerAheadRow.holds Try.pinned (OpenSpec.ofChange ledgerAheadWrong)

/-- 'posthornlaw13.LedgerOnce': WHATEVER THE INPUT: true; the input reads as it did. -/
def ledgerOnceSpec : ChangeSpec := { name := "ledgerOnce", fn := fun _ => fun
  | [d1, d2, d3] => { results := [.lit (.bool true)], args := [d1, d2, d3] }
  | _ => none }
def ledgerOnceRow : OpenClaim := { program := "ytpkolkgndhagiaa", sum := "113b685117ff69a90ea0981e281487fb2193f8b6b294b1c61a83bc6f1ac5eb1f", func := "posthorn/posthornlaw13.LedgerOnce", spec := "ledgerOnce", inPlace := ["internal/bytealg.IndexByteString", "maps.clone", "internal/abi.NoEscape"], unfollowed := true, recurses := true, plainKeys := false, apart := false }
def LedgerOnceSaid : Prop := ledgerOnceRow.holds Try.pinned (OpenSpec.ofChange ledgerOnceSpec)

/-- ITS FALSE NEIGHBOUR: 'it returns false'. Refute it at one input. -/
def ledgerOnceWrong : ChangeSpec := { name := "ledgerOnce", fn := fun _ => fun
  | [d1, d2, d3] => { results := [.lit (.bool false)], args := [d1, d2, d3] }
  | _ => none }
def LedgerOnceWrongFalsely : Prop := ledgerOnceRow.holds Try.pinned (OpenSpec.ofChange ledgerOnceWrong)

/-- 'posthornlaw14.RingKeys': WHATEVER THE INPUT: true; the input reads as it did. -/
def ringKeysSpec : ChangeSpec := { name := "ringKeys", fn := fun _ => fun
  | [d1, d2, d3, d4] => { results := [.lit (.bool true)], args := [d1, d2, d3, d4] }
  | _ => none }
def ringKeysRow : OpenClaim := { program := "ytpkolkgndhagiaa", sum := "113b685117ff69a90ea0981e281487fb2193f8b6b294b1c61a83bc6f1ac5eb1f", func := "posthorn/posthornlaw14.RingKeys", spec := "ringKeys", inPlace := ["internal/bytealg.IndexByteString", "maps.clone", "internal/abi.NoEscape"], unfollowed := true, recurses := true, plainKeys := false, apart := false }
def RingKeysSaid : Prop := ringKeysRow.holds Try.pinned (OpenSpec.ofChange ringKeysSpec)

/-- ITS FALSE NEIGHBOUR: 'it returns false'. Refute it at one input. -/
def ringKeysWrong : ChangeSpec := { name := "ringKeys", fn := fun _ => fun
  | [d1, d2, d3, d4] => { results := [.lit (.bool false)], args := [d1, d2, d3, d4] }
  | _ => none }
def RingKeysWrongFalsely : Prop := ringKeysRow.holds Try.pinned (OpenSpec.ofChange ringKeysWrong)

/-- 'posthornlaw14.RingTurns': WHATEVER THE INPUT: true; the input reads as it did. -/
def ringTurnsSpec : ChangeSpec := { name := "ringTurns", fn := fun _ => fun
  | [d1, d2] => { results := [.lit (.bool true)], args := [d1, d2] }
  | _ => none }
def ringTurnsRow : OpenClaim := { program := "ytpkolkgndhagiaa", sum := "113b685117ff69a90ea0981e281487fb2193f8b6b294b1c61a83bc6f1ac5eb1f", func := "posthorn/posthornlaw14.RingTurns", spec := "ringTurns", inPlace := ["internal/bytealg.IndexByteString", "maps.clone", "internal/abi.NoEscape"], unfollowed := true, recurses := true, plainKeys := false, apart := false }
def RingTurnsSaid : Prop := ringTurnsRow.holds Try.pinned (OpenSpec.ofChange ringTurnsSpec)

/-- ITS FALSE NEIGHBOUR: 'it returns false'. Refute it at one input. -/
def ringTurnsWrong : ChangeSpec := { name := "ringTurns", fn := fun _ => fun
  | [d1, d2] => { results := [.lit (.bool false)], args := [d1, d2] }
  | _ => none }
def RingTurnsWrongFalsely : Prop := ringTurnsRow.holds Try.pinned (OpenSpec.ofChange ringTurnsWrong)

/-- 'posthornlaw14.RingFull': WHATEVER THE INPUT: true; the input reads as it did. -/
def ringFullSpec : ChangeSpec := { name := "ringFull", fn := fun _ => fun
  | [d1, d2] => { results := [.lit (.bool true)], args := [d1, d2] }
  | _ => none }
def ringFullRow : OpenClaim := { program := "ytpkolkgndhagiaa", sum := "113b685117ff69a90ea0981e281487fb2193f8b6b294b1c61a83bc6f1ac5eb1f", func := "posthorn/posthornlaw14.RingFull", spec := "ringFull", inPlace := ["internal/bytealg.IndexByteString", "maps.clone", "internal/abi.NoEscape"], unfollowed := true, recurses := true, plainKeys := false, apart := false }
def RingFullSaid : Prop := ringFullRow.holds Try.pinned (OpenSpec.ofChange ringFullSpec)

/-- ITS FALSE NEIGHBOUR: 'it returns false'. Refute it at one input. -/
def ringFullWrong : ChangeSpec := { name := "ringFull", fn := fun _ => fun
  | [d1, d2] => { results := [.lit (.bool false)], args := [d1, d2] }
  | _ => none }
def RingFullWrongFalsely : Prop := ringFullRow.holds Try.pinned (OpenSpec.ofChange ringFullWrong)

/-- 'posthornlaw14.RingAgain': WHATEVER THE INPUT: true; the input reads as it did. -/
def ringAgainSpec : ChangeSpec := { name := "ringAgain", fn := fun _ => fun
  | [d1, d2] => { results := [.lit (.bool true)], args := [d1, d2] }
  | _ => none }
def ringAgainRow : OpenClaim := { program := "ytpkolkgndhagiaa", sum := "113b685117ff69a90ea0981e281487fb2193f8b6b294b1c61a83bc6f1ac5eb1f", func := "posthorn/posthornlaw14.RingAgain", spec := "ringAgain", inPlace := ["internal/bytealg.IndexByteString", "maps.clone", "internal/abi.NoEscape"], unfollowed := true, recurses := true, plainKeys := false, apart := false }
def RingAgainSaid : Prop := ringAgainRow.holds Try.pinned (OpenSpec.ofChange ringAgainSpec)

/-- ITS FALSE NEIGHBOUR: 'it returns false'. Refute it at one input. -/
def ringAgainWrong : ChangeSpec := { name := "ringAgain", fn := fun _ => fun
  | [d1, d2] => { results := [.lit (.bool false)], args := [d1, d2] }
  | _ => none }
def RingAgainWrongFalsely : Prop := ringAgainRow.holds Try.pinned (OpenSpec.ofChange ringAgainWrong)

/-- 'posthornlaw14.RingRises': WHATEVER THE INPUT: true; the input reads as it did. -/
def ringRisesSpec : ChangeSpec := { name := "ringRises", fn := fun _ => fun
  | [d] => { results := [.lit (.bool true)], args := [d] }
  | _ => none }
def ringRisesRow : OpenClaim := { program := "ytpkolkgndhagiaa", sum := "113b685117ff69a90ea0981e281487fb2193f8b6b294b1c61a83bc6f1ac5eb1f", func := "posthorn/posthornlaw14.RingRises", spec := "ringRises", inPlace := ["internal/bytealg.IndexByteString", "maps.clone", "internal/abi.NoEscape"], unfollowed := true, recurses := true, plainKeys := false, apart := false }
def RingRisesSaid : Prop := ringRisesRow.holds Try.pinned (OpenSpec.ofChange ringRisesSpec)

/-- ITS FALSE NEIGHBOUR: 'it returns false'. Refute it at one input. -/
def ringRisesWrong : ChangeSpec := { name := "ringRises", fn := fun _ => fun
  | [d] => { results := [.lit (.bool false)], args := [d] }
  | _ => none }
def RingRisesWrongFalsely : Prop := ringRisesRow.holds Try.pinned (OpenSpec.ofChange ringRisesWrong)

/- THE SECOND FORM. 'bulk': how many values and letters a reading holds, each counted each time it is reached (what is shared counts as often as it is met; a slice's spare places count too). A statement '..UptoSaid' is the law's where the arguments, and the package variables that the reading takes, are together of bulk at most 1048576: NARROWER than '..Said'. Prove '..Said' where nothing that the law and all that it calls make is longer than what came in: it says more and counts as full. Else prove '..UptoSaid'. A law counts once. -/
mutual
def uptoBulk {H : Type} : DataW H → Nat
  | .lit (.string bytes) => bytes.length + 1
  | .lit _ => 1
  | .nil => 1
  | .ptr d => uptoBulk d + 1
  | .slice elems spare => uptoBulkAll elems + uptoBulkAll spare + 1
  | .agg parts => uptoBulkAll parts + 1
  | .iface _ d => uptoBulk d + 1
  | .map entries => uptoBulkEntries entries + 1
  | .held _ => 1
def uptoBulkAll {H : Type} : List (DataW H) → Nat
  | [] => 0
  | d :: r => uptoBulk d + uptoBulkAll r
def uptoBulkEntries {H : Type} : List (Lit × DataW H) → Nat
  | [] => 0
  | x :: r => uptoBulkEntry x + uptoBulkEntries r
def uptoBulkEntry {H : Type} : Lit × DataW H → Nat
  | (.string bytes, d) => bytes.length + uptoBulk d + 1
  | (_, d) => uptoBulk d + 1
 end
def uptoSmall : (H : Type) → List (DataW H) → Bool := fun _ ds => decide (uptoBulkAll ds ≤ 1048576)
def OpenSpec.upto (s : _root_.Go.ChangeSpec) : _root_.Go.OpenSpec := { _root_.Go.OpenSpec.ofChange s with cond := some uptoSmall }

/-- 'posthornlaw13.LedgerRows', WHERE WHAT IT READS IS OF BULK AT MOST 1048576: true; the input reads as it did. -/
def ledgerRowsUptoRow : OpenClaim := { program := "ytpkolkgndhagiaa", sum := "113b685117ff69a90ea0981e281487fb2193f8b6b294b1c61a83bc6f1ac5eb1f", func := "posthorn/posthornlaw13.LedgerRows", spec := "ledgerRows", inPlace := ["internal/bytealg.IndexByteString", "maps.clone", "internal/abi.NoEscape"], unfollowed := true, recurses := true, plainKeys := false, apart := false, narrowed := true }
def LedgerRowsUptoSaid : Prop := ledgerRowsUptoRow.holds Try.pinned (OpenSpec.upto ledgerRowsSpec)

/-- 'posthornlaw13.LedgerSpent', WHERE WHAT IT READS IS OF BULK AT MOST 1048576: true; the input reads as it did. -/
def ledgerSpentUptoRow : OpenClaim := { program := "ytpkolkgndhagiaa", sum := "113b685117ff69a90ea0981e281487fb2193f8b6b294b1c61a83bc6f1ac5eb1f", func := "posthorn/posthornlaw13.LedgerSpent", spec := "ledgerSpent", inPlace := ["internal/bytealg.IndexByteString", "maps.clone", "internal/abi.NoEscape"], unfollowed := true, recurses := true, plainKeys := false, apart := false, narrowed := true }
def LedgerSpentUptoSaid : Prop := ledgerSpentUptoRow.holds Try.pinned (OpenSpec.upto ledgerSpentSpec)

/-- 'posthornlaw13.LedgerFile', WHERE WHAT IT READS IS OF BULK AT MOST 1048576: true; the input reads as it did. -/
def ledgerFileUptoRow : OpenClaim := { program := "ytpkolkgndhagiaa", sum := "113b685117ff69a90ea0981e281487fb2193f8b6b294b1c61a83bc6f1ac5eb1f", func := "posthorn/posthornlaw13.LedgerFile", spec := "ledgerFile", inPlace := ["internal/bytealg.IndexByteString", "maps.clone", "internal/abi.NoEscape"], unfollowed := true, recurses := true, plainKeys := false, apart := false, narrowed := true }
def LedgerFileUptoSaid : Prop := ledgerFileUptoRow.holds Try.pinned (OpenSpec.upto ledgerFileSpec)

/-- 'posthornlaw13.LedgerAhead', WHERE WHAT IT READS IS OF BULK AT MOST 1048576: true; the input reads as it did. -/
def ledgerAheadUptoRow : OpenClaim := { program := "ytpkolkgndhagiaa", sum := "113b685117ff69a90ea0981e281487fb2193f8b6b294b1c61a83bc6f1ac5eb1f", func := "posthorn/posthornlaw13.LedgerAhead", spec := "ledgerAhead", inPlace := ["internal/bytealg.IndexByteString", "maps.clone", "internal/abi.NoEscape"], unfollowed := true, recurses := true, plainKeys := false, apart := false, narrowed := true }
def LedgerAheadUptoSaid : Prop := ledgerAheadUptoRow.holds Try.pinned (OpenSpec.upto ledgerAheadSpec)

/-- 'posthornlaw13.LedgerOnce', WHERE WHAT IT READS IS OF BULK AT MOST 1048576: true; the input reads as it did. -/
def ledgerOnceUptoRow : OpenClaim := { program := "ytpkolkgndhagiaa", sum := "113b685117ff69a90ea0981e281487fb2193f8b6b294b1c61a83bc6f1ac5eb1f", func := "posthorn/posthornlaw13.LedgerOnce", spec := "ledgerOnce", inPlace := ["internal/bytealg.IndexByteString", "maps.clone", "internal/abi.NoEscape"], unfollowed := true, recurses := true, plainKeys := false, apart := false, narrowed := true }
def LedgerOnceUptoSaid : Prop := ledgerOnceUptoRow.holds Try.pinned (OpenSpec.upto ledgerOnceSpec)

/-- 'posthornlaw14.RingKeys', WHERE WHAT IT READS IS OF BULK AT MOST 1048576: true; the input reads as it did. -/
def ringKeysUptoRow : OpenClaim := { program := "ytpkolkgndhagiaa", sum := "113b685117ff69a90ea0981e281487fb2193f8b6b294b1c61a83bc6f1ac5eb1f", func := "posthorn/posthornlaw14.RingKeys", spec := "ringKeys", inPlace := ["internal/bytealg.IndexByteString", "maps.clone", "internal/abi.NoEscape"], unfollowed := true, recurses := true, plainKeys := false, apart := false, narrowed := true }
def RingKeysUptoSaid : Prop := ringKeysUptoRow.holds Try.pinned (OpenSpec.upto ringKeysSpec)

/-- 'posthornlaw14.RingTurns', WHERE WHAT IT READS IS OF BULK AT MOST 1048576: true; the input reads as it did. -/
def ringTurnsUptoRow : OpenClaim := { program := "ytpkolkgndhagiaa", sum := "113b685117ff69a90ea0981e281487fb2193f8b6b294b1c61a83bc6f1ac5eb1f", func := "posthorn/posthornlaw14.RingTurns", spec := "ringTurns", inPlace := ["internal/bytealg.IndexByteString", "maps.clone", "internal/abi.NoEscape"], unfollowed := true, recurses := true, plainKeys := false, apart := false, narrowed := true }
def RingTurnsUptoSaid : Prop := ringTurnsUptoRow.holds Try.pinned (OpenSpec.upto ringTurnsSpec)

/-- 'posthornlaw14.RingFull', WHERE WHAT IT READS IS OF BULK AT MOST 1048576: true; the input reads as it did. -/
def ringFullUptoRow : OpenClaim := { program := "ytpkolkgndhagiaa", sum := "113b685117ff69a90ea0981e281487fb2193f8b6b294b1c61a83bc6f1ac5eb1f", func := "posthorn/posthornlaw14.RingFull", spec := "ringFull", inPlace := ["internal/bytealg.IndexByteString", "maps.clone", "internal/abi.NoEscape"], unfollowed := true, recurses := true, plainKeys := false, apart := false, narrowed := true }
def RingFullUptoSaid : Prop := ringFullUptoRow.holds Try.pinned (OpenSpec.upto ringFullSpec)

/-- 'posthornlaw14.RingAgain', WHERE WHAT IT READS IS OF BULK AT MOST 1048576: true; the input reads as it did. -/
def ringAgainUptoRow : OpenClaim := { program := "ytpkolkgndhagiaa", sum := "113b685117ff69a90ea0981e281487fb2193f8b6b294b1c61a83bc6f1ac5eb1f", func := "posthorn/posthornlaw14.RingAgain", spec := "ringAgain", inPlace := ["internal/bytealg.IndexByteString", "maps.clone", "internal/abi.NoEscape"], unfollowed := true, recurses := true, plainKeys := false, apart := false, narrowed := true }
def RingAgainUptoSaid : Prop := ringAgainUptoRow.holds Try.pinned (OpenSpec.upto ringAgainSpec)

/-- 'posthornlaw14.RingRises', WHERE WHAT IT READS IS OF BULK AT MOST 1048576: true; the input reads as it did. -/
def ringRisesUptoRow : OpenClaim := { program := "ytpkolkgndhagiaa", sum := "113b685117ff69a90ea0981e281487fb2193f8b6b294b1c61a83bc6f1ac5eb1f", func := "posthorn/posthornlaw14.RingRises", spec := "ringRises", inPlace := ["internal/bytealg.IndexByteString", "maps.clone", "internal/abi.NoEscape"], unfollowed := true, recurses := true, plainKeys := false, apart := false, narrowed := true }
def RingRisesUptoSaid : Prop := ringRisesUptoRow.holds Try.pinned (OpenSpec.upto ringRisesSpec)

end Rows
end Go.Proofs.Ytpkolkgndhagiaa
