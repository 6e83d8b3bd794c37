/-
  No cell of these rows narrows 'for every input' (looked for: loops, veiled, ifaces, maps, wideKeys, modest, calm, conditions, laid).
  DERIVED. THE GIVEN ROWS OF THIS SEAT. 5 by the template 'for every input the law returns true; each argument reads behind the call as it read before'; 0 by the template 'total and deterministic' (their statements: YtngbmofocochaaaTotals.lean).
  GIVEN WITH THE SEED: the statements are not yours to turn. If you find one false, say at which input.
  Laid BY PROGRAM, IN A SANDBOX (cutbox-rows.mjs): the forced cells as the released guide's own fill.sh prints them over the translation c80978d12941d19d… (all of the seat's roots in one cut). By AI agents, Wed Nov 11 2026. No macro, syntax, notation, axiom, sorry.
-/
import Derived.Test.YtngbmofocochaaaChecked
import GoSem.Claim
import GoSem.ClaimJoined
import GoSem.ClaimMapViews
import Derived.JoinedTies
import Derived.KernelRfl
namespace Go.Proofs.Ytngbmofocochaaa
/- THE CELL 'sum', in the pinned program and in every row, IS THE sha256 OF THE DUMP (.gsa) THAT YtngbmofocochaaaProg.lean LOADS. Nothing in Lean hashes anything: it is a label: what it is worth is what the hold of that sum in a sandbox is worth. -/
noncomputable def Try.pinned : Pinned := { name := "ytngbmofocochaaa", sum := "c80978d12941d19df78035f6dda61fb3e73b43b9e251ef7327157ffadceadb8b", checked := Try.checked }
namespace Rows
def none {H : Type} : Left H := { results := [], args := [] }

/-- 'posthornlaw11.DiskSure': WHATEVER THE INPUT: true; the input reads as it did. -/
def diskSureSpec : ChangeSpec := { name := "diskSure", fn := fun _ => fun
  | [d1, d2] => { results := [.lit (.bool true)], args := [d1, d2] }
  | _ => none }
def diskSureRow : OpenClaim := { program := "ytngbmofocochaaa", sum := "c80978d12941d19df78035f6dda61fb3e73b43b9e251ef7327157ffadceadb8b", func := "posthorn/posthornlaw11.DiskSure", spec := "diskSure", inPlace := ["internal/bytealg.IndexByteString", "maps.clone"], recurses := true, apart := false }
def DiskSureSaid : Prop := diskSureRow.holds Try.pinned (OpenSpec.ofChange diskSureSpec)

/-- ITS FALSE NEIGHBOUR: 'it returns false'. Refute it at one input. -/
def diskSureWrong : ChangeSpec := { name := "diskSure", fn := fun _ => fun
  | [d1, d2] => { results := [.lit (.bool false)], args := [d1, d2] }
  | _ => none }
def DiskSureWrongFalsely : Prop := diskSureRow.holds Try.pinned (OpenSpec.ofChange diskSureWrong)

/-- 'posthornlaw11.DiskAll': WHATEVER THE INPUT: true; the input reads as it did. -/
def diskAllSpec : ChangeSpec := { name := "diskAll", fn := fun _ => fun
  | [d1, d2, d3] => { results := [.lit (.bool true)], args := [d1, d2, d3] }
  | _ => none }
def diskAllRow : OpenClaim := { program := "ytngbmofocochaaa", sum := "c80978d12941d19df78035f6dda61fb3e73b43b9e251ef7327157ffadceadb8b", func := "posthorn/posthornlaw11.DiskAll", spec := "diskAll", inPlace := ["internal/bytealg.IndexByteString", "maps.clone"], recurses := true, apart := false }
def DiskAllSaid : Prop := diskAllRow.holds Try.pinned (OpenSpec.ofChange diskAllSpec)

/-- ITS FALSE NEIGHBOUR: 'it returns false'. Refute it at one input. -/
def diskAllWrong : ChangeSpec := { name := "diskAll", fn := fun _ => fun
  | [d1, d2, d3] => { results := [.lit (.bool false)], args := [d1, d2, d3] }
  | _ => none }
def DiskAllWrongFalsely : Prop := diskAllRow.holds Try.pinned (OpenSpec.ofChange diskAllWrong)

/-- 'posthornlaw11.DiskDead': WHATEVER THE INPUT: true; the input reads as it did. -/
def diskDeadSpec : ChangeSpec := { name := "diskDead", fn := fun _ => fun
  | [d] => { results := [.lit (.bool true)], args := [d] }
  | _ => none }
def diskDeadRow : OpenClaim := { program := "ytngbmofocochaaa", sum := "c80978d12941d19df78035f6dda61fb3e73b43b9e251ef7327157ffadceadb8b", func := "posthorn/posthornlaw11.DiskDead", spec := "diskDead", inPlace := ["internal/bytealg.IndexByteString", "maps.clone"], recurses := true, apart := false }
def DiskDeadSaid : Prop := diskDeadRow.holds Try.pinned (OpenSpec.ofChange diskDeadSpec)

/-- ITS FALSE NEIGHBOUR: 'it returns false'. Refute it at one input. -/
def diskDeadWrong : ChangeSpec := { name := "diskDead", fn := fun _ => fun
  | [d] => { results := [.lit (.bool false)], args := [d] }
  | _ => none }
def DiskDeadWrongFalsely : Prop := diskDeadRow.holds Try.pinned (OpenSpec.ofChange diskDeadWrong)

/-- 'posthornlaw11.DiskQuota': WHATEVER THE INPUT: true; the input reads as it did. -/
def diskQuotaSpec : ChangeSpec := { name := "diskQuota", fn := fun _ => fun
  | [d1, d2] => { results := [.lit (.bool true)], args := [d1, d2] }
  | _ => none }
def diskQuotaRow : OpenClaim := { program := "ytngbmofocochaaa", sum := "c80978d12941d19df78035f6dda61fb3e73b43b9e251ef7327157ffadceadb8b", func := "posthorn/posthornlaw11.DiskQuota", spec := "diskQuota", inPlace := ["internal/bytealg.IndexByteString", "maps.clone"], recurses := true, apart := false }
def DiskQuotaSaid : Prop := diskQuotaRow.holds Try.pinned (OpenSpec.ofChange diskQuotaSpec)

/-- ITS FALSE NEIGHBOUR: 'it returns false'. Refute it at one input. -/
def diskQuotaWrong : ChangeSpec := { name := "diskQuota", fn := fun _ => fun
  | [d1, d2] => { results := [.lit (.bool false)], args := [d1, d2] }
  | _ => none }
def DiskQuotaWrongFalsely : Prop := diskQuotaRow.holds Try.pinned (OpenSpec.ofChange diskQuotaWrong)

/-- 'posthornlaw11.DiskNames': WHATEVER THE INPUT: true; the input reads as it did. -/
def diskNamesSpec : ChangeSpec := { name := "diskNames", fn := fun _ => fun
  | [d1, d2] => { results := [.lit (.bool true)], args := [d1, d2] }
  | _ => none }
def diskNamesRow : OpenClaim := { program := "ytngbmofocochaaa", sum := "c80978d12941d19df78035f6dda61fb3e73b43b9e251ef7327157ffadceadb8b", func := "posthorn/posthornlaw11.DiskNames", spec := "diskNames", inPlace := ["internal/bytealg.IndexByteString", "maps.clone"], recurses := true, apart := false }
def DiskNamesSaid : Prop := diskNamesRow.holds Try.pinned (OpenSpec.ofChange diskNamesSpec)

/-- ITS FALSE NEIGHBOUR: 'it returns false'. Refute it at one input. -/
def diskNamesWrong : ChangeSpec := { name := "diskNames", fn := fun _ => fun
  | [d1, d2] => { results := [.lit (.bool false)], args := [d1, d2] }
  | _ => none }
def DiskNamesWrongFalsely : Prop := diskNamesRow.holds Try.pinned (OpenSpec.ofChange diskNamesWrong)

/- THE SECOND FORM. 'bulk': how many values and letters a reading holds, each counted each time it is reached (what is shared counts as often as it is met; a slice's spare places count too). A statement '..UptoSaid' is the law's where the arguments, and the package variables that the reading takes, are together of bulk at most 1048576: NARROWER than '..Said'. Prove '..Said' where nothing that the law and all that it calls make is longer than what came in: it says more and counts as full. Else prove '..UptoSaid'. A law counts once. -/
mutual
def uptoBulk {H : Type} : DataW H → Nat
  | .lit (.string bytes) => bytes.length + 1
  | .lit _ => 1
  | .nil => 1
  | .ptr d => uptoBulk d + 1
  | .slice elems spare => uptoBulkAll elems + uptoBulkAll spare + 1
  | .agg parts => uptoBulkAll parts + 1
  | .iface _ d => uptoBulk d + 1
  | .map entries => uptoBulkEntries entries + 1
  | .held _ => 1
def uptoBulkAll {H : Type} : List (DataW H) → Nat
  | [] => 0
  | d :: r => uptoBulk d + uptoBulkAll r
def uptoBulkEntries {H : Type} : List (Lit × DataW H) → Nat
  | [] => 0
  | x :: r => uptoBulkEntry x + uptoBulkEntries r
def uptoBulkEntry {H : Type} : Lit × DataW H → Nat
  | (.string bytes, d) => bytes.length + uptoBulk d + 1
  | (_, d) => uptoBulk d + 1
 end
def uptoSmall : (H : Type) → List (DataW H) → Bool := fun _ ds => decide (uptoBulkAll ds ≤ 1048576)
def OpenSpec.upto (s : _root_.Go.ChangeSpec) : _root_.Go.OpenSpec := { _root_.Go.OpenSpec.ofChange s with cond := some uptoSmall }

/-- 'posthornlaw11.DiskSure', WHERE WHAT IT READS IS OF BULK AT MOST 1048576: true; the input reads as it did. -/
def diskSureUptoRow : OpenClaim := { program := "ytngbmofocochaaa", sum := "c80978d12941d19df78035f6dda61fb3e73b43b9e251ef7327157ffadceadb8b", func := "posthorn/posthornlaw11.DiskSure", spec := "diskSure", inPlace := ["internal/bytealg.IndexByteString", "maps.clone"], recurses := true, apart := false, narrowed := true }
def DiskSureUptoSaid : Prop := diskSureUptoRow.holds Try.pinned (OpenSpec.upto diskSureSpec)

/-- 'posthornlaw11.DiskAll', WHERE WHAT IT READS IS OF BULK AT MOST 1048576: true; the input reads as it did. -/
def diskAllUptoRow : OpenClaim := { program := "ytngbmofocochaaa", sum := "c80978d12941d19df78035f6dda61fb3e73b43b9e251ef7327157ffadceadb8b", func := "posthorn/posthornlaw11.DiskAll", spec := "diskAll", inPlace := ["internal/bytealg.IndexByteString", "maps.clone"], recurses := true, apart := false, narrowed := true }
def DiskAllUptoSaid : Prop := diskAllUptoRow.holds Try.pinned (OpenSpec.upto diskAllSpec)

/-- 'posthornlaw11.DiskDead', WHERE WHAT IT READS IS OF BULK AT MOST 1048576: true; the input reads as it did. -/
def diskDeadUptoRow : OpenClaim := { program := "ytngbmofocochaaa", sum := "c80978d12941d19df78035f6dda61fb3e73b43b9e251ef7327157ffadceadb8b", func := "posthorn/posthornlaw11.DiskDead", spec := "diskDead", inPlace := ["internal/bytealg.IndexByteString", "maps.clone"], recurses := true, apart := false, narrowed := true }
def DiskDeadUptoSaid : Prop := diskDeadUptoRow.holds Try.pinned (OpenSpec.upto diskDeadSpec)

/-- 'posthornlaw11.DiskQuota', WHERE WHAT IT READS IS OF BULK AT MOST 1048576: true; the input reads as it did. -/
def diskQuotaUptoRow : OpenClaim := { program := "ytngbmofocochaaa", sum := "c80978d12941d19df78035f6dda61fb3e73b43b9e251ef7327157ffadceadb8b", func := "posthorn/posthornlaw11.DiskQuota", spec := "diskQuota", inPlace := ["internal/bytealg.IndexByteString", "maps.clone"], recurses := true, apart := false, narrowed := true }
def DiskQuotaUptoSaid : Prop := diskQuotaUptoRow.holds Try.pinned (OpenSpec.upto diskQuotaSpec)

/-- 'posthornlaw11.DiskNames', WHERE WHAT IT READS IS OF BULK AT MOST 1048576: true; the input reads as it did. -/
def diskNamesUptoRow : OpenClaim := { program := "ytngbmofocochaaa", sum := "c80978d12941d19df78035f6dda61fb3e73b43b9e251ef7327157ffadceadb8b", func := "posthorn/posthornlaw11.DiskNames", spec := "diskNames", inPlace := ["internal/bytealg.IndexByteString", "maps.clone"], recurses := true, apart := false, narrowed := true }
def DiskNamesUptoSaid : Prop := diskNamesUptoRow.holds Try.pinned (OpenSpec.upto diskNamesSpec)

end Rows
end Go.Proofs.Ytngbmofocochaaa
