/-
  NARROWER THAN 'FOR EVERY INPUT', by the rows' own cells (each row's printed sentence says how): MaildirNames: laid · MaildirOrder: laid · MaildirOnce: laid · MaildirLeft: laid · MaildirDoes: laid · MaildirWhole: laid.
  DERIVED. THE GIVEN ROWS OF THIS SEAT. 6 by the template 'for every input the law returns true; each argument reads behind the call as it read before'; 0 by the template 'total and deterministic' (their statements: YtcffickkipicbaaGreatDoorTotals.lean).
  GIVEN WITH THE SEED: the statements are not yours to turn. If you find one false, say at which input.
  Laid BY PROGRAM, IN A SANDBOX (cutbox-rows.mjs): the forced cells as the released guide's own fill.sh prints them over the translation 870824b90f347843… (all of the seat's roots in one cut). By AI agents, Wed Nov 11 2026. No macro, syntax, notation, axiom, sorry.
-/
import Derived.Test.YtcffickkipicbaaGreatDoorChecked
import GoSem.Claim
import GoSem.ClaimJoined
import GoSem.ClaimMapViews
import Derived.JoinedTies
import Derived.KernelRfl
namespace Go.Proofs.YtcffickkipicbaaGreatDoor
/- THE CELL 'sum', in the pinned program and in every row, IS THE sha256 OF THE DUMP (.gsa) THAT YtcffickkipicbaaGreatDoorProg.lean LOADS. Nothing in Lean hashes anything: it is a label: what it is worth is what the hold of that sum in a sandbox is worth. -/
noncomputable def Tryz.pinned : Pinned := { name := "ytcffickkipicbaagreatdoor", sum := "870824b90f347843fa383980945a2d33a69a44bf0d75e184c55fb3581f2e0bca", checked := Tryz.checked }
namespace Rows
def none {H : Type} : Left H := { results := [], args := [] }

/- WHAT THE LISTED PACKAGE-LEVEL VARIABLES READ AS WHEN THE CALL BEGINS. Each datum BY PROGRAM (the guide's laid-datum.mjs) off the statement by which the dump's own 'gosem.cut.vars' lays the variable. In a bare row this is a premise. The card (YtcffickkipicbaaGreatDoorCards.lean) ties it to the program's text. -/
def laid_math_bits_deBruijn32tab {H : Type} : DataW H := .agg [.lit (.int .u8 0), .lit (.int .u8 1), .lit (.int .u8 28), .lit (.int .u8 2), .lit (.int .u8 29), .lit (.int .u8 14), .lit (.int .u8 24), .lit (.int .u8 3), .lit (.int .u8 30), .lit (.int .u8 22), .lit (.int .u8 20), .lit (.int .u8 15), .lit (.int .u8 25), .lit (.int .u8 17), .lit (.int .u8 4), .lit (.int .u8 8), .lit (.int .u8 31), .lit (.int .u8 27), .lit (.int .u8 13), .lit (.int .u8 23), .lit (.int .u8 21), .lit (.int .u8 19), .lit (.int .u8 16), .lit (.int .u8 7), .lit (.int .u8 26), .lit (.int .u8 12), .lit (.int .u8 18), .lit (.int .u8 6), .lit (.int .u8 11), .lit (.int .u8 5), .lit (.int .u8 10), .lit (.int .u8 9)]
def laid_math_bits_deBruijn64tab {H : Type} : DataW H := .agg [.lit (.int .u8 0), .lit (.int .u8 1), .lit (.int .u8 56), .lit (.int .u8 2), .lit (.int .u8 57), .lit (.int .u8 49), .lit (.int .u8 28), .lit (.int .u8 3), .lit (.int .u8 61), .lit (.int .u8 58), .lit (.int .u8 42), .lit (.int .u8 50), .lit (.int .u8 38), .lit (.int .u8 29), .lit (.int .u8 17), .lit (.int .u8 4), .lit (.int .u8 62), .lit (.int .u8 47), .lit (.int .u8 59), .lit (.int .u8 36), .lit (.int .u8 45), .lit (.int .u8 43), .lit (.int .u8 51), .lit (.int .u8 22), .lit (.int .u8 53), .lit (.int .u8 39), .lit (.int .u8 33), .lit (.int .u8 30), .lit (.int .u8 24), .lit (.int .u8 18), .lit (.int .u8 12), .lit (.int .u8 5), .lit (.int .u8 63), .lit (.int .u8 55), .lit (.int .u8 48), .lit (.int .u8 27), .lit (.int .u8 60), .lit (.int .u8 41), .lit (.int .u8 37), .lit (.int .u8 16), .lit (.int .u8 46), .lit (.int .u8 35), .lit (.int .u8 44), .lit (.int .u8 21), .lit (.int .u8 52), .lit (.int .u8 32), .lit (.int .u8 23), .lit (.int .u8 11), .lit (.int .u8 54), .lit (.int .u8 26), .lit (.int .u8 40), .lit (.int .u8 15), .lit (.int .u8 34), .lit (.int .u8 20), .lit (.int .u8 31), .lit (.int .u8 10), .lit (.int .u8 25), .lit (.int .u8 14), .lit (.int .u8 19), .lit (.int .u8 9), .lit (.int .u8 13), .lit (.int .u8 8), .lit (.int .u8 7), .lit (.int .u8 6)]
def laid_internal_strconv_uint64pow10 {H : Type} : DataW H := .agg [.lit (.int .u64 1), .lit (.int .u64 10), .lit (.int .u64 100), .lit (.int .u64 1000), .lit (.int .u64 10000), .lit (.int .u64 100000), .lit (.int .u64 1000000), .lit (.int .u64 10000000), .lit (.int .u64 100000000), .lit (.int .u64 1000000000), .lit (.int .u64 10000000000), .lit (.int .u64 100000000000), .lit (.int .u64 1000000000000), .lit (.int .u64 10000000000000), .lit (.int .u64 100000000000000), .lit (.int .u64 1000000000000000), .lit (.int .u64 10000000000000000), .lit (.int .u64 100000000000000000), .lit (.int .u64 1000000000000000000), .lit (.int .u64 10000000000000000000)]
def laid_strconv_ErrRange {H : Type} : DataW H := .iface "*errors.errorString" (.ptr (.agg [.lit (.string [118, 97, 108, 117, 101, 32, 111, 117, 116, 32, 111, 102, 32, 114, 97, 110, 103, 101])]))
def laid_strconv_ErrSyntax {H : Type} : DataW H := .iface "*errors.errorString" (.ptr (.agg [.lit (.string [105, 110, 118, 97, 108, 105, 100, 32, 115, 121, 110, 116, 97, 120])]))

/-- 'posthornlaw19.MaildirNames': WHATEVER THE INPUT: true; the input reads as it did. -/
def maildirNamesSpec : ChangeSpec := { name := "maildirNames", fn := fun _ => fun
  | [d1, d2, d3, d4] => { results := [.lit (.bool true)], args := [d1, d2, d3, d4] }
  | _ => none }
def maildirNamesRow : OpenClaim := { program := "ytcffickkipicbaagreatdoor", sum := "870824b90f347843fa383980945a2d33a69a44bf0d75e184c55fb3581f2e0bca", func := "posthorn/posthornlaw19.MaildirNames", spec := "maildirNames", inPlace := ["internal/bytealg.IndexByteString", "maps.clone", "internal/bytealg.IndexString"], unfollowed := true, recurses := true, named := ["internal/strconv.uint64pow10", "math/bits.deBruijn32tab", "math/bits.deBruijn64tab", "internal/bytealg.MaxLen", "strconv.ErrSyntax", "strconv.ErrRange"], apart := false, laid := [("math/bits.deBruijn32tab", laid_math_bits_deBruijn32tab), ("math/bits.deBruijn64tab", laid_math_bits_deBruijn64tab), ("internal/strconv.uint64pow10", laid_internal_strconv_uint64pow10), ("strconv.ErrRange", laid_strconv_ErrRange), ("strconv.ErrSyntax", laid_strconv_ErrSyntax)] }
def MaildirNamesSaid : Prop := maildirNamesRow.holds Tryz.pinned (OpenSpec.ofChange maildirNamesSpec)

/-- ITS FALSE NEIGHBOUR: 'it returns false'. Refute it at one input. -/
def maildirNamesWrong : ChangeSpec := { name := "maildirNames", fn := fun _ => fun
  | [d1, d2, d3, d4] => { results := [.lit (.bool false)], args := [d1, d2, d3, d4] }
  | _ => none }
def MaildirNamesWrongFalsely : Prop := maildirNamesRow.holds Tryz.pinned (OpenSpec.ofChange maildirNamesWrong)

/-- 'posthornlaw19.MaildirOrder': WHATEVER THE INPUT: true; the input reads as it did. -/
def maildirOrderSpec : ChangeSpec := { name := "maildirOrder", fn := fun _ => fun
  | [d1, d2] => { results := [.lit (.bool true)], args := [d1, d2] }
  | _ => none }
def maildirOrderRow : OpenClaim := { program := "ytcffickkipicbaagreatdoor", sum := "870824b90f347843fa383980945a2d33a69a44bf0d75e184c55fb3581f2e0bca", func := "posthorn/posthornlaw19.MaildirOrder", spec := "maildirOrder", inPlace := ["internal/bytealg.IndexByteString", "maps.clone", "internal/bytealg.IndexString"], unfollowed := true, recurses := true, named := ["internal/strconv.uint64pow10", "math/bits.deBruijn32tab", "math/bits.deBruijn64tab", "internal/bytealg.MaxLen", "strconv.ErrSyntax", "strconv.ErrRange"], apart := false, laid := [("math/bits.deBruijn32tab", laid_math_bits_deBruijn32tab), ("math/bits.deBruijn64tab", laid_math_bits_deBruijn64tab), ("internal/strconv.uint64pow10", laid_internal_strconv_uint64pow10), ("strconv.ErrRange", laid_strconv_ErrRange), ("strconv.ErrSyntax", laid_strconv_ErrSyntax)] }
def MaildirOrderSaid : Prop := maildirOrderRow.holds Tryz.pinned (OpenSpec.ofChange maildirOrderSpec)

/-- ITS FALSE NEIGHBOUR: 'it returns false'. Refute it at one input. -/
def maildirOrderWrong : ChangeSpec := { name := "maildirOrder", fn := fun _ => fun
  | [d1, d2] => { results := [.lit (.bool false)], args := [d1, d2] }
  | _ => none }
def MaildirOrderWrongFalsely : Prop := maildirOrderRow.holds Tryz.pinned (OpenSpec.ofChange maildirOrderWrong)

/-- 'posthornlaw19.MaildirOnce': WHATEVER THE INPUT: true; the input reads as it did. -/
def maildirOnceSpec : ChangeSpec := { name := "maildirOnce", fn := fun _ => fun
  | [d1, d2, d3, d4] => { results := [.lit (.bool true)], args := [d1, d2, d3, d4] }
  | _ => none }
def maildirOnceRow : OpenClaim := { program := "ytcffickkipicbaagreatdoor", sum := "870824b90f347843fa383980945a2d33a69a44bf0d75e184c55fb3581f2e0bca", func := "posthorn/posthornlaw19.MaildirOnce", spec := "maildirOnce", inPlace := ["internal/bytealg.IndexByteString", "maps.clone", "internal/bytealg.IndexString"], unfollowed := true, recurses := true, named := ["internal/strconv.uint64pow10", "math/bits.deBruijn32tab", "math/bits.deBruijn64tab", "internal/bytealg.MaxLen", "strconv.ErrSyntax", "strconv.ErrRange"], apart := false, laid := [("math/bits.deBruijn32tab", laid_math_bits_deBruijn32tab), ("math/bits.deBruijn64tab", laid_math_bits_deBruijn64tab), ("internal/strconv.uint64pow10", laid_internal_strconv_uint64pow10), ("strconv.ErrRange", laid_strconv_ErrRange), ("strconv.ErrSyntax", laid_strconv_ErrSyntax)] }
def MaildirOnceSaid : Prop := maildirOnceRow.holds Tryz.pinned (OpenSpec.ofChange maildirOnceSpec)

/-- ITS FALSE NEIGHBOUR: 'it returns false'. Refute it at one input. -/
def maildirOnceWrong : ChangeSpec := { name := "maildirOnce", fn := fun _ => fun
  | [d1, d2, d3, d4] => { results := [.lit (.bool false)], args := [d1, d2, d3, d4] }
  | _ => none }
def MaildirOnceWrongFalsely : Prop := maildirOnceRow.holds Tryz.pinned (OpenSpec.ofChange maildirOnceWrong)

/-- 'posthornlaw19.MaildirLeft': WHATEVER THE INPUT: true; the input reads as it did. -/
def maildirLeftSpec : ChangeSpec := { name := "maildirLeft", fn := fun _ => fun
  | [d] => { results := [.lit (.bool true)], args := [d] }
  | _ => none }
def maildirLeftRow : OpenClaim := { program := "ytcffickkipicbaagreatdoor", sum := "870824b90f347843fa383980945a2d33a69a44bf0d75e184c55fb3581f2e0bca", func := "posthorn/posthornlaw19.MaildirLeft", spec := "maildirLeft", inPlace := ["internal/bytealg.IndexByteString", "maps.clone", "internal/bytealg.IndexString"], unfollowed := true, recurses := true, named := ["internal/strconv.uint64pow10", "math/bits.deBruijn32tab", "math/bits.deBruijn64tab", "internal/bytealg.MaxLen", "strconv.ErrSyntax", "strconv.ErrRange"], apart := false, laid := [("math/bits.deBruijn32tab", laid_math_bits_deBruijn32tab), ("math/bits.deBruijn64tab", laid_math_bits_deBruijn64tab), ("internal/strconv.uint64pow10", laid_internal_strconv_uint64pow10), ("strconv.ErrRange", laid_strconv_ErrRange), ("strconv.ErrSyntax", laid_strconv_ErrSyntax)] }
def MaildirLeftSaid : Prop := maildirLeftRow.holds Tryz.pinned (OpenSpec.ofChange maildirLeftSpec)

/-- ITS FALSE NEIGHBOUR: 'it returns false'. Refute it at one input. -/
def maildirLeftWrong : ChangeSpec := { name := "maildirLeft", fn := fun _ => fun
  | [d] => { results := [.lit (.bool false)], args := [d] }
  | _ => none }
def MaildirLeftWrongFalsely : Prop := maildirLeftRow.holds Tryz.pinned (OpenSpec.ofChange maildirLeftWrong)

/-- 'posthornlaw19.MaildirDoes': WHATEVER THE INPUT: true; the input reads as it did. -/
def maildirDoesSpec : ChangeSpec := { name := "maildirDoes", fn := fun _ => fun
  | [d1, d2] => { results := [.lit (.bool true)], args := [d1, d2] }
  | _ => none }
def maildirDoesRow : OpenClaim := { program := "ytcffickkipicbaagreatdoor", sum := "870824b90f347843fa383980945a2d33a69a44bf0d75e184c55fb3581f2e0bca", func := "posthorn/posthornlaw19.MaildirDoes", spec := "maildirDoes", inPlace := ["internal/bytealg.IndexByteString", "maps.clone", "internal/bytealg.IndexString"], unfollowed := true, recurses := true, named := ["internal/strconv.uint64pow10", "math/bits.deBruijn32tab", "math/bits.deBruijn64tab", "internal/bytealg.MaxLen", "strconv.ErrSyntax", "strconv.ErrRange"], apart := false, laid := [("math/bits.deBruijn32tab", laid_math_bits_deBruijn32tab), ("math/bits.deBruijn64tab", laid_math_bits_deBruijn64tab), ("internal/strconv.uint64pow10", laid_internal_strconv_uint64pow10), ("strconv.ErrRange", laid_strconv_ErrRange), ("strconv.ErrSyntax", laid_strconv_ErrSyntax)] }
def MaildirDoesSaid : Prop := maildirDoesRow.holds Tryz.pinned (OpenSpec.ofChange maildirDoesSpec)

/-- ITS FALSE NEIGHBOUR: 'it returns false'. Refute it at one input. -/
def maildirDoesWrong : ChangeSpec := { name := "maildirDoes", fn := fun _ => fun
  | [d1, d2] => { results := [.lit (.bool false)], args := [d1, d2] }
  | _ => none }
def MaildirDoesWrongFalsely : Prop := maildirDoesRow.holds Tryz.pinned (OpenSpec.ofChange maildirDoesWrong)

/-- 'posthornlaw19.MaildirWhole': WHATEVER THE INPUT: true; the input reads as it did. -/
def maildirWholeSpec : ChangeSpec := { name := "maildirWhole", fn := fun _ => fun
  | [d] => { results := [.lit (.bool true)], args := [d] }
  | _ => none }
def maildirWholeRow : OpenClaim := { program := "ytcffickkipicbaagreatdoor", sum := "870824b90f347843fa383980945a2d33a69a44bf0d75e184c55fb3581f2e0bca", func := "posthorn/posthornlaw19.MaildirWhole", spec := "maildirWhole", inPlace := ["internal/bytealg.IndexByteString", "maps.clone", "internal/bytealg.IndexString"], unfollowed := true, recurses := true, named := ["internal/strconv.uint64pow10", "math/bits.deBruijn32tab", "math/bits.deBruijn64tab", "internal/bytealg.MaxLen", "strconv.ErrSyntax", "strconv.ErrRange"], apart := false, laid := [("math/bits.deBruijn32tab", laid_math_bits_deBruijn32tab), ("math/bits.deBruijn64tab", laid_math_bits_deBruijn64tab), ("internal/strconv.uint64pow10", laid_internal_strconv_uint64pow10), ("strconv.ErrRange", laid_strconv_ErrRange), ("strconv.ErrSyntax", laid_strconv_ErrSyntax)] }
def MaildirWholeSaid : Prop := maildirWholeRow.holds Tryz.pinned (OpenSpec.ofChange maildirWholeSpec)

/-- ITS FALSE NEIGHBOUR: 'it returns false'. Refute it at one input. -/
def maildirWholeWrong : ChangeSpec := { name := "maildirWhole", fn := fun _ => fun
  | [d] => { results := [.lit (.bool false)], args := [d] }
  | _ => none }
def MaildirWholeWrongFalsely : Prop := maildirWholeRow.holds Tryz.pinned (OpenSpec.ofChange maildirWholeWrong)

/- THE SECOND FORM. 'bulk': how many values and letters a reading holds, each counted each time it is reached (what is shared counts as often as it is met; a slice's spare places count too). A statement '..UptoSaid' is the law's where the arguments, and the package variables that the reading takes, are together of bulk at most 1048576: NARROWER than '..Said'. Prove '..Said' where nothing that the law and all that it calls make is longer than what came in: it says more and counts as full. Else prove '..UptoSaid'. A law counts once. -/
mutual
def uptoBulk {H : Type} : DataW H → Nat
  | .lit (.string bytes) => bytes.length + 1
  | .lit _ => 1
  | .nil => 1
  | .ptr d => uptoBulk d + 1
  | .slice elems spare => uptoBulkAll elems + uptoBulkAll spare + 1
  | .agg parts => uptoBulkAll parts + 1
  | .iface _ d => uptoBulk d + 1
  | .map entries => uptoBulkEntries entries + 1
  | .held _ => 1
def uptoBulkAll {H : Type} : List (DataW H) → Nat
  | [] => 0
  | d :: r => uptoBulk d + uptoBulkAll r
def uptoBulkEntries {H : Type} : List (Lit × DataW H) → Nat
  | [] => 0
  | x :: r => uptoBulkEntry x + uptoBulkEntries r
def uptoBulkEntry {H : Type} : Lit × DataW H → Nat
  | (.string bytes, d) => bytes.length + uptoBulk d + 1
  | (_, d) => uptoBulk d + 1
 end
def uptoSmall : (H : Type) → List (DataW H) → Bool := fun _ ds => decide (uptoBulkAll ds ≤ 1048576)
def OpenSpec.upto (s : _root_.Go.ChangeSpec) : _root_.Go.OpenSpec := { _root_.Go.OpenSpec.ofChange s with cond := some uptoSmall }

/-- 'posthornlaw19.MaildirNames', WHERE WHAT IT READS IS OF BULK AT MOST 1048576: true; the input reads as it did. -/
def maildirNamesUptoRow : OpenClaim := { program := "ytcffickkipicbaagreatdoor", sum := "870824b90f347843fa383980945a2d33a69a44bf0d75e184c55fb3581f2e0bca", func := "posthorn/posthornlaw19.MaildirNames", spec := "maildirNames", inPlace := ["internal/bytealg.IndexByteString", "maps.clone", "internal/bytealg.IndexString"], unfollowed := true, recurses := true, named := ["internal/strconv.uint64pow10", "math/bits.deBruijn32tab", "math/bits.deBruijn64tab", "internal/bytealg.MaxLen", "strconv.ErrSyntax", "strconv.ErrRange"], apart := false, laid := [("math/bits.deBruijn32tab", laid_math_bits_deBruijn32tab), ("math/bits.deBruijn64tab", laid_math_bits_deBruijn64tab), ("internal/strconv.uint64pow10", laid_internal_strconv_uint64pow10), ("strconv.ErrRange", laid_strconv_ErrRange), ("strconv.ErrSyntax", laid_strconv_ErrSyntax)], narrowed := true }
def MaildirNamesUptoSaid : Prop := maildirNamesUptoRow.holds Tryz.pinned (OpenSpec.upto maildirNamesSpec)

/-- 'posthornlaw19.MaildirOrder', WHERE WHAT IT READS IS OF BULK AT MOST 1048576: true; the input reads as it did. -/
def maildirOrderUptoRow : OpenClaim := { program := "ytcffickkipicbaagreatdoor", sum := "870824b90f347843fa383980945a2d33a69a44bf0d75e184c55fb3581f2e0bca", func := "posthorn/posthornlaw19.MaildirOrder", spec := "maildirOrder", inPlace := ["internal/bytealg.IndexByteString", "maps.clone", "internal/bytealg.IndexString"], unfollowed := true, recurses := true, named := ["internal/strconv.uint64pow10", "math/bits.deBruijn32tab", "math/bits.deBruijn64tab", "internal/bytealg.MaxLen", "strconv.ErrSyntax", "strconv.ErrRange"], apart := false, laid := [("math/bits.deBruijn32tab", laid_math_bits_deBruijn32tab), ("math/bits.deBruijn64tab", laid_math_bits_deBruijn64tab), ("internal/strconv.uint64pow10", laid_internal_strconv_uint64pow10), ("strconv.ErrRange", laid_strconv_ErrRange), ("strconv.ErrSyntax", laid_strconv_ErrSyntax)], narrowed := true }
def MaildirOrderUptoSaid : Prop := maildirOrderUptoRow.holds Tryz.pinned (OpenSpec.upto maildirOrderSpec)

/-- 'posthornlaw19.MaildirOnce', WHERE WHAT IT READS IS OF BULK AT MOST 1048576: true; the input reads as it did. -/
def maildirOnceUptoRow : OpenClaim := { program := "ytcffickkipicbaagreatdoor", sum := "870824b90f347843fa383980945a2d33a69a44bf0d75e184c55fb3581f2e0bca", func := "posthorn/posthornlaw19.MaildirOnce", spec := "maildirOnce", inPlace := ["internal/bytealg.IndexByteString", "maps.clone", "internal/bytealg.IndexString"], unfollowed := true, recurses := true, named := ["internal/strconv.uint64pow10", "math/bits.deBruijn32tab", "math/bits.deBruijn64tab", "internal/bytealg.MaxLen", "strconv.ErrSyntax", "strconv.ErrRange"], apart := false, laid := [("math/bits.deBruijn32tab", laid_math_bits_deBruijn32tab), ("math/bits.deBruijn64tab", laid_math_bits_deBruijn64tab), ("internal/strconv.uint64pow10", laid_internal_strconv_uint64pow10), ("strconv.ErrRange", laid_strconv_ErrRange), ("strconv.ErrSyntax", laid_strconv_ErrSyntax)], narrowed := true }
def MaildirOnceUptoSaid : Prop := maildirOnceUptoRow.holds Tryz.pinned (OpenSpec.upto maildirOnceSpec)

/-- 'posthornlaw19.MaildirLeft', WHERE WHAT IT READS IS OF BULK AT MOST 1048576: true; the input reads as it did. -/
def maildirLeftUptoRow : OpenClaim := { program := "ytcffickkipicbaagreatdoor", sum := "870824b90f347843fa383980945a2d33a69a44bf0d75e184c55fb3581f2e0bca", func := "posthorn/posthornlaw19.MaildirLeft", spec := "maildirLeft", inPlace := ["internal/bytealg.IndexByteString", "maps.clone", "internal/bytealg.IndexString"], unfollowed := true, recurses := true, named := ["internal/strconv.uint64pow10", "math/bits.deBruijn32tab", "math/bits.deBruijn64tab", "internal/bytealg.MaxLen", "strconv.ErrSyntax", "strconv.ErrRange"], apart := false, laid := [("math/bits.deBruijn32tab", laid_math_bits_deBruijn32tab), ("math/bits.deBruijn64tab", laid_math_bits_deBruijn64tab), ("internal/strconv.uint64pow10", laid_internal_strconv_uint64pow10), ("strconv.ErrRange", laid_strconv_ErrRange), ("strconv.ErrSyntax", laid_strconv_ErrSyntax)], narrowed := true }
def MaildirLeftUptoSaid : Prop := maildirLeftUptoRow.holds Tryz.pinned (OpenSpec.upto maildirLeftSpec)

/-- 'posthornlaw19.MaildirDoes', WHERE WHAT IT READS IS OF BULK AT MOST 1048576: true; the input reads as it did. -/
def maildirDoesUptoRow : OpenClaim := { program := "ytcffickkipicbaagreatdoor", sum := "870824b90f347843fa383980945a2d33a69a44bf0d75e184c55fb3581f2e0bca", func := "posthorn/posthornlaw19.MaildirDoes", spec := "maildirDoes", inPlace := ["internal/bytealg.IndexByteString", "maps.clone", "internal/bytealg.IndexString"], unfollowed := true, recurses := true, named := ["internal/strconv.uint64pow10", "math/bits.deBruijn32tab", "math/bits.deBruijn64tab", "internal/bytealg.MaxLen", "strconv.ErrSyntax", "strconv.ErrRange"], apart := false, laid := [("math/bits.deBruijn32tab", laid_math_bits_deBruijn32tab), ("math/bits.deBruijn64tab", laid_math_bits_deBruijn64tab), ("internal/strconv.uint64pow10", laid_internal_strconv_uint64pow10), ("strconv.ErrRange", laid_strconv_ErrRange), ("strconv.ErrSyntax", laid_strconv_ErrSyntax)], narrowed := true }
def MaildirDoesUptoSaid : Prop := maildirDoesUptoRow.holds Tryz.pinned (OpenSpec.upto maildirDoesSpec)

/-- 'posthornlaw19.MaildirWhole', WHERE WHAT IT READS IS OF BULK AT MOST 1048576: true; the input reads as it did. -/
def maildirWholeUptoRow : OpenClaim := { program := "ytcffickkipicbaagreatdoor", sum := "870824b90f347843fa383980945a2d33a69a44bf0d75e184c55fb3581f2e0bca", func := "posthorn/posthornlaw19.MaildirWhole", spec := "maildirWhole", inPlace := ["internal/bytealg.IndexByteString", "maps.clone", "internal/bytealg.IndexString"], unfollowed := true, recurses := true, named := ["internal/strconv.uint64pow10", "math/bits.deBruijn32tab", "math/bits.deBruijn64tab", "internal/bytealg.MaxLen", "strconv.ErrSyntax", "strconv.ErrRange"], apart := false, laid := [("math/bits.deBruijn32tab", laid_math_bits_deBruijn32tab), ("math/bits.deBruijn64tab", laid_math_bits_deBruijn64tab), ("internal/strconv.uint64pow10", laid_internal_strconv_uint64pow10), ("strconv.ErrRange", laid_strconv_ErrRange), ("strconv.ErrSyntax", laid_strconv_ErrSyntax)], narrowed := true }
def MaildirWholeUptoSaid : Prop := maildirWholeUptoRow.holds Tryz.pinned (OpenSpec.upto maildirWholeSpec)

end Rows
end Go.Proofs.YtcffickkipicbaaGreatDoor
