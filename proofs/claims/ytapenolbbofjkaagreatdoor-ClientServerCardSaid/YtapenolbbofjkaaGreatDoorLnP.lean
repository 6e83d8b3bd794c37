/- line, plainly: lines parted, joined, stuffed. No program. -/
import Derived.Test.YtapenolbbofjkaaGreatDoorAdP
set_option linter.unusedSimpArgs false
set_option linter.unusedVariables false
set_option linter.unnecessarySimpa false
namespace Go.Proofs.YtapenolbbofjkaaGreatDoor

abbrev crlf : Bs := [13, 10]
def lnSplit (s : Bs) : List Bs × Bs := ((Lib.split s crlf).dropLast, (Lib.split s crlf).getLast?.getD [])
def lnJoin (l : List Bs) : Bs := l.flatMap fun s => s ++ crlf
def lnStuff (l : List Bs) : Bs := (l.flatMap fun s => (if s.head? = some 46 then [46] else []) ++ (s ++ crlf)) ++ 46 :: crlf
end Go.Proofs.YtapenolbbofjkaaGreatDoor
