/- client, plainly: codes, one after the other. No program. -/
import Derived.Test.YtldlbiodllgflaaGreatDoorClP
set_option linter.unusedSimpArgs false
set_option linter.unusedVariables false
set_option linter.unnecessarySimpa false
namespace Go.Proofs.YtldlbiodllgflaaGreatDoor

/-- Codes, one after the other; then it is lost. -/
def Cl.play : Cl → List Int → Cl × Bs
  | C, [] => ({ C with phase := 8 }, [])
  | C, c :: l => if C.phase = 8 then ({ C with phase := 8 }, []) else (((C.take c).1.play l).1, (C.take c).2 ++ ((C.take c).1.play l).2)
end Go.Proofs.YtldlbiodllgflaaGreatDoor
