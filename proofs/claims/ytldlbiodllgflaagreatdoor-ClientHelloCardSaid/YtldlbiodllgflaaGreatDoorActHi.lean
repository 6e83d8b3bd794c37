/- ClientHello's walk, for its arguments as they come. Conditions: what Go's variables hold; the arguments fit. -/
import Derived.Test.YtldlbiodllgflaaGreatDoorAct22
import Derived.Test.YtldlbiodllgflaaGreatDoorLawHello
set_option linter.unusedSimpArgs false
set_option linter.unusedVariables false
set_option linter.unnecessarySimpa false
namespace Go.Proofs.YtldlbiodllgflaaGreatDoor
open Go.ChangeShapes Go.WideShapes Go.ChangeAt Go.RowKit Go.Deep

theorem clientHello_walk2 (tv : Value) (l : List BoxT) (body : Bs) (w : World) (E : Env w) (A : BoxTsAt w tv l) (hb : body.length ≤ maxLen) :
    Calls Tryz.prog 7 #[tv, .string ⟨body.toArray⟩] w fun e w2 => e = .returned (.bool true) ∧ Ext [] w w2 := clientHello_walk tv _ body w E (A.args hb)
end Go.Proofs.YtldlbiodllgflaaGreatDoor
