/- ClientEnds' walk, for its arguments as they come. Conditions: what Go's variables hold; the arguments fit. -/
import Derived.Test.YtldlbiodllgflaaGreatDoorAct22
import Derived.Test.YtldlbiodllgflaaGreatDoorLawEnds
set_option linter.unusedSimpArgs false
set_option linter.unusedVariables false
set_option linter.unnecessarySimpa false
namespace Go.Proofs.YtldlbiodllgflaaGreatDoor
open Go.ChangeShapes Go.WideShapes Go.ChangeAt Go.RowKit Go.Deep

theorem clientEnds_walk2 (tv : Value) (l : List BoxT) (body : Bs) (cv : Value) (codes : List Int) (w : World) (E : Env w) (A : BoxTsAt w tv l) (hb : body.length ≤ maxLen) (I : Codes22 w cv codes) :
    Calls Tryz.prog 5 #[tv, .string ⟨body.toArray⟩, cv] w fun e w2 => e = .returned (.bool true) ∧ Ext [] w w2 := clientEnds_walk tv _ body cv codes w E (A.args hb) I
end Go.Proofs.YtldlbiodllgflaaGreatDoor
