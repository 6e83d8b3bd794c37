/- ClientSays' walk, for its arguments as they come. Conditions: what Go's variables hold; the arguments fit. -/
import Derived.Test.YtldlbiodllgflaaGreatDoorAct22
import Derived.Test.YtldlbiodllgflaaGreatDoorLawSays
import Derived.Lib.SmallJoins
set_option linter.unusedSimpArgs false
set_option linter.unusedVariables false
set_option linter.unnecessarySimpa false
namespace Go.Proofs.YtldlbiodllgflaaGreatDoor
open Go.ChangeShapes Go.WideShapes Go.ChangeAt Go.RowKit Go.Deep

section
variable {H : Type} {enc : TypeId × Value → H} {w : World} {base : Nat} {spare : Nat → Bool} {held : Bool}
set_option maxRecDepth 100000 in
theorem box_of_trod {r : Reach} {b0 : Nat} {v : Value} {d : DataW H} {p : List MemPlace} (hv : Value.okWide Tryz.prog w r b0 23 v) (h : DataW.Trod enc Tryz.prog w base spare held 23 v d p) : ∃ m : Mb, v = mbAgg m ∧ (m.1.length ≤ maxLen ∧ m.2.length ≤ maxLen) := by
  obtain ⟨v0, v1, y0, y1, n, rfl, _, _, h0, h1⟩ := Go.Joins.open_agg2 Tryz.underlying23 (by kernel_rfl) (by kernel_rfl) hv h
  obtain ⟨z0, e0, _, w0⟩ := DataW.trod_string Tryz.underlying9 h0
  obtain ⟨z1, e1, _, w1⟩ := DataW.trod_string Tryz.underlying9 h1
  simp only [List.cons.injEq, and_true] at e0 e1
  subst e0 e1
  exact ⟨(z0.data.toList, z1.data.toList), rfl, by simpa using w0, by simpa using w1⟩
end
theorem clientSays_walk2 (fr : Mb) (tv : Value) (l : List BoxT) (body : Bs) (cv : Value) (codes : List Int) (w : World) (E : Env w) (hf : fr.1.length ≤ maxLen ∧ fr.2.length ≤ maxLen) (A : BoxTsAt w tv l) (hb : body.length ≤ maxLen) (I : Codes22 w cv codes) :
    Calls Tryz.prog 6 #[mbAgg fr, tv, .string ⟨body.toArray⟩, cv] w fun e w2 => e = .returned (.bool true) ∧ Ext [] w w2 := clientSays_walk fr tv _ body cv codes w E hf.1 hf.2 (A.args hb) I
end Go.Proofs.YtldlbiodllgflaaGreatDoor
