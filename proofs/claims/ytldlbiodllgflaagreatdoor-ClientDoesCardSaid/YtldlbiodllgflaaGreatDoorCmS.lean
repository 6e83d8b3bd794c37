/- Commands that are short: their lines are. No condition. -/
import Derived.Test.YtldlbiodllgflaaGreatDoorCmW6
set_option linter.unusedSimpArgs false
set_option linter.unusedVariables false
set_option linter.unnecessarySimpa false
namespace Go.Proofs.YtldlbiodllgflaaGreatDoor
open Go.RowKit

theorem mbPath_short (b : Mb) : (mbPath b).1.length ≤ 2 * b.1.length + b.2.length + 10 := by
  unfold mbPath
  split
  · simp
  · split
    · unfold mbText
      have := quotedB_len b.1
      split <;> simp only [List.length_cons, List.length_append, List.length_nil] <;> omega
    · simp
theorem cmWrite_short {c : Cm} (h1 : c.text.length ≤ 2048) (h2 : c.box.1.length ≤ 2048) (h3 : c.box.2.length ≤ 2048) (hz : c.size ≤ 9223372036854775807) : (cmWrite c).1.length ≤ 100000 := by
  have hp := mbPath_short c.box
  have hv := verb_len c.verb
  have h3 : 0 ≤ c.size → (Lib.decDigits c.size.toNat).length ≤ 20 := fun h => dec_len20 (by omega)
  have hb : (besideC c).1.length ≤ 90000 := by
    unfold besideC greetC fromC toC
    repeat' split
    all_goals first
      | (simp; done)
      | (simp only [List.length_cons, List.length_append, List.length_nil, fromW, sizeW, bodyW, toW]; omega)
      | (rename_i hz; have := h3 (by assumption); simp only [List.length_cons, List.length_append, List.length_nil, fromW, sizeW, bodyW, toW]; omega)
  unfold cmWrite
  split
  · simp
  · split
    · rw [List.length_append]; omega
    · simp
/-- A command that is short. -/
structure CmS (c : Cm) : Prop where
  text : c.text.length ≤ 2048
  loc : c.box.1.length ≤ 2048
  dom : c.box.2.length ≤ 2048
  lo : -9223372036854775808 ≤ c.size
  hi : c.size ≤ 9223372036854775807
theorem CmS.fit {c : Cm} (h : CmS c) : CmFit c := ⟨by have := h.text; omega, by have := h.loc; omega, by have := h.dom; omega, h.lo, h.hi⟩
theorem CmS.len {c : Cm} (h : CmS c) : (cmWrite c).1.length ≤ 100000 := cmWrite_short h.text h.loc h.dom h.hi
end Go.Proofs.YtldlbiodllgflaaGreatDoor
