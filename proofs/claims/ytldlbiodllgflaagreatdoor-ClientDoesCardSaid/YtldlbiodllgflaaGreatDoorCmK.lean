/- cmd: Class. Conditions: the number fits. -/
import Derived.Test.YtldlbiodllgflaaGreatDoorCmP
import Derived.Test.YtldlbiodllgflaaGreatDoorSp
import Derived.Test.YtldlbiodllgflaaGreatDoorAdW
set_option linter.unusedSimpArgs false
set_option linter.unusedVariables false
set_option linter.unnecessarySimpa false
namespace Go.Proofs.YtldlbiodllgflaaGreatDoor
open Go.RowKit

set_option maxRecDepth 100000 in
theorem class_any (code : Int) (w : World) (h1 : -9223372036854775808 ≤ code) (h2 : code ≤ 9223372036854775807) : Calls Tryz.prog 20 #[.int .i64 code] w fun e w2 => e = .returned (.int .i64 (classC code)) ∧ w = w2 := by
  by_cases h : code < 200 ∨ 599 < code
  · have HV : Hid (classC code = 0) := by unfold Hid classC; rw [if_pos h]
    rcases h with h | h
    · go_enter Tryz.func20, Tryz.ntmps20
      go_wp2
      go_ret
      rw [HV.out]
      exact ⟨rfl, rfl⟩
    · have h' : 200 ≤ code := by omega
      go_enter Tryz.func20, Tryz.ntmps20
      go_wp2
      go_ret
      rw [HV.out]
      exact ⟨rfl, rfl⟩
  · have HV : Hid (classC code = code.tdiv 100) := by unfold Hid classC; rw [if_neg h]
    have h3 : 200 ≤ code := by omega
    have h4 : code ≤ 599 := by omega
    have HT : Hid (code.tdiv 100 = code / 100) := Int.tdiv_eq_ediv_of_nonneg (by omega)
    clear h
    go_enter Tryz.func20, Tryz.ntmps20
    go_wp2
    go_ret
    rw [HV.out]
    exact ⟨by rw [HT.out]; rfl, rfl⟩
end Go.Proofs.YtldlbiodllgflaaGreatDoor
