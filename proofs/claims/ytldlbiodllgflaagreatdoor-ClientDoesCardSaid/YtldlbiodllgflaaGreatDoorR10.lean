/- The document's answer for layer 10: Num, Printed, Class, Whole, size, Lines, ReadReply. Conditions: the lengths fit. -/
import Derived.Test.YtldlbiodllgflaaGreatDoorCmW6
import Derived.Test.YtldlbiodllgflaaGreatDoorCmV
import Derived.Test.YtldlbiodllgflaaGreatDoorRpP
import Derived.Test.YtldlbiodllgflaaGreatDoorTx
import Derived.Test.YtldlbiodllgflaaGreatDoorChainG
import Derived.Test.YtldlbiodllgflaaGreatDoorR10n
import Derived.Deep.RegionWith
set_option linter.unusedSimpArgs false
set_option linter.unusedVariables false
set_option linter.unnecessarySimpa false
namespace Go.Proofs.YtldlbiodllgflaaGreatDoor
open Go.RowKit
open Go.Lib (decDigits)

section
variable {w0 w : World} {F0 : List Nat} {L : List Res} {v : Value}
set_option maxRecDepth 100000 in
theorem r10Class_any (code : Int) (w : World) (h1 : -9223372036854775808 ≤ code) (h2 : code ≤ 9223372036854775807) : Calls Tryz.prog 41 #[.int .i64 code] w fun e w2 => e = .returned (.int .i64 (classC code)) ∧ w = w2 := by
  by_cases h : code < 200 ∨ 599 < code
  · have HV : Hid (classC code = 0) := by unfold Hid classC; rw [if_pos h]
    rcases h with h | h
    · go_enter Tryz.func41, Tryz.ntmps41
      go_wp2
      go_ret
      rw [HV.out]
      exact ⟨rfl, rfl⟩
    · have h' : 200 ≤ code := by omega
      go_enter Tryz.func41, Tryz.ntmps41
      go_wp2
      go_ret
      rw [HV.out]
      exact ⟨rfl, rfl⟩
  · have HV : Hid (classC code = code.tdiv 100) := by unfold Hid classC; rw [if_neg h]
    have h3 : 200 ≤ code := by omega
    have h4 : code ≤ 599 := by omega
    have HT : Hid (code.tdiv 100 = code / 100) := Int.tdiv_eq_ediv_of_nonneg (by omega)
    clear h
    go_enter Tryz.func41, Tryz.ntmps41
    go_wp2
    go_ret
    rw [HV.out]
    exact ⟨by rw [HT.out]; rfl, rfl⟩
set_option maxRecDepth 100000 in
set_option maxHeartbeats 1000000 in
theorem r10Printed_any (s : Bs) (w : World) (hs : s.length ≤ 1000000) : Calls Tryz.prog 90 #[.string ⟨s.toArray⟩] w fun e w2 => e = .returned (.bool (printB s)) ∧ w = w2 := by
  have hs' : (s.length : Int) ≤ 1000000 := by omega
  clear hs
  go_enter Tryz.func90, Tryz.ntmps90
  go_wp2_with fail
  go_loop [3] (fun i => ∃ k : Nat, i = .int .i64 k ∧ k ≤ s.length ∧ (s.take k).all shownB = true) (fun i => s.length - (intOf i).toNat)
  case atStart => exact ⟨0, rfl, Nat.zero_le _, rfl⟩
  case round =>
    obtain ⟨k, rfl, hk, hall⟩ := hrel
    have HALL := Lib.hid hall
    clear hall
    by_cases hlt : k < s.length
    · have hlt' : (k : Int) < s.length := by omega
      have hix := fun w => idx_at s k hlt (k : Int) rfl w
      have HST : Hid (s.take (k + 1) = s.take k ++ [s[k]]) := List.take_succ_eq_append_getElem hlt
      have HNO : Hid (shownB s[k] = false → printB s = false) := fun h => by
        unfold printB
        rw [← Bool.not_eq_true, List.all_eq_true]
        intro h2
        have := h2 s[k] (List.getElem_mem hlt)
        rw [h] at this
        cases this
      generalize s[k] = c at *
      have hc9 := c.toNat_lt
      by_cases hc : 32 ≤ c.toNat ∧ c.toNat ≤ 126
      · have HC : Hid (shownB c = true) := by unfold Hid shownB; simp [hc]
        have h1 : (32 : Int) ≤ c.toNat := by omega
        have h2 : (c.toNat : Int) ≤ 126 := by omega
        clear hc
        go_wp2
        go_round
        case rel => exact ⟨k + 1, by go_num, by omega, by rw [HST.out, List.all_append, HALL.out]; simp [HC.out]⟩
        case measure => simp [intOf]; omega
      · have HV := Lib.hid (HNO.out (by unfold shownB; simp; omega))
        have hor : (c.toNat : Int) < 32 ∨ ((32 : Int) ≤ c.toNat ∧ (126 : Int) < c.toNat) := by omega
        clear hc
        rcases hor with h1 | ⟨h1, h2⟩
        · go_wp2
          go_ret
          exact ⟨ret_bool HV.out.symm, rfl⟩
        · go_wp2
          go_ret
          exact ⟨ret_bool HV.out.symm, rfl⟩
    · have HV : Hid (printB s = true) := by
        have := HALL.out
        rw [List.take_of_length_le (by omega)] at this
        exact this
      go_wp2
      go_ret
      exact ⟨ret_bool HV.out.symm, rfl⟩
end
end Go.Proofs.YtldlbiodllgflaaGreatDoor
