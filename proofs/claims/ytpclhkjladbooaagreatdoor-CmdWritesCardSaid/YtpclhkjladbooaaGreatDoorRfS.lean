/- The document's answer for layer 10: are texts the same. No condition but that the lengths fit. -/
import Derived.Test.YtpclhkjladbooaaGreatDoorTx
set_option linter.unusedSimpArgs false
set_option linter.unusedVariables false
set_option linter.unnecessarySimpa false
namespace Go.Proofs.YtpclhkjladbooaaGreatDoor
open Go.RowKit

section
variable {w : World} {v v2 : Value}
set_option maxRecDepth 100000 in
set_option maxHeartbeats 1000000 in
theorem same_any (l m : List Bs) (T : TxAt w v l) (T2 : TxAt w v2 m) (hl : l.length ≤ 1000000) : Calls Tryz.prog 18 #[v, v2] w fun e w2 => e = .returned (.bool (decide (l = m))) ∧ ∃ q, w2 = w.drewN q := by
  have HT := Lib.hid T
  have HT2 := Lib.hid T2
  obtain ⟨a, cap, rfl⟩ := T.form
  obtain ⟨a2, cap2, rfl⟩ := T2.form
  clear T T2
  have hl' : (l.length : Int) ≤ 1000000 := by omega
  by_cases hlen : l.length = m.length
  · have hle : ((l.length : Int) != (m.length : Int)) = false := by simp [hlen]
    go_enter Tryz.func18, Tryz.ntmps18
    go_wp2_with fail
    go_loopw [5] (fun i wr => ∃ k q : Nat, i = .int .i64 k ∧ k ≤ l.length ∧ l.take k = m.take k ∧ wr = w.drewN q) (fun i _ => l.length - (intOf i).toNat)
    case atStart => exact ⟨0, 0, rfl, Nat.zero_le _, rfl, rfl⟩
    case round =>
      obtain ⟨k, q, rfl, hk, heq, rfl⟩ := hrel
      have HQ := Lib.hid heq
      clear heq
      by_cases hlt : k < l.length
      · have hlt' : (k : Int) < l.length := by omega
        have hltm : (k : Int) < m.length := by omega
        obtain ⟨b, off, rfl, ck⟩ := HT.out.at hlt
        obtain ⟨b2, off2, rfl, dk⟩ := HT2.out.at (i := k) (by omega)
        have HS1 : Hid (l.take (k + 1) = l.take k ++ [l[k]]) := List.take_succ_eq_append_getElem hlt
        have HS2 : Hid (m.take (k + 1) = m.take k ++ [m[k]]) := List.take_succ_eq_append_getElem (by omega)
        have HNE : Hid (l[k] ≠ m[k] → l ≠ m) := fun h e => h (by subst e; rfl)
        generalize l[k] = x at *
        generalize m[k] = y at *
        by_cases hxy : x = y
        · subst hxy
          go_wp2_with fail
          go_region
          go_wp2
          go_roundw
          case rel => exact ⟨k + 1, q + 1, by go_num, by omega, by rw [HS1.out, HS2.out, HQ.out], rfl⟩
          case measure => simp [intOf]; omega
        · have HV : Hid (decide (l = m) = false) := decide_eq_false (HNE.out hxy)
          have hb : (x == y) = false := by simpa using hxy
          go_wp2_with fail
          go_region
          go_wp2
          go_ret
          exact ⟨ret_bool HV.out.symm, q + 1, rfl⟩
      · have HV : Hid (decide (l = m) = true) := by
          have := HQ.out
          rw [List.take_of_length_le (by omega), List.take_of_length_le (by omega)] at this
          exact decide_eq_true this
        go_wp2
        go_ret
        exact ⟨ret_bool HV.out.symm, q, rfl⟩
  · have hle : ((l.length : Int) != (m.length : Int)) = true := by simpa using fun h => hlen (by omega)
    have HV : Hid (decide (l = m) = false) := decide_eq_false fun e => hlen (by rw [e])
    clear hlen
    go_enter Tryz.func18, Tryz.ntmps18
    go_wp2
    go_ret
    exact ⟨ret_bool HV.out.symm, 0, rfl⟩
end
end Go.Proofs.YtpclhkjladbooaaGreatDoor
