/- law 15: is an entry too large. No condition but that the argument is one. -/
import Derived.Test.YtkenacggjffjnaaGreatDoorActE
import Derived.Test.YtkenacggjffjnaaGreatDoorAw15
set_option linter.unusedSimpArgs false
set_option linter.unusedVariables false
set_option linter.unnecessarySimpa false
namespace Go.Proofs.YtkenacggjffjnaaGreatDoor
open Go.RowKit

def bigTo (x : Rcp) : Bool := decide (500 < x.1.1.length) || decide (500 < x.1.2.length)
def largeE (e : En) : Bool := decide (30 < e.rcs.length) || (decide (500 < e.dom.length) || (decide (500 < e.frm.1.length) || (decide (500 < e.frm.2.length) || e.rcs.any bigTo)))
theorem largeE_fit {e : En} (h : e.Wf) (hl : largeE e = false) : e.Fit := by
  unfold largeE at hl
  simp only [Bool.or_eq_false_iff, decide_eq_false_iff_not, List.any_eq_false] at hl
  obtain ⟨h1, h2, h3, h4, h5⟩ := hl
  refine ⟨h.id, h.ep, h.cnt, h.born, h.nxt, h.tries, by omega, ⟨by omega, by omega⟩, by omega, fun x hx => ?_⟩
  have h6 := h5 x hx
  unfold bigTo at h6
  simp only [Bool.or_eq_true, decide_eq_true_eq, not_or] at h6
  obtain ⟨_, _, h7, h8⟩ := h.each x hx
  exact ⟨by omega, by omega, h7, h8⟩
section
variable {w : World} {v : Value}
set_option maxRecDepth 100000 in
set_option maxHeartbeats 4000000 in
theorem large15_any (e : En) (v : Value) (w : World) (hw : e.Wf) (T : TosAt w v e.rcs) : Calls Tryz.prog 10 #[enAgg e v] w fun r w2 => r = .returned (.bool (largeE e)) ∧ Ext [] w w2 := by
  have HS0 := Lib.hid ((Sp.nil w []).box (enCells e v) 27)
  have HT := Lib.hid T
  have HV : Hid (largeE e = (decide (30 < e.rcs.length) || (decide (500 < e.dom.length) || (decide (500 < e.frm.1.length) || (decide (500 < e.frm.2.length) || e.rcs.any bigTo))))) := rfl
  have HWE := Lib.hid hw
  obtain ⟨id, dom, ep, cnt, ⟨fl, fd⟩, rcs, born, nxt, tries⟩ := e
  obtain ⟨va, vc, rfl⟩ := T.form
  unfold enAgg
  unfold enCells at HS0
  dsimp only at *
  clear T hw
  go_enter Tryz.func10, Tryz.ntmps10
  go_upto_region 1 with (fail)
  generalize w.alloc _ = w1 at *
  generalize w.heap.size = q at *
  have c0 := HS0.out.cell
  by_cases h1 : 30 < rcs.length
  · have h1' : (30 : Int) < rcs.length := by omega
    have HW : Hid (largeE ⟨id, dom, ep, cnt, (fl, fd), rcs, born, nxt, tries⟩ = true) := by unfold Hid; rw [HV.out, decide_eq_true h1]; rfl
    clear h1
    go_wp2
    go_ret
    exact ⟨by rw [HW.out]; rfl, HS0.out.ext⟩
  have h1' : (rcs.length : Int) ≤ 30 := by omega
  by_cases h2 : 500 < dom.length
  · have h2' : (500 : Int) < dom.length := by omega
    have HW : Hid (largeE ⟨id, dom, ep, cnt, (fl, fd), rcs, born, nxt, tries⟩ = true) := by unfold Hid; rw [HV.out, decide_eq_true h2]; simp
    clear h1 h2
    go_wp2
    go_ret
    exact ⟨by rw [HW.out]; rfl, HS0.out.ext⟩
  have h2' : (dom.length : Int) ≤ 500 := by omega
  by_cases h3 : 500 < fl.length
  · have h3' : (500 : Int) < fl.length := by omega
    have HW : Hid (largeE ⟨id, dom, ep, cnt, (fl, fd), rcs, born, nxt, tries⟩ = true) := by unfold Hid; rw [HV.out, decide_eq_true h3]; simp
    clear h1 h2 h3
    go_wp2
    go_ret
    exact ⟨by rw [HW.out]; rfl, HS0.out.ext⟩
  have h3' : (fl.length : Int) ≤ 500 := by omega
  by_cases h4 : 500 < fd.length
  · have h4' : (500 : Int) < fd.length := by omega
    have HW : Hid (largeE ⟨id, dom, ep, cnt, (fl, fd), rcs, born, nxt, tries⟩ = true) := by unfold Hid; rw [HV.out, decide_eq_true h4]; simp
    clear h1 h2 h3 h4
    go_wp2
    go_ret
    exact ⟨by rw [HW.out]; rfl, HS0.out.ext⟩
  have h4' : (fd.length : Int) ≤ 500 := by omega
  have HV2 : Hid (largeE ⟨id, dom, ep, cnt, (fl, fd), rcs, born, nxt, tries⟩ = rcs.any bigTo) := by unfold Hid; rw [HV.out, decide_eq_false h1, decide_eq_false h2, decide_eq_false h3, decide_eq_false h4]; rfl
  clear h1 h2 h3 h4 HV
  go_wp2_with fail
  go_loopw [31] (fun at0 wr => ∃ k : Nat, at0 = .int .i64 k ∧ k ≤ rcs.length ∧ (∀ x ∈ rcs.take k, bigTo x = false) ∧ wr = w1) (fun at0 _ => rcs.length - (intOf at0).toNat)
  case atStart => exact ⟨0, rfl, Nat.zero_le _, by simp, by trivial⟩
  case round =>
    obtain ⟨k, rfl, hk, hall, rfl⟩ := hrel
    have HA := Lib.hid hall
    clear hall
    have hk' : (k : Int) ≤ rcs.length := by omega
    by_cases hlt : k < rcs.length
    · have hlt' : (k : Int) < rcs.length := by omega
      obtain ⟨xb, xo, hva, x0, x1, x2⟩ := (HT.out.ext HS0.out.ext).at hlt
      subst hva
      have HTK : Hid (rcs.take (k + 1) = rcs.take k ++ [rcs[k]]) := List.take_succ_eq_append_getElem hlt
      have HMEM := Lib.hid (List.getElem_mem hlt)
      generalize rcs[k] = x at *
      obtain ⟨⟨xl, xd⟩, st⟩ := x
      dsimp only at *
      by_cases g1 : 500 < xl.length
      · have g1' : (500 : Int) < xl.length := by omega
        have HW : Hid (largeE ⟨id, dom, ep, cnt, (fl, fd), rcs, born, nxt, tries⟩ = true) := by
          unfold Hid
          rw [HV2.out, List.any_eq_true]
          exact ⟨_, HMEM.out, by unfold bigTo; rw [decide_eq_true g1]; rfl⟩
        clear g1
        go_wp2
        go_ret
        exact ⟨by rw [HW.out]; rfl, HS0.out.ext⟩
      have g1' : (xl.length : Int) ≤ 500 := by omega
      by_cases g2 : 500 < xd.length
      · have g2' : (500 : Int) < xd.length := by omega
        have HW : Hid (largeE ⟨id, dom, ep, cnt, (fl, fd), rcs, born, nxt, tries⟩ = true) := by
          unfold Hid
          rw [HV2.out, List.any_eq_true]
          exact ⟨_, HMEM.out, by unfold bigTo; rw [decide_eq_true g2]; simp⟩
        clear g1 g2
        go_wp2
        go_ret
        exact ⟨by rw [HW.out]; rfl, HS0.out.ext⟩
      have g2' : (xd.length : Int) ≤ 500 := by omega
      have HXF : Hid (bigTo ((xl, xd), st) = false) := by unfold Hid bigTo; dsimp only; rw [decide_eq_false g1, decide_eq_false g2]; rfl
      clear g1 g2
      go_wp2_with fail
      go_roundw
      case rel => exact ⟨k + 1, by go_num, by omega, fun y hy => by
          rw [HTK.out, List.mem_append] at hy
          rcases hy with hy | hy
          · exact HA.out y hy
          · rw [List.mem_singleton.1 hy]; exact HXF.out, by trivial⟩
      case measure => simp [intOf]; omega
    · obtain rfl : k = rcs.length := by omega
      have HW : Hid (largeE ⟨id, dom, ep, cnt, (fl, fd), rcs, born, nxt, tries⟩ = false) := by
        unfold Hid
        rw [HV2.out, List.any_eq_false]
        intro x hx
        rw [HA.out x (by rw [List.take_length]; exact hx)]
        simp
      go_wp2
      go_ret
      exact ⟨by rw [HW.out]; rfl, HS0.out.ext⟩
end
end Go.Proofs.YtkenacggjffjnaaGreatDoor
