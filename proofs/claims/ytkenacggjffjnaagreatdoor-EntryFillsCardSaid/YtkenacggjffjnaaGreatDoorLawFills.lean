/- law 15: bodies filled up are the document's. Conditions: what Go's variables hold. -/
import Derived.Test.YtkenacggjffjnaaGreatDoorAw15
import Derived.Test.YtkenacggjffjnaaGreatDoorR15
set_option linter.unusedSimpArgs false
set_option linter.unusedVariables false
set_option linter.unnecessarySimpa false
namespace Go.Proofs.YtkenacggjffjnaaGreatDoor
open Go.RowKit

section
variable {w : World}
set_option maxRecDepth 100000 in
set_option maxHeartbeats 4000000 in
theorem entryFills_walk (body s : Bs) (w : World) (E : Env w) (hb : body.length ≤ maxLen) (hs : s.length ≤ maxLen) : Calls Tryz.prog 4 #[.string ⟨body.toArray⟩, .string ⟨s.toArray⟩] w fun e w2 => e = .returned (.bool true) ∧ Ext [] w w2 := by
  have HE := Lib.hid E
  have HS0 := Lib.hid (Sp.nil w [])
  have HF := Lib.hid (fun (w' : World) (S' : Sp w [] w' []) => enFillS body S')
  have HR := Lib.hid (fun (w' : World) (S' : Sp w [] w' []) => r15FillS body S')
  have HA := Lib.hid (awake15S (Sp.nil w []) E)
  clear E hb hs
  go_enter Tryz.func4, Tryz.ntmps4
  go_wp2_with fail
  refine HA.out.mono ?_
  rintro e w1 ⟨rfl, S⟩
  have HS1 := Lib.hid S
  clear S HA
  by_cases h1 : 5000 < body.length ∧ body.length ≤ 16000
  · have h1' : (5000 : Int) < body.length := by omega
    have h2' : (body.length : Int) ≤ 16000 := by omega
    clear h1
    go_wp2
    go_ret
    exact ⟨rfl, HS1.out.ext⟩
  by_cases h3 : 8192 < s.length
  · have h3' : (8192 : Int) < s.length := by omega
    by_cases h4 : 5000 < body.length
    · have h4' : (5000 : Int) < body.length := by omega
      have h5' : (16000 : Int) < body.length := by omega
      clear h1 h3 h4
      go_wp2
      go_ret
      exact ⟨rfl, HS1.out.ext⟩
    · have h4' : (body.length : Int) ≤ 5000 := by omega
      clear h1 h3 h4
      go_wp2
      go_ret
      exact ⟨rfl, HS1.out.ext⟩
  have h3' : (s.length : Int) ≤ 8192 := by omega
  have HU := Lib.hid (fun (w' : World) (S' : Sp w [] w' []) => enUnfillS s (by omega) S')
  have HV := Lib.hid (fun (w' : World) (S' : Sp w [] w' []) => r15UnfillS s (by omega) S')
  generalize enFill body = x at *
  generalize enUnfill s = y at *
  obtain ⟨x1, x2⟩ := x
  obtain ⟨y1, y2⟩ := y
  dsimp only at *
  have HZ : Hid (5000 < body.length ∧ 16000 < body.length ∨ body.length ≤ 5000) := by unfold Hid; omega
  clear h1 h3
  rcases HZ.out with ⟨h4, h5⟩ | h4
  · have h4' : (5000 : Int) < body.length := by omega
    have h5' : (16000 : Int) < body.length := by omega
    clear h4 h5
    go_wp2_with fail
    refine (HF.out _ HS1.out).mono ?_
    rintro e w2 ⟨rfl, S⟩
    have HS2 := Lib.hid S
    clear S HF HS1
    go_wp2_with fail
    refine (HR.out _ HS2.out).mono ?_
    rintro e w3 ⟨rfl, S⟩
    have HS3 := Lib.hid S
    clear S HR HS2
    go_wp2_with fail
    refine (HU.out _ HS3.out).mono ?_
    rintro e w4 ⟨rfl, S⟩
    have HS4 := Lib.hid S
    clear S HU HS3
    go_wp2_with fail
    refine (HV.out _ HS4.out).mono ?_
    rintro e w5 ⟨rfl, S⟩
    have HS5 := Lib.hid S
    clear S HV HS4
    go_wp2
    go_ret
    exact ⟨rfl, HS5.out.ext⟩
  · have h4' : (body.length : Int) ≤ 5000 := by omega
    clear h4
    go_wp2_with fail
    refine (HF.out _ HS1.out).mono ?_
    rintro e w2 ⟨rfl, S⟩
    have HS2 := Lib.hid S
    clear S HF HS1
    go_wp2_with fail
    refine (HR.out _ HS2.out).mono ?_
    rintro e w3 ⟨rfl, S⟩
    have HS3 := Lib.hid S
    clear S HR HS2
    go_wp2_with fail
    refine (HU.out _ HS3.out).mono ?_
    rintro e w4 ⟨rfl, S⟩
    have HS4 := Lib.hid S
    clear S HU HS3
    go_wp2_with fail
    refine (HV.out _ HS4.out).mono ?_
    rintro e w5 ⟨rfl, S⟩
    have HS5 := Lib.hid S
    clear S HV HS4
    go_wp2
    go_ret
    exact ⟨rfl, HS5.out.ext⟩
end
end Go.Proofs.YtkenacggjffjnaaGreatDoor
