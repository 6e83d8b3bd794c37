/- CmdReplies: its walk, with the plain law. Conditions: what Go's variables hold; the arguments fit. -/
import Derived.Test.YtpclhkjladbooaaGreatDoorActC
import Derived.Test.YtpclhkjladbooaaGreatDoorR10c
set_option linter.unusedSimpArgs false
set_option linter.unusedVariables false
set_option linter.unnecessarySimpa false
namespace Go.Proofs.YtpclhkjladbooaaGreatDoor
open Go.RowKit

theorem many_fit {l : List Bs} (h : manyB l = false) : l.length ≤ 60 ∧ ∀ s ∈ l, s.length ≤ 300 := by
  unfold manyB at h
  simp only [Bool.or_eq_false_iff, decide_eq_false_iff_not] at h
  refine ⟨by omega, fun s hs => ?_⟩
  have := h.2
  rw [List.any_eq_false] at this
  have := this s hs
  simp at this
  omega
section
variable {w0 w : World} {L : List Res} {b pc : Nat} {v : Value}
set_option maxRecDepth 100000 in
set_option maxHeartbeats 8000000 in
theorem cmdReplies_walk (code : Int) (lv : Value) (l : List Bs) (w : World) (E : Env w) (hb : -9223372036854775808 ≤ code ∧ code ≤ 9223372036854775807) (T : TextsAt w lv l) :
    Calls Tryz.prog 4 #[.int .i64 code, lv] w fun e w2 => e = .returned (.bool true) ∧ Ext [] w w2 := by
  have HE := Lib.hid E
  have HT := Lib.hid T.1
  have HB := Lib.hid hb
  have HS0 := Lib.hid (Sp.nil w [])
  obtain ⟨a, cap, rfl⟩ := T.1.form
  clear E T hb
  go_enter Tryz.func4, Tryz.ntmps4
  go_wp2_with fail
  refine (awake10S HS0.out HE.out).mono ?_
  rintro e w1 ⟨rfl, S⟩
  have HS1 := Lib.hid S
  have HT1 := Lib.hid (HT.out.ext S.ext)
  clear S HS0
  go_wp2_with fail
  refine (many_any l HT1.out).mono ?_
  rintro e wq ⟨rfl, rfl⟩
  cases hml : manyB l with
  | true =>
    go_wp2
    go_ret
    exact ⟨rfl, HS1.out.ext⟩
  | false =>
  have HML := Lib.hid (many_fit hml)
  clear hml
  go_wp2_with fail
  refine (linesSp code HB.out.1 HB.out.2 l (by have := HML.out; omega) (fun s hs => by have := HML.out.2 s hs; omega) HT1.out (HE.out.ext HS1.out.ext) HS1.out).mono ?_
  have HOL : Hid ((rpLines code l).1.length ≤ 60) := by
    have := HML.out
    unfold Hid rpLines
    split
    · simp
    · split
      · simp
      · rw [rpOut_length]; omega
  rintro e w2 ⟨v2, rfl, S⟩
  have HS2 := Lib.hid S
  have HT2 := Lib.hid (HT.out.ext S.ext)
  clear S HS1
  go_wp2_with fail
  refine (r10Lines_any code HB.out.1 HB.out.2 l (by have := HML.out; omega) (fun s hs => by have := HML.out.2 s hs; omega) HT2.out).mono ?_
  rintro e w3 ⟨v3, rfl, S0⟩
  have S := HS2.out.add S0
  clear S0
  have HS3 := Lib.hid S
  have HT3 := Lib.hid (HT.out.ext S.ext)
  clear S HS2
  generalize rpLines code l = lo at *
  obtain ⟨lo, le⟩ := lo
  dsimp only at *
  go_wp2_with fail
  refine (readReplySp l (by have := HML.out; omega) (fun s hs => by have := HML.out.2 s hs; omega) HT3.out (HE.out.ext HS3.out.ext) HS3.out).mono ?_
  rintro e w4 ⟨v4, rfl, S⟩
  have HT4 := Lib.hid (HT.out.ext S.ext)
  have HFR := Lib.hid (rpRead_ref l)
  have HLEN : Hid ((rpRead l).1.2.length ≤ 60) := by
    have := HML.out
    unfold Hid rpRead rpShut
    split
    · simp
    · split
      · simp only [List.length_map]; omega
      · simp
  have HRR := Lib.hid (fun wx (h : TxAt wx (.slice a l.length cap) l) => r10ReadReply_any (w := wx) l (by have := HML.out; omega) (fun s hs => by have := HML.out.2 s hs; omega) h)
  rw [HFR.out] at HRR
  generalize rpRead l = ro at *
  obtain ⟨⟨rc, rl⟩, re⟩ := ro
  dsimp only at *
  obtain ⟨a4, cap4, rfl⟩ := S.tx.form
  have HS4 := Lib.hid (S.box #[.int .i64 rc, .slice a4 rl.length cap4] 41)
  have HT4b := Lib.hid (HT.out.ext HS4.out.ext)
  clear S HS3 HT3 HT4
  go_wp2_with fail
  generalize w4.alloc (.cells #[.int .i64 rc, .slice a4 rl.length cap4] 41) = w4b at *
  generalize w4.heap.size = q4 at *
  refine (HRR.out _ HT4b.out).mono ?_
  rintro e w5 ⟨v5, rfl, S0⟩
  have S := HS4.out.add S0
  clear S0
  obtain ⟨a5, cap5, rfl⟩ := S.tx.form
  have HS5 := Lib.hid (S.box #[.int .i64 rc, .slice a5 rl.length cap5] 43)
  clear S HS4
  have c5 := HS5.out.cell
  have l5 := HS5.out.boxlt
  have HT5 := Lib.hid (HT.out.ext HS5.out.ext)
  have d5 := HS5.out.pull2.cell
  go_wp2_with fail
  generalize w5.alloc (.cells #[.int .i64 rc, .slice a5 rl.length cap5] 43) = w5b at *
  generalize w5.heap.size = q5 at *
  refine (same_any lo lo ((Sp.pick [_, _, _, _, _, _] [5] (by decide) (HS5.out))).tx ((Sp.pick [_, _, _, _, _, _] [4] (by decide) (HS5.out))).tx (by have := HOL.out; omega)).mono ?_
  rw [decide_eq_true rfl]
  rintro e w6 ⟨rfl, z6, rfl⟩
  have HS6 := Lib.hid (HS5.out.drewN z6)
  generalize w5b.drewN z6 = w6 at *
  clear c5 l5 d5 HS5
  have c6 := HS6.out.cell
  have d6 := HS6.out.pull2.cell
  have HT6 := Lib.hid (HT.out.ext HS6.out.ext)
  have hle : (le == le) = true := by simp
  have hrc : (rc == rc) = true := by simp
  have hre : (re == re) = true := by simp
  go_wp2_with fail
  refine (same_any rl rl ((Sp.pick [_, _, _, _, _, _] [3] (by decide) (HS6.out))).tx ((Sp.pick [_, _, _, _, _, _] [1] (by decide) (HS6.out))).tx (by have := HLEN.out; omega)).mono ?_
  rw [decide_eq_true rfl]
  rintro e w7 ⟨rfl, z7, rfl⟩
  have HS7 := Lib.hid (HS6.out.drewN z7)
  generalize w6.drewN z7 = w7 at *
  clear c6 d6 HS6
  have HT7 := Lib.hid (HT.out.ext HS7.out.ext)
  go_wp2_with fail
  refine (wholeS l (fun s hs => by have := HML.out.2 s hs; omega) (by have := HML.out; omega) HT7.out HS7.out).mono ?_
  rintro e w8 ⟨rfl, S⟩
  have HS8 := Lib.hid S
  have HT8 := Lib.hid (HT.out.ext S.ext)
  clear S HS7
  go_wp2_with fail
  refine (r10Whole_any l (by have := HML.out; omega) (fun s hs => by have := HML.out.2 s hs; omega) HT8.out).mono ?_
  rintro e w9 ⟨rfl, rfl⟩
  have hwn : ((wholeN l : Int) == (wholeN l : Int)) = true := by simp
  have hcc : (classC code == classC code) = true := by simp
  go_wp2_with fail
  refine (class_any code _ HB.out.1 HB.out.2).mono ?_
  rintro e w9 ⟨rfl, rfl⟩
  go_wp2_with fail
  refine (r10Class_any code _ HB.out.1 HB.out.2).mono ?_
  rintro e w9 ⟨rfl, rfl⟩
  go_wp2
  go_ret
  exact ⟨rfl, HS8.out.ext⟩
end
end Go.Proofs.YtpclhkjladbooaaGreatDoor
