/- CmdLines: its walk, with the plain law. Conditions: what Go's variables hold; the arguments fit. -/
import Derived.Test.YtpclhkjladbooaaGreatDoorActC
import Derived.Test.YtpclhkjladbooaaGreatDoorRfS
set_option linter.unusedSimpArgs false
set_option linter.unusedVariables false
set_option linter.unnecessarySimpa false
namespace Go.Proofs.YtpclhkjladbooaaGreatDoor
open Go.RowKit

theorem many_fit {l : List Bs} (h : manyB l = false) : l.length ≤ 60 ∧ ∀ s ∈ l, s.length ≤ 300 := by
  unfold manyB at h
  simp only [Bool.or_eq_false_iff, decide_eq_false_iff_not] at h
  refine ⟨by omega, fun s hs => ?_⟩
  have := h.2
  rw [List.any_eq_false] at this
  have := this s hs
  simp at this
  omega
theorem rpOut_fit {d : Bs} {l : List Bs} (hd : d.length = 3) (hl : ∀ s ∈ l, s.length ≤ 300) : ∀ s ∈ rpOut d l, s.length ≤ 400 := by
  intro s hs
  unfold rpOut rpLine at hs
  obtain ⟨i, hi, rfl⟩ := List.mem_mapIdx.1 hs
  have := hl _ (List.getElem_mem hi)
  simp only [List.length_append, List.length_cons]
  omega
section
variable {w0 w : World} {L : List Res} {b pc : Nat} {v : Value}
set_option maxRecDepth 100000 in
set_option maxHeartbeats 8000000 in
theorem cmdLines_walk (code : Int) (lv : Value) (l : List Bs) (mv : Value) (m : List Bs) (w : World) (E : Env w) (hb : -9223372036854775808 ≤ code ∧ code ≤ 9223372036854775807) (T : TextsAt w lv l) (M : TextsAt w mv m) :
    Calls Tryz.prog 7 #[.agg #[.int .i64 code, lv], mv] w fun e w2 => e = .returned (.bool true) ∧ Ext [] w w2 := by
  have HE := Lib.hid E
  have HT := Lib.hid T.1
  have HM := Lib.hid M.1
  have HB := Lib.hid hb
  have HS0 := Lib.hid ((Sp.nil w []).box #[.int .i64 code, lv] 41)
  obtain ⟨a, cap, rfl⟩ := T.1.form
  obtain ⟨am, capm, rfl⟩ := M.1.form
  clear E T M hb
  go_enter Tryz.func7, Tryz.ntmps7
  go_wp2_with fail
  refine (awake10S HS0.out HE.out).mono ?_
  generalize w.heap.size = q at *
  rintro e w1 ⟨rfl, S⟩
  have HS1 := Lib.hid S
  have c1 := S.cell
  have HT1 := Lib.hid (HT.out.ext S.ext)
  have HM1 := Lib.hid (HM.out.ext S.ext)
  clear S HS0
  go_wp2_with fail
  refine (many_any l HT1.out).mono ?_
  rintro e wq ⟨rfl, rfl⟩
  cases hml : manyB l with
  | true =>
    go_wp2
    go_ret
    exact ⟨rfl, HS1.out.ext⟩
  | false =>
  have HML := Lib.hid (many_fit hml)
  clear hml
  go_wp2_with fail
  refine (many_any m HM1.out).mono ?_
  rintro e wq ⟨rfl, rfl⟩
  cases hmm : manyB m with
  | true =>
    go_wp2
    go_ret
    exact ⟨rfl, HS1.out.ext⟩
  | false =>
  have HMM := Lib.hid (many_fit hmm)
  clear hmm
  go_wp2_with fail
  refine (linesSp code HB.out.1 HB.out.2 l (by have := HML.out; omega) (fun s hs => by have := HML.out.2 s hs; omega) HT1.out (HE.out.ext HS1.out.ext) HS1.out).mono ?_
  cases hrl : rpLines code l with
  | mk out er =>
  have HRL := Lib.hid hrl
  clear hrl
  rintro e w2 ⟨v2, rfl, S⟩
  dsimp only at S
  obtain ⟨a2, cap2, rfl⟩ := S.tx.form
  have HS2 := Lib.hid S
  have HT2 := Lib.hid S.tx
  clear S c1 HS1
  by_cases he : er = 0
  · subst he
    have HRD := Lib.hid (rpRead_lines HRL.out)
    have HLE := Lib.hid (rpRead_less HRL.out)
    have HWH := Lib.hid (fun B => rpLines_whole HRL.out B)
    obtain ⟨h1, h2, h3, hout⟩ := rpLines_ok HRL.out
    have HOL : Hid (out.length = l.length) := by unfold Hid; rw [hout, rpOut_length]
    have HOF : Hid (∀ s ∈ out, s.length ≤ 400) := by unfold Hid; rw [hout]; exact rpOut_fit (dec3_len h1) HML.out.2
    have HLP : Hid (0 < l.length) := List.length_pos_iff.2 h2
    clear h1 h2 h3 hout
    go_wp2_with fail
    refine (readReplySp out (by have := HML.out; have := HOL.out; omega) (fun s hs => by have := HOF.out s hs; omega) HT2.out (HE.out.ext HS2.out.ext) HS2.out).mono ?_
    rw [HRD.out]
    dsimp only
    rintro e w3 ⟨v3, rfl, S⟩
    obtain ⟨a3, cap3, rfl⟩ := S.tx.form
    have HS3 := Lib.hid (S.box #[.int .i64 code, .slice a3 l.length cap3] 41)
    have c3 := S.pull2.cell
    have l3 := S.pull2.boxlt
    have HT3 := Lib.hid (HT.out.ext HS3.out.ext)
    clear S HS2
    go_wp2_with fail
    refine (same_any l l HS3.out.pull1.tx HT3.out (by have := HML.out; omega)).mono ?_
    generalize w3.heap.size = q3 at *
    rw [decide_eq_true rfl]
    rintro e w4 ⟨rfl, z4, rfl⟩
    have HS4 := Lib.hid ((Sp.pick [_, _, _, _] [2] (by decide) (HS3.out.drewN z4)))
    clear HS3 c3 l3
    go_wp2_with fail
    refine (wholeS out (fun s hs => by have := HOF.out s hs; omega) (by have := HML.out; have := HOL.out; omega) HS4.out.tx HS4.out).mono ?_
    rw [(HWH.out []).2.1]
    rintro e w5 ⟨rfl, S⟩
    obtain ⟨v6, w6, hrun6, S6⟩ := S.textsNone.appendView 36 (S.textsNone.drop.tx) (by simp) (by have := HML.out; have := HOL.out; omega)
    rw [List.nil_append] at S6
    have HM6 := Lib.hid (HM.out.ext S6.ext)
    obtain ⟨v7, w7, hrun7, S7⟩ := S6.appendView 36 HM6.out (by have := HML.out; have := HOL.out; omega) (by have := HMM.out; omega)
    have HRUN6 := Lib.hid hrun6
    have HRUN7 := Lib.hid hrun7
    have HS7 := Lib.hid S7
    have HAL : Hid ((out ++ m).length ≤ 1000) := by have := HML.out; have := HMM.out; have := HOL.out; unfold Hid; rw [List.length_append]; omega
    have HAF : Hid (∀ s ∈ out ++ m, s.length ≤ 400) := fun s hs => by
      rcases List.mem_append.1 hs with hs | hs
      · exact HOF.out s hs
      · have := HMM.out.2 s hs; omega
    clear S S6 S7 hrun6 hrun7 HS4
    go_wp2_with (at_builtin; first | (refine wpList_append_run_g (by rfl) (by rfl) (by rfl) (by rfl) HRUN6.out ?_) | (refine wpList_append_run_g (by rfl) (by rfl) (by rfl) (by rfl) HRUN7.out ?_))
    refine (wholeS (out ++ m) (fun s hs => by have := HAF.out s hs; omega) (by have := HAL.out; omega) HS7.out.tx HS7.out).mono ?_
    rw [(HWH.out m).1]
    rintro e w8 ⟨rfl, S⟩
    have HS8 := Lib.hid ((Sp.pick [_, _] [1] (by decide) (S)))
    have hol : (1 : Int) ≤ out.length := by have := HLP.out; have := HOL.out; omega
    have hos : (out.length : Int) ≤ 60 := by have := HML.out; have := HOL.out; omega
    have hoc : (out.length : Int) ≤ cap2 := by have := HT2.out.cap; omega
    clear S HS7
    have HDL : Hid (out.take (out.length - 1) = out.dropLast) := (List.dropLast_eq_take).symm
    have HT8 := Lib.hid (HS8.out.tx.take (out.length - 1) (by omega))
    rw [HDL.out] at HT8
    have HDF : Hid (∀ s ∈ out.dropLast, s.length ≤ 400) := fun s hs => HOF.out s ((List.dropLast_sublist _).subset hs)
    have HDS : Hid (out.dropLast.length ≤ 60) := by unfold Hid; rw [List.length_dropLast]; omega
    go_wp2_with fail
    refine (wholeS out.dropLast (fun s hs => by have := HDF.out s hs; omega) (by have := HDS.out; omega) HT8.out HS8.out).mono ?_
    rw [(HWH.out []).2.2.1]
    rintro e w9 ⟨rfl, S⟩
    have HS9 := Lib.hid S
    have HT9 := Lib.hid (S.tx.take (out.length - 1) (by omega))
    rw [HDL.out] at HT9
    clear S HS8 HT8
    go_wp2_with fail
    refine (readReplySp out.dropLast (by have := HDS.out; omega) (fun s hs => by have := HDF.out s hs; omega) HT9.out (HE.out.ext HS9.out.ext) HS9.out).mono ?_
    rw [HLE.out]
    generalize (rpRead out.dropLast).1 = rr at *
    obtain ⟨rc, rl⟩ := rr
    dsimp only
    rintro e w10 ⟨v10, rfl, S⟩
    obtain ⟨a10, cap10, rfl⟩ := S.tx.form
    have HS10 := Lib.hid (S.box #[.int .i64 rc, .slice a10 rl.length cap10] 41)
    clear S HS9
    go_wp2
    go_ret
    exact ⟨rfl, HS10.out.ext⟩
  · have he' : (er != 0) = true := by simpa using he
    have h0 := rpLines_bad HRL.out he
    subst h0
    go_wp2
    go_ret
    exact ⟨rfl, HS2.out.ext⟩
end
end Go.Proofs.YtpclhkjladbooaaGreatDoor
