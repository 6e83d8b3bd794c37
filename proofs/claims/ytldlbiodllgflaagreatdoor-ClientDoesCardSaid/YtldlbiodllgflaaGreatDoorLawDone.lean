/- ClientDone: its walk, with the plain law. Conditions: what Go's variables hold; the arguments fit. -/
import Derived.Test.YtldlbiodllgflaaGreatDoorLw22
set_option linter.unusedSimpArgs false
set_option linter.unusedVariables false
set_option linter.unnecessarySimpa false
namespace Go.Proofs.YtldlbiodllgflaaGreatDoor
open Go.RowKit

/-- Arguments of the statements of layer 22. -/
structure Args22 (w : World) (tv : Value) (to_ : List Mb) (body : Bs) : Prop where
  at_ : BxAt w tv to_
  n : to_.length ≤ maxLen
  each : ∀ b ∈ to_, b.1.length ≤ maxLen ∧ b.2.length ≤ maxLen
  body : body.length ≤ maxLen
/-- Codes as an argument. -/
structure Codes22 (w : World) (cv : Value) (codes : List Int) : Prop where
  at_ : IxAt w cv codes
  n : codes.length ≤ maxLen
  each : ∀ c ∈ codes, -9223372036854775808 ≤ c ∧ c ≤ 9223372036854775807
section
variable {w : World} {L : List Res} {F0 : List Nat} {p b : Nat} {v : Value} {C : Cl}
set_option maxRecDepth 100000 in
set_option maxHeartbeats 8000000 in
theorem clientDone_walk (tv : Value) (to_ : List Mb) (body : Bs) (cv : Value) (codes : List Int) (w : World) (E : Env w) (A : Args22 w tv to_ body) (I : Codes22 w cv codes) :
    Calls Tryz.prog 4 #[tv, .string ⟨body.toArray⟩, cv] w fun e w2 => e = .returned (.bool true) ∧ Ext [] w w2 := by
  have HE := Lib.hid E
  have HA := Lib.hid A
  have HI := Lib.hid I
  have HS0 := Lib.hid (Sp.nil w [])
  obtain ⟨a, cap, rfl⟩ := A.at_.form
  obtain ⟨ac, capc, rfl⟩ := I.at_.form
  have hcn : (codes.length : Int) ≤ 9223372036854775807 := by have := I.n; unfold maxLen at this; omega
  clear E A I
  go_enter Tryz.func4, Tryz.ntmps4
  go_wp2_with fail
  refine (awake22S HS0.out HE.out).mono ?_
  rintro e w1 ⟨rfl, S⟩
  have HS1 := Lib.hid S
  clear S HS0
  go_wp2_with fail
  refine (large22_any [] ([], []) to_ body (by simp) (by simp) (by simp) HA.out.body HA.out.n HA.out.each (HA.out.at_.ext HS1.out.ext)).mono ?_
  rintro e w2 ⟨r, rfl, hx, hf⟩
  have HS2 := Lib.hid (HS1.out.ext0 hx)
  clear hx HS1
  cases r with
  | true =>
    go_wp2
    go_ret
    exact ⟨rfl, HS2.out.ext⟩
  | false =>
  have HF := Lib.hid (hf rfl)
  clear hf
  go_wp2_with fail
  refine (clNewS [104, 46, 120] ([], []) _ to_ body (by decide) (by decide) (by decide) HF.out.2.2.2.2.1 (by have := HF.out.2.2.2.1; omega) HF.out.2.2.2.2.2 HE.out (HA.out.at_.ext HS2.out.ext) HS2.out).mono ?_
  have HOK := Lib.hid (fun C e (h : clNew [104, 46, 120] ([], []) to_ body = (some C, e)) => clNew_ok h (by decide) (by decide) (by decide) HF.out.2.2.2.2.1 HF.out.2.2.2.2.2)
  generalize clNew [104, 46, 120] ([], []) to_ body = o at *
  obtain ⟨o1, o2⟩ := o
  cases o1 with
  | none =>
    rintro e w3 ⟨rfl, S⟩
    have HS3 := Lib.hid S
    clear S HS2
    go_wp2
    go_ret
    exact ⟨rfl, HS3.out.ext⟩
  | some C =>
  obtain ⟨hok, hj, hp0, hlen, _⟩ := HOK.out C o2 rfl
  have HK := Lib.hid hok
  have HJ := Lib.hid hj
  have HLN := Lib.hid hlen
  clear hok hj hp0 hlen HOK
  rintro e w3 ⟨p, v, rfl, S⟩
  have HS3 := Lib.hid S
  clear S HS2
  go_wp2_with fail
  go_loopw [9, 10, 11] (fun tk nv i wr => ∃ (k : Nat) (D : Cl) (a b : Bool), tk = .bool a ∧ nv = .bool b ∧ i = .int .i64 k ∧ k ≤ codes.length ∧ D.Ok ∧ D.Just a b ∧ D.tos.length = to_.length ∧ Sp w [] wr (clR p D v [])) (fun _ _ i _ => codes.length - (intOf i).toNat)
  case atStart => exact ⟨0, C, false, false, rfl, rfl, rfl, Nat.zero_le _, HK.out, HJ.out, HLN.out, HS3.out⟩
  case round =>
    clear HS3 HK HJ HLN
    obtain ⟨k, D, ta, nb, rfl, rfl, rfl, hk, hok, hj, hlen, S⟩ := hrel
    have HS := Lib.hid S
    have HK := Lib.hid hok
    have HJ := Lib.hid hj
    have HLN := Lib.hid hlen
    clear S hok hj hlen
    by_cases hgo : k < codes.length ∧ k < 60 ∧ D.phase ≠ 8
    · have hlt : k < codes.length := hgo.1
      have hlt' : (k : Int) < codes.length := by omega
      have h60 : (k : Int) < 60 := by omega
      have h8 : (D.phase == 8) = false := by simpa using hgo.2.2
      obtain ⟨b, off, rfl, _⟩ := (HI.out.at_.ext HS.out.ext).at hlt
      have HC2 : Hid (∀ wx, Ext [] w wx → wx.cell? ⟨b, off + k, none⟩ = some (.int .i64 codes[k])) := fun wx hx => by
        obtain ⟨b', off', e, h⟩ := (HI.out.at_.ext hx).at hlt
        cases e
        exact h
      have HCB := Lib.hid (HI.out.each _ (List.getElem_mem hlt))
      generalize codes[k] = c at *
      have ck := HC2.out _ HS.out.ext
      clear hgo
      go_wp2_with fail
      refine (clOver_any (C := D) HS.out).mono ?_
      rw [h8]
      rintro e wq ⟨rfl, rfl⟩
      go_wp2_with fail
      refine (clPhase_any (C := D) HS.out).mono ?_
      rintro e wq ⟨rfl, rfl⟩
      go_wp2_with fail
      refine (clTakeS (C := D) c HCB.out.1 HCB.out.2 HK.out HS.out HE.out).mono ?_
      obtain ⟨hok2, _, hph⟩ := take_goes HK.out c
      have HK2 := Lib.hid hok2
      have HPH := Lib.hid hph
      have HJ2 := Lib.hid (take_just HJ.out c)
      have HL2 : Hid ((D.take c).1.tos.length = to_.length) := by unfold Hid; rw [(take_like D c).len, HLN.out]
      clear hok2 hph
      generalize D.take c = t at *
      obtain ⟨D2, s⟩ := t
      dsimp only at *
      rintro e w5 ⟨rfl, S⟩
      have HS5 : Hid (Sp w [] w5 (clR p D2 v [])) := Lib.hid S
      have ck5 := HC2.out _ S.ext
      clear S ck HS
      have HCL := Lib.hid (fun w' => class_any c w' HCB.out.1 HCB.out.2)
      generalize classC c = cl at *
      have HNX : Hid (∀ (a2 b2 : Bool), a2 = (ta || (D.phase == 6 && cl == 2)) → b2 = (nb || cl == 5) → D2.Just a2 b2) := fun a2 b2 h1 h2 => by rw [h1, h2]; exact HJ2.out
      have hor : (D.phase ≤ D2.phase) ∨ (D2.phase < D.phase ∧ (D2.phase != 4) = false) := by
        rcases HPH.out with h | h
        · exact .inl h
        · by_cases h2 : D.phase ≤ D2.phase
          · exact .inl h2
          · exact .inr ⟨by omega, by rw [h]; rfl⟩
      cases ta with
      | true =>
        cases nb with
        | true =>
          rcases hor with h1 | ⟨h1, h2⟩
          · skip
            go_wp2_with fail
            refine (clPhase_any (C := D2) HS5.out).mono ?_
            rintro e wq ⟨rfl, rfl⟩
            go_wp2
            go_roundw
            case rel => exact ⟨k + 1, D2, true, true, rfl, rfl, by go_num, by omega, HK2.out, HNX.out _ _ (by simp ) (by simp), HL2.out, HS5.out⟩
            case measure => simp [intOf]; omega
          · skip
            go_wp2_with fail
            refine (clPhase_any (C := D2) HS5.out).mono ?_
            rintro e wq ⟨rfl, rfl⟩
            go_wp2_with fail
            refine (clPhase_any (C := D2) HS5.out).mono ?_
            rintro e wq ⟨rfl, rfl⟩
            go_wp2
            go_roundw
            case rel => exact ⟨k + 1, D2, true, true, rfl, rfl, by go_num, by omega, HK2.out, HNX.out _ _ (by simp ) (by simp), HL2.out, HS5.out⟩
            case measure => simp [intOf]; omega
        | false =>
          rcases hor with h1 | ⟨h1, h2⟩
          · skip
            go_wp2_with fail
            refine (HCL.out _).mono ?_
            rintro e wq ⟨rfl, rfl⟩
            go_wp2_with fail
            refine (clPhase_any (C := D2) HS5.out).mono ?_
            rintro e wq ⟨rfl, rfl⟩
            go_wp2
            go_roundw
            case rel => exact ⟨k + 1, D2, true, (cl == 5), rfl, rfl, by go_num, by omega, HK2.out, HNX.out _ _ (by simp ) (by simp), HL2.out, HS5.out⟩
            case measure => simp [intOf]; omega
          · skip
            go_wp2_with fail
            refine (HCL.out _).mono ?_
            rintro e wq ⟨rfl, rfl⟩
            go_wp2_with fail
            refine (clPhase_any (C := D2) HS5.out).mono ?_
            rintro e wq ⟨rfl, rfl⟩
            go_wp2_with fail
            refine (clPhase_any (C := D2) HS5.out).mono ?_
            rintro e wq ⟨rfl, rfl⟩
            go_wp2
            go_roundw
            case rel => exact ⟨k + 1, D2, true, (cl == 5), rfl, rfl, by go_num, by omega, HK2.out, HNX.out _ _ (by simp ) (by simp), HL2.out, HS5.out⟩
            case measure => simp [intOf]; omega
      | false =>
        cases q6 : D.phase == 6 with
        | false =>
          have HQ6 := Lib.hid q6
          cases nb with
          | true =>
            rcases hor with h1 | ⟨h1, h2⟩
            · skip
              go_wp2_with fail
              refine (clPhase_any (C := D2) HS5.out).mono ?_
              rintro e wq ⟨rfl, rfl⟩
              go_wp2
              go_roundw
              case rel => exact ⟨k + 1, D2, false, true, rfl, rfl, by go_num, by omega, HK2.out, HNX.out _ _ (by simp [HQ6.out]) (by simp), HL2.out, HS5.out⟩
              case measure => simp [intOf]; omega
            · skip
              go_wp2_with fail
              refine (clPhase_any (C := D2) HS5.out).mono ?_
              rintro e wq ⟨rfl, rfl⟩
              go_wp2_with fail
              refine (clPhase_any (C := D2) HS5.out).mono ?_
              rintro e wq ⟨rfl, rfl⟩
              go_wp2
              go_roundw
              case rel => exact ⟨k + 1, D2, false, true, rfl, rfl, by go_num, by omega, HK2.out, HNX.out _ _ (by simp [HQ6.out]) (by simp), HL2.out, HS5.out⟩
              case measure => simp [intOf]; omega
          | false =>
            rcases hor with h1 | ⟨h1, h2⟩
            · skip
              go_wp2_with fail
              refine (HCL.out _).mono ?_
              rintro e wq ⟨rfl, rfl⟩
              go_wp2_with fail
              refine (clPhase_any (C := D2) HS5.out).mono ?_
              rintro e wq ⟨rfl, rfl⟩
              go_wp2
              go_roundw
              case rel => exact ⟨k + 1, D2, false, (cl == 5), rfl, rfl, by go_num, by omega, HK2.out, HNX.out _ _ (by simp [HQ6.out]) (by simp), HL2.out, HS5.out⟩
              case measure => simp [intOf]; omega
            · skip
              go_wp2_with fail
              refine (HCL.out _).mono ?_
              rintro e wq ⟨rfl, rfl⟩
              go_wp2_with fail
              refine (clPhase_any (C := D2) HS5.out).mono ?_
              rintro e wq ⟨rfl, rfl⟩
              go_wp2_with fail
              refine (clPhase_any (C := D2) HS5.out).mono ?_
              rintro e wq ⟨rfl, rfl⟩
              go_wp2
              go_roundw
              case rel => exact ⟨k + 1, D2, false, (cl == 5), rfl, rfl, by go_num, by omega, HK2.out, HNX.out _ _ (by simp [HQ6.out]) (by simp), HL2.out, HS5.out⟩
              case measure => simp [intOf]; omega
        | true =>
          have HQ6 := Lib.hid q6
          cases nb with
          | true =>
            rcases hor with h1 | ⟨h1, h2⟩
            · skip
              go_wp2_with fail
              refine (HCL.out _).mono ?_
              rintro e wq ⟨rfl, rfl⟩
              go_wp2_with fail
              refine (clPhase_any (C := D2) HS5.out).mono ?_
              rintro e wq ⟨rfl, rfl⟩
              go_wp2
              go_roundw
              case rel => exact ⟨k + 1, D2, (cl == 2), true, rfl, rfl, by go_num, by omega, HK2.out, HNX.out _ _ (by simp [HQ6.out]) (by simp), HL2.out, HS5.out⟩
              case measure => simp [intOf]; omega
            · skip
              go_wp2_with fail
              refine (HCL.out _).mono ?_
              rintro e wq ⟨rfl, rfl⟩
              go_wp2_with fail
              refine (clPhase_any (C := D2) HS5.out).mono ?_
              rintro e wq ⟨rfl, rfl⟩
              go_wp2_with fail
              refine (clPhase_any (C := D2) HS5.out).mono ?_
              rintro e wq ⟨rfl, rfl⟩
              go_wp2
              go_roundw
              case rel => exact ⟨k + 1, D2, (cl == 2), true, rfl, rfl, by go_num, by omega, HK2.out, HNX.out _ _ (by simp [HQ6.out]) (by simp), HL2.out, HS5.out⟩
              case measure => simp [intOf]; omega
          | false =>
            rcases hor with h1 | ⟨h1, h2⟩
            · skip
              go_wp2_with fail
              refine (HCL.out _).mono ?_
              rintro e wq ⟨rfl, rfl⟩
              go_wp2_with fail
              refine (HCL.out _).mono ?_
              rintro e wq ⟨rfl, rfl⟩
              go_wp2_with fail
              refine (clPhase_any (C := D2) HS5.out).mono ?_
              rintro e wq ⟨rfl, rfl⟩
              go_wp2
              go_roundw
              case rel => exact ⟨k + 1, D2, (cl == 2), (cl == 5), rfl, rfl, by go_num, by omega, HK2.out, HNX.out _ _ (by simp [HQ6.out]) (by simp), HL2.out, HS5.out⟩
              case measure => simp [intOf]; omega
            · skip
              go_wp2_with fail
              refine (HCL.out _).mono ?_
              rintro e wq ⟨rfl, rfl⟩
              go_wp2_with fail
              refine (HCL.out _).mono ?_
              rintro e wq ⟨rfl, rfl⟩
              go_wp2_with fail
              refine (clPhase_any (C := D2) HS5.out).mono ?_
              rintro e wq ⟨rfl, rfl⟩
              go_wp2_with fail
              refine (clPhase_any (C := D2) HS5.out).mono ?_
              rintro e wq ⟨rfl, rfl⟩
              go_wp2
              go_roundw
              case rel => exact ⟨k + 1, D2, (cl == 2), (cl == 5), rfl, rfl, by go_num, by omega, HK2.out, HNX.out _ _ (by simp [HQ6.out]) (by simp), HL2.out, HS5.out⟩
              case measure => simp [intOf]; omega
    · have hor : ((codes.length : Int) ≤ k) ∨ ((k : Int) < codes.length ∧ (60 : Int) ≤ k) ∨ ((k : Int) < codes.length ∧ (k : Int) < 60 ∧ (D.phase == 8) = true) := by
        by_cases h1 : k < codes.length
        · by_cases h2 : k < 60
          · have h3 : D.phase = 8 := Classical.byContradiction fun h => hgo ⟨h1, h2, h⟩
            exact .inr (.inr ⟨by omega, by omega, by simpa using h3⟩)
          · exact .inr (.inl ⟨by omega, by omega⟩)
        · exact .inl (by omega)
      clear hgo
      have HOV := Lib.hid (clOver_any (C := D) HS.out)
      have HSTA := Lib.hid (fun (w' : World) (L' : List Res) (S' : Sp w [] w' (clR p D v L')) => clStatesS (C := D) (by have := HK.out.n10; omega) S')
      have HLS : Hid ((D.tos.map Rc.state).length = to_.length) := by unfold Hid; rw [List.length_map, HLN.out]
      have HST : Hid (∀ z ∈ D.tos.map Rc.state, z = 0 ∨ (z = 1 ∧ ta = true) ∨ (z = 2 ∧ nb = true)) := fun z hz => by
        obtain ⟨r, hr, rfl⟩ := List.mem_map.1 hz
        exact HJ.out r hr
      have hl10 : (to_.length : Int) ≤ 10 := by have := HK.out.n10; have := HLN.out; omega
      generalize D.tos.map Rc.state = sl at *
      rcases hor with h1 | ⟨h1, h2⟩ | ⟨h1, h2, h3⟩
      rotate_left 2
      · rw [h3] at HOV
        go_wp2_with fail
        refine HOV.out.mono ?_
        rintro e wq ⟨rfl, rfl⟩
        go_wp2_with fail
        refine (HSTA.out _ _ HS.out).mono ?_
        rintro e w6 ⟨v6, rfl, S⟩
        have HS6 := Lib.hid S
        have HX6 := Lib.hid S.ixAt
        obtain ⟨a6, cap6, rfl⟩ := S.ixAt.form
        have hsl : (sl.length : Int) = to_.length := by rw [HLS.out]
        clear S HS HOV
        go_wp2_with fail
        go_loopw [87] (fun i wr => ∃ j : Nat, i = .int .i64 j ∧ j ≤ sl.length ∧ w6 = wr) (fun i _ => sl.length - (intOf i).toNat)
        case atStart => exact ⟨0, by first | rfl | simp, Nat.zero_le _, rfl⟩
        case round =>
          obtain ⟨j, rfl, hj, rfl⟩ := hrel
          by_cases hjl : j < sl.length
          · have hjl' : (j : Int) < sl.length := by omega
            obtain ⟨b6, o6, rfl, z0⟩ := HX6.out.at hjl
            have hz := HST.out _ (List.getElem_mem hjl)
            generalize sl[j] = z at *
            rcases hz with rfl | ⟨rfl, rfl⟩ | ⟨rfl, rfl⟩
            all_goals
              go_wp2
              go_roundw
              case rel => exact ⟨j + 1, by go_num, by omega, by trivial⟩
              case measure => simp [intOf]; omega
          · go_wp2_with fail
            refine (HSTA.out _ _ HS6.out.drop).mono ?_
            rintro e w7 ⟨v7, rfl, S⟩
            have HS7 := Lib.hid S
            obtain ⟨a7, cap7, rfl⟩ := S.ixAt.form
            clear S HS6
            go_wp2
            go_ret
            refine ⟨ret_bool ?_, HS7.out.ext⟩
            first | rfl | (rw [HLS.out]; simp)
      all_goals
        go_wp2_with fail
        refine (HSTA.out _ _ HS.out).mono ?_
        rintro e w6 ⟨v6, rfl, S⟩
        have HS6 := Lib.hid S
        have HX6 := Lib.hid S.ixAt
        obtain ⟨a6, cap6, rfl⟩ := S.ixAt.form
        have hsl : (sl.length : Int) = to_.length := by rw [HLS.out]
        clear S HS HOV
        go_wp2_with fail
        go_loopw [87] (fun i wr => ∃ j : Nat, i = .int .i64 j ∧ j ≤ sl.length ∧ w6 = wr) (fun i _ => sl.length - (intOf i).toNat)
        case atStart => exact ⟨0, by first | rfl | simp, Nat.zero_le _, rfl⟩
        case round =>
          obtain ⟨j, rfl, hj, rfl⟩ := hrel
          by_cases hjl : j < sl.length
          · have hjl' : (j : Int) < sl.length := by omega
            obtain ⟨b6, o6, rfl, z0⟩ := HX6.out.at hjl
            have hz := HST.out _ (List.getElem_mem hjl)
            generalize sl[j] = z at *
            rcases hz with rfl | ⟨rfl, rfl⟩ | ⟨rfl, rfl⟩
            all_goals
              go_wp2
              go_roundw
              case rel => exact ⟨j + 1, by go_num, by omega, by trivial⟩
              case measure => simp [intOf]; omega
          · go_wp2_with fail
            refine (HSTA.out _ _ HS6.out.drop).mono ?_
            rintro e w7 ⟨v7, rfl, S⟩
            have HS7 := Lib.hid S
            obtain ⟨a7, cap7, rfl⟩ := S.ixAt.form
            clear S HS6
            go_wp2
            go_ret
            refine ⟨ret_bool ?_, HS7.out.ext⟩
            first | rfl | (rw [HLS.out]; simp)
end
end Go.Proofs.YtldlbiodllgflaaGreatDoor
