/- ClientEnds: its walk, with the plain law. Conditions: what Go's variables hold; the arguments fit. -/
import Derived.Test.YtldlbiodllgflaaGreatDoorLawDone
set_option linter.unusedSimpArgs false
set_option linter.unusedVariables false
set_option linter.unnecessarySimpa false
namespace Go.Proofs.YtldlbiodllgflaaGreatDoor
open Go.RowKit

theorem rank_lt8 {C : Cl} (h : C.Ok) (h8 : C.phase ≠ 8) : C.rank ≤ 6 + C.tos.length := by
  have h4 := h.at4
  have := h.ph0
  have := h.ph8
  have := h.n1
  unfold Cl.rank
  split
  · omega
  · split
    · rename_i h4'
      have := h4 h4'
      omega
    · omega
theorem take_over {C : Cl} (h8 : C.phase = 8) (code : Int) : C.take code = ({ C with phase := 8 }, []) := by
  unfold Cl.take
  rw [if_neg (by omega), if_neg (by omega), if_neg (by omega), if_pos (.inr h8)]
section
variable {w : World} {L : List Res} {F0 : List Nat} {p b : Nat} {v : Value} {C : Cl}
set_option maxRecDepth 100000 in
set_option maxHeartbeats 8000000 in
theorem clientEnds_walk (tv : Value) (to_ : List Mb) (body : Bs) (cv : Value) (codes : List Int) (w : World) (E : Env w) (A : Args22 w tv to_ body) (I : Codes22 w cv codes) :
    Calls Tryz.prog 5 #[tv, .string ⟨body.toArray⟩, cv] w fun e w2 => e = .returned (.bool true) ∧ Ext [] w w2 := by
  have HE := Lib.hid E
  have HA := Lib.hid A
  have HI := Lib.hid I
  have HS0 := Lib.hid (Sp.nil w [])
  obtain ⟨a, cap, rfl⟩ := A.at_.form
  obtain ⟨ac, capc, rfl⟩ := I.at_.form
  have hcn : (codes.length : Int) ≤ 9223372036854775807 := by have := I.n; unfold maxLen at this; omega
  clear E A I
  go_enter Tryz.func5, Tryz.ntmps5
  go_wp2_with fail
  refine (awake22S HS0.out HE.out).mono ?_
  rintro e w1 ⟨rfl, S⟩
  have HS1 := Lib.hid S
  clear S HS0
  go_wp2_with fail
  refine (large22_any [] ([], []) to_ body (by simp) (by simp) (by simp) HA.out.body HA.out.n HA.out.each (HA.out.at_.ext HS1.out.ext)).mono ?_
  rintro e w2 ⟨r, rfl, hx, hf⟩
  have HS2 := Lib.hid (HS1.out.ext0 hx)
  clear hx HS1
  cases r with
  | true =>
    go_wp2
    go_ret
    exact ⟨rfl, HS2.out.ext⟩
  | false =>
  have HF := Lib.hid (hf rfl)
  clear hf
  go_wp2_with fail
  refine (clNewS [104, 46, 120] ([], []) _ to_ body (by decide) (by decide) (by decide) HF.out.2.2.2.2.1 (by have := HF.out.2.2.2.1; omega) HF.out.2.2.2.2.2 HE.out (HA.out.at_.ext HS2.out.ext) HS2.out).mono ?_
  have HOK := Lib.hid (fun C e (h : clNew [104, 46, 120] ([], []) to_ body = (some C, e)) => clNew_ok h (by decide) (by decide) (by decide) HF.out.2.2.2.2.1 HF.out.2.2.2.2.2)
  generalize clNew [104, 46, 120] ([], []) to_ body = o at *
  obtain ⟨o1, o2⟩ := o
  cases o1 with
  | none =>
    rintro e w3 ⟨rfl, S⟩
    have HS3 := Lib.hid S
    clear S HS2
    go_wp2
    go_ret
    exact ⟨rfl, HS3.out.ext⟩
  | some C =>
  obtain ⟨hok, hj, hp0, hlen, _⟩ := HOK.out C o2 rfl
  have HK := Lib.hid hok
  have HJ := Lib.hid hj
  have HLN := Lib.hid hlen
  clear hok hj hp0 hlen HOK
  rintro e w3 ⟨p, v, rfl, S⟩
  have HS3 := Lib.hid S
  clear S HS2
  go_wp2_with fail
  go_loopw [9] (fun i wr => ∃ (k : Nat) (D : Cl), i = .int .i64 k ∧ k ≤ codes.length ∧ D.Ok ∧ D.tos.length = to_.length ∧ (D.phase = 8 ∨ k ≤ D.rank) ∧ Sp w [] wr (clR p D v [])) (fun i _ => codes.length - (intOf i).toNat)
  case atStart => exact ⟨0, C, rfl, Nat.zero_le _, HK.out, HLN.out, .inr (Nat.zero_le _), HS3.out⟩
  case round =>
    clear HS3 HK HJ HLN
    obtain ⟨k, D, rfl, hk, hok, hlen, hrk, S⟩ := hrel
    have HS := Lib.hid S
    have HK := Lib.hid hok
    have HLN := Lib.hid hlen
    have HRK := Lib.hid hrk
    clear S hok hlen hrk
    have HOV := Lib.hid (fun (D : Cl) (w' : World) (L' : List Res) (S' : Sp w [] w' (clR p D v L')) => clOver_any (C := D) S')
    have hl10 : (to_.length : Int) ≤ 10 := by have := HK.out.n10; have := HLN.out; omega
    by_cases hgo : k < codes.length ∧ k < 60
    · have hlt : k < codes.length := hgo.1
      have hlt' : (k : Int) < codes.length := by omega
      have h60 : (k : Int) < 60 := by omega
      obtain ⟨b, off, rfl, _⟩ := (HI.out.at_.ext HS.out.ext).at hlt
      have HC2 : Hid (∀ wx, Ext [] w wx → wx.cell? ⟨b, off + k, none⟩ = some (.int .i64 codes[k])) := fun wx hx => by
        obtain ⟨b', off', e, h⟩ := (HI.out.at_.ext hx).at hlt
        cases e
        exact h
      have HCB := Lib.hid (HI.out.each _ (List.getElem_mem hlt))
      generalize codes[k] = c at *
      clear hgo
      go_wp2_with fail
      refine (HOV.out D _ _ HS.out).mono ?_
      rintro e wq ⟨rfl, rfl⟩
      have HSTA := Lib.hid (clStatesS (C := D) (by have := HK.out.n10; omega) HS.out)
      have hsn : (D.tos.map Rc.state).length ≤ 1000000 := by rw [List.length_map, HLN.out]; omega
      generalize hsl : D.tos.map Rc.state = sl at HSTA hsn
      have HSLE := Lib.hid hsl
      clear hsl
      go_wp2_with fail
      refine HSTA.out.mono ?_
      rintro e w4 ⟨v4, rfl, S⟩
      have HS4 : Hid (Sp w [] w4 (clR p D v (intsR v4 sl :: []))) := Lib.hid ((Sp.pick [_, _, _] [1, 2, 0] (by decide) (S)))
      have ck4 := HC2.out _ S.ext
      obtain ⟨a4, cap4, rfl⟩ := S.ixAt.form
      clear S HS
      go_wp2_with fail
      refine (clTakeS (C := D) c HCB.out.1 HCB.out.2 HK.out HS4.out HE.out).mono ?_
      obtain ⟨hok2, hrk2, _⟩ := take_goes HK.out c
      have HK2 := Lib.hid hok2
      have HRK2 := Lib.hid hrk2
      have HL2 : Hid ((D.take c).1.tos.length = to_.length) := by unfold Hid; rw [(take_like D c).len, HLN.out]
      have HTO := Lib.hid (fun h8 => take_over (C := D) h8 c)
      clear hok2 hrk2 ck4
      cases h8 : D.phase == 8 with
      | true =>
        have hd8 : D.phase = 8 := by simpa using h8
        have HD8 := Lib.hid hd8
        clear hd8
        have hD := HTO.out HD8.out
        rw [hD] at HK2 HL2 HRK2 ⊢
        clear hD h8
        have HSL : Hid (({ D with phase := 8 } : Cl).tos.map Rc.state = sl) := HSLE.out
        have HP2 : Hid ((({ D with phase := 8 } : Cl).phase == 8) = true) := rfl
        have HP3 : Hid (({ D with phase := 8 } : Cl).phase = 8) := rfl
        have HL3 : Hid (({ D with phase := 8 } : Cl).tos.length = to_.length) := HLN.out
        dsimp only at HK2 HL2 HRK2
        rintro e w5 ⟨rfl, S⟩
        dsimp only at S
        generalize ({ D with phase := 8 } : Cl) = D2 at *
        have HS5 : Hid (Sp w [] w5 (clR p D2 v (intsR (.slice a4 sl.length cap4) sl :: []))) := Lib.hid S
        clear S HS4
        go_wp2_with fail
        refine (HOV.out D2 _ _ HS5.out).mono ?_
        rw [HP2.out]
        rintro e wq ⟨rfl, rfl⟩
        go_wp2_with fail
        refine (clStatesS (C := D2) (by have := HK2.out.n10; omega) HS5.out).mono ?_
        rw [HSL.out]
        rintro e w6 ⟨v6, rfl, S⟩
        have HS6 := Lib.hid S
        obtain ⟨a6, cap6, rfl⟩ := S.ixAt.form
        have HX6 := Lib.hid S.ixAt
        have HX5 := Lib.hid ((Sp.pick [_, _, _, _] [3, 0, 1, 2] (by decide) (S))).ixAt
        clear S HS5
        go_wp2_with fail
        refine (same22_any sl sl HX5.out HX6.out hsn).mono ?_
        rw [decide_eq_true rfl]
        rintro e w7 ⟨rfl, z7, rfl⟩
        have HS7 := Lib.hid (HS6.out.drewN z7)
        generalize w6.drewN z7 = w7 at *
        clear HS6 HX5 HX6
        by_cases h7 : k < to_.length + 7
        · have h7' : (k : Int) < to_.length + 7 := by omega
          clear h7
          go_wp2
          go_roundw
          case rel => exact ⟨k + 1, D2, by go_num, by omega, HK2.out, HL3.out, .inl HP3.out, ((Sp.pick [_, _, _, _] [1, 2] (by decide) (HS7.out)))⟩
          case measure => simp [intOf]; omega
        · have h7' : (to_.length : Int) + 7 ≤ k := by omega
          clear h7
          go_wp2_with fail
          refine (HOV.out D2 _ _ ((Sp.pick [_, _, _, _] [1, 2, 0, 3] (by decide) (HS7.out)))).mono ?_
          rw [HP2.out]
          rintro e wq ⟨rfl, rfl⟩
          go_wp2
          go_roundw
          case rel => exact ⟨k + 1, D2, by go_num, by omega, HK2.out, HL3.out, .inl HP3.out, ((Sp.pick [_, _, _, _] [1, 2] (by decide) (HS7.out)))⟩
          case measure => simp [intOf]; omega
      | false =>
        have hp8 : D.phase ≠ 8 := by simpa using h8
        have h7' : (k : Int) < to_.length + 7 := by
          have h1 := rank_lt8 HK.out hp8
          have h2 := HLN.out
          rcases HRK.out with h | h
          · exact absurd h hp8
          · omega
        have HRN : Hid ((D.take c).1.phase = 8 ∨ k + 1 ≤ (D.take c).1.rank) := by
          rcases HRK.out with h | h
          · exact absurd h hp8
          · rcases HRK2.out with h2 | h2
            · exact .inl h2
            · exact .inr (by omega)
        clear h8 hp8 HTO
        generalize D.take c = t at *
        obtain ⟨D2, s⟩ := t
        dsimp only at *
        rintro e w5 ⟨rfl, S⟩
        have HS5 := Lib.hid S
        clear S HS4
        go_wp2
        go_roundw
        case rel => exact ⟨k + 1, D2, by go_num, by omega, HK2.out, HL2.out, HRN.out, (Sp.pick [_, _, _] [0, 1] (by decide) (HS5.out))⟩
        case measure => simp [intOf]; omega
    · have hor : ((codes.length : Int) ≤ k) ∨ ((k : Int) < codes.length ∧ (60 : Int) ≤ k) := by omega
      clear hgo
      rcases hor with h1 | ⟨h1, h2⟩
      all_goals
        go_wp2_with fail
        refine (clLoseS (C := D) HS.out).mono ?_
        rintro e w5 ⟨rfl, S⟩
        have HS5 : Hid (Sp w [] w5 (clR p { D with phase := 8 } v [])) := Lib.hid S
        clear S HS
        go_wp2_with fail
        refine (HOV.out _ _ _ HS5.out).mono ?_
        rintro e wq ⟨rfl, rfl⟩
        go_wp2_with fail
        refine (clPhase_any (C := { D with phase := 8 }) HS5.out).mono ?_
        rintro e wq ⟨rfl, rfl⟩
        go_wp2
        go_ret
        exact ⟨rfl, HS5.out.ext⟩
end
end Go.Proofs.YtldlbiodllgflaaGreatDoor
