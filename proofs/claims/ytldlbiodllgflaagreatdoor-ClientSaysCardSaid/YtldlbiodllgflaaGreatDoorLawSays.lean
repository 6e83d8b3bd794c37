/- ClientSays: its walk, with the plain law. Conditions: what Go's variables hold; the arguments fit. -/
import Derived.Test.YtldlbiodllgflaaGreatDoorLawDone
import Derived.Test.YtldlbiodllgflaaGreatDoorClT
import Derived.Test.YtldlbiodllgflaaGreatDoorR08b
set_option linter.unusedSimpArgs false
set_option linter.unusedVariables false
set_option linter.unnecessarySimpa false
namespace Go.Proofs.YtldlbiodllgflaaGreatDoor
open Go.RowKit

theorem take_short {C : Cl} (h : C.Ok) (code : Int) : (C.take code).2.length ≤ 200000 ∨ (C.phase = 5 ∧ (C.take code).1.phase = 6) := by
  have hb := h.body
  have hq : ∀ D : Cl, D.leave.2.length ≤ 200000 := fun D => by
    have := cmSend_len (x := ⟨8, [], ([], []), 0, false⟩) ⟨by simp, by simp, by simp, by decide, by decide⟩
    show (lnJoin [_]).length ≤ _
    omega
  have hf : ∀ (D : Cl) (cls : Int) (p : Rc → Bool), (D.fail cls p).2.length ≤ 200000 := fun D cls p => hq _
  have hg : ∀ (v ph : Int), (C.greet v ph).2.length ≤ 200000 := fun v ph => by
    have := cmSend_len (x := ⟨v, C.host, ([], []), 0, false⟩) ⟨by have := h.host; show C.host.length ≤ _; omega, by simp, by simp, (show (-9223372036854775808 : Int) ≤ 0 by decide), (show (0 : Int) ≤ 9223372036854775807 by decide)⟩
    show (lnJoin [_]).length ≤ _
    omega
  have hm : ∀ z : Int, -1 ≤ z → z ≤ 5000 → (C.mail z).2.length ≤ 200000 := fun z h1 h2 => by
    have := cmSend_len (x := ⟨3, [], C.from_, z, false⟩) ⟨by simp, by have := h.fl; show C.from_.1.length ≤ _; omega, by have := h.fd; show C.from_.2.length ≤ _; omega, by show _ ≤ z; omega, by show z ≤ _; omega⟩
    show (lnJoin [_]).length ≤ _
    omega
  have hn : ∀ D : Cl, (∀ r ∈ D.tos, r.box.1.length ≤ 300 ∧ r.box.2.length ≤ 300) → D.name.2.length ≤ 200000 := fun D hd => by
    unfold Cl.name
    split
    · rename_i r hr
      have hx := hd r (List.mem_of_getElem? hr)
      have := cmSend_len (x := ⟨4, [], r.box, 0, false⟩) ⟨by simp, by show r.box.1.length ≤ _; omega, by show r.box.2.length ≤ _; omega, (show (-9223372036854775808 : Int) ≤ 0 by decide), (show (0 : Int) ≤ 9223372036854775807 by decide)⟩
      show (lnJoin [_]).length ≤ _
      omega
    · split
      · have := cmSend_len (x := ⟨5, [], ([], []), 0, false⟩) ⟨by simp, by simp, by simp, by decide, by decide⟩
        show (lnJoin [_]).length ≤ _
        omega
      · exact hq _
  unfold Cl.take
  split
  · exact .inl (hn _ fun r hr => by
      obtain ⟨r0, h0, e⟩ := (modify_like C (classC code) (C.at_ + 1)).box r hr
      rw [e]
      exact h.bx r0 h0)
  split
  · split
    · rename_i h5 _
      exact .inr ⟨h5, rfl⟩
    · exact .inl (hf _ _ _)
  split
  · exact .inl (hf _ _ _)
  split
  · exact .inl (by simp)
  · refine .inl ?_
    unfold Cl.opening
    split
    · exact hg _ _
    split
    · exact hm _ (by omega) (by omega)
    split
    · exact hg _ _
    split
    · exact hq _
    split
    · exact hm _ (by decide) (by decide)
    split
    · exact hn _ h.bx
    · exact hf _ _ _
theorem hx_fine : domFine [104, 46, 120] := ⟨by decide +kernel, by decide +kernel⟩
theorem clNew_from {host : Bs} {fr : Mb} {tos : List Mb} {body : Bs} {C : Cl} {e : Int} (h : clNew host fr tos body = (some C, e)) : fr = ([], []) ∨ mbMay fr = true := by
  unfold clNew at h
  split at h
  · simp at h
  · rename_i hc
    cases hn : noBoxE fr with
    | true =>
      obtain ⟨l, d⟩ := fr
      rw [noBox_iff] at hn
      simp at hn
      exact .inl (by rw [hn.1, hn.2])
    | false =>
      cases hm : mbMay fr with
      | true => exact .inr rfl
      | false => exact absurd (.inr (.inr (.inl ⟨hn, hm⟩))) hc
section
variable {w : World} {L : List Res} {F0 : List Nat} {p b : Nat} {v : Value} {C : Cl}
set_option maxRecDepth 100000 in
set_option maxHeartbeats 8000000 in
theorem clientSays_walk (fr : Mb) (tv : Value) (to_ : List Mb) (body : Bs) (cv : Value) (codes : List Int) (w : World) (E : Env w) (hf1 : fr.1.length ≤ maxLen) (hf2 : fr.2.length ≤ maxLen) (A : Args22 w tv to_ body) (I : Codes22 w cv codes) :
    Calls Tryz.prog 6 #[mbAgg fr, tv, .string ⟨body.toArray⟩, cv] w fun e w2 => e = .returned (.bool true) ∧ Ext [] w w2 := by
  have HE := Lib.hid E
  have HA := Lib.hid A
  have HI := Lib.hid I
  have HS0 := Lib.hid ((Sp.nil w []).box (mbCells fr) 23)
  have HF1 := Lib.hid hf1
  have HF2 := Lib.hid hf2
  have HLG := Lib.hid (fun w' v' (T : BxAt w' v' to_) => large22_any (w := w') (v := v') [] fr to_ body (by simp) hf1 hf2 A.body A.n A.each T)
  have HNW := Lib.hid (fun (w' : World) (L' : List Res) (v' : Value) (G : fit22 [] fr to_ body) (T : BxAt w' v' to_) (S' : Sp w [] w' L') => clNewS [104, 46, 120] fr v' to_ body (by decide) G.2.1 G.2.2.1 G.2.2.2.2.1 (by have := G.2.2.2.1; omega) G.2.2.2.2.2 E T S')
  have HOK := Lib.hid (fun C e (G : fit22 [] fr to_ body) (h : clNew [104, 46, 120] fr to_ body = (some C, e)) => And.intro (clNew_ok h (by decide) G.2.1 G.2.2.1 G.2.2.2.2.1 G.2.2.2.2.2) (clNew_from h))
  unfold mbAgg mbCells at *
  obtain ⟨fl, fd⟩ := fr
  obtain ⟨a, cap, rfl⟩ := A.at_.form
  obtain ⟨ac, capc, rfl⟩ := I.at_.form
  have hcn : (codes.length : Int) ≤ 9223372036854775807 := by have := I.n; unfold maxLen at this; omega
  clear E A I hf1 hf2
  dsimp only at *
  go_enter Tryz.func6, Tryz.ntmps6
  go_wp2_with fail
  refine (awake22S HS0.out HE.out).mono ?_
  generalize w.heap.size = q4 at *
  rintro e w1 ⟨rfl, S⟩
  have HS1 := Lib.hid S
  have c1 := S.cell
  clear S HS0
  go_wp2_with fail
  refine (HLG.out _ _ (HA.out.at_.ext HS1.out.ext)).mono ?_
  rintro e w2 ⟨r, rfl, hx, hf⟩
  have HS2 := Lib.hid (HS1.out.ext0 hx)
  have c2 := HS2.out.cell
  clear hx HS1 c1
  cases r with
  | true =>
    go_wp2
    go_ret
    exact ⟨rfl, HS2.out.ext⟩
  | false =>
  have HF := Lib.hid (hf rfl)
  clear hf
  go_wp2_with fail
  refine (HNW.out _ _ _ HF.out (HA.out.at_.ext HS2.out.ext) HS2.out).mono ?_
  have HOK2 := Lib.hid (fun C e h => HOK.out C e HF.out h)
  clear HOK HNW
  generalize clNew [104, 46, 120] (fl, fd) to_ body = o at *
  obtain ⟨o1, o2⟩ := o
  cases o1 with
  | none =>
    rintro e w3 ⟨rfl, S⟩
    have HS3 := Lib.hid S
    clear S HS2
    go_wp2
    go_ret
    exact ⟨rfl, HS3.out.ext⟩
  | some C =>
  obtain ⟨⟨hok, _, _, _, _, hC, hall, hbo⟩, hfr⟩ := HOK2.out C o2 rfl
  have HFN : Hid C.Fine := by
    refine ⟨?_, ?_, fun r hr => ?_, ?_, ?_⟩
    · rw [hC]; exact hx_fine
    · rw [hC]; exact hfr
    · rw [hC] at hr
      obtain ⟨b, hb, rfl⟩ := List.mem_map.1 hr
      exact List.all_eq_true.1 hall b hb
    · rw [hC]; exact hbo
    · rw [hC]; exact HF.out.2.2.2.2.1
  have HBD : Hid (C.body = body) := by unfold Hid; rw [hC]
  have HK := Lib.hid hok
  have HBO2 := Lib.hid hbo
  have HBL : Hid (body.length ≤ 4096) := HF.out.2.2.2.2.1
  clear hok hC hall hbo hfr HOK2
  rintro e w3 ⟨p, v, rfl, S⟩
  have HS3 := Lib.hid S
  clear S HS2
  go_wp2_with fail
  have HS4 : Hid (Sp w [] w3 (clR p C v (boxR q4 #[.string ⟨fl.toArray⟩, .string ⟨fd.toArray⟩] 23 :: []))) := HS3
  clear HS3 c2
  go_loopw [11] (fun i wr => ∃ (k : Nat) (D : Cl), i = .int .i64 k ∧ k ≤ codes.length ∧ D.Ok ∧ D.Fine ∧ D.body = body ∧ Sp w [] wr (clR p D v (boxR q4 #[.string ⟨fl.toArray⟩, .string ⟨fd.toArray⟩] 23 :: []))) (fun i _ => codes.length - (intOf i).toNat)
  case atStart => exact ⟨0, C, rfl, Nat.zero_le _, HK.out, HFN.out, HBD.out, HS4.out⟩
  case round =>
    clear HS4 HK HFN HBD
    obtain ⟨k, D, rfl, hk, hok, hfn, hbd, S⟩ := hrel
    have HS := Lib.hid S
    have HK := Lib.hid hok
    have HFN := Lib.hid hfn
    have HBD := Lib.hid hbd
    clear S hok hfn hbd
    by_cases hgo : k < codes.length ∧ k < 60
    · have hlt : k < codes.length := hgo.1
      have hlt' : (k : Int) < codes.length := by omega
      have h60 : (k : Int) < 60 := by omega
      obtain ⟨b, off, rfl, ck⟩ := (HI.out.at_.ext HS.out.ext).at hlt
      have HCB := Lib.hid (HI.out.each _ (List.getElem_mem hlt))
      generalize codes[k] = c at *
      clear hgo
      go_wp2_with fail
      refine (clPhase_any (C := D) HS.out).mono ?_
      rintro e wq ⟨rfl, rfl⟩
      go_wp2_with fail
      refine (clTakeS (C := D) c HCB.out.1 HCB.out.2 HK.out HS.out HE.out).mono ?_
      have HK2 := Lib.hid (take_goes HK.out c).1
      have HFN2 := Lib.hid (HFN.out.like (take_like D c))
      have HB2 : Hid ((D.take c).1.body = body) := by unfold Hid; rw [(take_like D c).body, HBD.out]
      have HSH := Lib.hid (take_short HK.out c)
      have HLN := Lib.hid (take_len HK.out c)
      have hsn := take_sends HFN.out HK.out c
      rw [HBD.out] at hsn
      have HSN := Lib.hid hsn
      clear hsn ck
      generalize D.take c = t at *
      obtain ⟨D2, s⟩ := t
      dsimp only at *
      rintro e w5 ⟨rfl, S⟩
      have HS5 : Hid (Sp w [] w5 (clR p D2 v (boxR q4 #[.string ⟨fl.toArray⟩, .string ⟨fd.toArray⟩] 23 :: []))) := Lib.hid S
      clear S HS
      rcases HSN.out with ⟨rfl, h7, h8⟩ | ⟨rfl, h5, h6⟩ | ⟨hcl, hno⟩
      · have h8b : (D2.phase == 8) = true := by rw [h8]; rfl
        clear h8
        go_wp2_with fail
        refine (clOver_any (C := D2) HS5.out).mono ?_
        rw [h8b]
        rintro e wq ⟨rfl, rfl⟩
        go_wp2
        go_roundw
        case rel => exact ⟨k + 1, D2, by go_num, by omega, HK2.out, HFN2.out, HB2.out, HS5.out⟩
        case measure => simp [intOf]; omega
      · have h5b : (D.phase == 5) = true := by rw [h5]; rfl
        have h6b : (D2.phase == 6) = true := by rw [h6]; rfl
        have hb := body_lines HBO2.out
        have HB3 := Lib.hid hb
        have hne : (lnStuff (lnSplit body).1 == ([] : Bs)) = false := by
          rw [beq_eq_false_iff_ne, lnStuff_join]
          simp
        have hne2 : ¬ lnStuff (lnSplit body).1 = [] := by simpa using hne
        clear h5 h6 hb
        go_wp2_with fail
        refine (clPhase_any (C := D2) HS5.out).mono ?_
        rintro e wq ⟨rfl, rfl⟩
        go_wp2_with fail
        refine (r08UnstuffedS (lnStuff (lnSplit body).1) ((crR body).1.map dotted) HB3.out.2.2.2 (fun x hx => by
          obtain ⟨y, _, rfl⟩ := List.mem_map.1 hx
          exact dotted_ne y) HS5.out (by have := HLN.out; omega)).mono ?_
        rw [show ((crR body).1.map dotted).map undot = (crR body).1 from by
          rw [List.map_map]
          conv => rhs; rw [← List.map_id (crR body).1]
          exact List.map_congr_left fun x _ => undot_dotted x]
        rintro e w6 ⟨v6, rfl, S⟩
        have HS6 := Lib.hid S
        have HT6 := Lib.hid S.tx
        obtain ⟨a6, cap6, rfl⟩ := S.tx.form
        clear S HS5
        go_wp2_with fail
        refine (r08Join_any (crR body).1 HT6.out (by rw [HB3.out.2.1]; have := HBL.out; omega)).mono ?_
        rw [HB3.out.2.1]
        rintro e wq ⟨rfl, rfl⟩
        have hbb : (body != body) = false := by simp
        go_wp2
        go_roundw
        case rel => exact ⟨k + 1, D2, by go_num, by omega, HK2.out, HFN2.out, HB2.out, HS6.out.drop⟩
        case measure => simp [intOf]; omega
      · have hne := cmdLine_ne hcl
        have hneb : (s == ([] : Bs)) = false := by simpa using hne
        obtain ⟨x, hx1, hx2⟩ := cmdLine_split hcl
        have HX1 := Lib.hid hx1
        have HX2 := Lib.hid hx2
        have HXL : Hid (x.length ≤ 200000) := by
          have hbk := (crR_back s.length s (Nat.le_refl _)).1
          rw [hx1] at hbk
          have h1 : (lnJoin [x] ++ []).length = s.length := by rw [hbk]
          have h2 : s.length ≤ 200000 := by
            rcases HSH.out with h | h
            · exact h
            · exact absurd h hno
          simp [lnJoin] at h1
          unfold Hid
          omega
        have hor : (D.phase == 5) = false ∨ ((D.phase == 5) = true ∧ (D2.phase == 6) = false) := by
          by_cases h5 : D.phase = 5
          · exact .inr ⟨by rw [h5]; rfl, by simpa using fun h6 => hno ⟨h5, h6⟩⟩
          · exact .inl (by simpa using h5)
        clear hcl hx1 hx2 hno
        rcases hor with h5 | ⟨h5, h6⟩
        rotate_left 1
        · go_wp2_with fail
          refine (clPhase_any (C := D2) HS5.out).mono ?_
          rintro e wq ⟨rfl, rfl⟩
          go_wp2_with fail
          refine (r08SplitS s HS5.out (by have := HLN.out; omega)).mono ?_
          rw [HX1.out]
          rintro e w6 ⟨v6, rfl, S⟩
          dsimp only at S
          have HS6 := Lib.hid S
          obtain ⟨b6, o6, hv6, x0⟩ : ∃ b o, v6 = .slice (some ⟨b, o, none⟩) 1 (match v6 with | .slice _ _ c => c | _ => 0) ∧ w6.cell? ⟨b, o, none⟩ = some (.string ⟨x.toArray⟩) := by
            obtain ⟨a, cap, rfl⟩ := S.tx.form
            obtain ⟨b, o, rfl, h⟩ := S.tx.at (i := 0) (by simp)
            exact ⟨b, o, rfl, h⟩
          obtain ⟨cap6, hv⟩ : ∃ cap, v6 = .slice (some ⟨b6, o6, none⟩) 1 cap := ⟨_, hv6⟩
          clear hv6
          subst hv
          clear S HS5
          go_wp2_with fail
          refine (cmParseS x (by have := HXL.out; omega) HS6.out HE.out).mono ?_
          rw [HX2.out]
          generalize (cmParse x).1 = cc at *
          obtain ⟨cv1, cv2, ⟨cv3, cv4⟩, cv5, cv6⟩ := cc
          unfold cmAgg
          dsimp only
          rintro e w7 ⟨rfl, S⟩
          have HS7 := Lib.hid (S.box #[.int .i64 cv1, .string ⟨cv2.toArray⟩, .string ⟨cv3.toArray⟩, .string ⟨cv4.toArray⟩, .int .i64 cv5, .bool cv6] 57).drop.drop
          clear S HS6 x0
          go_wp2
          go_roundw
          case rel => exact ⟨k + 1, D2, by go_num, by omega, HK2.out, HFN2.out, HB2.out, HS7.out⟩
          case measure => simp [intOf]; omega
        · skip
          go_wp2_with fail
          refine (r08SplitS s HS5.out (by have := HLN.out; omega)).mono ?_
          rw [HX1.out]
          rintro e w6 ⟨v6, rfl, S⟩
          dsimp only at S
          have HS6 := Lib.hid S
          obtain ⟨b6, o6, hv6, x0⟩ : ∃ b o, v6 = .slice (some ⟨b, o, none⟩) 1 (match v6 with | .slice _ _ c => c | _ => 0) ∧ w6.cell? ⟨b, o, none⟩ = some (.string ⟨x.toArray⟩) := by
            obtain ⟨a, cap, rfl⟩ := S.tx.form
            obtain ⟨b, o, rfl, h⟩ := S.tx.at (i := 0) (by simp)
            exact ⟨b, o, rfl, h⟩
          obtain ⟨cap6, hv⟩ : ∃ cap, v6 = .slice (some ⟨b6, o6, none⟩) 1 cap := ⟨_, hv6⟩
          clear hv6
          subst hv
          clear S HS5
          go_wp2_with fail
          refine (cmParseS x (by have := HXL.out; omega) HS6.out HE.out).mono ?_
          rw [HX2.out]
          generalize (cmParse x).1 = cc at *
          obtain ⟨cv1, cv2, ⟨cv3, cv4⟩, cv5, cv6⟩ := cc
          unfold cmAgg
          dsimp only
          rintro e w7 ⟨rfl, S⟩
          have HS7 := Lib.hid (S.box #[.int .i64 cv1, .string ⟨cv2.toArray⟩, .string ⟨cv3.toArray⟩, .string ⟨cv4.toArray⟩, .int .i64 cv5, .bool cv6] 57).drop.drop
          clear S HS6 x0
          go_wp2
          go_roundw
          case rel => exact ⟨k + 1, D2, by go_num, by omega, HK2.out, HFN2.out, HB2.out, HS7.out⟩
          case measure => simp [intOf]; omega
    · have hor : ((codes.length : Int) ≤ k) ∨ ((k : Int) < codes.length ∧ (60 : Int) ≤ k) := by omega
      clear hgo
      rcases hor with h1 | ⟨h1, h2⟩
      all_goals
        go_wp2
        go_ret
        exact ⟨rfl, HS.out.ext⟩
end
end Go.Proofs.YtldlbiodllgflaaGreatDoor
