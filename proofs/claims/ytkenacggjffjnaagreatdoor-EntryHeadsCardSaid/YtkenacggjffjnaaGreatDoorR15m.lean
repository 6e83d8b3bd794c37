/- The document's answer for layer 15: whether an entry may be. Conditions: the lengths fit. -/
import Derived.Test.YtkenacggjffjnaaGreatDoorR15
set_option linter.unusedSimpArgs false
set_option linter.unusedVariables false
set_option linter.unnecessarySimpa false
namespace Go.Proofs.YtkenacggjffjnaaGreatDoor
open Go.RowKit

section
variable {w0 w : World} {L : List Res} {v : Value}
set_option maxRecDepth 100000 in
set_option maxHeartbeats 8000000 in
theorem r15May_any (e : En) (v : Value) (w : World) (hf : e.Fit) (T : TosAt w v e.rcs) : Calls Tryz.prog 19 #[enAgg e v] w fun r w2 => r = .returned (.bool (enMay e)) ∧ Ext [] w w2 := by
  have HS0 := Lib.hid ((Sp.nil w []).box (enCells e v) 27)
  have HD := Lib.hid (fun (w' : World) (L' : List Res) (S' : Sp w [] w' L') => r09DomainS e.dom S' hf.dom)
  have HM := Lib.hid (fun (w' : World) (L' : List Res) (S' : Sp w [] w' L') => r15MailboxS e.frm S' hf.frm.1 hf.frm.2)
  have HR := Lib.hid hf.each
  have HF1 := Lib.hid hf.frm
  have HT := Lib.hid T
  have HV : Hid (enMay e = (domMay e.dom && numsMay e && (noBoxE e.frm || mbMay e.frm) && rcsMay e.rcs)) := rfl
  have HY := Lib.hid (@domV_yes e.dom)
  have HN := Lib.hid (@domV_no e.dom)
  obtain ⟨id, dom, ep, cnt, ⟨fl, fd⟩, rcs, born, nxt, tries⟩ := e
  obtain ⟨va, vc, rfl⟩ := T.form
  unfold enAgg
  unfold enCells at HS0
  unfold mbAgg at HM
  dsimp only at *
  have HNU : Hid (numsMay ⟨id, dom, ep, cnt, (fl, fd), rcs, born, nxt, tries⟩ = (decide (1 ≤ id) && decide (1 ≤ ep) && decide (id ≤ 1099511627776) && decide (ep ≤ 1099511627776) && decide (cnt ≤ 1099511627776) && decide (born ≤ 1099511627776) && decide (nxt ≤ 1099511627776) && decide (0 ≤ tries) && decide (tries ≤ 100))) := rfl
  have HRU : Hid (rcsMay rcs = (decide (1 ≤ rcs.length) && decide (rcs.length ≤ 10) && rcs.all rcMay)) := rfl
  clear T hf
  go_enter Tryz.func19, Tryz.ntmps19
  go_upto_region 1 with (fail)
  generalize w.alloc _ = w1 at *
  generalize w.heap.size = q0 at *
  have c0 := HS0.out.cell
  go_wp2_with fail
  refine (HD.out _ _ HS0.out).mono ?_
  rintro r w2 ⟨rfl, S⟩
  have c1 := S.cell
  have HS1 := Lib.hid S
  generalize domV dom = dv at *
  obtain ⟨d, f⟩ := dv
  dsimp only at *
  clear S HS0 c0 HD
  cases hdm : domMay dom with
  | false =>
    have HW : Hid (enMay ⟨id, dom, ep, cnt, (fl, fd), rcs, born, nxt, tries⟩ = false) := by unfold Hid; rw [HV.out, hdm]; simp
    rcases HN.out hdm with h | ⟨h, h'⟩
    · have hf : f = 2 := h
      subst hf
      clear h hdm
      go_wp2
      go_ret
      exact ⟨by rw [HW.out]; rfl, HS1.out.ext⟩
    · have hf : f = 0 := h
      have hd : d ≠ dom := h'
      subst hf
      clear h h' hdm
      go_wp2
      go_ret
      exact ⟨by rw [HW.out]; rfl, HS1.out.ext⟩
  | true =>
    obtain ⟨rfl, rfl⟩ : dom = d ∧ f = 0 := by
      have := HY.out hdm
      simp only [Prod.mk.injEq] at this
      exact ⟨this.1.symm, this.2⟩
    rw [hdm] at HV
    clear HY HN hdm
    by_cases g0 : 1 ≤ id
    rotate_left
    · have h : (id : Int) < 1 := by omega
      have HW : Hid (enMay ⟨id, dom, ep, cnt, (fl, fd), rcs, born, nxt, tries⟩ = false) := by unfold Hid; rw [HV.out, HNU.out, decide_eq_false g0]; simp
      clear g0 HNU HRU HM HR HT
      go_wp2
      go_ret
      exact ⟨by rw [HW.out]; rfl, HS1.out.ext⟩
    have h0 : (1 : Int) ≤ id := by omega
    by_cases g1 : id ≤ 1099511627776
    rotate_left
    · have h : (1099511627776 : Int) < id := by omega
      have HW : Hid (enMay ⟨id, dom, ep, cnt, (fl, fd), rcs, born, nxt, tries⟩ = false) := by unfold Hid; rw [HV.out, HNU.out, decide_eq_false g1]; simp
      clear g1 HNU HRU HM HR HT
      go_wp2
      go_ret
      exact ⟨by rw [HW.out]; rfl, HS1.out.ext⟩
    have h1 : (id : Int) ≤ 1099511627776 := by omega
    by_cases g2 : 1 ≤ ep
    rotate_left
    · have h : (ep : Int) < 1 := by omega
      have HW : Hid (enMay ⟨id, dom, ep, cnt, (fl, fd), rcs, born, nxt, tries⟩ = false) := by unfold Hid; rw [HV.out, HNU.out, decide_eq_false g2]; simp
      clear g2 HNU HRU HM HR HT
      go_wp2
      go_ret
      exact ⟨by rw [HW.out]; rfl, HS1.out.ext⟩
    have h2 : (1 : Int) ≤ ep := by omega
    by_cases g3 : ep ≤ 1099511627776
    rotate_left
    · have h : (1099511627776 : Int) < ep := by omega
      have HW : Hid (enMay ⟨id, dom, ep, cnt, (fl, fd), rcs, born, nxt, tries⟩ = false) := by unfold Hid; rw [HV.out, HNU.out, decide_eq_false g3]; simp
      clear g3 HNU HRU HM HR HT
      go_wp2
      go_ret
      exact ⟨by rw [HW.out]; rfl, HS1.out.ext⟩
    have h3 : (ep : Int) ≤ 1099511627776 := by omega
    by_cases g4 : cnt ≤ 1099511627776
    rotate_left
    · have h : (1099511627776 : Int) < cnt := by omega
      have HW : Hid (enMay ⟨id, dom, ep, cnt, (fl, fd), rcs, born, nxt, tries⟩ = false) := by unfold Hid; rw [HV.out, HNU.out, decide_eq_false g4]; simp
      clear g4 HNU HRU HM HR HT
      go_wp2
      go_ret
      exact ⟨by rw [HW.out]; rfl, HS1.out.ext⟩
    have h4 : (cnt : Int) ≤ 1099511627776 := by omega
    by_cases g5 : born ≤ 1099511627776
    rotate_left
    · have h : (1099511627776 : Int) < born := by omega
      have HW : Hid (enMay ⟨id, dom, ep, cnt, (fl, fd), rcs, born, nxt, tries⟩ = false) := by unfold Hid; rw [HV.out, HNU.out, decide_eq_false g5]; simp
      clear g5 HNU HRU HM HR HT
      go_wp2
      go_ret
      exact ⟨by rw [HW.out]; rfl, HS1.out.ext⟩
    have h5 : (born : Int) ≤ 1099511627776 := by omega
    by_cases g6 : nxt ≤ 1099511627776
    rotate_left
    · have h : (1099511627776 : Int) < nxt := by omega
      have HW : Hid (enMay ⟨id, dom, ep, cnt, (fl, fd), rcs, born, nxt, tries⟩ = false) := by unfold Hid; rw [HV.out, HNU.out, decide_eq_false g6]; simp
      clear g6 HNU HRU HM HR HT
      go_wp2
      go_ret
      exact ⟨by rw [HW.out]; rfl, HS1.out.ext⟩
    have h6 : (nxt : Int) ≤ 1099511627776 := by omega
    by_cases g7 : 0 ≤ tries
    rotate_left
    · have h : tries < 0 := by omega
      have HW : Hid (enMay ⟨id, dom, ep, cnt, (fl, fd), rcs, born, nxt, tries⟩ = false) := by unfold Hid; rw [HV.out, HNU.out, decide_eq_false g7]; simp
      clear HNU HRU HM HR HT
      go_wp2
      go_ret
      exact ⟨by rw [HW.out]; rfl, HS1.out.ext⟩
    by_cases g8 : tries ≤ 100
    rotate_left
    · have h : 100 < tries := by omega
      have HW : Hid (enMay ⟨id, dom, ep, cnt, (fl, fd), rcs, born, nxt, tries⟩ = false) := by unfold Hid; rw [HV.out, HNU.out, decide_eq_false g8]; simp
      clear HNU HRU HM HR HT
      go_wp2
      go_ret
      exact ⟨by rw [HW.out]; rfl, HS1.out.ext⟩
    by_cases g9 : 1 ≤ rcs.length
    rotate_left
    · have h : (rcs.length : Int) < 1 := by omega
      have HW : Hid (enMay ⟨id, dom, ep, cnt, (fl, fd), rcs, born, nxt, tries⟩ = false) := by unfold Hid; rw [HV.out, HRU.out, decide_eq_false g9]; simp
      clear g9 HNU HRU HM HR HT
      go_wp2
      go_ret
      exact ⟨by rw [HW.out]; rfl, HS1.out.ext⟩
    have h9 : (1 : Int) ≤ rcs.length := by omega
    by_cases g10 : rcs.length ≤ 10
    rotate_left
    · have h : (10 : Int) < rcs.length := by omega
      have HW : Hid (enMay ⟨id, dom, ep, cnt, (fl, fd), rcs, born, nxt, tries⟩ = false) := by unfold Hid; rw [HV.out, HRU.out, decide_eq_false g10]; simp
      clear g10 HNU HRU HM HR HT
      go_wp2
      go_ret
      exact ⟨by rw [HW.out]; rfl, HS1.out.ext⟩
    have h10 : (rcs.length : Int) ≤ 10 := by omega
    have HNT : Hid (numsMay ⟨id, dom, ep, cnt, (fl, fd), rcs, born, nxt, tries⟩ = true) := by unfold Hid; rw [HNU.out]; simp; omega
    have HRT : Hid (rcsMay rcs = rcs.all rcMay) := by unfold Hid; rw [HRU.out, decide_eq_true g9, decide_eq_true g10]; simp
    clear HNU HRU g0 g1 g2 g3 g4 g5 g6 g9 g10
    go_wp2_with fail
    go_loopw [5] (fun at0 wr => ∃ k : Nat, at0 = .int .i64 k ∧ k ≤ rcs.length ∧ (∀ x ∈ rcs.take k, rcMay x = true) ∧ Sp w [] wr (boxR q0 #[.int .u64 id, .string ⟨dom.toArray⟩, .int .u64 ep, .int .u64 cnt, .string ⟨fl.toArray⟩, .string ⟨fd.toArray⟩, .slice va rcs.length vc, .int .u64 born, .int .u64 nxt, .int .i64 tries] 27 :: [])) (fun at0 _ => rcs.length - (intOf at0).toNat)
    case atStart => exact ⟨0, rfl, Nat.zero_le _, by simp, HS1.out⟩
    case round =>
      obtain ⟨k, rfl, hk, hall, S1⟩ := hrel
      have HA := Lib.hid hall
      have HS2 := Lib.hid S1
      have ce := S1.cell
      clear hall S1
      have hk' : (k : Int) ≤ rcs.length := by omega
      by_cases hlt : k < rcs.length
      · have hlt' : (k : Int) < rcs.length := by omega
        obtain ⟨b, off, rfl, hc0, hc1, hc2⟩ := (HT.out.ext HS2.out.ext).at hlt
        have HX := Lib.hid (HR.out _ (List.getElem_mem hlt))
        have HTK : Hid (rcs.take (k + 1) = rcs.take k ++ [rcs[k]]) := List.take_succ_eq_append_getElem hlt
        have HMEM := Lib.hid (List.getElem_mem hlt)
        generalize hx : rcs[k] = x at *
        have HXE := Lib.hid hx
        obtain ⟨⟨xl, xd⟩, st⟩ := x
        have hcx := HS2.out.cell
        have HMX := Lib.hid (r15MailboxS (xl, xd) HS2.out HX.out.1 HX.out.2.1)
        unfold mbAgg at HMX
        dsimp only at *
        clear hx HX
        cases hmb : mbMay (xl, xd) with
        | false =>
          have HXF : Hid (rcMay ((xl, xd), st) = false) := by unfold Hid rcMay; rw [hmb]; simp
          have HW : Hid (enMay ⟨id, dom, ep, cnt, (fl, fd), rcs, born, nxt, tries⟩ = false) := by
            unfold Hid
            rw [HV.out, HRT.out, show rcs.all rcMay = false from List.all_eq_false.2 ⟨_, HMEM.out, by rw [HXF.out]; simp⟩]
            simp
          rw [hmb] at HMX
          go_wp2_with fail
          refine HMX.out.mono ?_
          rintro r w3 ⟨rfl, S⟩
          have HS3 := Lib.hid S
          clear S
          go_wp2
          go_ret
          exact ⟨by rw [HW.out]; rfl, HS3.out.ext⟩
        | true =>
          rw [hmb] at HMX
          go_wp2_with fail
          refine HMX.out.mono ?_
          rintro r w3 ⟨rfl, S⟩
          have HS3 := Lib.hid S
          have c3 := S.cell
          have hx3 := (HT.out.ext S.ext).at hlt
          rw [show rcs[k] = ((xl, xd), st) from HXE.out] at hx3
          obtain ⟨b', off', hbo, hd0, hd1, hd2⟩ := hx3
          cases hbo
          dsimp only at *
          have HRV : Hid (rcMay ((xl, xd), st) = (mbMay (xl, xd) && decide (0 ≤ st) && decide (st ≤ 2))) := rfl
          rw [hmb] at HRV
          clear S HS2 ce hc0 hc1 hc2 hcx HMX
          by_cases hs0 : 0 ≤ st
          · by_cases hs2 : st ≤ 2
            · have HXT : Hid (rcMay ((xl, xd), st) = true) := by unfold Hid; rw [HRV.out, decide_eq_true hs0, decide_eq_true hs2]; rfl
              go_wp2_with fail
              go_roundw
              case rel => exact ⟨k + 1, by go_num, by omega, fun y hy => by
                  rw [HTK.out, List.mem_append] at hy
                  rcases hy with hy | hy
                  · exact HA.out y hy
                  · rw [List.mem_singleton.1 hy]; exact HXT.out, HS3.out⟩
              case measure => simp [intOf]; omega
            · have HXF : Hid (rcMay ((xl, xd), st) = false) := by unfold Hid; rw [HRV.out, decide_eq_false hs2]; simp
              have HW : Hid (enMay ⟨id, dom, ep, cnt, (fl, fd), rcs, born, nxt, tries⟩ = false) := by
                unfold Hid
                rw [HV.out, HRT.out, show rcs.all rcMay = false from List.all_eq_false.2 ⟨_, HMEM.out, by rw [HXF.out]; simp⟩]
                simp
              go_wp2
              go_ret
              exact ⟨by rw [HW.out]; rfl, HS3.out.ext⟩
          · have HXF : Hid (rcMay ((xl, xd), st) = false) := by unfold Hid; rw [HRV.out, decide_eq_false hs0]; simp
            have HW : Hid (enMay ⟨id, dom, ep, cnt, (fl, fd), rcs, born, nxt, tries⟩ = false) := by
              unfold Hid
              rw [HV.out, HRT.out, show rcs.all rcMay = false from List.all_eq_false.2 ⟨_, HMEM.out, by rw [HXF.out]; simp⟩]
              simp
            go_wp2
            go_ret
            exact ⟨by rw [HW.out]; rfl, HS3.out.ext⟩
      · obtain rfl : k = rcs.length := by omega
        have HRA : Hid (rcsMay rcs = true) := by
          unfold Hid
          rw [HRT.out, List.all_eq_true]
          intro x hx
          exact HA.out x (by rw [List.take_length]; exact hx)
        have HE : Hid (enMay ⟨id, dom, ep, cnt, (fl, fd), rcs, born, nxt, tries⟩ = (noBoxE (fl, fd) || mbMay (fl, fd))) := by unfold Hid; rw [HV.out, HNT.out, HRA.out]; simp
        have hfl : (fl.length : Int) ≤ 1000000 := by have := HF1.out.1; omega
        have hfd : (fd.length : Int) ≤ 1000000 := by have := HF1.out.2; omega
        by_cases hz : fl.length + fd.length = 0
        · have h1 : fl = [] := List.eq_nil_of_length_eq_zero (by omega)
          have h2 : fd = [] := List.eq_nil_of_length_eq_zero (by omega)
          subst h1 h2
          have HW : Hid (enMay ⟨id, dom, ep, cnt, ([], []), rcs, born, nxt, tries⟩ = true) := by unfold Hid; rw [HE.out]; rfl
          clear hz hfl hfd HA hlt hk'
          go_wp2
          go_ret
          exact ⟨by rw [HW.out]; rfl, HS2.out.ext⟩
        · have hz' : ((fl.length : Int) + fd.length == 0) = false := by simp; omega
          have hwr : IntKind.i64.wrap ((fl.length : Int) + fd.length) = (fl.length : Int) + fd.length := by rw [IntWalk.i64_in _ (by omega)]
          have HNB : Hid (noBoxE (fl, fd) = false) := by
            unfold Hid noBoxE
            cases fl with
            | nil => cases fd with
              | nil => simp at hz
              | cons c r => rfl
            | cons c r => rfl
          clear hz hfl hfd HA hlt hk'
          go_wp2_with fail
          refine (HM.out _ _ HS2.out).mono ?_
          rintro r w3 ⟨rfl, S⟩
          have HS3 := Lib.hid S
          have HW : Hid (enMay ⟨id, dom, ep, cnt, (fl, fd), rcs, born, nxt, tries⟩ = mbMay (fl, fd)) := by unfold Hid; rw [HE.out, HNB.out]; rfl
          generalize mbMay (fl, fd) = mm at *
          clear S HE
          go_wp2
          go_ret
          exact ⟨by rw [HW.out]; rfl, HS3.out.ext⟩
end
end Go.Proofs.YtkenacggjffjnaaGreatDoor
