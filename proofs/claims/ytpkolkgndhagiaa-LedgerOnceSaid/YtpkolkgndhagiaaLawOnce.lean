/- LedgerOnce: its walk: no nonce of a key is told twice, across crashes and openings. -/
import Derived.Test.YtpkolkgndhagiaaUse
import Derived.Test.YtpkolkgndhagiaaActK
import Derived.Test.YtpkolkgndhagiaaLawAhead
namespace Go.Proofs.Ytpkolkgndhagiaa
open Go.RowKit Go.Maps

theorem once_new (step most : Nat) : OInv 0 step most aw13a [] [] [] [] :=
  ⟨⟨⟨rfl, rfl, rfl, by simp, by decide⟩, by simp⟩, fun k => ⟨Nat.le_refl _, Nat.le_refl _⟩, fun k => .inl rfl, .inl rfl, by simp, ⟨by simp, by simp⟩, by simp, by decide, by simp⟩
set_option maxRecDepth 100000 in
set_option maxHeartbeats 1000000 in
theorem large13S {w0 w : World} {F0 : List Nat} {L : List Res} (kd n : Int) (key : Bs) (S : Sp w0 F0 w L) (hk : key.length ≤ maxLen) :
    Calls Try.prog 28 #[.agg #[.int .i64 kd, .int .i64 n, .string ⟨key.toArray⟩]] w fun e w2 => e = .returned (.bool (decide (1000 < key.length))) ∧ Sp w0 F0 w2 L := by
  unfold maxLen at hk
  have hk' : (key.length : Int) ≤ 9223372036854775807 := by omega
  have HS := Lib.hid (S.new (.cells #[.int .i64 kd, .int .i64 n, .string ⟨key.toArray⟩] 56))
  clear S hk
  go_enter Try.func28, Try.ntmps28
  go_wp2
  go_ret
  exact ⟨ret_bool (by rw [Bool.eq_iff_iff, decide_eq_true_eq, decide_eq_true_eq]; omega), HS.out⟩
/-- How things stand in memory. -/
def OnceAt (W : World) (d p um b step high : Nat) (wr : World) : Prop := ∃ D M l t T U, OInv b step high D M l t T ∧ Used U T ∧ U.length ≤ b ∧ Sp W [] wr (ledR p d step high M :: diskR d D :: mapR 59 encB um U :: [])

set_option maxRecDepth 100000 in
set_option maxHeartbeats 4000000 in
theorem ledgerOnce_walk (step high : Int) (v : Value) (l : List ActK) (W : World) (hs : 0 ≤ step ∧ step ≤ 18446744073709551615) (hh : 0 ≤ high ∧ high ≤ 18446744073709551615) (hl : ActKsAt W v l) :
    Calls Try.prog 7 #[.int .u64 step, .int .u64 high, v] W fun e w2 => e = .returned (.bool true) ∧ Ext [] W w2 := by
  obtain ⟨step, rfl⟩ : ∃ k : Nat, step = k := ⟨step.toNat, by omega⟩
  obtain ⟨high, rfl⟩ : ∃ k : Nat, high = k := ⟨high.toNat, by omega⟩
  have HS0 := Lib.hid (Sp.nil W [])
  have HAT := Lib.hid hl
  obtain ⟨a, cap, rfl, hlen, hwf, _⟩ := hl
  have HW := Lib.hid hwf
  unfold maxLen at hlen
  have hlen' : (l.length : Int) ≤ 9223372036854775807 := by omega
  have hmm := @run_makeMap Try.prog
  clear hwf hlen
  go_enter Try.func7, Try.ntmps7
  go_wp2_with fail
  refine (awake13S HS0.out).mono ?_
  rintro e w1 ⟨rfl, S⟩
  have HS1 := Lib.hid S
  clear S
  go_wp2_with fail
  refine (newS HS1.out).mono ?_
  rintro e w2 ⟨d, rfl, S⟩
  have HS2 := Lib.hid S
  clear S HS1
  by_cases harg : step < 1 ∨ 1000 < step ∨ 1099511627776 < high
  · go_wp2_with fail
    refine (ledOpen_arg step high HS2.out harg).mono ?_
    rintro e w3 ⟨rfl, S3⟩
    have HS3 := Lib.hid S3
    clear S3
    by_cases g1 : step < 1
    · go_wp2
      go_ret
      exact ⟨rfl, HS3.out.ext⟩
    · by_cases g2 : 1000 < step
      · have g1' : (1 : Int) ≤ step := by omega
        have g2' : (1000 : Int) < step := by omega
        clear harg
        go_wp2
        all_goals (go_ret; exact ⟨ret_bool (by first | rfl | simp [g2']), HS3.out.ext⟩)
      · have g3 : (1099511627776 : Int) < high := by omega
        have g1' : (1 : Int) ≤ step := by omega
        have g2' : (step : Int) ≤ 1000 := by omega
        clear harg
        go_wp2
        all_goals (go_ret; exact ⟨ret_bool (by first | rfl | simp [g3]), HS3.out.ext⟩)
  have hs1 : 1 ≤ step := by omega
  have hs2 : step ≤ 1000 := by omega
  have hh2 : high ≤ 1099511627776 := by omega
  have HST : Hid (1 ≤ step ∧ step ≤ 1000 ∧ high ≤ 1099511627776) := ⟨hs1, hs2, hh2⟩
  have i1 : (1 : Int) ≤ step := by omega
  have i2 : (step : Int) ≤ 1000 := by omega
  have i3 : (high : Int) ≤ 1099511627776 := by omega
  clear harg hs hh hs1 hs2 hh2
  go_wp2_with fail
  refine (ledOpenS step high 100 Dk.new HS2.out HST.out.1 HST.out.2.1 HST.out.2.2 aw13_rn (by decide)).mono ?_
  rw [aw13_1]
  rintro e w3 ⟨p, rfl, S⟩
  have HS3 := Lib.hid S
  clear S HS2
  dsimp only
  go_wp2_with fail
  have S4 := HS3.out.mapMade 59 encB
  have HS4 := Lib.hid S4.pull2.pull2
  clear S4 HS3 hmm
  generalize w3.alloc (.map #[] 0) = w4 at *
  generalize w3.heap.size = um at *
  go_loopw [8, 11] (fun r v wr => ∃ (i p : Nat), r = .pointer (some ⟨p, 0, none⟩) ∧ v = .int .i64 i ∧ i ≤ l.length ∧ i ≤ 60 ∧ OnceAt W d p um i step high wr) (fun _ v _ => 60 - (intOf v).toNat)
  case atStart => exact ⟨0, p, rfl, rfl, by omega, by omega, aw13a, [], [], [], [], [], once_new step high, (by intro p hp; cases hp), by simp, HS4.out⟩
  case round =>
    clear HS4
    obtain ⟨i, p, rfl, rfl, hi1, hi2, D, M, ls, t, T, U, hI, hU, hUl, S5⟩ := hrel
    have HI := Lib.hid hI
    have HU := Lib.hid hU
    have HUL := Lib.hid hUl
    have HS5 := Lib.hid S5
    clear hI S5 hU hUl
    by_cases hlt : i < l.length ∧ i < 60
    · obtain ⟨hlt1, hlt2⟩ := hlt
      have hlt1' : (i : Int) < l.length := by omega
      have hlt2' : (i : Int) < 60 := by omega
      have hwf := HW.out i hlt1
      obtain ⟨a', cap', he, _, _, hrow⟩ := HAT.out.ext HS5.out.ext
      cases he
      obtain ⟨b, off, rfl⟩ := hrow.addr (i := i) (by simpa using hlt1)
      obtain ⟨c0, c1, c2⟩ := actK_cells hrow i hlt1
      have HXM := Lib.hid hwf.keyL
      have hn1 := hwf.n1
      have hn2 := hwf.n2
      generalize l[i] = x at *
      obtain ⟨kd, nn, key⟩ := x
      dsimp only at *
      clear hwf hrow
      have S6 := HS5.out.box #[.int .i64 kd, .int .i64 nn, .string ⟨key.toArray⟩] 56
      have HS6 := Lib.hid S6
      clear S6 HS5
      go_wp2_with fail
      refine (large13S kd nn key HS6.out HXM.out).mono ?_
      rintro e w7 ⟨rfl, S⟩
      by_cases hbig : 1000 < key.length
      · have HS7 := Lib.hid S
        clear S
        have hb' : decide (1000 < key.length) = true := by simpa using hbig
        go_wp2
        go_ret
        exact ⟨rfl, HS7.out.ext⟩
      · have hb' : decide (1000 < key.length) = false := by simpa using hbig
        have HKEY : Hid (key.length ≤ 1000) := by unfold Hid; omega
        generalize wr.heap.size = q at *
        have HS7 := Lib.hid S
        have c7 := S.cell
        have HRM := Lib.hid (HI.out.roomy (by omega))
        clear S HS6 hbig c0 c1 c2 HXM
        have c7' := c7
        rw [hb']
        clear hb' c7'
        by_cases hk0 : kd = 0
        · subst hk0
          have HN := Lib.hid (HI.out.next key (by omega) HST.out.1 HST.out.2.2)
          go_wp2_with fail
          refine (ledNextNS key 1000000 D ((Sp.pick [_, _, _, _] [1, 2, 0, 3] (by decide) (HS7.out))) (by have := HKEY.out; omega) HI.out.ok HST.out.2.1 HST.out.2.2 HRM.out (by decide)).mono ?_
          generalize ledNextN D M step high key = R at *
          obtain ⟨D2, M2, s2, e2⟩ := R
          dsimp only at *
          rintro e w8 ⟨rfl, S⟩
          have c8 := (Sp.pick [_, _, _, _] [2] (by decide) (S)).cell
          have HS8 := Lib.hid S
          rcases HN.out with ⟨he, rfl, t2, hI2⟩ | ⟨rfl, c, l2, t2, rfl, hc, hfresh, hx, hI2⟩
          · have t1 : (e2 != 0) = true := by simpa using he
            have HI2 := Lib.hid hI2
            clear S HN c7 HS7 hI2 he
            go_wp2_with fail
            go_roundw
            case rel => exact ⟨i + 1, p, rfl, by go_num, by omega, by omega, _, _, _, _, _, _, HI2.out, HU.out, by have := HUL.out; omega, (Sp.pick [_, _, _, _] [0, 1, 3] (by decide) (HS8.out))⟩
            case measure => simp [intOf]; omega
          · have HI2 := Lib.hid hI2
            have hnot := HU.out.not (fun z hz => ⟨(HI.out.told z hz).1, (HI.out.told z hz).2.1⟩) hx hc hfresh
            have HU2 := Lib.hid (HU.out.put key c)
            have hkey := keyUse key (nonceB c) (by unfold maxLen; omega) (by rw [nonceB_len]; decide)
            have hlook := ((Sp.pick [_, _, _, _] [3] (by decide) (S))).map.look (t := 54) useKeyed Try.underlying54 (zeroB _) hkey
            rw [hnot] at hlook
            obtain ⟨w9, hrun, S2, _⟩ := ((Sp.pick [_, _, _, _] [3, 0, 1, 2] (by decide) (S))).mapPut (t := 54) useKeyed Try.underlying54 (by have := HUL.out; unfold maxLen; omega) hkey true
            have c9 := (Sp.pick [_, _, _, _] [3] (by decide) (S2)).cell
            have HS9 := Lib.hid (Sp.pick [_, _, _, _] [1, 2, 0] (by decide) (S2))
            have HUL2 := Lib.hid (Mp.length_put_le U (useB key (nonceB c)) true)
            have h12 : (((nonceB c).length : Int) != 12) = false := by rw [nonceB_len]; rfl
            generalize hnb : nonceB c = nb at *
            clear S S2 HN c7 HS7 hI2 HS8 hnot hkey hx hc hfresh hnb
            go_wp2_with fail
            go_roundw
            case rel => exact ⟨i + 1, p, rfl, by go_num, by omega, by omega, _, _, _, _, _, _, HI2.out, HU2.out, by have := HUL.out; have := HUL2.out; omega, HS9.out⟩
            case measure => simp [intOf]; omega
        · by_cases hk1 : kd = 1
          · subst hk1
            obtain ⟨ho, hI2⟩ := HI.out.open (by omega)
            have HO := Lib.hid ho
            have HI2 := Lib.hid hI2
            clear ho hI2 hk0
            go_wp2_with fail
            refine (ledOpenS step high 1000000 D ((Sp.pick [_, _, _, _] [2, 0, 1, 3] (by decide) (HS7.out))) HST.out.1 HST.out.2.1 HST.out.2.2 HRM.out (by decide)).mono ?_
            rw [HO.out]
            rintro e w8 ⟨p2, rfl, S⟩
            have HS8 := Lib.hid S
            clear S c7 HS7
            dsimp only
            go_wp2_with fail
            go_roundw
            case rel => exact ⟨i + 1, p2, rfl, by go_num, by omega, by omega, _, _, _, _, _, _, HI2.out.more, HU.out, by have := HUL.out; omega, (Sp.pick [_, _, _, _, _] [0, 1, 4] (by decide) (HS8.out))⟩
            case measure => simp [intOf]; omega
          · by_cases hk2 : kd = 2
            · subst hk2
              have HI2 := Lib.hid (HI.out.fuse nn hn2)
              go_wp2_with fail
              refine (fuseS nn ((Sp.pick [_, _, _, _] [2, 0, 1, 3] (by decide) (HS7.out)))).mono ?_
              rintro e w8 ⟨rfl, S⟩
              have HS8 := Lib.hid S
              have c8 := (Sp.pick [_, _, _, _] [1] (by decide) (S)).cell
              clear S c7 HS7
              go_wp2_with fail
              go_roundw
              case rel => exact ⟨i + 1, p, rfl, by go_num, by omega, by omega, _, _, _, _, _, _, HI2.out, HU.out, by have := HUL.out; omega, (Sp.pick [_, _, _, _] [2, 0, 3] (by decide) (HS8.out))⟩
              case measure => simp [intOf]; omega
            · by_cases hk3 : kd = 3
              · subst hk3
                obtain ⟨l2, ho, hI2⟩ := HI.out.crash nn (by omega)
                have HO := Lib.hid ho
                have HRM2 := Lib.hid (hI2.roomy (by omega))
                have HI2 := Lib.hid hI2
                have HCF := Lib.hid (HI.out.ld.crashFit (by have := HI.out.rows; omega))
                clear ho hI2
                go_wp2_with fail
                refine (crashS nn ((Sp.pick [_, _, _, _] [2, 0, 1, 3] (by decide) (HS7.out))) HCF.out).mono ?_
                rintro e w8 ⟨rfl, S⟩
                have HS8 := Lib.hid S
                have c8 := (Sp.pick [_, _, _, _] [1] (by decide) (S)).cell
                clear S c7 HS7
                go_wp2_with fail
                refine (ledOpenS step high 1000000 (D.crash nn) HS8.out HST.out.1 HST.out.2.1 HST.out.2.2 HRM2.out (by decide)).mono ?_
                rw [HO.out]
                rintro e w9 ⟨p2, rfl, S⟩
                have HS9 := Lib.hid S
                clear S c8 HS8
                dsimp only
                go_wp2_with fail
                go_roundw
                case rel => exact ⟨i + 1, p2, rfl, by go_num, by omega, by omega, _, _, _, _, _, _, HI2.out, HU.out, by have := HUL.out; omega, (Sp.pick [_, _, _, _, _] [0, 1, 4] (by decide) (HS9.out))⟩
                case measure => simp [intOf]; omega
              · by_cases hk4 : kd = 4
                · subst hk4
                  have HI2 := Lib.hid (HI.out.quota (max nn 0))
                  go_wp2_with fail
                  refine (quotaS nn ((Sp.pick [_, _, _, _] [2, 0, 1, 3] (by decide) (HS7.out)))).mono ?_
                  rintro e w8 ⟨rfl, S⟩
                  have HS8 := Lib.hid S
                  have c8 := (Sp.pick [_, _, _, _] [1] (by decide) (S)).cell
                  clear S c7 HS7
                  go_wp2_with fail
                  go_roundw
                  case rel => exact ⟨i + 1, p, rfl, by go_num, by omega, by omega, _, _, _, _, _, _, HI2.out, HU.out, by have := HUL.out; omega, (Sp.pick [_, _, _, _] [2, 0, 3] (by decide) (HS8.out))⟩
                  case measure => simp [intOf]; omega
                · have HI2 := Lib.hid HI.out.more
                  have t0 : (kd == 0) = false := by simpa using hk0
                  have t1 : (kd == 1) = false := by simpa using hk1
                  have t2 : (kd == 2) = false := by simpa using hk2
                  have t3 : (kd == 3) = false := by simpa using hk3
                  have t4 : (kd == 4) = false := by simpa using hk4
                  clear hk0 hk1 hk2 hk3 hk4
                  go_wp2_with fail
                  go_roundw
                  case rel => exact ⟨i + 1, p, rfl, by go_num, by omega, by omega, _, _, _, _, _, _, HI2.out, HU.out, by have := HUL.out; omega, (Sp.pick [_, _, _, _] [1, 2, 3] (by decide) (HS7.out))⟩
                  case measure => simp [intOf]; omega
    · go_wp2
      all_goals (go_ret; exact ⟨rfl, HS5.out.ext⟩)
end Go.Proofs.Ytpkolkgndhagiaa
