/- MaildirOrder: its walk: a mailbox' names are those that were delivered, by id, then by recipient. Condition: what Go's variables hold. -/
import Derived.Test.YtcffickkipicbaaGreatDoorMdV
import Derived.Test.YtcffickkipicbaaGreatDoorActM
set_option linter.unusedSimpArgs false
set_option linter.unusedVariables false
set_option linter.unnecessarySimpa false
namespace Go.Proofs.YtcffickkipicbaaGreatDoor
open Go.RowKit Go.Sort Go.Maps
open Go.WideMaps (keyOf_string_mk)

theorem keyStrM (x : Bs) (hx : x.length ≤ maxLen) : keyOf Tryz.prog 9 (.string ⟨x.toArray⟩) = some (.string x) := keyOf_string_mk Tryz.underlying9 (s := ⟨x.toArray⟩) hx
theorem keyedStrM : Keyed Tryz.prog 9 := string_keyed Tryz.underlying9
abbrev encBo (v : Bool) : Value := .bool v
theorem zeroBo (w : World) : (zeroValue 4).run Tryz.prog w = .ok (.bool false) w := by kernel_rfl
set_option maxRecDepth 100000 in
set_option maxHeartbeats 1000000 in
theorem large19S {w0 w : World} {F0 : List Nat} {L : List Res} (k n b r d : Int) (text name : Bs) (S : Sp w0 F0 w L) (ht : text.length ≤ maxLen) (hn : name.length ≤ maxLen) :
    Calls Tryz.prog 15 #[.agg #[.int .i64 k, .int .i64 n, .int .i64 b, .int .i64 r, .int .u64 d, .string ⟨text.toArray⟩, .string ⟨name.toArray⟩]] w fun e w2 => e = .returned (.bool (decide (1000 < text.length) || decide (200 < name.length))) ∧ Sp w0 F0 w2 L := by
  unfold maxLen at ht hn
  have ht' : (text.length : Int) ≤ 9223372036854775807 := by omega
  have hn' : (name.length : Int) ≤ 9223372036854775807 := by omega
  have HS := Lib.hid (S.new (.cells #[.int .i64 k, .int .i64 n, .int .i64 b, .int .i64 r, .int .u64 d, .string ⟨text.toArray⟩, .string ⟨name.toArray⟩] 35))
  clear S ht hn
  go_enter Tryz.func15, Tryz.ntmps15
  by_cases h1 : 1000 < text.length
  · have h1' : (1000 : Int) < text.length := by omega
    have HV : Hid ((decide (1000 < text.length) || decide (200 < name.length)) = true) := by simp [h1, Hid]
    clear h1
    go_wp2
    go_ret
    rw [HV.out]
    exact ⟨rfl, HS.out⟩
  · have h1' : (text.length : Int) ≤ 1000 := by omega
    have HV : Hid ((decide (1000 < text.length) || decide (200 < name.length)) = decide (200 < name.length)) := by simp [h1, Hid]
    clear h1
    by_cases h2 : 200 < name.length
    · have h2' : (200 : Int) < name.length := by omega
      have HV2 : Hid (decide (200 < name.length) = true) := by simp [h2, Hid]
      clear h2
      go_wp2
      go_ret
      rw [HV.out, HV2.out]
      exact ⟨rfl, HS.out⟩
    · have h2' : (name.length : Int) ≤ 200 := by omega
      have HV2 : Hid (decide (200 < name.length) = false) := by simp [h2, Hid]
      clear h2
      go_wp2
      go_ret
      rw [HV.out, HV2.out]
      exact ⟨ret_bool (by simp; omega), HS.out⟩
set_option maxRecDepth 100000 in
set_option maxHeartbeats 4000000 in
theorem maildirOrder_walk (v : Value) (l : List ActM) (box : Int) (W : World) (E : Env W) (hl : ActMsAt W v l) (_hbx : -9223372036854775808 ≤ box ∧ box ≤ 9223372036854775807) :
    Calls Tryz.prog 4 #[v, .int .i64 box] W fun e w2 => e = .returned (.bool true) ∧ Ext [] W w2 := by
  have HS0 := Lib.hid (Sp.nil W [])
  have HE := Lib.hid E
  have HAT := Lib.hid hl
  obtain ⟨a, cap, rfl, hlen, hwf, _⟩ := hl
  have HW := Lib.hid hwf
  unfold maxLen at hlen
  have hlen' : (l.length : Int) ≤ 9223372036854775807 := by omega
  have hmm := @run_makeMap Tryz.prog
  clear hwf hlen E
  go_enter Tryz.func4, Tryz.ntmps4
  go_wp2_with fail
  refine (awake19S HS0.out HE.out).mono ?_
  rintro e w1 ⟨rfl, S⟩
  have HS1 := Lib.hid S
  clear S
  go_wp2_with fail
  refine (newS HS1.out).mono ?_
  rintro e w2 ⟨d, rfl, S⟩
  have HS2 := Lib.hid S
  clear S HS1
  go_wp2_with fail
  have S4 := HS2.out.mapMade 9 encBo
  have HS4 := Lib.hid S4.pull1
  clear S4 HS2 hmm
  generalize w2.alloc (.map #[] 0) = w4 at *
  generalize w2.heap.size = um at *
  go_loopw [7] (fun v wr => ∃ (i : Nat) (D : Dk) (K : Mp Bool), v = .int .i64 i ∧ i ≤ l.length ∧ i ≤ 40 ∧ OrdM D box K i ∧ Sp W [] wr (diskR d D :: mapR 9 encBo um K :: [])) (fun v _ => 40 - (intOf v).toNat)
  case atStart => exact ⟨0, _, _, rfl, by omega, by omega, ord_new box, HS4.out⟩
  case round =>
    clear HS4
    obtain ⟨i, D, K, rfl, hi1, hi2, hI, S5⟩ := hrel
    have HI := Lib.hid hI
    have HS5 := Lib.hid S5
    clear hI S5
    by_cases hlt : i < l.length ∧ i < 40
    · obtain ⟨hlt1, hlt2⟩ := hlt
      have hlt1' : (i : Int) < l.length := by omega
      have hlt2' : (i : Int) < 40 := by omega
      have hwf := HW.out i hlt1
      obtain ⟨a', cap', he, _, _, hrow⟩ := HAT.out.ext HS5.out.ext
      cases he
      obtain ⟨b, off, rfl⟩ := hrow.addr (i := i) (by simpa using hlt1)
      obtain ⟨c0, c1, c2, c3, c4, c5, c6⟩ := actM_cells hrow i hlt1
      have HTM := Lib.hid hwf.textL
      have HNM := Lib.hid hwf.nameL
      have hid1 := hwf.id1
      generalize l[i] = x at *
      obtain ⟨kd, nn, bx, rc, id, text, name⟩ := x
      dsimp only at *
      obtain ⟨id, rfl⟩ : ∃ k : Nat, id = k := ⟨id.toNat, by omega⟩
      clear hwf hrow hid1
      have S6 := HS5.out.box #[.int .i64 kd, .int .i64 nn, .int .i64 bx, .int .i64 rc, .int .u64 id, .string ⟨text.toArray⟩, .string ⟨name.toArray⟩] 35
      have HS6 := Lib.hid S6
      clear S6 HS5
      go_wp2_with fail
      refine (large19S kd nn bx rc id text name HS6.out HTM.out HNM.out).mono ?_
      rintro e w7 ⟨rfl, S⟩
      by_cases hbig : (decide (1000 < text.length) || decide (200 < name.length)) = true
      · have HS7 := Lib.hid S
        clear S
        go_wp2
        go_ret
        exact ⟨rfl, HS7.out.ext⟩
      · rw [Bool.not_eq_true] at hbig
        have HTX : Hid (text.length ≤ 1000) := by simp at hbig; exact hbig.1
        generalize wr.heap.size = q at *
        have HS7 := Lib.hid S
        have c7 := S.cell
        rw [hbig]
        clear S HS6 hbig c0 c1 c2 c3 c4 c5 c6 HTM HNM
        obtain ⟨D2, hd, hI2⟩ := HI.out.next bx id rc text (by omega) HTX.out
        have HD := Lib.hid hd
        have HI2 := Lib.hid hI2
        have HKL : Hid (K.length < maxLen) := by have := HI.out.klen; unfold maxLen Hid; omega
        clear hd hI2
        go_wp2_with fail
        refine (mdDeliverS bx id rc text (5000 + 1100 * i) HS7.out.pull1 HE.out HI.out.ok (by omega) (by have := HTX.out; omega)).mono ?_
        rw [HD.out]
        obtain ⟨⟨nm, ec⟩, hq⟩ : ∃ q, mdName bx id rc = q := ⟨_, rfl⟩
        rw [hq] at HI2
        have HML : Hid (nm.length ≤ 18) := by have := mdName_len bx id rc; rw [hq] at this; exact this
        rw [hq]
        have HQ := Lib.hid hq
        dsimp only at *
        rintro e w8 ⟨rfl, S8⟩
        have HS8 := Lib.hid S8
        have c8 := (Sp.pick [_, _, _] [1] (by decide) (S8)).cell
        clear S8 c7 HS7 HI HD hq
        by_cases he : ec = 0
        · by_cases hb : bx = box
          · subst he
            have tb : (bx == box) = true := by simpa using hb
            have HI3 : Hid (OrdM D2 box (K.put nm true) (i + 1)) := by have := HI2.out; rw [if_pos ⟨rfl, hb⟩] at this; exact this
            clear hb HI2
            go_wp2_with fail
            refine (mdNameS bx id rc HS8.out HE.out).mono ?_
            rw [HQ.out]
            dsimp only
            rintro e w9 ⟨rfl, S9⟩
            obtain ⟨w10, hrun, S10, _⟩ := ((Sp.pick [_, _, _] [2, 0, 1] (by decide) (S9))).mapPut (t := 33) keyedStrM Tryz.underlying33 HKL.out (keyStrM nm (by have := HML.out; unfold maxLen; omega)) true
            have HS10 := Lib.hid (Sp.pick [_, _, _] [1, 0] (by decide) (S10))
            clear S9 S10 HS8 c8
            go_wp2_with fail
            go_roundw
            case rel => exact ⟨i + 1, _, _, by go_num, by omega, by omega, HI3.out, HS10.out⟩
            case measure => simp [intOf]; omega
          · subst he
            have tb : (bx == box) = false := by simpa using hb
            have HI3 : Hid (OrdM D2 box K (i + 1)) := by have := HI2.out; rw [if_neg (fun h => hb h.2)] at this; exact this
            clear hb HI2
            go_wp2_with fail
            go_roundw
            case rel => exact ⟨i + 1, _, _, by go_num, by omega, by omega, HI3.out, (Sp.pick [_, _, _] [0, 2] (by decide) (HS8.out))⟩
            case measure => simp [intOf]; omega
        · have te : (ec == 0) = false := by simpa using he
          have HI3 : Hid (OrdM D2 box K (i + 1)) := by have := HI2.out; rw [if_neg (fun h => he h.1)] at this; exact this
          clear he HI2
          go_wp2_with fail
          go_roundw
          case rel => exact ⟨i + 1, _, _, by go_num, by omega, by omega, HI3.out, (Sp.pick [_, _, _] [0, 2] (by decide) (HS8.out))⟩
          case measure => simp [intOf]; omega
    · have HI40 : Hid (i ≤ 40) := hi2
      have hq0 : (i : Int) < l.length → (40 : Int) ≤ i := by omega
      clear hlt
      by_cases hq : (i : Int) < l.length
      all_goals
        try have hq1 := hq0 hq
        clear hq0
        go_wp2_with fail
        refine (mdListS box (5000 + 1100 * i) HS5.out HE.out HI.out.ok (by have := HI40.out; omega) HI.out.short).mono ?_
        rintro e w6 ⟨v6, l6, rfl, hs6, S6⟩
        obtain ⟨a6, c6, rfl⟩ := S6.textSlice
        have HSRT := Lib.hid hs6
        have HCNT := Lib.hid (HI.out.count hs6 ((Sp.pick [_, _, _] [2] (by decide) (S6)).map.sorted keyedStrM))
        have hl6 : (l6.length : Int) ≤ 40 := by have := HI.out.klen; have := HI40.out; have := HCNT.out; omega
        have HS6 := Lib.hid S6
        clear S6 hs6 HS5
        go_wp2_with fail
        go_loopw [78] (fun z wr => ∃ j : Nat, z = .int .i64 j ∧ j ≤ l6.length ∧ Sp W [] wr (textsR (.slice a6 l6.length c6) l6 :: diskR d D :: mapR 9 encBo um K :: [])) (fun z _ => l6.length - (intOf z).toNat)
        case atStart => exact ⟨0, rfl, by omega, HS6.out⟩
        case round =>
          obtain ⟨j, rfl, hj, S7⟩ := hrel
          have HS7 := Lib.hid S7
          by_cases hlt6 : j < l6.length
          · have hlt6' : (j : Int) < l6.length := by omega
            have hj0 : (0 : Int) ≤ j := by omega
            obtain ⟨x, hx⟩ : ∃ x, l6[j]? = some x := ⟨_, List.getElem?_eq_getElem hlt6⟩
            obtain ⟨g, rfl, c⟩ := S7.textCell hx
            obtain ⟨b1, id1, rc1, hp, hb1, hxl, hlk⟩ := HI.out.each HSRT.out hx
            have tb : ((b1 : Int) != box) = false := by simpa using hb1
            have HX := Lib.hid hx
            have HP := Lib.hid hp
            have HXL := Lib.hid hxl
            have HLK := Lib.hid hlk
            clear S7 hx hp hb1 hxl hlk HS6
            go_wp2_with fail
            refine (mdParseS x HS7.out HE.out (by have := HXL.out; omega)).mono ?_
            rw [HP.out]
            dsimp only
            rintro e w8 ⟨rfl, S8⟩
            have HS8 := Lib.hid S8
            have hlook := ((Sp.pick [_, _, _] [2] (by decide) (S8))).map.look (t := 33) keyedStrM Tryz.underlying33 (zeroBo _) (keyStrM x (by have := HXL.out; unfold maxLen; omega))
            rw [HLK.out] at hlook
            clear c HS7
            by_cases hj0 : j = 0
            · subst hj0
              clear S8
              go_wp2_with fail
              go_roundw
              case rel => exact ⟨0 + 1, by go_num, by omega, HS8.out⟩
              case measure => simp [intOf]; omega
            · obtain ⟨k, hk⟩ : ∃ k, j = k + 1 := ⟨j - 1, by omega⟩
              have tj : ((j : Int) == 0) = false := by simpa using hj0
              have hsub : (j : Int) - 1 = (k : Int) := by omega
              have hk1 : (k : Int) < l6.length := by omega
              have hk2 : (0 : Int) ≤ k := by omega
              obtain ⟨y, hy⟩ : ∃ y, l6[k]? = some y := ⟨_, List.getElem?_eq_getElem (by omega)⟩
              obtain ⟨g', hg', c⟩ := S8.textCell hy
              cases hg'
              obtain ⟨b0, id0, rc0, hp0, hb0, hyl, _⟩ := HI.out.each HSRT.out hy
              have hrise := HI.out.rise HSRT.out hy (by rw [← hk]; exact HX.out)
              rw [hp0, HP.out] at hrise
              dsimp only at hrise
              have HRISE := Lib.hid hrise
              have HP0 := Lib.hid hp0
              have HYL := Lib.hid hyl
              clear S8 hy hp0 hb0 hyl hrise hk hj0
              go_wp2_with fail
              refine (mdParseS y HS8.out HE.out (by have := HYL.out; omega)).mono ?_
              rw [HP0.out]
              dsimp only
              rintro e w9 ⟨rfl, S9⟩
              have HS9 := Lib.hid S9
              clear S9 c hlook HS8
              rcases HRISE.out with h1 | ⟨h1, h2⟩
              · have t1 : ((id0 : Int) == id1) = false := by simp; omega
                have t2 : (id0 : Int) < id1 := by omega
                clear h1 HRISE
                go_wp2_with fail
                go_roundw
                case rel => exact ⟨j + 1, by go_num, by omega, HS9.out⟩
                case measure => simp [intOf]; omega
              · subst h1
                have t2 : (rc0 : Int) < rc1 := by omega
                clear h2 HRISE
                go_wp2_with fail
                go_roundw
                case rel => exact ⟨j + 1, by go_num, by omega, HS9.out⟩
                case measure => simp [intOf]; omega
          · obtain rfl : j = l6.length := by omega
            have hlen6 := ((Sp.pick [_, _, _] [2] (by decide) (S7))).map.len (t := 33) Tryz.underlying33
            rw [← HCNT.out] at hlen6
            clear S7 HS6
            go_wp2_with fail
            refine (mdTextsS box (5000 + 1100 * i) ((Sp.pick [_, _, _] [1, 0, 2] (by decide) (HS7.out))) HE.out HI.out.ok (by have := HI40.out; omega) HI.out.short).mono ?_
            rintro e w8 ⟨v8, l8, rfl, hs8, S8⟩
            have hl8 : (l8.map (mdText D.now)).length = l6.length := by rw [List.length_map, hs8.1.length_eq, HSRT.out.1.length_eq]
            generalize l8.map (mdText D.now) = m8 at *
            obtain ⟨a8, c8, rfl⟩ := S8.textSlice
            have HS8 := Lib.hid S8
            have HL8 := Lib.hid hl8
            have hl8' : (m8.length : Int) ≤ 40 := by omega
            clear S8 hs8 hl8 hlen6
            go_wp2
            go_ret
            exact ⟨ret_bool (by rw [HL8.out]; simp), HS8.out.ext⟩
end Go.Proofs.YtcffickkipicbaaGreatDoor
