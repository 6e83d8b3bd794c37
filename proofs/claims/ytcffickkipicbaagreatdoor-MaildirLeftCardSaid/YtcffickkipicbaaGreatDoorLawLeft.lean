/- MaildirLeft: its walk: to recover takes away just what wasn't whole. Condition: what Go's variables hold. -/
import Derived.Test.YtcffickkipicbaaGreatDoorLefP
import Derived.Test.YtcffickkipicbaaGreatDoorLawOrderM
import Derived.Test.YtcffickkipicbaaGreatDoorRangeS
namespace Go.Proofs.YtcffickkipicbaaGreatDoor
open Go.RowKit Go.Sort Go.Maps

theorem zeroSt (w : World) : (zeroValue 9).run Tryz.prog w = .ok (.string ⟨#[]⟩) w := by kernel_rfl
theorem cut4 (s : Bs) : (ByteArray.mk s.toArray).extract 0 4 = ⟨(s.take 4).toArray⟩ := by
  apply ByteArray.ext
  simp [ByteArray.data_extract]
set_option maxRecDepth 100000 in
set_option maxHeartbeats 4000000 in
theorem maildirLeft_walk (v : Value) (l : List ActM) (W : World) (E : Env W) (hl : ActMsAt W v l) :
    Calls Tryz.prog 6 #[v] W fun e w2 => e = .returned (.bool true) ∧ Ext [] W w2 := by
  have HS0 := Lib.hid (Sp.nil W [])
  have HE := Lib.hid E
  have HAT := Lib.hid hl
  obtain ⟨a, cap, rfl, hlen, hwf, _⟩ := hl
  have HW := Lib.hid hwf
  unfold maxLen at hlen
  have hlen' : (l.length : Int) ≤ 9223372036854775807 := by omega
  have hmm := @run_makeMap Tryz.prog
  have HMM := Lib.hid hmm
  clear hwf hlen E hmm
  go_enter Tryz.func6, Tryz.ntmps6
  go_wp2_with fail
  refine (awake19S HS0.out HE.out).mono ?_
  rintro e w1 ⟨rfl, S⟩
  have HS1 := Lib.hid S
  clear S
  go_wp2_with fail
  refine (newS HS1.out).mono ?_
  rintro e w2 ⟨d, rfl, S⟩
  have HS2 := Lib.hid S
  clear S HS1
  go_wp2_with fail
  go_loopw [4] (fun v wr => ∃ (i : Nat) (D : Dk), v = .int .i64 i ∧ i ≤ l.length ∧ i ≤ 60 ∧ LeftI D (2 * i) ∧ D.Ok (1500 * i) ∧ Sp W [] wr (diskR d D :: [])) (fun v _ => 60 - (intOf v).toNat)
  case atStart => exact ⟨0, _, rfl, by omega, by omega, left_new, ok_new, HS2.out⟩
  case round =>
    clear HS2
    obtain ⟨i, D, rfl, hi1, hi2, hI, hOk, S5⟩ := hrel
    have HI := Lib.hid hI
    have HOK := Lib.hid hOk
    have HS5 := Lib.hid S5
    clear hI S5 hOk
    by_cases hlt : i < l.length ∧ i < 60
    · obtain ⟨hlt1, hlt2⟩ := hlt
      have hlt1' : (i : Int) < l.length := by omega
      have hlt2' : (i : Int) < 60 := by omega
      have hwf := HW.out i hlt1
      obtain ⟨a', cap', he, _, _, hrow⟩ := HAT.out.ext HS5.out.ext
      cases he
      obtain ⟨b, off, rfl⟩ := hrow.addr (i := i) (by simpa using hlt1)
      obtain ⟨c0, c1, c2, c3, c4, c5, c6⟩ := actM_cells hrow i hlt1
      have HTM := Lib.hid hwf.textL
      have HNM := Lib.hid hwf.nameL
      have hid1 := hwf.id1
      generalize l[i] = x at *
      obtain ⟨kd, nn, bx, rc, id, text, name⟩ := x
      dsimp only at *
      obtain ⟨id, rfl⟩ : ∃ k : Nat, id = k := ⟨id.toNat, by omega⟩
      clear hwf hrow hid1
      have S6 := HS5.out.box #[.int .i64 kd, .int .i64 nn, .int .i64 bx, .int .i64 rc, .int .u64 id, .string ⟨text.toArray⟩, .string ⟨name.toArray⟩] 35
      have HS6 := Lib.hid S6
      clear S6 HS5
      go_wp2_with fail
      refine (large19S kd nn bx rc id text name HS6.out HTM.out HNM.out).mono ?_
      rintro e w7 ⟨rfl, S⟩
      by_cases hbig : (decide (1000 < text.length) || decide (200 < name.length)) = true
      · have HS7 := Lib.hid S
        clear S
        go_wp2
        go_ret
        exact ⟨rfl, HS7.out.ext⟩
      · rw [Bool.not_eq_true] at hbig
        have HTX : Hid (text.length ≤ 1000 ∧ name.length ≤ 200) := by simp at hbig; exact hbig
        generalize wr.heap.size = q at *
        have HS7 := Lib.hid S
        have c7 := S.cell
        rw [hbig]
        clear S HS6 hbig c0 c1 c2 c3 c4 c5 c6 HTM HNM
        by_cases hk0 : kd = 0
        · subst hk0
          have HI2 := Lib.hid (HI.out.deliver bx id rc text)
          have HOK2 : Hid ((mdDeliver D bx id rc text).1.Ok (1500 * (i + 1))) := (mdDeliver_ok HOK.out bx id rc text).mono (by have := HTX.out; omega)
          go_wp2_with fail
          refine (mdDeliverS bx id rc text (1500 * i) HS7.out.pull1 HE.out HOK.out (by omega) (by have := HTX.out; omega)).mono ?_
          generalize mdDeliver D bx id rc text = R at *
          obtain ⟨D2, e2⟩ := R
          dsimp only at *
          rintro e w8 ⟨rfl, S8⟩
          have HS8 := Lib.hid S8.pull1.drop
          clear S8 c7 HS7 HI
          go_wp2_with fail
          go_roundw
          case rel => exact ⟨i + 1, D2, by go_num, by omega, by omega, HI2.out.more (by omega), HOK2.out, HS8.out⟩
          case measure => simp [intOf]; omega
        · by_cases hk5 : kd = 5
          · subst hk5
            have HI2 := Lib.hid (HI.out.write name text)
            have HOK2 : Hid ((D.write name text).1.Ok (1500 * (i + 1))) := (HOK.out.write name text).mono (by have := HTX.out; omega)
            go_wp2_with fail
            refine (writeS name text HS7.out.pull1 (HOK.out.small (by omega)) (by have := HTX.out; omega) (by have := HTX.out; omega)).mono ?_
            generalize D.write name text = R at *
            obtain ⟨D2, e2⟩ := R
            dsimp only at *
            rintro e w8 ⟨rfl, S8⟩
            have HS8 := Lib.hid S8.pull1.drop
            clear S8 c7 HS7 HI hk0
            go_wp2_with fail
            go_roundw
            case rel => exact ⟨i + 1, D2, by go_num, by omega, by omega, HI2.out.more (by omega), HOK2.out, HS8.out⟩
            case measure => simp [intOf]; omega
          · have t0 : (kd == 0) = false := by simpa using hk0
            have t5 : (kd == 5) = false := by simpa using hk5
            clear hk0 hk5
            go_wp2_with fail
            go_roundw
            case rel => exact ⟨i + 1, D, by go_num, by omega, by omega, HI.out.more (by omega), HOK.out.mono (by omega), HS7.out.drop⟩
            case measure => simp [intOf]; omega
    · have HI60 : Hid (i ≤ 60) := hi2
      have hq0 : (i : Int) < l.length → (60 : Int) ≤ i := by omega
      have hmm := HMM.out
      clear hlt
      by_cases hq : (i : Int) < l.length
      all_goals
        try have hq1 := hq0 hq
        clear hq0
        go_wp2_with fail
        clear hmm
        have S6 := (HS5.out.mapMade 9 encStr).pull1
        have HNS := Lib.hid (HI.out.short [])
        have HTS := Lib.hid (HI.out.short tmpB)
        have hnl := names_le D.now []
        have htl := names_le D.now tmpB
        have hnl2 := HI.out.len
        have HTL : Hid ((D.now.names tmpB).length ≤ 1000) := by unfold Hid; omega
        have HNL : Hid ((D.now.names []).length ≤ 120 ∧ D.now.length ≤ 120) := by unfold Hid; omega
        have HS6 := Lib.hid S6
        clear S6 HS5 hnl htl hnl2
        generalize wr.alloc (.map #[] 0) = w6 at *
        generalize wr.heap.size = um at *
        refine (listS [] HS6.out (by have := HNL.out; omega)).mono ?_
        rintro e w7 ⟨v7, rfl, S7⟩
        have HW0 := Lib.hid (leftW_new D.now (D.now.names []))
        have HCN : Hid (∀ (D1 : Dk) (K : Mp Bs), LeftW D.now (D.now.names []) K (D.now.names []).length → (D1.now = D.now.filter fun p => !tmpB.isPrefixOf p.1) → D1.now.Sorted → (K.Pairwise fun p q => bytesBefore p.1 q.1 = true) → (D1.now.names []).length = K.length) := fun D1 K h1 h2 h3 h4 => h1.count h2 h3 h4
        have HEA : Hid (∀ (D1 : Dk) (K : Mp Bs), LeftW D.now (D.now.names []) K (D.now.names []).length → (D1.now = D.now.filter fun p => !tmpB.isPrefixOf p.1) → ∀ x t, (x, t) ∈ K → (D1.now.get x).getD [] = t ∧ D1.now.has x = true) := fun D1 K h1 h2 x t hm => h1.each h2 hm
        generalize D.now.names [] = ns at *
        obtain ⟨a7, c7, rfl⟩ := S7.textSlice
        have HS7 := Lib.hid S7
        have hns : (ns.length : Int) ≤ 120 := by have := HNL.out; omega
        clear S7 HS6
        go_wp2_with fail
        go_loopw [59] (fun z wr => ∃ (j : Nat) (K : Mp Bs), z = .int .i64 j ∧ j ≤ ns.length ∧ LeftW D.now ns K j ∧ Sp W [] wr (textsR (.slice a7 ns.length c7) ns :: diskR d D :: mapR 9 encStr um K :: [])) (fun z _ => ns.length - (intOf z).toNat)
        case atStart => exact ⟨0, [], rfl, by omega, HW0.out, HS7.out⟩
        case round =>
          obtain ⟨j, K, rfl, hj, hLW, S8⟩ := hrel
          have HLW := Lib.hid hLW
          have HS8 := Lib.hid S8
          by_cases hltn : j < ns.length
          · have hltn' : (j : Int) < ns.length := by omega
            have hj0 : (0 : Int) ≤ j := by omega
            obtain ⟨x, hx⟩ : ∃ x, ns[j]? = some x := ⟨_, List.getElem?_eq_getElem hltn⟩
            obtain ⟨g, rfl, c⟩ := S8.textCell hx
            have HX := Lib.hid hx
            have hxl := HNS.out x (List.mem_of_getElem? hx)
            have HXL := Lib.hid hxl
            have hxl' : (x.length : Int) ≤ 80 := by omega
            have HKL : Hid (K.length < maxLen) := by have := hLW.len; unfold maxLen Hid; omega
            have hcut := cut4 x
            have HTC := Lib.hid (tmp_cut (x := x))
            clear S8 hx hLW hxl HS7
            by_cases hx4 : x.length < 4
            · have hx4' : (x.length : Int) < 4 := by omega
              have HT : Hid (tmpB.isPrefixOf x = false) := by rw [HTC.out]; simp [Hid]; omega
              have HLW2 := Lib.hid (HLW.out.put HX.out HT.out)
              obtain ⟨w9, hrun, S9, _⟩ := ((Sp.pick [_, _, _] [2, 0, 1] (by decide) (HS8.out))).mapPut (t := 45) keyedStrM Tryz.underlying45 HKL.out (keyStrM x (by have := HXL.out; unfold maxLen; omega)) ((D.now.get x).getD [])
              have HS9 := Lib.hid (Sp.pick [_, _, _] [1, 2, 0] (by decide) (S9))
              have HRUN := Lib.hid hrun
              clear S9 hx4 hcut hrun
              go_wp2_with fail
              refine (readS x HS8.out.pull1 (by have := HXL.out; unfold maxLen; omega)).mono ?_
              rintro e w10 ⟨rfl, rfl⟩
              have hrun := HRUN.out
              generalize (D.now.get x).getD [] = t at *
              generalize (if D.now.has x then (0 : Int) else 10) = ec at *
              clear c HS8
              go_wp2_with fail
              go_roundw
              case rel => exact ⟨j + 1, _, by go_num, by omega, HLW2.out, HS9.out⟩
              case measure => simp [intOf]; omega
            · have hx4' : (4 : Int) ≤ x.length := by omega
              by_cases htp : tmpB.isPrefixOf x = true
              · have HLW2 := Lib.hid (HLW.out.skip HX.out htp)
                have ht4 : x.take 4 = [116, 109, 112, 47] := by
                  rw [tmp_cut, Bool.and_eq_true, beq_iff_eq] at htp
                  exact htp.2
                rw [ht4] at hcut
                clear hx4 htp ht4
                go_wp2_with fail
                go_roundw
                case rel => exact ⟨j + 1, K, by go_num, by omega, HLW2.out, HS8.out⟩
                case measure => simp [intOf]; omega
              · rw [Bool.not_eq_true] at htp
                have HLW2 := Lib.hid (HLW.out.put HX.out htp)
                have ht4 : x.take 4 ≠ [116, 109, 112, 47] := fun e => by
                  rw [tmp_cut, e] at htp
                  simp [tmpB] at htp
                  omega
                obtain ⟨y4, hy4⟩ : ∃ y, y = x.take 4 := ⟨_, rfl⟩
                rw [← hy4] at hcut ht4
                have t2 : (y4 == [116, 109, 112, 47]) = false := by simpa using ht4
                have t3 : (y4 != [116, 109, 112, 47]) = true := by simpa using ht4
                obtain ⟨w9, hrun, S9, _⟩ := ((Sp.pick [_, _, _] [2, 0, 1] (by decide) (HS8.out))).mapPut (t := 45) keyedStrM Tryz.underlying45 HKL.out (keyStrM x (by have := HXL.out; unfold maxLen; omega)) ((D.now.get x).getD [])
                have HS9 := Lib.hid (Sp.pick [_, _, _] [1, 2, 0] (by decide) (S9))
                have HRUN := Lib.hid hrun
                clear S9 hx4 hrun htp hy4
                go_wp2_with fail
                refine (readS x HS8.out.pull1 (by have := HXL.out; unfold maxLen; omega)).mono ?_
                rintro e w10 ⟨rfl, rfl⟩
                have hrun := HRUN.out
                generalize (D.now.get x).getD [] = t at *
                generalize (if D.now.has x then (0 : Int) else 10) = ec at *
                clear c HS8
                go_wp2_with fail
                go_roundw
                case rel => exact ⟨j + 1, _, by go_num, by omega, HLW2.out, HS9.out⟩
                case measure => simp [intOf]; omega
          · obtain rfl : j = ns.length := by omega
            clear S8 hLW HS7
            obtain ⟨D1, e1, i1, f1, g1⟩ := mdRecover_live HI.out
            have HO1 := mdRecover_ok (HOK.out) HTL.out (fun n hn => by have := HTS.out n hn; omega)
            rw [e1] at HO1
            have HOK1 : Hid (D1.Ok 2000000) := HO1.mono (by have := HI60.out; omega)
            have HE1 := Lib.hid e1
            have HG1 := Lib.hid g1
            have HF1 := Lib.hid f1
            have HI1 := Lib.hid i1
            clear e1 i1 f1 g1 HO1
            go_wp2_with fail
            refine (mdRecoverS (1500 * i) ((Sp.pick [_, _, _] [1, 2] (by decide) (HS8.out))) HOK.out (by have := HI60.out; omega) HTL.out (fun n hn => by have := HTS.out n hn; omega)).mono ?_
            rw [HE1.out]
            dsimp only
            rintro e w9 ⟨rfl, S9⟩
            have HS9 := Lib.hid S9
            have htr : (D1.trace.length : Int) ≤ 2000000 := by have := HOK1.out.trace; omega
            clear S9 HS8
            go_wp2_with fail
            refine (traceS HS9.out (by omega)).mono ?_
            rintro e w10 ⟨a10, c10, rfl, S10⟩
            have HS10 := Lib.hid S10
            clear S10 HS9
            go_wp2_with fail
            refine (mdRecoverS 2000000 HS10.out HOK1.out (by decide) (by have := names_le D1.now tmpB; have := HI1.out.len; have := HI60.out; omega) (fun n hn => by have := HI1.out.short tmpB n hn; omega)).mono ?_
            rw [HG1.out]
            dsimp only
            rintro e w11 ⟨rfl, S11⟩
            have HS11 := Lib.hid S11
            clear S11 HS10
            go_wp2_with fail
            refine (traceS HS11.out (by omega)).mono ?_
            rintro e w12 ⟨a12, c12, rfl, S12⟩
            have HS12 := Lib.hid S12
            clear S12 HS11
            go_wp2_with fail
            refine (listS [] HS12.out (by have := HI1.out.len; have := HI60.out; omega)).mono ?_
            rintro e w13 ⟨v13, rfl, S13⟩
            have hcn := HCN.out D1 K HLW.out HF1.out HI1.out.sorted ((Sp.pick [_, _, _] [2] (by decide) (S13)).map.sorted keyedStrM)
            generalize D1.now.names [] = n1 at *
            obtain ⟨a13, c13, rfl⟩ := S13.textSlice
            have hlen6 := fun ty => ((Sp.pick [_, _, _] [2] (by decide) (S13))).map.len (t := 45) (e := 9) Tryz.underlying45 ty
            rw [← hcn] at hlen6
            obtain ⟨w14, cnt, hrun, S14⟩ := ((Sp.pick [_, _, _] [2, 1] (by decide) (S13))).rangeMade (t := 45) keyedStrM Tryz.underlying45
            have HS14 := Lib.hid S14
            clear S13 S14 HS12 hcn
            generalize w13.heap.size = ri at *
            go_wp2_with fail
            go_loopw [] (fun wr => ∃ (N : Mp Bs) (cnt : Nat), Sp W [] wr (rangeR 9 encStr um ri K N cnt :: diskR d D1 :: [])) (fun wr => wr.rangeLeft um ri)
            case atStart => exact ⟨K, cnt, HS14.out⟩
            case round =>
              clear hrun HS14 hlen6
              obtain ⟨N, cnt, S15⟩ := hrel
              have HLE := Lib.hid S15.range.left_eq
              have HS15 := Lib.hid S15
              rcases S15.rangeNext Tryz.underlying9 with ⟨rfl, hnx⟩ | ⟨x, t, w16, N1, cnt1, hperm, hmem, hxl, hnx, S16, hlt2, hnot, hent⟩
              · clear S15
                go_wp2
                go_ret
                exact ⟨rfl, HS15.out.ext⟩
              · have HXL := Lib.hid hxl
                have HLT := Lib.hid hlt2
                obtain ⟨h1, h2⟩ := HEA.out D1 K HLW.out HF1.out x t hmem
                have H1 := Lib.hid h1
                have H2 := Lib.hid h2
                have HS16 := Lib.hid S16
                have HR16 := Lib.hid S16.range.left_eq
                clear S15 S16 hperm hmem hxl hlt2 hnot h1 h2
                go_wp2_with fail
                refine (readS x HS16.out.pull1 HXL.out).mono ?_
                rw [H1.out, H2.out, if_pos rfl]
                rintro e w17 ⟨rfl, rfl⟩
                clear hnx hent
                go_wp2_with fail
                go_roundw
                case rel => exact ⟨N1, cnt1, HS16.out⟩
                case measure => rw [HLE.out, HR16.out]; exact HLT.out
end Go.Proofs.YtcffickkipicbaaGreatDoor
