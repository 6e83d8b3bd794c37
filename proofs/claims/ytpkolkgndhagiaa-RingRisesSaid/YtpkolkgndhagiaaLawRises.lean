/- RingRises: its walk: a domain's epoch never falls. -/
import Derived.Test.YtpkolkgndhagiaaRingR
import Derived.Test.YtpkolkgndhagiaaRangeS
import Derived.Test.YtpkolkgndhagiaaLawFull
namespace Go.Proofs.Ytpkolkgndhagiaa
open Go.RowKit Go.Maps

abbrev encN (n : Nat) : Value := .int .u64 n
theorem zeroU64 (w : World) : (zeroValue 22).run Try.prog w = .ok (.int .u64 0) w := by kernel_rfl
theorem rise_new : RInv 0 aw14a [] [] [] [] := ⟨⟨aw14a_aliveQ.rd, by simp, .inl rfl⟩, fun _ => rfl, ringOk_0, (by intro p hp; cases hp), by decide, by decide, by decide⟩
/-- How things stand in memory. -/
def RisesAt (W : World) (d p km b : Nat) (wr : World) : Prop := ∃ D M K l t, RInv b D M K l t ∧ Sp W [] wr (ringR p d M :: diskR d D :: mapR 9 encN km K :: [])
def MidAt (W : World) (d p km b : Nat) (re : Bool) (wr : World) : Prop := ∃ D M K l t, Mid b re D M K l t ∧ Sp W [] wr (ringR p d M :: diskR d D :: mapR 9 encN km K :: [])

set_option maxRecDepth 100000 in
set_option maxHeartbeats 4000000 in
theorem ringRises_walk (v : Value) (l : List ActK) (W : World) (hl : ActKsAt W v l) :
    Calls Try.prog 12 #[v] W fun e w2 => e = .returned (.bool true) ∧ Ext [] W w2 := by
  have HS0 := Lib.hid (Sp.nil W [])
  have HAT := Lib.hid hl
  obtain ⟨a, cap, rfl, hlen, hwf, _⟩ := hl
  have HW := Lib.hid hwf
  have HLEN := Lib.hid hlen
  unfold maxLen at hlen
  have hlen' : (l.length : Int) ≤ 9223372036854775807 := by omega
  have hmm := @run_makeMap Try.prog
  clear hwf hlen
  go_enter Try.func12, Try.ntmps12
  go_wp2_with fail
  refine (awake14S HS0.out).mono ?_
  rintro e w1 ⟨rfl, S⟩
  have HS1 := Lib.hid S
  clear S
  go_wp2_with fail
  refine (newS HS1.out).mono ?_
  rintro e w2 ⟨d, rfl, S⟩
  have HS2 := Lib.hid S
  clear S HS1
  go_wp2_with fail
  refine (ringOpenS 100 Dk.new HS2.out aw14_rn (by decide)).mono ?_
  rw [aw14_1]
  rintro e w3 ⟨p, rfl, S⟩
  have HS3 := Lib.hid S
  clear S HS2
  dsimp only
  go_wp2_with fail
  have S4 := HS3.out.mapMade 9 encN
  have HS4 := Lib.hid S4.pull2.pull2
  clear S4 HS3 hmm
  generalize w3.alloc (.map #[] 0) = w4 at *
  generalize w3.heap.size = km at *
  go_loopw [4, 7] (fun r v wr => ∃ (i p : Nat), r = .pointer (some ⟨p, 0, none⟩) ∧ v = .int .i64 i ∧ i ≤ l.length ∧ i ≤ 60 ∧ RisesAt W d p km i wr) (fun _ v _ => 60 - (intOf v).toNat)
  case atStart => exact ⟨0, p, rfl, rfl, by omega, by omega, aw14a, [], [], [], [], rise_new, HS4.out⟩
  case round =>
    clear HS4
    obtain ⟨i, p, rfl, rfl, hi1, hi2, D, M, K, ls, t, hI, S5⟩ := hrel
    have HI := Lib.hid hI
    have HS5 := Lib.hid S5
    clear hI S5
    by_cases hlt : i < l.length ∧ i < 60
    · obtain ⟨hlt1, hlt2⟩ := hlt
      have hlt1' : (i : Int) < l.length := by omega
      have hlt2' : (i : Int) < 60 := by omega
      have hwf := HW.out i hlt1
      obtain ⟨a', cap', he, _, _, hrow⟩ := HAT.out.ext HS5.out.ext
      cases he
      obtain ⟨b, off, rfl⟩ := hrow.addr (i := i) (by simpa using hlt1)
      obtain ⟨c0, c1, c2⟩ := actK_cells hrow i hlt1
      have HXM := Lib.hid hwf.keyL
      have hn1 := hwf.n1
      have hn2 := hwf.n2
      generalize l[i] = x at *
      obtain ⟨kd, nn, key⟩ := x
      dsimp only at *
      clear hwf hrow
      have S6 := HS5.out.box (ActK.box ⟨kd, nn, key⟩) 75
      have HS6 := Lib.hid S6
      clear S6 HS5
      go_wp2_with fail
      refine (large14S kd nn key HS6.out HXM.out).mono ?_
      rintro e w7 ⟨rfl, S⟩
      by_cases hbig : 1000 < key.length
      · have HS7 := Lib.hid S
        clear S
        have hb' : decide (1000 < key.length) = true := by simpa using hbig
        go_wp2
        go_ret
        exact ⟨rfl, HS7.out.ext⟩
      · have hb' : decide (1000 < key.length) = false := by simpa using hbig
        have HKEY : Hid (key.length ≤ 1000) := by unfold Hid; omega
        generalize wr.heap.size = q at *
        have HS7 := Lib.hid S
        have c7 := S.cell
        have HRM := Lib.hid (HI.out.roomy (by omega))
        clear S HS6 hbig c0 c1 c2 HXM
        rw [hb']
        clear hb'
        go_upto_block 2 with (fail)
        go_cut [] (fun wx => ∃ D M K ls t, Mid (i + 1) (decide (kd = 4)) D M K ls t ∧ Sp W [] wx (boxR q (ActK.box ⟨kd, nn, key⟩) 75 :: ringR p d M :: diskR d D :: mapR 9 encN km K :: []))
        case first =>
          have HS8 := Lib.hid (Sp.pick [_, _, _, _] [1, 2, 0, 3] (by decide) (HS7.out))
          have HKM : Hid (key.length ≤ maxLen) := by have := HKEY.out; unfold Hid maxLen; omega
          by_cases hk0 : kd = 0
          · subst hk0
            have HB := Lib.hid (HI.out.begin key (by omega))
            go_wp2_with fail
            refine (ringBeginS key 1000000 D HS8.out (by have := HKEY.out; omega) HI.out.ok HRM.out (by decide)).mono ?_
            generalize ringBegin D M key = B at *
            obtain ⟨D2, M2, n2, e2⟩ := B
            dsimp only at *
            rintro e w8 ⟨rfl, S⟩
            have c8 := (Sp.pick [_, _, _, _] [2] (by decide) (S)).cell
            have HS9 := Lib.hid S
            rcases HB.out with ⟨rfl, h1, h2, l2, t2, hm⟩ | ⟨he, rfl, l2, t2, hm⟩
            · have hlook := ((Sp.pick [_, _, _, _] [3] (by decide) (S))).map.look (t := 48) keyedStr Try.underlying48 (zeroU64 _) (keyStr key HKM.out)
              have hget : ((K.get key).map encN).getD (.int .u64 0) = .int .u64 ((K.get key).getD 0 : Nat) := by cases K.get key <;> rfl
              rw [hget] at hlook
              obtain ⟨w9, hrun, S2, _⟩ := ((Sp.pick [_, _, _, _] [3, 0, 1, 2] (by decide) (S))).mapPut (t := 48) keyedStr Try.underlying48 (by have := HI.out.keys; unfold maxLen; omega) (keyStr key HKM.out) n2
              have HS10 := Lib.hid (Sp.pick [_, _, _, _] [3, 1, 2, 0] (by decide) (S2))
              have HM := Lib.hid hm
              generalize (K.get key).getD 0 = g at *
              have t1 : ¬ n2 ≤ g := by omega
              have t2 : ¬ n2 < 2 := by omega
              clear S S2 hm HB c7 HS7 HS8 h1 h2 hget
              go_wp2_with fail
              go_meet
              exact ⟨_, _, _, _, _, HM.out, HS10.out⟩
            · have t1 : (e2 == 0) = false := by simpa using he
              have HM := Lib.hid hm
              clear S hm HB c7 HS7 HS8 he
              go_wp2_with fail
              go_meet
              exact ⟨_, _, _, _, _, HM.out, (Sp.pick [_, _, _, _] [2, 0, 1, 3] (by decide) (HS9.out))⟩
          · by_cases hk1 : kd = 1
            · subst hk1
              have HM := Lib.hid (HI.out.end key (by omega))
              go_wp2_with fail
              refine (ringEndS key 1000000 D HS8.out (by have := HKEY.out; omega) HI.out.ok HRM.out (by decide)).mono ?_
              rintro e w8 ⟨rfl, S⟩
              have HS9 := Lib.hid S
              have c8 := (Sp.pick [_, _, _, _] [2] (by decide) (S)).cell
              clear S c7 HS7 HS8
              go_wp2_with fail
              go_meet
              obtain ⟨l2, t2, hm⟩ := HM.out
              exact ⟨_, _, _, _, _, hm, (Sp.pick [_, _, _, _] [2, 0, 1, 3] (by decide) (HS9.out))⟩
            · by_cases hk3 : kd = 3
              · subst hk3
                have HM := Lib.hid (HI.out.fuse nn hn2)
                go_wp2_with fail
                refine (fuseS nn ((Sp.pick [_, _, _, _] [2, 0, 1, 3] (by decide) (HS7.out)))).mono ?_
                rintro e w8 ⟨rfl, S⟩
                have HS9 := Lib.hid S
                have c8 := (Sp.pick [_, _, _, _] [1] (by decide) (S)).cell
                clear S c7 HS7 HS8
                go_wp2_with fail
                go_meet
                exact ⟨_, _, _, _, _, HM.out, (Sp.pick [_, _, _, _] [1, 2, 0, 3] (by decide) (HS9.out))⟩
              · by_cases hk4 : kd = 4
                · subst hk4
                  have HM := Lib.hid (HI.out.crash nn)
                  have HCF := Lib.hid (HI.out.rise.rd.crashFit (by have := HI.out.rows; omega))
                  go_wp2_with fail
                  refine (crashS nn ((Sp.pick [_, _, _, _] [2, 0, 1, 3] (by decide) (HS7.out))) HCF.out).mono ?_
                  rintro e w8 ⟨rfl, S⟩
                  have HS9 := Lib.hid S
                  have c8 := (Sp.pick [_, _, _, _] [1] (by decide) (S)).cell
                  clear S c7 HS7 HS8
                  go_wp2_with fail
                  go_meet
                  obtain ⟨l2, hm⟩ := HM.out
                  exact ⟨_, _, _, _, _, hm, (Sp.pick [_, _, _, _] [1, 2, 0, 3] (by decide) (HS9.out))⟩
                · by_cases hk5 : kd = 5
                  · subst hk5
                    have HM := Lib.hid (HI.out.quota (max nn 0))
                    go_wp2_with fail
                    refine (quotaS nn ((Sp.pick [_, _, _, _] [2, 0, 1, 3] (by decide) (HS7.out)))).mono ?_
                    rintro e w8 ⟨rfl, S⟩
                    have HS9 := Lib.hid S
                    have c8 := (Sp.pick [_, _, _, _] [1] (by decide) (S)).cell
                    clear S c7 HS7 HS8
                    go_wp2_with fail
                    go_meet
                    exact ⟨_, _, _, _, _, HM.out, (Sp.pick [_, _, _, _] [1, 2, 0, 3] (by decide) (HS9.out))⟩
                  · have HM : Hid (Mid (i + 1) (decide (kd = 4)) D M K ls t) := HI.out.mid _
                    have t0 : (kd == 0) = false := by simpa using hk0
                    have t1 : (kd == 1) = false := by simpa using hk1
                    have t3 : (kd == 3) = false := by simpa using hk3
                    have t4 : (kd == 4) = false := by simpa using hk4
                    have t5 : (kd == 5) = false := by simpa using hk5
                    clear hk0 hk1 hk3 hk4 hk5
                    go_wp2_with fail
                    go_meet
                    exact ⟨_, _, _, _, _, HM.out, HS7.out⟩
        case rest =>
          obtain ⟨D1, M1, K1, l1, t1, hm, S9⟩ := hcut
          clear HS7 c7 HI HRM HAT HW
          have HM := Lib.hid hm
          have HRM := Lib.hid (hm.roomy (by omega))
          have c9 := S9.cell
          have HS9 := Lib.hid S9
          clear hm S9
          obtain ⟨re, hre⟩ : ∃ re : Bool, re = decide (kd = 2 ∨ kd = 4) := ⟨_, rfl⟩
          have HRE : Hid (re = false → Mid (i + 1) false D1 M1 K1 l1 t1) := fun h => by
            rw [hre] at h
            simp only [decide_eq_false_iff_not, not_or] at h
            have := HM.out
            rw [show decide (kd = 4) = false by simpa using h.2] at this
            exact this
          go_upto_region 28 with (fail)
          go_cut [115] (fun v wx => v = .bool re ∧ Sp W [] wx (boxR q (ActK.box ⟨kd, nn, key⟩) 75 :: ringR p d M1 :: diskR d D1 :: mapR 9 encN km K1 :: []))
          case first =>
            by_cases h2 : kd = 2
            · subst h2
              go_wp2_with fail
              go_meet
              exact ⟨by rw [hre]; rfl, HS9.out⟩
            · by_cases h4 : kd = 4
              · subst h4
                go_wp2_with fail
                go_meet
                exact ⟨by rw [hre]; rfl, HS9.out⟩
              · have t2 : (kd == 2) = false := by simpa using h2
                have t4 : (kd == 4) = false := by simpa using h4
                have hre2 : re = false := by rw [hre]; simp [h2, h4]
                clear h2 h4
                go_wp2_with fail
                go_meet
                exact ⟨by rw [hre2], HS9.out⟩
          case rest =>
            obtain ⟨rfl, S10⟩ := hcut
            clear HS9 c9 hre
            have HS10 := Lib.hid S10.drop
            clear S10
            go_upto_if 115 with (fail)
            go_cut [4] (fun v wx => ∃ p2 M2, v = .pointer (some ⟨p2, 0, none⟩) ∧ Mid (i + 1) false D1 M2 K1 l1 t1 ∧ Sp W [] wx (ringR p2 d M2 :: diskR d D1 :: mapR 9 encN km K1 :: []))
            case first =>
              cases re with
              | true =>
                obtain ⟨ho, hm2⟩ := HM.out.reopen (by omega)
                have HO := Lib.hid ho
                have HM2 := Lib.hid hm2
                clear ho hm2
                go_wp2_with fail
                refine (ringOpenS 1000000 D1 HS10.out.pull1 HRM.out (by decide)).mono ?_
                rw [HO.out]
                rintro e w11 ⟨p2, rfl, S⟩
                have HS11 := Lib.hid S
                clear S
                dsimp only
                go_wp2_with fail
                go_meet
                exact ⟨p2, _, rfl, HM2.out, (Sp.pick [_, _, _, _] [0, 1, 3] (by decide) (HS11.out))⟩
              | false =>
                go_wp2_with fail
                go_meet
                exact ⟨p, _, rfl, HRE.out (by trivial), HS10.out⟩
            case rest =>
              obtain ⟨p2, M2, rfl, hm2, S11⟩ := hcut
              clear HS10 HM HRE
              have HM := Lib.hid hm2
              have HS11 := Lib.hid S11
              clear hm2 S11
              go_wp2_with fail
              refine (deadS HS11.out.pull1).mono ?_
              rintro e w12 ⟨rfl, rfl⟩
              cases hdd : D1.dead with
              | true =>
                have HE := Lib.hid (HM.out.inv (HM.out.exact hdd))
                clear hdd
                go_wp2_with fail
                go_roundw
                case rel => exact ⟨i + 1, p2, rfl, by go_num, by omega, by omega, _, _, _, _, _, HE.out, HS11.out⟩
                case measure => simp [intOf]; omega
              | false =>
                have HDD := Lib.hid hdd
                clear hdd
                obtain ⟨w13, cnt, hrun, S12⟩ := HS11.out.pull2.rangeMade (t := 48) keyedStr Try.underlying48
                have HS12 := Lib.hid S12
                generalize wc.heap.size = ri at *
                clear S12 HS11
                go_wp2_with fail
                have HKW := Lib.hid (HM.out.weak HDD.out)
                have hMM : M2 = ringPuts l1 := HM.out.map HDD.out rfl
                have HST : Hid (∀ z, ringState M2 z = st l1 z) := fun z => by rw [hMM]; rfl
                clear hMM
                obtain ⟨wo, hwo⟩ : ∃ wo : World, wo = wr := ⟨_, rfl⟩
                go_loopw [] (fun wr => ∃ (F N : Mp Nat) (cnt : Nat), KW l1 F ∧ (∀ p ∈ F, (∀ q ∈ N, q.1 ≠ p.1) → p.2 = (st l1 p.1).now) ∧ F.length ≤ i + 1 ∧ Sp W [] wr (rangeR 9 encN km ri F N cnt :: ringR p2 d M2 :: diskR d D1 :: [])) (fun wr => wr.rangeLeft km ri)
                case atStart => exact ⟨K1, K1, cnt, HKW.out, fun p hp hq => absurd rfl (hq p hp), HM.out.keys, HS12.out⟩
                case round =>
                  obtain ⟨F, N, cnt, hF1, hF2, hF3, S13⟩ := hrel
                  have HF1 := Lib.hid hF1
                  have HF2 := Lib.hid hF2
                  have HF3 := Lib.hid hF3
                  have HS13 := Lib.hid S13
                  have HLE := Lib.hid S13.range.left_eq
                  clear hF1 hF2 hF3 HS12 hrun
                  rcases S13.rangeNext Try.underlying9 with ⟨rfl, hnx⟩ | ⟨x, c, w14, N1, cnt1, hperm, hmem, hxl, hnx, S14, hlt, hnot, hent⟩
                  · clear S13
                    go_wp2_with fail
                    have HE : Hid (RInv (i + 1) D1 M2 F l1 t1) := by
                      have hm := HM.out
                      exact ⟨hm.rise, fun hd => hm.map hd rfl, hm.ok, fun p hp => HF2.out p hp (by simp), hm.trace, hm.rows, HF3.out⟩
                    clear hnx
                    go_roundw
                    case rel => exact ⟨i + 1, p2, rfl, by go_num, by omega, by omega, _, _, _, _, _, HE.out, HS13.out.rangeEnd.pull2.pull2⟩
                    case measure => simp [intOf]; omega
                  · clear S13
                    have h2 := HM.out.rise.st x
                    have hw := HF1.out (x, c) hmem
                    have hok := HM.out.ok.state x
                    rw [HST.out x] at hok
                    obtain ⟨⟨a0, b0⟩, hst⟩ : ∃ s, st l1 x = s := ⟨_, rfl⟩
                    rw [hst] at h2 hok hw
                    dsimp only [row2] at h2 hok hw
                    obtain ⟨hA1, hA2⟩ := h2
                    obtain ⟨hB1, hB2⟩ := hw
                    obtain ⟨hC1, hC2⟩ := hok
                    have HSX := Lib.hid hst
                    have HPERM := Lib.hid hperm
                    have HMEM := Lib.hid hmem
                    have HXL := Lib.hid hxl
                    have HNOT := Lib.hid hnot
                    have HLT := Lib.hid hlt
                    have HS14 := Lib.hid S14.pull1
                    clear hst hperm hmem hxl hnot S14 hlt
                    go_wp2_with fail
                    refine (ringStateS x HS14.out HXL.out).mono ?_
                    rw [HST.out x, HSX.out]
                    rintro e w15 ⟨rfl, S⟩
                    have S16 := S.box #[.int .u64 a0, .int .u64 b0] 67
                    have c16 := S16.cell
                    have HS16 := Lib.hid S16.pull1
                    clear S S16 HS14 hnx hent
                    dsimp only
                    have g1 : ¬ a0 < c := by omega
                    have g2 : ¬ c + 1 < a0 := by omega
                    have g2' : ¬ (c : Int) + 1 < a0 := by omega
                    have g3 : (0 : Int) ≤ (a0 : Int) - 1 := by omega
                    have g4 : (a0 : Int) ≤ 1000000 := by omega
                    have g5 : (c : Int) ≤ 1000000 := by omega
                    have HA : Hid (1 ≤ a0 ∧ a0 ≤ 1000000) := ⟨hA1, hC1⟩
                    have hcase : ((b0 : Int) != 0) = false ∨ (((b0 : Int) != 0) = true ∧ ((b0 : Int) != (a0 : Int) - 1) = false) := by
                      rcases hA2 with h | h
                      · left; simp [h]
                      · by_cases hz : b0 = 0
                        · left; simp [hz]
                        · right
                          simp
                          omega
                    clear hA2 hB1 hB2 hC1 hC2 hA1
                    have HLIVE : Hid (∀ {w : World}, Sp W [] w (ringR p2 d M2 :: boxR w15.heap.size #[.int .u64 a0, .int .u64 b0] 67 :: rangeR 9 encN km ri F N1 cnt1 :: diskR d D1 :: []) → Calls Try.prog 36 #[.pointer (some ⟨p2, 0, none⟩), .string ⟨x.toArray⟩, .int .u64 a0] w fun e w2 => e = .returned (.bool true) ∧ Sp W [] w2 (ringR p2 d M2 :: boxR w15.heap.size #[.int .u64 a0, .int .u64 b0] 67 :: rangeR 9 encN km ri F N1 cnt1 :: diskR d D1 :: [])) := fun {w} S => by
                      have h := ringLiveS x a0 S HXL.out (by have := HA.out; omega)
                      rw [HST.out x, HSX.out] at h
                      rw [show (decide (0 < a0) && (decide (a0 = (⟨a0, b0⟩ : RSt).now) || decide (a0 = (⟨a0, b0⟩ : RSt).old))) = true by have := HA.out; simp; omega] at h
                      exact h
                    rcases hcase with g6 | ⟨g6, g7⟩
                    all_goals
                      go_wp2_with fail
                      refine (HLIVE.out HS16.out).mono ?_
                      rintro e w17 ⟨rfl, S⟩
                      have c17 := (Sp.pick [_, _, _, _] [1] (by decide) (S)).cell
                      obtain ⟨w18, N2, hrun, S18, hsub⟩ := ((Sp.pick [_, _, _, _] [2, 0, 3] (by decide) (S))).rangePut (t := 48) keyedStr Try.underlying48 (by have := HF3.out; unfold maxLen; omega) (keyStr x HXL.out) ⟨c, HMEM.out⟩ HNOT.out a0
                      have HS18 := Lib.hid S18
                      have HSUB := Lib.hid hsub
                      clear S S18 hsub c16 HS16
                      go_wp2_with fail
                      go_roundw
                      case rel =>
                        refine ⟨_, N2, cnt1, fun p hp => ?_, fun p hp hq => ?_, ?_, HS18.out⟩
                        · rcases Mp.mem_put.1 hp with rfl | ⟨hp, _⟩
                          · dsimp only
                            rw [HSX.out]
                            dsimp only
                            omega
                          · exact HF1.out p hp
                        · rcases Mp.mem_put.1 hp with rfl | ⟨hp, hpx⟩
                          · dsimp only
                            rw [HSX.out]
                          · refine HF2.out p hp fun q hqN => ?_
                            rcases List.mem_cons.1 (HPERM.out.mem_iff.1 hqN) with rfl | hq1
                            · exact fun e => hpx e.symm
                            · exact hq q ((HSUB.out q).2 hq1)
                        · exact Nat.le_trans (Mp.length_put_has a0 ⟨c, HMEM.out⟩) HF3.out
                      case measure =>
                        have h1 := HS18.out.range.left_eq
                        have h2 := HLE.out
                        have h3 := HLT.out
                        omega
    · go_wp2
      all_goals (go_ret; exact ⟨rfl, HS5.out.ext⟩)
end Go.Proofs.Ytpkolkgndhagiaa
