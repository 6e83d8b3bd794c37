/- RingFull: its walk: what can't be written changes nothing. -/
import Derived.Test.YtpkolkgndhagiaaRingQ
import Derived.Test.YtpkolkgndhagiaaAw14
import Derived.Test.YtpkolkgndhagiaaReg
import Derived.Deep.RegionHeld3
import Derived.Deep.CutBlock
import Derived.IntWalk
namespace Go.Proofs.Ytpkolkgndhagiaa
open Go.RowKit Go.Maps

abbrev ActK.agg (x : ActK) : Value := .agg #[.int .i64 x.kind, .int .i64 x.n, .string ⟨x.key.toArray⟩]
abbrev ActK.box (x : ActK) : Array Value := #[.int .i64 x.kind, .int .i64 x.n, .string ⟨x.key.toArray⟩]
theorem aw14a_aliveQ : AliveQ aw14a [] := ⟨⟨rfl, rfl, rfl, by simp, by decide, by simp⟩, rfl, by decide, by decide⟩

set_option maxRecDepth 100000 in
set_option maxHeartbeats 400000 in
theorem large14S {w0 w : World} {F0 : List Nat} {L : List Res} (k n : Int) (x : Bs) (S : Sp w0 F0 w L) (hx : x.length ≤ maxLen) :
    Calls Try.prog 38 #[.agg #[.int .i64 k, .int .i64 n, .string ⟨x.toArray⟩]] w fun e w2 => e = .returned (.bool (decide (1000 < x.length))) ∧ Sp w0 F0 w2 L := by
  have HS := Lib.hid S
  unfold maxLen at hx
  have hx' : (x.length : Int) ≤ 9223372036854775807 := by omega
  clear S hx
  go_enter Try.func38, Try.ntmps38
  go_wp2
  go_ret
  refine ⟨ret_bool ?_, HS.out.new _⟩
  rw [Bool.eq_iff_iff]
  simp
  omega

set_option maxRecDepth 100000 in
set_option maxHeartbeats 4000000 in
theorem ringFull_walk (v : Value) (l : List ActK) (m : Int) (W : World) (hl : ActKsAt W v l) (hm : 0 ≤ m ∧ m ≤ 255) :
    Calls Try.prog 10 #[v, .int .u8 m] W fun e w2 => e = .returned (.bool true) ∧ Ext [] W w2 := by
  have HS0 := Lib.hid (Sp.nil W [])
  have HAT := Lib.hid hl
  obtain ⟨a, cap, rfl, hlen, hwf, _⟩ := hl
  obtain ⟨hm1, hm2⟩ := hm
  have HW := Lib.hid hwf
  have HLEN := Lib.hid hlen
  unfold maxLen at hlen
  have hlen' : (l.length : Int) ≤ 9223372036854775807 := by omega
  obtain ⟨at0, hat⟩ : ∃ k : Nat, m % 60 = k := ⟨(m % 60).toNat, by omega⟩
  have hat60 : (at0 : Int) ≤ 59 := by omega
  have HWR : Hid (IntKind.i64.wrap (m.tmod 60) = at0) := by
    rw [Int.tmod_eq_emod_of_nonneg hm1, hat]
    exact IntWalk.i64_in _ (by omega)
  clear hwf hlen
  go_enter Try.func10, Try.ntmps10
  go_wp2_with fail
  refine (awake14S HS0.out).mono ?_
  rintro e w1 ⟨rfl, S⟩
  have HS1 := Lib.hid S
  clear S
  go_wp2_with fail
  refine (newS HS1.out).mono ?_
  rintro e w2 ⟨d, rfl, S⟩
  have HS2 := Lib.hid S
  clear S HS1
  go_wp2_with fail
  refine (ringOpenS 100 Dk.new HS2.out aw14_rn (by decide)).mono ?_
  rw [aw14_1]
  rintro e w3 ⟨p, rfl, S⟩
  have HS3 := Lib.hid S
  clear S HS2
  dsimp only
  go_wp2_with fail
  go_loopw [8] (fun v wr => ∃ (i : Nat) (D : Dk) (rs : List RRow), v = .int .i64 i ∧ i ≤ l.length ∧ i ≤ 60 ∧ AliveQ D rs ∧ rs.length ≤ i ∧ (at0 < i → D.quota ≤ 0) ∧ Sp W [] wr (ringR p d (ringPuts rs) :: diskR d D :: [])) (fun v _ => 60 - (intOf v).toNat)
  case atStart => exact ⟨0, aw14a, [], rfl, by omega, by omega, aw14a_aliveQ, by simp, by omega, HS3.out⟩
  case round =>
    obtain ⟨i, D, rs, rfl, hi1, hi2, hA, hrs, hq, S4⟩ := hrel
    have HA := Lib.hid hA
    have HR := Lib.hid hrs
    have HQ := Lib.hid hq
    have HS4 := Lib.hid S4
    clear hA hrs hq S4 HS3
    by_cases hlt : i < l.length ∧ i < 60
    · obtain ⟨hlt1, hlt2⟩ := hlt
      have hlt1' : (i : Int) < l.length := by omega
      have hlt2' : (i : Int) < 60 := by omega
      have hwf := HW.out i hlt1
      obtain ⟨a', cap', he, _, _, hrow⟩ := HAT.out.ext HS4.out.ext
      cases he
      obtain ⟨b, off, rfl⟩ := hrow.addr (i := i) (by simpa using hlt1)
      obtain ⟨c0, c1, c2⟩ := actK_cells hrow i hlt1
      have HXM := Lib.hid hwf.keyL
      generalize l[i] = x at *
      obtain ⟨kd, nn, key⟩ := x
      dsimp only at *
      clear hwf hrow
      have S5 := HS4.out.box (ActK.box ⟨kd, nn, key⟩) 75
      have hq := S5.boxlt
      have HS5 := Lib.hid S5
      clear S5 HS4
      go_wp2_with fail
      refine (large14S kd nn key HS5.out HXM.out).mono ?_
      rintro e w6 ⟨rfl, S⟩
      by_cases hbig : 1000 < key.length
      · have HS6 := Lib.hid S
        clear S
        have hb' : decide (1000 < key.length) = true := by simpa using hbig
        go_wp2
        go_ret
        exact ⟨rfl, HS6.out.ext⟩
      · have hb' : decide (1000 < key.length) = false := by simpa using hbig
        have HKEY : Hid (key.length ≤ 1000) := by unfold Hid; omega
        generalize wr.heap.size = q at *
        have HS6 := Lib.hid S
        have c6 := S.cell
        clear S HS5 hbig c0 c1 c2 HXM hq
        rw [hb']
        clear hb'
        go_upto_if 42 with (fail)
        obtain ⟨D1, hD1⟩ : ∃ D1, D1 = if i = at0 then { D with quota := 0 } else D := ⟨_, rfl⟩
        have HA1 : Hid (AliveQ D1 rs) := by
          rw [hD1]
          split
          · exact ⟨HA.out.rd.quota 0, HA.out.dead, HA.out.fuse, HA.out.trace⟩
          · exact HA.out
        have HQ1 : Hid (at0 ≤ i → D1.quota ≤ 0) := by
          intro h
          rw [hD1]
          split
          · simp
          · exact HQ.out (by omega)
        have HD1 := Lib.hid hD1
        clear hD1 c6
        go_cut [] (fun wx => Sp W [] wx (boxR q (ActK.box ⟨kd, nn, key⟩) 75 :: ringR p d (ringPuts rs) :: diskR d D1 :: []))
        case first =>
          by_cases hi : i = at0
          · have hD := HD1.out
            rw [if_pos hi] at hD
            have hi' : ((i : Int) == (at0 : Int)) = true := by simp [hi]
            clear hi
            go_wp2_with fail
            refine (quotaS 0 HS6.out.pull2).mono ?_
            rintro e w7 ⟨rfl, S⟩
            have HS7 := Lib.hid (Sp.pick [_, _, _] [1, 2, 0] (by decide) (S))
            rw [show max (0 : Int) 0 = 0 from rfl, ← hD] at HS7
            clear S
            go_wp2_with fail
            go_meet
            exact HS7.out
          · have hD := HD1.out
            rw [if_neg hi] at hD
            have hi' : ((i : Int) == (at0 : Int)) = false := by simp; omega
            go_wp2_with fail
            go_meet
            rw [hD]
            exact HS6.out
        case rest =>
          have S8 := hcut
          have c8 := S8.cell
          have HS8 := Lib.hid S8.pull1
          clear S8 HS6 HS0
          go_wp2_with fail
          refine (ringStateS key HS8.out (by have := HKEY.out; unfold maxLen; omega)).mono ?_
          rintro e w9 ⟨rfl, S⟩
          obtain ⟨⟨a0, b0⟩, hst⟩ : ∃ s, ringState (ringPuts rs) key = s := ⟨_, rfl⟩
          rw [hst]
          have HST := Lib.hid hst
          have S9 := S.box #[.int .u64 a0, .int .u64 b0] 67
          have c9 := (Sp.pick [_, _, _, _] [2] (by decide) (S9)).cell
          have HS9 := Lib.hid S9
          clear S hst HS8 c8 S9
          dsimp only
          go_upto_block 2 with (fail)
          generalize w9.alloc (.cells #[.int .u64 a0, .int .u64 b0] 67) = w10 at *
          generalize w9.heap.size = q10 at *
          go_cut [11] (fun v wx => v = .int .i64 (ringAct D1 (ringPuts rs) ⟨kd, nn, key⟩).2.2 ∧ Sp W [] wx (ringR p d (ringAct D1 (ringPuts rs) ⟨kd, nn, key⟩).2.1 :: diskR d (ringAct D1 (ringPuts rs) ⟨kd, nn, key⟩).1 :: boxR q10 #[.int .u64 a0, .int .u64 b0] 67 :: boxR q (ActK.box ⟨kd, nn, key⟩) 75 :: []))
          case first =>
            have HRO := Lib.hid (HA1.out.ringOk (by have := HR.out; omega))
            have HRM := Lib.hid (HA1.out.roomy (by have := HR.out; omega))
            have HS10 := Lib.hid (Sp.pick [_, _, _, _] [1, 3, 0, 2] (by decide) (HS9.out))
            clear HS9
            by_cases hk0 : kd = 0
            · subst hk0
              have HE : Hid (ringAct D1 (ringPuts rs) ⟨0, nn, key⟩ = ((ringBegin D1 (ringPuts rs) key).1, (ringBegin D1 (ringPuts rs) key).2.1, (ringBegin D1 (ringPuts rs) key).2.2.2)) := rfl
              go_wp2_with fail
              refine (ringBeginS key 1000000 D1 HS10.out (by have := HKEY.out; omega) HRO.out HRM.out (by decide)).mono ?_
              rintro e w11 ⟨rfl, S⟩
              have HS11 := Lib.hid S
              clear S c9
              go_wp2_with fail
              go_meet
              rw [HE.out]
              exact ⟨rfl, HS11.out⟩
            · by_cases hk1 : kd = 1
              · subst hk1
                have HE : Hid (ringAct D1 (ringPuts rs) ⟨1, nn, key⟩ = ringEnd D1 (ringPuts rs) key) := rfl
                go_wp2_with fail
                refine (ringEndS key 1000000 D1 HS10.out (by have := HKEY.out; omega) HRO.out HRM.out (by decide)).mono ?_
                rintro e w11 ⟨rfl, S⟩
                have HS11 := Lib.hid S
                clear S c9
                go_wp2_with fail
                go_meet
                rw [HE.out]
                exact ⟨rfl, HS11.out⟩
              · have HE : Hid (ringAct D1 (ringPuts rs) ⟨kd, nn, key⟩ = (D1, ringPuts rs, 12)) := by unfold ringAct; rw [if_neg hk0, if_neg hk1]; trivial
                have t0 : (kd == 0) = false := by simpa using hk0
                have t1 : (kd == 1) = false := by simpa using hk1
                clear hk0 hk1
                go_wp2_with fail
                go_meet
                rw [HE.out]
                exact ⟨rfl, HS10.out⟩
          case rest =>
            obtain ⟨rfl, S11⟩ := hcut
            have HFA := Lib.hid (@ringAct_fail D1 (ringPuts rs) ⟨kd, nn, key⟩)
            have HFU : Hid (at0 ≤ i → (ringAct D1 (ringPuts rs) ⟨kd, nn, key⟩).2.2 ≠ 0) := fun h => ringAct_full (HQ1.out h)
            obtain ⟨rs2, a1, a2, a3, a4⟩ := HA1.out.act ⟨kd, nn, key⟩ (by have := HR.out; omega)
            generalize ringAct D1 (ringPuts rs) ⟨kd, nn, key⟩ = A at *
            obtain ⟨D2, M2, ec⟩ := A
            dsimp only at *
            subst a2
            have HA2 : Hid (∃ (i2 : Nat) (D : Dk) (rs : List RRow), Value.int .i64 ((i : Int) + 1) = .int .i64 i2 ∧ i2 ≤ l.length ∧ i2 ≤ 60 ∧ AliveQ D rs ∧ rs.length ≤ i2 ∧ (at0 < i2 → D.quota ≤ 0) ∧ D2 = D ∧ rs2 = rs) :=
              ⟨i + 1, D2, rs2, by go_num, by omega, by omega, a1, by have := HR.out; omega, fun h => by rw [a4]; exact HQ1.out (by omega), rfl, rfl⟩
            have c10 := (Sp.pick [_, _, _, _] [2] (by decide) (S11)).cell
            have c11 := (Sp.pick [_, _, _, _] [3] (by decide) (S11)).cell
            have HS11 := Lib.hid S11
            clear S11 a1 a3 a4 HS9 c9
            by_cases he : ec = 0
            · have hlt0 : ¬ at0 ≤ i := fun h => HFU.out h he
              subst he
              have t1 : decide (at0 ≤ i) = false := by simpa using hlt0
              clear hlt0
              go_wp2_with fail
              go_quiet (fail)
              go_wp2_with fail
              go_roundw
              case rel =>
                obtain ⟨i2, D3, rs3, h1, h2, h3, h4, h5, h6, rfl, rfl⟩ := HA2.out
                exact ⟨i2, _, _, h1, h2, h3, h4, h5, h6, ((Sp.pick [_, _, _, _] [0, 1] (by decide) (HS11.out))).drewN _⟩
              case measure => simp [intOf]; omega
            · have hM := HFA.out he
              have hst2 : ringState (ringPuts rs2) key = ⟨a0, b0⟩ := by rw [hM]; exact HST.out
              have HST2 := Lib.hid hst2
              have te : (ec == 0) = false := by simpa using he
              have te' : (ec != 0) = true := by simpa using he
              clear hM hst2 he
              by_cases hge : at0 ≤ i
              · have t1 : decide (IntKind.i64.wrap (m.tmod 60) ≤ (i : Int)) = true := by rw [HWR.out]; simpa using hge
                go_wp2_with fail
                go_region_held3 (fun wx => Sp W [] wx (ringR p d (ringPuts rs2) :: diskR d D2 :: boxR q10 #[.int .u64 a0, .int .u64 b0] 67 :: boxR q (ActK.box ⟨kd, nn, key⟩) 75 :: []) ∧ (∀ o, wx.cell? ⟨q10, o, none⟩ = #[.int .u64 a0, .int .u64 b0][o]?) ∧ (∀ o, wx.cell? ⟨q, o, none⟩ = (ActK.box ⟨kd, nn, key⟩)[o]?)) (first | exact ⟨HS11.out.drew, c10, c11⟩ | exact ⟨S12, (Sp.pick [_, _, _, _] [2] (by decide) (S12)).cell, (Sp.pick [_, _, _, _] [3] (by decide) (S12)).cell⟩) (first | (go_at_call 33; refine (ringStateS key (by first | assumption | exact HS11.out.drew) (by have := HKEY.out; unfold maxLen; omega)).mono ?_; rw [HST2.out]; rintro e w12 ⟨rfl, S12⟩))
                clear c10 c11
                go_wp2_with fail
                go_roundw
                case rel =>
                  obtain ⟨i2, D3, rs3, h1, h2, h3, h4, h5, h6, rfl, rfl⟩ := HA2.out
                  exact ⟨i2, _, _, h1, h2, h3, h4, h5, h6, by first | exact (Sp.pick [_, _, _, _] [0, 1] (by decide) (S12)) | (rename_i hSp; exact (Sp.pick [_, _, _, _] [0, 1] (by decide) (hSp.1)))⟩
                case measure => simp [intOf]; omega
              · have t1 : decide (IntKind.i64.wrap (m.tmod 60) ≤ (i : Int)) = false := by rw [HWR.out]; simpa using hge
                go_wp2_with fail
                refine wp_region_text (S := fun wx => Sp W [] wx (ringR p d (ringPuts rs2) :: diskR d D2 :: boxR q10 #[.int .u64 a0, .int .u64 b0] 67 :: boxR q (ActK.box ⟨kd, nn, key⟩) 75 :: []) ∧ (∀ o, wx.cell? ⟨q10, o, none⟩ = #[.int .u64 a0, .int .u64 b0][o]?) ∧ (∀ o, wx.cell? ⟨q, o, none⟩ = (ActK.box ⟨kd, nn, key⟩)[o]?)) (by kernel_rfl) (by kernel_rfl) ⟨HS11.out.drew, c10, c11⟩ ?_
                clear c10 c11
                repeat
                  refine Exists.intro ?_ (And.intro (fun wS hS K hK => ?_) (And.intro ?_ ?_))
                  rotate_left 1
                  · obtain ⟨hS1, hS2, hS3⟩ := hS
                    first
                      | (refine if_unwanted rfl ?_; simp only [Act.put, List.setIfInBounds_toArray, List.set_cons_zero, List.set_cons_succ]; exact hK.out _ ⟨hS1, hS2, hS3⟩)
                      | (refine if_wanted rfl ?_; go_simp; exact hK.out _ ⟨hS1, hS2, hS3⟩)
                      | (refine if_wanted rfl ?_; go_simp; go_at_call 33; refine (ringStateS key hS1 (by have := HKEY.out; unfold maxLen; omega)).mono ?_; rw [HST2.out]; rintro e w12 ⟨rfl, S12⟩; exact hK.out _ ⟨S12, (Sp.pick [_, _, _, _] [2] (by decide) (S12)).cell, (Sp.pick [_, _, _, _] [3] (by decide) (S12)).cell⟩)
                  · rfl
                intro wE hE
                have HS12 := Lib.hid hE.1
                clear hE
                go_wp2_with fail
                go_roundw
                case rel =>
                  obtain ⟨i2, D3, rs3, h1, h2, h3, h4, h5, h6, rfl, rfl⟩ := HA2.out
                  exact ⟨i2, _, _, h1, h2, h3, h4, h5, h6, (Sp.pick [_, _, _, _] [0, 1] (by decide) (HS12.out))⟩
                case measure => simp [intOf]; omega
    · go_wp2
      all_goals (go_ret; exact ⟨rfl, HS4.out.ext⟩)
end Go.Proofs.Ytpkolkgndhagiaa
