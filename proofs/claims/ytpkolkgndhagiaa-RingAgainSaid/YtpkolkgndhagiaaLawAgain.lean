/- RingAgain: its walk: opened again a ring is the same, and nothing is done to the disk. -/
import Derived.Test.YtpkolkgndhagiaaLawFull
import Derived.Test.YtpkolkgndhagiaaSame
namespace Go.Proofs.Ytpkolkgndhagiaa
open Go.RowKit Go.Maps

theorem domains_len {w0 w : World} {F0 : List Nat} {L : List Res} {v : Value} {l : List Bs} (S : Sp w0 F0 w (textsR v l :: L)) : TextsAt w v l := by
  obtain ⟨F, ⟨_, h⟩, _⟩ := S.take
  exact h.texts
theorem Sp.same {w0 w : World} {F0 : List Nat} {L : List Res} {va vb : Value} {l m : List Bs} (S : Sp w0 F0 w (textsR vb m :: textsR va l :: L)) :
    Calls Try.prog 40 #[va, vb] w fun e w2 => e = .returned (.bool (decide (l = m))) ∧ Sp w0 F0 w2 L :=
  (same_any va vb l m w (domains_len S.pull1) (domains_len S)).mono fun _ _ ⟨he, hx⟩ => ⟨he, (Sp.pick [_, _] [] (by decide) (S.ext0 hx))⟩

set_option maxRecDepth 100000 in
set_option maxHeartbeats 4000000 in
theorem ringAgain_walk (v : Value) (l : List ActK) (x : Bs) (W : World) (hl : ActKsAt W v l) (hx : x.length ≤ maxLen) :
    Calls Try.prog 11 #[v, .string ⟨x.toArray⟩] W fun e w2 => e = .returned (.bool true) ∧ Ext [] W w2 := by
  have HS0 := Lib.hid (Sp.nil W [])
  have HAT := Lib.hid hl
  obtain ⟨a, cap, rfl, hlen, hwf, _⟩ := hl
  have HW := Lib.hid hwf
  have HLEN := Lib.hid hlen
  unfold maxLen at hlen hx
  have hlen' : (l.length : Int) ≤ 9223372036854775807 := by omega
  have hx' : (x.length : Int) ≤ 9223372036854775807 := by omega
  clear hwf hlen
  go_enter Try.func11, Try.ntmps11
  go_wp2_with fail
  refine (awake14S HS0.out).mono ?_
  rintro e w1 ⟨rfl, S⟩
  have HS1 := Lib.hid S
  clear S
  go_wp2_with fail
  refine (newS HS1.out).mono ?_
  rintro e w2 ⟨d, rfl, S⟩
  have HS2 := Lib.hid S
  clear S HS1
  go_wp2_with fail
  refine (ringOpenS 100 Dk.new HS2.out aw14_rn (by decide)).mono ?_
  rw [aw14_1]
  rintro e w3 ⟨p, rfl, S⟩
  have HS3 := Lib.hid S
  clear S HS2
  dsimp only
  by_cases hbx : 1000 < x.length
  · have hbx' : (1000 : Int) < x.length := by omega
    go_wp2
    go_ret
    exact ⟨rfl, HS3.out.ext⟩
  have HX : Hid (x.length ≤ 1000) := by unfold Hid; omega
  have hbx' : (x.length : Int) ≤ 1000 := by omega
  clear hbx hx hx'
  go_wp2_with fail
  go_loopw [8] (fun v wr => ∃ (i : Nat) (D : Dk) (rs : List RRow), v = .int .i64 i ∧ i ≤ l.length ∧ i ≤ 60 ∧ AliveQ D rs ∧ rs.length ≤ i ∧ Sp W [] wr (ringR p d (ringPuts rs) :: diskR d D :: [])) (fun v _ => 60 - (intOf v).toNat)
  case atStart => exact ⟨0, aw14a, [], rfl, by omega, by omega, aw14a_aliveQ, by simp, HS3.out⟩
  case round =>
    obtain ⟨i, D, rs, rfl, hi1, hi2, hA, hrs, S4⟩ := hrel
    have HA := Lib.hid hA
    have HR := Lib.hid hrs
    have HS4 := Lib.hid S4
    clear hA hrs S4 HS3
    by_cases hlt : i < l.length ∧ i < 60
    · obtain ⟨hlt1, hlt2⟩ := hlt
      have hlt1' : (i : Int) < l.length := by omega
      have hlt2' : (i : Int) < 60 := by omega
      have hwf := HW.out i hlt1
      have HROW : Hid (∀ w2, Ext [] W w2 → RowsAt w2 a 3 (l.map ActK.vals)) := fun w2 hx2 => by
        obtain ⟨a', cap', he, _, _, hrow⟩ := HAT.out.ext hx2
        cases he
        exact hrow
      obtain ⟨b, off, rfl⟩ := (HROW.out _ HS4.out.ext).addr (i := i) (by simpa using hlt1)
      obtain ⟨c0, c1, c2⟩ := actK_cells (HROW.out _ HS4.out.ext) i hlt1
      have HCE : Hid (∀ w2, Ext [] W w2 → w2.cell? ⟨b, off + i * 3, none⟩ = some (.int .i64 (l[i]).kind) ∧ w2.cell? ⟨b, off + i * 3 + 2, none⟩ = some (.string ⟨((l[i]).key).toArray⟩)) := fun w2 hx2 => by
        obtain ⟨e0, e1, e2⟩ := actK_cells (HROW.out w2 hx2) i hlt1
        exact ⟨e0, e2⟩
      have HXM := Lib.hid hwf.keyL
      clear hwf HROW
      generalize l[i] = y at *
      obtain ⟨kd, nn, key⟩ := y
      dsimp only at *
      go_wp2_with fail
      refine (large14S kd nn key HS4.out HXM.out).mono ?_
      rintro e w6 ⟨rfl, S⟩
      by_cases hbig : 1000 < key.length
      · have HS6 := Lib.hid S
        clear S
        have hb' : decide (1000 < key.length) = true := by simpa using hbig
        go_wp2
        go_ret
        exact ⟨rfl, HS6.out.ext⟩
      · have hb' : decide (1000 < key.length) = false := by simpa using hbig
        have HKEY : Hid (key.length ≤ 1000) := by unfold Hid; omega
        obtain ⟨d0, d2⟩ := HCE.out _ S.ext
        have HS6 := Lib.hid S
        clear S HS4 hbig c0 c1 c2 HXM HCE
        rw [hb']
        clear hb'
        have HRO := Lib.hid (HA.out.ringOk (by have := HR.out; omega))
        have HRM := Lib.hid (HA.out.roomy (by have := HR.out; omega))
        obtain ⟨rs2, a1, a2, a3, a4⟩ := HA.out.act ⟨kd, nn, key⟩ (by have := HR.out; omega)
        have HREL : Hid (∀ wr, Sp W [] wr (ringR p d (ringAct D (ringPuts rs) ⟨kd, nn, key⟩).2.1 :: diskR d (ringAct D (ringPuts rs) ⟨kd, nn, key⟩).1 :: []) → ∃ (i2 : Nat) (D : Dk) (rs : List RRow), Value.int .i64 ((i : Int) + 1) = .int .i64 i2 ∧ i2 ≤ l.length ∧ i2 ≤ 60 ∧ AliveQ D rs ∧ rs.length ≤ i2 ∧ Sp W [] wr (ringR p d (ringPuts rs) :: diskR d D :: [])) := fun wr S => by
          rw [a2] at S
          exact ⟨i + 1, _, rs2, by go_num, by omega, by omega, a1, by have := HR.out; omega, S⟩
        clear a1 a2 a3 a4
        by_cases hk0 : kd = 0
        · subst hk0
          go_wp2_with fail
          refine (ringBeginS key 1000000 D HS6.out (by have := HKEY.out; omega) HRO.out HRM.out (by decide)).mono ?_
          rintro e w7 ⟨rfl, S⟩
          have HS7 := Lib.hid S
          clear S HS6 d0 d2
          go_wp2_with fail
          go_roundw
          case rel => exact HREL.out _ HS7.out
          case measure => simp [intOf]; omega
        · by_cases hk1 : kd = 1
          · subst hk1
            go_wp2_with fail
            refine (ringEndS key 1000000 D HS6.out (by have := HKEY.out; omega) HRO.out HRM.out (by decide)).mono ?_
            rintro e w7 ⟨rfl, S⟩
            have HS7 := Lib.hid S
            clear S HS6 d0 d2
            go_wp2_with fail
            go_roundw
            case rel => exact HREL.out _ HS7.out
            case measure => simp [intOf]; omega
          · have HE : Hid (ringAct D (ringPuts rs) ⟨kd, nn, key⟩ = (D, ringPuts rs, 12)) := by unfold ringAct; rw [if_neg hk0, if_neg hk1]; trivial
            have t0 : (kd == 0) = false := by simpa using hk0
            have t1 : (kd == 1) = false := by simpa using hk1
            clear hk0 hk1
            go_wp2_with fail
            go_roundw
            case rel => exact HREL.out _ (by rw [HE.out]; exact HS6.out)
            case measure => simp [intOf]; omega
    · clear HAT HW
      have hrn : rs.length ≤ 60 := by have := HR.out; omega
      have HRM := Lib.hid (HA.out.roomy (by omega))
      have HRO := Lib.hid (HA.out.ringOk (by omega))
      have HOP := Lib.hid HA.out.rd.open
      rw [List.append_nil] at HOP
      have htr : (D.trace.length : Int) ≤ 1000 := by have := HA.out.trace; omega
      go_wp2_with fail
      all_goals
        refine (traceS HS4.out.pull1 (by have := HRM.out.trace; omega)).mono ?_
        rintro e w5 ⟨ta, tc, rfl, S⟩
        have HS5 := Lib.hid S
        clear S HS4
        go_wp2_with fail
        go_loopw [10] (fun v wr => ∃ j : Nat, v = .int .i64 j ∧ j ≤ 3 ∧ Sp W [] wr (diskR d D :: ringR p d (ringPuts rs) :: [])) (fun v _ => 3 - (intOf v).toNat)
        case atStart => exact ⟨0, rfl, by omega, HS5.out⟩
        case round =>
          obtain ⟨j, rfl, hj, S6⟩ := hrel
          have HS6 := Lib.hid S6
          clear S6 HS5
          by_cases hj3 : j < 3
          · go_wp2_with fail
            refine (ringOpenS 1000000 D HS6.out HRM.out (by decide)).mono ?_
            rw [HOP.out]
            rintro e w7 ⟨p2, rfl, S⟩
            have HS7 := Lib.hid S.pull1
            clear S
            dsimp only
            go_wp2_with fail
            refine (traceS HS7.out (by have := HRM.out.trace; omega)).mono ?_
            rintro e w8 ⟨ta2, tc2, rfl, S⟩
            have HS8 := Lib.hid S
            clear S HS7
            have HS8b := Lib.hid HS8.out.pull1
            obtain ⟨⟨sa, sb⟩, hst⟩ : ∃ s, ringState (ringPuts rs) x = s := ⟨_, rfl⟩
            have HST := Lib.hid hst
            clear hst
            go_wp2_with fail
            refine (ringStateS x HS8b.out (by have := HX.out; unfold maxLen; omega)).mono ?_
            rw [HST.out]
            rintro e w9 ⟨rfl, S⟩
            have HS9 := Lib.hid S
            clear S HS8
            have HS9b := Lib.hid HS9.out.pull2
            clear HS8b
            dsimp only
            go_wp2_with fail
            refine (ringStateS x HS9b.out (by have := HX.out; unfold maxLen; omega)).mono ?_
            rw [HST.out]
            rintro e w10 ⟨rfl, S⟩
            have HS10 := Lib.hid S
            clear S HS9
            have HS10b := Lib.hid HS10.out.pull1
            clear HS9b
            dsimp only
            go_wp2_with fail
            refine (ringDomainsS HS10b.out (by have := HRO.out.1; omega)).mono ?_
            rintro e w11 ⟨v1, rfl, S⟩
            have HS11 := Lib.hid S
            clear S HS10
            have HS11b := Lib.hid HS11.out.pull2
            clear HS10b
            go_wp2_with fail
            refine (ringDomainsS HS11b.out (by have := HRO.out.1; omega)).mono ?_
            rintro e w12 ⟨v2, rfl, S⟩
            have HS12 := Lib.hid S
            clear S HS11
            have HS12b := Lib.hid (Sp.pick [_, _, _] [0, 2, 1] (by decide) (HS12.out))
            clear HS11b
            go_wp2_with fail
            refine (Sp.same HS12b.out).mono ?_
            rw [show decide (ringDomains (ringPuts rs) = ringDomains (ringPuts rs)) = true by simp]
            rintro e w13 ⟨rfl, S⟩
            have HS13 := Lib.hid S
            clear S HS12
            clear HS12b
            go_wp2_with fail
            go_roundw
            case rel => exact ⟨j + 1, by go_num, by omega, (Sp.pick [_, _, _] [2, 0] (by decide) (HS13.out))⟩
            case measure => simp [intOf]; omega
          · go_wp2
            go_ret
            exact ⟨rfl, HS6.out.ext⟩
end Go.Proofs.Ytpkolkgndhagiaa
