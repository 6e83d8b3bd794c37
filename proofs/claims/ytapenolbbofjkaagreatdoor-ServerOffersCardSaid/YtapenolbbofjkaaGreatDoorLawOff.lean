/- ServerOffers: its walk, with the plain law. Conditions: what Go's variables hold; the arguments fit. -/
import Derived.Test.YtapenolbbofjkaaGreatDoorAw21d
import Derived.Test.YtapenolbbofjkaaGreatDoorLw21
import Derived.Test.YtapenolbbofjkaaGreatDoorActT
set_option linter.unusedSimpArgs false
set_option linter.unusedVariables false
set_option linter.unnecessarySimpa false
namespace Go.Proofs.YtapenolbbofjkaaGreatDoor
open Go.RowKit Go.Maps

theorem say_came (s : Sv) (c : Int) : (s.say c).came = s.came := by
  unfold Sv.say
  dsimp only
  generalize (if 500 ≤ c then s.errs + 1 else s.errs) = n
  split <;> rfl
theorem next_empty {s : Sv} (h : s.next.1 = none) : s.next.2.queue = [] := by
  unfold Sv.next at h ⊢
  split
  · rename_i hq
    exact hq
  · rename_i x q hq
    rw [hq] at h
    cases h
theorem verdict_kept (s : Sv) (e : Int) : (s.verdict e).came = s.came := by
  have := verdict_core e s.core s.came s.queue
  rw [show s.verdict e = (s.core.sv s.came s.queue).verdict e from rfl, this]
  rfl
section
variable {w0 w w2 : World} {F0 : List Nat} {L : List Res} {p : Nat} {s : Sv} {K : List Rom} {v : Value}
theorem QEv.in.boxes {q : QEv} (h : q.in K) (A : SvAt w0 L p s K w) : BxsAt w q.2.2 q.1.rcs := by
  obtain ⟨X, hX, S⟩ := A
  have S2 := (Sp.pick [_, _, _, _, _, _] [5] (by decide) (S))
  rcases h.2 with ⟨h1, h2⟩ | h
  · rw [h1, h2]
    exact ⟨none, 0, rfl, .inl rfl⟩
  · exact S2.romBxs h
set_option maxRecDepth 100000 in
set_option maxHeartbeats 16000000 in
theorem serverOffers_walk (host : Bs) (most : Int) (rv bv : Value) (rl : List Rl) (bl : List Mb) (v : Value) (l : List Bs) (ev : Int) (w : World) (E : Env w) (hh : host.length ≤ maxLen) (hm : -9223372036854775808 ≤ most ∧ most ≤ 9223372036854775807) (R : RlsArg w rv rl) (B : BxsArg w bv bl) (T : TextsAt w v l) (hev : -9223372036854775808 ≤ ev ∧ ev ≤ 9223372036854775807) :
    Calls Tryz.prog 5 #[.agg #[.string ⟨host.toArray⟩, .int .i64 most, rv, bv], v, .int .i64 ev] w fun e w2 => e = .returned (.bool true) ∧ Ext [] w w2 := by
  have HE := Lib.hid E
  have HT := Lib.hid T
  have HEV := Lib.hid hev
  have HM := Lib.hid hm
  have HLG := Lib.hid (fun (W : World) (hx : Ext [] w W) => large21_any (w := W) host most rv bv rl bl hh ⟨R.1.ext hx, R.2⟩ ⟨B.1.ext hx, B.2⟩)
  have HR := Lib.hid R
  have HB := Lib.hid B
  have HFR : ∃ a c, v = .slice a l.length c ∧ (l.length : Int) ≤ 9223372036854775807 := by
    obtain ⟨a, c, h1, ⟨h2, h3⟩, _⟩ := T.1
    exact ⟨a, c, h1, by unfold maxLen at h3; omega⟩
  obtain ⟨va, vc, rfl, hln⟩ := HFR
  have HS0 := Lib.hid ((Sp.nil w []).box #[.string ⟨host.toArray⟩, .int .i64 most, rv, bv] 31)
  obtain ⟨ba, bc, rfl⟩ := B.1.form
  obtain ⟨ra, rc, rfl⟩ := R.1.form
  clear E T hev R B hh hm
  go_enter Tryz.func5, Tryz.ntmps5
  go_upto_region 1 with (fail)
  generalize w.alloc _ = w1 at *
  generalize w.heap.size = q at *
  go_wp2_with fail
  refine (awake21S HS0.out HE.out).mono ?_
  rintro e w2 ⟨rfl, S2⟩
  have HS2 := Lib.hid S2
  have c2 := S2.cell
  clear S2 HS0
  go_wp2_with fail
  refine (HLG.out w2 HS2.out.ext).mono ?_
  rintro e w3 ⟨r, rfl, hx3, hfit⟩
  have HS3 := Lib.hid (HS2.out.ext0 hx3)
  have c3 := HS3.out.cell
  clear hx3 HS2 c2 HLG
  cases r with
  | true =>
    go_wp2
    go_ret
    exact ⟨rfl, HS3.out.ext⟩
  | false =>
    obtain ⟨f1, f2, f3, f4, f5⟩ := hfit rfl
    have HRF : Hid (∀ r ∈ rl, r.Fit) := fun r hr => by
      have h1 := f4 r hr
      have h2 := HR.out.2.2 r hr
      exact ⟨by omega, h2.kind.1, h2.kind.2, h2.host.1, h2.host.2⟩
    have HBF : Hid (∀ x ∈ bl, x.1.length ≤ 1000000 ∧ x.2.length ≤ 1000000) := fun x hx => by
      have := f5 x hx
      omega
    have HNEW := Lib.hid (svNewS host most _ _ rl bl (by omega) HM.out (by omega) HRF.out (by omega) HBF.out (fun W S' => HR.out.1.ext S'.ext) (fun W S' => HB.out.1.ext S'.ext) HS3.out HE.out)
    have HMAY := Lib.hid (fun (W : World) (S' : Sp w [] W [boxR q #[.string ⟨host.toArray⟩, .int .i64 most, .slice ra rl.length rc, .slice ba bl.length bc] 31]) => svMayS host most _ _ rl bl (by omega) HM.out (by omega) HRF.out (by omega) HBF.out (fun W S' => HR.out.1.ext S'.ext) (fun W S' => HB.out.1.ext S'.ext) S' HE.out)
    have HTKN := Lib.hid (fun (W : World) (xv : Value) (xs : List Mb) (hx : Ext [] w W) (X : BxsAt W xv xs) (hl : xs.length ≤ 1000) (ht : ∀ b ∈ xs, Cf.taken ⟨host, most.toNat, rl, bl⟩ b = true) (ho : xs.Nodup) => taken21_any (w := W) host most (.slice ra rl.length rc) (.slice ba bl.length bc) xv ⟨host, most.toNat, rl, bl⟩ xs HRF.out (by show rl.length ≤ 1000; omega) (by show bl.length ≤ 1000; omega) (HR.out.1.ext hx) (HB.out.1.ext hx) X hl (fun b hb => taken_len (ht b hb)) ht ho (HE.out.ext hx))
    have HMP : Hid (cfMay host most rl bl = true → 1 ≤ most ∧ most ≤ 15000) := fun h => by
      unfold cfMay at h
      simp only [Bool.and_eq_true, decide_eq_true_eq] at h
      exact ⟨h.2.1, h.2.2.1⟩
    have HCF : Hid (most ≤ 15000 → (⟨host, most.toNat, rl, bl⟩ : Cf).Fit) := fun h => ⟨by show host.length ≤ 1000; omega, by show most.toNat ≤ 15000; omega, by show rl.length ≤ 1000; omega, HRF.out, by show bl.length ≤ 1000; omega⟩
    clear hfit f1 f2 f3 f4 f5
    go_wp2_with fail
    refine HNEW.out.mono ?_
    intro e w4 hnew
    unfold NewTo at hnew
    cases hmay : cfMay host most rl bl with
    | false =>
      rw [hmay, if_neg (by decide)] at hnew
      rw [hmay] at HMAY
      obtain ⟨rfl, S4⟩ := hnew
      have HS4 := Lib.hid S4
      have c4 := S4.cell
      clear S4 HNEW HS3 c3
      go_wp2_with fail
      refine (HMAY.out _ HS4.out).mono ?_
      rintro e w5 ⟨rfl, S5⟩
      have HS5 := Lib.hid S5
      clear S5 HMAY
      go_wp2
      go_ret
      exact ⟨rfl, HS5.out.ext⟩
    | true =>
      rw [hmay, if_pos rfl] at hnew
      obtain ⟨p, K, rfl, A4⟩ := hnew
      have HA4 := Lib.hid A4
      obtain ⟨hm1, hm2⟩ := HMP.out hmay
      have HMN : Hid ((most.toNat : Int) = most) := by unfold Hid; omega
      have HCFT := Lib.hid (HCF.out hm2)
      have HCE : Hid ((⟨host, most.toNat, rl, bl⟩ : Cf).most = most.toNat) := rfl
      generalize hcf : (⟨host, most.toNat, rl, bl⟩ : Cf) = cf at *
      clear A4 HNEW HS3 c3 HMAY HRF HBF HMP HCF hmay hcf
      go_upto_region 9 with (fail)
      go_loopw [9] (fun vi wr => ∃ (n : Nat) (s : Sv) (K' : List Rom), vi = .int .i64 n ∧ n ≤ 60 ∧ n ≤ l.length ∧ OfS s ∧ s.Sane ∧ s.c = cf ∧ s.came.length ≤ n * 2000 ∧ SvAt w [boxR q #[.string ⟨host.toArray⟩, .int .i64 most, .slice ra rl.length rc, .slice ba bl.length bc] 31] p s K' wr) (fun vi _ => 60 - (intOf vi).toNat)
      case atStart => exact ⟨0, svNew cf, K, rfl, Nat.zero_le _, Nat.zero_le _, of_new cf, sane_new HCFT.out, new_cf cf, by unfold svNew; rw [say_came]; exact Nat.le_refl _, HA4.out⟩
      case round =>
        clear HA4
        obtain ⟨n, s, K', rfl, hn, hnl, hof, hsn, hcf, hcm, A⟩ := hrel
        have HOF := Lib.hid hof
        have HSN := Lib.hid hsn
        have HCF := Lib.hid hcf
        have HCM := Lib.hid hcm
        have HA := Lib.hid A
        clear hof hsn hcf hcm A
        have hni : (n : Int) ≤ 60 := by omega
        by_cases hlt : n < 60 ∧ n < l.length
        · obtain ⟨h60, hlt⟩ := hlt
          have h60' : (n : Int) < 60 := by omega
          have hlt' : (n : Int) < l.length := by omega
          obtain ⟨tb, toff, rfl, ck⟩ := (HT.out.1.ext HA.out.sp.ext).at hlt
          have HBL : Hid (l[n].length ≤ maxLen) := HT.out.2 _ (List.getElem_mem hlt)
          generalize l[n] = b at *
          have hbm : (b.length : Int) ≤ 9223372036854775807 := by have := HBL.out; unfold maxLen at this; omega
          by_cases hb2 : 2000 < b.length
          · have hb2' : (2000 : Int) < b.length := by omega
            go_wp2
            go_ret
            exact ⟨rfl, HA.out.sp.ext⟩
          · have hb2' : (b.length : Int) ≤ 2000 := by omega
            have HADD := Lib.hid (svAddS b (by have := HCM.out; omega) HSN.out.phase HA.out)
            have HSN1 := Lib.hid (sane_add HSN.out b)
            have HOF1 := Lib.hid (of_add HOF.out b)
            have HCF1 : Hid ((s.add b).c = cf) := (add_cf s b).trans HCF.out
            have HCM1 : Hid ((s.add b).came.length ≤ (n + 1) * 2000) := by
              have := HCM.out
              unfold Hid Sv.add
              split
              · omega
              · show (s.came ++ b).length ≤ _
                rw [List.length_append]
                omega
            clear HOF HCF HSN HCM HA
            generalize s.add b = s1 at *
            go_wp2_with fail
            refine HADD.out.mono ?_
            rintro e w5 ⟨rfl, A5⟩
            have HA5 := Lib.hid A5
            clear A5 HADD ck
            go_upto_region 15 with (fail)
            go_loopw [10] (fun vk wr2 => ∃ (k : Nat) (t : Sv) (K2 : List Rom), vk = .int .i64 k ∧ k ≤ 3000 ∧ OfS t ∧ t.Sane ∧ t.c = cf ∧ t.came.length ≤ (n + 1) * 2000 ∧ SvAt w [boxR q #[.string ⟨host.toArray⟩, .int .i64 most, .slice ra rl.length rc, .slice ba bl.length bc] 31] p t K2 wr2) (fun vk _ => 3000 - (intOf vk).toNat)
            case atStart => exact ⟨0, s1, K', rfl, Nat.zero_le _, HOF1.out, HSN1.out, HCF1.out, HCM1.out, HA5.out⟩
            case round =>
              clear HA5 HSN1 HOF1 HCF1 HCM1
              obtain ⟨k, t, K2, rfl, hk, hof, hsn, hcf, hcm, A⟩ := hrel
              have HOF := Lib.hid hof
              have HSN := Lib.hid hsn
              have HCF := Lib.hid hcf
              have HCM := Lib.hid hcm
              have HA := Lib.hid A
              clear hof hsn hcf hcm A
              have hki : (k : Int) ≤ 3000 := by omega
              by_cases hk3 : k < 3000
              · have hk3' : (k : Int) < 3000 := by omega
                go_wp2_with fail
                refine (svNextS HSN.out (by have := HCM.out; omega) HE.out HA.out).mono ?_
                rintro e w7 hnx
                have HON := Lib.hid (of_next HOF.out HSN.out)
                have HSN2 := Lib.hid (sane_next HSN.out)
                have HCF2 : Hid (t.next.2.c = cf) := (next_cf t).trans HCF.out
                have HCM2 : Hid (t.next.2.came.length ≤ (n + 1) * 2000) := Nat.le_trans (next_came t) HCM.out
                obtain ⟨K7, hk7, A7, ⟨hn0, rfl⟩ | ⟨x, xa, xn, xc, ya, yn, yc, hn0, hix, rfl⟩⟩ := hnx.cases
                · have HA8 : Hid (SvAt w [boxR q #[.string ⟨host.toArray⟩, .int .i64 most, .slice ra rl.length rc, .slice ba bl.length bc] 31] p t.next.2 K7 (w7.alloc (.cells zeroEv 39))) := A7.ext0 ((Ext.refl [] w7).alloc _)
                  have HPH := Lib.hid (svPhaseS HA8.out)
                  by_cases h2 : t.next.2.phase = 2
                  · have HSN3 := Lib.hid (sane_verdict HSN2.out (next_empty hn0) ev)
                    have HOF3 := Lib.hid (of_verdict HON.out.1 (next_empty hn0) ev)
                    have HCF3 : Hid ((t.next.2.verdict ev).c = cf) := (verdict_cf _ _).trans HCF2.out
                    have HCM3 : Hid ((t.next.2.verdict ev).came.length ≤ (n + 1) * 2000) := by unfold Hid; rw [verdict_kept]; exact HCM2.out
                    have HVD := Lib.hid (svVerdictS ev HEV.out HSN2.out.good HSN2.out.phase HA8.out)
                    rw [h2] at HPH
                    generalize t.next.2.verdict ev = t3 at *
                    clear hn0 hnx A7 h2 HA8 HA HON HOF HSN HCF HCM HSN2 HCF2 HCM2
                    unfold zeroEv at *
                    go_wp2_with fail
                    refine HPH.out.mono ?_
                    rintro e w8 ⟨rfl, rfl⟩
                    go_wp2_with fail
                    refine HVD.out.mono ?_
                    rintro e w9 ⟨rfl, K9, _, A9⟩
                    have HA9 := Lib.hid A9
                    clear A9 HVD HPH
                    go_wp2_with fail
                    go_roundw
                    case rel => exact ⟨k + 1, t3, K9, by go_num, by omega, HOF3.out, HSN3.out, HCF3.out, HCM3.out, HA9.out⟩
                    case measure => simp [intOf]; omega
                  · have h2' : ((t.next.2.phase : Int) == 2) = false := by simp; omega
                    have HOF2 := Lib.hid HON.out.1
                    clear hn0 hnx A7 h2 HA HON HOF HSN HCF HCM
                    unfold zeroEv at *
                    generalize t.next.2 = t2 at *
                    go_wp2_with fail
                    refine HPH.out.mono ?_
                    rintro e w8 ⟨rfl, rfl⟩
                    go_wp2_with fail
                    go_roundw
                    case rel => exact ⟨n + 1, t2, K7, by go_num, by omega, by omega, HOF2.out, HSN2.out, HCF2.out, HCM2.out, HA8.out⟩
                    case measure => simp [intOf]; omega
                · have HOF2 := Lib.hid HON.out.1
                  have HOK := Lib.hid (HON.out.2 x hn0)
                  have HIX := Lib.hid hix
                  generalize t.next.2 = t2 at *
                  have HA8 := Lib.hid (A7.box #[.int .i64 x.kind, .int .i64 x.code, .slice xa xn xc, .string ⟨x.text.toArray⟩, .string ⟨x.frm.1.toArray⟩, .string ⟨x.frm.2.toArray⟩, .slice ya yn yc, .string ⟨x.body.toArray⟩] 39)
                  clear A7 hn0 hnx hk7 hix HA HON HOF HSN HCF HCM
                  unfold evAgg
                  go_upto_region 18 with (fail)
                  generalize w7.alloc _ = w8 at *
                  generalize w7.heap.size = g8 at *
                  obtain ⟨cg, fg, lg⟩ := HA8.out.boxCell
                  by_cases hk1 : x.kind = 1
                  · obtain ⟨hp2, hob, ho1, hof, hot, hon⟩ := HOK.out hk1
                    rw [HCF2.out, HCE.out] at hob
                    have hbi : (x.body.length : Int) ≤ most := by have := HMN.out; omega
                    have HBX := HIX.out.boxes HA8.out
                    obtain ⟨_, _, hyf⟩ := HBX.form
                    dsimp only at hyf
                    simp only [Value.slice.injEq] at hyf
                    obtain ⟨rfl, rfl, rfl⟩ := hyf
                    have HTK := Lib.hid (HTKN.out w8 _ x.rcs HA8.out.sp.ext HBX (by omega) (by rw [← HCF2.out]; exact hot) hon)
                    have hl1 : (1 : Int) ≤ x.rcs.length := by omega
                    have hl2 : (x.rcs.length : Int) ≤ 10 := by omega
                    have HPH := Lib.hid (svPhaseS HA8.out)
                    rw [hp2] at HPH
                    rw [hk1] at cg
                    have cq : ∀ o, w8.cell? ⟨q, o, none⟩ = (#[.string ⟨host.toArray⟩, .int .i64 most, .slice ra rl.length rc, .slice ba bl.length bc] : Array Value)[o]? := by
                      obtain ⟨X, hX, S⟩ := HA8.out
                      exact ((Sp.pick [_, _, _, _, _, _, _, _] [7] (by decide) (S))).cell
                    clear hob ho1 hof hot hon hk1 HBX hp2
                    go_wp2_with fail
                    refine HPH.out.mono ?_
                    rintro e w9 ⟨rfl, rfl⟩
                    go_wp2_with fail
                    refine HTK.out.mono ?_
                    rintro e w10 ⟨rfl, hx10⟩
                    have HA10 := Lib.hid (HA8.out.drop.ext0 hx10)
                    clear hx10 HTK HPH
                    go_wp2_with fail
                    go_roundw
                    case rel => exact ⟨k + 1, t2, K7, by go_num, by omega, HOF2.out, HSN2.out, HCF2.out, HCM2.out, HA10.out⟩
                    case measure => simp [intOf]; omega
                  · have hk1' : (x.kind == 1) = false := by simpa using hk1
                    clear hk1
                    go_wp2_with fail
                    go_roundw
                    case rel => exact ⟨k + 1, t2, K7, by go_num, by omega, HOF2.out, HSN2.out, HCF2.out, HCM2.out, HA8.out.drop⟩
                    case measure => simp [intOf]; omega
              · go_wp2_with fail
                go_roundw
                case rel => exact ⟨n + 1, t, K2, by go_num, by omega, by omega, HOF.out, HSN.out, HCF.out, HCM.out, HA.out⟩
                case measure => simp [intOf]; omega
        · have HZ := Lib.hid HA.out.sp.ext
          by_cases h60 : n < 60
          · have h60' : (n : Int) < 60 := by omega
            have hlt' : ¬ (n : Int) < l.length := by omega
            go_wp2
            go_ret
            exact ⟨rfl, HZ.out⟩
          · have h60' : ¬ (n : Int) < 60 := by omega
            go_wp2
            all_goals
              go_ret
              exact ⟨rfl, HZ.out⟩
end
end Go.Proofs.YtapenolbbofjkaaGreatDoor
