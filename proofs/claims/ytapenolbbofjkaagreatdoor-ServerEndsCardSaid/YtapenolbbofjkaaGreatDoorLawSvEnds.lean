/- ServerEnds: its walk, with the plain law. Conditions: what Go's variables hold; the arguments fit. -/
import Derived.Test.YtapenolbbofjkaaGreatDoorAw21d
import Derived.Test.YtapenolbbofjkaaGreatDoorActT
set_option linter.unusedSimpArgs false
set_option linter.unusedVariables false
set_option linter.unnecessarySimpa false
namespace Go.Proofs.YtapenolbbofjkaaGreatDoor
open Go.RowKit Go.Maps

theorem judge_cases {j : Nat × Bool} {x : Ev} {j2 : Nat × Bool} (h : judge j x = some j2) : j.2 = false ∧ ((x.kind = 2 ∧ j2 = (j.1, true)) ∨ (x.kind ≠ 2 ∧ x.kind ≠ 0 ∧ j2 = j) ∨
    (x.kind = 0 ∧ (rpLines x.code x.lines).2 = 0 ∧ fitsE x.lines = true ∧ ¬ 10 ≤ (if 500 ≤ x.code then j.1 + 1 else j.1) ∧ (x.code = 421 → (if 500 ≤ x.code then j.1 + 1 else j.1) = 9) ∧ j2 = (if 500 ≤ x.code then j.1 + 1 else j.1, false))) := by
  unfold judge at h
  by_cases h1 : j.2 = true
  · rw [if_pos h1] at h; cases h
  · rw [if_neg h1] at h
    refine ⟨by simpa using h1, ?_⟩
    by_cases h2 : x.kind = 2
    · rw [if_pos h2] at h
      cases h
      exact .inl ⟨h2, rfl⟩
    · rw [if_neg h2] at h
      by_cases h3 : x.kind ≠ 0
      · rw [if_pos h3] at h
        cases h
        exact .inr (.inl ⟨h2, h3, rfl⟩)
      · rw [if_neg h3] at h
        by_cases h4 : (rpLines x.code x.lines).2 ≠ 0 ∨ fitsE x.lines = false
        · rw [if_pos h4] at h; cases h
        · rw [if_neg h4] at h
          by_cases h5 : 10 ≤ (if 500 ≤ x.code then j.1 + 1 else j.1) ∨ (x.code = 421 ∧ (if 500 ≤ x.code then j.1 + 1 else j.1) ≠ 9)
          · rw [if_pos h5] at h; cases h
          · rw [if_neg h5] at h
            cases h
            refine .inr (.inr ⟨by simpa using h3, ?_, ?_, fun h6 => h5 (.inl h6), fun h6 => ?_, rfl⟩)
            · apply Classical.byContradiction
              intro h6
              exact h4 (.inl h6)
            · cases hf : fitsE x.lines with
              | true => rfl
              | false => exact absurd (.inr hf) h4
            · apply Classical.byContradiction
              intro h7
              exact h5 (.inr ⟨h6, h7⟩)
theorem drain_some {e : Int} {n : Nat} {s : Sv} {x : Ev} (h : s.next.1 = some x) : Sv.drain e (n + 1) s = (x :: (Sv.drain e n s.next.2).1, (Sv.drain e n s.next.2).2) := by
  conv => lhs; unfold Sv.drain
  generalize s.next = q at *
  obtain ⟨y, t⟩ := q
  dsimp only at h
  subst h
  rfl
theorem drain_stop {e : Int} {n : Nat} {s : Sv} (h : s.next.1 = none) (h2 : s.next.2.phase ≠ 2) : Sv.drain e (n + 1) s = ([], s.next.2) := by
  unfold Sv.drain
  generalize s.next = q at *
  obtain ⟨y, t⟩ := q
  dsimp only at h h2
  subst h
  dsimp only
  rw [if_neg h2]
theorem drain_wait {e : Int} {n : Nat} {s : Sv} (h : s.next.1 = none) (h2 : s.next.2.phase = 2) : Sv.drain e (n + 1) s = Sv.drain e n (s.next.2.verdict e) := by
  conv => lhs; unfold Sv.drain
  generalize s.next = q at *
  obtain ⟨y, t⟩ := q
  dsimp only at h h2
  subst h
  dsimp only
  rw [if_pos h2]
theorem next_queue {s : Sv} (h : s.next.1 = none) : s.next.2.queue = [] := by
  unfold Sv.next at h ⊢
  split
  · rename_i hq
    exact hq
  · rename_i x q hq
    rw [hq] at h
    cases h
theorem verdict_came (s : Sv) (e : Int) : (s.verdict e).came = s.came := by
  have := verdict_core e s.core s.came s.queue
  rw [show s.verdict e = (s.core.sv s.came s.queue).verdict e from rfl, this]
  rfl
section
variable {w0 w w2 : World} {F0 : List Nat} {L : List Res} {p : Nat} {s : Sv} {K : List Rom} {v : Value}
theorem Sp.romTx {l : List Bs} (S : Sp w0 F0 w (romR K :: L)) (h : l = [] ∧ v = .slice none 0 0 ∨ (⟨v, 1, txRows l⟩ : Rom) ∈ K) : TxAt w v l := by
  rcases h with ⟨rfl, rfl⟩ | h
  · exact TxAt.nil w
  · obtain ⟨F, a, cap, h1, h2, h3, h4⟩ := S.rom h
    have e1 : (txRows l).length = l.length := by simp [txRows]
    dsimp only at h1 h2 h4
    rw [e1] at h1 h2
    refine ⟨a, cap, h1, ⟨h2, h3⟩, ?_⟩
    rcases h4 with h4 | ⟨b, off, h5, _, _, h6⟩
    · left
      exact List.eq_nil_of_length_eq_zero (by rw [← e1, h4]; rfl)
    · refine .inr ⟨b, off, h5, fun i hi => ?_⟩
      have := h6 i [.string ⟨l[i].toArray⟩] 0 (.string ⟨l[i].toArray⟩) (by simp [txRows, hi]) rfl
      rw [Nat.mul_one, Nat.add_zero] at this
      exact this
theorem fitsE_spec {l : List Bs} (h : fitsE l = true) : l.length ≤ 10 ∧ ∀ s ∈ l, s.length ≤ 1000 := by
  unfold fitsE at h
  simp only [Bool.and_eq_true, decide_eq_true_eq, List.all_eq_true] at h
  exact h
/-- A reply's lines may be: told so. -/
theorem SvAt.lines {x : Ev} {xa ya : Option Addr} {xn xc yn yc : Nat} (A : SvAt w0 L p s K w) (hin : QEv.in K (x, .slice xa xn xc, .slice ya yn yc)) (h : (rpLines x.code x.lines).2 = 0) (hf : fitsE x.lines = true) (E : Env w0) :
    Calls Tryz.prog 25 #[.agg #[.int .i64 x.code, .slice xa xn xc]] w fun e w2 => ∃ v2, e = .returned (.tuple #[v2, .int .i64 0]) ∧ SvAt w0 L p s K w2 := by
  obtain ⟨X, hX, S⟩ := A
  obtain ⟨f1, f2⟩ := fitsE_spec hf
  have hc : 200 ≤ x.code ∧ x.code ≤ 599 := by
    have h2 : rpLines x.code x.lines = ((rpLines x.code x.lines).1, 0) := by rw [← h]
    exact class_range (rpLines_ok h2).1
  have T := ((Sp.pick [_, _, _, _, _, _] [5] (by decide) (S))).romTx hin.1
  refine (linesSp x.code (by omega) (by omega) x.lines (by omega) (fun s hs => by have := f2 s hs; omega) T (E.sp S) S).mono ?_
  rw [h]
  rintro e w2 ⟨v2, rfl, S2⟩
  exact ⟨v2, rfl, X, hX, S2.drop⟩
theorem ends_new : EndS (svNew cfS) (0, false) := by
  refine ⟨⟨rfl, by decide, fun _ => ⟨by decide, by decide, rfl⟩, fun h => by cases h⟩, .inr ⟨by kernel_rfl, rfl⟩, by decide⟩
set_option maxRecDepth 100000 in
set_option maxHeartbeats 8000000 in
theorem serverEnds_walk (v : Value) (l : List Bs) (w : World) (E : Env w) (T : TextsAt w v l) : Calls Tryz.prog 6 #[v] w fun e w2 => e = .returned (.bool true) ∧ Ext [] w w2 := by
  have HE := Lib.hid E
  have HT := Lib.hid T
  have HS0 := Lib.hid (Sp.nil w [])
  have HFR : ∃ a c, v = .slice a l.length c ∧ (l.length : Int) ≤ 9223372036854775807 := by
    obtain ⟨a, c, h1, ⟨h2, h3⟩, _⟩ := T.1
    exact ⟨a, c, h1, by unfold maxLen at h3; omega⟩
  obtain ⟨va, vc, rfl, hln⟩ := HFR
  clear E T
  go_enter Tryz.func6, Tryz.ntmps6
  go_wp2_with fail
  refine (awake21S HS0.out HE.out).mono ?_
  rintro e w1 ⟨rfl, S1⟩
  have HS1 := Lib.hid S1
  clear S1
  go_wp2_with fail
  refine (small21S HS1.out).mono ?_
  rintro e w3 ⟨b1, b2, rfl, S3⟩
  have HS3 := Lib.hid S3
  clear S3 HS1
  go_wp2_with fail
  refine (newSmallS HS3.out HE.out).mono ?_
  rintro e w4 ⟨p, K, rfl, A4⟩
  have HA4 := Lib.hid A4
  clear A4 HS3
  go_upto_region 8 with (fail)
  go_loopw [5, 6, 7] (fun vbad vover vi wr => ∃ (n bad : Nat) (over : Bool) (s : Sv) (K' : List Rom), vbad = .int .i64 bad ∧ vover = .bool over ∧ vi = .int .i64 n ∧ n ≤ 60 ∧ n ≤ l.length ∧ bad ≤ 9 ∧ EndS s (bad, over) ∧ (s.phase ≠ 3 → (crR s.came).1 = []) ∧ s.Sane ∧ s.came.length ≤ n * 2000 ∧ SvAt w [] p s K' wr) (fun _ _ vi _ => 60 - (intOf vi).toNat)
  case atStart => exact ⟨0, 0, false, svNew cfS, K, rfl, rfl, rfl, Nat.zero_le _, Nat.zero_le _, Nat.zero_le _, ends_new, fun _ => rfl, sane_new cfS_fit, Nat.le_refl _, HA4.out⟩
  case round =>
    clear HA4
    obtain ⟨n, bad, over, s, K', rfl, rfl, rfl, hn, hnl, hbad, hends, hcr, hsn, hcm, A⟩ := hrel
    have HENDS := Lib.hid hends
    have HCR := Lib.hid hcr
    have HSN := Lib.hid hsn
    have HCM := Lib.hid hcm
    have HA := Lib.hid A
    clear hends hcr hsn hcm A
    have hni : (n : Int) ≤ 60 := by omega
    by_cases hlt : n < 60 ∧ n < l.length
    · obtain ⟨h60, hlt⟩ := hlt
      have h60' : (n : Int) < 60 := by omega
      have hlt' : (n : Int) < l.length := by omega
      obtain ⟨tb, toff, rfl, ck⟩ := (HT.out.1.ext HA.out.sp.ext).at hlt
      have HBL : Hid (l[n].length ≤ maxLen) := HT.out.2 _ (List.getElem_mem hlt)
      generalize l[n] = b at *
      have hbm : (b.length : Int) ≤ 9223372036854775807 := by have := HBL.out; unfold maxLen at this; omega
      by_cases hb2 : 2000 < b.length
      · have hb2' : (2000 : Int) < b.length := by omega
        go_wp2
        go_ret
        exact ⟨rfl, HA.out.sp.ext⟩
      · have hb2' : (b.length : Int) ≤ 2000 := by omega
        obtain ⟨J, hJ, hEJ, hCJ⟩ := ends_step HENDS.out b (by omega) HCR.out
        obtain ⟨TT, hTT⟩ : ∃ TT, TT = (Sv.drain 0 3000 (s.add b)).2 := ⟨_, rfl⟩
        obtain ⟨DD, hDD⟩ : ∃ DD, DD = (Sv.drain 0 3000 (s.add b)).1 := ⟨_, rfl⟩
        rw [← hDD] at hJ
        rw [← hTT] at hEJ hCJ
        have HEJ := Lib.hid hEJ
        have HCJ := Lib.hid hCJ
        have HADD := Lib.hid (svAddS b (by have := HCM.out; omega) HSN.out.phase HA.out)
        have HSN1 := Lib.hid (sane_add HSN.out b)
        have HCM1 : Hid ((s.add b).came.length ≤ (n + 1) * 2000) := by
          have := HCM.out
          unfold Hid Sv.add
          split
          · omega
          · show (s.came ++ b).length ≤ _
            rw [List.length_append]
            omega
        have HIN0 : Hid (judgeL (bad, over) (Sv.drain 0 3000 (s.add b)).1 = some J ∧ (Sv.drain 0 3000 (s.add b)).2 = TT) := ⟨by rw [← hDD]; exact hJ, hTT.symm⟩
        clear hJ hEJ hCJ hTT hDD HENDS HCR HSN HCM HA
        generalize s.add b = s1 at *
        go_wp2_with fail
        refine HADD.out.mono ?_
        rintro e w5 ⟨rfl, A5⟩
        have HA5 := Lib.hid A5
        clear A5 HADD ck
        go_upto_region 14 with (fail)
        go_loopw [5, 6, 8] (fun vb vo vk wr2 => ∃ (k b2 : Nat) (o2 : Bool) (t : Sv) (K2 : List Rom), vb = .int .i64 b2 ∧ vo = .bool o2 ∧ vk = .int .i64 k ∧ k ≤ 3000 ∧ judgeL (b2, o2) (Sv.drain 0 (3000 - k) t).1 = some J ∧ (Sv.drain 0 (3000 - k) t).2 = TT ∧ t.Sane ∧ t.came.length ≤ (n + 1) * 2000 ∧ b2 ≤ 9 ∧ SvAt w [] p t K2 wr2) (fun _ _ vk _ => 3000 - (intOf vk).toNat)
        case atStart => exact ⟨0, bad, over, s1, K', rfl, rfl, rfl, Nat.zero_le _, HIN0.out.1, HIN0.out.2, HSN1.out, HCM1.out, hbad, HA5.out⟩
        case round =>
          clear HA5 HIN0 HSN1 HCM1
          obtain ⟨k, b2, o2, t, K2, rfl, rfl, rfl, hk, hj, htt, hsn, hcm, hb9, A⟩ := hrel
          have HJL := Lib.hid hj
          have HTT := Lib.hid htt
          have HSN := Lib.hid hsn
          have HCM := Lib.hid hcm
          have HB9 := Lib.hid hb9
          have HA := Lib.hid A
          clear hj htt hsn hcm A
          have hki : (k : Int) ≤ 3000 := by omega
          have hb9i : (b2 : Int) ≤ 9 := by omega
          by_cases hk3 : k < 3000
          · have hk3' : (k : Int) < 3000 := by omega
            have HSUB : Hid (3000 - k = (3000 - (k + 1)) + 1) := by unfold Hid; omega
            rw [HSUB.out] at HJL HTT
            go_wp2_with fail
            refine (svNextS HSN.out (by have := HCM.out; omega) HE.out HA.out).mono ?_
            rintro e w7 hnx
            obtain ⟨K7, hk7, A7, ⟨hn0, rfl⟩ | ⟨x, xa, xn, xc, ya, yn, yc, hn0, hix, rfl⟩⟩ := hnx.cases
            · have HA8 : Hid (SvAt w [] p t.next.2 K7 (w7.alloc (.cells zeroEv 39))) := A7.ext0 ((Ext.refl [] w7).alloc _)
              have HSN2 := Lib.hid (sane_next HSN.out)
              have HCM2 : Hid (t.next.2.came.length ≤ (n + 1) * 2000) := Nat.le_trans (next_came t) HCM.out
              have HPH := Lib.hid (svPhaseS HA8.out)
              by_cases h2 : t.next.2.phase = 2
              · rw [drain_wait hn0 h2] at HJL HTT
                have HSN3 := Lib.hid (sane_verdict HSN2.out (next_queue hn0) 0)
                have HCM3 : Hid ((t.next.2.verdict 0).came.length ≤ (n + 1) * 2000) := by unfold Hid; rw [verdict_came]; exact HCM2.out
                have HVD := Lib.hid (svVerdictS 0 (by decide) HSN2.out.good HSN2.out.phase HA8.out)
                rw [h2] at HPH
                generalize t.next.2.verdict 0 = t3 at *
                clear hn0 hnx A7 h2 HA8 HA
                unfold zeroEv at *
                go_wp2_with fail
                refine HPH.out.mono ?_
                rintro e w8 ⟨rfl, rfl⟩
                go_wp2_with fail
                refine HVD.out.mono ?_
                rintro e w9 ⟨rfl, K9, _, A9⟩
                have HA9 := Lib.hid A9
                clear A9 HVD HPH
                go_wp2_with fail
                go_roundw
                case rel => exact ⟨k + 1, b2, o2, t3, K9, rfl, rfl, by go_num, by omega, HJL.out, HTT.out, HSN3.out, HCM3.out, HB9.out, HA9.out⟩
                case measure => simp [intOf]; omega
              · rw [drain_stop hn0 h2] at HJL HTT
                have HTE : Hid (t.next.2 = TT) := HTT.out
                rw [HTE.out] at HPH HA8 HSN2 HCM2 h2
                have h2' : ((TT.phase : Int) == 2) = false := by simp; omega
                have HJF : Hid (judgeL (b2, o2) [] = some J) := HJL.out
                clear hn0 hnx A7 h2 HA HJL HTT
                unfold zeroEv at *
                have HAT := Lib.hid HA8.out
                have HSNT := Lib.hid HSN2.out
                have HCMT := Lib.hid HCM2.out
                go_wp2_with fail
                refine HPH.out.mono ?_
                rintro e w8 ⟨rfl, rfl⟩
                obtain ⟨j1, j2⟩ := J
                have hJ1 : b2 = j1 ∧ o2 = j2 := by have := HJF.out; simp only [judgeL, Option.some.injEq, Prod.mk.injEq] at this; exact this
                obtain ⟨rfl, rfl⟩ := hJ1
                have HP3 := Lib.hid (svPhaseS HAT.out)
                go_wp2_with fail
                refine HP3.out.mono ?_
                rintro e w9 ⟨rfl, rfl⟩
                have hpe : (o2 = true ∧ (((TT.phase : Int) == 3) = true)) ∨ (o2 = false ∧ (((TT.phase : Int) == 3) = false)) := by
                  cases o2 with
                  | true => exact .inl ⟨rfl, by have := HEJ.out.k.over rfl; have h : TT.phase = 3 := this; rw [h]; rfl⟩
                  | false => exact .inr ⟨rfl, by have := (HEJ.out.k.go rfl).1; have h : TT.phase ≠ 3 := this; simp; omega⟩
                rcases hpe with ⟨rfl, hpe⟩ | ⟨rfl, hpe⟩
                all_goals
                  go_wp2_with fail
                  go_roundw
                  case rel => exact ⟨n + 1, b2, _, TT, _, rfl, rfl, by go_num, by omega, by omega, HB9.out, HEJ.out, HCJ.out, HSNT.out, HCMT.out, HAT.out⟩
                  case measure => simp [intOf]; omega
            · rw [drain_some hn0] at HJL HTT
              obtain ⟨j3, hj3, hrest⟩ := Option.bind_eq_some_iff.1 HJL.out
              obtain ⟨ho, hcase⟩ := judge_cases hj3
              dsimp only at ho
              subst ho
              have HSN2 := Lib.hid (sane_next HSN.out)
              have HCM2 : Hid (t.next.2.came.length ≤ (n + 1) * 2000) := Nat.le_trans (next_came t) HCM.out
              have HTT2 : Hid ((Sv.drain 0 (3000 - (k + 1)) t.next.2).2 = TT) := HTT.out
              have HIX := Lib.hid hix
              generalize t.next.2 = t2 at *
              have HA8 := Lib.hid (A7.box #[.int .i64 x.kind, .int .i64 x.code, .slice xa xn xc, .string ⟨x.text.toArray⟩, .string ⟨x.frm.1.toArray⟩, .string ⟨x.frm.2.toArray⟩, .slice ya yn yc, .string ⟨x.body.toArray⟩] 39)
              have HREST := Lib.hid hrest
              clear A7 hn0 hnx hk7 hix HA HJL HTT hj3 hrest
              unfold evAgg
              go_upto_region 17 with (fail)
              generalize w7.alloc _ = w8 at *
              generalize w7.heap.size = g8 at *
              obtain ⟨cg, fg, lg⟩ := HA8.out.boxCell
              rcases hcase with ⟨hk2, rfl⟩ | ⟨hk2, hk0, rfl⟩ | ⟨hk0, hr1, hr2, hr3, hr4, rfl⟩
              · rw [hk2] at cg
                go_wp2_with fail
                go_roundw
                case rel => exact ⟨k + 1, b2, true, t2, K7, rfl, rfl, by go_num, by omega, HREST.out, HTT2.out, HSN2.out, HCM2.out, HB9.out, HA8.out.drop⟩
                case measure => simp [intOf]; omega
              · have q2 : (x.kind == 2) = false := by simpa using hk2
                have q0 : (x.kind == 0) = false := by simpa using hk0
                go_wp2_with fail
                go_roundw
                case rel => exact ⟨k + 1, b2, false, t2, K7, rfl, rfl, by go_num, by omega, HREST.out, HTT2.out, HSN2.out, HCM2.out, HB9.out, HA8.out.drop⟩
                case measure => simp [intOf]; omega
              · rw [hk0] at cg
                have HLN := Lib.hid (SvAt.lines HA8.out HIX.out hr1 hr2 HE.out)
                have hcr : x.code ≤ 599 := by
                  have h2 : rpLines x.code x.lines = ((rpLines x.code x.lines).1, 0) := by rw [← hr1]
                  exact (class_range (rpLines_ok h2).1).2
                clear hr1 hr2 HIX
                go_wp2_with fail
                refine HLN.out.mono ?_
                rintro e w9 ⟨v2, rfl, A9⟩
                have HA9 := Lib.hid A9
                clear A9 HLN HA8 cg fg lg
                obtain ⟨cg, fg, lg⟩ := HA9.out.boxCell
                rw [hk0] at cg
                by_cases h5 : 500 ≤ x.code
                · have hne : (x.code == 421) = false := by simp; omega
                  rw [if_pos h5] at hr3 HREST
                  have hb' : ((b2 : Int) + 1) < 10 := by omega
                  have HB10 : Hid (b2 + 1 ≤ 9) := by unfold Hid; omega
                  clear hr3 hr4
                  go_wp2_with fail
                  go_roundw
                  case rel => exact ⟨k + 1, b2 + 1, false, t2, K7, by go_num, rfl, by go_num, by omega, HREST.out, HTT2.out, HSN2.out, HCM2.out, HB10.out, HA9.out.drop⟩
                  case measure => simp [intOf]; omega
                · rw [if_neg h5] at hr3 hr4 HREST
                  have h5' : x.code < 500 := by omega
                  have hr4 := hr4
                  by_cases h4 : x.code = 421
                  · have hb' := hr4 h4
                    subst hb'
                    rw [h4] at cg
                    clear hr3 hr4 h5 h5' hcr
                    go_wp2_with fail
                    go_roundw
                    case rel => exact ⟨k + 1, 9, false, t2, K7, rfl, rfl, by go_num, by omega, HREST.out, HTT2.out, HSN2.out, HCM2.out, HB9.out, HA9.out.drop⟩
                    case measure => simp [intOf]; omega
                  · have hne : (x.code == 421) = false := by simpa using h4
                    clear hr3 hr4 h4
                    go_wp2_with fail
                    go_roundw
                    case rel => exact ⟨k + 1, b2, false, t2, K7, rfl, rfl, by go_num, by omega, HREST.out, HTT2.out, HSN2.out, HCM2.out, HB9.out, HA9.out.drop⟩
                    case measure => simp [intOf]; omega
          · obtain rfl : k = 3000 := by omega
            have HJF : Hid (judgeL (b2, o2) [] = some J) := HJL.out
            have HTE : Hid (t = TT) := HTT.out
            have HAT : Hid (SvAt w [] p TT K2 wr) := by unfold Hid; rw [← HTE.out]; exact HA.out
            have HSNT : Hid (TT.Sane) := by unfold Hid; rw [← HTE.out]; exact HSN.out
            have HCMT : Hid (TT.came.length ≤ (n + 1) * 2000) := by unfold Hid; rw [← HTE.out]; exact HCM.out
            clear HJL HTT HSN HCM HA
            obtain ⟨j1, j2⟩ := J
            have hJ1 : b2 = j1 ∧ o2 = j2 := by have := HJF.out; simp only [judgeL, Option.some.injEq, Prod.mk.injEq] at this; exact this
            obtain ⟨rfl, rfl⟩ := hJ1
            have HP3 := Lib.hid (svPhaseS HAT.out)
            go_wp2_with fail
            refine HP3.out.mono ?_
            rintro e w9 ⟨rfl, rfl⟩
            have hpe : (o2 = true ∧ (((TT.phase : Int) == 3) = true)) ∨ (o2 = false ∧ (((TT.phase : Int) == 3) = false)) := by
              cases o2 with
              | true => exact .inl ⟨rfl, by have := HEJ.out.k.over rfl; have h : TT.phase = 3 := this; rw [h]; rfl⟩
              | false => exact .inr ⟨rfl, by have := (HEJ.out.k.go rfl).1; have h : TT.phase ≠ 3 := this; simp; omega⟩
            rcases hpe with ⟨rfl, hpe⟩ | ⟨rfl, hpe⟩
            all_goals
              go_wp2_with fail
              go_roundw
              case rel => exact ⟨n + 1, b2, _, TT, _, rfl, rfl, by go_num, by omega, by omega, HB9.out, HEJ.out, HCJ.out, HSNT.out, HCMT.out, HAT.out⟩
              case measure => simp [intOf]; omega
    · have HZ := Lib.hid HA.out.sp.ext
      by_cases h60 : n < 60
      · have h60' : (n : Int) < 60 := by omega
        have hlt' : ¬ (n : Int) < l.length := by omega
        go_wp2
        go_ret
        exact ⟨rfl, HZ.out⟩
      · have h60' : ¬ (n : Int) < 60 := by omega
        go_wp2
        all_goals
          go_ret
          exact ⟨rfl, HZ.out⟩
end
end Go.Proofs.YtapenolbbofjkaaGreatDoor
