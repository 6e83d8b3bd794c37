/- posthornlaw21: the drain of ServerPieces. Conditions: the lengths fit; what Go's variables hold. -/
import Derived.Test.YtapenolbbofjkaaGreatDoorAw21
set_option linter.unusedSimpArgs false
set_option linter.unusedVariables false
set_option linter.unnecessarySimpa false
namespace Go.Proofs.YtapenolbbofjkaaGreatDoor
open Go.RowKit Go.Maps

theorem drain_some' {e : Int} {n : Nat} {s : Sv} {x : Ev} (h : s.next.1 = some x) : Sv.drain e (n + 1) s = (x :: (Sv.drain e n s.next.2).1, (Sv.drain e n s.next.2).2) := by
  conv => lhs; unfold Sv.drain
  generalize s.next = q at *
  obtain ⟨y, t⟩ := q
  dsimp only at h
  subst h
  rfl
theorem drain_stop' {e : Int} {n : Nat} {s : Sv} (h : s.next.1 = none) (h2 : s.next.2.phase ≠ 2) : Sv.drain e (n + 1) s = ([], s.next.2) := by
  unfold Sv.drain
  generalize s.next = q at *
  obtain ⟨y, t⟩ := q
  dsimp only at h h2
  subst h
  dsimp only
  rw [if_neg h2]
theorem drain_wait' {e : Int} {n : Nat} {s : Sv} (h : s.next.1 = none) (h2 : s.next.2.phase = 2) : Sv.drain e (n + 1) s = Sv.drain e n (s.next.2.verdict e) := by
  conv => lhs; unfold Sv.drain
  generalize s.next = q at *
  obtain ⟨y, t⟩ := q
  dsimp only at h h2
  subst h
  dsimp only
  rw [if_pos h2]
theorem next_queue' {s : Sv} (h : s.next.1 = none) : s.next.2.queue = [] := by
  unfold Sv.next at h ⊢
  split
  · rename_i hq
    exact hq
  · rename_i x q hq
    rw [hq] at h
    cases h
theorem verdict_came' (s : Sv) (e : Int) : (s.verdict e).came = s.came := by
  have := verdict_core e s.core s.came s.queue
  rw [show s.verdict e = (s.core.sv s.came s.queue).verdict e from rfl, this]
  rfl
section
variable {w0 w w2 : World} {F0 : List Nat} {L : List Res} {p : Nat} {s : Sv} {K : List Rom} {v : Value}
set_option maxRecDepth 100000 in
set_option maxHeartbeats 8000000 in
theorem drain21S {q : Nat} {qs : List QEv} (ev : Int) (hev : -9223372036854775808 ≤ ev ∧ ev ≤ 9223372036854775807) (hs : s.Sane) (hc : s.came.length ≤ 1000000000) (hql : qs.length ≤ 600000) (hin : ∀ x ∈ qs, x.in K) (E : Env w0) (A : SvAt w0 (boxR q #[.int .i64 ev] 23 :: queR v qs :: L) p s K w) :
    Calls Tryz.prog 11 #[.pointer (some ⟨p, 0, none⟩), v, .pointer (some ⟨q, 0, none⟩)] w fun e w2 => ∃ v2 qs2 K2, e = .returned v2 ∧ (∀ x ∈ K, x ∈ K2) ∧ qs2.map (·.1) = qs.map (·.1) ++ (Sv.drain ev 262144 s).1 ∧ (∀ x ∈ qs2, x.in K2) ∧ SvAt w0 (boxR q #[.int .i64 ev] 23 :: queR v2 qs2 :: L) p (Sv.drain ev 262144 s).2 K2 w2 := by
  have HS := Lib.hid hs
  have HC := Lib.hid hc
  have HE := Lib.hid E
  have HA0 := Lib.hid A
  have HIN0 := Lib.hid hin
  have HQL0 := Lib.hid hql
  clear A hs hc E hin hql
  go_enter Tryz.func11, Tryz.ntmps11
  go_upto_region 2 with (fail)
  go_loopw [1, 6] (fun v i wr => ∃ (k : Nat) (q2 : List QEv) (out : List Ev) (t : Sv) (K' : List Rom), i = .int .i64 k ∧ k ≤ 262144 ∧ q2.length ≤ qs.length + k ∧ q2.map (·.1) = qs.map (·.1) ++ out ∧ Sv.drain ev 262144 s = (out ++ (Sv.drain ev (262144 - k) t).1, (Sv.drain ev (262144 - k) t).2) ∧ t.Sane ∧ t.came.length ≤ 1000000000 ∧ (∀ x ∈ K, x ∈ K') ∧ (∀ x ∈ q2, x.in K') ∧ SvAt w0 (boxR q #[.int .i64 ev] 23 :: queR v q2 :: L) p t K' wr) (fun _ i _ => 262144 - (intOf i).toNat)
  case atStart => exact ⟨0, qs, [], s, K, rfl, Nat.zero_le _, Nat.le_refl _, by simp, by simp, HS.out, HC.out, fun _ h => h, HIN0.out, HA0.out⟩
  case round =>
    clear HA0 HIN0
    obtain ⟨k, q2, out, t, K', rfl, hk, hol, hmp, hcd, hsn, hcm, hkk, hin2, A⟩ := hrel
    have HMP := Lib.hid hmp
    have HCD := Lib.hid hcd
    have HSN := Lib.hid hsn
    have HCM := Lib.hid hcm
    have HK := Lib.hid hkk
    have HA := Lib.hid A
    have HOL := Lib.hid hol
    have HIN := Lib.hid hin2
    clear hcd hsn hcm hkk A hol hmp hin2
    have hk' : (k : Int) ≤ 262144 := by omega
    by_cases hlt : k < 262144
    · have hlt' : (k : Int) < 262144 := by omega
      have HSUB : Hid (262144 - k = (262144 - (k + 1)) + 1) := by unfold Hid; omega
      rw [HSUB.out] at HCD
      go_wp2_with fail
      refine (svNextS HSN.out HCM.out HE.out HA.out).mono ?_
      rintro e w3 hnx
      obtain ⟨K3, hk3, A3, ⟨hn, rfl⟩ | ⟨x, xa, xn, xc, ya, yn, yc, hn, hix, rfl⟩⟩ := hnx.cases
      · have HA8 : Hid (SvAt w0 (boxR q #[.int .i64 ev] 23 :: queR u1 q2 :: L) p t.next.2 K3 (w3.alloc (.cells zeroEv 39))) := A3.ext0 ((Ext.refl [] w3).alloc _)
        have HSN2 := Lib.hid (sane_next HSN.out)
        have HCM2 : Hid (t.next.2.came.length ≤ 1000000000) := Nat.le_trans (next_came t) HCM.out
        have HPH := Lib.hid (svPhaseS HA8.out)
        have HK3 : Hid (∀ y ∈ K, y ∈ K3) := fun y hy => hk3 y (HK.out y hy)
        have HIN3 : Hid (∀ y ∈ q2, y.in K3) := fun y hy => (HIN.out y hy).more hk3
        by_cases h2 : t.next.2.phase = 2
        · rw [drain_wait' hn h2] at HCD
          have HSN3 := Lib.hid (sane_verdict HSN2.out (next_queue' hn) ev)
          have HCM3 : Hid ((t.next.2.verdict ev).came.length ≤ 1000000000) := by unfold Hid; rw [verdict_came']; exact HCM2.out
          have HVD := Lib.hid (svVerdictS ev hev HSN2.out.good HSN2.out.phase HA8.out)
          obtain ⟨cq, fq, lq⟩ := HA8.out.boxCell
          rw [h2] at HPH
          generalize t.next.2.verdict ev = t3 at *
          clear hn hnx A3 h2 HA hk3
          unfold zeroEv at *
          go_wp2_with fail
          refine HPH.out.mono ?_
          rintro e w8 ⟨rfl, rfl⟩
          go_wp2_with fail
          refine HVD.out.mono ?_
          rintro e w9 ⟨rfl, K9, hk9, A9⟩
          have HA9 := Lib.hid A9
          have HK9 := Lib.hid hk9
          clear A9 HVD HPH hk9
          go_wp2_with fail
          go_roundw
          case rel => exact ⟨k + 1, q2, out, t3, K9, by go_num, by omega, by have := HOL.out; omega, HMP.out, HCD.out, HSN3.out, HCM3.out, fun y hy => HK9.out y (HK3.out y hy), fun y hy => (HIN3.out y hy).more HK9.out, HA9.out⟩
          case measure => simp [intOf]; omega
        · rw [drain_stop' hn h2] at HCD
          have h2' : ((t.next.2.phase : Int) == 2) = false := by simp; omega
          have HOUT : Hid (Sv.drain ev 262144 s = (out, t.next.2)) := by unfold Hid; rw [HCD.out]; simp
          clear hn hnx A3 h2 HA HCD hk3
          unfold zeroEv at *
          generalize t.next.2 = t2 at *
          go_wp2_with fail
          refine HPH.out.mono ?_
          rintro e w8 ⟨rfl, rfl⟩
          go_wp2
          go_ret
          rw [HOUT.out]
          exact ⟨_, q2, K3, rfl, HK3.out, HMP.out, HIN3.out, HA8.out⟩
      · have HOUT : Hid (Sv.drain ev 262144 s = ((out ++ [x]) ++ (Sv.drain ev (262144 - (k + 1)) t.next.2).1, (Sv.drain ev (262144 - (k + 1)) t.next.2).2)) := by
          unfold Hid
          rw [HCD.out, drain_some' hn]
          simp
        have HS2 := Lib.hid (sane_next HSN.out)
        have HC2 : Hid (t.next.2.came.length ≤ 1000000000) := Nat.le_trans (next_came t) HCM.out
        have HK3 : Hid (∀ y ∈ K, y ∈ K3) := fun y hy => hk3 y (HK.out y hy)
        have HIN3 : Hid (∀ y ∈ q2, y.in K3) := fun y hy => (HIN.out y hy).more hk3
        have HIX := Lib.hid hix
        generalize t.next.2 = t2 at *
        have HA4 := Lib.hid (A3.box #[.int .i64 x.kind, .int .i64 x.code, .slice xa xn xc, .string ⟨x.text.toArray⟩, .string ⟨x.frm.1.toArray⟩, .string ⟨x.frm.2.toArray⟩, .slice ya yn yc, .string ⟨x.body.toArray⟩] 39)
        clear A3 hn hnx hk3 hix HA HCD HCM
        unfold evAgg
        go_upto_region 8 with (fail)
        generalize w3.alloc _ = w4 at *
        generalize w3.heap.size = g at *
        obtain ⟨cg, fg, lg⟩ := HA4.out.boxCell
        obtain ⟨X, hX, S5⟩ := HA4.out.drop
        have HX := Lib.hid hX
        have S6 : Sp w0 [] (w4.alloc (.cells (QEv.vals (x, .slice xa xn xc, .slice ya yn yc)).toArray 39)) (boxR w4.heap.size (QEv.vals (x, .slice xa xn xc, .slice ya yn yc)).toArray 39 :: queR u1 q2 :: boxR p (svCells t2 X) 79 :: lrdR X.rb t2.came :: mbxR X.vt t2.t.rcs :: textsR X.vl t2.t.lines :: queR X.vq X.qs :: romR K3 :: boxR q #[.int .i64 ev] 23 :: L) := (Sp.pick [_, _, _, _, _, _, _, _, _] [0, 8, 1, 2, 3, 4, 5, 6, 7] (by decide) ((S5.box #[.int .i64 x.kind, .int .i64 x.code, .slice xa xn xc, .string ⟨x.text.toArray⟩, .string ⟨x.frm.1.toArray⟩, .string ⟨x.frm.2.toArray⟩, .slice ya yn yc, .string ⟨x.body.toArray⟩] 39)))
        obtain ⟨ga, oa, ca, w10, hrun, S10⟩ := Sp.appendEv 33 (x, .slice xa xn xc, .slice ya yn yc) (by have := HOL.out; have := HQL0.out; omega) rfl rfl S6
        have HRUN := Lib.hid hrun
        have HS10 := Lib.hid S10
        clear S5 hX hrun S10
        go_wp2_with (at_builtin; refine wpList_append_run (by rfl) (by rfl) (by rfl) (by rfl) HRUN.out ?_)
        go_roundw
        case rel => exact ⟨k + 1, q2 ++ [(x, Value.slice xa xn xc, Value.slice ya yn yc)], out ++ [x], t2, K3, by go_num, by omega, by have := HOL.out; simp; omega, by rw [List.map_append, HMP.out, List.append_assoc]; rfl, HOUT.out, HS2.out, HC2.out, HK3.out, fun y hy => by
          rcases List.mem_append.1 hy with h | h
          · exact HIN3.out y h
          · rw [List.mem_singleton.1 h]; exact HIX.out, ⟨X, HX.out, (Sp.pick [_, _, _, _, _, _, _, _] [1, 2, 3, 4, 5, 6, 7, 0] (by decide) (HS10.out))⟩⟩
        case measure => simp [intOf]; omega
    · obtain rfl : k = 262144 := by omega
      have HOUT : Hid (Sv.drain ev 262144 s = (out, t)) := by
        unfold Hid
        rw [HCD.out, Nat.sub_self]
        simp [Sv.drain]
      go_wp2
      go_ret
      rw [HOUT.out]
      first | exact ⟨_, q2, K', rfl, HK.out, HMP.out, HIN.out, HA.out⟩ | exact ⟨_, rfl, q2, K', HK.out, HMP.out, fun _ _ _ h => HIN.out _ h, HA.out⟩
end
end Go.Proofs.YtapenolbbofjkaaGreatDoor
