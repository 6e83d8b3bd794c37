/- entry: whether entries are the same. Conditions: the lengths fit. -/
import Derived.Test.YtkenacggjffjnaaGreatDoorEnS
set_option linter.unusedSimpArgs false
set_option linter.unusedVariables false
set_option linter.unnecessarySimpa false
namespace Go.Proofs.YtkenacggjffjnaaGreatDoor
open Go.RowKit

section
variable {w0 w : World} {L : List Res} {F0 : List Nat} {b : Nat} {v v2 : Value} {e : En}
theorem take_eq {α : Type} {a b : List α} {k : Nat} (h1 : k < a.length) (h2 : k < b.length) (h : a.take k = b.take k) (hx : a[k] = b[k]) : a.take (k + 1) = b.take (k + 1) := by
  rw [List.take_succ_eq_append_getElem h1, List.take_succ_eq_append_getElem h2, h, hx]
set_option maxRecDepth 100000 in
set_option maxHeartbeats 4000000 in
theorem eqTos_any (l m : List Rcp) (w : World) (hl : l.length ≤ 1000) (hm : m.length ≤ 1000) (T : TosAt w v l) (U : TosAt w v2 m) : Calls Tryz.prog 55 #[v, v2] w fun e w2 => e = .returned (.bool (decide (l = m))) ∧ Ext [] w w2 := by
  have HT := Lib.hid T
  have HU := Lib.hid U
  obtain ⟨va, vc, rfl⟩ := T.form
  obtain ⟨ua, uc, rfl⟩ := U.form
  have hl' : (l.length : Int) ≤ 1000 := by omega
  have hm' : (m.length : Int) ≤ 1000 := by omega
  clear T U
  by_cases hlm : l.length = m.length
  · have HLM := Lib.hid hlm
    rw [← hlm]
    clear hlm hm hm'
    go_enter Tryz.func55, Tryz.ntmps55
    go_wp2_with fail
    go_loopw [13] (fun at0 wr => ∃ k : Nat, at0 = .int .i64 k ∧ k ≤ l.length ∧ l.take k = m.take k ∧ Ext [] w wr) (fun at0 _ => l.length - (intOf at0).toNat)
    case atStart => exact ⟨0, rfl, Nat.zero_le _, by simp, Ext.refl _ _⟩
    case round =>
      obtain ⟨k, rfl, hk, heq, hx⟩ := hrel
      have hk' : (k : Int) ≤ l.length := by omega
      have HEQ := Lib.hid heq
      have HX := Lib.hid hx
      clear heq
      by_cases hlt : k < l.length
      · have hlt' : (k : Int) < l.length := by omega
        have hltm : k < m.length := by have := HLM.out; omega
        obtain ⟨vb, vo, he, x0, x1, x2⟩ := (HT.out.ext hx).at hlt
        cases he
        obtain ⟨ub, uo, he, y0, y1, y2⟩ := (HU.out.ext hx).at hltm
        cases he
        have HN := Lib.hid (take_eq hlt hltm HEQ.out)
        have HNE : Hid (l[k] ≠ m[k] → l ≠ m) := fun h1 h2 => h1 (by subst h2; rfl)
        generalize l[k] = x at *
        generalize m[k] = y at *
        obtain ⟨⟨xl, xd⟩, xs⟩ := x
        obtain ⟨⟨yl, yd⟩, ys⟩ := y
        dsimp only at *
        clear hx hlt hltm
        by_cases he : ((xl, xd), xs) = ((yl, yd), ys)
        · have HN2 := Lib.hid (HN.out he)
          simp only [Prod.mk.injEq] at he
          obtain ⟨⟨rfl, rfl⟩, rfl⟩ := he
          go_upto_region 6 with (fail)
          go_region
          all_goals
            go_wp2_with fail
            go_roundw
            case rel => exact ⟨k + 1, by go_num, by omega, HN2.out, by first | exact HX.out | exact HX.out.drew | exact (HX.out.drew).drew⟩
            case measure => simp [intOf]; omega
        · have HN2 := Lib.hid (decide_eq_false (HNE.out he))
          go_upto_region 6 with (fail)
          by_cases h1 : xl = yl
          · subst h1
            by_cases h2 : xd = yd
            · subst h2
              have h3 : xs ≠ ys := fun h => he (by rw [h])
              have h3' : (xs == ys) = false := by simpa using h3
              clear he
              go_region
              all_goals
                go_wp2
                go_ret
                rw [HN2.out]
                exact ⟨rfl, by first | exact HX.out | exact HX.out.drew | exact (HX.out.drew).drew⟩
            · have h2' : (xd == yd) = false := by simpa using h2
              clear he
              go_region
              all_goals
                go_wp2
                go_ret
                rw [HN2.out]
                exact ⟨rfl, by first | exact HX.out | exact HX.out.drew | exact (HX.out.drew).drew⟩
          · have h1' : (xl == yl) = false := by simpa using h1
            clear he
            go_region
            all_goals
              go_wp2
              go_ret
              rw [HN2.out]
              exact ⟨rfl, by first | exact HX.out | exact HX.out.drew | exact (HX.out.drew).drew⟩
      · obtain rfl : k = l.length := by omega
        have HD : Hid (decide (l = m) = true) := decide_eq_true (by
          have := HEQ.out
          rw [List.take_length, HLM.out, List.take_length] at this
          exact this)
        go_wp2_with fail
        go_ret
        rw [HD.out]
        exact ⟨rfl, HX.out⟩
  · have HD : Hid (decide (l = m) = false) := decide_eq_false (fun h => hlm (by rw [h]))
    have hb : ((l.length : Int) == m.length) = false := by simpa using fun h => hlm (by omega)
    go_enter Tryz.func55, Tryz.ntmps55
    go_wp2_with fail
    go_ret
    rw [HD.out]
    exact ⟨rfl, Ext.refl _ _⟩
set_option maxRecDepth 100000 in
set_option maxHeartbeats 4000000 in
theorem enSame_any (e g : En) (w : World) (he : EnAt w e v) (hg : EnAt w g v2) : Calls Tryz.prog 20 #[enAgg e v, enAgg g v2] w fun r w2 => r = .returned (.bool (enSame e g)) ∧ Ext [] w w2 := by
  have HS0 := Lib.hid (((Sp.nil w []).box (enCells e v) 27).box (enCells g v2) 27)
  rw [show (w.alloc (.cells (enCells e v) 27)).heap.size = w.heap.size + 1 by simp] at HS0
  have HQ := Lib.hid (fun (w' : World) (hx : Ext [] w w') => eqTos_any e.rcs g.rcs w' he.fit.rcs hg.fit.rcs (he.tos.ext hx) (hg.tos.ext hx))
  have HV : Hid (enSame e g = decide (e.id = g.id ∧ e.dom = g.dom ∧ e.ep = g.ep ∧ e.cnt = g.cnt ∧ e.frm = g.frm ∧ e.rcs = g.rcs ∧ e.born = g.born ∧ e.nxt = g.nxt ∧ e.tries = g.tries)) := rfl
  obtain ⟨i1, d1, p1, c1, ⟨fl, fd⟩, r1, b1, n1, t1⟩ := e
  obtain ⟨i2, d2, p2, c2, ⟨gl, gd⟩, r2, b2, n2, t2⟩ := g
  obtain ⟨va, vc, rfl⟩ := he.tos.form
  obtain ⟨ua, uc, rfl⟩ := hg.tos.form
  unfold enAgg
  unfold enCells at HS0
  dsimp only at *
  clear he hg
  go_enter Tryz.func20, Tryz.ntmps20
  go_upto_region 1 with (fail)
  generalize (w.alloc _).alloc _ = w1 at *
  generalize w.heap.size + 1 = q2 at *
  generalize w.heap.size = q1 at *
  have e0 := HS0.out.pull1.cell
  have e1 := HS0.out.cell
  by_cases hne : i1 = i2
  · subst hne
    by_cases hne : d1 = d2
    · subst hne
      by_cases hne : p1 = p2
      · subst hne
        by_cases hne : c1 = c2
        · subst hne
          by_cases hne : fl = gl
          · subst hne
            by_cases hne : fd = gd
            · subst hne
              go_wp2_with fail
              refine (HQ.out w1 HS0.out.ext).mono ?_
              rintro e w5 ⟨rfl, hx5⟩
              have HS5 := Lib.hid (HS0.out.ext0 hx5)
              have k0 := HS5.out.pull1.cell
              have k1 := HS5.out.cell
              clear e0 e1 hx5
              by_cases hne : r1 = r2
              · rw [decide_eq_true hne]
                have HR := Lib.hid hne
                clear hne
                by_cases hne : b1 = b2
                · subst hne
                  by_cases hne : n1 = n2
                  · subst hne
                    by_cases hne : t1 = t2
                    · subst hne
                      have HW := Lib.hid (HV.out.trans (decide_eq_true ⟨by trivial, by trivial, by trivial, by trivial, by trivial, HR.out, by trivial, by trivial, by trivial⟩))
                      clear HQ
                      go_wp2
                      go_ret
                      rw [HW.out]
                      exact ⟨rfl, HS5.out.ext⟩
                    · have hb : (t1 == t2) = false := by simpa using hne
                      have HW := Lib.hid (HV.out.trans (decide_eq_false (by rintro ⟨g1, g2, g3, g4, g5, g6, g7, g8, g9⟩; exact hne (by first | exact g1 | exact g2 | exact g3 | exact g4 | exact (Prod.mk.inj g5).1 | exact (Prod.mk.inj g5).2 | exact g6 | exact g7 | exact g8 | exact g9))))
                      clear HQ
                      go_wp2
                      go_ret
                      rw [HW.out]
                      exact ⟨rfl, HS5.out.ext⟩
                  · have hb : ((n1 : Int) == n2) = false := by simpa using fun h => hne (by omega)
                    have HW := Lib.hid (HV.out.trans (decide_eq_false (by rintro ⟨g1, g2, g3, g4, g5, g6, g7, g8, g9⟩; exact hne (by first | exact g1 | exact g2 | exact g3 | exact g4 | exact (Prod.mk.inj g5).1 | exact (Prod.mk.inj g5).2 | exact g6 | exact g7 | exact g8 | exact g9))))
                    clear HQ
                    go_wp2
                    go_ret
                    rw [HW.out]
                    exact ⟨rfl, HS5.out.ext⟩
                · have hb : ((b1 : Int) == b2) = false := by simpa using fun h => hne (by omega)
                  have HW := Lib.hid (HV.out.trans (decide_eq_false (by rintro ⟨g1, g2, g3, g4, g5, g6, g7, g8, g9⟩; exact hne (by first | exact g1 | exact g2 | exact g3 | exact g4 | exact (Prod.mk.inj g5).1 | exact (Prod.mk.inj g5).2 | exact g6 | exact g7 | exact g8 | exact g9))))
                  clear HQ
                  go_wp2
                  go_ret
                  rw [HW.out]
                  exact ⟨rfl, HS5.out.ext⟩
              · rw [decide_eq_false hne]
                have HW := Lib.hid (HV.out.trans (decide_eq_false (by rintro ⟨g1, g2, g3, g4, g5, g6, g7, g8, g9⟩; exact hne (by first | exact g1 | exact g2 | exact g3 | exact g4 | exact (Prod.mk.inj g5).1 | exact (Prod.mk.inj g5).2 | exact g6 | exact g7 | exact g8 | exact g9))))
                clear HQ
                go_wp2
                go_ret
                rw [HW.out]
                exact ⟨rfl, HS5.out.ext⟩
            · have hb : (fd == gd) = false := by simpa using hne
              have HW := Lib.hid (HV.out.trans (decide_eq_false (by rintro ⟨g1, g2, g3, g4, g5, g6, g7, g8, g9⟩; exact hne (by first | exact g1 | exact g2 | exact g3 | exact g4 | exact (Prod.mk.inj g5).1 | exact (Prod.mk.inj g5).2 | exact g6 | exact g7 | exact g8 | exact g9))))
              clear HQ
              go_wp2
              go_ret
              rw [HW.out]
              exact ⟨rfl, HS0.out.ext⟩
          · have hb : (fl == gl) = false := by simpa using hne
            have HW := Lib.hid (HV.out.trans (decide_eq_false (by rintro ⟨g1, g2, g3, g4, g5, g6, g7, g8, g9⟩; exact hne (by first | exact g1 | exact g2 | exact g3 | exact g4 | exact (Prod.mk.inj g5).1 | exact (Prod.mk.inj g5).2 | exact g6 | exact g7 | exact g8 | exact g9))))
            clear HQ
            go_wp2
            go_ret
            rw [HW.out]
            exact ⟨rfl, HS0.out.ext⟩
        · have hb : ((c1 : Int) == c2) = false := by simpa using fun h => hne (by omega)
          have HW := Lib.hid (HV.out.trans (decide_eq_false (by rintro ⟨g1, g2, g3, g4, g5, g6, g7, g8, g9⟩; exact hne (by first | exact g1 | exact g2 | exact g3 | exact g4 | exact (Prod.mk.inj g5).1 | exact (Prod.mk.inj g5).2 | exact g6 | exact g7 | exact g8 | exact g9))))
          clear HQ
          go_wp2
          go_ret
          rw [HW.out]
          exact ⟨rfl, HS0.out.ext⟩
      · have hb : ((p1 : Int) == p2) = false := by simpa using fun h => hne (by omega)
        have HW := Lib.hid (HV.out.trans (decide_eq_false (by rintro ⟨g1, g2, g3, g4, g5, g6, g7, g8, g9⟩; exact hne (by first | exact g1 | exact g2 | exact g3 | exact g4 | exact (Prod.mk.inj g5).1 | exact (Prod.mk.inj g5).2 | exact g6 | exact g7 | exact g8 | exact g9))))
        clear HQ
        go_wp2
        go_ret
        rw [HW.out]
        exact ⟨rfl, HS0.out.ext⟩
    · have hb : (d1 == d2) = false := by simpa using hne
      have HW := Lib.hid (HV.out.trans (decide_eq_false (by rintro ⟨g1, g2, g3, g4, g5, g6, g7, g8, g9⟩; exact hne (by first | exact g1 | exact g2 | exact g3 | exact g4 | exact (Prod.mk.inj g5).1 | exact (Prod.mk.inj g5).2 | exact g6 | exact g7 | exact g8 | exact g9))))
      clear HQ
      go_wp2
      go_ret
      rw [HW.out]
      exact ⟨rfl, HS0.out.ext⟩
  · have hb : ((i1 : Int) == i2) = false := by simpa using fun h => hne (by omega)
    have HW := Lib.hid (HV.out.trans (decide_eq_false (by rintro ⟨g1, g2, g3, g4, g5, g6, g7, g8, g9⟩; exact hne (by first | exact g1 | exact g2 | exact g3 | exact g4 | exact (Prod.mk.inj g5).1 | exact (Prod.mk.inj g5).2 | exact g6 | exact g7 | exact g8 | exact g9))))
    clear HQ
    go_wp2
    go_ret
    rw [HW.out]
    exact ⟨rfl, HS0.out.ext⟩
end
end Go.Proofs.YtkenacggjffjnaaGreatDoor
