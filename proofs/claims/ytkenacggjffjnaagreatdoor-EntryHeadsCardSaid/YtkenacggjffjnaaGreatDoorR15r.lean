/- The document's answer for layer 15: whether entries are the same. Conditions: the lengths fit. The document's answer for layer 15: a head is read. Conditions: the lengths fit. -/
import Derived.Test.YtkenacggjffjnaaGreatDoorEnE
import Derived.Test.YtkenacggjffjnaaGreatDoorR15h
import Derived.Test.YtkenacggjffjnaaGreatDoorEnR
/-! R15s -/
set_option linter.unusedSimpArgs false
set_option linter.unusedVariables false
set_option linter.unnecessarySimpa false
namespace Go.Proofs.YtkenacggjffjnaaGreatDoor
open Go.RowKit

section
variable {w : World} {v v2 : Value}
set_option maxRecDepth 100000 in
set_option maxHeartbeats 8000000 in
theorem r15Same_any (e g : En) (w : World) (he : EnAt w e v) (hg : EnAt w g v2) : Calls Tryz.prog 15 #[enAgg e v, enAgg g v2] w fun r w2 => r = .returned (.bool (enSame e g)) ∧ Ext [] w w2 := by
  have HS0 := Lib.hid (((Sp.nil w []).box (enCells e v) 27).box (enCells g v2) 27)
  rw [show (w.alloc (.cells (enCells e v) 27)).heap.size = w.heap.size + 1 by simp] at HS0
  have HV : Hid (enSame e g = decide (e.id = g.id ∧ e.dom = g.dom ∧ e.ep = g.ep ∧ e.cnt = g.cnt ∧ e.frm = g.frm ∧ e.rcs = g.rcs ∧ e.born = g.born ∧ e.nxt = g.nxt ∧ e.tries = g.tries)) := rfl
  have HTE := Lib.hid he.tos
  have HTG := Lib.hid hg.tos
  have HLE := Lib.hid he.fit.rcs
  have HLG := Lib.hid hg.fit.rcs
  obtain ⟨i1, d1, p1, c1, ⟨fl, fd⟩, r1, b1, n1, t1⟩ := e
  obtain ⟨i2, d2, p2, c2, ⟨gl, gd⟩, r2, b2, n2, t2⟩ := g
  obtain ⟨va, vc, rfl⟩ := he.tos.form
  obtain ⟨ua, uc, rfl⟩ := hg.tos.form
  unfold enAgg
  unfold enCells at HS0
  dsimp only at *
  have hl1 : (r1.length : Int) ≤ 1000 := by have := HLE.out; omega
  have hl2 : (r2.length : Int) ≤ 1000 := by have := HLG.out; omega
  clear he hg
  go_enter Tryz.func15, Tryz.ntmps15
  go_upto_region 1 with (fail)
  generalize (w.alloc _).alloc _ = w1 at *
  generalize w.heap.size + 1 = q2 at *
  generalize w.heap.size = q1 at *
  have e0 := HS0.out.pull1.cell
  have e1 := HS0.out.cell
  have HX1 := Lib.hid HS0.out.ext
  by_cases hlm : r1.length = r2.length
  · have hlm' : (r1.length : Int) = r2.length := by omega
    have HLM := Lib.hid hlm
    rw [← hlm'] at hl2
    have HR : Hid (∀ n : Nat, n = r2.length → ((n : Int) = r1.length)) := fun n h => by omega
    clear hl2
    rw [← hlm] at e1 HS0
    clear hlm hlm'
    go_wp2_with fail
    go_loopw [5] (fun z wr => ∃ k : Nat, z = .int .i64 k ∧ k ≤ r1.length ∧ r1.take k = r2.take k ∧ Sp w [] wr (boxR q2 #[.int .u64 i2, .string ⟨d2.toArray⟩, .int .u64 p2, .int .u64 c2, .string ⟨gl.toArray⟩, .string ⟨gd.toArray⟩, .slice ua r1.length uc, .int .u64 b2, .int .u64 n2, .int .i64 t2] 27 :: boxR q1 #[.int .u64 i1, .string ⟨d1.toArray⟩, .int .u64 p1, .int .u64 c1, .string ⟨fl.toArray⟩, .string ⟨fd.toArray⟩, .slice va r1.length vc, .int .u64 b1, .int .u64 n1, .int .i64 t1] 27 :: [])) (fun z _ => r1.length - (intOf z).toNat)
    case atStart => exact ⟨0, rfl, Nat.zero_le _, rfl, HS0.out⟩
    case round =>
      obtain ⟨k, rfl, hk, heq, S1⟩ := hrel
      have HEQ := Lib.hid heq
      have HS := Lib.hid S1
      have k0 := S1.pull1.cell
      have k1 := S1.cell
      clear heq S1 e0 e1
      have hk' : (k : Int) ≤ r1.length := by omega
      by_cases hlt : k < r1.length
      · have hlt' : (k : Int) < r1.length := by omega
        have hltm : k < r2.length := by have := HLM.out; omega
        obtain ⟨xb, xo, hxa, x0, x1, x2⟩ := (HTE.out.ext HS.out.ext).at hlt
        obtain ⟨yb, yo, hya, y0, y1, y2⟩ := (HTG.out.ext HS.out.ext).at hltm
        subst hxa hya
        have HN := Lib.hid (take_eq hlt hltm HEQ.out)
        have HNE : Hid (r1[k] ≠ r2[k] → r1 ≠ r2) := fun h1 h2 => h1 (by subst h2; rfl)
        generalize r1[k] = x at *
        generalize r2[k] = y at *
        obtain ⟨⟨xl, xd⟩, xs⟩ := x
        obtain ⟨⟨yl, yd⟩, ys⟩ := y
        dsimp only at *
        clear hltm
        by_cases he : ((xl, xd), xs) = ((yl, yd), ys)
        · have HN2 := Lib.hid (HN.out he)
          simp only [Prod.mk.injEq] at he
          obtain ⟨⟨rfl, rfl⟩, rfl⟩ := he
          go_upto_region 6 with (fail)
          go_region
          all_goals
            go_wp2_with fail
            go_roundw
            case rel => exact ⟨k + 1, by go_num, by omega, HN2.out, by first | exact HS.out | exact HS.out.drew⟩
            case measure => simp [intOf]; omega
        · have HW := Lib.hid (HV.out.trans (decide_eq_false (by rintro ⟨g1, g2, g3, g4, g5, g6, g7, g8, g9⟩; exact HNE.out he g6)))
          go_upto_region 6 with (fail)
          by_cases h1 : xl = yl
          · subst h1
            by_cases h2 : xd = yd
            · subst h2
              have h3 : xs ≠ ys := fun h => he (by rw [h])
              have h3' : (xs == ys) = false := by simpa using h3
              clear he
              go_region
              all_goals
                go_wp2
                go_ret
                rw [HW.out]
                exact ⟨rfl, by first | exact HS.out.ext | exact HS.out.drew.ext⟩
            · have h2' : (xd == yd) = false := by simpa using h2
              clear he
              go_region
              all_goals
                go_wp2
                go_ret
                rw [HW.out]
                exact ⟨rfl, by first | exact HS.out.ext | exact HS.out.drew.ext⟩
          · have h1' : (xl == yl) = false := by simpa using h1
            clear he
            go_region
            all_goals
              go_wp2
              go_ret
              rw [HW.out]
              exact ⟨rfl, by first | exact HS.out.ext | exact HS.out.drew.ext⟩
      · obtain rfl : k = r1.length := by omega
        have HR2 : Hid (r1 = r2) := by
          have := HEQ.out
          unfold Hid
          rw [List.take_length, HLM.out, List.take_length] at this
          exact this
        have HX := Lib.hid HS.out.ext
        clear hlt hk hk'
        by_cases hne : i1 = i2
        · subst hne
          by_cases hne : d1 = d2
          · subst hne
            by_cases hne : p1 = p2
            · subst hne
              by_cases hne : c1 = c2
              · subst hne
                by_cases hne : fl = gl
                · subst hne
                  by_cases hne : fd = gd
                  · subst hne
                    by_cases hne : b1 = b2
                    · subst hne
                      by_cases hne : n1 = n2
                      · subst hne
                        by_cases hne : t1 = t2
                        · subst hne
                          have HW := Lib.hid (HV.out.trans (decide_eq_true ⟨by trivial, by trivial, by trivial, by trivial, by trivial, HR2.out, by trivial, by trivial, by trivial⟩))
                          go_wp2
                          go_ret
                          rw [HW.out]
                          exact ⟨rfl, HX.out⟩
                        · have hb : (t1 == t2) = false := by simpa using hne
                          have HW := Lib.hid (HV.out.trans (decide_eq_false (by rintro ⟨g1, g2, g3, g4, g5, g6, g7, g8, g9⟩; exact hne (by first | exact g1 | exact g2 | exact g3 | exact g4 | exact (Prod.mk.inj g5).1 | exact (Prod.mk.inj g5).2 | exact g7 | exact g8 | exact g9))))
                          go_wp2
                          go_ret
                          rw [HW.out]
                          exact ⟨rfl, HX.out⟩
                      · have hb : ((n1 : Int) == n2) = false := by simpa using fun h => hne (by omega)
                        have HW := Lib.hid (HV.out.trans (decide_eq_false (by rintro ⟨g1, g2, g3, g4, g5, g6, g7, g8, g9⟩; exact hne (by first | exact g1 | exact g2 | exact g3 | exact g4 | exact (Prod.mk.inj g5).1 | exact (Prod.mk.inj g5).2 | exact g7 | exact g8 | exact g9))))
                        go_wp2
                        go_ret
                        rw [HW.out]
                        exact ⟨rfl, HX.out⟩
                    · have hb : ((b1 : Int) == b2) = false := by simpa using fun h => hne (by omega)
                      have HW := Lib.hid (HV.out.trans (decide_eq_false (by rintro ⟨g1, g2, g3, g4, g5, g6, g7, g8, g9⟩; exact hne (by first | exact g1 | exact g2 | exact g3 | exact g4 | exact (Prod.mk.inj g5).1 | exact (Prod.mk.inj g5).2 | exact g7 | exact g8 | exact g9))))
                      go_wp2
                      go_ret
                      rw [HW.out]
                      exact ⟨rfl, HX.out⟩
                  · have hb : (fd == gd) = false := by simpa using hne
                    have HW := Lib.hid (HV.out.trans (decide_eq_false (by rintro ⟨g1, g2, g3, g4, g5, g6, g7, g8, g9⟩; exact hne (by first | exact g1 | exact g2 | exact g3 | exact g4 | exact (Prod.mk.inj g5).1 | exact (Prod.mk.inj g5).2 | exact g7 | exact g8 | exact g9))))
                    go_wp2
                    go_ret
                    rw [HW.out]
                    exact ⟨rfl, HX.out⟩
                · have hb : (fl == gl) = false := by simpa using hne
                  have HW := Lib.hid (HV.out.trans (decide_eq_false (by rintro ⟨g1, g2, g3, g4, g5, g6, g7, g8, g9⟩; exact hne (by first | exact g1 | exact g2 | exact g3 | exact g4 | exact (Prod.mk.inj g5).1 | exact (Prod.mk.inj g5).2 | exact g7 | exact g8 | exact g9))))
                  go_wp2
                  go_ret
                  rw [HW.out]
                  exact ⟨rfl, HX.out⟩
              · have hb : ((c1 : Int) == c2) = false := by simpa using fun h => hne (by omega)
                have HW := Lib.hid (HV.out.trans (decide_eq_false (by rintro ⟨g1, g2, g3, g4, g5, g6, g7, g8, g9⟩; exact hne (by first | exact g1 | exact g2 | exact g3 | exact g4 | exact (Prod.mk.inj g5).1 | exact (Prod.mk.inj g5).2 | exact g7 | exact g8 | exact g9))))
                go_wp2
                go_ret
                rw [HW.out]
                exact ⟨rfl, HX.out⟩
            · have hb : ((p1 : Int) == p2) = false := by simpa using fun h => hne (by omega)
              have HW := Lib.hid (HV.out.trans (decide_eq_false (by rintro ⟨g1, g2, g3, g4, g5, g6, g7, g8, g9⟩; exact hne (by first | exact g1 | exact g2 | exact g3 | exact g4 | exact (Prod.mk.inj g5).1 | exact (Prod.mk.inj g5).2 | exact g7 | exact g8 | exact g9))))
              go_wp2
              go_ret
              rw [HW.out]
              exact ⟨rfl, HX.out⟩
          · have hb : (d1 == d2) = false := by simpa using hne
            have HW := Lib.hid (HV.out.trans (decide_eq_false (by rintro ⟨g1, g2, g3, g4, g5, g6, g7, g8, g9⟩; exact hne (by first | exact g1 | exact g2 | exact g3 | exact g4 | exact (Prod.mk.inj g5).1 | exact (Prod.mk.inj g5).2 | exact g7 | exact g8 | exact g9))))
            go_wp2
            go_ret
            rw [HW.out]
            exact ⟨rfl, HX.out⟩
        · have hb : ((i1 : Int) == i2) = false := by simpa using fun h => hne (by omega)
          have HW := Lib.hid (HV.out.trans (decide_eq_false (by rintro ⟨g1, g2, g3, g4, g5, g6, g7, g8, g9⟩; exact hne (by first | exact g1 | exact g2 | exact g3 | exact g4 | exact (Prod.mk.inj g5).1 | exact (Prod.mk.inj g5).2 | exact g7 | exact g8 | exact g9))))
          go_wp2
          go_ret
          rw [HW.out]
          exact ⟨rfl, HX.out⟩
  · have hb : ((r1.length : Int) == r2.length) = false := by simpa using fun h => hlm (by omega)
    have HW := Lib.hid (HV.out.trans (decide_eq_false (by rintro ⟨g1, g2, g3, g4, g5, g6, g7, g8, g9⟩; exact hlm (by rw [g6]))))
    go_wp2
    go_ret
    rw [HW.out]
    exact ⟨rfl, HX1.out⟩
end
end Go.Proofs.YtkenacggjffjnaaGreatDoor

/-! R15r -/
namespace Go.Proofs.YtkenacggjffjnaaGreatDoor
open Go.RowKit

section
variable {w0 w : World} {L : List Res} {F0 : List Nat} {b : Nat} {v : Value}
theorem rdMb_parts (m : Nat) (r : Rd) : rdMb m r = (((r.text m).1, ((r.text m).2.text m).1), ((r.text m).2.text m).2) := rfl
set_option maxRecDepth 100000 in
set_option maxHeartbeats 8000000 in
theorem r15ReadS (s : Bs) (hs : s.length ≤ 1000000) (S : Sp w0 [] w L) : Calls Tryz.prog 14 #[.string ⟨s.toArray⟩] w fun r w2 => ∃ v, r = .returned (.tuple #[enAgg (refRead s).1 v, .int .i64 (refRead s).2]) ∧ Sp w0 [] w2 (tosR v (refRead s).1.rcs :: L) := by
  have HS0 := Lib.hid (S.box #[.int .u64 0, .string ⟨#[]⟩, .int .u64 0, .int .u64 0, .string ⟨#[]⟩, .string ⟨#[]⟩, .slice none 0 0, .int .u64 0, .int .u64 0, .int .i64 0] 27)
  have HL0 : Hid ((⟨s, false⟩ : Rd).s.length ≤ 1000000) := hs
  have HFIT := Lib.hid (rdEn_fit 1000 (by omega) ⟨s, false⟩)
  have HV : Hid (refRead s = if (rdEn 1000 ⟨s, false⟩).2.done = 0 ∧ (enHead (rdEn 1000 ⟨s, false⟩).1).2 = 0 ∧ (enHead (rdEn 1000 ⟨s, false⟩).1).1 = s then ((rdEn 1000 ⟨s, false⟩).1, 0) else (En.zero, 2)) := rfl
  have HR := Lib.hid (rdEn_parts 1000 ⟨s, false⟩)
  generalize rdEn 1000 ⟨s, false⟩ = X at *
  clear S hs
  go_enter Tryz.func14, Tryz.ntmps14
  go_upto_region 1 with (fail)
  generalize w.alloc _ = w1 at *
  generalize w.heap.size = q2 at *
  have HSI := Lib.hid (HS0.out.box #[.string ⟨s.toArray⟩, .bool false] 85)
  go_upto_region 2 with (fail)
  generalize w1.alloc _ = w2 at *
  generalize w1.heap.size = b at *
  have HS1 : Hid (Sp w0 [] _ (rdR 85 b ⟨s, false⟩ :: enR w2.heap.size 0 [] 0 0 ([], []) (.slice none 0 0) 0 0 0 :: tosR (.slice none 0 0) [] :: enR q2 0 [] 0 0 ([], []) (.slice none 0 0) 0 0 0 :: L)) := Lib.hid ((Sp.pick [_, _, _, _] [2, 1, 0, 3] (by decide) ((HSI.out.box #[.int .u64 0, .string ⟨#[]⟩, .int .u64 0, .int .u64 0, .string ⟨#[]⟩, .string ⟨#[]⟩, .slice none 0 0, .int .u64 0, .int .u64 0, .int .i64 0] 27).tosNil)))
  generalize hr0 : (⟨s, false⟩ : Rd) = r0 at *
  clear HS0 HSI hr0
  go_upto_region 3 with (fail)
  generalize w2.alloc _ = w3 at *
  generalize w2.heap.size = q5 at *
  go_wp2_with fail
  refine (r12ReadL 1099511627776 1099511627776 rfl HS1.out (by have := HL0.out; omega)).mono ?_
  have HL1 : Hid ((r0.num 1099511627776).2.s.length ≤ 1000000) := by have := num_len r0 1099511627776; have := HL0.out; unfold Hid; omega
  have hle := num_le r0 1099511627776
  generalize r0.num 1099511627776 = a at *
  have hle1 : (a.1 : Int) ≤ 1099511627776 := by omega
  rintro e wn1 ⟨rfl, S⟩
  clear hle
  have c1 := S.pull1.cell
  have f1 := S.pull1.free
  have HS2 := Lib.hid ((S.pull1.set (o := 0) (.int .u64 a.1)).pull1)
  clear S HS1
  go_wp2_with fail
  refine (r12TextL 1000 1000 rfl HS2.out (by have := HL1.out; omega) (by omega)).mono ?_
  have HL2 : Hid ((a.2.text 1000).2.s.length ≤ 1000000) := by have := text_len a.2 1000; have := HL1.out; unfold Hid; omega
  generalize a.2.text 1000 = b1 at *
  rintro e wn2 ⟨rfl, S⟩
  have c2 := S.pull1.cell
  have f2 := S.pull1.free
  have HS3 := Lib.hid ((S.pull1.set (o := 1) (.string ⟨b1.1.toArray⟩)).pull1)
  clear S HS2 c1 f1
  go_wp2_with fail
  refine (r12ReadL 1099511627776 1099511627776 rfl HS3.out (by have := HL2.out; omega)).mono ?_
  have HL3 : Hid ((b1.2.num 1099511627776).2.s.length ≤ 1000000) := by have := num_len b1.2 1099511627776; have := HL2.out; unfold Hid; omega
  have hle := num_le b1.2 1099511627776
  generalize b1.2.num 1099511627776 = c at *
  have hle3 : (c.1 : Int) ≤ 1099511627776 := by omega
  rintro e wn3 ⟨rfl, S⟩
  clear hle
  have c3 := S.pull1.cell
  have f3 := S.pull1.free
  have HS4 := Lib.hid ((S.pull1.set (o := 2) (.int .u64 c.1)).pull1)
  clear S HS3 c2 f2
  go_wp2_with fail
  refine (r12ReadL 1099511627776 1099511627776 rfl HS4.out (by have := HL3.out; omega)).mono ?_
  have HL4 : Hid ((c.2.num 1099511627776).2.s.length ≤ 1000000) := by have := num_len c.2 1099511627776; have := HL3.out; unfold Hid; omega
  have hle := num_le c.2 1099511627776
  generalize c.2.num 1099511627776 = d at *
  have hle4 : (d.1 : Int) ≤ 1099511627776 := by omega
  rintro e wn4 ⟨rfl, S⟩
  clear hle
  have c4 := S.pull1.cell
  have f4 := S.pull1.free
  have HS5 := Lib.hid ((S.pull1.set (o := 3) (.int .u64 d.1)).pull1)
  clear S HS4 c3 f3
  rw [rdMb_parts] at HR
  dsimp only at HR
  go_wp2_with fail
  refine (r12TextL 1000 1000 rfl HS5.out (by have := HL4.out; omega) (by omega)).mono ?_
  have HL5 : Hid ((d.2.text 1000).2.s.length ≤ 1000000) := by have := text_len d.2 1000; have := HL4.out; unfold Hid; omega
  generalize d.2.text 1000 = x4 at *
  rintro e wn5 ⟨rfl, S⟩
  have c5 := S.pull1.cell
  have f5 := S.pull1.free
  have HS6 := Lib.hid ((S.pull1.set (o := 4) (.string ⟨x4.1.toArray⟩)).pull1)
  clear S HS5 c4 f4
  go_wp2_with fail
  refine (r12TextL 1000 1000 rfl HS6.out (by have := HL5.out; omega) (by omega)).mono ?_
  have HL6 : Hid ((x4.2.text 1000).2.s.length ≤ 1000000) := by have := text_len x4.2 1000; have := HL5.out; unfold Hid; omega
  generalize x4.2.text 1000 = x5 at *
  rintro e wn6 ⟨rfl, S⟩
  have c6 := S.pull1.cell
  have f6 := S.pull1.free
  have HS7 := Lib.hid ((S.pull1.set (o := 5) (.string ⟨x5.1.toArray⟩)).pull1)
  clear S HS6 c5 f5
  go_wp2_with fail
  refine (r12ReadL 10 10 rfl HS7.out (by have := HL6.out; omega)).mono ?_
  have HL7 : Hid ((x5.2.num 10).2.s.length ≤ 1000000) := by have := num_len x5.2 10; have := HL6.out; unfold Hid; omega
  have hle := num_le x5.2 10
  generalize x5.2.num 10 = nr at *
  have hle7 : (nr.1 : Int) ≤ 10 := by omega
  rintro e wn7 ⟨rfl, S⟩
  clear hle
  have HS8 := Lib.hid S
  clear S HS7 c6 f6
  have HSN : Hid (Sp w0 [] wn7 (rdR 85 b nr.2 :: enR q5 a.1 b1.1 c.1 d.1 (x4.1, x5.1) (.slice none 0 0) 0 0 0 :: tosR (.slice none 0 0) [] :: enR q2 0 [] 0 0 ([], []) (.slice none 0 0) 0 0 0 :: L)) := HS8.out
  have HLN := HL7
  clear HS8
  go_wp2_with fail
  go_loopw [7] (fun at0 wr => ∃ (k : Nat) (r1 : Rd) (v1 : Value) (dn : List Rcp), at0 = .int .u64 k ∧ k ≤ nr.1 ∧ dn.length = k ∧ rdRcs 1000 nr.1 nr.2 = (dn ++ (rdRcs 1000 (nr.1 - k) r1).1, (rdRcs 1000 (nr.1 - k) r1).2) ∧ r1.s.length ≤ 1000000 ∧ Sp w0 [] wr (rdR 85 b r1 :: enR q5 a.1 b1.1 c.1 d.1 (x4.1, x5.1) v1 0 0 0 :: tosR v1 dn :: enR q2 0 [] 0 0 ([], []) (.slice none 0 0) 0 0 0 :: L)) (fun at0 _ => nr.1 - (intOf at0).toNat)
  case atStart => exact ⟨0, nr.2, .slice none 0 0, [], rfl, Nat.zero_le _, rfl, rfl, HLN.out, HSN.out⟩
  case round =>
    obtain ⟨k, r1, v1, dn, rfl, hk, hd, heq, hl, S1⟩ := hrel
    have hk' : (k : Int) ≤ nr.1 := by omega
    by_cases hlt : k < nr.1
    · have hlt' : (k : Int) < nr.1 := by omega
      have HEQ : Hid (rdRcs 1000 nr.1 nr.2 = (dn ++ ((((r1.text 1000).1, ((r1.text 1000).2.text 1000).1), ((((r1.text 1000).2.text 1000).2.num 2).1 : Int)) :: (rdRcs 1000 (nr.1 - (k + 1)) (((r1.text 1000).2.text 1000).2.num 2).2).1), (rdRcs 1000 (nr.1 - (k + 1)) (((r1.text 1000).2.text 1000).2.num 2).2).2)) := by
        unfold Hid
        rw [heq, show nr.1 - k = (nr.1 - (k + 1)) + 1 by omega]
        rfl
      have HD := Lib.hid hd
      have HLa := Lib.hid hl
      have HSa := Lib.hid (S1.box #[.string ⟨#[]⟩, .string ⟨#[]⟩, .int .i64 0] 62).pull1
      clear heq hd hl S1 HSN
      go_upto_region 14 with (fail)
      generalize wr.alloc _ = wa at *
      generalize wr.heap.size = q6 at *
      go_wp2_with fail
      refine (r12TextL 1000 1000 rfl HSa.out (by have := HLa.out; omega) (by omega)).mono ?_
      have HLb : Hid ((r1.text 1000).2.s.length ≤ 1000000) := by have := text_len r1 1000; have := HLa.out; unfold Hid; omega
      generalize r1.text 1000 = y1 at *
      rintro e wb ⟨rfl, S⟩
      have ca := S.pull1.cell
      have fa := S.pull1.free
      have HSb := Lib.hid ((S.pull1.set (o := 0) (.string ⟨y1.1.toArray⟩)).pull1)
      clear S HSa
      go_wp2_with fail
      refine (r12TextL 1000 1000 rfl HSb.out (by have := HLb.out; omega) (by omega)).mono ?_
      have HLc : Hid ((y1.2.text 1000).2.s.length ≤ 1000000) := by have := text_len y1.2 1000; have := HLb.out; unfold Hid; omega
      generalize y1.2.text 1000 = y2 at *
      rintro e wc ⟨rfl, S⟩
      have cb := S.pull1.cell
      have fb := S.pull1.free
      have HSc := Lib.hid ((S.pull1.set (o := 1) (.string ⟨y2.1.toArray⟩)).pull1)
      clear S HSb ca fa
      go_wp2_with fail
      refine (r12ReadL 2 2 rfl HSc.out (by have := HLc.out; omega)).mono ?_
      have HNL := Lib.hid (num_len y2.2 2)
      have hle := num_le y2.2 2
      generalize y2.2.num 2 = y at *
      have hle' : (y.1 : Int) ≤ 2 := by omega
      rintro e wd ⟨rfl, S⟩
      have cx := S.pull1.cell
      have fx := S.pull1.free
      have S2 := S.pull1.set (o := 2) (.int .i64 y.1)
      have cq := ((Sp.pick [_, _, _] [2] (by decide) (S2))).cell
      have fq := ((Sp.pick [_, _, _] [2] (by decide) (S2))).free
      have cy := S2.cell
      have S3 := S2.box #[.string ⟨y1.1.toArray⟩, .string ⟨y2.1.toArray⟩, .int .i64 y.1] 62
      simp only [World.size_setCell] at S3
      obtain ⟨g, cap, we, hrun, S4⟩ := Sp.appendTo 25 (((y1.1, y2.1), (y.1 : Int)) : Rcp) (by have := HD.out; omega) ((Sp.pick [_, _, _, _, _, _] [0, 4, 2, 3, 5] (by decide) (S3)))
      have HRUN := Lib.hid hrun
      have cr := ((Sp.pick [_, _, _] [2] (by decide) (S4))).cell
      have fr := ((Sp.pick [_, _, _] [2] (by decide) (S4))).free
      have S5 := ((Sp.pick [_, _, _, _] [2, 0, 1, 3] (by decide) (S4))).set (o := 6) (.slice (some ⟨g, 0, none⟩) (dn.length + 1) cap)
      have HS5 := Lib.hid ((Sp.pick [_, _, _, _] [2, 0, 1, 3] (by decide) (S5)))
      clear S S2 S3 S4 S5 hrun HSc cb fb
      go_wp2_with (at_builtin; refine wpList_append_run (by rfl) (by rfl) (by rfl) (by rfl) HRUN.out ?_)
      go_roundw
      case rel => exact ⟨k + 1, y.2, .slice (some ⟨g, 0, none⟩) (dn.length + 1) cap, dn ++ [(((y1.1, y2.1), (y.1 : Int)) : Rcp)], by go_num, by omega, by have := HD.out; simp; exact this, by rw [HEQ.out]; simp, by have := HNL.out; have := HLc.out; omega, HS5.out⟩
      case measure => simp [intOf]; omega
    · obtain rfl : k = nr.1 := by omega
      have heq2 : rdRcs 1000 nr.1 nr.2 = (dn, r1) := by
        rw [heq, Nat.sub_self]
        simp [rdRcs]
      rw [heq2] at HR
      have HLw7 := Lib.hid hl
      have HSw8 := Lib.hid S1
      clear heq hd hl S1 HSN heq2
      dsimp only at HR
      clear hlt hk hk'
      go_wp2_with fail
      refine (r12ReadL 1099511627776 1099511627776 rfl HSw8.out (by have := HLw7.out; omega)).mono ?_
      have HLw8 : Hid ((r1.num 1099511627776).2.s.length ≤ 1000000) := by have := num_len r1 1099511627776; have := HLw7.out; unfold Hid; omega
      have hle := num_le r1 1099511627776
      generalize r1.num 1099511627776 = g at *
      have hlw8 : (g.1 : Int) ≤ 1099511627776 := by omega
      rintro e wn18 ⟨rfl, S⟩
      clear hle
      have cw8 := S.pull1.cell
      have fw8 := S.pull1.free
      have HSw9 := Lib.hid ((S.pull1.set (o := 7) (.int .u64 g.1)).pull1)
      clear S HSw8
      go_wp2_with fail
      refine (r12ReadL 1099511627776 1099511627776 rfl HSw9.out (by have := HLw8.out; omega)).mono ?_
      have HLw9 : Hid ((g.2.num 1099511627776).2.s.length ≤ 1000000) := by have := num_len g.2 1099511627776; have := HLw8.out; unfold Hid; omega
      have hle := num_le g.2 1099511627776
      generalize g.2.num 1099511627776 = h at *
      have hlw9 : (h.1 : Int) ≤ 1099511627776 := by omega
      rintro e wn19 ⟨rfl, S⟩
      clear hle
      have cw9 := S.pull1.cell
      have fw9 := S.pull1.free
      have HSw10 := Lib.hid ((S.pull1.set (o := 8) (.int .u64 h.1)).pull1)
      clear S HSw9 cw8 fw8
      go_wp2_with fail
      refine (r12ReadL 100 100 rfl HSw10.out (by have := HLw9.out; omega)).mono ?_
      have HLw10 : Hid ((h.2.num 100).2.s.length ≤ 1000000) := by have := num_len h.2 100; have := HLw9.out; unfold Hid; omega
      have hle := num_le h.2 100
      generalize h.2.num 100 = t at *
      have hlw10 : (t.1 : Int) ≤ 100 := by omega
      rintro e wn20 ⟨rfl, S⟩
      clear hle
      have cw10 := S.pull1.cell
      have fw10 := S.pull1.free
      have HSw11 := Lib.hid ((S.pull1.set (o := 9) (.int .i64 t.1)).pull1)
      clear S HSw10 cw9 fw9
      have HS9 : Hid (Sp w0 [] (wn20.setCell ⟨q5, 9, none⟩ (.int .i64 t.1)) (enR q5 a.1 b1.1 c.1 d.1 (x4.1, x5.1) v1 g.1 h.1 t.1 :: rdR 85 b t.2 :: tosR v1 dn :: enR q2 0 [] 0 0 ([], []) (.slice none 0 0) 0 0 0 :: L)) := Lib.hid HSw11.out.pull1
      clear HSw11
      obtain ⟨va, vc, rfl⟩ := ((Sp.pick [_, _, _] [2] (by decide) (HS9.out))).tosAt.form
      go_upto_region 21 with (fail)
      generalize wn20.setCell ⟨q5, 9, none⟩ (.int .i64 t.1) = wx at *
      have ce := HS9.out.cell
      have HX : Hid (X.1 = ⟨a.1, b1.1, c.1, d.1, (x4.1, x5.1), dn, g.1, h.1, t.1⟩) := by rw [HR.out]; exact Eq.refl _
      have HD : Hid (X.2.done = t.2.done) := by rw [HR.out]; exact Eq.refl _
      rw [HX.out, HD.out] at HV
      rw [HX.out] at HFIT
      have HM := Lib.hid (r15Head_any ⟨a.1, b1.1, c.1, d.1, (x4.1, x5.1), dn, g.1, h.1, t.1⟩ (.slice va dn.length vc) wx HFIT.out ((Sp.pick [_, _, _] [2] (by decide) (HS9.out))).tosAt)
      unfold enAgg at HM
      dsimp only at HM
      clear cw10 fw10 HR HX HD HFIT
      generalize enHead ⟨a.1, b1.1, c.1, d.1, (x4.1, x5.1), dn, g.1, h.1, t.1⟩ = hh at *
      obtain ⟨h1, h2⟩ := hh
      dsimp only at HM HV
      go_wp2_with fail
      refine HM.out.mono ?_
      rintro e wy ⟨rfl, hx⟩
      have S := HS9.out.ext0 hx
      have HSy := Lib.hid S
      have cf := S.cell
      have S2 := (Sp.pick [_, _, _, _] [3, 2] (by decide) (S))
      have d0 := S2.cell
      have f0 := S2.free
      clear hx HS9 ce HM
      have HSG := Lib.hid (((((((((((S2.set (o := 0) (.int .u64 a.1)).set (o := 1) (.string ⟨b1.1.toArray⟩)).set (o := 2) (.int .u64 c.1)).set (o := 3) (.int .u64 d.1)).set (o := 4) (.string ⟨x4.1.toArray⟩)).set (o := 5) (.string ⟨x5.1.toArray⟩)).set (o := 6) (.slice va dn.length vc)).set (o := 7) (.int .u64 g.1)).set (o := 8) (.int .u64 h.1)).set (o := 9) (.int .i64 t.1)).drop)
      have HSB := Lib.hid (((((((((((S2.set (o := 0) (.int .u64 0)).set (o := 1) (.string ⟨#[]⟩)).set (o := 2) (.int .u64 0)).set (o := 3) (.int .u64 0)).set (o := 4) (.string ⟨#[]⟩)).set (o := 5) (.string ⟨#[]⟩)).set (o := 6) (.slice none 0 0)).set (o := 7) (.int .u64 0)).set (o := 8) (.int .u64 0)).set (o := 9) (.int .i64 0)).drop.drop.tosNil)
      clear S S2
      go_wp2_with fail
      refine (r12DoneS ((Sp.pick [_, _] [1] (by decide) (HSy.out)))).mono ?_
      rintro e wz ⟨rfl, rfl⟩
      generalize t.2.done = dd at *
      by_cases hok : dd = 0 ∧ h2 = 0 ∧ h1 = s
      · have HW : Hid (refRead s = (⟨a.1, b1.1, c.1, d.1, (x4.1, x5.1), dn, g.1, h.1, t.1⟩, 0)) := HV.out.trans (if_pos hok)
        obtain ⟨hd0, hh2, hh1⟩ := hok
        subst hd0 hh2 hh1
        clear HV HSy
        go_wp2
        rw [HW.out]
        exact bodyPost_ret (v := .tuple #[.agg #[.int .u64 a.1, .string ⟨b1.1.toArray⟩, .int .u64 c.1, .int .u64 d.1, .string ⟨x4.1.toArray⟩, .string ⟨x5.1.toArray⟩, .slice va dn.length vc, .int .u64 g.1, .int .u64 h.1, .int .i64 t.1], .int .i64 0]) (by simp [results, Tryz.results14, go_sem, d0]) rfl ⟨_, rfl, HSG.out⟩
      · have HW : Hid (refRead s = (En.zero, 2)) := HV.out.trans (if_neg hok)
        clear HV HSy
        by_cases hdd : dd = 0
        · subst hdd
          by_cases hh2 : h2 = 0
          · subst hh2
            have hne : h1 ≠ s := fun h => hok ⟨by trivial, by trivial, h⟩
            have hb : (h1 == s) = false := by simpa using hne
            clear hok hne
            go_wp2
            rw [HW.out]
            exact bodyPost_ret (v := .tuple #[.agg #[.int .u64 0, .string ⟨#[]⟩, .int .u64 0, .int .u64 0, .string ⟨#[]⟩, .string ⟨#[]⟩, .slice none 0 0, .int .u64 0, .int .u64 0, .int .i64 0], .int .i64 2]) (by simp [results, Tryz.results14, go_sem, d0]) rfl ⟨.slice none 0 0, rfl, HSB.out⟩
          · have hb : (h2 == 0) = false := by simpa using hh2
            clear hok
            go_wp2
            rw [HW.out]
            exact bodyPost_ret (v := .tuple #[.agg #[.int .u64 0, .string ⟨#[]⟩, .int .u64 0, .int .u64 0, .string ⟨#[]⟩, .string ⟨#[]⟩, .slice none 0 0, .int .u64 0, .int .u64 0, .int .i64 0], .int .i64 2]) (by simp [results, Tryz.results14, go_sem, d0]) rfl ⟨.slice none 0 0, rfl, HSB.out⟩
        · have hb : (dd == 0) = false := by simpa using hdd
          clear hok
          go_wp2
          rw [HW.out]
          exact bodyPost_ret (v := .tuple #[.agg #[.int .u64 0, .string ⟨#[]⟩, .int .u64 0, .int .u64 0, .string ⟨#[]⟩, .string ⟨#[]⟩, .slice none 0 0, .int .u64 0, .int .u64 0, .int .i64 0], .int .i64 2]) (by simp [results, Tryz.results14, go_sem, d0]) rfl ⟨.slice none 0 0, rfl, HSB.out⟩
end
end Go.Proofs.YtkenacggjffjnaaGreatDoor
