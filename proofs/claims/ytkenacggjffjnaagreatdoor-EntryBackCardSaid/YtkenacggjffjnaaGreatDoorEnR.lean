/- entry: a head is read. Conditions: the lengths fit; what Go's variables hold. -/
import Derived.Test.YtkenacggjffjnaaGreatDoorEnM
set_option linter.unusedSimpArgs false
set_option linter.unusedVariables false
set_option linter.unnecessarySimpa false
namespace Go.Proofs.YtkenacggjffjnaaGreatDoor
open Go.RowKit

section
variable {w0 w : World} {L : List Res} {F0 : List Nat} {b : Nat} {v : Value} {e : En} {r : Rd}
theorem rdMb_len (m : Nat) (r : Rd) : (rdMb m r).2.s.length ≤ r.s.length := by
  unfold rdMb
  have h1 := text_len r m
  have h2 := text_len (r.text m).2 m
  dsimp only
  omega
theorem rdRc_len (m : Nat) (r : Rd) : (rdRc m r).2.s.length ≤ r.s.length := by
  unfold rdRc
  have h1 := rdMb_len m r
  have h2 := num_len (rdMb m r).2 2
  dsimp only
  omega
set_option maxRecDepth 100000 in
set_option maxHeartbeats 1000000 in
theorem enReadBoxS (S : Sp w0 F0 w (rdR 79 b r :: L)) (hs : r.s.length ≤ 1000000) : Calls Tryz.prog 41 #[.pointer (some ⟨b, 0, none⟩)] w fun e w2 => e = .returned (mbAgg (rdMb 300 r).1) ∧ Sp w0 F0 w2 (rdR 79 b (rdMb 300 r).2 :: L) := by
  have HS0 := Lib.hid (S.box #[.string ⟨#[]⟩, .string ⟨#[]⟩] 24).pull1
  have HL := Lib.hid hs
  have HL1 := Lib.hid (text_len r 300)
  have HV : Hid (rdMb 300 r = (((r.text 300).1, ((r.text 300).2.text 300).1), ((r.text 300).2.text 300).2)) := rfl
  clear S hs
  go_enter Tryz.func41, Tryz.ntmps41
  go_upto_region 1 with (fail)
  generalize w.alloc (.cells #[.string ⟨#[]⟩, .string ⟨#[]⟩] 24) = w1 at *
  generalize w.heap.size = q at *
  go_wp2_with fail
  refine (rdTextS 300 300 rfl HS0.out (by have := HL.out; omega) (by omega)).mono ?_
  rintro e w2 ⟨rfl, S⟩
  have HS2 := Lib.hid S
  generalize r.text 300 = a at *
  clear S HS0
  go_wp2_with fail
  refine (rdTextS 300 300 rfl HS2.out (by have := HL.out; have := HL1.out; omega) (by omega)).mono ?_
  rintro e w3 ⟨rfl, S⟩
  generalize a.2.text 300 = c at *
  have d0 := S.pull1.cell
  have f0 := S.pull1.free
  have HS3 := Lib.hid ((S.pull1.set (o := 0) (.string ⟨a.1.toArray⟩)).set (o := 1) (.string ⟨c.1.toArray⟩)).drop
  clear S HS2
  go_wp2
  rw [HV.out]
  exact bodyPost_ret (v := .agg #[.string ⟨a.1.toArray⟩, .string ⟨c.1.toArray⟩]) (by simp [results, Tryz.results41, go_sem, d0]) rfl ⟨rfl, HS3.out⟩
theorem rdEn_parts (m : Nat) (r : Rd) : rdEn m r = (
  let a := r.num 1099511627776
  let b := a.2.text m
  let c := b.2.num 1099511627776
  let d := c.2.num 1099511627776
  let f := rdMb m d.2
  let n := f.2.num 10
  let l := rdRcs m n.1 n.2
  let g := l.2.num 1099511627776
  let h := g.2.num 1099511627776
  let t := h.2.num 100
  ((⟨a.1, b.1, c.1, d.1, f.1, l.1, g.1, h.1, t.1⟩, t.2) : En × Rd)) := rfl
/-- The block of an entry. -/
abbrev enR (b : Nat) (id : Nat) (dom : Bs) (ep cnt : Nat) (f : Mb) (v : Value) (born nxt : Nat) (tries : Int) : Res := boxR b #[.int .u64 id, .string ⟨dom.toArray⟩, .int .u64 ep, .int .u64 cnt, .string ⟨f.1.toArray⟩, .string ⟨f.2.toArray⟩, v, .int .u64 born, .int .u64 nxt, .int .i64 tries] 27
set_option maxRecDepth 100000 in
set_option maxHeartbeats 4000000 in
theorem enReadS (s : Bs) (hs : s.length ≤ 1000000) (E : Env w0) (S : Sp w0 [] w L) : Calls Tryz.prog 13 #[.string ⟨s.toArray⟩] w fun r w2 => ∃ v, r = .returned (.tuple #[enAgg (enRead 300 s).1 v, .int .i64 (enRead 300 s).2]) ∧ Sp w0 [] w2 (tosR v (enRead 300 s).1.rcs :: L) := by
  have HS0 := Lib.hid (S.box #[.int .u64 0, .string ⟨#[]⟩, .int .u64 0, .int .u64 0, .string ⟨#[]⟩, .string ⟨#[]⟩, .slice none 0 0, .int .u64 0, .int .u64 0, .int .i64 0] 27)
  have HL0 : Hid ((⟨s, false⟩ : Rd).s.length ≤ 1000000) := hs
  have HE := Lib.hid E
  have HFIT := Lib.hid (rdEn_fit 300 (by omega) ⟨s, false⟩)
  have HV : Hid (enRead 300 s = if (rdEn 300 ⟨s, false⟩).2.done = 0 ∧ enMay (rdEn 300 ⟨s, false⟩).1 = true then ((rdEn 300 ⟨s, false⟩).1, 0) else (En.zero, 2)) := rfl
  have HR := Lib.hid (rdEn_parts 300 ⟨s, false⟩)
  generalize rdEn 300 ⟨s, false⟩ = X at *
  generalize hr0 : (⟨s, false⟩ : Rd) = r0 at *
  clear S hs E
  go_enter Tryz.func13, Tryz.ntmps13
  go_upto_region 1 with (fail)
  generalize w.alloc (.cells #[.int .u64 0, .string ⟨#[]⟩, .int .u64 0, .int .u64 0, .string ⟨#[]⟩, .string ⟨#[]⟩, .slice none 0 0, .int .u64 0, .int .u64 0, .int .i64 0] 27) = w1 at *
  generalize w.heap.size = q2 at *
  go_wp2_with fail
  refine (fromS HS0.out s).mono ?_
  rw [hr0]
  rintro e w2 ⟨b, rfl, S⟩
  have HS1 := Lib.hid ((Sp.pick [_, _, _, _] [2, 1, 0, 3] (by decide) ((S.box #[.int .u64 0, .string ⟨#[]⟩, .int .u64 0, .int .u64 0, .string ⟨#[]⟩, .string ⟨#[]⟩, .slice none 0 0, .int .u64 0, .int .u64 0, .int .i64 0] 27).tosNil)))
  clear S HS0 hr0
  go_upto_region 3 with (fail)
  generalize w2.alloc (.cells #[.int .u64 0, .string ⟨#[]⟩, .int .u64 0, .int .u64 0, .string ⟨#[]⟩, .string ⟨#[]⟩, .slice none 0 0, .int .u64 0, .int .u64 0, .int .i64 0] 27) = w3 at *
  generalize w2.heap.size = q5 at *
  go_wp2_with fail
  refine (rdNumS 1099511627776 1099511627776 rfl HS1.out (by have := HL0.out; omega)).mono ?_
  have HL1 : Hid ((r0.num 1099511627776).2.s.length ≤ 1000000) := by have := num_len r0 1099511627776; have := HL0.out; unfold Hid; omega
  generalize r0.num 1099511627776 = a at *
  rintro e w4 ⟨rfl, S⟩
  have c1 := S.pull1.cell
  have f1 := S.pull1.free
  have HS2 := Lib.hid ((S.pull1.set (o := 0) (.int .u64 a.1)).pull1)
  clear S HS1
  go_wp2_with fail
  refine (rdTextS 300 300 rfl HS2.out (by have := HL1.out; omega) (by omega)).mono ?_
  have HL2 : Hid ((a.2.text 300).2.s.length ≤ 1000000) := by have := text_len a.2 300; have := HL1.out; unfold Hid; omega
  generalize a.2.text 300 = b1 at *
  rintro e w5 ⟨rfl, S⟩
  have c2 := S.pull1.cell
  have f2 := S.pull1.free
  have HS3 := Lib.hid ((S.pull1.set (o := 1) (.string ⟨b1.1.toArray⟩)).pull1)
  clear S HS2 c1 f1
  go_wp2_with fail
  refine (rdNumS 1099511627776 1099511627776 rfl HS3.out (by have := HL2.out; omega)).mono ?_
  have HL3 : Hid ((b1.2.num 1099511627776).2.s.length ≤ 1000000) := by have := num_len b1.2 1099511627776; have := HL2.out; unfold Hid; omega
  generalize b1.2.num 1099511627776 = c at *
  rintro e w6 ⟨rfl, S⟩
  have c3 := S.pull1.cell
  have f3 := S.pull1.free
  have HS4 := Lib.hid ((S.pull1.set (o := 2) (.int .u64 c.1)).pull1)
  clear S HS3 c2 f2
  go_wp2_with fail
  refine (rdNumS 1099511627776 1099511627776 rfl HS4.out (by have := HL3.out; omega)).mono ?_
  have HL4 : Hid ((c.2.num 1099511627776).2.s.length ≤ 1000000) := by have := num_len c.2 1099511627776; have := HL3.out; unfold Hid; omega
  generalize c.2.num 1099511627776 = d at *
  rintro e w7 ⟨rfl, S⟩
  have c4 := S.pull1.cell
  have f4 := S.pull1.free
  have HS5 := Lib.hid ((S.pull1.set (o := 3) (.int .u64 d.1)).pull1)
  clear S HS4 c3 f3
  go_wp2_with fail
  refine (enReadBoxS HS5.out HL4.out).mono ?_
  have HL5 : Hid ((rdMb 300 d.2).2.s.length ≤ 1000000) := by have := rdMb_len 300 d.2; have := HL4.out; unfold Hid; omega
  generalize rdMb 300 d.2 = f at *
  unfold mbAgg
  rintro e w8 ⟨rfl, S⟩
  have c5 := S.pull1.cell
  have f5 := S.pull1.free
  have HS6 := Lib.hid (((S.pull1.set (o := 4) (.string ⟨f.1.1.toArray⟩)).set (o := 5) (.string ⟨f.1.2.toArray⟩)).pull1)
  clear S HS5 c4 f4
  go_wp2_with fail
  refine (rdNumS 10 10 rfl HS6.out (by have := HL5.out; omega)).mono ?_
  have HL6 : Hid ((f.2.num 10).2.s.length ≤ 1000000) := by have := num_len f.2 10; have := HL5.out; unfold Hid; omega
  have hn := num_le f.2 10
  generalize f.2.num 10 = nr at *
  rintro e w9 ⟨rfl, S⟩
  have HS7 : Hid (Sp w0 [] w9 (rdR 79 b nr.2 :: enR q5 a.1 b1.1 c.1 d.1 f.1 (.slice none 0 0) 0 0 0 :: tosR (.slice none 0 0) [] :: enR q2 0 [] 0 0 ([], []) (.slice none 0 0) 0 0 0 :: L)) := S
  clear S HS6 c5 f5
  have hn' : (nr.1 : Int) ≤ 10 := by omega
  go_wp2_with fail
  go_loopw [36] (fun at0 wr => ∃ (k : Nat) (r1 : Rd) (v1 : Value) (dn : List Rcp), at0 = .int .u64 k ∧ k ≤ nr.1 ∧ dn.length = k ∧ rdRcs 300 nr.1 nr.2 = (dn ++ (rdRcs 300 (nr.1 - k) r1).1, (rdRcs 300 (nr.1 - k) r1).2) ∧ r1.s.length ≤ 1000000 ∧ Sp w0 [] wr (rdR 79 b r1 :: enR q5 a.1 b1.1 c.1 d.1 f.1 v1 0 0 0 :: tosR v1 dn :: enR q2 0 [] 0 0 ([], []) (.slice none 0 0) 0 0 0 :: L)) (fun at0 _ => nr.1 - (intOf at0).toNat)
  case atStart => exact ⟨0, nr.2, .slice none 0 0, [], rfl, Nat.zero_le _, rfl, rfl, HL6.out, HS7.out⟩
  case round =>
    obtain ⟨k, r1, v1, dn, rfl, hk, hd, heq, hl, S1⟩ := hrel
    have hk' : (k : Int) ≤ nr.1 := by omega
    by_cases hlt : k < nr.1
    · have hlt' : (k : Int) < nr.1 := by omega
      have HEQ : Hid (rdRcs 300 nr.1 nr.2 = (dn ++ (((rdMb 300 r1).1, (((rdMb 300 r1).2.num 2).1 : Int)) :: (rdRcs 300 (nr.1 - (k + 1)) ((rdMb 300 r1).2.num 2).2).1), (rdRcs 300 (nr.1 - (k + 1)) ((rdMb 300 r1).2.num 2).2).2)) := by
        unfold Hid
        rw [heq, show nr.1 - k = (nr.1 - (k + 1)) + 1 by omega]
        rfl
      have HD := Lib.hid hd
      have HL := Lib.hid hl
      have HSa := Lib.hid S1
      have HML := Lib.hid (rdMb_len 300 r1)
      clear heq hd hl S1 HS7
      go_wp2_with fail
      refine (enReadBoxS HSa.out HL.out).mono ?_
      generalize rdMb 300 r1 = x at *
      unfold mbAgg
      rintro e wa ⟨rfl, S⟩
      have HSb := Lib.hid (S.box #[.string ⟨x.1.1.toArray⟩, .string ⟨x.1.2.toArray⟩, .int .i64 0] 62).pull1
      clear S HSa
      go_upto_region 11 with (fail)
      generalize wa.alloc (.cells #[.string ⟨x.1.1.toArray⟩, .string ⟨x.1.2.toArray⟩, .int .i64 0] 62) = wb at *
      generalize wa.heap.size = q6 at *
      go_wp2_with fail
      refine (rdNumS 2 2 rfl HSb.out (by have := HML.out; have := HL.out; omega)).mono ?_
      have HNL := Lib.hid (num_len x.2 2)
      have hle := num_le x.2 2
      generalize x.2.num 2 = y at *
      have hle' : (y.1 : Int) ≤ 2 := by omega
      rintro e wc ⟨rfl, S⟩
      have cx := S.pull1.cell
      have fx := S.pull1.free
      have S2 := S.pull1.set (o := 2) (.int .i64 y.1)
      have cq := ((Sp.pick [_, _, _] [2] (by decide) (S2))).cell
      have fq := ((Sp.pick [_, _, _] [2] (by decide) (S2))).free
      have cy := S2.cell
      have S3 := S2.box #[.string ⟨x.1.1.toArray⟩, .string ⟨x.1.2.toArray⟩, .int .i64 y.1] 62
      simp only [World.size_setCell] at S3
      obtain ⟨g, cap, wd, hrun, S4⟩ := Sp.appendTo 25 ((x.1, (y.1 : Int)) : Rcp) (by have := HD.out; omega) ((Sp.pick [_, _, _, _, _, _] [0, 4, 2, 3, 5] (by decide) (S3)))
      have HRUN := Lib.hid hrun
      have cr := ((Sp.pick [_, _, _] [2] (by decide) (S4))).cell
      have fr := ((Sp.pick [_, _, _] [2] (by decide) (S4))).free
      have S5 := ((Sp.pick [_, _, _, _] [2, 0, 1, 3] (by decide) (S4))).set (o := 6) (.slice (some ⟨g, 0, none⟩) (dn.length + 1) cap)
      have HS5 := Lib.hid ((Sp.pick [_, _, _, _] [2, 0, 1, 3] (by decide) (S5)))
      clear S S2 S3 S4 S5 hrun HSb
      go_wp2_with (at_builtin; refine wpList_append_run (by rfl) (by rfl) (by rfl) (by rfl) HRUN.out ?_)
      go_roundw
      case rel => exact ⟨k + 1, y.2, .slice (some ⟨g, 0, none⟩) (dn.length + 1) cap, dn ++ [((x.1, (y.1 : Int)) : Rcp)], by go_num, by omega, by have := HD.out; simp; exact this, by rw [HEQ.out]; simp, by have := HNL.out; have := HML.out; have := HL.out; omega, HS5.out⟩
      case measure => simp [intOf]; omega
    · obtain rfl : k = nr.1 := by omega
      have heq2 : rdRcs 300 nr.1 nr.2 = (dn, r1) := by
        rw [heq, Nat.sub_self]
        simp [rdRcs]
      rw [heq2] at HR
      have HL7 := Lib.hid hl
      have HSa := Lib.hid S1
      clear heq hd hl S1 HS7 heq2
      dsimp only at HR
      have HLn0 := HL7
      have HSn0 := HSa
      clear HSa HL7 hlt hk hk'
      go_wp2_with fail
      refine (rdNumS 1099511627776 1099511627776 rfl HSn0.out (by have := HLn0.out; omega)).mono ?_
      have HLn1 : Hid ((r1.num 1099511627776).2.s.length ≤ 1000000) := by have := num_len r1 1099511627776; have := HLn0.out; unfold Hid; omega
      have hle0 := num_le r1 1099511627776
      generalize r1.num 1099511627776 = g at *
      have hle0' : (g.1 : Int) ≤ 1099511627776 := by omega
      rintro e wn1 ⟨rfl, S⟩
      have cn1 := S.pull1.cell
      have fn1 := S.pull1.free
      have HSn1 := Lib.hid ((S.pull1.set (o := 7) (.int .u64 g.1)).pull1)
      clear S HSn0 hle0
      go_wp2_with fail
      refine (rdNumS 1099511627776 1099511627776 rfl HSn1.out (by have := HLn1.out; omega)).mono ?_
      have HLn2 : Hid ((g.2.num 1099511627776).2.s.length ≤ 1000000) := by have := num_len g.2 1099511627776; have := HLn1.out; unfold Hid; omega
      have hle1 := num_le g.2 1099511627776
      generalize g.2.num 1099511627776 = h at *
      have hle1' : (h.1 : Int) ≤ 1099511627776 := by omega
      rintro e wn2 ⟨rfl, S⟩
      have cn2 := S.pull1.cell
      have fn2 := S.pull1.free
      have HSn2 := Lib.hid ((S.pull1.set (o := 8) (.int .u64 h.1)).pull1)
      clear S HSn1 hle1 cn1 fn1
      go_wp2_with fail
      refine (rdNumS 100 100 rfl HSn2.out (by have := HLn2.out; omega)).mono ?_
      have HLn3 : Hid ((h.2.num 100).2.s.length ≤ 1000000) := by have := num_len h.2 100; have := HLn2.out; unfold Hid; omega
      have hle2 := num_le h.2 100
      generalize h.2.num 100 = t at *
      have hle2' : (t.1 : Int) ≤ 100 := by omega
      rintro e wn3 ⟨rfl, S⟩
      have cn3 := S.pull1.cell
      have fn3 := S.pull1.free
      have HSn3 := Lib.hid ((S.pull1.set (o := 9) (.int .i64 t.1)).pull1)
      clear S HSn2 hle2 cn2 fn2
      have HS9 : Hid (Sp w0 [] ((wn3.setCell ⟨q5, 9, none⟩ (.int .i64 t.1))) (enR q5 a.1 b1.1 c.1 d.1 f.1 v1 g.1 h.1 t.1 :: rdR 79 b t.2 :: tosR v1 dn :: enR q2 0 [] 0 0 ([], []) (.slice none 0 0) 0 0 0 :: L)) := Lib.hid HSn3.out.pull1
      clear HSn3
      go_wp2_with fail
      refine (rdDoneS HS9.out.pull1).mono ?_
      rintro e w8 ⟨rfl, rfl⟩
      generalize wn3.setCell ⟨q5, 9, none⟩ (.int .i64 t.1) = wx at *
      have ce := HS9.out.cell
      have HX : Hid (X.1 = ⟨a.1, b1.1, c.1, d.1, f.1, dn, g.1, h.1, t.1⟩) := by rw [HR.out]; exact Eq.refl _
      have HD : Hid (X.2.done = t.2.done) := by rw [HR.out]; exact Eq.refl _
      rw [HX.out, HD.out] at HV
      rw [HX.out] at HFIT
      have HM := Lib.hid (enMay_any ⟨a.1, b1.1, c.1, d.1, f.1, dn, g.1, h.1, t.1⟩ v1 wx (HE.out.sp HS9.out) HFIT.out ((Sp.pick [_, _, _] [2] (by decide) (HS9.out))).tosAt)
      unfold enAgg at HM
      dsimp only at HM
      generalize t.2.done = dd at *
      clear cn3 fn3 HR HX HD HFIT
      obtain ⟨va, vc, rfl⟩ := ((Sp.pick [_, _, _] [2] (by decide) (HS9.out))).tosAt.form
      by_cases hdd : dd = 0
      · subst hdd
        go_wp2_with fail
        refine HM.out.mono ?_
        rintro e wy ⟨rfl, hx⟩
        have S := HS9.out.ext0 hx
        have cf := S.cell
        have S2 := (Sp.pick [_, _, _, _] [3, 2] (by decide) (S))
        have d0 := S2.cell
        have f0 := S2.free
        cases hm : enMay ⟨a.1, b1.1, c.1, d.1, f.1, dn, g.1, h.1, t.1⟩ with
        | true =>
          have HW : Hid (enRead 300 s = (⟨a.1, b1.1, c.1, d.1, f.1, dn, g.1, h.1, t.1⟩, 0)) := by unfold Hid; rw [HV.out, if_pos ⟨by trivial, hm⟩]
          have HS3 := Lib.hid (((((((((((S2.set (o := 0) (.int .u64 a.1)).set (o := 1) (.string ⟨b1.1.toArray⟩)).set (o := 2) (.int .u64 c.1)).set (o := 3) (.int .u64 d.1)).set (o := 4) (.string ⟨f.1.1.toArray⟩)).set (o := 5) (.string ⟨f.1.2.toArray⟩)).set (o := 6) (.slice va dn.length vc)).set (o := 7) (.int .u64 g.1)).set (o := 8) (.int .u64 h.1)).set (o := 9) (.int .i64 t.1)).drop)
          clear S S2 hx HS9 ce HM hm HV
          go_wp2
          rw [HW.out]
          exact bodyPost_ret (v := .tuple #[.agg #[.int .u64 a.1, .string ⟨b1.1.toArray⟩, .int .u64 c.1, .int .u64 d.1, .string ⟨f.1.1.toArray⟩, .string ⟨f.1.2.toArray⟩, .slice va dn.length vc, .int .u64 g.1, .int .u64 h.1, .int .i64 t.1], .int .i64 0]) (by simp [results, Tryz.results13, go_sem, d0]) rfl ⟨_, rfl, HS3.out⟩
        | false =>
          have HW : Hid (enRead 300 s = (En.zero, 2)) := by unfold Hid; rw [HV.out, if_neg (by rintro ⟨_, h⟩; rw [hm] at h; cases h)]
          have HS3 := Lib.hid (((((((((((S2.set (o := 0) (.int .u64 0)).set (o := 1) (.string ⟨#[]⟩)).set (o := 2) (.int .u64 0)).set (o := 3) (.int .u64 0)).set (o := 4) (.string ⟨#[]⟩)).set (o := 5) (.string ⟨#[]⟩)).set (o := 6) (.slice none 0 0)).set (o := 7) (.int .u64 0)).set (o := 8) (.int .u64 0)).set (o := 9) (.int .i64 0)).drop.drop.tosNil)
          clear S S2 hx HS9 ce HM hm HV
          go_wp2
          rw [HW.out]
          exact bodyPost_ret (v := .tuple #[.agg #[.int .u64 0, .string ⟨#[]⟩, .int .u64 0, .int .u64 0, .string ⟨#[]⟩, .string ⟨#[]⟩, .slice none 0 0, .int .u64 0, .int .u64 0, .int .i64 0], .int .i64 2]) (by simp [results, Tryz.results13, go_sem, d0]) rfl ⟨.slice none 0 0, rfl, HS3.out⟩
      · have HW : Hid (enRead 300 s = (En.zero, 2)) := by unfold Hid; rw [HV.out, if_neg (fun h => hdd h.1)]
        have hb : (dd == 0) = false := by simpa using hdd
        have S2 := (Sp.pick [_, _, _, _] [3] (by decide) (HS9.out))
        have d0 := S2.cell
        have f0 := S2.free
        have HS3 := Lib.hid (((((((((((S2.set (o := 0) (.int .u64 0)).set (o := 1) (.string ⟨#[]⟩)).set (o := 2) (.int .u64 0)).set (o := 3) (.int .u64 0)).set (o := 4) (.string ⟨#[]⟩)).set (o := 5) (.string ⟨#[]⟩)).set (o := 6) (.slice none 0 0)).set (o := 7) (.int .u64 0)).set (o := 8) (.int .u64 0)).set (o := 9) (.int .i64 0)).drop.tosNil)
        clear S2 HS9 HM HV
        go_wp2
        rw [HW.out]
        exact bodyPost_ret (v := .tuple #[.agg #[.int .u64 0, .string ⟨#[]⟩, .int .u64 0, .int .u64 0, .string ⟨#[]⟩, .string ⟨#[]⟩, .slice none 0 0, .int .u64 0, .int .u64 0, .int .i64 0], .int .i64 2]) (by simp [results, Tryz.results13, go_sem, d0]) rfl ⟨.slice none 0 0, rfl, HS3.out⟩
end
end Go.Proofs.YtkenacggjffjnaaGreatDoor
