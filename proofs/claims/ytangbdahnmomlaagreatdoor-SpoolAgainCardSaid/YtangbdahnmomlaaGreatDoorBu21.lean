/- entry: a head is read. Conditions: the lengths fit; what Go's variables hold. entry: a head. Conditions: the lengths fit; what Go's variables hold. -/
import Derived.Test.YtangbdahnmomlaaGreatDoorBu20
set_option linter.unnecessarySimpa false
set_option linter.unusedSimpArgs false
set_option linter.unusedVariables false
set_option maxHeartbeats 4000000
set_option maxRecDepth 100000
namespace Go.Proofs.YtangbdahnmomlaaGreatDoor
section
open Go.RowKit
section
variable {w0 w : World} {L : List Res} {F0 : List Nat} {b : Nat} {v : Value} {e : En} {r : Rd}
theorem rdMb_len (m : Nat) (r : Rd) : (rdMb m r).2.s.length ≤ r.s.length:=by
  unfold rdMb
  have h1:=text_len r m
  have h2:=text_len (r.text m).2 m
  dsimp only
  omega
theorem enReadBoxS (S : Sp w0 F0 w (rdR 151 b r :: L)) (hs : r.s.length ≤ 1000000) : Calls Tryz.prog 194 #[.pointer (some ⟨b,0,none⟩)] w fun e w2 => e = .returned (mbAgg (rdMb 300 r).1) ∧ Sp w0 F0 w2 (rdR 151 b (rdMb 300 r).2 :: L):=by
  have HS0:=Lib.hid (S.box #[.string ⟨#[]⟩,.string ⟨#[]⟩] 37).pull1
  have HL:=Lib.hid hs
  have HL1:=Lib.hid (text_len r 300)
  have HV : Hid (rdMb 300 r = (((r.text 300).1,((r.text 300).2.text 300).1),((r.text 300).2.text 300).2)):=rfl
  clear S hs
  go_enter Tryz.func194,Tryz.ntmps194
  go_upto_region 1 with (fail)
  generalize w.alloc (.cells #[.string ⟨#[]⟩,.string ⟨#[]⟩] 37) = w1 at *
  generalize w.heap.size = q at *
  go_wp2_with fail
  refine (rdTextS 300 300 rfl HS0.out (by have:=HL.out; omega) (by omega)).mono ?_
  rintro e w2 ⟨rfl,S⟩
  have HS2:=Lib.hid S
  generalize r.text 300 = a at *
  clear S HS0
  go_wp2_with fail
  refine (rdTextS 300 300 rfl HS2.out (by have:=HL.out; have:=HL1.out; omega) (by omega)).mono ?_
  rintro e w3 ⟨rfl,S⟩
  generalize a.2.text 300 = c at *
  have d0:=S.pull1.cell
  have f0:=S.pull1.free
  have HS3:=Lib.hid ((S.pull1.set (o:=0) (.string ⟨a.1.toArray⟩)).set (o:=1) (.string ⟨c.1.toArray⟩)).drop
  clear S HS2
  go_wp2
  rw [HV.out]
  exact bodyPost_ret (v:=.agg #[.string ⟨a.1.toArray⟩,.string ⟨c.1.toArray⟩]) (by simp [results,Tryz.results194,go_sem,d0]) rfl ⟨rfl,HS3.out⟩
theorem rdEn_parts (m : Nat) (r : Rd) : rdEn m r = (
  let a:=r.num 1099511627776
  let b:=a.2.text m
  let c:=b.2.num 1099511627776
  let d:=c.2.num 1099511627776
  let f:=rdMb m d.2
  let n:=f.2.num 10
  let l:=rdRcs m n.1 n.2
  let g:=l.2.num 1099511627776
  let h:=g.2.num 1099511627776
  let t:=h.2.num 100
  ((⟨a.1,b.1,c.1,d.1,f.1,l.1,g.1,h.1,t.1⟩,t.2) : En × Rd)):=rfl
abbrev enR (b : Nat) (id : Nat) (dom : Bs) (ep cnt : Nat) (f : Mb) (v : Value) (born nxt : Nat) (tries : Int) : Res:=boxR b #[.int .u64 id,.string ⟨dom.toArray⟩,.int .u64 ep,.int .u64 cnt,.string ⟨f.1.toArray⟩,.string ⟨f.2.toArray⟩,v,.int .u64 born,.int .u64 nxt,.int .i64 tries] 40
theorem enReadS (s : Bs) (hs : s.length ≤ 1000000) (E : Env w0) (S : Sp w0 [] w L) : Calls Tryz.prog 152 #[.string ⟨s.toArray⟩] w fun r w2 => ∃ v,r = .returned (.tuple #[enAgg (enRead 300 s).1 v,.int .i64 (enRead 300 s).2]) ∧ Sp w0 [] w2 (tosR v (enRead 300 s).1.rcs :: L):=by
  have HS0:=Lib.hid (S.box #[.int .u64 0,.string ⟨#[]⟩,.int .u64 0,.int .u64 0,.string ⟨#[]⟩,.string ⟨#[]⟩,.slice none 0 0,.int .u64 0,.int .u64 0,.int .i64 0] 40)
  have HL0 : Hid ((⟨s,false⟩ : Rd).s.length ≤ 1000000):=hs
  have HE:=Lib.hid E
  have HFIT:=Lib.hid (rdEn_fit 300 (by omega) ⟨s,false⟩)
  have HV : Hid (enRead 300 s = if (rdEn 300 ⟨s,false⟩).2.done = 0 ∧ enMay (rdEn 300 ⟨s,false⟩).1 = true then ((rdEn 300 ⟨s,false⟩).1,0) else (En.zero,2)):=rfl
  have HR:=Lib.hid (rdEn_parts 300 ⟨s,false⟩)
  generalize rdEn 300 ⟨s,false⟩ = X at *
  generalize hr0 : (⟨s,false⟩ : Rd) = r0 at *
  clear S hs E
  go_enter Tryz.func152,Tryz.ntmps152
  go_upto_region 1 with (fail)
  generalize w.alloc (.cells #[.int .u64 0,.string ⟨#[]⟩,.int .u64 0,.int .u64 0,.string ⟨#[]⟩,.string ⟨#[]⟩,.slice none 0 0,.int .u64 0,.int .u64 0,.int .i64 0] 40) = w1 at *
  generalize w.heap.size = q2 at *
  go_wp2_with fail
  refine (fromS HS0.out s).mono ?_
  rw [hr0]
  rintro e w2 ⟨b,rfl,S⟩
  have HS1:=Lib.hid ((Sp.pick [_,_,_,_] [2,1,0,3] (by decide) ((S.box #[.int .u64 0,.string ⟨#[]⟩,.int .u64 0,.int .u64 0,.string ⟨#[]⟩,.string ⟨#[]⟩,.slice none 0 0,.int .u64 0,.int .u64 0,.int .i64 0] 40).tosNil)))
  clear S HS0 hr0
  go_upto_region 3 with (fail)
  generalize w2.alloc (.cells #[.int .u64 0,.string ⟨#[]⟩,.int .u64 0,.int .u64 0,.string ⟨#[]⟩,.string ⟨#[]⟩,.slice none 0 0,.int .u64 0,.int .u64 0,.int .i64 0] 40) = w3 at *
  generalize w2.heap.size = q5 at *
  go_wp2_with fail
  refine (rdNumS 1099511627776 1099511627776 rfl HS1.out (by have:=HL0.out; omega)).mono ?_
  have HL1 : Hid ((r0.num 1099511627776).2.s.length ≤ 1000000):=by have:=num_len r0 1099511627776; have:=HL0.out; unfold Hid; omega
  generalize r0.num 1099511627776 = a at *
  rintro e w4 ⟨rfl,S⟩
  have c1:=S.pull1.cell
  have f1:=S.pull1.free
  have HS2:=Lib.hid ((S.pull1.set (o:=0) (.int .u64 a.1)).pull1)
  clear S HS1
  go_wp2_with fail
  refine (rdTextS 300 300 rfl HS2.out (by have:=HL1.out; omega) (by omega)).mono ?_
  have HL2 : Hid ((a.2.text 300).2.s.length ≤ 1000000):=by have:=text_len a.2 300; have:=HL1.out; unfold Hid; omega
  generalize a.2.text 300 = b1 at *
  rintro e w5 ⟨rfl,S⟩
  have c2:=S.pull1.cell
  have f2:=S.pull1.free
  have HS3:=Lib.hid ((S.pull1.set (o:=1) (.string ⟨b1.1.toArray⟩)).pull1)
  clear S HS2 c1 f1
  go_wp2_with fail
  refine (rdNumS 1099511627776 1099511627776 rfl HS3.out (by have:=HL2.out; omega)).mono ?_
  have HL3 : Hid ((b1.2.num 1099511627776).2.s.length ≤ 1000000):=by have:=num_len b1.2 1099511627776; have:=HL2.out; unfold Hid; omega
  generalize b1.2.num 1099511627776 = c at *
  rintro e w6 ⟨rfl,S⟩
  have c3:=S.pull1.cell
  have f3:=S.pull1.free
  have HS4:=Lib.hid ((S.pull1.set (o:=2) (.int .u64 c.1)).pull1)
  clear S HS3 c2 f2
  go_wp2_with fail
  refine (rdNumS 1099511627776 1099511627776 rfl HS4.out (by have:=HL3.out; omega)).mono ?_
  have HL4 : Hid ((c.2.num 1099511627776).2.s.length ≤ 1000000):=by have:=num_len c.2 1099511627776; have:=HL3.out; unfold Hid; omega
  generalize c.2.num 1099511627776 = d at *
  rintro e w7 ⟨rfl,S⟩
  have c4:=S.pull1.cell
  have f4:=S.pull1.free
  have HS5:=Lib.hid ((S.pull1.set (o:=3) (.int .u64 d.1)).pull1)
  clear S HS4 c3 f3
  go_wp2_with fail
  refine (enReadBoxS HS5.out HL4.out).mono ?_
  have HL5 : Hid ((rdMb 300 d.2).2.s.length ≤ 1000000):=by have:=rdMb_len 300 d.2; have:=HL4.out; unfold Hid; omega
  generalize rdMb 300 d.2 = f at *
  unfold mbAgg
  rintro e w8 ⟨rfl,S⟩
  have c5:=S.pull1.cell
  have f5:=S.pull1.free
  have HS6:=Lib.hid (((S.pull1.set (o:=4) (.string ⟨f.1.1.toArray⟩)).set (o:=5) (.string ⟨f.1.2.toArray⟩)).pull1)
  clear S HS5 c4 f4
  go_wp2_with fail
  refine (rdNumS 10 10 rfl HS6.out (by have:=HL5.out; omega)).mono ?_
  have HL6 : Hid ((f.2.num 10).2.s.length ≤ 1000000):=by have:=num_len f.2 10; have:=HL5.out; unfold Hid; omega
  have hn:=num_le f.2 10
  generalize f.2.num 10 = nr at *
  rintro e w9 ⟨rfl,S⟩
  have HS7 : Hid (Sp w0 [] w9 (rdR 151 b nr.2 :: enR q5 a.1 b1.1 c.1 d.1 f.1 (.slice none 0 0) 0 0 0 :: tosR (.slice none 0 0) [] :: enR q2 0 [] 0 0 ([],[]) (.slice none 0 0) 0 0 0 :: L)):=S
  clear S HS6 c5 f5
  have hn' : (nr.1 : Int) ≤ 10:=by omega
  go_wp2_with fail
  go_loopw [36] (fun at0 wr => ∃ (k : Nat) (r1 : Rd) (v1 : Value) (dn : List Rcp),at0 = .int .u64 k ∧ k ≤ nr.1 ∧ dn.length = k ∧ rdRcs 300 nr.1 nr.2 = (dn ++ (rdRcs 300 (nr.1 - k) r1).1,(rdRcs 300 (nr.1 - k) r1).2) ∧ r1.s.length ≤ 1000000 ∧ Sp w0 [] wr (rdR 151 b r1 :: enR q5 a.1 b1.1 c.1 d.1 f.1 v1 0 0 0 :: tosR v1 dn :: enR q2 0 [] 0 0 ([],[]) (.slice none 0 0) 0 0 0 :: L)) (fun at0 _ => nr.1 - (intOf at0).toNat)
  case atStart => exact ⟨0,nr.2,.slice none 0 0,[],rfl,Nat.zero_le _,rfl,rfl,HL6.out,HS7.out⟩
  case round =>
    obtain ⟨k,r1,v1,dn,rfl,hk,hd,heq,hl,S1⟩:=hrel
    have hk' : (k : Int) ≤ nr.1:=by omega
    by_cases hlt : k < nr.1
    · have hlt' : (k : Int) < nr.1:=by omega
      have HEQ : Hid (rdRcs 300 nr.1 nr.2 = (dn ++ (((rdMb 300 r1).1,(((rdMb 300 r1).2.num 2).1 : Int)) :: (rdRcs 300 (nr.1 - (k + 1)) ((rdMb 300 r1).2.num 2).2).1),(rdRcs 300 (nr.1 - (k + 1)) ((rdMb 300 r1).2.num 2).2).2)):=by
        unfold Hid
        rw [heq,show nr.1 - k = (nr.1 - (k + 1)) + 1 by omega]
        rfl
      have HD:=Lib.hid hd
      have HL:=Lib.hid hl
      have HSa:=Lib.hid S1
      have HML:=Lib.hid (rdMb_len 300 r1)
      clear heq hd hl S1 HS7
      go_wp2_with fail
      refine (enReadBoxS HSa.out HL.out).mono ?_
      generalize rdMb 300 r1 = x at *
      unfold mbAgg
      rintro e wa ⟨rfl,S⟩
      have HSb:=Lib.hid (S.box #[.string ⟨x.1.1.toArray⟩,.string ⟨x.1.2.toArray⟩,.int .i64 0] 100).pull1
      clear S HSa
      go_upto_region 11 with (fail)
      generalize wa.alloc (.cells #[.string ⟨x.1.1.toArray⟩,.string ⟨x.1.2.toArray⟩,.int .i64 0] 100) = wb at *
      generalize wa.heap.size = q6 at *
      go_wp2_with fail
      refine (rdNumS 2 2 rfl HSb.out (by have:=HML.out; have:=HL.out; omega)).mono ?_
      have HNL:=Lib.hid (num_len x.2 2)
      have hle:=num_le x.2 2
      generalize x.2.num 2 = y at *
      have hle' : (y.1 : Int) ≤ 2:=by omega
      rintro e wc ⟨rfl,S⟩
      have cx:=S.pull1.cell
      have fx:=S.pull1.free
      have S2:=S.pull1.set (o:=2) (.int .i64 y.1)
      have cq:=((Sp.pick [_,_,_] [2] (by decide) (S2))).cell
      have fq:=((Sp.pick [_,_,_] [2] (by decide) (S2))).free
      have cy:=S2.cell
      have S3:=S2.box #[.string ⟨x.1.1.toArray⟩,.string ⟨x.1.2.toArray⟩,.int .i64 y.1] 100
      simp only [World.size_setCell] at S3
      obtain ⟨g,cap,wd,hrun,S4⟩:=Sp.appendTo 38 ((x.1,(y.1 : Int)) : Rcp) (by have:=HD.out; omega) ((Sp.pick [_,_,_,_,_,_] [0,4,2,3,5] (by decide) (S3)))
      have HRUN:=Lib.hid hrun
      have cr:=((Sp.pick [_,_,_] [2] (by decide) (S4))).cell
      have fr:=((Sp.pick [_,_,_] [2] (by decide) (S4))).free
      have S5:=((Sp.pick [_,_,_,_] [2,0,1,3] (by decide) (S4))).set (o:=6) (.slice (some ⟨g,0,none⟩) (dn.length + 1) cap)
      have HS5:=Lib.hid ((Sp.pick [_,_,_,_] [2,0,1,3] (by decide) (S5)))
      clear S S2 S3 S4 S5 hrun HSb
      go_wp2_with (at_builtin; refine wpList_append_run (by rfl) (by rfl) (by rfl) (by rfl) HRUN.out ?_)
      go_roundw
      case rel => exact ⟨k + 1,y.2,.slice (some ⟨g,0,none⟩) (dn.length + 1) cap,dn ++ [((x.1,(y.1 : Int)) : Rcp)],by go_num,by omega,by have:=HD.out; simp; exact this,by rw [HEQ.out]; simp,by have:=HNL.out; have:=HML.out; have:=HL.out; omega,HS5.out⟩
      case measure => simp [intOf]; omega
    · obtain rfl : k = nr.1:=by omega
      have heq2 : rdRcs 300 nr.1 nr.2 = (dn,r1):=by
        rw [heq,Nat.sub_self]
        simp [rdRcs]
      rw [heq2] at HR
      have HL7:=Lib.hid hl
      have HSa:=Lib.hid S1
      clear heq hd hl S1 HS7 heq2
      dsimp only at HR
      have HLn0:=HL7
      have HSn0:=HSa
      clear HSa HL7 hlt hk hk'
      go_wp2_with fail
      refine (rdNumS 1099511627776 1099511627776 rfl HSn0.out (by have:=HLn0.out; omega)).mono ?_
      have HLn1 : Hid ((r1.num 1099511627776).2.s.length ≤ 1000000):=by have:=num_len r1 1099511627776; have:=HLn0.out; unfold Hid; omega
      have hle0:=num_le r1 1099511627776
      generalize r1.num 1099511627776 = g at *
      have hle0' : (g.1 : Int) ≤ 1099511627776:=by omega
      rintro e wn1 ⟨rfl,S⟩
      have cn1:=S.pull1.cell
      have fn1:=S.pull1.free
      have HSn1:=Lib.hid ((S.pull1.set (o:=7) (.int .u64 g.1)).pull1)
      clear S HSn0 hle0
      go_wp2_with fail
      refine (rdNumS 1099511627776 1099511627776 rfl HSn1.out (by have:=HLn1.out; omega)).mono ?_
      have HLn2 : Hid ((g.2.num 1099511627776).2.s.length ≤ 1000000):=by have:=num_len g.2 1099511627776; have:=HLn1.out; unfold Hid; omega
      have hle1:=num_le g.2 1099511627776
      generalize g.2.num 1099511627776 = h at *
      have hle1' : (h.1 : Int) ≤ 1099511627776:=by omega
      rintro e wn2 ⟨rfl,S⟩
      have cn2:=S.pull1.cell
      have fn2:=S.pull1.free
      have HSn2:=Lib.hid ((S.pull1.set (o:=8) (.int .u64 h.1)).pull1)
      clear S HSn1 hle1 cn1 fn1
      go_wp2_with fail
      refine (rdNumS 100 100 rfl HSn2.out (by have:=HLn2.out; omega)).mono ?_
      have HLn3 : Hid ((h.2.num 100).2.s.length ≤ 1000000):=by have:=num_len h.2 100; have:=HLn2.out; unfold Hid; omega
      have hle2:=num_le h.2 100
      generalize h.2.num 100 = t at *
      have hle2' : (t.1 : Int) ≤ 100:=by omega
      rintro e wn3 ⟨rfl,S⟩
      have cn3:=S.pull1.cell
      have fn3:=S.pull1.free
      have HSn3:=Lib.hid ((S.pull1.set (o:=9) (.int .i64 t.1)).pull1)
      clear S HSn2 hle2 cn2 fn2
      have HS9 : Hid (Sp w0 [] ((wn3.setCell ⟨q5,9,none⟩ (.int .i64 t.1))) (enR q5 a.1 b1.1 c.1 d.1 f.1 v1 g.1 h.1 t.1 :: rdR 151 b t.2 :: tosR v1 dn :: enR q2 0 [] 0 0 ([],[]) (.slice none 0 0) 0 0 0 :: L)):=Lib.hid HSn3.out.pull1
      clear HSn3
      go_wp2_with fail
      refine (rdDoneS HS9.out.pull1).mono ?_
      rintro e w8 ⟨rfl,rfl⟩
      generalize wn3.setCell ⟨q5,9,none⟩ (.int .i64 t.1) = wx at *
      have ce:=HS9.out.cell
      have HX : Hid (X.1 = ⟨a.1,b1.1,c.1,d.1,f.1,dn,g.1,h.1,t.1⟩):=by rw [HR.out]; exact Eq.refl _
      have HD : Hid (X.2.done = t.2.done):=by rw [HR.out]; exact Eq.refl _
      rw [HX.out,HD.out] at HV
      rw [HX.out] at HFIT
      have HM:=Lib.hid (enMay_any ⟨a.1,b1.1,c.1,d.1,f.1,dn,g.1,h.1,t.1⟩ v1 wx (HE.out.sp HS9.out) HFIT.out ((Sp.pick [_,_,_] [2] (by decide) (HS9.out))).tosAt)
      unfold enAgg at HM
      dsimp only at HM
      generalize t.2.done = dd at *
      clear cn3 fn3 HR HX HD HFIT
      obtain ⟨va,vc,rfl⟩:=((Sp.pick [_,_,_] [2] (by decide) (HS9.out))).tosAt.form
      by_cases hdd : dd = 0
      · subst hdd
        go_wp2_with fail
        refine HM.out.mono ?_
        rintro e wy ⟨rfl,hx⟩
        have S:=HS9.out.ext0 hx
        have cf:=S.cell
        have S2:=(Sp.pick [_,_,_,_] [3,2] (by decide) (S))
        have d0:=S2.cell
        have f0:=S2.free
        cases hm : enMay ⟨a.1,b1.1,c.1,d.1,f.1,dn,g.1,h.1,t.1⟩ with
        | true =>
          have HW : Hid (enRead 300 s = (⟨a.1,b1.1,c.1,d.1,f.1,dn,g.1,h.1,t.1⟩,0)):=by unfold Hid; rw [HV.out,if_pos ⟨by trivial,hm⟩]
          have HS3:=Lib.hid (((((((((((S2.set (o:=0) (.int .u64 a.1)).set (o:=1) (.string ⟨b1.1.toArray⟩)).set (o:=2) (.int .u64 c.1)).set (o:=3) (.int .u64 d.1)).set (o:=4) (.string ⟨f.1.1.toArray⟩)).set (o:=5) (.string ⟨f.1.2.toArray⟩)).set (o:=6) (.slice va dn.length vc)).set (o:=7) (.int .u64 g.1)).set (o:=8) (.int .u64 h.1)).set (o:=9) (.int .i64 t.1)).drop)
          clear S S2 hx HS9 ce HM hm HV
          go_wp2
          rw [HW.out]
          exact bodyPost_ret (v:=.tuple #[.agg #[.int .u64 a.1,.string ⟨b1.1.toArray⟩,.int .u64 c.1,.int .u64 d.1,.string ⟨f.1.1.toArray⟩,.string ⟨f.1.2.toArray⟩,.slice va dn.length vc,.int .u64 g.1,.int .u64 h.1,.int .i64 t.1],.int .i64 0]) (by simp [results,Tryz.results152,go_sem,d0]) rfl ⟨_,rfl,HS3.out⟩
        | false =>
          have HW : Hid (enRead 300 s = (En.zero,2)):=by unfold Hid; rw [HV.out,if_neg (by rintro ⟨_,h⟩; rw [hm] at h; cases h)]
          have HS3:=Lib.hid (((((((((((S2.set (o:=0) (.int .u64 0)).set (o:=1) (.string ⟨#[]⟩)).set (o:=2) (.int .u64 0)).set (o:=3) (.int .u64 0)).set (o:=4) (.string ⟨#[]⟩)).set (o:=5) (.string ⟨#[]⟩)).set (o:=6) (.slice none 0 0)).set (o:=7) (.int .u64 0)).set (o:=8) (.int .u64 0)).set (o:=9) (.int .i64 0)).drop.drop.tosNil)
          clear S S2 hx HS9 ce HM hm HV
          go_wp2
          rw [HW.out]
          exact bodyPost_ret (v:=.tuple #[.agg #[.int .u64 0,.string ⟨#[]⟩,.int .u64 0,.int .u64 0,.string ⟨#[]⟩,.string ⟨#[]⟩,.slice none 0 0,.int .u64 0,.int .u64 0,.int .i64 0],.int .i64 2]) (by simp [results,Tryz.results152,go_sem,d0]) rfl ⟨.slice none 0 0,rfl,HS3.out⟩
      · have HW : Hid (enRead 300 s = (En.zero,2)):=by unfold Hid; rw [HV.out,if_neg (fun h => hdd h.1)]
        have hb : (dd == 0) = false:=by simpa using hdd
        have S2:=(Sp.pick [_,_,_,_] [3] (by decide) (HS9.out))
        have d0:=S2.cell
        have f0:=S2.free
        have HS3:=Lib.hid (((((((((((S2.set (o:=0) (.int .u64 0)).set (o:=1) (.string ⟨#[]⟩)).set (o:=2) (.int .u64 0)).set (o:=3) (.int .u64 0)).set (o:=4) (.string ⟨#[]⟩)).set (o:=5) (.string ⟨#[]⟩)).set (o:=6) (.slice none 0 0)).set (o:=7) (.int .u64 0)).set (o:=8) (.int .u64 0)).set (o:=9) (.int .i64 0)).drop.tosNil)
        clear S2 HS9 HM HV
        go_wp2
        rw [HW.out]
        exact bodyPost_ret (v:=.tuple #[.agg #[.int .u64 0,.string ⟨#[]⟩,.int .u64 0,.int .u64 0,.string ⟨#[]⟩,.string ⟨#[]⟩,.slice none 0 0,.int .u64 0,.int .u64 0,.int .i64 0],.int .i64 2]) (by simp [results,Tryz.results152,go_sem,d0]) rfl ⟨.slice none 0 0,rfl,HS3.out⟩
end
end
section
open Go.RowKit
section
variable {w0 w : World} {L : List Res} {F0 : List Nat} {b : Nat} {v : Value} {e : En} {r : Rd}
theorem idx3 (a b c : Value) (i : Nat) (h : i < 3) (W : World) : (Instr.index 125 (.agg #[a,b,c]) (.int .i64 i)).run Tryz.prog W = .ok ((#[a,b,c] : Array Value).getD i a) W:=by
  match i,h with
  | 0,_ => simp [Instr.index,go_sem,Tryz.underlying125]
  | 1,_ => simp [Instr.index,go_sem,Tryz.underlying125]
  | 2,_ => simp [Instr.index,go_sem,Tryz.underlying125]
theorem num_le9 (n : Nat) : (numB n).length ≤ 1000:=by have:=numB_length_le n; omega
theorem text_le9 {s : Bs} (h : s.length ≤ 1000000) : (textB s).length ≤ 1001000:=by have:=textB_length_le s; omega
theorem rcsB_le : ∀ l : List Rcp,(∀ x ∈ l,x.1.1.length ≤ 1000000 ∧ x.1.2.length ≤ 1000000) → (l.flatMap rcB).length ≤ 3000000 * l.length
  | [],_ => by simp
  | x :: l,h => by
    have h1:=rcsB_le l (fun y hy => h y (by simp [hy]))
    have h2:=text_le9 (h x (by simp)).1
    have h3:=text_le9 (h x (by simp)).2
    have h4:=num_le9 x.2.toNat
    have h5 : (rcB x).length ≤ 3000000:=by
      unfold rcB
      simp only [List.length_append]
      omega
    rw [List.flatMap_cons,List.length_append,List.length_cons]
    omega
theorem enHead_any (e : En) (v : Value) (w : World) (E : Env w) (hf : e.Fit) (T : TosAt w v e.rcs) : Calls Tryz.prog 145 #[enAgg e v] w fun r w2 => r = .returned (.tuple #[.string ⟨(enHead e).1.toArray⟩,.int .i64 (enHead e).2]) ∧ Ext [] w w2:=by
  have HS0:=Lib.hid ((Sp.nil w []).box (enCells e v) 40)
  have HM:=Lib.hid (fun (w' : World) (L' : List Res) (S' : Sp w [] w' L') => enMay_any e v w' (E.sp S') hf (T.ext S'.ext))
  have HT:=Lib.hid T
  have HF:=Lib.hid hf
  have HV : Hid (enHead e = if enMay e = true then (headB e,0) else ([],2)):=rfl
  have HP:=Lib.hid (@enMay_parts e)
  have HH:=Lib.hid (headB_eq e [])
  rw [List.append_nil] at HH
  obtain ⟨id,dom,ep,cnt,⟨fl,fd⟩,rcs,born,nxt,tries⟩:=e
  unfold enAgg at *
  unfold enCells at HS0
  dsimp only at *
  obtain ⟨va,vc,rfl⟩:=T.form
  clear T E hf
  go_enter Tryz.func145,Tryz.ntmps145
  go_upto_region 1 with (fail)
  generalize w.alloc (.cells #[.int .u64 id,.string ⟨dom.toArray⟩,.int .u64 ep,.int .u64 cnt,.string ⟨fl.toArray⟩,.string ⟨fd.toArray⟩,.slice va rcs.length vc,.int .u64 born,.int .u64 nxt,.int .i64 tries] 40) = w1 at *
  generalize w.heap.size = q1 at *
  have c0:=HS0.out.cell
  go_wp2_with fail
  refine (HM.out w1 _ HS0.out).mono ?_
  rintro e w2 ⟨rfl,hx⟩
  have HS1:=Lib.hid (HS0.out.ext0 hx)
  clear hx c0 HS0 HM
  cases hm : enMay ⟨id,dom,ep,cnt,(fl,fd),rcs,born,nxt,tries⟩ with
  | false =>
    rw [if_neg (by rw [hm]; decide)] at HV
    clear hm
    go_wp2
    go_ret2
    rw [HV.out]
    exact ⟨rfl,HS1.out.ext⟩
  | true =>
    rw [if_pos hm] at HV
    obtain ⟨p1,⟨p2,p3⟩,⟨p4,p4'⟩,p5,p6,p7,p8,p9,p10,⟨p11,p12⟩⟩:=HP.out hm
    dsimp only at p1 p2 p3 p4 p4' p5 p6 p7 p8 p9 p10 p11 p12
    obtain ⟨tn,rfl⟩ : ∃ tn : Nat,tries = tn:=⟨tries.toNat,by omega⟩
    obtain ⟨vb,vo,he⟩ : ∃ vb vo,va = some ⟨vb,vo,none⟩:=by
      obtain ⟨vb,vo,h1,_⟩:=HT.out.at (i:=0) p4
      exact ⟨vb,vo,h1⟩
    subst he
    have HB2:=Lib.hid (HS1.out.bld 203).pull1
    have P5:=Lib.hid p5
    have P1:=Lib.hid p1
    have P2:=Lib.hid p2
    have P3:=Lib.hid p3
    have hid : (id : Int) ≤ 1099511627776:=by omega
    have hep : (ep : Int) ≤ 1099511627776:=by omega
    have hcnt : (cnt : Int) ≤ 1099511627776:=by omega
    have hborn : (born : Int) ≤ 1099511627776:=by omega
    have hnxt : (nxt : Int) ≤ 1099511627776:=by omega
    have htn : (tn : Int) ≤ 100:=by omega
    have hrl : (rcs.length : Int) ≤ 10:=by omega
    clear hm HP p1 p2 p3 p4 p4' p5 p6 p7 p8 p9 p10 p11 p12
    go_upto_region 4 with (fail)
    generalize w2.alloc (.cells #[.pointer none,.slice none 0 0] 203) = w3 at *
    generalize w2.heap.size = q4 at *
    obtain ⟨l3,hl3⟩ : ∃ l3 : Bs,l3 = []:=⟨_,rfl⟩
    have HS3 : Hid (Sp w [] w3 (bldR 203 q4 l3 :: boxR q1 #[.int .u64 id,.string ⟨dom.toArray⟩,.int .u64 ep,.int .u64 cnt,.string ⟨fl.toArray⟩,.string ⟨fd.toArray⟩,.slice (some ⟨vb,vo,none⟩) rcs.length vc,.int .u64 born,.int .u64 nxt,.int .i64 tn] 40 :: [])):=by rw [hl3]; exact Lib.hid HB2.out.pull1
    have HL3 : Hid (l3.length ≤ 0):=by rw [hl3]; exact Nat.le_refl 0
    have c3:=HS3.out.pull1.cell
    clear HB2 HS1
    go_wp2_with fail
    refine (outNumS id HS3.out (by have:=HL3.out; omega) (by omega)).mono ?_
    obtain ⟨l4,hl4⟩ : ∃ l4 : Bs,l4 = l3 ++ numB id:=⟨_,rfl⟩
    have HL4 : Hid (l4.length ≤ 2000000):=by have h1:=HL3.out; have h2:=num_le9 id; rw [hl4,List.length_append]; unfold Hid; omega
    rw [← hl4]
    rintro e w4 ⟨rfl,S⟩
    have c4:=S.pull1.cell
    have HS4:=Lib.hid S
    have HQ4:=Lib.hid hl4
    clear S HS3 c3 hl4
    go_wp2_with fail
    refine (outTextS HS4.out (by have:=HL4.out; omega) (by have:=P1.out; omega)).mono ?_
    obtain ⟨l5,hl5⟩ : ∃ l5 : Bs,l5 = l4 ++ textB dom:=⟨_,rfl⟩
    have HL5 : Hid (l5.length ≤ 4000000):=by have h1:=HL4.out; have h2:=text_le9 (s:=dom) (by have:=P1.out; omega); rw [hl5,List.length_append]; unfold Hid; omega
    rw [← hl5]
    rintro e w5 ⟨rfl,S⟩
    have c5:=S.pull1.cell
    have HS5:=Lib.hid S
    have HQ5:=Lib.hid hl5
    clear S HS4 c4 hl5
    go_wp2_with fail
    refine (outNumS ep HS5.out (by have:=HL5.out; omega) (by omega)).mono ?_
    obtain ⟨l6,hl6⟩ : ∃ l6 : Bs,l6 = l5 ++ numB ep:=⟨_,rfl⟩
    have HL6 : Hid (l6.length ≤ 6000000):=by have h1:=HL5.out; have h2:=num_le9 ep; rw [hl6,List.length_append]; unfold Hid; omega
    rw [← hl6]
    rintro e w6 ⟨rfl,S⟩
    have c6:=S.pull1.cell
    have HS6:=Lib.hid S
    have HQ6:=Lib.hid hl6
    clear S HS5 c5 hl6
    go_wp2_with fail
    refine (outNumS cnt HS6.out (by have:=HL6.out; omega) (by omega)).mono ?_
    obtain ⟨l7,hl7⟩ : ∃ l7 : Bs,l7 = l6 ++ numB cnt:=⟨_,rfl⟩
    have HL7 : Hid (l7.length ≤ 8000000):=by have h1:=HL6.out; have h2:=num_le9 cnt; rw [hl7,List.length_append]; unfold Hid; omega
    rw [← hl7]
    rintro e w7 ⟨rfl,S⟩
    have c7:=S.pull1.cell
    have HS7:=Lib.hid S
    have HQ7:=Lib.hid hl7
    clear S HS6 c6 hl7
    go_wp2_with fail
    refine (outTextS HS7.out (by have:=HL7.out; omega) (by have:=P2.out; omega)).mono ?_
    obtain ⟨l8,hl8⟩ : ∃ l8 : Bs,l8 = l7 ++ textB fl:=⟨_,rfl⟩
    have HL8 : Hid (l8.length ≤ 10000000):=by have h1:=HL7.out; have h2:=text_le9 (s:=fl) (by have:=P2.out; omega); rw [hl8,List.length_append]; unfold Hid; omega
    rw [← hl8]
    rintro e w8 ⟨rfl,S⟩
    have c8:=S.pull1.cell
    have HS8:=Lib.hid S
    have HQ8:=Lib.hid hl8
    clear S HS7 c7 hl8
    go_wp2_with fail
    refine (outTextS HS8.out (by have:=HL8.out; omega) (by have:=P3.out; omega)).mono ?_
    obtain ⟨l9,hl9⟩ : ∃ l9 : Bs,l9 = l8 ++ textB fd:=⟨_,rfl⟩
    have HL9 : Hid (l9.length ≤ 12000000):=by have h1:=HL8.out; have h2:=text_le9 (s:=fd) (by have:=P3.out; omega); rw [hl9,List.length_append]; unfold Hid; omega
    rw [← hl9]
    rintro e w9 ⟨rfl,S⟩
    have c9:=S.pull1.cell
    have HS9:=Lib.hid S
    have HQ9:=Lib.hid hl9
    clear S HS8 c8 hl9
    go_wp2_with fail
    refine (outNumS rcs.length HS9.out (by have:=HL9.out; omega) (by omega)).mono ?_
    obtain ⟨l10,hl10⟩ : ∃ l10 : Bs,l10 = l9 ++ numB (rcs.length):=⟨_,rfl⟩
    have HL10 : Hid (l10.length ≤ 14000000):=by have h1:=HL9.out; have h2:=num_le9 (rcs.length); rw [hl10,List.length_append]; unfold Hid; omega
    rw [← hl10]
    rintro e w10 ⟨rfl,S⟩
    have c10:=S.pull1.cell
    have HS10:=Lib.hid S
    have HQ10:=Lib.hid hl10
    clear S HS9 c9 hl10
    have HFM:=Lib.hid (fun k => rcsB_le (rcs.take k) (fun x hx => by have:=P5.out x (List.mem_of_mem_take hx); omega))
    go_wp2_with fail
    go_loopw [40] (fun at0 wr => ∃ (k : Nat) (l : Bs),at0 = .int .i64 k ∧ k ≤ rcs.length ∧ l = l10 ++ (rcs.take k).flatMap rcB ∧ Sp w [] wr (bldR 203 q4 l :: boxR q1 #[.int .u64 id,.string ⟨dom.toArray⟩,.int .u64 ep,.int .u64 cnt,.string ⟨fl.toArray⟩,.string ⟨fd.toArray⟩,.slice (some ⟨vb,vo,none⟩) rcs.length vc,.int .u64 born,.int .u64 nxt,.int .i64 tn] 40 :: [])) (fun at0 _ => rcs.length - (intOf at0).toNat)
    case atStart => exact ⟨0,l10,rfl,Nat.zero_le _,by simp,HS10.out⟩
    case round =>
      obtain ⟨k,l20,rfl,hk,hl20,S1⟩:=hrel
      have hk' : (k : Int) ≤ rcs.length:=by omega
      have HQ20:=Lib.hid hl20
      have HK:=Lib.hid hk
      have HL20 : Hid (l20.length ≤ 100000000):=by
        rw [hl20,List.length_append]
        have h1:=HL10.out
        have h2:=HFM.out k
        have h3 : (rcs.take k).length ≤ 10:=by rw [List.length_take]; omega
        unfold Hid
        omega
      clear hl20 HS10 c10 hk
      by_cases hlt : k < rcs.length
      · have hlt' : (k : Int) < rcs.length:=by omega
        obtain ⟨vb2,vo2,he,x0,x1,x2⟩:=(HT.out.ext S1.ext).at hlt
        cases he
        obtain ⟨y1,y2,y3,y4⟩:=P5.out rcs[k] (List.getElem_mem hlt)
        have HTK : Hid (rcs.take (k + 1) = rcs.take k ++ [rcs[k]]):=List.take_succ_eq_append_getElem hlt
        generalize rcs[k] = x at *
        obtain ⟨⟨xl,xd⟩,xs⟩:=x
        dsimp only at *
        obtain ⟨sn,rfl⟩ : ∃ sn : Nat,xs = sn:=⟨xs.toNat,by omega⟩
        have Y1:=Lib.hid y1
        have Y2:=Lib.hid y2
        have hsn : (sn : Int) ≤ 2:=by omega
        have c20:=S1.pull1.cell
        have HS20a:=Lib.hid (S1.box #[.string ⟨xl.toArray⟩,.string ⟨xd.toArray⟩,.int .i64 sn] 100)
        clear y1 y2 y3 y4 S1 hlt
        go_upto_region 14 with (fail)
        generalize wr.alloc (.cells #[.string ⟨xl.toArray⟩,.string ⟨xd.toArray⟩,.int .i64 sn] 100) = w20 at *
        generalize wr.heap.size = q6 at *
        clear x0 x1 x2 c20
        have HS20:=Lib.hid HS20a.out.pull1
        have c20:=HS20.out.pull1.cell
        clear HS20a
        go_wp2_with fail
        refine (outTextS HS20.out (by have:=HL20.out; omega) (by have:=Y1.out; omega)).mono ?_
        obtain ⟨l21,hl21⟩ : ∃ l21 : Bs,l21 = l20 ++ textB xl:=⟨_,rfl⟩
        have HL21 : Hid (l21.length ≤ 102000000):=by have h1:=HL20.out; have h2:=text_le9 (s:=xl) (by have:=Y1.out; omega); rw [hl21,List.length_append]; unfold Hid; omega
        rw [← hl21]
        rintro e w21 ⟨rfl,S⟩
        have c21:=S.pull1.cell
        have HS21:=Lib.hid S
        have HQ21:=Lib.hid hl21
        clear S HS20 c20 hl21
        go_wp2_with fail
        refine (outTextS HS21.out (by have:=HL21.out; omega) (by have:=Y2.out; omega)).mono ?_
        obtain ⟨l22,hl22⟩ : ∃ l22 : Bs,l22 = l21 ++ textB xd:=⟨_,rfl⟩
        have HL22 : Hid (l22.length ≤ 104000000):=by have h1:=HL21.out; have h2:=text_le9 (s:=xd) (by have:=Y2.out; omega); rw [hl22,List.length_append]; unfold Hid; omega
        rw [← hl22]
        rintro e w22 ⟨rfl,S⟩
        have c22:=S.pull1.cell
        have HS22:=Lib.hid S
        have HQ22:=Lib.hid hl22
        clear S HS21 c21 hl22
        go_wp2_with fail
        refine (outNumS sn HS22.out (by have:=HL22.out; omega) (by omega)).mono ?_
        obtain ⟨l23,hl23⟩ : ∃ l23 : Bs,l23 = l22 ++ numB sn:=⟨_,rfl⟩
        have HL23 : Hid (l23.length ≤ 106000000):=by have h1:=HL22.out; have h2:=num_le9 sn; rw [hl23,List.length_append]; unfold Hid; omega
        rw [← hl23]
        rintro e w23 ⟨rfl,S⟩
        have c23:=S.pull1.cell
        have HS23:=Lib.hid S
        have HQ23:=Lib.hid hl23
        clear S HS22 c22 hl23
        go_wp2_with fail
        go_roundw
        case rel => exact ⟨k + 1,l23,by go_num,by omega,by rw [HTK.out,List.flatMap_append,HQ23.out,HQ22.out,HQ21.out,HQ20.out]; simp [rcB],(Sp.pick [_,_,_] [0,2] (by decide) (HS23.out))⟩
        case measure => simp [intOf]; omega
      · obtain rfl : k = rcs.length:=by have:=HK.out; omega
        have HS30:=Lib.hid S1
        have c30:=S1.pull1.cell
        rw [List.take_length] at HQ20
        clear S1 hlt hk' HFM HT
        go_wp2_with fail
        go_loopw [65] (fun at0 wr => ∃ (k : Nat) (l : Bs),at0 = .int .i64 k ∧ k ≤ 3 ∧ l = l20 ++ ([numB born,numB nxt,numB tn].take k).flatten ∧ Sp w [] wr (bldR 203 q4 l :: [])) (fun at0 _ => 3 - (intOf at0).toNat)
        case atStart => exact ⟨0,l20,rfl,Nat.zero_le _,by simp,(Sp.pick [_,_] [0] (by decide) (HS30.out))⟩
        case round =>
          obtain ⟨k,l40,rfl,hk,hl40,S1⟩:=hrel
          have HS40:=Lib.hid S1
          have HQ40:=Lib.hid hl40
          have HL40 : Hid (l40.length ≤ 200000000):=by
            rw [hl40,List.length_append]
            have h1:=HL20.out
            have h2:=num_le9 born
            have h3:=num_le9 nxt
            have h4:=num_le9 tn
            have h5 : ([numB born,numB nxt,numB tn].take k).flatten.length ≤ 3000:=by
              rcases (by omega : k = 0 ∨ k = 1 ∨ k = 2 ∨ k = 3) with rfl | rfl | rfl | rfl <;> simp <;> omega
            unfold Hid
            omega
          clear S1 hl40 HS30 c30
          by_cases h0 : k = 3
          · subst h0
            have HN : Hid (l40 ≠ []):=by
              rw [HQ40.out,HQ20.out,HQ10.out,HQ9.out,HQ8.out,HQ7.out,HQ6.out,HQ5.out,HQ4.out]
              unfold Hid
              simp [numB]
            have HE : Hid (headB ⟨id,dom,ep,cnt,(fl,fd),rcs,born,nxt,(tn : Int)⟩ = l40):=by
              rw [HH.out,HQ40.out,HQ20.out,HQ10.out,HQ9.out,HQ8.out,HQ7.out,HQ6.out,HQ5.out,HQ4.out,hl3]
              unfold Hid
              simp
            go_wp2_with fail
            refine (bldStringS HS40.out HN.out).mono ?_
            rintro e w41 ⟨rfl,S⟩
            have HS41:=Lib.hid S
            clear S HS40
            go_wp2
            go_ret2
            rw [HV.out,HE.out]
            exact ⟨rfl,HS41.out.ext⟩
          · rcases (by omega : k = 0 ∨ k = 1 ∨ k = 2) with rfl | rfl | rfl
            · have hi : ∀ W,(Instr.index 125 (.agg #[.int .u64 born,.int .u64 nxt,.int .u64 tn]) (.int .i64 0)).run Tryz.prog W = .ok (.int .u64 born) W:=fun W => idx3 _ _ _ 0 (by omega) W
              go_wp2_with fail
              refine (outNumS born HS40.out (by have:=HL40.out; omega) (by omega)).mono ?_
              rintro e w41 ⟨rfl,S⟩
              have HS41:=Lib.hid S
              clear S HS40
              go_wp2_with fail
              go_roundw
              case rel => exact ⟨1,_,by go_num,by omega,by rw [HQ40.out]; simp,HS41.out⟩
              case measure => simp [intOf]
            · have hi : ∀ W,(Instr.index 125 (.agg #[.int .u64 born,.int .u64 nxt,.int .u64 tn]) (.int .i64 1)).run Tryz.prog W = .ok (.int .u64 nxt) W:=fun W => idx3 _ _ _ 1 (by omega) W
              go_wp2_with fail
              refine (outNumS nxt HS40.out (by have:=HL40.out; omega) (by omega)).mono ?_
              rintro e w41 ⟨rfl,S⟩
              have HS41:=Lib.hid S
              clear S HS40
              go_wp2_with fail
              go_roundw
              case rel => exact ⟨2,_,by go_num,by omega,by rw [HQ40.out]; simp,HS41.out⟩
              case measure => simp [intOf]
            · have hi : ∀ W,(Instr.index 125 (.agg #[.int .u64 born,.int .u64 nxt,.int .u64 tn]) (.int .i64 2)).run Tryz.prog W = .ok (.int .u64 tn) W:=fun W => idx3 _ _ _ 2 (by omega) W
              go_wp2_with fail
              refine (outNumS tn HS40.out (by have:=HL40.out; omega) (by omega)).mono ?_
              rintro e w41 ⟨rfl,S⟩
              have HS41:=Lib.hid S
              clear S HS40
              go_wp2_with fail
              go_roundw
              case rel => exact ⟨3,_,by go_num,by omega,by rw [HQ40.out]; simp,HS41.out⟩
              case measure => simp [intOf]
end
end
end Go.Proofs.YtangbdahnmomlaaGreatDoor
