/- law 16: SpoolTurns' walk. Conditions: what Go's variables hold; the arguments are some. law 16: SpoolTurns whole: its walk, with the first look's. -/
import Derived.Test.YtangbdahnmomlaaGreatDoorBu14
import Derived.Test.YtangbdahnmomlaaGreatDoorBu45
set_option linter.unnecessarySimpa false
set_option linter.unusedSimpArgs false
set_option linter.unusedVariables false
set_option maxHeartbeats 16000000
set_option maxRecDepth 1000000
namespace Go.Proofs.YtangbdahnmomlaaGreatDoor
section
open Go.RowKit Go.Maps
abbrev Y5:=Bool×Value×Bs
def mV (p:Y5):Value:=.agg #[.int .u64 0,.string ⟨(aD p.1).toArray⟩,.int .u64 0,.int .u64 0,.string ⟨#[]⟩,.string ⟨#[]⟩,p.2.1,.int .u64 0,.int .u64 0,.int .i64 0,.string ⟨p.2.2.toArray⟩]
abbrev WE (v:Value):D5:=⟨v,3,fw.map lu.vals⟩
abbrev zl:DataW Value:=(((DataW.map []:DataW Value).put (.bool false) (.held (.string ⟨#[97,46,101,120,97,109,112,108,101]⟩))).put (.bool true) (.held (.string ⟨#[98,46,101,120,97,109,112,108,101]⟩)))
theorem Ke:Keyed Tryz.prog 4:=bool_keyed Tryz.underlying4
theorem QR (b:Bool):keyOf Tryz.prog 4 (.bool b)=some (.bool b):=by cases b <;> kernel_rfl
theorem WG (b:Bool) (z:Value):zl.atKey (.bool b) (.held z)=.held (.string ⟨(aD b).toArray⟩):=by cases b <;> rfl
structure Want (M:Mn Y5) (K:List D5) (l:List (Bool×Bs)):Prop where
 len:M.length≤l.length
 each:∀ p∈M,∃ i,∃ h:i<l.length,p.1=i+1∧p.2.1=l[i].1∧p.2.2.2=l[i].2∧WE p.2.2.1∈K
theorem Want.put {M:Mn Y5} {K:List D5} {l:List (Bool×Bs)} (h:Want M K l) (b:Bool) (v:Value) (body:Bs):Want (M.put (l.length+1) (b,v,body)) (WE v::K) (l++[(b,body)]) where
 len:=by
  have:=Mn.dB M (l.length+1) (b,v,body)
  have:=h.len
  simp
  omega
 each:=fun p hp=>by
  rcases Mn.tu.1 hp with rfl | ⟨hp,_⟩
  ·exact ⟨l.length,by simp,rfl,by simp,by simp,by simp⟩
  ·obtain ⟨i,hi,h1,h2,h3,h4⟩:=h.each p hp
   exact ⟨i,by simp;omega,h1,by rw [List.getElem_append_left hi];exact h2,by rw [List.getElem_append_left hi];exact h3,List.mem_cons_of_mem _ h4⟩
def WH (Q:Sq) (l:List (Bool×Bs)) (o:Bool) (n k i:Nat):Prop:=(i≤n∧∃ ef,oq Q l ef (k+1+i) o∧mr l ef o+i=n)∨(i=n+1∧∃ ef,Tn Q l ef (k+2+n)∧ax Q.ring (aD o)=⟨2,0⟩∧∀ j (h:j<l.length),ef j=if l[j].1=o then 2 else 1)
theorem Ii {Q:Sq} {c:Sc} {d:Bs} (h:(ax Q.ring d).old=0):Q.step c d=(Q,false,10):=by rw [step_eq,if_pos h]
section
variable {w0 w:World} {F0:List Nat} {L:List aT} {v:Value} {K:List D5}
theorem Sp.WI {l:List lu} (S:Sp w0 F0 w (dH v l::kC K::L)):Sp w0 F0 w (kC (⟨v,3,l.map lu.vals⟩::K)::L):=by
 have h:Sp w0 F0 w (vE 100 3 v (l.map lu.vals).length (l.map lu.vals).flatten::kC K::L):=by rw [List.length_map];exact S
 exact h.RO (yJ l)
theorem Sp.QS {l:List lu} (S:Sp w0 F0 w (kC K::L)) (h:(⟨v,3,l.map lu.vals⟩:D5)∈K):iM w v l:=by
 obtain ⟨F,a,cap,h1,h2,h3,h4⟩:=S.rom h
 refine ⟨a,cap,by simpa using h1,?_⟩
 rcases h4 with h4 | ⟨b,off,h5,_,_,h6⟩
 ·exact .inl h4
 ·exact .inr ⟨b,off,h5,fun i r hr j u hu=>h6 i r j u hr hu⟩
end
theorem EO (b:Bool):(fC (aD b)).Fit:=⟨show 0<18446744073709551616 by decide,show 0<18446744073709551616 by decide,show 0<18446744073709551616 by decide,show 0<18446744073709551616 by decide,show 0<18446744073709551616 by decide,show (-9223372036854775808:Int)≤0∧(0:Int)≤9223372036854775807 by decide,by show (aD b).length≤_;rw [ll];decide,show (0:Nat)≤1000000∧(0:Nat)≤1000000 by decide,show (1:Nat)≤1000 by decide,by
 intro x hx
 rw [List.mem_singleton.1 hx]
 decide⟩
theorem QT {ds:List Bool} {bs:List Bs} {k:Nat} (h1:k<ds.length) (h2:k<bs.length):(ds.zip bs).take (k+1)=(ds.zip bs).take k++[(ds[k],bs[k])]:=by
 rw [List.take_succ_eq_append_getElem (by rw [List.length_zip];omega),List.getElem_zip]
theorem xX (v0 v1:Value) (ds:List Bool) (bs:List Bs) (o:Bool) (w:World) (E:Env w) (hd:zC w v0 ds) (hb:zB w v1 bs) (Xj:∀ (w':World) (K:List aT),Sp w [] w' K→Calls Tryz.prog 6 #[] w' fun e w2=>e=.returned (.bool true)∧Sp w [] w2 K) :
  Calls Tryz.prog 3 #[v0,v1,.bool o] w fun e w2=>e=.returned (.bool true)∧Ext [] w w2:=by
 obtain ⟨da,afF,rfl,hdl,WJ⟩:=hd
 obtain ⟨⟨ba,afG,rfl,⟨hbl,Y6⟩,hbc⟩,hbm⟩:=hb
 have HE:=Lib.hid E
 have HA:=Lib.hid Xj
 have HDC:Hid (∀ k,(h:k<ds.length)→∃ b off,da=some ⟨b,off,none⟩∧w.cell? ⟨b,off+k,none⟩=some (.bool ds[k])):=fun k h=>by
  rcases WJ with rfl | ⟨b,off,h1,h2⟩
  ·cases h
  ·exact ⟨b,off,h1,h2 k h⟩
 have HBC:Hid (∀ k,(h:k<bs.length)→∃ b off,ba=some ⟨b,off,none⟩∧w.cell? ⟨b,off+k,none⟩=some (.string ⟨bs[k].toArray⟩)):=fun k h=>by
  rcases hbc with rfl | ⟨b,off,h1,h2⟩
  ·cases h
  ·exact ⟨b,off,h1,h2 k h⟩
 obtain ⟨dl,hdl0⟩:∃ n,ds.length=n:=⟨_,rfl⟩
 obtain ⟨bl,WK⟩:∃ n,bs.length=n:=⟨_,rfl⟩
 have KH:=Lib.hid hdl0
 have Cz:=Lib.hid WK
 have hdb:(dl:Int)≤9223372036854775807:=by unfold maxLen at hdl;omega
 have hbb:(bl:Int)≤9223372036854775807:=by unfold maxLen at Y6;omega
 rw [hdl0,WK]
 have bV:=Lib.hid (Sp.nil w [])
 clear hdl WJ hbl Y6 hbc hbm E Xj hdl0 WK
 go_enter Tryz.func3,Tryz.ntmps3
 go_wp2_with fail
 refine (HA.out _ _ bV.out).mono ?_
 rintro e w2 ⟨rfl,S⟩
 have S1:=S.OX 4
 obtain ⟨w3,hr3,S3,_⟩:=S1.KD (t:=25) Ke Tryz.underlying25 (by decide) (QR false) (.string ⟨#[97,46,101,120,97,109,112,108,101]⟩)
 obtain ⟨w4,hr4,S4,_⟩:=S3.KD (t:=25) Ke Tryz.underlying25 (by decide) (QR true) (.string ⟨#[98,46,101,120,97,109,112,108,101]⟩)
 have bX:Hid (Sp w [] w4 [ik 4 w2.heap.size 2 zl]):=S4
 clear S S1 S3 S4 bV HA
 have hmm:=@run_makeMap Tryz.prog
 go_wp2_with fail
 clear hr3 hr4
 generalize w2.heap.size=mb at *
 refine (XG bX.out).mono ?_
 rintro e w5 ⟨d,rfl,S⟩
 have HS2:=Lib.hid S
 clear S bX
 go_wp2_with fail
 refine (Yk HS2.out).mono ?_
 rintro e w6 ⟨b,rfl,S⟩
 have bI:Hid (Sp w [] w6 (aF d Dk.new::jG b .real::[ik 4 mb 2 zl])):=(Sp.pick [_,_,_] [1,0,2] (by decide) (S))
 clear S HS2
 have Tg:=Lib.hid (uY cT Dk.new .real 100 m32 (fun hg=>UR m32 trivial (by decide) hg) HE.out bI.out)
 go_wp2_with fail
 refine Tg.out.mono ?_
 intro e w7 hpost
 unfold EK at hpost
 rw [Lp (c:=cT) (B:=.real) (by decide)] at hpost
 obtain ⟨P,hPd,hPb,rfl,S⟩:=hpost
 have S1:=S.FL 34 mV
 have gP:=Lib.hid (S1.Vf)
 clear S S1 bI Tg hPd hPb
 have gB:Hid (Sp w [] (w7.alloc (.map #[] 0)) (ay P cT (zk .real) (ik 4 mb 2 zl::aY 34 mV w7.heap.size []::[kC []]))):=by
  have h:=gP.out
  unfold ay at h
  unfold Hid ay
  exact (Sp.pick [_,_,_,_,_,_,_,_,_] [2,3,4,5,6,7,8,1,0] (by decide) (h))
 have NY:Hid (∀ (x:Bool) (w':World) (L:List aT),Sp w [] w' (ik 4 mb 2 zl::L)→(Instr.lookup 25 (.map (some mb)) (.bool x) false).run Tryz.prog w'=.ok (.string ⟨(aD x).toArray⟩) w'):=fun x w' L S=>S.OY Ke Tryz.underlying25 (o9 _) (QR x) (WG x _)
 clear gP
 go_upto_region 9 with (fail)
 generalize w7.alloc _=w8 at *
 generalize w7.heap.size=mw at *
 go_wp2_with fail
 go_loopw [10,12] (fun v10 v12 wr=>∃ (k:Nat) (Q:Sq) (M:Mn Y5) (K:List D5) (l:List (Bool×Bs)) (n:Nat),v12=.int .i64 k∧v10=.int .i64 n∧(ds.zip bs).take k=l∧l.length=k∧mr l (fun _=>1) o=n∧k≤dl∧k≤bl∧k≤20∧Tn Q l (fun _=>1) k∧(∀ x,ax Q.ring x=⟨1,0⟩)∧Want M K l∧Sp w [] wr (ay P cT Q (ik 4 mb 2 zl::aY 34 mV mw M::[kC K]))) (fun _ v12 _=>21 - (intOf v12).toNat)
 case atStart=>exact ⟨0,zk .real,[],[],[],0,rfl,rfl,rfl,rfl,rfl,Nat.zero_le _,Nat.zero_le _,by decide,QN,fun x=>rfl,⟨Nat.le_refl _,fun p hp=>nomatch hp⟩,gB.out⟩
 case round =>
  clear gB
  obtain ⟨k,Q,M,K,l,n,rfl,rfl,hl,hlen,hn,hk1,hk2,hk3,htn,hrg,hwt,S⟩:=hrel
  have ZO:=Lib.hid htn
  have Xt:=Lib.hid hrg
  have ZP:=Lib.hid hwt
  have NT:=Lib.hid (And.intro hl hlen)
  have HN:=Lib.hid hn
  have HS:=Lib.hid S
  have Q8:=Lib.hid S
  unfold ay at Q8
  have hnk:n≤k:=by rw [← hn,← hlen];exact QQ _ _ _
  clear htn hrg hwt hl hlen hn S
  by_cases hlt:k<dl∧k<bl∧k<20
  ·obtain ⟨l1,l2,l3⟩:=hlt
   have i1:(k:Int)<dl:=by omega
   have i2:(k:Int)<bl:=by omega
   have i3:(k:Int)<20:=by omega
   have inb:(n:Int)≤100:=by omega
   have d1:k<ds.length:=by rw [KH.out];exact l1
   have d2:k<bs.length:=by rw [Cz.out];exact l2
   have ZQ:=QT (ds:=ds) (bs:=bs) d1 d2
   obtain ⟨db,dof,rfl,WJ⟩:=HDC.out k d1
   obtain ⟨bb,ZR,rfl,hbc⟩:=HBC.out k d2
   have hdr:=HS.out.ext.cell WJ (by simp)
   have hbr:=HS.out.ext.cell hbc (by simp)
   obtain ⟨dk,hdk⟩:∃ x,ds[k]=x:=⟨_,rfl⟩
   obtain ⟨bk,hbk⟩:∃ x,bs[k]=x:=⟨_,rfl⟩
   rw [hdk] at hdr WJ ZQ
   rw [hbk] at hbr hbc ZQ
   have HDR:=Lib.hid WJ
   have SA:=Lib.hid hbc
   have HZT:Hid ((ds.zip bs).take (k+1)=l++[(dk,bk)]):=by unfold Hid;rw [ZQ,NT.out.1]
   clear WJ hbc ZQ hdk hbk d1 d2
   have hlk:=NY.out dk _ _ ((Sp.pick [_,_,_,_,_,_,_,_,_] [6] (by decide) (Q8.out)))
   by_cases hbig:1200<bk.length
   ·have ib:(1200:Int)<bk.length:=by omega
    clear hbig
    go_wp2_with fail
    go_ret
    exact ⟨rfl,HS.out.ext⟩
   have ib:(bk.length:Int)≤1200:=by omega
   have KS:=Lib.hid (ZO.out.put (by omega) (by have:=NT.out.2;omega) dk bk (by omega) (by unfold Sq.dV;rw [Xt.out]) rfl)
   have zD:=Lib.hid ZO.out.ok
   have hbl:bk.length≤1200:=by omega
   clear hbig
   go_wp2_with fail
   refine (abH (aD dk) HS.out).mono ?_
   rintro e w9 ⟨v,rfl,S⟩
   obtain ⟨va,vc,hvf⟩:=S.kM.form
   obtain rfl:v=.slice va 1 vc:=hvf
   have S1:=S.box (vg (aD dk) (.slice va 1 vc)) 40
   unfold ay at S1
   have bX:Hid (Sp w [] (w9.alloc (.cells (vg (aD dk) (.slice va 1 vc)) 40)) (ay P cT Q (dH (.slice va 1 vc) fw::ae w9.heap.size (vg (aD dk) (.slice va 1 vc)) 40::ik 4 mb 2 zl::aY 34 mV mw M::[kC K]))):=by unfold Hid ay;exact (Sp.pick [_,_,_,_,_,_,_,_,_,_,_] [2,3,4,5,6,7,1,0,8,9,10] (by decide) (S1))
   have hdr:=bX.out.ext.cell HDR.out (by simp)
   have hbr:=bX.out.ext.cell SA.out (by simp)
   clear S S1 Q8 hlk
   go_upto_region 15 with (fail)
   generalize w9.alloc _=Po at *
   generalize w9.heap.size=g at *
   have HPC:Hid (∀ w',Sp w [] w' (ay P cT Q (dH (.slice va 1 vc) fw::ae g (vg (aD dk) (.slice va 1 vc)) 40::ik 4 mb 2 zl::aY 34 mV mw M::[kC K]))→Calls Tryz.prog 11 #[.pointer (some ⟨P.s,0,none⟩),.agg (vg (aD dk) (.slice va 1 vc)),.string ⟨bk.toArray⟩] w' fun r w2=>r=.returned (.tuple #[.int .u64 (k+1:Nat),.int .i64 0])∧Sp w [] w2 (ay P cT (Q.put cT (fC (aD dk)) bk).1 (dH (.slice va 1 vc) fw::ae g (vg (aD dk) (.slice va 1 vc)) 40::ik 4 mb 2 zl::aY 34 mV mw M::[kC K]))):=fun w' S'=>by
    have h:=JO (v:=.slice va 1 vc) (fC (aD dk)) bk _ (EO dk) zD.out (by omega) HE.out (fun w2 X S2=>Sp.EN (v:=.slice va 1 vc) (l:=fw) S2) S'
    rw [KS.out.1,NT.out.2] at h
    exact h
   generalize (Q.put cT (fC (aD dk)) bk).1=Q2 at *
   obtain ⟨k1,WL⟩:∃ k1,k+1=k1:=⟨_,rfl⟩
   rw [WL] at HPC HZT
   have Xi:=Lib.hid WL
   clear WL
   refine aM [0,1,2,3,4,5,6,7,8,9,10,11] (fun c=>c == 6) (fun c=>false) (T:=fun wx=>(∀ jA,wx.cell? ⟨g,jA,none⟩=(#[.int .u64 0,.string ⟨(aD dk).toArray⟩,.int .u64 0,.int .u64 0,.string ⟨#[]⟩,.string ⟨#[]⟩,.slice va 1 vc,.int .u64 0,.int .u64 0,.int .i64 0])[jA]?)∧wx.cell? ⟨bb,ZR+k,none⟩=some (.string ⟨bk.toArray⟩)) (S:=fun wx=>Sp w [] wx (ay P cT Q (dH (.slice va 1 vc) fw::ae g (vg (aD dk) (.slice va 1 vc)) 40::ik 4 mb 2 zl::aY 34 mV mw M::[kC K]))) (by kernel_rfl) (by kernel_rfl) (by kernel_rfl) bX.out.drew (fun x h=>⟨(by unfold ay at h;exact ((Sp.pick [_,_,_,_,_,_,_,_,_,_,_] [7] (by decide) (h))).cell),h.ext.cell SA.out (by simp)⟩) ?_
   repeat
    refine Exists.intro _ (And.intro rfl (Or.inl (Exists.intro ?_ (And.intro (fun wS hS K hK=>?_) (And.intro ?_ ?_)))))
    rotate_left 1
    ·obtain ⟨t0,t1⟩:=hS
     first
      | (refine ah rfl ?_;simp only [Act.put,List.setIfInBounds_toArray,List.set_cons_zero,List.set_cons_succ];exact hK.out)
      | (refine ag rfl ?_;go_simp;exact hK.out)
    ·rfl
   refine bC.one rfl rfl rfl (fun wS hS R hR=>?_)
   go_simp
   go_at_call 11
   refine (HPC.out _ hS).mono ?_
   rintro e w7 ⟨rfl,S7⟩
   refine hR.out _ _ rfl (fun wx=>(∀ jA,wx.cell? ⟨g,jA,none⟩=(#[.int .u64 0,.string ⟨(aD dk).toArray⟩,.int .u64 0,.int .u64 0,.string ⟨#[]⟩,.string ⟨#[]⟩,.slice va 1 vc,.int .u64 0,.int .u64 0,.int .i64 0])[jA]?)∧wx.cell? ⟨bb,ZR+k,none⟩=some (.string ⟨bk.toArray⟩)) (fun wx=>Sp w [] wx (ay P cT Q2 (dH (.slice va 1 vc) fw::ae g (vg (aD dk) (.slice va 1 vc)) 40::ik 4 mb 2 zl::aY 34 mV mw M::[kC K]))) S7 (fun x h=>⟨(by unfold ay at h;exact ((Sp.pick [_,_,_,_,_,_,_,_,_,_,_] [7] (by decide) (h))).cell),h.ext.cell SA.out (by simp)⟩) (fun _ h=>h) ?_
   clear hR hS S7
   repeat
    refine Exists.intro _ (And.intro rfl (Or.inl (Exists.intro ?_ (And.intro (fun wS hS K hK=>?_) (And.intro ?_ ?_)))))
    rotate_left 1
    ·obtain ⟨t0,t1⟩:=hS
     first
      | (refine ah rfl ?_;simp only [Act.put,List.setIfInBounds_toArray,List.set_cons_zero,List.set_cons_succ];exact hK.out)
      | (refine ag rfl ?_;go_simp;exact hK.out)
    ·rfl
   intro wE hE
   have aX:=Lib.hid hE
   clear hE
   have Io:Hid (M.length<maxLen):=by have h1:=ZP.out.len;have h2:=NT.out.2;unfold Hid maxLen;omega
   have HKN:Hid (k1<18446744073709551616):=by have h1:=Xi.out;unfold Hid;omega
   clear bX HPC hdr hbr
   go_wp2_with fail
   refine aM [0,1,2,3,4,5,6,7,8] (fun c=>c == 8) (fun c=>c == 8) (T:=fun wx=>(∀ jA,wx.cell? ⟨g,jA,none⟩=(#[.int .u64 0,.string ⟨(aD dk).toArray⟩,.int .u64 0,.int .u64 0,.string ⟨#[]⟩,.string ⟨#[]⟩,.slice va 1 vc,.int .u64 0,.int .u64 0,.int .i64 0])[jA]?)∧wx.cell? ⟨bb,ZR+k,none⟩=some (.string ⟨bk.toArray⟩)) (S:=fun wx=>Sp w [] wx (ay P cT Q2 (dH (.slice va 1 vc) fw::ae g (vg (aD dk) (.slice va 1 vc)) 40::ik 4 mb 2 zl::aY 34 mV mw M::[kC K]))) (by kernel_rfl) (by kernel_rfl) (by kernel_rfl) aX.out.drew (fun x h=>⟨(by unfold ay at h;exact ((Sp.pick [_,_,_,_,_,_,_,_,_,_,_] [7] (by decide) (h))).cell),h.ext.cell SA.out (by simp)⟩) ?_
   repeat
    refine Exists.intro _ (And.intro rfl (Or.inl (Exists.intro ?_ (And.intro (fun wS hS K hK=>?_) (And.intro ?_ ?_)))))
    rotate_left 1
    ·obtain ⟨t0,t1⟩:=hS
     first
      | (refine ah rfl ?_;simp only [Act.put,List.setIfInBounds_toArray,List.set_cons_zero,List.set_cons_succ];exact hK.out)
      | (refine ag rfl ?_;go_simp;exact hK.out)
    ·rfl
   refine bC.two rfl rfl rfl rfl (fun wS hS R hR=>?_)
   obtain ⟨w9,hrun,S9,_⟩:=(show Sp w [] wS (aY 34 mV mw M::ay P cT Q2 (dH (.slice va 1 vc) fw::ae g (vg (aD dk) (.slice va 1 vc)) 40::ik 4 mb 2 zl::[kC K])) from by unfold ay at hS ⊢;exact (Sp.pick [_,_,_,_,_,_,_,_,_,_,_] [9,0,1,2,3,4,5,6,7,8,10] (by decide) (hS))).Ky (t:=35) nJ Tryz.underlying35 Io.out (oP k1 HKN.out) (dk,.slice va 1 vc,bk)
   have uj:=Lib.hid S9
   clear S9
   unfold mV at hrun
   dsimp only at hrun
   go_simp
   refine hR.out _ _ rfl (fun wx=>(∀ jA,wx.cell? ⟨g,jA,none⟩=(#[.int .u64 0,.string ⟨(aD dk).toArray⟩,.int .u64 0,.int .u64 0,.string ⟨#[]⟩,.string ⟨#[]⟩,.slice va 1 vc,.int .u64 0,.int .u64 0,.int .i64 0])[jA]?)∧wx.cell? ⟨bb,ZR+k,none⟩=some (.string ⟨bk.toArray⟩)) (fun wx=>Sp w [] wx (aY 34 mV mw (M.put k1 (dk,.slice va 1 vc,bk))::ay P cT Q2 (dH (.slice va 1 vc) fw::ae g (vg (aD dk) (.slice va 1 vc)) 40::ik 4 mb 2 zl::[kC K]))) uj.out (fun x h=>⟨(by unfold ay at h;exact ((Sp.pick [_,_,_,_,_,_,_,_,_,_,_] [8] (by decide) (h))).cell),h.ext.cell SA.out (by simp)⟩)  ?_
   clear hR
   repeat
    refine Exists.intro _ (And.intro rfl (Or.inl (Exists.intro ?_ (And.intro (fun wS hS K hK=>?_) (And.intro ?_ ?_)))))
    rotate_left 1
    ·obtain ⟨t0,t1⟩:=hS
     first
      | (refine ah rfl ?_;simp only [Act.put,List.setIfInBounds_toArray,List.set_cons_zero,List.set_cons_succ];exact hK.out)
      | (refine ag rfl ?_;go_simp;exact hK.out)
    ·rfl
   intro wE hE
   have aX:=Lib.hid hE
   clear hE
   clear hdr hbr
   have hdr:=aX.out.ext.cell HDR.out (by simp)
   have HZ:Hid (Sp w [] wE (ay P cT Q2 (ik 4 mb 2 zl::aY 34 mV mw (M.put k1 (dk,.slice va 1 vc,bk))::[kC (WE (.slice va 1 vc)::K)]))):=by
    have h:=aX.out
    unfold ay at h
    have h2:=Sp.WI (l:=fw) ((Sp.pick [_,_,_,_,_,_,_,_,_,_,_] [7,10,0,1,2,3,4,5,6,9] (by decide) (h)))
    unfold Hid ay
    exact (Sp.pick [_,_,_,_,_,_,_,_,_] [2,3,4,5,6,7,8,1,0] (by decide) (h2))
   clear aX
   by_cases hdo:dk=o
   ·have hb:(dk == o)=true:=by simp [hdo]
    have HDO:=Lib.hid hdo
    clear hdo
    go_wp2_with fail
    go_roundw
    case rel =>
     obtain rfl:k+1=k1:=Xi.out
     exact ⟨k+1,Q2,_,_,l++[(dk,bk)],n+1,by go_num,by go_num,HZT.out,by simp [NT.out.2],by rw [BI,if_pos HDO.out,HN.out],by omega,by omega,by omega,KS.out.2.1,fun x=>by rw [KS.out.2.2];exact Xt.out x,(by have:=ZP.out.put dk (.slice va 1 vc) bk;rw [NT.out.2] at this;exact this),HZ.out⟩
    case measure=>(simp [intOf];try omega)
   ·have hb:(dk == o)=false:=by simp [hdo]
    have HDO:=Lib.hid hdo
    clear hdo
    go_wp2_with fail
    go_roundw
    case rel =>
     obtain rfl:k+1=k1:=Xi.out
     exact ⟨k+1,Q2,_,_,l++[(dk,bk)],n,by go_num,rfl,HZT.out,by simp [NT.out.2],by rw [BI,if_neg HDO.out,HN.out,Nat.add_zero],by omega,by omega,by omega,KS.out.2.1,fun x=>by rw [KS.out.2.2];exact Xt.out x,(by have:=ZP.out.put dk (.slice va 1 vc) bk;rw [NT.out.2] at this;exact this),HZ.out⟩
    case measure=>(simp [intOf];try omega)
  ·have Sm:Hid (¬ (k<dl∧k<bl∧k<20)):=hlt
   go_upto_region 10 with (fail)
   go_cut [53] from 40 to 54 (fun v53 wx=>v53=.bool false∧wr=wx)
   case first =>
    by_cases h1:k<dl
    ·have i1:(k:Int)<dl:=by omega
     by_cases h2:k<bl
     ·have i2:(k:Int)<bl:=by omega
      have i3:(20:Int)≤k:=by omega
      clear hlt h1 h2
      go_wp2_with fail
      go_meet
      case rel=>exact ⟨by rw [decide_eq_false (by omega)],rfl⟩
     ·have i2:(bl:Int)≤k:=by omega
      clear hlt h1 h2
      go_wp2_with fail
      go_meet
      case rel=>exact ⟨rfl,rfl⟩
    ·have i1:(dl:Int)≤k:=by omega
     clear hlt h1
     go_wp2_with fail
     go_meet
     case rel=>exact ⟨rfl,rfl⟩
   case rest =>
   obtain ⟨rfl,rfl⟩:=hcut
   clear hlt Sm
   have hlk:=NY.out o _ _ ((Sp.pick [_,_,_,_,_,_,_,_,_] [6] (by decide) (Q8.out)))
   have zD:=Lib.hid ZO.out.ok
   have hnl:(aD o).length≤1000000:=by rw [ll];decide
   have Sm:=Lib.hid hnl
   have HST:=Lib.hid (zJ (aD o) (100+23000*k) hnl zD.out (by omega) HE.out HS.out)
   rw [Ii (c:=cT) (by rw [Xt.out])] at HST
   have VB:=Lib.hid (ZO.out.begin (by omega) o (Xt.out _))
   have WM:=Lib.hid (fun (w':World) (S':Sp w [] w' (ay P cT Q (ik 4 mb 2 zl::aY 34 mV mw M::[kC K])))=>He (aD o) (100+23000*k) hnl zD.out (by omega) S')
   rw [VB.out.1] at WM
   have hrg2:∀ b,ax (Q.begin (aD o)).1.ring (aD b)=if b=o then ⟨2,1⟩ else ⟨1,0⟩:=fun b=>by
    rw [VB.out.2.2,Xt.out]
    by_cases h:b=o
    ·rw [h,if_pos rfl,if_pos rfl]
    ·rw [if_neg (fun e=>h (tT.1 e.symm)),if_neg h]
   have WN:Hid (oq (Q.begin (aD o)).1 l (fun _=>1) (k+1) o):=⟨VB.out.2.1,hrg2,fun i h=>.inl rfl⟩
   generalize (Q.begin (aD o)).1=Q1 at *
   clear VB hrg2 hnl
   go_wp2_with fail
   refine HST.out.mono ?_
   rintro e w8 ⟨rfl,S⟩
   have bX:=Lib.hid S
   unfold ay at S
   have hlk:=NY.out o _ _ ((Sp.pick [_,_,_,_,_,_,_,_,_] [6] (by decide) (S)))
   clear S HST Q8 HS
   go_wp2_with fail
   refine (WM.out _ bX.out).mono ?_
   rintro e w9 ⟨rfl,S⟩
   have HS2:=Lib.hid S
   clear S WM bX hlk
   go_wp2_with fail
   go_loopw [18] (fun v18 wr=>∃ (i:Nat) (Q:Sq),v18=.int .i64 i∧WH Q l o n k i∧Sp w [] wr (ay P cT Q (ik 4 mb 2 zl::aY 34 mV mw M::[kC K]))) (fun v18 _=>n+2 - (intOf v18).toNat)
   case atStart=>exact ⟨0,Q1,rfl,.inl ⟨Nat.zero_le _,_,WN.out,HN.out⟩,HS2.out⟩
   case round =>
    clear HS2 WN
    obtain ⟨i,Q2,rfl,hta,S⟩:=hrel
    have HS2:=Lib.hid S
    have HTA:=Lib.hid hta
    have hnb:(n:Int)≤20:=by omega
    unfold ay at S
    have hlk:=NY.out o _ _ ((Sp.pick [_,_,_,_,_,_,_,_,_] [6] (by decide) (S)))
    have Q8:=Lib.hid S
    clear S hta
    by_cases hin:i≤n
    ·have ii:(i:Int)≤n:=by omega
     obtain ⟨ef,htu,hlf⟩:∃ ef,oq Q2 l ef (k+1+i) o∧mr l ef o+i=n:=by
      rcases HTA.out with ⟨_,h⟩ | ⟨h,_⟩
      ·exact h
      ·exfalso;omega
     have HST:=Lib.hid (zJ (aD o) (100+23000*(k+1+i)) Sm.out htu.tn.ok (by omega) HE.out HS2.out)
     have WN:=Lib.hid htu
     have HLF:=Lib.hid hlf
     clear htu
     by_cases hz:i<n
     ·obtain ⟨ZN,hs1,hs2,hs3⟩:=WN.out.step (by omega) (by omega)
      rw [hs1] at HST
      have HT3:=Lib.hid hs2
      have MQ:=Lib.hid hs3
      have ib2:((i:Int) == n)=false:=by simp only [beq_eq_false_iff_ne];omega
      clear hs1 hs2 hs3 WN hin hlf
      generalize (Q2.step cT (aD o)).1=Q3 at *
      go_wp2_with fail
      refine HST.out.mono ?_
      rintro e Po ⟨rfl,S⟩
      have bI:=Lib.hid S
      clear S HST HS2 Q8 hlk
      go_wp2_with fail
      go_roundw
      case rel=>exact ⟨i+1,Q3,by go_num,.inl ⟨by omega,ZN,HT3.out,by have h1:=MQ.out;have h2:=HLF.out;omega⟩,bI.out⟩
      case measure=>(simp [intOf];try omega)
     ·obtain rfl:i=n:=by omega
      obtain ⟨hs1,hs2,hs3,hs4⟩:=WN.out.over (by omega) (by omega)
      rw [hs1] at HST
      have HT3:Hid (Tn (Q2.step cT (aD o)).1 l ef (k+2+i)):=by unfold Hid;rw [show k+2+i=k+1+i+1 by omega];exact hs2
      have Xb:=Lib.hid hs3
      have HT5:=Lib.hid hs4
      clear hs1 hs2 hs3 hs4 WN hin hlf hz
      generalize (Q2.step cT (aD o)).1=Q3 at *
      go_wp2_with fail
      refine HST.out.mono ?_
      rintro e Po ⟨rfl,S⟩
      have bI:=Lib.hid S
      clear S HST HS2 Q8 hlk
      go_wp2_with fail
      go_roundw
      case rel=>exact ⟨i+1,Q3,by go_num,.inr ⟨rfl,ef,HT3.out,Xb.out,HT5.out⟩,bI.out⟩
      case measure=>(simp [intOf];try omega)
    ·obtain ⟨rfl,ef,htn,hr2,hef⟩:i=n+1∧∃ ef,Tn Q2 l ef (k+2+n)∧ax Q2.ring (aD o)=⟨2,0⟩∧∀ j (h:j<l.length),ef j=if l[j].1=o then 2 else 1:=by
      rcases HTA.out with ⟨h,_⟩ | h
      ·exfalso;omega
      ·exact h
     have ii:(n:Int)<(n+1:Nat):=by omega
     have QU:=Lib.hid htn
     have HR2:=Lib.hid hr2
     have HEF:=Lib.hid hef
     obtain ⟨Po,cnt,hrun,S9⟩:=((Sp.pick [_,_,_,_,_,_,_,_,_] [7,0,1,2,3,4,5,6,8] (by decide) (Q8.out))).Ay (t:=35) nJ Tryz.underlying35
     have uj:=Lib.hid S9
     clear S9 HS2 Q8 htn hr2 hef HTA hin hlk
     generalize wr.heap.size=ri at *
     go_wp2_with fail
     go_loopw [] (fun wr=>∃ (N:Mn Y5) (cnt:Nat),Sp w [] wr (gX 34 mV mw ri M N cnt::ay P cT Q2 (ik 4 mb 2 zl::[kC K]))) (fun wr=>wr.rangeLeft mw ri)
     case atStart=>exact ⟨M,cnt,uj.out⟩
     case round =>
      clear hrun uj
      obtain ⟨N,cnt,UB⟩:=hrel
      have IQ:=Lib.hid UB.uO.left_eq
      have zg:=Lib.hid UB
      rcases UB.Az Tryz.underlying34 with ⟨rfl,hnx⟩ | ⟨x,c,NZ,N1,cnt1,hperm,hmem,hxl,hnx,S11,hlt2,hnot,hent⟩
      ·have QK:Hid (Sp w [] wr (ay P cT Q2 (ik 4 mb 2 zl::kC K::[gX 34 mV mw ri M [] cnt]))):=by
        have h:=zg.out
        unfold ay at h
        unfold Hid ay
        exact (Sp.pick [_,_,_,_,_,_,_,_,_] [1,2,3,4,5,6,7,8,0] (by decide) (h))
       have hlk:(Instr.lookup 25 (.map (some mb)) (.bool o) false).run Tryz.prog wr=.ok (.string ⟨(aD o).toArray⟩) wr:=by
        have h:=zg.out
        unfold ay at h
        exact NY.out o _ _ ((Sp.pick [_,_,_,_,_,_,_,_,_] [7] (by decide) (h)))
       have abO:Hid (Q2.D.now.length<1000000000000):=by have:=QU.out.ok.room.now;unfold Hid;omega
       clear UB zg
       go_wp2_with fail
       refine (Hd (aD o) (by rw [ll];decide) QK.out).mono ?_
       rw [HR2.out]
       rintro e mZ ⟨rfl,S⟩
       have Ia:=Lib.hid S
       clear S QK
       unfold jF.agg
       go_wp2_with fail
       refine (Qo abO.out Ia.out).mono ?_
       rintro e Xq ⟨bv,rfl,S⟩
       obtain ⟨ba2,bc2,rfl⟩:=S.tO
       have Cb:=Lib.hid S.drop
       rw [QU.out.bad]
       dsimp only [List.length_nil]
       clear S Ia
       go_wp2
       go_ret
       exact ⟨rfl,Cb.out.ext⟩
      ·obtain ⟨b2,kv,kb⟩:=c
       have xB:=Lib.hid hlt2
       obtain ⟨i2,hi2,hx,hb2,hkb,ZT⟩:=ZP.out.each _ hmem
       dsimp only at hx hb2 hkb ZT
       obtain ⟨cn,hcn,hload⟩:=QU.out.load hi2
       have T9:=HEF.out i2 hi2
       obtain ⟨ep,KQ⟩:∃ ep,ef i2=ep:=⟨_,rfl⟩
       rw [← hb2] at hload T9 hcn
       rw [← hkb] at hload
       rw [KQ] at hload T9 hcn
       rw [← hx] at hload hcn
       have HX:=Lib.hid hxl
       have hfit:=(QU.out.ok.fit _ (Mn.get_mem hcn)).2
       have hcb:cn≤1099511627776:=hfit.2.2
       have hpb:ep≤1099511627776:=hfit.2.1
       have HCB:=Lib.hid (And.intro hcb hpb)
       have HT:Hid (iM NZ kv fw):=((Sp.pick [_,_,_,_,_,_,_,_,_] [8] (by decide) ((show Sp w [] NZ _ from by have h:=S11;unfold ay at h;exact h)))).QS ZT
       obtain ⟨ka,kc,hkf⟩:=HT.out.form
       obtain rfl:kv=.slice ka 1 kc:=hkf
       have bS:=S11.box #[.int .u64 0,.string ⟨(aD b2).toArray⟩,.int .u64 0,.int .u64 0,.string ⟨#[]⟩,.string ⟨#[]⟩,.slice ka 1 kc,.int .u64 0,.int .u64 0,.int .i64 0,.string ⟨kb.toArray⟩] 45
       unfold mV at hnx hent
       dsimp only at hnx hent
       have Ia:Hid (Sp w [] (NZ.alloc (.cells #[.int .u64 0,.string ⟨(aD b2).toArray⟩,.int .u64 0,.int .u64 0,.string ⟨#[]⟩,.string ⟨#[]⟩,.slice ka 1 kc,.int .u64 0,.int .u64 0,.int .i64 0,.string ⟨kb.toArray⟩] 45)) (ay P cT Q2 (ae NZ.heap.size #[.int .u64 0,.string ⟨(aD b2).toArray⟩,.int .u64 0,.int .u64 0,.string ⟨#[]⟩,.string ⟨#[]⟩,.slice ka 1 kc,.int .u64 0,.int .u64 0,.int .i64 0,.string ⟨kb.toArray⟩] 45::gX 34 mV mw ri M N1 cnt1::ik 4 mb 2 zl::[kC K]))):=by
        unfold ay at bS
        unfold Hid ay
        exact (Sp.pick [_,_,_,_,_,_,_,_,_,_] [2,3,4,5,6,7,0,1,8,9] (by decide) (bS))
       have HKK:=Lib.hid ZT
       have HEP:=Lib.hid T9
       clear UB zg S11 bS HT hperm hmem hxl hlt2 hnot hi2 hx hb2 hkb ZT hcn hfit hcb hpb T9 KQ
       go_upto_region 33 with (fail)
       generalize NZ.alloc _=mZ at *
       generalize NZ.heap.size=g22 at *
       have Q5:=Lib.hid (qI x (100+23000*(k+2+n)) HX.out QU.out.ok (by omega) HE.out Ia.out)
       have hl2:Q2.load cT.ai x=(Q2,{ fC (aD b2) with id:=x,ep:=ep,cnt:=cn },kb,0):=hload
       rw [hl2] at Q5
       clear hl2 hload
       go_wp2_with fail
       refine Q5.out.mono ?_
       rintro r Xq ⟨v2,rfl,S⟩
       obtain ⟨ea,ec,abP⟩:=S.kM.form
       obtain rfl:v2=.slice ea 1 ec:=abP
       unfold eH fC
       dsimp only
       have S5:=S.box #[.int .u64 x,.string ⟨(aD b2).toArray⟩,.int .u64 ep,.int .u64 cn,.string ⟨#[]⟩,.string ⟨#[]⟩,.slice ea 1 ec,.int .u64 0,.int .u64 0,.int .i64 0] 40
       have Cb:Hid (Sp w [] (Xq.alloc (.cells #[.int .u64 x,.string ⟨(aD b2).toArray⟩,.int .u64 ep,.int .u64 cn,.string ⟨#[]⟩,.string ⟨#[]⟩,.slice ea 1 ec,.int .u64 0,.int .u64 0,.int .i64 0] 40)) (ay P cT Q2 (ae Xq.heap.size #[.int .u64 x,.string ⟨(aD b2).toArray⟩,.int .u64 ep,.int .u64 cn,.string ⟨#[]⟩,.string ⟨#[]⟩,.slice ea 1 ec,.int .u64 0,.int .u64 0,.int .i64 0] 40::dH (.slice ea 1 ec) fw::ae g22 #[.int .u64 0,.string ⟨(aD b2).toArray⟩,.int .u64 0,.int .u64 0,.string ⟨#[]⟩,.string ⟨#[]⟩,.slice ka 1 kc,.int .u64 0,.int .u64 0,.int .i64 0,.string ⟨kb.toArray⟩] 45::gX 34 mV mw ri M N1 cnt1::ik 4 mb 2 zl::[kC K]))):=by
        unfold ay at S5
        unfold Hid ay
        exact (Sp.pick [_,_,_,_,_,_,_,_,_,_,_,_] [2,3,4,5,6,7,0,1,8,9,10,11] (by decide) (S5))
       clear S S5 Q5 Ia hnx hent
       go_upto_region 34 with (fail)
       generalize Xq.alloc _=w14 at *
       generalize Xq.heap.size=g23 at *
       have VK:Hid (∀ w',Sp w [] w' (ay P cT Q2 (ae g23 #[.int .u64 x,.string ⟨(aD b2).toArray⟩,.int .u64 ep,.int .u64 cn,.string ⟨#[]⟩,.string ⟨#[]⟩,.slice ea 1 ec,.int .u64 0,.int .u64 0,.int .i64 0] 40::dH (.slice ea 1 ec) fw::ae g22 #[.int .u64 0,.string ⟨(aD b2).toArray⟩,.int .u64 0,.int .u64 0,.string ⟨#[]⟩,.string ⟨#[]⟩,.slice ka 1 kc,.int .u64 0,.int .u64 0,.int .i64 0,.string ⟨kb.toArray⟩] 45::gX 34 mV mw ri M N1 cnt1::ik 4 mb 2 zl::[kC K]))→Calls Tryz.prog 15 #[.agg #[.int .u64 0,.string ⟨(aD b2).toArray⟩,.int .u64 0,.int .u64 0,.string ⟨#[]⟩,.string ⟨#[]⟩,.slice ka 1 kc,.int .u64 0,.int .u64 0,.int .i64 0],.agg #[.int .u64 x,.string ⟨(aD b2).toArray⟩,.int .u64 ep,.int .u64 cn,.string ⟨#[]⟩,.string ⟨#[]⟩,.slice ea 1 ec,.int .u64 0,.int .u64 0,.int .i64 0]] w' fun r w2=>r=.returned (.bool true)∧Sp w [] w2 (ay P cT Q2 (ae g23 #[.int .u64 x,.string ⟨(aD b2).toArray⟩,.int .u64 ep,.int .u64 cn,.string ⟨#[]⟩,.string ⟨#[]⟩,.slice ea 1 ec,.int .u64 0,.int .u64 0,.int .i64 0] 40::dH (.slice ea 1 ec) fw::ae g22 #[.int .u64 0,.string ⟨(aD b2).toArray⟩,.int .u64 0,.int .u64 0,.string ⟨#[]⟩,.string ⟨#[]⟩,.slice ka 1 kc,.int .u64 0,.int .u64 0,.int .i64 0,.string ⟨kb.toArray⟩] 45::gX 34 mV mw ri M N1 cnt1::ik 4 mb 2 zl::[kC K]))):=fun w' h=>by
        have h0:=h
        unfold ay at h0
        have h1:=((Sp.pick [_,_,_,_,_,_,_,_,_,_,_,_] [11] (by decide) (h0))).QS HKK.out
        have h2:=((Sp.pick [_,_,_,_,_,_,_,_,_,_,_,_] [7] (by decide) (h0))).kM
        have hx2:=HX.out
        have hc2:=HCB.out
        have hfit:({ fC (aD b2) with id:=x,ep:=ep,cnt:=cn }:En).Fit:={ EO b2 with id:=hx2,ep:=(show ep<_ by omega),cnt:=(show cn<_ by omega) }
        have hsame:uE ((fC (aD b2)).as { fC (aD b2) with id:=x,ep:=ep,cnt:=cn }) { fC (aD b2) with id:=x,ep:=ep,cnt:=cn }=true:=by simp [uE,En.as,fC]
        refine (WC (fC (aD b2)) { fC (aD b2) with id:=x,ep:=ep,cnt:=cn } w' ⟨EO b2,h1⟩ ⟨hfit,h2⟩).mono ?_
        rintro r w2 ⟨rfl,hx⟩
        exact ⟨by rw [hsame],h.iq hx⟩
       have h0:=Cb.out
       unfold ay at h0
       have ck:=((Sp.pick [_,_,_,_,_,_,_,_,_,_,_,_] [8] (by decide) (h0))).cell
       have ce:=((Sp.pick [_,_,_,_,_,_,_,_,_,_,_,_] [6] (by decide) (h0))).cell
       have hlk:=NY.out o _ _ ((Sp.pick [_,_,_,_,_,_,_,_,_,_,_,_] [10] (by decide) (h0)))
       clear h0
       have hbb:(kb == kb)=true:=by simp
       by_cases Xu:b2=o
       ·have hnn:(aD b2 == aD o)=true:=by simp [Xu]
        have WO:ep=2:=by rw [HEP.out,if_pos Xu]
        clear Xu
        subst WO
        go_wp2_with fail
        refine (VK.out _ Cb.out).mono ?_
        rintro r Xr ⟨rfl,S⟩
        have Ib:Hid (Sp w [] Xr (gX 34 mV mw ri M N1 cnt1::ay P cT Q2 (ik 4 mb 2 zl::[kC K]))):=by
         unfold ay at S
         unfold Hid ay
         exact (Sp.pick [_,_,_,_,_,_,_,_,_,_,_,_] [9,0,1,2,3,4,5,10,11] (by decide) (S))
        clear S VK Cb ck ce hlk
        go_wp2_with fail
        go_roundw
        case rel=>exact ⟨N1,cnt1,Ib.out⟩
        case measure =>
         have h1:=Ib.out.uO.left_eq
         have h2:=IQ.out
         have h3:=xB.out
         omega
       ·have hnn:(aD b2 == aD o)=false:=by rw [beq_eq_false_iff_ne];exact fun h=>Xu (tT.1 h)
        have WO:ep=1:=by rw [HEP.out,if_neg Xu]
        clear Xu
        subst WO
        go_wp2_with fail
        refine (VK.out _ Cb.out).mono ?_
        rintro r Xr ⟨rfl,S⟩
        have Ib:Hid (Sp w [] Xr (gX 34 mV mw ri M N1 cnt1::ay P cT Q2 (ik 4 mb 2 zl::[kC K]))):=by
         unfold ay at S
         unfold Hid ay
         exact (Sp.pick [_,_,_,_,_,_,_,_,_,_,_,_] [9,0,1,2,3,4,5,10,11] (by decide) (S))
        clear S VK Cb ck ce hlk
        go_wp2_with fail
        go_roundw
        case rel=>exact ⟨N1,cnt1,Ib.out⟩
        case measure =>
         have h1:=Ib.out.uO.left_eq
         have h2:=IQ.out
         have h3:=xB.out
         omega
end
section
open Go.RowKit Go.Maps
theorem zm (v0:Value) (ds:List Bool) (v1:Value) (bs:List Bs) (o:Bool) (w:World) (E:Env w) (hd:zC w v0 ds) (hb:zB w v1 bs) :
  Calls Tryz.prog 3 #[v0,v1,.bool o] w fun e w2=>e=.returned (.bool true)∧Ext [] w w2 :=
 xX v0 v1 ds bs o w E hd hb (fun _ _ S=>QH E S)
end
end Go.Proofs.YtangbdahnmomlaaGreatDoor
