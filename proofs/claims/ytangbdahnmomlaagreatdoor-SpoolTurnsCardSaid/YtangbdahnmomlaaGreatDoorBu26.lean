/- sha: Mix. Conditions: a block of 64 bytes. sha: mix, Pad, New, Add, Sum. Conditions: the lengths fit. -/
import Derived.Test.YtangbdahnmomlaaGreatDoorBu16
import Derived.Test.YtangbdahnmomlaaGreatDoorBu18
set_option linter.unnecessarySimpa false
set_option linter.unusedSimpArgs false
set_option linter.unusedVariables false
set_option maxHeartbeats 4000000
set_option maxRecDepth 100000
namespace Go.Proofs.YtangbdahnmomlaaGreatDoor
section
open Go.RowKit
theorem CO:(Tryz.prog.info? 312).map (·.size)=some 8:=by kernel_rfl
theorem PN {c:Array Value} (h:c.size=8):(Tryz.prog.info? 312).map (·.size)=some c.size:=CO.trans (by rw [h])
theorem Bb (a b:Nat) (ha:a<4294967296) (hb:b<4294967296):bits .and .u32 (a:Int) (b:Int)=((a &&& b:Nat):Int)∧a &&& b<4294967296:=by
 have hx:a &&& b<2 ^ 32:=Nat.and_lt_two_pow a hb
 refine ⟨?_,hx⟩
 unfold bits
 simp [IntKind.wrap,IntKind.signed,IntKind.bits]
 have e:(BitVec.ofNat 32 a &&& BitVec.ofNat 32 b).toNat=a &&& b:=by
  rw [BitVec.toNat_and,BitVec.toNat_ofNat,BitVec.toNat_ofNat,Nat.mod_eq_of_lt ha,Nat.mod_eq_of_lt hb]
 have e2:((BitVec.ofNat 32 a &&& BitVec.ofNat 32 b).toNat:Int)=((a &&& b:Nat):Int):=by rw [e]
 show ((BitVec.ofNat 32 a &&& BitVec.ofNat 32 b).toNat:Int) % 4294967296=((a &&& b:Nat):Int)
 rw [e2]
 omega
theorem PO (e:Nat) (h:e<4294967296):4294967295 ^^^ e=4294967295 - e:=by
 have h1:BitVec.ofNat 32 4294967295 ^^^ BitVec.ofNat 32 e = ~~~ (BitVec.ofNat 32 e):=by
  rw [show BitVec.ofNat 32 4294967295=BitVec.allOnes 32 from rfl,BitVec.allOnes_xor]
 have h2:=congrArg BitVec.toNat h1
 rw [BitVec.toNat_xor,BitVec.toNat_not,BitVec.toNat_ofNat,BitVec.toNat_ofNat,Nat.mod_eq_of_lt h] at h2
 exact h2
theorem VR (e:Nat) (h:e<4294967296):bits .xor .u32 (if IntKind.u32.signed=true then -1 else IntKind.u32.max) (e:Int)=((4294967295 - e:Nat):Int):=by
 have h1:(if IntKind.u32.signed=true then (-1:Int) else IntKind.u32.max)=((4294967295:Nat):Int):=by decide
 rw [h1,xG 4294967295 e (by decide) h,PO e h]
theorem qi (a b:Nat):IntKind.u32.wrap ((a:Int)+(b:Int))=(add32 a b:Int):=by rw [IntKind.wrap_u32];exact jV a b
abbrev S8.dW (v:S8):Array Value:=#[.int .u32 v.a,.int .u32 v.b,.int .u32 v.c,.int .u32 v.d,.int .u32 v.e,.int .u32 v.f,.int .u32 v.g,.int .u32 v.h]
def S8.yR (v:S8):List Nat:=[v.a,v.b,v.c,v.d,v.e,v.f,v.g,v.h]
theorem S8.row (v:S8):v.dW=aG v.yR:=rfl
def wI (s v:List Nat):Nat→List Nat
 | 0=>s
 | k+1=>(wI s v k).set k (add32 (s.getD k 0) (v.getD k 0))
theorem wJ (s v:List Nat):∀ k,(wI s v k).length=s.length
 | 0=>rfl
 | k+1=>by rw [wI,List.length_set,wJ s v k]
theorem CP (s v:List Nat) (i:Nat):∀ k,k≤i→(wI s v k).getD i 0=s.getD i 0
 | 0,_=>rfl
 | k+1,h=>by
  rw [wI,List.getD_eq_getElem?_getD,List.getElem?_set_ne (by omega),← List.getD_eq_getElem?_getD,CP s v i k (by omega)]
theorem M6 (s v:S8):aG (wI s.yR v.yR 8)=(s.add v).dW:=rfl
section
variable {w0 w:World} {F0:List Nat} {L:List aT}
theorem CQ (x:Nat) (hx:x<4294967296) (zs:List Nat) (hz:∀ z∈zs,1≤z∧z≤31):∃ rr:Nat→Nat,(∀ z,iG x (32 - z)=rr z)∧(∀ z,rr z<4294967296)∧∀ z∈zs,∀ (w':World) (L':List aT),Sp w0 F0 w' L'→Calls Tryz.prog 274 #[.int .u32 x,.int .i64 z] w' fun e w2=>e=.returned (.int .u32 (rr z))∧Sp w0 F0 w2 L' :=
 ⟨fun z=>iG x (32 - z),fun _=>rfl,fun z=>pY x _ hx,fun z h w' L' S=>(rX x z _ hx (hz z h).1 (hz z h).2 rfl w').mono fun _ _ ⟨he,hw⟩=>⟨he,hw ▸ S⟩⟩
abbrev sG:Array Value:=#[.int .u32 0,.int .u32 0,.int .u32 0,.int .u32 0,.int .u32 0,.int .u32 0,.int .u32 0,.int .u32 0,.int .u32 0,.int .u32 0,.int .u32 0,.int .u32 0,.int .u32 0,.int .u32 0,.int .u32 0,.int .u32 0,.int .u32 0,.int .u32 0,.int .u32 0,.int .u32 0,.int .u32 0,.int .u32 0,.int .u32 0,.int .u32 0,.int .u32 0,.int .u32 0,.int .u32 0,.int .u32 0,.int .u32 0,.int .u32 0,.int .u32 0,.int .u32 0,.int .u32 0,.int .u32 0,.int .u32 0,.int .u32 0,.int .u32 0,.int .u32 0,.int .u32 0,.int .u32 0,.int .u32 0,.int .u32 0,.int .u32 0,.int .u32 0,.int .u32 0,.int .u32 0,.int .u32 0,.int .u32 0,.int .u32 0,.int .u32 0,.int .u32 0,.int .u32 0,.int .u32 0,.int .u32 0,.int .u32 0,.int .u32 0,.int .u32 0,.int .u32 0,.int .u32 0,.int .u32 0,.int .u32 0,.int .u32 0,.int .u32 0,.int .u32 0]
theorem uw:sG.size=64:=rfl
abbrev gH:Array Value:=#[.int .u32 0,.int .u32 0,.int .u32 0,.int .u32 0,.int .u32 0,.int .u32 0,.int .u32 0,.int .u32 0]
theorem VS (v:S8) (t:Bs) (hv:v.fit) (ht:t.length=64) (S:Sp w0 F0 w L):Calls Tryz.prog 266 #[v.agg,.string ⟨t.toArray⟩] w fun e w2=>e=.returned (.tuple #[(vY v t).agg,.int .i64 0])∧Sp w0 F0 w2 L:=by
 have bV:=Lib.hid ((S.box v.dW 312).box gH 312)
 have hsz:∀ (w':World) (o:Obj),(w'.alloc o).heap.size=w'.heap.size+1:=fun w' o=>Array.size_push _
 rw [hsz] at bV
 have hlen:(t.length:Int)=64:=by omega
 have HSC:=Lib.hid (fun (w':World) (L':List aT) (S':Sp w0 F0 w' L')=>Je t ht S')
 have HV:=Lib.hid hv
 have HTB:=Lib.hid (fun (w':World) (L':List aT) (S':Sp w0 F0 w' L')=>RY S')
 have MP:Hid (vY v t=v.add (vX (gG t) v 64)):=rfl
 have Im:=Lib.hid (KJ t)
 clear S ht hv
 unfold S8.agg
 go_enter Tryz.func266,Tryz.ntmps266
 go_wp2_with fail
 generalize (w.alloc _).alloc _=w1 at *
 generalize w.heap.size+1=g4 at *
 generalize w.heap.size=g2 at *
 refine (HSC.out _ _ bV.out).mono ?_
 rintro e w2 ⟨rfl,S⟩
 have bX:=Lib.hid S
 clear S HSC bV
 have hzl:=nY (rU (gG t)) 64
 obtain ⟨sc,hsc⟩:∃ sc,kJ (rU (gG t)) 64=sc:=⟨_,rfl⟩
 rw [hsc] at hzl ⊢
 have VT:=Lib.hid hsc
 have hz6:(aG sc).size=64:=by rw [fO,hzl]
 have hz7:(aG AP).size=64:=by rw [fO];decide
 clear hsc hzl
 go_wp2_with fail
 refine (HTB.out _ _ bX.out).mono ?_
 rintro e w3 ⟨rfl,S⟩
 clear bX HTB
 have S4:=(S.box sG 341).box sG 341
 rw [hsz] at S4
 have b6:=S4.ak.boxed
 have S5:=S4.ak.setRow (aG sc)
 have b7:=S5.ak.boxed
 have fG:=Lib.hid (S5.ak.setRow (aG AP))
 clear S S4 S5 hsz
 go_upto_region 4 with (first
  | refine wpList_store_row rfl 341 _ _ rfl w3.heap.size (aG sc) rfl rfl 341 _ b6 (kX hz6) (by rw [hz6,uw]) (kV _) ?_
  | refine wpList_store_row rfl 341 _ _ rfl (w3.heap.size+1) (aG AP) rfl rfl 341 _ b7 (kX hz7) (by rw [hz7,uw]) (kV _) ?_
  | fail)
 generalize (((w3.alloc (.cells sG 341)).alloc (.cells sG 341)).setRow w3.heap.size (aG sc)).setRow (w3.heap.size+1) (aG AP)=w4 at *
 generalize w3.heap.size+1=g7 at *
 generalize w3.heap.size=g6 at *
 clear b6 b7 hz6 hz7
 try simp only [Act.put]
 have bv2:=((Sp.pick [_,_,_,_] [3] (by decide) (fG.out))).boxed
 have tV:=Lib.hid (fG.out.box v.dW 312)
 go_upto_region 5 with (first
  | refine wpList_load_row rfl 312 _ rfl g2 rfl 312 v.dW (0,0) _ bv2 Tryz.underlying312 rfl (PN rfl) ?_
  | fail)
 generalize w4.alloc (.cells v.dW 312)=w5 at *
 generalize w4.heap.size=g8 at *
 clear bv2 fG
 try simp only [Act.put]
 have uj:Hid (Sp w0 F0 w5 (ae g8 (vX (gG t) v 0).dW 312::ae g7 (aG AP) 341::ae g6 (aG sc) 341::ae g4 gH 312::ae g2 v.dW 312::L)):=tV.out
 have MU:Hid (∀ q,q<64→sc.getD q 0=rU (gG t) q):=fun q hq=>by rw [← VT.out,F6 _ _ _ hq,if_pos hq]
 have Vr:Hid (sc.length=64):=by unfold Hid;rw [← VT.out];exact nY _ _
 have Xc:Hid (∀ k,(vX (gG t) v k).fit):=CE _ HV.out
 have HRN:Hid (∀ k,vX (gG t) v (k+1)=(vX (gG t) v k).round (AP.getD k 0) (rU (gG t) k)):=fun _=>rfl
 generalize rU (gG t)=W at *
 generalize vX (gG t) v=R at *
 clear tV VT
 go_wp2_with fail
 go_loopw [23] (fun i wr=>∃ k:Nat,i=.int .i64 k∧k≤64∧Sp w0 F0 wr (ae g8 (R k).dW 312::ae g7 (aG AP) 341::ae g6 (aG sc) 341::ae g4 gH 312::ae g2 v.dW 312::L)) (fun i _=>65 - (intOf i).toNat)
 case atStart=>exact ⟨0,rfl,Nat.zero_le _,uj.out⟩
 case round =>
  clear uj
  obtain ⟨k,rfl,hk,S⟩:=hrel
  have HS:=Lib.hid S
  clear S
  by_cases hlt:k<64
  ·have VU:(k:Int)<64:=by omega
   have hf:=Xc.out k
   have HN:=Lib.hid (HRN.out k)
   generalize R k=r at *
   obtain ⟨a,b,c,d,e,f,g,h⟩:=r
   have HW:=Im.out k
   have HWK:=Lib.hid (MU.out k hlt)
   have VN:Hid (AP.getD k 0<4294967296):=by
    have:∀ q,q<64→AP.getD q 0<4294967296:=by decide
    exact this k hlt
   have hkk:=VN.out
   have Zz:Hid (∀ {w':World},Sp w0 F0 w' (ae g8 (S8.mk a b c d e f g h).dW 312::ae g7 (aG AP) 341::ae g6 (aG sc) 341::ae g4 gH 312::ae g2 v.dW 312::L)→w'.cell? ⟨g6,k,none⟩=some (.int .u32 (W k:Nat))∧w'.cell? ⟨g7,k,none⟩=some (.int .u32 (AP.getD k 0:Nat))):=fun {w'} S' =>
    ⟨by rw [((Sp.pick [_,_,_] [2] (by decide) (S'))).uP (by rw [Vr.out];exact hlt),HWK.out],S'.ak.uP (show k<AP.length from hlt)⟩
   generalize AP.getD k 0=kk at *
   generalize W k=ww at *
   obtain ⟨hfa,hfb,hfc,Sk,hfe,hff,hfg,hfh⟩:=hf
   dsimp only at hfa hfb hfc Sk hfe hff hfg hfh
   have ha:wr.cell? ⟨g8,0,none⟩=some (.int .u32 a):=HS.out.cell 0
   have he:wr.cell? ⟨g8,4,none⟩=some (.int .u32 e):=HS.out.cell 4
   have HR1:=Lib.hid (CQ (w0:=w0) (F0:=F0) e hfe [6,11,25] (by decide))
   have HR2:=Lib.hid (CQ (w0:=w0) (F0:=F0) a hfa [2,13,22] (by decide))
   have Uy:Hid ((S8.mk a b c d e f g h).round kk ww=⟨add32 (add32 (add32 (add32 (add32 h (iG e 26 ^^^ iG e 21 ^^^ iG e 7)) ((e &&& f) ^^^ ((4294967295 - e) &&& g))) kk) ww) (add32 (iG a 30 ^^^ iG a 19 ^^^ iG a 10) ((a &&& b) ^^^ (a &&& c) ^^^ (b &&& c))),a,b,c,add32 d (add32 (add32 (add32 (add32 h (iG e 26 ^^^ iG e 21 ^^^ iG e 7)) ((e &&& f) ^^^ ((4294967295 - e) &&& g))) kk) ww),e,f,g⟩):=rfl
   rw [Uy.out] at HN
   obtain ⟨rr,hr1,hr2,HRR⟩:=HR1.out
   obtain ⟨qq,hq1,hq2,ZA⟩:=HR2.out
   have z6:=hr1 6
   have z11:=hr1 11
   have z25:=hr1 25
   have z2:=hq1 2
   have z13:=hq1 13
   have z22:=hq1 22
   simp only [Nat.reduceSub] at z6 z11 z25 z2 z13 z22
   rw [z6,z11,z25,z2,z13,z22] at HN
   obtain ⟨e1,e2,e3⟩:=O4 (rr 6) (rr 11) (rr 25) (hr2 6) (hr2 11) (hr2 25)
   obtain ⟨e4,e5,e6⟩:=O4 (qq 2) (qq 13) (qq 22) (hq2 2) (hq2 13) (hq2 22)
   obtain ⟨f1,f2⟩:=Bb e f hfe hff
   have hne:4294967295 - e<4294967296:=by omega
   obtain ⟨f3,f4⟩:=Bb (4294967295 - e) g hne hfg
   have f5:=xG (e &&& f) ((4294967295 - e) &&& g) f2 f4
   have f6:=jI (e &&& f) ((4294967295 - e) &&& g) f2 f4
   obtain ⟨f7,f8⟩:=Bb a b hfa hfb
   obtain ⟨f9,f10⟩:=Bb a c hfa hfc
   obtain ⟨f11,f12⟩:=Bb b c hfb hfc
   obtain ⟨m1,m2,m3⟩:=O4 (a &&& b) (a &&& c) (b &&& c) f8 f10 f12
   clear z6 z11 z25 z2 z13 z22 hr1 hq1 HR1 HR2 Uy
   have HRR:=Lib.hid HRR
   have ZA:=Lib.hid ZA
   generalize rr 6 ^^^ rr 11 ^^^ rr 25=E1 at *
   generalize rr 6 ^^^ rr 11=E0 at *
   generalize qq 2 ^^^ qq 13 ^^^ qq 22=A1 at *
   generalize qq 2 ^^^ qq 13=A0 at *
   generalize (e &&& f) ^^^ ((4294967295 - e) &&& g)=CH at *
   generalize (a &&& b) ^^^ (a &&& c) ^^^ (b &&& c)=MJ at *
   generalize (a &&& b) ^^^ (a &&& c)=MJ0 at *
   generalize a &&& b=AB at *
   generalize a &&& c=AC at *
   generalize b &&& c=BC at *
   generalize e &&& f=EF at *
   have hnot:=VR e hfe
   generalize (4294967295 - e) &&& g=NG at *
   generalize 4294967295 - e=NE at *
   have v1:=qi h E1
   have v2:=qi (add32 h E1) CH
   have v3:=qi (add32 (add32 h E1) CH) kk
   have v4:=qi (add32 (add32 (add32 h E1) CH) kk) ww
   have v5:=qi A1 MJ
   have v6:=qi (add32 (add32 (add32 (add32 h E1) CH) kk) ww) (add32 A1 MJ)
   have v7:=qi d (add32 (add32 (add32 (add32 h E1) CH) kk) ww)
   have a1:=jV h E1
   have a2:=jV (add32 h E1) CH
   have a3:=jV (add32 (add32 h E1) CH) kk
   have a4:=jV (add32 (add32 (add32 h E1) CH) kk) ww
   have a5:=jV A1 MJ
   have a6:=jV (add32 (add32 (add32 (add32 h E1) CH) kk) ww) (add32 A1 MJ)
   have a7:=jV d (add32 (add32 (add32 (add32 h E1) CH) kk) ww)
   generalize add32 d (add32 (add32 (add32 (add32 h E1) CH) kk) ww)=DP at *
   generalize add32 (add32 (add32 (add32 (add32 h E1) CH) kk) ww) (add32 A1 MJ)=PQ at *
   generalize add32 A1 MJ=QV at *
   generalize add32 (add32 (add32 (add32 h E1) CH) kk) ww=PV at *
   generalize add32 (add32 (add32 h E1) CH) kk=P3 at *
   generalize add32 (add32 h E1) CH=P2 at *
   generalize add32 h E1=P1 at *
   obtain ⟨wo,rfl⟩:∃ wo:World,wo=wr:=⟨_,rfl⟩
   go_wp2_with fail
   go_region
   all_goals
    have HS2:=Lib.hid HS.out.drew
    clear ha he HS
    go_upto_region 9 with (fail)
    refine au (S:=fun wx=>Sp w0 F0 wx (ae g8 #[.int .u32 a,.int .u32 b,.int .u32 c,.int .u32 d,.int .u32 e,.int .u32 f,.int .u32 g,.int .u32 h] 312::ae g7 (aG AP) 341::ae g6 (aG sc) 341::ae g4 gH 312::ae g2 v.dW 312::L)∧(wx.cell? ⟨g8,7,none⟩=some (.int .u32 h))∧(wx.cell? ⟨g8,5,none⟩=some (.int .u32 f))∧(wx.cell? ⟨g8,6,none⟩=some (.int .u32 g))∧(wx.cell? ⟨g6,k,none⟩=some (.int .u32 ww))∧(wx.cell? ⟨g7,k,none⟩=some (.int .u32 kk))) (by kernel_rfl) (by kernel_rfl) ⟨(HS2.out).drew,(HS2.out.drew.cell 7),(HS2.out.drew.cell 5),(HS2.out.drew.cell 6),(Zz.out HS2.out.drew).1,(Zz.out HS2.out.drew).2⟩ ?_
    repeat
     refine Exists.intro ?_ (And.intro (fun wS hS K hK=>?_) (And.intro ?_ ?_))
     rotate_left 1
     ·obtain ⟨hS1,hS2,eG,Bc,hS5,hS6⟩:=hS
      first
       | (refine ah rfl ?_;simp only [Act.put,List.setIfInBounds_toArray,List.set_cons_zero,List.set_cons_succ];exact hK.out _ ⟨hS1,hS2,eG,Bc,hS5,hS6⟩)
       | (refine ag rfl ?_;go_simp;exact hK.out _ ⟨hS1,hS2,eG,Bc,hS5,hS6⟩)
       | (refine ag rfl ?_;go_simp;go_at_call 274;refine (HRR.out _ (by simp) _ _ hS1).mono ?_;rintro e mZ ⟨rfl,bS⟩;exact hK.out _ ⟨bS,(bS.cell 7),(bS.cell 5),(bS.cell 6),(Zz.out bS).1,(Zz.out bS).2⟩)
     ·rfl
    intro wE hE
    have aX:=Lib.hid hE.1
    clear hE
    have bI:=Lib.hid aX.out
    clear aX HS2 HRR
    go_upto_region 10 with (fail)
    refine au (S:=fun wx=>Sp w0 F0 wx (ae g8 #[.int .u32 a,.int .u32 b,.int .u32 c,.int .u32 d,.int .u32 e,.int .u32 f,.int .u32 g,.int .u32 h] 312::ae g7 (aG AP) 341::ae g6 (aG sc) 341::ae g4 gH 312::ae g2 v.dW 312::L)∧(wx.cell? ⟨g8,1,none⟩=some (.int .u32 b))∧(wx.cell? ⟨g8,2,none⟩=some (.int .u32 c))) (by kernel_rfl) (by kernel_rfl) ⟨(bI.out).drew,(bI.out.drew.cell 1),(bI.out.drew.cell 2)⟩ ?_
    repeat
     refine Exists.intro ?_ (And.intro (fun wS hS K hK=>?_) (And.intro ?_ ?_))
     rotate_left 1
     ·obtain ⟨hS1,hS2,eG⟩:=hS
      first
       | (refine ah rfl ?_;simp only [Act.put,List.setIfInBounds_toArray,List.set_cons_zero,List.set_cons_succ];exact hK.out _ ⟨hS1,hS2,eG⟩)
       | (refine ag rfl ?_;go_simp;exact hK.out _ ⟨hS1,hS2,eG⟩)
       | (refine ag rfl ?_;go_simp;go_at_call 274;refine (ZA.out _ (by simp) _ _ hS1).mono ?_;rintro e mZ ⟨rfl,bS⟩;exact hK.out _ ⟨bS,(bS.cell 1),(bS.cell 2)⟩)
     ·rfl
    intro wE hE
    have aX:=Lib.hid hE.1
    clear hE
    clear bI ZA
    have c8:=aX.out.cell
    have d0:wE.cell? ⟨g8,0,none⟩=some (.int .u32 a):=c8 0
    have d1:wE.cell? ⟨g8,1,none⟩=some (.int .u32 b):=c8 1
    have d2:wE.cell? ⟨g8,2,none⟩=some (.int .u32 c):=c8 2
    have d3:wE.cell? ⟨g8,3,none⟩=some (.int .u32 d):=c8 3
    have d4:wE.cell? ⟨g8,4,none⟩=some (.int .u32 e):=c8 4
    have d5:wE.cell? ⟨g8,5,none⟩=some (.int .u32 f):=c8 5
    have d6:wE.cell? ⟨g8,6,none⟩=some (.int .u32 g):=c8 6
    have bx:=aX.out.boxed
    have HP:Hid (Sp w0 F0 (wE.setRow g8 (R (k+1)).dW) (ae g8 (R (k+1)).dW 312::ae g7 (aG AP) 341::ae g6 (aG sc) 341::ae g4 gH 312::ae g2 v.dW 312::L)):=aX.out.setRow _
    rw [HN.out] at HP
    clear c8 aX
    clear e1 e2 e3 e4 e5 e6 f1 f2 f3 f4 f5 f6 f7 f8 f9 f10 f11 f12 m1 m2 m3 hnot v1 v2 v3 v4 v5 a1 a2 a3 a4 a5 hne hr2 hq2
    have QZ:(Tryz.prog.info? 312).map (·.size)=some (#[.int .u32 PQ,.int .u32 a,.int .u32 b,.int .u32 c,.int .u32 DP,.int .u32 e,.int .u32 f,.int .u32 g]:Array Value).size:=CO
    have hold:(#[.int .u32 a,.int .u32 b,.int .u32 c,.int .u32 d,.int .u32 e,.int .u32 f,.int .u32 g,.int .u32 h]:Array Value).size=(#[.int .u32 PQ,.int .u32 a,.int .u32 b,.int .u32 c,.int .u32 DP,.int .u32 e,.int .u32 f,.int .u32 g]:Array Value).size:=rfl
    have hone:(#[.int .u32 PQ,.int .u32 a,.int .u32 b,.int .u32 c,.int .u32 DP,.int .u32 e,.int .u32 f,.int .u32 g]:Array Value).all (·.oneCell')=true:=by simp [Value.oneCell']
    have Pn:=Lib.hid bx
    have ZB:=Lib.hid QZ
    have VV:=Lib.hid hone
    clear bx QZ hold hone
    go_upto_region 11 with (fail)
    go_wp2_with (refine wpList_store_row rfl 312 _ _ rfl g8 #[.int .u32 PQ,.int .u32 a,.int .u32 b,.int .u32 c,.int .u32 DP,.int .u32 e,.int .u32 f,.int .u32 g] rfl rfl 312 _ Pn.out ZB.out rfl VV.out ?_)
    go_roundw
    case rel=>exact ⟨k+1,by go_num,by omega,by rw [HN.out];exact HP.out⟩
    case measure=>(simp [intOf];try omega)
  ·have MB:k=64:=by omega
   have hge:¬ (k:Int)<64:=by omega
   have hS:=HS.out
   rw [MB] at hS
   obtain ⟨Z,hZ⟩:∃ Z,R 64=Z:=⟨_,rfl⟩
   rw [hZ] at hS MP
   rw [S8.row v] at hS
   have bV:Hid (Sp w0 F0 wr (ae g2 (aG (wI v.yR Z.yR 0)) 312::ae g8 (aG Z.yR) 312::ae g4 gH 312::L)):=(Sp.pick [_,_,_,_,_] [4,0,3] (by decide) (hS))
   clear hS MB hlt hk hZ HS Xc HRN MU Vr Im
   obtain ⟨wo,rfl⟩:∃ wo:World,wo=wr:=⟨_,rfl⟩
   go_wp2_with fail
   go_loopw [105] (fun i wq=>∃ k:Nat,i=.int .i64 k∧k≤8∧Sp w0 F0 wq (ae g2 (aG (wI v.yR Z.yR k)) 312::ae g8 (aG Z.yR) 312::ae g4 gH 312::L)) (fun i _=>9 - (intOf i).toNat)
   case atStart=>exact ⟨0,rfl,Nat.zero_le _,bV.out⟩
   case round =>
    clear bV
    obtain ⟨k,rfl,hk,S⟩:=hrel
    have HS:=Lib.hid S
    clear S
    by_cases hlt:k<8
    ·have VU:(k:Int)<8:=by omega
     have ck:=HS.out.uP (i:=k) (by rw [wJ];exact hlt)
     have fk:=HS.out.free k
     have cz:=HS.out.ak.uP (i:=k) (show k<Z.yR.length from hlt)
     rw [CP _ _ k k (Nat.le_refl _)] at ck
     have HP:=Lib.hid (HS.out.drew.FX k (add32 (v.yR.getD k 0) (Z.yR.getD k 0)) (wI v.yR Z.yR (k+1)) rfl)
     have a1:=jV (v.yR.getD k 0) (Z.yR.getD k 0)
     generalize add32 (v.yR.getD k 0) (Z.yR.getD k 0)=y at *
     generalize v.yR.getD k 0=x1 at *
     generalize Z.yR.getD k 0=x2 at *
     clear HS
     go_wp2_with fail
     go_region
     all_goals
      clear ck fk cz
      go_wp2_with fail
      go_roundw
      case rel=>exact ⟨k+1,by go_num,by omega,HP.out⟩
      case measure=>(simp [intOf];try omega)
    ·have Zc:k=8:=by omega
     have aeq:¬ (k:Int)<8:=by omega
     have hS:=HS.out
     rw [Zc,M6,← MP.out] at hS
     obtain ⟨M,hM⟩:∃ M,vY v t=M:=⟨_,rfl⟩
     rw [hM] at hS
     have HME:=Lib.hid hM
     have bx:=hS.boxed
     have b4:=((Sp.pick [_,_,_] [2] (by decide) (hS))).boxed
     have HP:=Lib.hid (((Sp.pick [_,_,_] [2] (by decide) (hS))).setRow M.dW)
     clear hM Zc hS HS hlt hk
     have QZ:(Tryz.prog.info? 312).map (·.size)=some M.dW.size:=CO
     have hold:gH.size=M.dW.size:=rfl
     have hone:M.dW.all (·.oneCell')=true:=by simp [Value.oneCell']
     have ZB:=Lib.hid QZ
     have HOLD:=Lib.hid hold
     have VV:=Lib.hid hone
     have HB4:=Lib.hid b4
     have Pn:=Lib.hid bx
     clear QZ hold hone b4 bx
     go_wp2_with (first
      | refine wpList_load_row rfl 312 _ rfl g2 rfl 312 M.dW (0,0) _ Pn.out Tryz.underlying312 rfl ZB.out ?_
      | refine wpList_store_row rfl 312 _ _ rfl g4 M.dW rfl rfl 312 _ HB4.out ZB.out HOLD.out VV.out ?_)
     have c:=HP.out.cell
     have c0:=c 0
     have c1:=c 1
     have c2:=c 2
     have c3:=c 3
     have c4:=c 4
     have c5:=c 5
     have c6:=c 6
     have c7:=c 7
     refine bodyPost_ret (v:=.tuple #[M.agg,.int .i64 0]) (by simp [results,Tryz.results266,go_sem,c0,c1,c2,c3,c4,c5,c6,c7]) rfl ?_
     exact ⟨by rw [HME.out],HP.out.drop⟩
end
end
section
open Go.RowKit
section
variable {w0 w:World} {F0:List Nat} {L:List aT} {b T:Nat} {x0 x1 x2 x3 x4 x5 x6 x7 u0 u1 u2 u3 u4 u5 u6 u7 y z:Value}
theorem Sp.aaO (S:Sp w0 F0 w (ae b #[x0,x1,x2,x3,x4,x5,x6,x7] T::L)):Sp w0 F0 ((((((((w.setCell ⟨b,0,none⟩ u0).setCell ⟨b,1,none⟩ u1).setCell ⟨b,2,none⟩ u2).setCell ⟨b,3,none⟩ u3).setCell ⟨b,4,none⟩ u4).setCell ⟨b,5,none⟩ u5).setCell ⟨b,6,none⟩ u6).setCell ⟨b,7,none⟩ u7) (ae b #[u0,u1,u2,u3,u4,u5,u6,u7] T::L):=by
 have h:=((((((((S.set (o:=0) u0).set (o:=1) u1).set (o:=2) u2).set (o:=3) u3).set (o:=4) u4).set (o:=5) u5).set (o:=6) u6).set (o:=7) u7)
 simp only [List.setIfInBounds_toArray,List.set_cons_zero,List.set_cons_succ] at h
 exact h
theorem Sp.UC (S:Sp w0 F0 w (ae b #[x0,x1,x2,x3,x4,x5,x6,x7,y,z] T::L)):Sp w0 F0 ((((((((w.setCell ⟨b,0,none⟩ u0).setCell ⟨b,1,none⟩ u1).setCell ⟨b,2,none⟩ u2).setCell ⟨b,3,none⟩ u3).setCell ⟨b,4,none⟩ u4).setCell ⟨b,5,none⟩ u5).setCell ⟨b,6,none⟩ u6).setCell ⟨b,7,none⟩ u7) (ae b #[u0,u1,u2,u3,u4,u5,u6,u7,y,z] T::L):=by
 have h:=((((((((S.set (o:=0) u0).set (o:=1) u1).set (o:=2) u2).set (o:=3) u3).set (o:=4) u4).set (o:=5) u5).set (o:=6) u6).set (o:=7) u7)
 simp only [List.setIfInBounds_toArray,List.set_cons_zero,List.set_cons_succ] at h
 exact h
end
section
variable {w0 w:World} {F0:List Nat} {L:List aT}
def PR:Value→Nat
 | .string s=>s.size
 | _=>0
theorem Gv (v:S8) (t:Bs) (hv:v.fit) (ht:t.length≤1000000) (S:Sp w0 F0 w L):Calls Tryz.prog 250 #[v.agg,.string ⟨t.toArray⟩] w fun e w2=>e=.returned (.tuple #[(jE v t).1.agg,.string ⟨(jE v t).2.toArray⟩])∧Sp w0 F0 w2 L:=by
 have bV:=Lib.hid ((S.box v.dW 312).box gH 312)
 have hsz:∀ (w':World) (o:Obj),(w'.alloc o).heap.size=w'.heap.size+1:=fun w' o=>Array.size_push _
 rw [hsz] at bV
 obtain ⟨R,hR⟩:∃ R,jE v t=R:=⟨_,rfl⟩
 rw [hR]
 have HR:=Lib.hid hR
 have HV:=Lib.hid hv
 have HL:=Lib.hid ht
 clear S hv ht hR hsz
 unfold S8.agg
 go_enter Tryz.func250,Tryz.ntmps250
 go_wp2_with fail
 generalize (w.alloc _).alloc _=w1 at *
 generalize w.heap.size+1=g4 at *
 generalize w.heap.size=g2 at *
 go_loopw [1] (fun v1 wr=>∃ (r:Bs) (u:S8),v1=.string ⟨r.toArray⟩∧u.fit∧r.length≤1000000∧jE u r=R∧Sp w0 F0 wr (ae g2 u.dW 312::ae g4 gH 312::L)) (fun v1 _=>PR v1)
 case atStart=>exact ⟨t,v,rfl,HV.out,HL.out,HR.out,bV.out.ak⟩
 case round =>
  clear bV HR HV HL
  obtain ⟨r,u,rfl,hu,hl,hr,S⟩:=hrel
  have HS:=Lib.hid S
  have HR:=Lib.hid hr
  have hlI:(r.length:Int)≤1000000:=by omega
  clear S hr
  by_cases h64:64≤r.length
  ·have aaP:(64:Int)≤r.length:=by omega
   have HC:=Lib.hid (VS u (r.take 64) hu (by rw [List.length_take];omega) HS.out.drew)
   have HF:=CF u (r.take 64)
   have HO:Hid (jE (vY u (r.take 64)) (r.drop 64)=R):=by unfold Hid;rw [← HR.out,F3 u r h64]
   have HT1:=Lib.hid (iT r 64)
   have aaQ:(r.drop 64).length≤1000000:=by rw [List.length_drop];omega
   have hms:(r.drop 64).length<r.length:=by rw [List.length_drop];omega
   generalize vY u (r.take 64)=M at *
   obtain ⟨a,b,c,d,e,f,g,h⟩:=u
   have c8:=HS.out.cell
   have k0:wr.cell? ⟨g2,0,none⟩=some (.int .u32 a):=c8 0
   have k1:wr.cell? ⟨g2,1,none⟩=some (.int .u32 b):=c8 1
   have k2:wr.cell? ⟨g2,2,none⟩=some (.int .u32 c):=c8 2
   have k3:wr.cell? ⟨g2,3,none⟩=some (.int .u32 d):=c8 3
   have k4:wr.cell? ⟨g2,4,none⟩=some (.int .u32 e):=c8 4
   have k5:wr.cell? ⟨g2,5,none⟩=some (.int .u32 f):=c8 5
   have k6:wr.cell? ⟨g2,6,none⟩=some (.int .u32 g):=c8 6
   have k7:wr.cell? ⟨g2,7,none⟩=some (.int .u32 h):=c8 7
   have hcut:=nC r 64
   clear c8 HS HR hu hl
   have hcut:=hcut r.length rfl
   have hT1:=HT1.out
   obtain ⟨a',b',c',d',e',f',g',h'⟩:=M
   unfold S8.agg at HC
   dsimp only at HC
   go_wp2_with fail
   go_region_with (go_at_call 266;refine HC.out.mono ?_;rintro e w2 ⟨rfl,S2⟩;have c2:=S2.cell;have f2:=S2.free;have HP:=Lib.hid (S2.aaO (u0:=.int .u32 a') (u1:=.int .u32 b') (u2:=.int .u32 c') (u3:=.int .u32 d') (u4:=.int .u32 e') (u5:=.int .u32 f') (u6:=.int .u32 g') (u7:=.int .u32 h'));clear S2)
   all_goals
    clear c2 f2 k0 k1 k2 k3 k4 k5 k6 k7 HC
    go_wp2_with fail
    go_roundw
    case rel=>exact ⟨r.drop 64,⟨a',b',c',d',e',f',g',h'⟩,rfl,HF,aaQ,HO.out,HP.out⟩
    case measure=>(simp [PR,ByteArray.size];try omega)
  ·have aaP:¬ (64:Int)≤r.length:=by omega
   have HO:Hid (R=(u,r)):=by unfold Hid;rw [← HR.out,F4 u r (by omega)]
   have bx:=Lib.hid HS.out.boxed
   have b4:=Lib.hid HS.out.ak.boxed
   have HP:=Lib.hid (HS.out.ak.setRow u.dW)
   have QZ:Hid ((Tryz.prog.info? 312).map (·.size)=some u.dW.size):=CO
   have hold:Hid (gH.size=u.dW.size):=rfl
   have hone:Hid (u.dW.all (·.oneCell')=true):=by unfold Hid;simp [Value.oneCell']
   clear HS
   go_wp2_with (first
    | refine wpList_load_row rfl 312 _ rfl g2 rfl 312 u.dW (0,0) _ bx.out Tryz.underlying312 rfl QZ.out ?_
    | refine wpList_store_row rfl 312 _ _ rfl g4 u.dW rfl rfl 312 _ b4.out QZ.out hold.out hone.out ?_)
   have c:=HP.out.cell
   have c0:=c 0
   have c1:=c 1
   have c2:=c 2
   have c3:=c 3
   have c4:=c 4
   have c5:=c 5
   have c6:=c 6
   have c7:=c 7
   refine bodyPost_ret (v:=.tuple #[u.agg,.string ⟨r.toArray⟩]) (by simp [results,Tryz.results250,go_sem,c0,c1,c2,c3,c4,c5,c6,c7]) rfl ?_
   exact ⟨by rw [HO.out],HP.out.drop.drop⟩
end
end
end Go.Proofs.YtangbdahnmomlaaGreatDoor
