/- entry: nonces, a file parted, made and opened by an ideal box. Conditions: the lengths fit; what Go's variables hold. entry: a file made and -/
import Derived.Test.YtangbdahnmomlaaGreatDoorBu04
import Derived.Test.YtangbdahnmomlaaGreatDoorBu18
import Derived.Test.YtangbdahnmomlaaGreatDoorBu19
set_option linter.unnecessarySimpa false
set_option linter.unusedSimpArgs false
set_option linter.unusedVariables false
set_option maxHeartbeats 8000000
set_option maxRecDepth 100000
namespace Go.Proofs.YtangbdahnmomlaaGreatDoor
section
open Go.RowKit Go.Maps
section
variable {w0 w:World} {L:List aT} {F0:List Nat} {b:Nat} {v:Value} {D:Bs} {M:Mp ja}
theorem Uw (n:Nat) (hn:n≤1000000) (W:World):(Instr.makeSlice 79 (.int .i64 n) (.int .i64 n)).run Tryz.prog W=.ok (.slice (some ⟨W.heap.size,0,none⟩) n n) (W.alloc (.cells (iA (zeros n)) 5)):=by
 have:=run_make_row' (P:=Tryz.prog) 79 5 (.int .u8 0) 1 Tryz.underlying79 (by kernel_rfl) rfl .i64 .i64 n (by omega) (by omega) W
 rw [tC] at this
 exact this
theorem Ux (n:Nat) (W:World) (q:Nat) (hc:∀ j,j<n→W.cell? ⟨q,j,none⟩=some (.int .u8 0)):(convert 79 9 (.slice (some ⟨q,0,none⟩) n n)).run Tryz.prog W=.ok (.string ⟨(zeros n).toArray⟩) W:=by
 have:=run_convert_bytes_back (P:=Tryz.prog) W 79 9 5 ⟨q,0,none⟩ n (zeros n) Tryz.underlying79 Tryz.underlying5 Tryz.underlying9 (fun j hj=>by
  rw [zeros_length] at hj
  have h1:=hc j hj
  have e:(zeros n)[j]'(by rw [zeros_length];exact hj)=0:=by unfold zeros;rw [List.getElem_replicate]
  have add:(⟨q,0,none⟩:Addr).add j=⟨q,0+j,none⟩:=by unfold Addr.add;split <;> simp_all
  rw [e,add,Nat.zero_add]
  exact h1)
 rw [zeros_length] at this
 exact this
theorem Ya (n:Nat) (W:World) (j:Nat) (hj:j<n):(W.alloc (.cells (iA (zeros n)) 5)).cell? ⟨W.heap.size,j,none⟩=some (.int .u8 0):=by
 have h:=heap_alloc_new W (.cells (iA (zeros n)) 5)
 simp only [World.cell?,h]
 rw [jH]
 unfold zeros
 rw [List.getElem?_replicate,if_pos hj]
 rfl
theorem yK (n:Nat) (w:World) (_hn:n<18446744073709551616) :
  Calls Tryz.prog 115 #[.int .u64 n] w fun e w2=>e=.returned (.string ⟨(bR n).toArray⟩)∧Ext [] w w2:=by
 have hmk:∀ W,(Instr.makeSlice 79 (.int .i64 4) (.int .i64 4)).run Tryz.prog W=.ok (.slice (some ⟨W.heap.size,0,none⟩) 4 4) (W.alloc (.cells #[.int .u8 0,.int .u8 0,.int .u8 0,.int .u8 0] 5)):=fun W=>Uw 4 (by omega) W
 have hcv:∀ (W:World) (b:Nat),W.cell? ⟨b,0,none⟩=some (.int .u8 0)→W.cell? ⟨b,1,none⟩=some (.int .u8 0)→W.cell? ⟨b,2,none⟩=some (.int .u8 0)→W.cell? ⟨b,3,none⟩=some (.int .u8 0) →
   (convert 79 9 (.slice (some ⟨b,0,none⟩) 4 4)).run Tryz.prog W=.ok (.string ⟨#[0,0,0,0]⟩) W:=fun W b h0 h1 h2 h3=>Ux 4 W b (fun j hj4=>by
   obtain rfl | rfl | rfl | rfl:j=0∨j=1∨j=2∨j=3:=by omega
   ·exact h0
   ·exact h1
   ·exact h2
   ·exact h3)
 have hadd:=dZ [0,0,0,0] (dx n 8) (by rw [dE];decide)
 have HN:Hid (bR n=[0,0,0,0]++dx n 8):=rfl
 go_enter Tryz.func115,Tryz.ntmps115
 go_wp2
 go_region_with (first | (go_at_call 111;refine (nA n 8 _ (by omega)).mono ?_;rintro e w2 ⟨rfl,hx⟩;have hcx:=hx.old))
 all_goals
  have HX:=Lib.hid hx
  clear hx hcx hcv hmk hadd
  go_wp2
  go_ret
  refine ⟨by rw [HN.out];rfl,?_⟩
  first
   | exact ((Ext.refl [] w).drew).trans HX.out (by simp)
   | exact (((Ext.refl [] w).drew).trans HX.out (by simp)).alloc _
   | exact (((Ext.refl [] w).alloc _).drew).trans HX.out (by simp)
theorem Jp {s a b:Bs} (e:s=a++b):s.drop (s.length - b.length)=b:=by
 subst e
 rw [List.length_append,Nat.add_sub_cancel]
 exact List.drop_left
theorem Pv (s:Bs) (hs:s.length≤1000000) (E:Env w0) (S:Sp w0 [] w L):Calls Tryz.prog 113 #[.string ⟨s.toArray⟩] w fun r w2=>∃ v,r=.returned (.tuple #[eH (aK s).1 v,.string ⟨(aK s).2.1.toArray⟩,.string ⟨(aK s).2.2.1.toArray⟩,.int .i64 (aK s).2.2.2])∧Sp w0 [] w2 (dH v (aK s).1.gz::L):=by
 have bV:=Lib.hid (S.box #[.int .u64 0,.string ⟨#[]⟩,.int .u64 0,.int .u64 0,.string ⟨#[]⟩,.string ⟨#[]⟩,.slice none 0 0,.int .u64 0,.int .u64 0,.int .i64 0] 40)
 have HL:=Lib.hid hs
 have HE:=Lib.hid E
 have HV:Hid (aK s=if (iW 300 (Rd.text ⟨s,false⟩ 4000).1).2=0 then ((iW 300 (Rd.text ⟨s,false⟩ 4000).1).1,(Rd.text ⟨s,false⟩ 4000).1,(Rd.text ⟨s,false⟩ 4000).2.s,0) else (En.zero,[],[],2)):=rfl
 have zD:=Lib.hid (@vK s)
 have Jb:=Lib.hid (iL ⟨s,false⟩ 4000)
 clear S hs E
 go_enter Tryz.func113,Tryz.ntmps113
 go_upto_region 1 with (fail)
 generalize w.alloc (.cells #[.int .u64 0,.string ⟨#[]⟩,.int .u64 0,.int .u64 0,.string ⟨#[]⟩,.string ⟨#[]⟩,.slice none 0 0,.int .u64 0,.int .u64 0,.int .i64 0] 40)=w1 at *
 generalize w.heap.size=q2 at *
 go_wp2_with fail
 refine (yx bV.out s).mono ?_
 rintro e w2 ⟨b,rfl,S⟩
 have bX:=Lib.hid S
 clear S bV
 go_wp2_with fail
 refine (lF 4000 4000 rfl bX.out (by have:=HL.out;dsimp only;omega) (by omega)).mono ?_
 rintro e w3 ⟨rfl,S⟩
 generalize Rd.text ⟨s,false⟩ 4000=tr at *
 have bI:=Lib.hid S
 clear S bX
 go_wp2_with fail
 refine (Sl tr.1 (by have:=Jb.out;omega) HE.out bI.out).mono ?_
 rintro r w4 ⟨v,rfl,S⟩
 generalize iW 300 tr.1=q at *
 obtain ⟨e,f⟩:=q
 dsimp only at *
 obtain ⟨va,vc,rfl⟩:=S.kM.form
 unfold eH
 have S5:=S.box (bQ e (.slice va e.gz.length vc)) 40
 unfold bQ at S5
 have gB:=Lib.hid S5
 clear S S5 bI
 by_cases hf:f=0
 ·subst hf
  have HW:Hid (aK s=(e,tr.1,tr.2.s,0)):=HV.out.trans (if_pos rfl)
  have Vw:Hid (s.drop (s.length - tr.2.s.length)=tr.2.s∧tr.2.s.length≤s.length):=by
   have h1:=zD.out (by rw [HW.out])
   rw [HW.out] at h1
   exact ⟨Jp h1.2.2,by have:=congrArg List.length h1.2.2;rw [List.length_append] at this;dsimp only at this;omega⟩
  go_upto_region 6 with (fail)
  generalize w4.alloc _=w5 at *
  generalize w4.heap.size=q8 at *
  have e8:=gB.out.cell
  have SQ:=(Sp.pick [_,_,_,_] [3,1] (by decide) (gB.out))
  have d0:=SQ.cell
  have f0:=SQ.free
  have rZ:=Lib.hid ((((((((((((SQ.set (o:=0) (.int .u64 e.id)).set (o:=1) (.string ⟨e.dom.toArray⟩)).set (o:=2) (.int .u64 e.ep)).set (o:=3) (.int .u64 e.cnt)).set (o:=4) (.string ⟨e.mX.1.toArray⟩)).set (o:=5) (.string ⟨e.mX.2.toArray⟩)).set (o:=6) (.slice va e.gz.length vc)).set (o:=7) (.int .u64 e.born)).set (o:=8) (.int .u64 e.jM)).set (o:=9) (.int .i64 e.tries)).drop).drew)
  clear SQ
  have hls:(s.length:Int)≤1000000:=by have:=HL.out;omega
  have hlr:(tr.2.s.length:Int)≤s.length:=by have:=Vw.out.2;omega
  have hwr:IntKind.i64.wrap ((s.length:Int) - tr.2.s.length)=((s.length - tr.2.s.length:Nat):Int):=by rw [IntWalk.i64_in _ (by omega)];omega
  have hc1:0≤IntKind.i64.wrap ((s.length:Int) - tr.2.s.length):=by rw [hwr];omega
  have hc2:IntKind.i64.wrap ((s.length:Int) - tr.2.s.length)≤(s.length:Int):=by rw [hwr];omega
  have hcut:=nC s (s.length - tr.2.s.length) s.length rfl
  rw [Vw.out.1] at hcut
  have Uy:=Lib.hid ((Sp.pick [_,_,_,_] [2,0,1,3] (by decide) (gB.out)).drew)
  go_region_with (first | (go_at_call 64;refine (zw Uy.out).mono ?_;rintro e w6 ⟨rfl,rfl⟩) | (rw [if_pos ⟨hc1,hc2⟩,hwr,Int.toNat_natCast,hcut]))
  all_goals
   go_simp
   clear Uy hcut hc1 hc2 hwr hls hlr gB zD Vw
   go_wp2
   rw [HW.out]
   exact bodyPost_ret (v:=.tuple #[.agg #[.int .u64 e.id,.string ⟨e.dom.toArray⟩,.int .u64 e.ep,.int .u64 e.cnt,.string ⟨e.mX.1.toArray⟩,.string ⟨e.mX.2.toArray⟩,.slice va e.gz.length vc,.int .u64 e.born,.int .u64 e.jM,.int .i64 e.tries],.string ⟨tr.1.toArray⟩,.string ⟨tr.2.s.toArray⟩,.int .i64 0]) (by simp [results,Tryz.results113,go_sem,d0]) rfl ⟨_,rfl,rZ.out⟩
 ·have HW:Hid (aK s=(En.zero,[],[],2)):=HV.out.trans (if_neg hf)
  have hb:(f == 0)=false:=by simpa using hf
  have S6:=(Sp.pick [_,_,_,_] [3] (by decide) (gB.out))
  have d0:=S6.cell
  have f0:=S6.free
  have fG:=Lib.hid (((((((((((S6.set (o:=0) (.int .u64 0)).set (o:=1) (.string ⟨#[]⟩)).set (o:=2) (.int .u64 0)).set (o:=3) (.int .u64 0)).set (o:=4) (.string ⟨#[]⟩)).set (o:=5) (.string ⟨#[]⟩)).set (o:=6) (.slice none 0 0)).set (o:=7) (.int .u64 0)).set (o:=8) (.int .u64 0)).set (o:=9) (.int .i64 0)).drop.iX)
  clear HV hf zD
  go_upto_region 4 with (fail)
  generalize w4.alloc _=w5 at *
  clear gB
  go_wp2
  rw [HW.out]
  exact bodyPost_ret (v:=.tuple #[.agg #[.int .u64 0,.string ⟨#[]⟩,.int .u64 0,.int .u64 0,.string ⟨#[]⟩,.string ⟨#[]⟩,.slice none 0 0,.int .u64 0,.int .u64 0,.int .i64 0],.string ⟨#[]⟩,.string ⟨#[]⟩,.int .i64 2]) (by simp [results,Tryz.results113,go_sem,d0]) rfl ⟨.slice none 0 0,rfl,fG.out⟩
end
end
section
open Go.RowKit Go.Maps
def iO (e:En) (body:Bs) (q:Bs×Int):Bs×Int :=
 if dz e=true then
  if body.length≤16000 then
   if q.2=0 then (aN (dC e)++q.1,0) else ([],q.2)
  else ([],5)
 else ([],2)
def iP (O:Bs→Bs→Bs→Bs×Int) (s:Bs):En×Bs×Int :=
 if (aK s).2.2.2=0 then
  if (O (bR (aK s).1.cnt) (aK s).2.1 (aK s).2.2.1).2=0 then
   if (eF (O (bR (aK s).1.cnt) (aK s).2.1 (aK s).2.2.1).1).2=0 then ((aK s).1,(eF (O (bR (aK s).1.cnt) (aK s).2.1 (aK s).2.2.1).1).1,0)
   else (En.zero,[],(eF (O (bR (aK s).1.cnt) (aK s).2.1 (aK s).2.2.1).1).2)
  else (En.zero,[],(O (bR (aK s).1.cnt) (aK s).2.1 (aK s).2.2.1).2)
 else (En.zero,[],(aK s).2.2.2)
theorem Gj (s:Bs):(aK s).2.2.1.length≤s.length:=by
 unfold aK
 dsimp only
 split
 ·have:=ic ⟨s,false⟩ 4000
  exact this.1
 ·simp
theorem Gl (s:Bs):(aK s).1.cnt<18446744073709551616:=by
 by_cases h:(aK s).2.2.2=0
 ·have:=(bT (vK h).1).cnt
  omega
 ·rw [Ao h]
  decide
section
variable {w0 w:World} {L:List aT} {F0:List Nat} {v pv:Value} {B B2:aT}
theorem KR (e:En) (key body:Bs) (q:Bs×Int) (E:Env w0) (hf:e.Fit) (T:iM w v e.gz) (S:Sp w0 [] w (B::L)) (hq:q.1.length≤1000000)
  (HB:dz e=true→body.length≤16000→∀ (w':World) (L':List aT),Sp w0 [] w' (B::L')→Calls Tryz.prog 147 #[pv,.string ⟨key.toArray⟩,.string ⟨(bR e.cnt).toArray⟩,.string ⟨(dC e).toArray⟩,.string ⟨(fQ body).toArray⟩] w' fun r w2=>r=.returned (.tuple #[.string ⟨q.1.toArray⟩,.int .i64 q.2])∧Sp w0 [] w2 (B2::L')) :
  Calls Tryz.prog 107 #[pv,.string ⟨key.toArray⟩,eH e v,.string ⟨body.toArray⟩] w fun r w2=>r=.returned (.tuple #[.string ⟨(iO e body q).1.toArray⟩,.int .i64 (iO e body q).2])∧Sp w0 [] w2 ((if dz e=true∧body.length≤16000 then B2 else B)::L):=by
 have bV:=Lib.hid (S.box (bQ e v) 40)
 have HH:=Lib.hid (Calls.sp (Jn e v (w.alloc (.cells (bQ e v) 40)) (E.sp (S.box (bQ e v) 40)) hf (T.ext ((Ext.refl [] w).alloc _))) (S.box (bQ e v) 40))
 have HV:Hid (iO e body q=if dz e=true then (if body.length≤16000 then (if q.2=0 then (aN (dC e)++q.1,0) else (([]:Bs),q.2)) else ([],(5:Int))) else ([],(2:Int))):=rfl
 have Yb:Hid (xy e=if dz e then (dC e,0) else ([],2)):=rfl
 have WX:=Lib.hid HB
 have HLQ:=Lib.hid hq
 have WY:=Lib.hid hf.cnt
 have KS:=Lib.hid (@bT e)
 have BV:Hid (nu body=if body.length≤16000 then (fQ body,0) else ([],5)):=rfl
 unfold bQ at bV HH
 unfold eH at HH ⊢
 generalize hBR:(if dz e=true∧body.length≤16000 then B2 else B)=BR
 have SA:=Lib.hid hBR
 clear HB S T E hq hBR
 go_enter Tryz.func107,Tryz.ntmps107
 go_upto_region 1 with (fail)
 generalize w.alloc (.cells #[.int .u64 e.id,.string ⟨e.dom.toArray⟩,.int .u64 e.ep,.int .u64 e.cnt,.string ⟨e.mX.1.toArray⟩,.string ⟨e.mX.2.toArray⟩,v,.int .u64 e.born,.int .u64 e.jM,.int .i64 e.tries] 40)=w1 at *
 generalize w.heap.size=q6 at *
 have c1:=bV.out.cell
 go_wp2_with fail
 refine HH.out.mono ?_
 rintro r w2 ⟨rfl,S⟩
 have HS2:=Lib.hid S
 have c2:=S.cell
 clear S bV c1 HH hf
 cases hm:dz e with
 | false =>
  have HW:Hid (iO e body q=([],2)):=by unfold Hid;rw [HV.out,if_neg (by simp [hm])]
  have e1:xy e=([],2):=by rw [Yb.out,if_neg (by simp [hm])]
  rw [e1]
  have WZ:Hid (BR=B):=by unfold Hid;rw [← SA.out,if_neg (by simp [hm])]
  clear HV Yb WX hm
  go_wp2
  go_ret2
  exact ⟨by rw [HW.out];rfl,by rw [WZ.out];exact HS2.out.drop⟩
 | true =>
  have e1:xy e=(dC e,0):=by rw [Yb.out,if_pos hm]
  rw [e1]
  have Zv:=Lib.hid (mY (KS.out hm))
  by_cases hb:body.length≤16000
  ·have e2:nu body=(fQ body,0):=by rw [BV.out,if_pos hb]
   have HB3:=Lib.hid (WX.out hm hb)
   have HW:Hid (iO e body q=if q.2=0 then (aN (dC e)++q.1,0) else (([]:Bs),q.2)):=by unfold Hid;rw [HV.out,if_pos hm,if_pos hb]
   have WZ:Hid (BR=B2):=by unfold Hid;rw [← SA.out,if_pos ⟨hm,hb⟩]
   have HF:=Lib.hid (Eb body HS2.out)
   rw [e2] at HF
   clear HV Yb WX hm hb KS e1 e2 BV
   generalize dC e=hd at *
   generalize fQ body=fb at *
   go_wp2_with fail
   refine HF.out.mono ?_
   rintro r w3 ⟨rfl,S⟩
   have bI:=Lib.hid S
   have c3:=S.cell
   clear S HS2 c2 HF
   go_wp2_with fail
   refine (Calls.sp (yK e.cnt w3 WY.out) bI.out).mono ?_
   rintro r w4 ⟨rfl,S⟩
   have gP:=Lib.hid S
   clear S bI c3
   generalize bR e.cnt=nn at *
   go_wp2_with fail
   refine (HB3.out _ _ gP.out.ak).mono ?_
   rintro r w5 ⟨rfl,S⟩
   have gB:=Lib.hid S
   clear S gP HB3
   obtain ⟨q1,q2⟩:=q
   dsimp only at *
   by_cases hq2:q2=0
   ·subst hq2
    have HW2:Hid (iO e body (q1,0)=(aN hd++q1,0)):=HW.out
    have hadd:=dZ (aN hd) q1 (by have:=lX (s:=hd) (by have:=Zv.out;omega);have:=HLQ.out;unfold maxLen;omega)
    clear HW
    go_wp2_with fail
    refine (oU gB.out hd (by have:=Zv.out;omega)).mono ?_
    rintro r w6 ⟨rfl,S⟩
    have fG:=Lib.hid S
    clear S gB
    go_wp2
    go_ret2
    exact ⟨by rw [HW2.out];rfl,by rw [WZ.out];exact fG.out.ak.drop⟩
   ·have HW2:Hid (iO e body (q1,q2)=([],q2)):=HW.out.trans (if_neg hq2)
    have hb2:(q2 == 0)=false:=by simpa using hq2
    clear HW hq2
    go_wp2
    go_ret2
    exact ⟨by rw [HW2.out];rfl,by rw [WZ.out];exact gB.out.ak.drop⟩
  ·have e2:nu body=([],5):=by rw [BV.out,if_neg hb]
   have HW:Hid (iO e body q=([],5)):=by unfold Hid;rw [HV.out,if_pos hm,if_neg hb]
   have WZ:Hid (BR=B):=by unfold Hid;rw [← SA.out,if_neg (fun h=>hb h.2)]
   have HF:=Lib.hid (Eb body HS2.out)
   rw [e2] at HF
   clear HV Yb WX hm hb KS e1 e2 BV
   generalize dC e=hd at *
   go_wp2_with fail
   refine HF.out.mono ?_
   rintro r w3 ⟨rfl,S⟩
   have bI:=Lib.hid S
   clear S HS2 c2 HF
   go_wp2
   go_ret2
   exact ⟨by rw [HW.out];rfl,by rw [WZ.out];exact bI.out.drop⟩
theorem KT (O:Bs→Bs→Bs→Bs×Int) (key s:Bs) (hs:s.length≤1000000) (E:Env w0) (S:Sp w0 [] w (B::L))
  (HB:∀ (n d t:Bs) (w':World) (L':List aT),n.length=12→d.length≤1000000→t.length≤1000000→Sp w0 [] w' (B::L')→Calls Tryz.prog 114 #[pv,.string ⟨key.toArray⟩,.string ⟨n.toArray⟩,.string ⟨d.toArray⟩,.string ⟨t.toArray⟩] w' fun r w2=>r=.returned (.tuple #[.string ⟨(O n d t).1.toArray⟩,.int .i64 (O n d t).2])∧Sp w0 [] w2 (B::L'))
  (HO:∀ n d t,(O n d t).1.length≤1000000) :
  Calls Tryz.prog 76 #[pv,.string ⟨key.toArray⟩,.string ⟨s.toArray⟩] w fun r w2=>∃ v,r=.returned (.tuple #[eH (iP O s).1 v,.string ⟨(iP O s).2.1.toArray⟩,.int .i64 (iP O s).2.2])∧Sp w0 [] w2 (dH v (iP O s).1.gz::B::L):=by
 have bV:=Lib.hid (S.box #[.int .u64 0,.string ⟨#[]⟩,.int .u64 0,.int .u64 0,.string ⟨#[]⟩,.string ⟨#[]⟩,.slice none 0 0,.int .u64 0,.int .u64 0,.int .i64 0] 40)
 have HL:=Lib.hid hs
 have HE:=Lib.hid E
 have WX:=Lib.hid HB
 have HHO:=Lib.hid HO
 have MU:=Lib.hid (Gj s)
 have KH:Hid ((aK s).2.1.length≤1000000):=by
  unfold Hid
  by_cases h:(aK s).2.2.2=0
  ·obtain ⟨h1,h2,_⟩:=vK h
   have:=mY (bT h1)
   rw [h2]
   omega
  ·rw [Ao h]
   exact Nat.zero_le _
 have WY:=Lib.hid (Gl s)
 have HNO:=Lib.hid (@Ao s)
 have HV:Hid (iP O s=if (aK s).2.2.2=0 then (if (O (bR (aK s).1.cnt) (aK s).2.1 (aK s).2.2.1).2=0 then (if (eF (O (bR (aK s).1.cnt) (aK s).2.1 (aK s).2.2.1).1).2=0 then ((aK s).1,(eF (O (bR (aK s).1.cnt) (aK s).2.1 (aK s).2.2.1).1).1,0)
   else (En.zero,[],(eF (O (bR (aK s).1.cnt) (aK s).2.1 (aK s).2.2.1).1).2)) else (En.zero,[],(O (bR (aK s).1.cnt) (aK s).2.1 (aK s).2.2.1).2)) else (En.zero,[],(aK s).2.2.2)):=rfl
 clear S hs E HB HO
 go_enter Tryz.func76,Tryz.ntmps76
 go_upto_region 1 with (fail)
 generalize w.alloc (.cells #[.int .u64 0,.string ⟨#[]⟩,.int .u64 0,.int .u64 0,.string ⟨#[]⟩,.string ⟨#[]⟩,.slice none 0 0,.int .u64 0,.int .u64 0,.int .i64 0] 40)=w1 at *
 generalize w.heap.size=q2 at *
 go_wp2_with fail
 refine (Pv s HL.out HE.out bV.out).mono ?_
 rintro r w4 ⟨v,rfl,S⟩
 generalize aK s=sp at *
 obtain ⟨e,hd,sl,f⟩:=sp
 dsimp only at *
 obtain ⟨va,vc,rfl⟩:=S.kM.form
 unfold eH
 have S5:=S.box (bQ e (.slice va e.gz.length vc)) 40
 unfold bQ at S5
 have gB:=Lib.hid S5
 clear S S5 bV
 by_cases hf:f=0
 ·subst hf
  have gq:Hid (iP O s=if (O (bR e.cnt) hd sl).2=0 then (if (eF (O (bR e.cnt) hd sl).1).2=0 then (e,(eF (O (bR e.cnt) hd sl).1).1,0)
   else (En.zero,[],(eF (O (bR e.cnt) hd sl).1).2)) else (En.zero,[],(O (bR e.cnt) hd sl).2)):=HV.out.trans (if_pos rfl)
  have Sm:=Lib.hid (lC e.cnt)
  clear HV
  go_upto_region 4 with (fail)
  generalize w4.alloc _=w5 at *
  generalize w4.heap.size=q8 at *
  have c8:=gB.out.cell
  go_wp2_with fail
  refine (Calls.sp (yK e.cnt w5 WY.out) gB.out).mono ?_
  rintro r w6 ⟨rfl,S⟩
  have fG:=Lib.hid ((Sp.pick [_,_,_,_] [3,0,1,2] (by decide) (S)))
  generalize bR e.cnt=nn at *
  clear S gB c8
  go_wp2_with fail
  refine (WX.out nn hd sl _ _ Sm.out KH.out (by have:=MU.out;have:=HL.out;omega) fG.out).mono ?_
  rintro r w7 ⟨rfl,S⟩
  have HOL:=Lib.hid (HHO.out nn hd sl)
  generalize O nn hd sl=oo at *
  obtain ⟨o1,o2⟩:=oo
  dsimp only at *
  have jN:=Lib.hid ((Sp.pick [_,_,_,_] [1,2,3,0] (by decide) (S)))
  clear S fG
  by_cases ho:o2=0
  ·subst ho
   have Uz:Hid (iP O s=if (eF o1).2=0 then (e,(eF o1).1,0) else (En.zero,[],(eF o1).2)):=gq.out.trans (if_pos rfl)
   clear gq
   go_wp2_with fail
   refine (MM o1 HOL.out jN.out).mono ?_
   rintro r w8 ⟨rfl,S⟩
   generalize eF o1=uu at *
   obtain ⟨u1,u2⟩:=uu
   dsimp only at *
   have tV:=Lib.hid S
   clear S jN
   by_cases hu:u2=0
   ·subst hu
    have HW:Hid (iP O s=(e,u1,0)):=Uz.out.trans (if_pos rfl)
    have SQ:=(Sp.pick [_,_,_,_] [2,0,1,3] (by decide) (tV.out))
    have d0:=SQ.cell
    have f0:=SQ.free
    have c8:=tV.out.cell
    have rZ:=Lib.hid ((Sp.pick [_,_,_,_] [2,3] (by decide) (((((((((((SQ.set (o:=0) (.int .u64 e.id)).set (o:=1) (.string ⟨e.dom.toArray⟩)).set (o:=2) (.int .u64 e.ep)).set (o:=3) (.int .u64 e.cnt)).set (o:=4) (.string ⟨e.mX.1.toArray⟩)).set (o:=5) (.string ⟨e.mX.2.toArray⟩)).set (o:=6) (.slice va e.gz.length vc)).set (o:=7) (.int .u64 e.born)).set (o:=8) (.int .u64 e.jM)).set (o:=9) (.int .i64 e.tries)))))
    clear SQ Uz tV
    go_wp2
    rw [HW.out]
    exact bodyPost_ret (v:=.tuple #[.agg #[.int .u64 e.id,.string ⟨e.dom.toArray⟩,.int .u64 e.ep,.int .u64 e.cnt,.string ⟨e.mX.1.toArray⟩,.string ⟨e.mX.2.toArray⟩,.slice va e.gz.length vc,.int .u64 e.born,.int .u64 e.jM,.int .i64 e.tries],.string ⟨u1.toArray⟩,.int .i64 0]) (by simp [results,Tryz.results76,go_sem,d0]) rfl ⟨_,rfl,rZ.out⟩
   ·have HW:Hid (iP O s=(En.zero,[],u2)):=Uz.out.trans (if_neg hu)
    have hb:(u2 == 0)=false:=by simpa using hu
    have S6:=(Sp.pick [_,_,_,_] [2,3] (by decide) (tV.out))
    have d0:=S6.cell
    have f0:=S6.free
    have rZ:=Lib.hid (((((((((((S6.set (o:=0) (.int .u64 0)).set (o:=1) (.string ⟨#[]⟩)).set (o:=2) (.int .u64 0)).set (o:=3) (.int .u64 0)).set (o:=4) (.string ⟨#[]⟩)).set (o:=5) (.string ⟨#[]⟩)).set (o:=6) (.slice none 0 0)).set (o:=7) (.int .u64 0)).set (o:=8) (.int .u64 0)).set (o:=9) (.int .i64 0)).drop.iX)
    clear S6 Uz tV hu
    go_wp2
    rw [HW.out]
    exact bodyPost_ret (v:=.tuple #[.agg #[.int .u64 0,.string ⟨#[]⟩,.int .u64 0,.int .u64 0,.string ⟨#[]⟩,.string ⟨#[]⟩,.slice none 0 0,.int .u64 0,.int .u64 0,.int .i64 0],.string ⟨#[]⟩,.int .i64 u2]) (by simp [results,Tryz.results76,go_sem,d0]) rfl ⟨.slice none 0 0,rfl,rZ.out⟩
  ·have HW:Hid (iP O s=(En.zero,[],o2)):=gq.out.trans (if_neg ho)
   have hb:(o2 == 0)=false:=by simpa using ho
   have S6:=(Sp.pick [_,_,_,_] [2,3] (by decide) (jN.out))
   have d0:=S6.cell
   have f0:=S6.free
   have rZ:=Lib.hid (((((((((((S6.set (o:=0) (.int .u64 0)).set (o:=1) (.string ⟨#[]⟩)).set (o:=2) (.int .u64 0)).set (o:=3) (.int .u64 0)).set (o:=4) (.string ⟨#[]⟩)).set (o:=5) (.string ⟨#[]⟩)).set (o:=6) (.slice none 0 0)).set (o:=7) (.int .u64 0)).set (o:=8) (.int .u64 0)).set (o:=9) (.int .i64 0)).drop.iX)
   clear S6 gq jN ho
   go_wp2
   rw [HW.out]
   exact bodyPost_ret (v:=.tuple #[.agg #[.int .u64 0,.string ⟨#[]⟩,.int .u64 0,.int .u64 0,.string ⟨#[]⟩,.string ⟨#[]⟩,.slice none 0 0,.int .u64 0,.int .u64 0,.int .i64 0],.string ⟨#[]⟩,.int .i64 o2]) (by simp [results,Tryz.results76,go_sem,d0]) rfl ⟨.slice none 0 0,rfl,rZ.out⟩
 ·have HW:Hid (iP O s=(En.zero,[],f)):=HV.out.trans (if_neg hf)
  have hb:(f == 0)=false:=by simpa using hf
  have S6:=(Sp.pick [_,_,_,_] [2,3] (by decide) (gB.out))
  have d0:=S6.cell
  have f0:=S6.free
  have rZ:=Lib.hid (((((((((((S6.set (o:=0) (.int .u64 0)).set (o:=1) (.string ⟨#[]⟩)).set (o:=2) (.int .u64 0)).set (o:=3) (.int .u64 0)).set (o:=4) (.string ⟨#[]⟩)).set (o:=5) (.string ⟨#[]⟩)).set (o:=6) (.slice none 0 0)).set (o:=7) (.int .u64 0)).set (o:=8) (.int .u64 0)).set (o:=9) (.int .i64 0)).drop.iX)
  clear S6 HV hf
  go_upto_region 3 with (fail)
  generalize w4.alloc _=w5 at *
  clear gB
  go_wp2
  rw [HW.out]
  exact bodyPost_ret (v:=.tuple #[.agg #[.int .u64 0,.string ⟨#[]⟩,.int .u64 0,.int .u64 0,.string ⟨#[]⟩,.string ⟨#[]⟩,.slice none 0 0,.int .u64 0,.int .u64 0,.int .i64 0],.string ⟨#[]⟩,.int .i64 f]) (by simp [results,Tryz.results76,go_sem,d0]) rfl ⟨.slice none 0 0,rfl,rZ.out⟩
end
end
section
open Go.RowKit Go.Maps
def Pw (M:Mp ja):Prop:=M.length≤100000∧∀ k x,M.get k=some x→x.2.1.length≤1000000∧x.2.2.length≤1000000
theorem Jq {U:Bs→Bs→Bs} {M:Mp ja} {D k n d t:Bs} (hM:Pw M) (hD:D.length≤1000000):(eD U M D k n d t).1.1.length≤1000000:=by
 unfold eD
 split
 ·cases hg:M.get (U k n) with
  | none =>
   dsimp only
   split
   ·exact Nat.zero_le _
   ·dsimp only
    rw [List.length_take]
    omega
  | some x =>
   dsimp only
   split
   ·exact (hM.2 _ _ hg).2
   ·exact Nat.zero_le _
 ·exact Nat.zero_le _
theorem Jr {U:Bs→Bs→Bs} {M:Mp ja} {k n d t:Bs} (hM:Pw M):(jC U M k n d t).1.length≤1000000:=by
 unfold jC
 split
 ·cases hg:M.get (U k n) with
  | none=>exact Nat.zero_le _
  | some x =>
   dsimp only
   split
   ·exact (hM.2 _ _ hg).1
   ·exact Nat.zero_le _
 ·exact Nat.zero_le _
end
section
open Go.RowKit Go.Maps
theorem Gm {n k:Nat} (hk:1≤k) (h:n<10 ^ k):Lib.nDigits n≤k:=by
 induction k generalizing n with
 | zero=>omega
 | succ k ih =>
  by_cases h10:n<10
  ·rw [Lib.nDigits_small h10];omega
  ·rw [Lib.nDigits_big h10]
   have hk1:1≤k:=by
    rcases Nat.eq_zero_or_pos k with rfl | h0
    ·simp at h;omega
    ·exact h0
   have:=ih hk1 (n:=n / 10) (by rw [Nat.pow_succ] at h;omega)
   omega
theorem kE (n:Nat) (h:n<18446744073709551616):(Lib.decDigits n).length≤1000:=by
 rw [Lib.decDigits_length]
 exact Nat.le_trans (Gm (k:=20) (by decide) (by omega)) (by decide)
section
variable {w0 w:World} {L:List aT} {v:Value}
theorem CJ (a b c:Bs):[113,47]++Lib.join [a,b,c] [46]=[113,47]++a++[46]++b++[46]++c:=by
 simp [Lib.join]
theorem CK {a b c:Bs} (h1:a.length≤1000) (h2:b.length≤1000) (h3:c.length≤1000):(Lib.join [a,b,c] [46]).length≤4000:=by
 have:=congrArg List.length (CJ a b c)
 simp at this
 omega
theorem Ed (e:En) (E:Env w0) (hf:e.Fit) (S:Sp w0 [] w L):Calls Tryz.prog 33 #[eH e v] w fun r w2=>r=.returned (.string ⟨(zV e).toArray⟩)∧Sp w0 [] w2 L:=by
 have bV:=Lib.hid (S.box (bQ e v) 40)
 have HE:=Lib.hid E
 obtain ⟨id,dom,ep,cnt,mX,gz,born,jM,tries⟩:=e
 have h1:id<18446744073709551616:=hf.id
 have h2:ep<18446744073709551616:=hf.ep
 have h3:cnt<18446744073709551616:=hf.cnt
 have Zg:=Lib.hid (fun (w':World) (L':List aT) (S':Sp w0 [] w' L')=>uG id h1 w' (E.sp S'))
 have Ik:=Lib.hid (fun (w':World) (L':List aT) (S':Sp w0 [] w' L')=>uG ep h2 w' (E.sp S'))
 have HF3:=Lib.hid (fun (w':World) (L':List aT) (S':Sp w0 [] w' L')=>uG cnt h3 w' (E.sp S'))
 have HD1:=Lib.hid (kE id h1)
 have HD2:=Lib.hid (kE ep h2)
 have HD3:=Lib.hid (kE cnt h3)
 have HV:Hid (zV ⟨id,dom,ep,cnt,mX,gz,born,jM,tries⟩=[113,47]++Lib.decDigits id++[46]++Lib.decDigits ep++[46]++Lib.decDigits cnt):=rfl
 unfold bQ at bV
 unfold eH
 dsimp only at *
 clear S E hf h1 h2 h3
 go_enter Tryz.func33,Tryz.ntmps33
 go_upto_region 1 with (fail)
 generalize w.alloc (.cells #[.int .u64 id,.string ⟨dom.toArray⟩,.int .u64 ep,.int .u64 cnt,.string ⟨mX.1.toArray⟩,.string ⟨mX.2.toArray⟩,v,.int .u64 born,.int .u64 jM,.int .i64 tries] 40)=w1 at *
 generalize w.heap.size=q6 at *
 have c1:=bV.out.cell
 generalize Lib.decDigits id=d1 at *
 generalize Lib.decDigits ep=d2 at *
 generalize Lib.decDigits cnt=d3 at *
 go_wp2_with fail
 go_loopw [3,13] (fun v3 DX wr=>∃ (k:Nat),DX=.int .i64 k∧k≤3∧Sp w0 [] wr (nz v3 ([d1,d2,d3].take k)::L)) (fun _ DX _=>3 - (intOf DX).toNat)
 case atStart=>exact ⟨0,rfl,Nat.zero_le _,bV.out.drop.Oh⟩
 case round =>
  obtain ⟨k,rfl,hk,S1⟩:=hrel
  have bX:=Lib.hid S1
  clear S1
  by_cases h0:k=3
  ·subst h0
   obtain ⟨g,cap,rfl⟩:∃ g cap,u3=.slice (some ⟨g,0,none⟩) 3 cap:=by
    rcases bX.out.jr with ⟨_,h⟩ | h
    ·simp at h
    ·exact h
   have hg:=bX.out.row.lt g (by rfl)
   have hcap:3≤cap:=by
    rcases bX.out.row.2 with ⟨h,_⟩ | ⟨g',cap',cur,h1,_,_,h4,_⟩
    ·cases h
    ·cases h1;exact h4
   have HJ:=Lib.hid (Tryz.strings_Join g 0 cap [⟨d1.toArray⟩,⟨d2.toArray⟩,⟨d3.toArray⟩] ⟨#[46]⟩ wr (fun j x hx=>by
     have h:=bX.out.row.cells (g:=g) rfl j (.string x) (by
      match j,hx with
      | 0,hx=>cases hx;rfl
      | 1,hx=>cases hx;rfl
      | 2,hx=>cases hx;rfl)
     have hadd:(⟨g,0,none⟩:Addr).add j=⟨g,0+j,none⟩:=by unfold Addr.add;split <;> simp_all
     rw [hadd] at h
     exact h) hg.2 (by simp) hcap (by have:=CK HD1.out HD2.out HD3.out;show (Lib.join [d1,d2,d3] [46]).length≤_;omega))
   have R6:Hid ((Lib.join [d1,d2,d3] [46]).length≤4000):=CK HD1.out HD2.out HD3.out
   have HJV:Hid ([113,47]++Lib.join [d1,d2,d3] [46]=zV ⟨id,dom,ep,cnt,mX,gz,born,jM,tries⟩):=by unfold Hid;rw [HV.out,CJ]
   have HJ2:Hid (Calls Tryz.prog 58 #[.slice (some ⟨g,0,none⟩) 3 cap,.string ⟨#[46]⟩] wr fun e w'=>e=.returned (.string ⟨(Lib.join [d1,d2,d3] [46]).toArray⟩)∧Below wr.heap.size wr w'):=HJ.out
   generalize Lib.join [d1,d2,d3] [46]=jj at *
   have hadd:=dZ [113,47] jj (by have:=R6.out;unfold maxLen;simp;omega)
   clear hg hcap HJ
   go_wp2_with fail
   refine HJ2.out.mono ?_
   rintro r w2 ⟨rfl,hb⟩
   have Uj:=Lib.hid (bX.out.drop.iq (Ext.of_below hb))
   clear hb
   go_wp2
   go_ret
   exact ⟨by rw [← HJV.out];rfl,Uj.out⟩
  ·rcases (by omega:k=0∨k=1∨k=2) with rfl | rfl | rfl
   ·have hi:∀ W,(Instr.index 125 (.agg #[.int .u64 id,.int .u64 ep,.int .u64 cnt]) (.int .i64 0)).run Tryz.prog W=.ok (.int .u64 id) W:=fun W=>MR _ _ _ 0 (by omega) W
    go_wp2_with fail
    refine (Zg.out _ _ bX.out).mono ?_
    rintro r w2 ⟨rfl,hg⟩
    obtain ⟨g2,cap2,w6,hrun,S6⟩:=Sp.appendText 23 d1 (by simp) ((bX.out.iq hg.ext).box #[.string ⟨d1.toArray⟩] 9)
    have fG:=Lib.hid S6
    have pV:=Lib.hid hrun
    clear S6 hrun hg bX
    go_wp2_with (at_builtin;refine wpList_append_run (by rfl) (by rfl) (by rfl) (by rfl) pV.out ?_)
    go_roundw
    case rel=>exact ⟨1,by go_num,by omega,fG.out⟩
    case measure=>simp [intOf]
   ·have hi:∀ W,(Instr.index 125 (.agg #[.int .u64 id,.int .u64 ep,.int .u64 cnt]) (.int .i64 1)).run Tryz.prog W=.ok (.int .u64 ep) W:=fun W=>MR _ _ _ 1 (by omega) W
    go_wp2_with fail
    refine (Ik.out _ _ bX.out).mono ?_
    rintro r w2 ⟨rfl,hg⟩
    obtain ⟨g2,cap2,w6,hrun,S6⟩:=Sp.appendText 23 d2 (by simp) ((bX.out.iq hg.ext).box #[.string ⟨d2.toArray⟩] 9)
    have fG:=Lib.hid S6
    have pV:=Lib.hid hrun
    clear S6 hrun hg bX
    go_wp2_with (at_builtin;refine wpList_append_run (by rfl) (by rfl) (by rfl) (by rfl) pV.out ?_)
    go_roundw
    case rel=>exact ⟨2,by go_num,by omega,fG.out⟩
    case measure=>simp [intOf]
   ·have hi:∀ W,(Instr.index 125 (.agg #[.int .u64 id,.int .u64 ep,.int .u64 cnt]) (.int .i64 2)).run Tryz.prog W=.ok (.int .u64 cnt) W:=fun W=>MR _ _ _ 2 (by omega) W
    go_wp2_with fail
    refine (HF3.out _ _ bX.out).mono ?_
    rintro r w2 ⟨rfl,hg⟩
    obtain ⟨g2,cap2,w6,hrun,S6⟩:=Sp.appendText 23 d3 (by simp) ((bX.out.iq hg.ext).box #[.string ⟨d3.toArray⟩] 9)
    have fG:=Lib.hid S6
    have pV:=Lib.hid hrun
    clear S6 hrun hg bX
    go_wp2_with (at_builtin;refine wpList_append_run (by rfl) (by rfl) (by rfl) (by rfl) pV.out ?_)
    go_roundw
    case rel=>exact ⟨3,by go_num,by omega,fG.out⟩
    case measure=>simp [intOf]
end
end
section
open Go.RowKit
theorem SB {α:Type} {a b:List α} {k:Nat} (h1:k<a.length) (h2:k<b.length) (h:a.take k=b.take k) (hx:a[k]=b[k]):a.take (k+1)=b.take (k+1):=by
 rw [List.take_succ_eq_append_getElem h1,List.take_succ_eq_append_getElem h2,h,hx]
section
variable {w:World} {v v2:Value}
theorem Gn (e g:En) (w:World) (he:Ji w e v) (hg:Ji w g v2):Calls Tryz.prog 31 #[eH e v,eH g v2] w fun r w2=>r=.returned (.bool (uE e g))∧Ext [] w w2:=by
 have bV:=Lib.hid (((Sp.nil w []).box (bQ e v) 40).box (bQ g v2) 40)
 rw [show (w.alloc (.cells (bQ e v) 40)).heap.size=w.heap.size+1 by simp] at bV
 have HV:Hid (uE e g=decide (e.id=g.id∧e.dom=g.dom∧e.ep=g.ep∧e.cnt=g.cnt∧e.mX=g.mX∧e.gz=g.gz∧e.born=g.born∧e.jM=g.jM∧e.tries=g.tries)):=rfl
 have HTE:=Lib.hid he.WU
 have QY:=Lib.hid hg.WU
 have IQ:=Lib.hid he.fit.gz
 have HLG:=Lib.hid hg.fit.gz
 obtain ⟨i1,d1,p1,c1,⟨fl,fd⟩,r1,b1,n1,t1⟩:=e
 obtain ⟨i2,d2,p2,c2,⟨gl,gd⟩,r2,b2,n2,t2⟩:=g
 obtain ⟨va,vc,rfl⟩:=he.WU.form
 obtain ⟨ua,uc,rfl⟩:=hg.WU.form
 unfold eH
 unfold bQ at bV
 dsimp only at *
 have hl1:(r1.length:Int)≤1000:=by have:=IQ.out;omega
 have hl2:(r2.length:Int)≤1000:=by have:=HLG.out;omega
 clear he hg
 go_enter Tryz.func31,Tryz.ntmps31
 go_upto_region 1 with (fail)
 generalize (w.alloc _).alloc _=w1 at *
 generalize w.heap.size+1=q2 at *
 generalize w.heap.size=q1 at *
 have e0:=bV.out.ak.cell
 have e1:=bV.out.cell
 have BJ:=Lib.hid bV.out.ext
 by_cases hlm:r1.length=r2.length
 ·have SC:(r1.length:Int)=r2.length:=by omega
  have Vx:=Lib.hid hlm
  rw [← SC] at hl2
  have HR:Hid (∀ n:Nat,n=r2.length→((n:Int)=r1.length)):=fun n h=>by omega
  clear hl2
  rw [← hlm] at e1 bV
  clear hlm SC
  go_wp2_with fail
  go_loopw [5] (fun z wr=>∃ k:Nat,z=.int .i64 k∧k≤r1.length∧r1.take k=r2.take k∧Sp w [] wr (ae q2 #[.int .u64 i2,.string ⟨d2.toArray⟩,.int .u64 p2,.int .u64 c2,.string ⟨gl.toArray⟩,.string ⟨gd.toArray⟩,.slice ua r1.length uc,.int .u64 b2,.int .u64 n2,.int .i64 t2] 40::ae q1 #[.int .u64 i1,.string ⟨d1.toArray⟩,.int .u64 p1,.int .u64 c1,.string ⟨fl.toArray⟩,.string ⟨fd.toArray⟩,.slice va r1.length vc,.int .u64 b1,.int .u64 n1,.int .i64 t1] 40::[])) (fun z _=>r1.length - (intOf z).toNat)
  case atStart=>exact ⟨0,rfl,Nat.zero_le _,rfl,bV.out⟩
  case round =>
   obtain ⟨k,rfl,hk,heq,S1⟩:=hrel
   have Zk:=Lib.hid heq
   have HS:=Lib.hid S1
   have k0:=S1.ak.cell
   have k1:=S1.cell
   clear heq S1 e0 e1
   have hk':(k:Int)≤r1.length:=by omega
   by_cases hlt:k<r1.length
   ·have hlt':(k:Int)<r1.length:=by omega
    have Vy:k<r2.length:=by have:=Vx.out;omega
    obtain ⟨xb,xo,hxa,x0,x1,x2⟩:=(HTE.out.ext HS.out.ext).at hlt
    obtain ⟨yb,yo,hya,y0,y1,y2⟩:=(QY.out.ext HS.out.ext).at Vy
    subst hxa hya
    have HN:=Lib.hid (SB hlt Vy Zk.out)
    have QX:Hid (r1[k]≠r2[k]→r1≠r2):=fun h1 h2=>h1 (by subst h2;rfl)
    generalize r1[k]=x at *
    generalize r2[k]=y at *
    obtain ⟨⟨xl,xd⟩,xs⟩:=x
    obtain ⟨⟨yl,yd⟩,ys⟩:=y
    dsimp only at *
    clear Vy
    by_cases he:((xl,xd),xs)=((yl,yd),ys)
    ·have Vz:=Lib.hid (HN.out he)
     simp only [Prod.mk.injEq] at he
     obtain ⟨⟨rfl,rfl⟩,rfl⟩:=he
     go_upto_region 6 with (fail)
     go_region
     all_goals
      go_wp2_with fail
      go_roundw
      case rel=>exact ⟨k+1,by go_num,by omega,Vz.out,by first | exact HS.out | exact HS.out.drew⟩
      case measure=>simp [intOf];omega
    ·have HW:=Lib.hid (HV.out.trans (decide_eq_false (by rintro ⟨g1,g2,g3,g4,g5,g6,g7,g8,g9⟩;exact QX.out he g6)))
     go_upto_region 6 with (fail)
     by_cases h1:xl=yl
     ·subst h1
      by_cases h2:xd=yd
      ·subst h2
       have h3:xs≠ys:=fun h=>he (by rw [h])
       have h3':(xs == ys)=false:=by simpa using h3
       clear he
       go_region
       all_goals
        go_wp2
        go_ret
        rw [HW.out]
        exact ⟨rfl,by first | exact HS.out.ext | exact HS.out.drew.ext⟩
      ·have h2':(xd == yd)=false:=by simpa using h2
       clear he
       go_region
       all_goals
        go_wp2
        go_ret
        rw [HW.out]
        exact ⟨rfl,by first | exact HS.out.ext | exact HS.out.drew.ext⟩
     ·have h1':(xl == yl)=false:=by simpa using h1
      clear he
      go_region
      all_goals
       go_wp2
       go_ret
       rw [HW.out]
       exact ⟨rfl,by first | exact HS.out.ext | exact HS.out.drew.ext⟩
   ·obtain rfl:k=r1.length:=by omega
    have HR2:Hid (r1=r2):=by
     have:=Zk.out
     unfold Hid
     rw [List.take_length,Vx.out,List.take_length] at this
     exact this
    have HX:=Lib.hid HS.out.ext
    clear hlt hk hk'
    by_cases hne:i1=i2
    ·subst hne
     by_cases hne:d1=d2
     ·subst hne
      by_cases hne:p1=p2
      ·subst hne
       by_cases hne:c1=c2
       ·subst hne
        by_cases hne:fl=gl
        ·subst hne
         by_cases hne:fd=gd
         ·subst hne
          by_cases hne:b1=b2
          ·subst hne
           by_cases hne:n1=n2
           ·subst hne
            by_cases hne:t1=t2
            ·subst hne
             have HW:=Lib.hid (HV.out.trans (decide_eq_true ⟨by trivial,by trivial,by trivial,by trivial,by trivial,HR2.out,by trivial,by trivial,by trivial⟩))
             go_wp2
             go_ret
             rw [HW.out]
             exact ⟨rfl,HX.out⟩
            ·have hb:(t1 == t2)=false:=by simpa using hne
             have HW:=Lib.hid (HV.out.trans (decide_eq_false (by rintro ⟨g1,g2,g3,g4,g5,g6,g7,g8,g9⟩;exact hne (by first | exact g1 | exact g2 | exact g3 | exact g4 | exact (Prod.mk.inj g5).1 | exact (Prod.mk.inj g5).2 | exact g7 | exact g8 | exact g9))))
             go_wp2
             go_ret
             rw [HW.out]
             exact ⟨rfl,HX.out⟩
           ·have hb:((n1:Int) == n2)=false:=by simpa using fun h=>hne (by omega)
            have HW:=Lib.hid (HV.out.trans (decide_eq_false (by rintro ⟨g1,g2,g3,g4,g5,g6,g7,g8,g9⟩;exact hne (by first | exact g1 | exact g2 | exact g3 | exact g4 | exact (Prod.mk.inj g5).1 | exact (Prod.mk.inj g5).2 | exact g7 | exact g8 | exact g9))))
            go_wp2
            go_ret
            rw [HW.out]
            exact ⟨rfl,HX.out⟩
          ·have hb:((b1:Int) == b2)=false:=by simpa using fun h=>hne (by omega)
           have HW:=Lib.hid (HV.out.trans (decide_eq_false (by rintro ⟨g1,g2,g3,g4,g5,g6,g7,g8,g9⟩;exact hne (by first | exact g1 | exact g2 | exact g3 | exact g4 | exact (Prod.mk.inj g5).1 | exact (Prod.mk.inj g5).2 | exact g7 | exact g8 | exact g9))))
           go_wp2
           go_ret
           rw [HW.out]
           exact ⟨rfl,HX.out⟩
         ·have hb:(fd == gd)=false:=by simpa using hne
          have HW:=Lib.hid (HV.out.trans (decide_eq_false (by rintro ⟨g1,g2,g3,g4,g5,g6,g7,g8,g9⟩;exact hne (by first | exact g1 | exact g2 | exact g3 | exact g4 | exact (Prod.mk.inj g5).1 | exact (Prod.mk.inj g5).2 | exact g7 | exact g8 | exact g9))))
          go_wp2
          go_ret
          rw [HW.out]
          exact ⟨rfl,HX.out⟩
        ·have hb:(fl == gl)=false:=by simpa using hne
         have HW:=Lib.hid (HV.out.trans (decide_eq_false (by rintro ⟨g1,g2,g3,g4,g5,g6,g7,g8,g9⟩;exact hne (by first | exact g1 | exact g2 | exact g3 | exact g4 | exact (Prod.mk.inj g5).1 | exact (Prod.mk.inj g5).2 | exact g7 | exact g8 | exact g9))))
         go_wp2
         go_ret
         rw [HW.out]
         exact ⟨rfl,HX.out⟩
       ·have hb:((c1:Int) == c2)=false:=by simpa using fun h=>hne (by omega)
        have HW:=Lib.hid (HV.out.trans (decide_eq_false (by rintro ⟨g1,g2,g3,g4,g5,g6,g7,g8,g9⟩;exact hne (by first | exact g1 | exact g2 | exact g3 | exact g4 | exact (Prod.mk.inj g5).1 | exact (Prod.mk.inj g5).2 | exact g7 | exact g8 | exact g9))))
        go_wp2
        go_ret
        rw [HW.out]
        exact ⟨rfl,HX.out⟩
      ·have hb:((p1:Int) == p2)=false:=by simpa using fun h=>hne (by omega)
       have HW:=Lib.hid (HV.out.trans (decide_eq_false (by rintro ⟨g1,g2,g3,g4,g5,g6,g7,g8,g9⟩;exact hne (by first | exact g1 | exact g2 | exact g3 | exact g4 | exact (Prod.mk.inj g5).1 | exact (Prod.mk.inj g5).2 | exact g7 | exact g8 | exact g9))))
       go_wp2
       go_ret
       rw [HW.out]
       exact ⟨rfl,HX.out⟩
     ·have hb:(d1 == d2)=false:=by simpa using hne
      have HW:=Lib.hid (HV.out.trans (decide_eq_false (by rintro ⟨g1,g2,g3,g4,g5,g6,g7,g8,g9⟩;exact hne (by first | exact g1 | exact g2 | exact g3 | exact g4 | exact (Prod.mk.inj g5).1 | exact (Prod.mk.inj g5).2 | exact g7 | exact g8 | exact g9))))
      go_wp2
      go_ret
      rw [HW.out]
      exact ⟨rfl,HX.out⟩
    ·have hb:((i1:Int) == i2)=false:=by simpa using fun h=>hne (by omega)
     have HW:=Lib.hid (HV.out.trans (decide_eq_false (by rintro ⟨g1,g2,g3,g4,g5,g6,g7,g8,g9⟩;exact hne (by first | exact g1 | exact g2 | exact g3 | exact g4 | exact (Prod.mk.inj g5).1 | exact (Prod.mk.inj g5).2 | exact g7 | exact g8 | exact g9))))
     go_wp2
     go_ret
     rw [HW.out]
     exact ⟨rfl,HX.out⟩
 ·have hb:((r1.length:Int) == r2.length)=false:=by simpa using fun h=>hlm (by omega)
  have HW:=Lib.hid (HV.out.trans (decide_eq_false (by rintro ⟨g1,g2,g3,g4,g5,g6,g7,g8,g9⟩;exact hlm (by rw [g6]))))
  go_wp2
  go_ret
  rw [HW.out]
  exact ⟨rfl,BJ.out⟩
end
end
end Go.Proofs.YtangbdahnmomlaaGreatDoor
