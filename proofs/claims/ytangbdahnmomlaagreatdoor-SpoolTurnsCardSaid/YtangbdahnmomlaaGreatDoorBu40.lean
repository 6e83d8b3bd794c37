/- spool: Put, Load. Conditions: the lengths fit; what Go's variables hold. spool: Update, Remove, Begin. Conditions: the lengths fit; what Go's -/
import Derived.Test.YtangbdahnmomlaaGreatDoorBu39
set_option linter.unnecessarySimpa false
set_option linter.unusedSimpArgs false
set_option linter.unusedVariables false
set_option maxHeartbeats 4000000
set_option maxRecDepth 100000
namespace Go.Proofs.YtangbdahnmomlaaGreatDoor
section
open Go.RowKit Go.Maps Go.Shelf
theorem put_eq (Q:Sq) (c:Sc) (e:En) (body:Bs):Q.put c e body=if sF e 1=false then (Q,0,2) else if 16000<body.length then (Q,0,5) else if Q.last=1099511627776 then (Q,0,4)
  else if (Q.write c { e with id:=Q.last+1 } body).2≠0 then ((Q.write c { e with id:=Q.last+1 } body).1,0,(Q.write c { e with id:=Q.last+1 } body).2) else ((Q.write c { e with id:=Q.last+1 } body).1,Q.last+1,0):=rfl
theorem zI (Q:Sq) (m:Bs) (id:Nat):Q.load m id=if Q.rows.has id=false then (Q,En.zero,[],10) else if (Q.open m id).2.2=true then (Q,(Q.open m id).1,(Q.open m id).2.1,0)
  else if (Q.drop id).2≠0 then ((Q.drop id).1,En.zero,[],(Q.drop id).2)
  else if (Q.drop id).1.D.sync.2≠0 then ({ (Q.drop id).1 with D:=(Q.drop id).1.D.sync.1 },En.zero,[],(Q.drop id).1.D.sync.2) else ({ (Q.drop id).1 with D:=(Q.drop id).1.D.sync.1 },En.zero,[],20):=rfl
section
variable {w0 w:World} {L:List aT} {P:nS} {c:Sc} {Q:Sq} {v:Value}
theorem JO (e:En) (body:Bs) (n:Nat) (hf:e.Fit) (h:bg c n Q) (hn:n≤970000) (E:Env w0) (HT:∀ (w':World) (X:List aT),Sp w0 [] w' (X++L)→iM w' v e.gz) (S:Sp w0 [] w (ay P c Q L)) :
  Calls Tryz.prog 11 #[.pointer (some ⟨P.s,0,none⟩),eH e v,.string ⟨body.toArray⟩] w fun r w2=>r=.returned (.tuple #[.int .u64 (Q.put c e body).2.1,.int .i64 (Q.put c e body).2.2])∧Sp w0 [] w2 (ay P c (Q.put c e body).1 L):=by
 have HV:Hid (Q.put c e body=_):=Lib.hid (put_eq Q c e body)
 have hla:=h.last
 have hlast:(Q.last:Int)≤1099511627776:=by omega
 have hwrap:((Q.last:Int)+1) % 18446744073709551616=((Q.last+1:Nat):Int):=by omega
 have HM:=Lib.hid (fun (w':World) (q:Nat) (cs:Array Value) (S':Sp w0 [] w' (ae q cs 40::ay P c Q L))=>Qp e 1 (by decide) (E.ext S'.ext) hf (HT w' (ae q cs 40::ay P c Q []) (by unfold ay at S' ⊢;exact S')) S')
 have HW:=Lib.hid (fun (hm:sF e 1=true) (hl:Q.last≠1099511627776) (A:aT) (w':World) (S':Sp w0 [] w' (ay P c Q (A::L)))=>Bq { e with id:=Q.last+1 } body n (show Q.last+1≤1099511627776 by omega) (show e.dom.length≤255 from (bT hm).dom) { hf with id:=show Q.last+1<18446744073709551616 by omega } h hn E (fun w2 X SX=>HT w2 (X++[A]) (by rw [List.append_assoc];exact SX)) S')
 obtain ⟨va,vc,rfl⟩:=(HT w (ay P c Q []) (by unfold ay at S ⊢;exact S)).form
 obtain ⟨lt,hlt⟩:∃ lt,Q.last=lt:=⟨_,rfl⟩
 have S0:=S.box (bQ e (.slice va e.gz.length vc)) 40
 have c0:=S0.cell
 have cs:=S0.ak.cell
 unfold aA at cs
 have xB:=Lib.hid hlt
 rw [hlt] at HV hlast hwrap HW cs
 generalize sF e 1=my at *
 generalize Q.put c e body=po at *
 generalize Q.write c { e with id:=lt+1 } body=wo at *
 obtain ⟨Q2,ew⟩:=wo
 obtain ⟨xi,xd,xe,xc,xf,xr,xb,xn,xt⟩:=e
 unfold bQ eH at *
 dsimp only at *
 have HS:=Lib.hid S0
 have HS2:=Lib.hid (S.new (.cells #[.int .u64 (lt+1:Nat),.string ⟨xd.toArray⟩,.int .u64 xe,.int .u64 xc,.string ⟨xf.1.toArray⟩,.string ⟨xf.2.toArray⟩,.slice va xr.length vc,.int .u64 xb,.int .u64 xn,.int .i64 xt] 40))
 clear S S0 E hf HT h hn hla hlt
 go_enter Tryz.func11,Tryz.ntmps11
 go_wp2_with fail
 refine (HM.out _ _ _ HS.out).mono ?_
 rintro r w2 ⟨rfl,S⟩
 have c0:=S.cell
 have f0:=S.free
 have cs:=S.ak.cell
 unfold aA at cs
 rw [xB.out] at cs
 have HS:=Lib.hid S
 clear S HM HS2
 by_cases hm:my=true
 rotate_left 1
 ·obtain rfl:my=false:=by simpa using hm
  have gq:Hid (po=(Q,0,2)):=HV.out.trans (if_pos rfl)
  clear HV
  go_wp2_with fail
  go_ret2
  exact ⟨by rw [gq.out];rfl,by rw [gq.out];exact HS.out.drop⟩
 subst hm
 rw [if_neg (by simp)] at HV
 by_cases h16:16000<body.length
 ·have hb:(16000:Int)<body.length:=by omega
  have gq:Hid (po=(Q,0,5)):=HV.out.trans (if_pos h16)
  clear HV h16
  go_wp2_with fail
  go_ret2
  exact ⟨by rw [gq.out];rfl,by rw [gq.out];exact HS.out.drop⟩
 rw [if_neg h16] at HV
 have hb:(body.length:Int)≤16000:=by omega
 clear h16
 by_cases hl:lt=1099511627776
 ·have hbl:((lt:Int) == 1099511627776)=true:=by simp only [beq_iff_eq];omega
  have gq:Hid (po=(Q,0,4)):=HV.out.trans (if_pos hl)
  clear HV hl
  go_wp2_with fail
  go_ret2
  exact ⟨by rw [gq.out];rfl,by rw [gq.out];exact HS.out.drop⟩
 rw [if_neg hl] at HV
 have hbl:((lt:Int) == 1099511627776)=false:=by simp only [beq_eq_false_iff_ne];omega
 have HW2:=Lib.hid (HW.out rfl hl)
 clear hl HW
 have bI:=Lib.hid (HS.out.set (o:=0) (.int .u64 (lt+1:Nat)))
 simp only [List.setIfInBounds_toArray,List.set_cons_zero,List.set_cons_succ] at bI
 go_wp2_with fail
 have c1:=bI.out.cell
 have HZ:Hid (Sp w0 [] (w2.setCell ⟨w.heap.size,0,none⟩ (.int .u64 ((lt+1:Nat):Int))) (ay P c Q (ae w.heap.size #[.int .u64 (lt+1:Nat),.string ⟨xd.toArray⟩,.int .u64 xe,.int .u64 xc,.string ⟨xf.1.toArray⟩,.string ⟨xf.2.toArray⟩,.slice va xr.length vc,.int .u64 xb,.int .u64 xn,.int .i64 xt] 40::L))):=by
  have h3:=bI.out
  unfold ay at h3 ⊢
  exact (Sp.pick [_,_,_,_,_,_,_] [1,2,3,4,5,6,0] (by decide) (h3))
 refine (HW2.out _ _ HZ.out).mono ?_
 rintro r w3 ⟨rfl,S⟩
 unfold ay at S
 have HS:=Lib.hid ((Sp.pick [_,_,_,_,_,_,_] [6,0,1,2,3,4,5] (by decide) (S)))
 have c2:=HS.out.cell
 clear S HZ bI c0 f0 c1 cs hwrap HW2
 by_cases he:ew=0
 ·subst he
  have gq:Hid (po=(Q2,lt+1,0)):=by unfold Hid;rw [HV.out];simp
  clear HV
  go_wp2_with fail
  go_ret2
  exact ⟨by rw [gq.out];rfl,by rw [gq.out];exact HS.out.drop⟩
 ·have hb:(ew != 0)=true:=by simpa using he
  have gq:Hid (po=(Q2,0,ew)):=by unfold Hid;rw [HV.out,if_pos he]
  clear HV he
  go_wp2_with fail
  go_ret2
  exact ⟨by rw [gq.out];rfl,by rw [gq.out];exact HS.out.drop⟩
theorem qI (id:Nat) (n:Nat) (hi:id<18446744073709551616) (h:bg c n Q) (hn:n≤990000) (E:Env w0) (S:Sp w0 [] w (ay P c Q L)) :
  Calls Tryz.prog 14 #[.pointer (some ⟨P.s,0,none⟩),.int .u64 id] w fun r w2=>∃ v,r=.returned (.tuple #[eH (Q.load c.ai id).2.1 v,.string ⟨(Q.load c.ai id).2.2.1.toArray⟩,.int .i64 (Q.load c.ai id).2.2.2])∧Sp w0 [] w2 (dH v (Q.load c.ai id).2.1.gz::ay P c (Q.load c.ai id).1 L):=by
 have HV:Hid (Q.load c.ai id=_):=Lib.hid (zI Q c.ai id)
 have S0:=S.box #[.int .u64 0,.string ⟨#[]⟩,.int .u64 0,.int .u64 0,.string ⟨#[]⟩,.string ⟨#[]⟩,.slice none 0 0,.int .u64 0,.int .u64 0,.int .i64 0] 40
 have hlk:=S0.dJ.Aw.ou (t:=88) nJ Tryz.underlying88 (nK _) (oP id hi)
 have hr:((Q.rows.get id).map aJ.agg).getD (aJ.agg ⟨[],0,0⟩)=(rowAt Q.rows id).agg:=by unfold rowAt;cases Q.rows.get id <;> rfl
 rw [hr] at hlk
 have cs:=S0.ak.cell
 unfold aA at cs
 have HO:=Lib.hid (fun (w':World) (K':List aT) (S':Sp w0 [] w' (ay P c Q K'))=>K4 id n hi h.key h.fit h.room (by omega) (h.box (by omega)) E S')
 have HDR:=Lib.hid (fun (w':World) (K':List aT) (S':Sp w0 [] w' (ay P c Q K'))=>K3 id n hi h.fit (h.small (by omega)) h.room (by omega) E S')
 have Wp:=Lib.hid (fun (hh:Q.rows.has id=true) (w':World) (K':List aT) (S':Sp w0 [] w' (aF P.d (Q.drop id).1.D::K'))=>yz S' ((h.drop (h.has hh)).room.small (by omega)))
 generalize rowAt Q.rows id=rr at *
 obtain ⟨rd,rn,ro⟩:=rr
 unfold aJ.agg at hlk
 generalize Q.load c.ai id=lo at *
 generalize Q.open c.ai id=oo at *
 generalize Q.drop id=dd at *
 generalize hhas:Q.rows.has id=has at *
 obtain ⟨⟨xi,xd,xe,xc,xf,xr,xb,xn,xt⟩,body,right⟩:=oo
 obtain ⟨Q2,ed⟩:=dd
 dsimp only at *
 unfold ay at S0
 have HS:=Lib.hid (S0.box #[.string ⟨rd.toArray⟩,.int .u64 rn,.int .u64 ro] 107).ak
 clear S S0 E h hn hi hr hhas
 go_enter Tryz.func14,Tryz.ntmps14
 go_upto_if 24 with (fail)
 clear hlk
 generalize (w.alloc _).alloc _=w1 at *
 generalize w.heap.size+1=g7 at *
 generalize w.heap.size=g4 at *
 cases has with
 | false =>
  have gq:Hid (lo=(Q,En.zero,[],10)):=HV.out.trans (if_pos rfl)
  have S6:=(Sp.pick [_,_,_,_,_,_,_,_] [0,2,3,4,5,6,7] (by decide) (HS.out))
  have d0:=S6.cell
  have f0:=S6.free
  have rZ:=Lib.hid ((((((((((S6.set (o:=0) (.int .u64 0)).set (o:=1) (.string ⟨#[]⟩)).set (o:=2) (.int .u64 0)).set (o:=3) (.int .u64 0)).set (o:=4) (.string ⟨#[]⟩)).set (o:=5) (.string ⟨#[]⟩)).set (o:=6) (.slice none 0 0)).set (o:=7) (.int .u64 0)).set (o:=8) (.int .u64 0)).set (o:=9) (.int .i64 0)).drop.iX
  clear S6 HS
  go_wp2
  rw [gq.out]
  exact bodyPost_ret (v:=.tuple #[.agg #[.int .u64 0,.string ⟨#[]⟩,.int .u64 0,.int .u64 0,.string ⟨#[]⟩,.string ⟨#[]⟩,.slice none 0 0,.int .u64 0,.int .u64 0,.int .i64 0],.string ⟨#[]⟩,.int .i64 10]) (by simp [results,Tryz.results14,go_sem,d0]) rfl ⟨.slice none 0 0,rfl,rZ.out⟩
 | true =>
  rw [if_neg (by simp)] at HV
  have HZ:Hid (Sp w0 [] w1 (ay P c Q (ae g4 #[.int .u64 0,.string ⟨#[]⟩,.int .u64 0,.int .u64 0,.string ⟨#[]⟩,.string ⟨#[]⟩,.slice none 0 0,.int .u64 0,.int .u64 0,.int .i64 0] 40::L))):=by
   unfold ay
   exact (Sp.pick [_,_,_,_,_,_,_,_] [2,3,4,5,6,7,0] (by decide) (HS.out))
  clear HS cs
  go_wp2_with fail
  refine (HO.out _ _ HZ.out).mono ?_
  rintro r w2 ⟨v,rfl,S⟩
  obtain ⟨va,vc,rfl⟩:=S.kM.form
  unfold eH
  dsimp only
  unfold ay at S
  cases right with
  | true =>
   rw [if_pos rfl] at HV
   have S5:=(S.box #[.int .u64 xi,.string ⟨xd.toArray⟩,.int .u64 xe,.int .u64 xc,.string ⟨xf.1.toArray⟩,.string ⟨xf.2.toArray⟩,.slice va xr.length vc,.int .u64 xb,.int .u64 xn,.int .i64 xt] 40).ak
   have S6:=(Sp.pick [_,_,_,_,_,_,_,_,_] [8,0,2,3,4,5,6,7,1] (by decide) (S5))
   have d0:=S6.cell
   have f0:=S6.free
   have d1:=((Sp.pick [_,_,_,_,_,_,_,_,_] [8,0,1,2,3,4,5,6,7] (by decide) (S6))).cell
   have rZ:=Lib.hid ((Sp.pick [_,_,_,_,_,_,_,_,_] [1,2,3,4,5,6,7] (by decide) (((((((((((S6.set (o:=0) (.int .u64 xi)).set (o:=1) (.string ⟨xd.toArray⟩)).set (o:=2) (.int .u64 xe)).set (o:=3) (.int .u64 xc)).set (o:=4) (.string ⟨xf.1.toArray⟩)).set (o:=5) (.string ⟨xf.2.toArray⟩)).set (o:=6) (.slice va xr.length vc)).set (o:=7) (.int .u64 xb)).set (o:=8) (.int .u64 xn)).set (o:=9) (.int .i64 xt)))))
   clear S S5 S6 HZ HO HDR Wp
   go_wp2
   rw [HV.out]
   exact bodyPost_ret (v:=.tuple #[.agg #[.int .u64 xi,.string ⟨xd.toArray⟩,.int .u64 xe,.int .u64 xc,.string ⟨xf.1.toArray⟩,.string ⟨xf.2.toArray⟩,.slice va xr.length vc,.int .u64 xb,.int .u64 xn,.int .i64 xt],.string ⟨body.toArray⟩,.int .i64 0]) (by simp [results,Tryz.results14,go_sem,d0]) rfl ⟨_,rfl,rZ.out⟩
  | false =>
   rw [if_neg (by simp)] at HV
   have HZ2:Hid (Sp w0 [] (w2.alloc (.cells #[.int .u64 xi,.string ⟨xd.toArray⟩,.int .u64 xe,.int .u64 xc,.string ⟨xf.1.toArray⟩,.string ⟨xf.2.toArray⟩,.slice va xr.length vc,.int .u64 xb,.int .u64 xn,.int .i64 xt] 40)) (ay P c Q (ae g4 #[.int .u64 0,.string ⟨#[]⟩,.int .u64 0,.int .u64 0,.string ⟨#[]⟩,.string ⟨#[]⟩,.slice none 0 0,.int .u64 0,.int .u64 0,.int .i64 0] 40::L))):=by
    unfold ay
    exact S.drop.new _
   clear HZ HO S
   go_wp2_with fail
   refine (HDR.out _ _ HZ2.out).mono ?_
   rintro r w3 ⟨rfl,S⟩
   have cs:=S.cell
   unfold aA at cs
   unfold ay at S
   have HS:=Lib.hid S
   clear S HZ2 HDR
   by_cases he:ed=0
   rotate_left 1
   ·have hb:(ed != 0)=true:=by simpa using he
    have gq:Hid (lo=(Q2,En.zero,[],ed)):=HV.out.trans (if_pos he)
    clear he HV
    have S6:=(Sp.pick [_,_,_,_,_,_,_] [6,0,1,2,3,4,5] (by decide) (HS.out))
    have d0:=S6.cell
    have f0:=S6.free
    have rZ:=Lib.hid ((((((((((S6.set (o:=0) (.int .u64 0)).set (o:=1) (.string ⟨#[]⟩)).set (o:=2) (.int .u64 0)).set (o:=3) (.int .u64 0)).set (o:=4) (.string ⟨#[]⟩)).set (o:=5) (.string ⟨#[]⟩)).set (o:=6) (.slice none 0 0)).set (o:=7) (.int .u64 0)).set (o:=8) (.int .u64 0)).set (o:=9) (.int .i64 0)).drop.iX
    clear S6 HS
    go_wp2
    rw [gq.out]
    exact bodyPost_ret (v:=.tuple #[.agg #[.int .u64 0,.string ⟨#[]⟩,.int .u64 0,.int .u64 0,.string ⟨#[]⟩,.string ⟨#[]⟩,.slice none 0 0,.int .u64 0,.int .u64 0,.int .i64 0],.string ⟨#[]⟩,.int .i64 ed]) (by simp [results,Tryz.results14,go_sem,d0]) rfl ⟨.slice none 0 0,rfl,rZ.out⟩
   subst he
   rw [if_neg (by simp)] at HV
   go_wp2_with fail
   refine (Wp.out trivial _ _ HS.out.dJ).mono ?_
   rintro r w4 ⟨rfl,S⟩
   generalize Q2.D.sync=sy at *
   obtain ⟨D3,es⟩:=sy
   dsimp only at *
   have HS:=Lib.hid ((Sp.pick [_,_,_,_,_,_,_] [6,1,2,0,3,4,5] (by decide) (S)))
   clear S Wp cs
   by_cases he:es=0
   ·subst he
    have gq:Hid (lo=({ Q2 with D:=D3 },En.zero,[],20)):=by unfold Hid;rw [HV.out];simp
    clear HV
    have S6:=HS.out
    have d0:=S6.cell
    have f0:=S6.free
    have rZ:=Lib.hid ((((((((((S6.set (o:=0) (.int .u64 0)).set (o:=1) (.string ⟨#[]⟩)).set (o:=2) (.int .u64 0)).set (o:=3) (.int .u64 0)).set (o:=4) (.string ⟨#[]⟩)).set (o:=5) (.string ⟨#[]⟩)).set (o:=6) (.slice none 0 0)).set (o:=7) (.int .u64 0)).set (o:=8) (.int .u64 0)).set (o:=9) (.int .i64 0)).drop.iX
    clear S6 HS
    go_wp2
    rw [gq.out]
    exact bodyPost_ret (v:=.tuple #[.agg #[.int .u64 0,.string ⟨#[]⟩,.int .u64 0,.int .u64 0,.string ⟨#[]⟩,.string ⟨#[]⟩,.slice none 0 0,.int .u64 0,.int .u64 0,.int .i64 0],.string ⟨#[]⟩,.int .i64 20]) (by simp [results,Tryz.results14,go_sem,d0]) rfl ⟨.slice none 0 0,rfl,rZ.out⟩
   ·have hb:(es != 0)=true:=by simpa using he
    have gq:Hid (lo=({ Q2 with D:=D3 },En.zero,[],es)):=HV.out.trans (if_pos he)
    clear he HV
    have S6:=HS.out
    have d0:=S6.cell
    have f0:=S6.free
    have rZ:=Lib.hid ((((((((((S6.set (o:=0) (.int .u64 0)).set (o:=1) (.string ⟨#[]⟩)).set (o:=2) (.int .u64 0)).set (o:=3) (.int .u64 0)).set (o:=4) (.string ⟨#[]⟩)).set (o:=5) (.string ⟨#[]⟩)).set (o:=6) (.slice none 0 0)).set (o:=7) (.int .u64 0)).set (o:=8) (.int .u64 0)).set (o:=9) (.int .i64 0)).drop.iX
    clear S6 HS
    go_wp2
    rw [gq.out]
    exact bodyPost_ret (v:=.tuple #[.agg #[.int .u64 0,.string ⟨#[]⟩,.int .u64 0,.int .u64 0,.string ⟨#[]⟩,.string ⟨#[]⟩,.slice none 0 0,.int .u64 0,.int .u64 0,.int .i64 0],.string ⟨#[]⟩,.int .i64 es]) (by simp [results,Tryz.results14,go_sem,d0]) rfl ⟨.slice none 0 0,rfl,rZ.out⟩
end
end
section
open Go.RowKit Go.Maps Go.Shelf
theorem C8 (Q:Sq) (c:Sc) (e:En):Q.update c e=if (Q.load c.ai e.id).2.2.2≠0 then ((Q.load c.ai e.id).1,(Q.load c.ai e.id).2.2.2) else if sF e e.id=false then ((Q.load c.ai e.id).1,2)
  else if e.dom≠(Q.load c.ai e.id).2.1.dom then ((Q.load c.ai e.id).1,1) else (Q.load c.ai e.id).1.write c e (Q.load c.ai e.id).2.2.1:=rfl
theorem C9 (Q:Sq) (id:Nat):Q.remove id=if Q.rows.has id=false then (Q,10) else if (Q.lay id ⟨(rowAt Q.rows id).dom,0,0⟩).2≠0 then Q.lay id ⟨(rowAt Q.rows id).dom,0,0⟩
  else ({ (Q.lay id ⟨(rowAt Q.rows id).dom,0,0⟩).1 with D:=((Q.lay id ⟨(rowAt Q.rows id).dom,0,0⟩).1.D.remove (aU Q.rows id)).1 },if ((Q.lay id ⟨(rowAt Q.rows id).dom,0,0⟩).1.D.remove (aU Q.rows id)).2=10 then 0 else ((Q.lay id ⟨(rowAt Q.rows id).dom,0,0⟩).1.D.remove (aU Q.rows id)).2):=rfl
section
variable {w0 w:World} {L:List aT} {P:nS} {c:Sc} {Q:Sq} {v:Value}
theorem Nu (e:En) (n:Nat) (hf:e.Fit) (h:bg c n Q) (hn:n≤969000) (E:Env w0) (HT:∀ (w':World) (X:List aT),Sp w0 [] w' (X++L)→iM w' v e.gz) (S:Sp w0 [] w (ay P c Q L)) :
  Calls Tryz.prog 21 #[.pointer (some ⟨P.s,0,none⟩),eH e v] w fun r w2=>r=.returned (.int .i64 (Q.update c e).2)∧Sp w0 [] w2 (ay P c (Q.update c e).1 L):=by
 have HV:Hid (Q.update c e=_):=Lib.hid (C8 Q c e)
 have Q5:=Lib.hid (fun (w':World) (K':List aT) (S':Sp w0 [] w' (ay P c Q K'))=>qI e.id n hf.id h (by omega) E S')
 have HM:=Lib.hid (fun (w':World) (X:List aT) (S':Sp w0 [] w' (X++L))=>Qp e e.id hf.id (E.ext S'.ext) hf (HT w' X S') S')
 have h1:=h.load e.id
 have HW:=Lib.hid (fun (hm:sF e e.id=true) (body:Bs) (w':World) (S':Sp w0 [] w' (ay P c (Q.load c.ai e.id).1 L))=>Bq e body (n+404) ((bT hm).id.2) (show e.dom.length≤255 from (bT hm).dom) hf h1 (by omega) E HT S')
 obtain ⟨va,vc,rfl⟩:=(HT w (ay P c Q []) (by unfold ay at S ⊢;exact S)).form
 have S0:=S.box (bQ e (.slice va e.gz.length vc)) 40
 generalize sF e e.id=my at *
 generalize Q.update c e=uo at *
 generalize Q.load c.ai e.id=lo at *
 obtain ⟨Q2,⟨yi,yd,ye,yc',yf,yr,yb,yn,yt⟩,body,er⟩:=lo
 obtain ⟨xi,xd,xe,xc,xf,xr,xb,xn,xt⟩:=e
 unfold bQ eH at *
 dsimp only at *
 have HZ:Hid (Sp w0 [] (w.alloc (.cells #[.int .u64 xi,.string ⟨xd.toArray⟩,.int .u64 xe,.int .u64 xc,.string ⟨xf.1.toArray⟩,.string ⟨xf.2.toArray⟩,.slice va xr.length vc,.int .u64 xb,.int .u64 xn,.int .i64 xt] 40)) (ay P c Q (ae w.heap.size #[.int .u64 xi,.string ⟨xd.toArray⟩,.int .u64 xe,.int .u64 xc,.string ⟨xf.1.toArray⟩,.string ⟨xf.2.toArray⟩,.slice va xr.length vc,.int .u64 xb,.int .u64 xn,.int .i64 xt] 40::L))):=by
  unfold ay at S0 ⊢
  exact (Sp.pick [_,_,_,_,_,_,_] [1,2,3,4,5,6,0] (by decide) (S0))
 clear S S0 E hf HT h hn h1
 go_enter Tryz.func21,Tryz.ntmps21
 go_upto_region 1 with (fail)
 generalize w.alloc _=w1 at *
 generalize w.heap.size=q at *
 have c0:=(show Sp w0 [] w1 (ae q #[.int .u64 xi,.string ⟨xd.toArray⟩,.int .u64 xe,.int .u64 xc,.string ⟨xf.1.toArray⟩,.string ⟨xf.2.toArray⟩,.slice va xr.length vc,.int .u64 xb,.int .u64 xn,.int .i64 xt] 40::L) from by have h:=HZ.out;unfold ay at h;exact (Sp.pick [_,_,_,_,_,_,_] [6] (by decide) (h))).cell
 go_wp2_with fail
 refine (Q5.out _ _ HZ.out).mono ?_
 rintro r w2 ⟨vy,rfl,S⟩
 obtain ⟨ya,yc,rfl⟩:=S.kM.form
 dsimp only
 unfold ay at S
 have S5:=S.drop.box #[.int .u64 yi,.string ⟨yd.toArray⟩,.int .u64 ye,.int .u64 yc',.string ⟨yf.1.toArray⟩,.string ⟨yf.2.toArray⟩,.slice ya yr.length yc,.int .u64 yb,.int .u64 yn,.int .i64 yt] 40
 have HS:=Lib.hid ((Sp.pick [_,_,_,_,_,_,_,_] [7,0,1,2,3,4,5,6] (by decide) (S5)))
 clear S S5 HZ Q5 c0
 by_cases he:er=0
 rotate_left 1
 ·have hb:(er != 0)=true:=by simpa using he
  have gq:Hid (uo=(Q2,er)):=HV.out.trans (if_pos he)
  clear he HV
  go_wp2_with fail
  go_ret
  exact ⟨by rw [gq.out];rfl,by rw [gq.out];exact HS.out.drop.drop⟩
 subst he
 rw [if_neg (by simp)] at HV
 go_upto_if 16 with (fail)
 generalize w2.alloc _=w3 at *
 generalize w2.heap.size=g5 at *
 have c0:=HS.out.cell
 have c5:=HS.out.ak.cell
 go_wp2_with fail
 refine (HM.out _ [_,_,_,_,_,_,_,_] HS.out).mono ?_
 rintro r w4 ⟨rfl,S⟩
 have c0:=S.cell
 have c5:=(show Sp w0 [] w4 (_::_) from S.ak).cell
 have HS:=Lib.hid S
 clear S HM
 by_cases hm:my=true
 rotate_left 1
 ·obtain rfl:my=false:=by simpa using hm
  have gq:Hid (uo=(Q2,2)):=HV.out.trans (if_pos rfl)
  clear hm HV
  go_wp2_with fail
  go_ret
  exact ⟨by rw [gq.out];rfl,by rw [gq.out];exact Sp.drop (Sp.drop HS.out)⟩
 subst hm
 rw [if_neg (by simp)] at HV
 by_cases hd:xd=yd
 rotate_left 1
 ·have hb:(xd == yd)=false:=by simpa using hd
  have gq:Hid (uo=(Q2,1)):=HV.out.trans (if_pos hd)
  clear hd HV
  go_wp2_with fail
  go_ret
  exact ⟨by rw [gq.out];rfl,by rw [gq.out];exact Sp.drop (Sp.drop HS.out)⟩
 have hb:(xd == yd)=true:=by simpa using hd
 rw [if_neg (by simpa using hd)] at HV
 clear hd
 go_wp2_with fail
 refine (HW.out (by trivial) _ _ (Sp.drop (Sp.drop HS.out))).mono ?_
 rintro r w5 ⟨rfl,S⟩
 rw [← HV.out] at S ⊢
 have HS:=Lib.hid S
 clear S HW c0 c5
 go_wp2
 go_ret
 exact ⟨rfl,HS.out⟩
theorem Db (id:Nat) (n:Nat) (hi:id<18446744073709551616) (h:bg c n Q) (hn:n≤990000) (E:Env w0) (S:Sp w0 [] w (ay P c Q L)) :
  Calls Tryz.prog 22 #[.pointer (some ⟨P.s,0,none⟩),.int .u64 id] w fun r w2=>r=.returned (.int .i64 (Q.remove id).2)∧Sp w0 [] w2 (ay P c (Q.remove id).1 L):=by
 have HV:Hid (Q.remove id=_):=Lib.hid (C9 Q id)
 have hlk:=S.ak.Aw.ou (t:=88) nJ Tryz.underlying88 (nK _) (oP id hi)
 have hr:((Q.rows.get id).map aJ.agg).getD (aJ.agg ⟨[],0,0⟩)=(rowAt Q.rows id).agg:=by unfold rowAt;cases Q.rows.get id <;> rfl
 rw [hr] at hlk
 have cs:=S.cell
 unfold aA at cs
 have RZ:=Lib.hid (fun (w':World) (K':List aT) (S':Sp w0 [] w' (ay P c Q K'))=>wM id hi h.fit E S')
 have Xk:=Lib.hid (fun (w':World) (K':List aT) (S':Sp w0 [] w' (ay P c Q K'))=>PX id ⟨(rowAt Q.rows id).dom,0,0⟩ n hi (wO h.fit id) (h.small (by omega)) h.room (by omega) S')
 have hfl:=nL h.fit id hi
 have Qn:=Lib.hid (fun (hh:Q.rows.has id=true) (w':World) (K':List aT) (S':Sp w0 [] w' (aF P.d (Q.lay id ⟨(rowAt Q.rows id).dom,0,0⟩).1.D::K'))=>Kv (aU Q.rows id) S' ((h.lay (h.has hh) (wO h.fit id)).room.small (by omega)) (by omega))
 generalize Q.remove id=ZL at *
 generalize Q.lay id ⟨(rowAt Q.rows id).dom,0,0⟩=Y at *
 generalize aU Q.rows id=fl at *
 generalize rowAt Q.rows id=rr at *
 generalize Q.rows.has id=has at *
 obtain ⟨Q2,el⟩:=Y
 obtain ⟨rd,rn,ro⟩:=rr
 unfold aJ.agg at *
 dsimp only at *
 unfold ay at S
 have S1:=S.box #[.string ⟨rd.toArray⟩,.int .u64 rn,.int .u64 ro] 107
 have HS:=Lib.hid ((Sp.pick [_,_,_,_,_,_,_] [1,2,3,4,5,6,0] (by decide) (S1)))
 clear S S1 E h hn hi hr hfl
 go_enter Tryz.func22,Tryz.ntmps22
 go_upto_if 20 with (fail)
 clear hlk cs
 generalize w.alloc _=w1 at *
 generalize w.heap.size=g5 at *
 cases has with
 | false =>
  have gq:Hid (ZL=(Q,10)):=HV.out.trans (if_pos rfl)
  go_wp2_with fail
  go_ret
  exact ⟨by rw [gq.out];rfl,by rw [gq.out];exact (Sp.pick [_,_,_,_,_,_,_] [0,1,2,3,4,5] (by decide) (HS.out))⟩
 | true =>
  rw [if_neg (by simp)] at HV
  have HZ:Hid (Sp w0 [] w1 (ay P c Q (ae g5 #[.string ⟨rd.toArray⟩,.int .u64 rn,.int .u64 ro] 107::L))):=HS.out
  clear HS
  go_wp2_with fail
  refine (RZ.out _ _ HZ.out).mono ?_
  rintro r w2 ⟨rfl,S⟩
  have HS:=Lib.hid S
  unfold ay at S
  have c5:=(show Sp w0 [] w2 (ae g5 #[.string ⟨rd.toArray⟩,.int .u64 rn,.int .u64 ro] 107::L) from (Sp.pick [_,_,_,_,_,_,_] [6] (by decide) (S))).cell
  clear S HZ RZ
  go_wp2_with fail
  refine (Xk.out _ _ HS.out).mono ?_
  rintro r w3 ⟨rfl,S⟩
  have cs:=S.cell
  unfold aA at cs
  unfold ay at S
  have HS:=Lib.hid ((Sp.pick [_,_,_,_,_,_,_] [0,1,2,3,4,5] (by decide) (S)))
  clear S c5 Xk
  by_cases he:el=0
  rotate_left 1
  ·have hb:(el != 0)=true:=by simpa using he
   have gq:Hid (ZL=(Q2,el)):=HV.out.trans (if_pos he)
   clear he HV
   go_wp2_with fail
   go_ret
   exact ⟨by rw [gq.out];rfl,by rw [gq.out];exact HS.out⟩
  subst he
  rw [if_neg (by simp)] at HV
  go_wp2_with fail
  refine (Qn.out trivial _ _ HS.out.dJ).mono ?_
  rintro r w4 ⟨rfl,S⟩
  generalize Q2.D.remove fl=rv at *
  obtain ⟨D3,es⟩:=rv
  dsimp only at *
  have HS:=Lib.hid ((Sp.pick [_,_,_] [1,2,0] (by decide) (S)))
  clear S Qn cs
  by_cases he:es=10
  ·subst he
   have gq:Hid (ZL=({ Q2 with D:=D3 },0)):=by unfold Hid;rw [HV.out];simp
   clear HV
   go_wp2_with fail
   go_ret
   exact ⟨by rw [gq.out];rfl,by rw [gq.out];exact HS.out⟩
  ·have hb:(es != 10)=true:=by simpa using he
   have gq:Hid (ZL=({ Q2 with D:=D3 },es)):=by unfold Hid;rw [HV.out,if_neg he]
   clear he HV
   go_wp2_with fail
   go_ret
   exact ⟨by rw [gq.out];rfl,by rw [gq.out];exact HS.out⟩
theorem He (x:Bs) (n:Nat) (hx:x.length≤1000000) (h:bg c n Q) (hn:n≤990000) (S:Sp w0 [] w (ay P c Q L)) :
  Calls Tryz.prog 13 #[.pointer (some ⟨P.s,0,none⟩),.string ⟨x.toArray⟩] w fun r w2=>r=.returned (.int .i64 (Q.begin x).2)∧Sp w0 [] w2 (ay P c (Q.begin x).1 L):=by
 have HV:Hid (Q.begin x=({ Q with D:=(fA Q.D Q.ring x).1,ring:=(fA Q.D Q.ring x).2.1 },(fA Q.D Q.ring x).2.2.2)):=rfl
 have cs:=S.cell
 unfold aA at cs
 have HB:=Lib.hid (fun (w':World) (K':List aT) (S':Sp w0 [] w' (bz P.r P.d Q.ring::aF P.d Q.D::K'))=>Jy x n Q.D S' hx (h.sw (by omega)) h.room (by omega))
 generalize fA Q.D Q.ring x=rb at *
 generalize Q.begin x=bo at *
 obtain ⟨D2,M2,ep,er⟩:=rb
 dsimp only at *
 unfold ay at S
 have HS:=Lib.hid ((Sp.pick [_,_,_,_,_,_] [5,2,0,1,3,4] (by decide) (S)))
 clear S h hx hn
 go_enter Tryz.func13,Tryz.ntmps13
 go_wp2_with fail
 refine (HB.out _ _ HS.out).mono ?_
 rintro r w2 ⟨rfl,S⟩
 have HS2:=Lib.hid ((Sp.pick [_,_,_,_,_,_] [2,3,1,4,5,0] (by decide) (S)))
 clear S HS HB cs
 go_wp2_with fail
 go_ret
 exact ⟨by rw [HV.out];rfl,by rw [HV.out];exact HS2.out⟩
end
end
end Go.Proofs.YtangbdahnmomlaaGreatDoor
