/- spool: Ids, Last, Bad, State, may. Conditions: the lengths fit; what Go's variables hold. spool: write. Conditions: the lengths fit; what Go's -/
import Derived.Test.YtangbdahnmomlaaGreatDoorBu19
import Derived.Test.YtangbdahnmomlaaGreatDoorBu32
import Derived.Test.YtangbdahnmomlaaGreatDoorBu38
set_option linter.unnecessarySimpa false
set_option linter.unusedSimpArgs false
set_option linter.unusedVariables false
set_option maxHeartbeats 4000000
set_option maxRecDepth 1000000
namespace Go.Proofs.YtangbdahnmomlaaGreatDoor
section
open Go.RowKit Go.Maps Go.Shelf
section
variable {w0 w:World} {L:List aT} {P:nS} {c:Sc} {Q:Sq}
theorem TB (S:Sp w0 [] w (ay P c Q L)):Calls Tryz.prog 20 #[.pointer (some ⟨P.s,0,none⟩)] w fun e w2=>e=.returned (.int .u64 Q.last)∧Sp w0 [] w2 (ay P c Q L):=by
 have c0:=S.cell
 unfold aA at c0
 have HS:=Lib.hid S
 clear S
 go_enter Tryz.func20,Tryz.ntmps20
 go_wp2_with fail
 go_ret
 exact ⟨rfl,HS.out⟩
theorem Qo (hl:Q.D.now.length<1000000000000) (S:Sp w0 [] w (ay P c Q L)):Calls Tryz.prog 17 #[.pointer (some ⟨P.s,0,none⟩)] w fun e w2=>∃ v,e=.returned v∧Sp w0 [] w2 (nz v (Q.D.now.names oO)::ay P c Q L):=by
 have c0:=S.cell
 unfold aA at c0
 unfold ay at S ⊢
 have HL:=Lib.hid (UM oO ((Sp.pick [_,_,_] [2,0,1] (by decide) (S))) hl)
 clear S hl
 go_enter Tryz.func17,Tryz.ntmps17
 go_wp2_with fail
 refine HL.out.mono ?_
 rintro e w2 ⟨v,rfl,S⟩
 have HS:=Lib.hid ((Sp.pick [_,_,_,_] [0,2,3,1] (by decide) (S)))
 obtain ⟨va,vc,rfl⟩:=S.tO
 clear S HL
 go_wp2_with fail
 go_ret
 exact ⟨_,rfl,HS.out⟩
theorem Hd (x:Bs) (hx:x.length≤maxLen) (S:Sp w0 [] w (ay P c Q L)):Calls Tryz.prog 16 #[.pointer (some ⟨P.s,0,none⟩),.string ⟨x.toArray⟩] w fun e w2=>e=.returned (ax Q.ring x).agg∧Sp w0 [] w2 (ay P c Q L):=by
 have S1:=S.box #[.int .u64 0,.int .u64 0] 53
 have c0:=S1.ak.cell
 unfold aA at c0
 unfold ay at S1 ⊢
 have HR:=Lib.hid (jl x ((Sp.pick [_,_,_,_,_,_,_] [6,0,1,2,3,4,5] (by decide) (S1))) hx)
 clear S S1 hx
 generalize ax Q.ring x=s at *
 obtain ⟨n,o⟩:=s
 unfold jF.agg at *
 dsimp only at *
 go_enter Tryz.func16,Tryz.ntmps16
 go_upto_region 1 with (fail)
 generalize w.alloc _=w1 at *
 generalize w.heap.size=g at *
 go_wp2_with fail
 refine HR.out.mono ?_
 rintro e w2 ⟨rfl,S⟩
 have S2:=(Sp.pick [_,_,_,_,_,_,_] [1,2,3,4,5,6,0] (by decide) (S))
 have c2:=S2.cell
 have f2:=S2.free
 have HS:=Lib.hid ((S2.set (o:=0) (.int .u64 n)).set (o:=1) (.int .u64 o))
 clear S S2 HR c0
 go_wp2
 have c3:=HS.out.cell
 exact bodyPost_ret (v:=.agg #[.int .u64 n,.int .u64 o]) (by simp [results,Tryz.results16,go_sem,c3]) rfl ⟨rfl,(Sp.pick [_,_,_,_,_,_,_] [1,2,3,4,5,6] (by decide) (HS.out))⟩
theorem Wq (hM:Q.rows.length≤1000000) (S:Sp w0 [] w (ay P c Q L)):Calls Tryz.prog 30 #[.pointer (some ⟨P.s,0,none⟩)] w fun e w2=>∃ v,e=.returned v∧Sp w0 [] w2 (jK v Q.ids::ay P c Q L):=by
 have HA:=Lib.hid (Wn P.s S)
 have HM:=Lib.hid hM
 clear S hM
 go_enter Tryz.func30,Tryz.ntmps30
 go_wp2_with fail
 refine HA.out.mono ?_
 rintro e w2 ⟨g,rfl,S⟩
 have HC:=Lib.hid (G5 (F0:=[]) (w:=w2) (w0:=w0) (L:=[]) 71 #[.pointer (some ⟨g,0,none⟩)] (enters_of Tryz.func71 (by kernel_rfl) rfl)
  (K0:=ae g #[.pointer (some ⟨P.s,0,none⟩)] 26::ay P c Q L) (Y:=fun xs=>xs <+: Q.ids) (T:=fun xs=>xs=Q.ids) (fun xs h=>Nat.le_trans h.length_le (by unfold Sq.ids;rw [List.length_map];exact HM.out))
  (fun A=>EG P.s g (aA P c.ai Q.last) rfl HM.out Q.ids rfl A _ (A []++(aF P.d Q.D::jG P.b Q.B::dP P.l P.d c.step c.most Q.led::bz P.r P.d Q.ring::(L++[]))) (by
   refine (List.perm_middle (l₁:=A [])).trans (List.Perm.cons _ ?_)
   refine (List.perm_middle (l₁:=A [])).trans (List.Perm.cons _ ?_)
   exact (List.perm_middle (l₁:=A [])))) (by rw [List.append_nil];exact S))
 clear S HA
 go_wp2_with fail
 refine HC.out.mono ?_
 rintro e w3 ⟨v,xs,rfl,hx,S⟩
 subst hx
 rw [List.append_nil] at S
 have HS:=Lib.hid ((Sp.pick [_,_] [0] (by decide) (S)))
 rcases S.jr with ⟨rfl,h0⟩ | ⟨g0,cap0,rfl⟩
 all_goals
  clear S HC
  go_wp2_with fail
  go_ret
  exact ⟨_,rfl,HS.out⟩
end
section
variable {w0 w:World} {L:List aT} {v:Value}
theorem TC {e:En} (h:e.Fit) {id:Nat} (hi:id<18446744073709551616):({ e with id:=id,ep:=1,cnt:=0 }:En).Fit:={ h with id:=hi,ep:=(show (1:Nat)<18446744073709551616 by decide),cnt:=(show (0:Nat)<18446744073709551616 by decide) }
theorem Qp (e:En) (id:Nat) (hi:id<18446744073709551616) (E:Env w) (hf:e.Fit) (T:iM w v e.gz) (S:Sp w0 [] w L) :
  Calls Tryz.prog 38 #[eH e v,.int .u64 id] w fun r w2=>r=.returned (.bool (sF e id))∧Sp w0 [] w2 L:=by
 obtain ⟨va,vc,rfl⟩:=T.form
 have HM:=Lib.hid (fun (w':World) (hx:Ext [] w w')=>xJ { e with id:=id,ep:=1,cnt:=0 } (.slice va e.gz.length vc) w' (E.ext hx) (TC hf hi) (T.ext hx))
 have HV:Hid (sF e id=dz { e with id:=id,ep:=1,cnt:=0 }):=rfl
 have HS:=Lib.hid S
 clear S E hf T hi
 obtain ⟨xi,xd,xe,xc,xf,xr,xb,xn,xt⟩:=e
 unfold eH at *
 dsimp only at *
 rw [show ((1:Nat):Int)=1 from rfl,show ((0:Nat):Int)=0 from rfl] at HM
 have S2:=(Sp.nil w []).box #[.int .u64 id,.string ⟨xd.toArray⟩,.int .u64 1,.int .u64 0,.string ⟨xf.1.toArray⟩,.string ⟨xf.2.toArray⟩,.slice va xr.length vc,.int .u64 xb,.int .u64 xn,.int .i64 xt] 40
 have HX:=Lib.hid S2.ext
 clear S2
 generalize dz ⟨id,xd,1,0,xf,xr,xb,xn,xt⟩=b at *
 go_enter Tryz.func38,Tryz.ntmps38
 go_wp2_with fail
 refine (HM.out _ HX.out).mono ?_
 rintro r w2 ⟨rfl,hx⟩
 have HZ:=Lib.hid ((HS.out.iq HX.out).iq hx)
 clear HX HS hx
 go_wp2
 go_ret
 exact ⟨by rw [HV.out];rfl,HZ.out⟩
end
end
section
open Go.RowKit Go.Maps Go.Shelf
theorem kI (Q:Sq) (c:Sc) (e:En) (body:Bs):Q.write c e body=if (Q.aZ c e body).2.2≠0 then ((Q.aZ c e body).1,(Q.aZ c e body).2.2)
  else (Q.aZ c e body).1.wrote (aS e.id (Q.entry c e).ep (Q.entry c e).cnt) (Q.aZ c e body).2.1 e.id ⟨e.dom,(Q.entry c e).ep,(Q.entry c e).cnt⟩ (if Q.rows.has e.id=true then some (aU Q.rows e.id) else none):=rfl
theorem mq (Q:Sq) (file text:Bs) (id:Nat) (r:aJ) (old:Option Bs):Q.wrote file text id r old =
  if (Q.D.write file text).2≠0 then ({ Q with D:=(Q.D.write file text).1 },(Q.D.write file text).2)
  else if (({ Q with D:=(Q.D.write file text).1 }:Sq).lay id r).2≠0 then ({ (({ Q with D:=(Q.D.write file text).1 }:Sq).lay id r).1 with D:=((({ Q with D:=(Q.D.write file text).1 }:Sq).lay id r).1.D.remove file).1 },(({ Q with D:=(Q.D.write file text).1 }:Sq).lay id r).2)
  else match old with
   | none=>((({ Q with D:=(Q.D.write file text).1 }:Sq).lay id r).1,0)
   | some o=>if o=file then ((({ Q with D:=(Q.D.write file text).1 }:Sq).lay id r).1,0) else ({ (({ Q with D:=(Q.D.write file text).1 }:Sq).lay id r).1 with D:=((({ Q with D:=(Q.D.write file text).1 }:Sq).lay id r).1.D.remove o).1 },((({ Q with D:=(Q.D.write file text).1 }:Sq).lay id r).1.D.remove o).2):=rfl
theorem CZ (id n o:Nat) (h1:id≤1099511627776) (h2:n≤1099511627776) (h3:o≤1099511627776):(aS id n o).length≤4000:=by
 have a1:=kE id (by omega)
 have a2:=kE n (by omega)
 have a3:=kE o (by omega)
 unfold aS
 simp only [List.length_append,List.length_cons,List.length_nil]
 omega
section
variable {w0 w:World} {L:List aT} {P:nS} {c:Sc} {Q:Sq} {v:Value}
theorem Bq (e:En) (body:Bs) (n:Nat) (hid:e.id≤1099511627776) (hd:e.dom.length≤255) (hf:e.Fit) (h:bg c n Q) (hn:n≤970000) (E:Env w0) (HT:∀ (w':World) (X:List aT),Sp w0 [] w' (X++L)→iM w' v e.gz) (S:Sp w0 [] w (ay P c Q L)) :
  Calls Tryz.prog 39 #[.pointer (some ⟨P.s,0,none⟩),eH e v,.string ⟨body.toArray⟩] w fun r w2=>r=.returned (.int .i64 (Q.write c e body).2)∧Sp w0 [] w2 (ay P c (Q.write c e body).1 L):=by
 have HV:Hid (Q.write c e body=_):=Lib.hid (kI Q c e body)
 have MU:=Lib.hid (fun (w':World) (q:Nat) (S':Sp w0 [] w' (ae q (bQ e v) 40::ay P c Q L))=>Nk e body n hd hf h (by omega) E HT S')
 have RZ:=Lib.hid (fun (w':World) (K':List aT) (S':Sp w0 [] w' (ay P c Q K'))=>wM e.id (by omega) h.fit E S')
 obtain ⟨hs1,hs2,hs3⟩:=h.aZ e body
 have hen:=h.entry e
 have hfl:=CZ e.id (Q.entry c e).ep (Q.entry c e).cnt hid (by omega) hen.2
 have Q4:=Lib.hid hid
 have KH:=Lib.hid hd
 have HF:=Lib.hid hf
 have HE:=Lib.hid E
 have K6:=Lib.hid hen
 have ZK:Hid (Q.entry c e={ e with ep:=(Q.entry c e).ep,cnt:=(Q.entry c e).cnt }):=rfl
 have bX:=Lib.hid hs1
 have HS2:=Lib.hid hs2
 have BV:=Lib.hid hfl
 have hlk:=fun (w':World) (K:List aT) (S':Sp w0 [] w' (aY 34 aJ.agg P.m Q.rows::K))=>S'.Aw.ou (t:=88) nJ Tryz.underlying88 (nK _) (oP e.id (by omega))
 have hr:((Q.rows.get e.id).map aJ.agg).getD (aJ.agg ⟨[],0,0⟩)=(rowAt Q.rows e.id).agg:=by unfold rowAt;cases Q.rows.get e.id <;> rfl
 rw [hr] at hlk
 have HN:=Lib.hid hn
 have Xg:Hid ((aU Q.rows e.id).length≤4000):=nL h.fit e.id (by omega)
 obtain ⟨va,vc,rfl⟩:=(HT w (ay P c Q []) (by unfold ay at S ⊢;exact S)).form
 generalize Q.aZ c e body=so at *
 generalize Q.write c e body=wo at *
 obtain ⟨en,YC⟩:∃ en,Q.entry c e=en:=⟨_,rfl⟩
 simp only [YC] at HV MU K6 ZK BV
 clear hs1 hs2 hs3 hen hfl hid hd hf E HT h hn hr YC
 generalize aU Q.rows e.id=of at *
 generalize hrw:rowAt Q.rows e.id=rr at *
 generalize Q.rows.has e.id=has at *
 clear hrw
 obtain ⟨rd,rn,ro⟩:=rr
 obtain ⟨Q1,tx,er⟩:=so
 obtain ⟨xi,xd,xe,xc,xf,xr,xb,xn,xt⟩:=e
 unfold aJ.agg bQ eH at *
 dsimp only at *
 have vW:=Lib.hid hlk
 have S0:=S.box #[.int .u64 xi,.string ⟨xd.toArray⟩,.int .u64 xe,.int .u64 xc,.string ⟨xf.1.toArray⟩,.string ⟨xf.2.toArray⟩,.slice va xr.length vc,.int .u64 xb,.int .u64 xn,.int .i64 xt] 40
 unfold ay at S0
 have HS:=Lib.hid S0
 clear S S0 hlk
 go_enter Tryz.func39,Tryz.ntmps39
 go_upto_region 2 with (fail)
 generalize w.alloc _=w1 at *
 generalize w.heap.size=q at *
 refine aM [0,1,2,3,4,5,6,7,8,9,10,11,12] (fun c=>c == 10 || c == 11) (fun c=>false) (T:=fun wx=>(∀ jA,wx.cell? ⟨q,jA,none⟩=(#[.int .u64 xi,.string ⟨xd.toArray⟩,.int .u64 xe,.int .u64 xc,.string ⟨xf.1.toArray⟩,.string ⟨xf.2.toArray⟩,.slice va xr.length vc,.int .u64 xb,.int .u64 xn,.int .i64 xt])[jA]?)∧(∀ uy,wx.cell? ⟨P.s,uy,none⟩=(#[.pointer (some ⟨P.d,0,none⟩),.pointer (some ⟨P.b,0,none⟩),.string ⟨c.ai.toArray⟩,.pointer (some ⟨P.l,0,none⟩),.pointer (some ⟨P.r,0,none⟩),.map (some P.m),.int .u64 Q.last])[uy]?)∧(Instr.lookup 88 (.map (some P.m)) (.int .u64 xi) true).run Tryz.prog wx=.ok (.tuple #[.agg #[.string ⟨rd.toArray⟩,.int .u64 rn,.int .u64 ro],.bool has]) wx) (S:=fun wx=>Sp w0 [] wx (ae q #[.int .u64 xi,.string ⟨xd.toArray⟩,.int .u64 xe,.int .u64 xc,.string ⟨xf.1.toArray⟩,.string ⟨xf.2.toArray⟩,.slice va xr.length vc,.int .u64 xb,.int .u64 xn,.int .i64 xt] 40::ae P.s (aA P c.ai Q.last) 90::aY 34 aJ.agg P.m Q.rows::aF P.d Q.D::jG P.b Q.B::dP P.l P.d c.step c.most Q.led::bz P.r P.d Q.ring::L)) (by kernel_rfl) (by kernel_rfl) (by kernel_rfl) HS.out.drew (fun x h=>⟨h.cell,h.ak.cell,vW.out x _ ((Sp.pick [_,_,_] [2,0,1] (by decide) (h)))⟩) ?_
 repeat
  refine Exists.intro _ (And.intro rfl (Or.inl (Exists.intro ?_ (And.intro (fun wS hS K hK=>?_) (And.intro ?_ ?_)))))
  rotate_left 1
  ·obtain ⟨t0,t1,t2⟩:=hS
   first
    | (refine ah rfl ?_;simp only [Act.put,List.setIfInBounds_toArray,List.set_cons_zero,List.set_cons_succ];exact hK.out)
    | (refine ag rfl ?_;go_simp;exact hK.out)
  ·rfl
 refine bC.one rfl rfl rfl (fun wS hS R hR=>?_)
 go_simp
 obtain ⟨g,hg⟩:∃ g,g=wS.heap.size:=⟨_,rfl⟩
 rw [← hg]
 replace hg:=Lib.hid hg
 refine hR.out _ _ rfl (fun wx=>(∀ jA,wx.cell? ⟨q,jA,none⟩=(#[.int .u64 xi,.string ⟨xd.toArray⟩,.int .u64 xe,.int .u64 xc,.string ⟨xf.1.toArray⟩,.string ⟨xf.2.toArray⟩,.slice va xr.length vc,.int .u64 xb,.int .u64 xn,.int .i64 xt])[jA]?)∧(∀ uy,wx.cell? ⟨P.s,uy,none⟩=(#[.pointer (some ⟨P.d,0,none⟩),.pointer (some ⟨P.b,0,none⟩),.string ⟨c.ai.toArray⟩,.pointer (some ⟨P.l,0,none⟩),.pointer (some ⟨P.r,0,none⟩),.map (some P.m),.int .u64 Q.last])[uy]?)∧(Instr.lookup 88 (.map (some P.m)) (.int .u64 xi) true).run Tryz.prog wx=.ok (.tuple #[.agg #[.string ⟨rd.toArray⟩,.int .u64 rn,.int .u64 ro],.bool has]) wx) (fun wx=>Sp w0 [] wx (ae g #[.string ⟨#[]⟩,.int .u64 0,.int .u64 0] 107::ae q #[.int .u64 xi,.string ⟨xd.toArray⟩,.int .u64 xe,.int .u64 xc,.string ⟨xf.1.toArray⟩,.string ⟨xf.2.toArray⟩,.slice va xr.length vc,.int .u64 xb,.int .u64 xn,.int .i64 xt] 40::ae P.s (aA P c.ai Q.last) 90::aY 34 aJ.agg P.m Q.rows::aF P.d Q.D::jG P.b Q.B::dP P.l P.d c.step c.most Q.led::bz P.r P.d Q.ring::L)) (by rw [hg.out];exact hS.box _ _) (fun x h=>⟨h.ak.cell,h.dJ.cell,vW.out x _ ((Sp.pick [_,_,_,_] [3,0,1,2] (by decide) (h)))⟩) (fun _ h=>h) ?_
 clear hR
 repeat
  refine Exists.intro _ (And.intro rfl (Or.inl (Exists.intro ?_ (And.intro (fun wS hS K hK=>?_) (And.intro ?_ ?_)))))
  rotate_left 1
  ·obtain ⟨t0,t1,t2⟩:=hS
   first
    | (refine ah rfl ?_;simp only [Act.put,List.setIfInBounds_toArray,List.set_cons_zero,List.set_cons_succ];exact hK.out)
    | (refine ag rfl ?_;go_simp;exact hK.out)
  ·rfl
 refine bC.one rfl rfl rfl (fun wS hS R hR=>?_)
 have c1:=hS.cell
 have f1:=hS.free
 have HP:=Lib.hid ((((hS.set (o:=0) (.string ⟨rd.toArray⟩)).set (o:=1) (.int .u64 rn)).set (o:=2) (.int .u64 ro)).drop)
 go_simp
 refine hR.out _ _ rfl (fun wx=>(∀ jA,wx.cell? ⟨q,jA,none⟩=(#[.int .u64 xi,.string ⟨xd.toArray⟩,.int .u64 xe,.int .u64 xc,.string ⟨xf.1.toArray⟩,.string ⟨xf.2.toArray⟩,.slice va xr.length vc,.int .u64 xb,.int .u64 xn,.int .i64 xt])[jA]?)∧(∀ uy,wx.cell? ⟨P.s,uy,none⟩=(#[.pointer (some ⟨P.d,0,none⟩),.pointer (some ⟨P.b,0,none⟩),.string ⟨c.ai.toArray⟩,.pointer (some ⟨P.l,0,none⟩),.pointer (some ⟨P.r,0,none⟩),.map (some P.m),.int .u64 Q.last])[uy]?)∧(Instr.lookup 88 (.map (some P.m)) (.int .u64 xi) true).run Tryz.prog wx=.ok (.tuple #[.agg #[.string ⟨rd.toArray⟩,.int .u64 rn,.int .u64 ro],.bool has]) wx) (fun wx=>Sp w0 [] wx (ae q #[.int .u64 xi,.string ⟨xd.toArray⟩,.int .u64 xe,.int .u64 xc,.string ⟨xf.1.toArray⟩,.string ⟨xf.2.toArray⟩,.slice va xr.length vc,.int .u64 xb,.int .u64 xn,.int .i64 xt] 40::ae P.s (aA P c.ai Q.last) 90::aY 34 aJ.agg P.m Q.rows::aF P.d Q.D::jG P.b Q.B::dP P.l P.d c.step c.most Q.led::bz P.r P.d Q.ring::L)) HP.out (fun x h=>⟨h.cell,h.ak.cell,vW.out x _ ((Sp.pick [_,_,_] [2,0,1] (by decide) (h)))⟩) (fun _ h=>h) ?_
 clear hR
 repeat
  refine Exists.intro _ (And.intro rfl (Or.inl (Exists.intro ?_ (And.intro (fun wS hS K hK=>?_) (And.intro ?_ ?_)))))
  rotate_left 1
  ·obtain ⟨t0,t1,t2⟩:=hS
   first
    | (refine ah rfl ?_;simp only [Act.put,List.setIfInBounds_toArray,List.set_cons_zero,List.set_cons_succ];exact hK.out)
    | (refine ag rfl ?_;go_simp;exact hK.out)
  ·rfl
 intro wE hE
 have aX:=Lib.hid hE
 clear hE
 clear vW HS
 obtain ⟨old,hold⟩:∃ o:Bs,(if has=true then of else [])=o:=⟨_,rfl⟩
 go_upto_if 26 with (fail)
 go_cut [7,8] (fun v7 v8 wx=>v7=.string ⟨old.toArray⟩∧v8=.bool has∧Sp w0 [] wx (ae q #[.int .u64 xi,.string ⟨xd.toArray⟩,.int .u64 xe,.int .u64 xc,.string ⟨xf.1.toArray⟩,.string ⟨xf.2.toArray⟩,.slice va xr.length vc,.int .u64 xb,.int .u64 xn,.int .i64 xt] 40::ae P.s (aA P c.ai Q.last) 90::aY 34 aJ.agg P.m Q.rows::aF P.d Q.D::jG P.b Q.B::dP P.l P.d c.step c.most Q.led::bz P.r P.d Q.ring::L))
 case first =>
  cases has with
  | true =>
   rw [if_pos rfl] at hold
   have c0:=aX.out.cell
   go_wp2_with fail
   have HZ:=(Sp.pick [_,_,_,_,_,_,_] [1,2,3,4,5,6,0] (by decide) (aX.out))
   refine (RZ.out _ _ HZ).mono ?_
   rintro r w2 ⟨rfl,S⟩
   unfold ay at S
   have HS:=Lib.hid ((Sp.pick [_,_,_,_,_,_,_] [6,0,1,2,3,4,5] (by decide) (S)))
   clear S aX c0 HZ
   go_wp2_with fail
   go_meet
   exact ⟨rfl,rfl,HS.out⟩
  | false =>
   rw [if_neg (by simp)] at hold
   go_wp2_with fail
   go_meet
   exact ⟨by first | rfl | rw [← hold],rfl,aX.out⟩
 case rest =>
  obtain ⟨rfl,rfl,S⟩:=hcut
  have HS:=Lib.hid S
  clear S aX RZ
  go_wp2_with fail
  refine (MU.out _ q HS.out).mono ?_
  rintro r w2 ⟨e2,he2,rfl,S⟩
  clear MU HS
  by_cases he:er=0
  rotate_left 1
  ·have hb:(er != 0)=true:=by simpa using he
   have gq:Hid (wo=(Q1,er)):=by unfold Hid;rw [HV.out,if_pos he]
   have HZ:=Lib.hid S.drop
   clear he HV S he2
   go_wp2_with fail
   go_ret
   exact ⟨by rw [gq.out];rfl,by rw [gq.out];exact HZ.out⟩
  subst he
  obtain rfl:=he2 rfl
  rw [if_neg (by simp)] at HV
  obtain ⟨ne,hne⟩:∃ x,e2.ep=x:=⟨_,rfl⟩
  obtain ⟨nc,hnc⟩:∃ x,e2.cnt=x:=⟨_,rfl⟩
  rw [hne,hnc] at ZK K6 HV BV
  have hex:=ZK.out
  clear he2 ZK hne hnc
  subst hex
  dsimp only at *
  have c0:=S.cell
  have HS:=Lib.hid S
  have NY:=Lib.hid (Ed (v:=.slice va xr.length vc) ⟨xi,xd,ne,nc,xf,xr,xb,xn,xt⟩ HE.out { HF.out with ep:=by have:=K6.out;dsimp only;omega,cnt:=by have:=K6.out;dsimp only;omega } S)
  unfold eH at NY
  rw [show zV ⟨xi,xd,ne,nc,xf,xr,xb,xn,xt⟩=aS xi ne nc from rfl] at NY
  dsimp only at NY c0
  have Xc:Hid (⟨xd,ne,nc⟩:aJ).fit:=⟨KH.out,by have:=K6.out;dsimp only;omega,K6.out.2⟩
  generalize aS xi ne nc=file at *
  rw [mq] at HV
  have h0:=bX.out
  have hrm:=h0.room.write file tx
  have htl:=HS2.out
  have V4:=Lib.hid (fun (w':World) (K':List aT) (S':Sp w0 [] w' (aF P.d Q1.D::K'))=>DT file tx S' (h0.room.small (by have:=HN.out;omega)) (by have:=BV.out;omega) (by omega))
  have Yn:Hid (bg c (n+22000) { Q1 with D:=(Q1.D.write file tx).1 }):=h0.disk (hrm.mono (by omega)) (by omega)
  clear S h0 hrm htl K6 HF bX
  generalize Q1.D.write file tx=A at *
  obtain ⟨D2,ea⟩:=A
  dsimp only at *
  go_wp2_with fail
  refine NY.out.mono ?_
  rintro r w3 ⟨rfl,S⟩
  have cs:=S.ak.cell
  unfold aA at cs
  unfold ay at S
  have HS:=Lib.hid S
  clear S NY c0
  go_wp2_with fail
  refine (V4.out _ _ HS.out.nV).mono ?_
  rintro r w4 ⟨rfl,S⟩
  have HS:=Lib.hid ((Sp.pick [_,_,_,_] [1,2,3,0] (by decide) (S)))
  clear S V4 cs
  by_cases he:ea=0
  rotate_left 1
  ·have hb:(ea != 0)=true:=by simpa using he
   have gq:Hid (wo=({ Q1 with D:=D2 },ea)):=by unfold Hid;rw [HV.out,if_pos he]
   clear he HV
   go_wp2_with fail
   go_ret
   exact ⟨by rw [gq.out];rfl,by rw [gq.out];exact HS.out.drop⟩
  subst he
  rw [if_neg (by simp)] at HV
  have h1:=Yn.out
  have h2:=h1.lay Q4.out Xc.out
  have Xk:=Lib.hid (fun (w':World) (K':List aT) (S':Sp w0 [] w' (ay P c { Q1 with D:=D2 } K'))=>PX xi ⟨xd,ne,nc⟩ (n+22000) (by have:=Q4.out;omega) Xc.out (h1.small (by have:=HN.out;omega)) h1.room (by have:=HN.out;omega) S')
  generalize ({ Q1 with D:=D2 }:Sq).lay xi ⟨xd,ne,nc⟩=Y at *
  obtain ⟨Q3,eb⟩:=Y
  dsimp only at *
  have Qn:=Lib.hid (fun (w':World) (K':List aT) (nm:Bs) (hnm:nm.length≤4000) (S':Sp w0 [] w' (aF P.d Q3.D::K'))=>Kv nm S' (h2.room.small (by have:=HN.out;omega)) (by omega))
  have cq:=HS.out.cell
  have HZ:Hid (Sp w0 [] w4 (ay P c { Q1 with D:=D2 } (ae q #[.int .u64 xi,.string ⟨xd.toArray⟩,.int .u64 ne,.int .u64 nc,.string ⟨xf.1.toArray⟩,.string ⟨xf.2.toArray⟩,.slice va xr.length vc,.int .u64 xb,.int .u64 xn,.int .i64 xt] 40::L))):=by
   unfold ay
   exact (Sp.pick [_,_,_,_,_,_,_] [1,2,3,4,5,6,0] (by decide) (HS.out))
  unfold aJ.agg at Xk
  clear h1 h2 HS Yn Q4 Xc
  go_wp2_with fail
  refine (Xk.out _ _ HZ.out).mono ?_
  rintro r w5 ⟨rfl,S⟩
  have cs:=S.cell
  unfold aA at cs
  unfold ay at S
  have HS:=Lib.hid ((Sp.pick [_,_,_,_,_,_,_] [0,1,2,3,4,5] (by decide) (S)))
  clear S HZ Xk cq
  by_cases he:eb=0
  rotate_left 1
  ·have hb:(eb != 0)=true:=by simpa using he
   have gq:Hid (wo=({ Q3 with D:=(Q3.D.remove file).1 },eb)):=by unfold Hid;rw [HV.out,if_pos he]
   clear he HV
   go_wp2_with fail
   refine (Qn.out _ _ file BV.out HS.out.dJ).mono ?_
   rintro r w6 ⟨rfl,S⟩
   have HS:=Lib.hid ((Sp.pick [_,_,_] [1,2,0] (by decide) (S)))
   clear S Qn cs
   go_wp2_with fail
   go_ret
   exact ⟨by rw [gq.out];rfl,by rw [gq.out];exact HS.out⟩
  subst he
  rw [if_neg (by simp)] at HV
  cases has with
  | false =>
   have gq:Hid (wo=(Q3,0)):=by unfold Hid;rw [HV.out];rfl
   clear HV hold
   go_wp2_with fail
   go_ret
   exact ⟨by rw [gq.out];rfl,by rw [gq.out];exact HS.out⟩
  | true =>
   rw [if_pos rfl] at hold
   subst hold
   rw [if_pos rfl] at HV
   by_cases ho:of=file
   ·have gq:Hid (wo=(Q3,0)):=by unfold Hid;rw [HV.out];dsimp only;rw [if_pos ho]
    have hb:(of == file)=true:=by simpa using ho
    clear HV ho
    go_wp2_with fail
    go_ret
    exact ⟨by rw [gq.out];rfl,by rw [gq.out];exact HS.out⟩
   ·have gq:Hid (wo=({ Q3 with D:=(Q3.D.remove of).1 },(Q3.D.remove of).2)):=by unfold Hid;rw [HV.out];dsimp only;rw [if_neg ho]
    have hb:(of == file)=false:=by simpa using ho
    clear HV ho
    go_wp2_with fail
    refine (Qn.out _ _ of Xg.out HS.out.dJ).mono ?_
    rintro r w6 ⟨rfl,S⟩
    have HS:=Lib.hid ((Sp.pick [_,_,_] [1,2,0] (by decide) (S)))
    clear S Qn cs
    go_wp2_with fail
    go_ret
    exact ⟨by rw [gq.out];rfl,by rw [gq.out];exact HS.out⟩
end
end
end Go.Proofs.YtangbdahnmomlaaGreatDoor
