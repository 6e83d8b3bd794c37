/- entry.Seal and entry.Open over a box that is real or ideal; spool.open. Conditions: the lengths fit. -/
import Derived.Test.YtangbdahnmomlaaGreatDoorBu20
import Derived.Test.YtangbdahnmomlaaGreatDoorBu29
set_option linter.unnecessarySimpa false
set_option linter.unusedSimpArgs false
set_option linter.unusedVariables false
set_option maxHeartbeats 4000000
set_option maxRecDepth 100000
namespace Go.Proofs.YtangbdahnmomlaaGreatDoor
section
open Go.RowKit Go.Maps
theorem Nb (key n d t:Bs):(iQ key n d t).1.length≤1000000:=by
 unfold iQ
 split
 ·dsimp only
  rw [lZ.lV]
  omega
 ·simp
theorem Nc (key n d s:Bs):(jW key n d s).1.length≤1000000:=by
 unfold jW
 split
 ·unfold dD.open
  split
  ·rename_i h
   split at h
   ·cases h
    dsimp only
    rw [lU _ _ (by rw [lZ.lH,List.length_take];omega),List.length_take]
    omega
   ·cases h
  ·simp
 ·simp
def Bx.ok:Bx→Prop
 | .real=>True
 | .eT D T=>Pw T∧D.length≤1000000
section
variable {w0 w:World} {L:List aT} {v:Value} {b:Nat}
theorem Tu (B:Bx) (e:En) (key body:Bs) (E:Env w0) (hf:e.Fit) (hk:key.length=32) (hB:B.ok) (T:iM w v e.gz) (S:Sp w0 [] w (jG b B::L)) :
  Calls Tryz.prog 107 #[.pointer (some ⟨b,0,none⟩),.string ⟨key.toArray⟩,eH e v,.string ⟨body.toArray⟩] w fun r w2=>r=.returned (.tuple #[.string ⟨(dh B key e body).1.1.toArray⟩,.int .i64 (dh B key e body).1.2])∧Sp w0 [] w2 (jG b (dh B key e body).2::L):=by
 cases B with
 | real =>
  refine (KR (B2:=yQ b) e key body (iQ key (bR e.cnt) (dC e) (fQ body)) E hf T S (Nb _ _ _ _) (fun _ _ w' L' S'=>Ti key (bR e.cnt) (dC e) (fQ body) hk (lC _) S')).mono ?_
  rintro r w2 ⟨rfl,S2⟩
  rw [show (dh .real key e body).1=iO e body (iQ key (bR e.cnt) (dC e) (fQ body)) from rfl]
  refine ⟨rfl,?_⟩
  have h2:(dh .real key e body).2=.real:=by unfold dh Bx.zi;dsimp only;split <;> rfl
  rw [h2]
  show Sp w0 [] w2 (yQ b::L)
  split at S2 <;> exact S2
 | eT D M =>
  have hM:=hB.1
  have hD:=hB.2
  refine (KR (B2:=rY b (eD uB M D key (bR e.cnt) (dC e) (fQ body)).2.1 (eD uB M D key (bR e.cnt) (dC e) (fQ body)).2.2) e key body (eD uB M D key (bR e.cnt) (dC e) (fQ body)).1 E hf T S (Jq hM hD) (fun h1 h2 w' L' S'=>Sb key (bR e.cnt) (dC e) (fQ body) (by omega) (by rw [lC];omega) (by rw [pJ h2];have:=sW (aN body).length;omega) (by have:=hM.1;omega) S')).mono ?_
  rintro r w2 ⟨rfl,S2⟩
  rw [show (dh (.eT D M) key e body).1=iO e body (eD uB M D key (bR e.cnt) (dC e) (fQ body)).1 from rfl]
  refine ⟨rfl,?_⟩
  by_cases h:dz e=true∧body.length≤16000
  ·have h2:(dh (.eT D M) key e body).2=.eT (eD uB M D key (bR e.cnt) (dC e) (fQ body)).2.1 (eD uB M D key (bR e.cnt) (dC e) (fQ body)).2.2:=by unfold dh Bx.zi;dsimp only;rw [if_pos h]
   rw [h2]
   rw [if_pos h] at S2
   exact S2
  ·have h2:(dh (.eT D M) key e body).2=.eT D M:=by unfold dh Bx.zi;dsimp only;rw [if_neg h]
   rw [h2]
   rw [if_neg h] at S2
   exact S2
theorem Nf (B:Bx) (key s:Bs) (hs:s.length≤1000000) (hk:key.length=32) (hB:B.ok) (E:Env w0) (S:Sp w0 [] w (jG b B::L)) :
  Calls Tryz.prog 76 #[.pointer (some ⟨b,0,none⟩),.string ⟨key.toArray⟩,.string ⟨s.toArray⟩] w fun r w2=>∃ v,r=.returned (.tuple #[eH (dQ B key s).1 v,.string ⟨(dQ B key s).2.1.toArray⟩,.int .i64 (dQ B key s).2.2])∧Sp w0 [] w2 (dH v (dQ B key s).1.gz::jG b B::L):=by
 cases B with
 | real=>exact KT (jW key) key s hs E S (fun n d t w' L' hn hd ht S'=>Tj key n d t hk hn ht S') (fun n d t=>Nc key n d t)
 | eT D M=>exact KT (jC uB M key) key s hs E S (fun n d t w' L' h1 h2 h3 S'=>Sa key n d t (by omega) (by omega) h3 S') (fun n d t=>Jr hB.1)
end
section
variable {w0 w:World} {L:List aT} {P:nS} {c:Sc} {Q:Sq}
theorem K4 (id:Nat) (k:Nat) (hi:id<18446744073709551616) (hm:c.ai.length=32) (hR:RowsFit Q.rows) (hD:Q.D.Roomy k) (hk:k≤1000000) (hB:Q.B.ok) (E:Env w0) (S:Sp w0 [] w (ay P c Q L)) :
  Calls Tryz.prog 44 #[.pointer (some ⟨P.s,0,none⟩),.int .u64 id] w fun e w2=>∃ v,e=.returned (.tuple #[eH (Q.open c.ai id).1 v,.string ⟨(Q.open c.ai id).2.1.toArray⟩,.bool (Q.open c.ai id).2.2])∧Sp w0 [] w2 (dH v (Q.open c.ai id).1.gz::ay P c Q L):=by
 have hrf:=o6 hR id
 have hdl:=hrf.1
 have hfl:=nL hR id hi
 have hlen:=hD.file (aU Q.rows id)
 have hlk:=fun (w':World) (K:List aT) (S':Sp w0 [] w' (ay P c Q K))=>S'.ak.Aw.look (t:=88) nJ Tryz.underlying88 (nK _) (oP id hi)
 have hr:((Q.rows.get id).map aJ.agg).getD (aJ.agg ⟨[],0,0⟩)=(rowAt Q.rows id).agg:=by unfold rowAt;cases Q.rows.get id <;> rfl
 rw [hr] at hlk
 have HF:=Lib.hid (fun (w':World) (K:List aT) (S':Sp w0 [] w' (ay P c Q K))=>wM id hi hR E S')
 have Uy:=Lib.hid (fun (w':World) (K:List aT) (S':Sp w0 [] w' (aF P.d Q.D::K))=>Ku (aU Q.rows id) S' (by unfold maxLen;omega))
 have HK:=Lib.hid (fun (w':World) (K:List aT) (S':Sp w0 [] w' K)=>KY c.ai (rowAt Q.rows id).dom (rowAt Q.rows id).ep hm hdl S')
 have VN:=Lib.hid (rW c.ai (rowAt Q.rows id).dom (rowAt Q.rows id).ep)
 have HLV:=Lib.hid (fun (w':World) (K:List aT) (S':Sp w0 [] w' (bz P.r P.d Q.ring::K))=>M0 (rowAt Q.rows id).dom (rowAt Q.rows id).ep S' (by unfold maxLen;omega) (by have:=hrf.2.1;omega))
 have HV:Hid (Q.open c.ai id=if Q.D.now.has (aU Q.rows id)=true then
  (if wH Q.ring id (rowAt Q.rows id) (dQ Q.B (nR c.ai (rowAt Q.rows id).dom (rowAt Q.rows id).ep) ((Q.D.now.get (aU Q.rows id)).getD []))=true then
    ((dQ Q.B (nR c.ai (rowAt Q.rows id).dom (rowAt Q.rows id).ep) ((Q.D.now.get (aU Q.rows id)).getD [])).1,(dQ Q.B (nR c.ai (rowAt Q.rows id).dom (rowAt Q.rows id).ep) ((Q.D.now.get (aU Q.rows id)).getD [])).2.1,true)
   else (En.zero,[],false)) else (En.zero,[],false)):=by
  unfold Hid Sq.open
  by_cases h:Q.D.now.has (aU Q.rows id)=true
  ·rw [if_pos h,if_pos h,if_pos hdl]
  ·rw [if_neg h,if_neg h]
 unfold wH at HV
 unfold iJ at HV
 have HB:=Lib.hid hB
 have HE:=Lib.hid E
 have Jb:Hid (((Q.D.now.get (aU Q.rows id)).getD []).length≤1000000):=by unfold Hid;omega
 generalize (decide (0<(rowAt Q.rows id).ep) && (decide ((rowAt Q.rows id).ep=(ax Q.ring (rowAt Q.rows id).dom).now) || decide ((rowAt Q.rows id).ep=(ax Q.ring (rowAt Q.rows id).dom).old)))=lv at *
 generalize Q.open c.ai id=qo at *
 generalize nR c.ai (rowAt Q.rows id).dom (rowAt Q.rows id).ep=key at *
 generalize (Q.D.now.get (aU Q.rows id)).getD []=txt at *
 generalize aU Q.rows id=fl at *
 generalize rowAt Q.rows id=rr at *
 obtain ⟨d,n,ct⟩:=rr
 unfold aJ.agg at hlk
 dsimp only at *
 have vW:=Lib.hid hlk
 have bV:=Lib.hid (S.box #[.int .u64 0,.string ⟨#[]⟩,.int .u64 0,.int .u64 0,.string ⟨#[]⟩,.string ⟨#[]⟩,.slice none 0 0,.int .u64 0,.int .u64 0,.int .i64 0] 40)
 clear S hrf hdl hfl hlen hr hD hR hB hi hlk
 go_enter Tryz.func44,Tryz.ntmps44
 go_upto_region 1 with (fail)
 generalize w.alloc _=wA at *
 generalize w.heap.size=g4 at *
 have Vn:Hid (Sp w0 [] wA (ay P c Q (ae g4 #[.int .u64 0,.string ⟨#[]⟩,.int .u64 0,.int .u64 0,.string ⟨#[]⟩,.string ⟨#[]⟩,.slice none 0 0,.int .u64 0,.int .u64 0,.int .i64 0] 40::L))):=by
  have h:=bV.out
  unfold ay at h ⊢
  exact (Sp.pick [_,_,_,_,_,_,_] [1,2,3,4,5,6,0] (by decide) (h))
 have hlk:=vW.out _ _ Vn.out
 have c0:=Vn.out.cell
 unfold aA at c0
 have bX:=Lib.hid (Vn.out.box #[.string ⟨d.toArray⟩,.int .u64 n,.int .u64 ct] 107)
 clear bV Vn vW
 go_upto_region 2 with (fail)
 clear hlk c0
 generalize wA.alloc _=w1 at *
 generalize wA.heap.size=g7 at *
 have HS2:Hid (Sp w0 [] w1 (ay P c Q (ae g7 #[.string ⟨d.toArray⟩,.int .u64 n,.int .u64 ct] 107::ae g4 #[.int .u64 0,.string ⟨#[]⟩,.int .u64 0,.int .u64 0,.string ⟨#[]⟩,.string ⟨#[]⟩,.slice none 0 0,.int .u64 0,.int .u64 0,.int .i64 0] 40::L))):=by
  have h:=bX.out
  unfold ay at h ⊢
  exact (Sp.pick [_,_,_,_,_,_,_] [1,2,3,4,5,6,0] (by decide) (h))
 clear bX
 refine aM [0,1,2,3,4,5,6,7,8,9,10,11,12] (fun c=>c == 6 || c == 7) (fun c=>false) (T:=fun wx=>wx.cell? ⟨P.s,0,none⟩=some (.pointer (some ⟨P.d,0,none⟩))) (S:=fun wx=>Sp w0 [] wx (ay P c Q (ae g7 #[.string ⟨d.toArray⟩,.int .u64 n,.int .u64 ct] 107::ae g4 #[.int .u64 0,.string ⟨#[]⟩,.int .u64 0,.int .u64 0,.string ⟨#[]⟩,.string ⟨#[]⟩,.slice none 0 0,.int .u64 0,.int .u64 0,.int .i64 0] 40::L))) (by kernel_rfl) (by kernel_rfl) (by kernel_rfl) HS2.out.drew (fun x h=>h.cell 0) ?_
 repeat
  refine Exists.intro _ (And.intro rfl (Or.inl (Exists.intro ?_ (And.intro (fun wS hS K hK=>?_) (And.intro ?_ ?_)))))
  rotate_left 1
  ·have t0:=hS
   first
    | (refine ah rfl ?_;simp only [Act.put,List.setIfInBounds_toArray,List.set_cons_zero,List.set_cons_succ];exact hK.out)
    | (refine ag rfl ?_;go_simp;exact hK.out)
  ·rfl
 refine bC.one rfl rfl rfl (fun wS hS R hR=>?_)
 go_simp
 go_at_call 48
 refine (HF.out _ _ hS).mono ?_
 rintro e w7 ⟨rfl,S7⟩
 refine hR.out _ _ rfl (fun wx=>wx.cell? ⟨P.s,0,none⟩=some (.pointer (some ⟨P.d,0,none⟩))) (fun wx=>Sp w0 [] wx (ay P c Q (ae g7 #[.string ⟨d.toArray⟩,.int .u64 n,.int .u64 ct] 107::ae g4 #[.int .u64 0,.string ⟨#[]⟩,.int .u64 0,.int .u64 0,.string ⟨#[]⟩,.string ⟨#[]⟩,.slice none 0 0,.int .u64 0,.int .u64 0,.int .i64 0] 40::L))) S7 (fun x h=>h.cell 0) (fun _ h=>h) ?_
 clear hR hS S7
 repeat
  refine Exists.intro _ (And.intro rfl (Or.inl (Exists.intro ?_ (And.intro (fun wS hS K hK=>?_) (And.intro ?_ ?_)))))
  rotate_left 1
  ·have t0:=hS
   first
    | (refine ah rfl ?_;simp only [Act.put,List.setIfInBounds_toArray,List.set_cons_zero,List.set_cons_succ];exact hK.out)
    | (refine ag rfl ?_;go_simp;exact hK.out)
  ·rfl
 refine bC.one rfl rfl rfl (fun wS hS R hR=>?_)
 go_simp
 go_at_call 59
 refine (Uy.out _ _ hS.dJ).mono ?_
 rintro e w7 ⟨rfl,rfl⟩
 refine hR.out _ _ rfl (fun wx=>wx.cell? ⟨P.s,0,none⟩=some (.pointer (some ⟨P.d,0,none⟩))) (fun wx=>Sp w0 [] wx (ay P c Q (ae g7 #[.string ⟨d.toArray⟩,.int .u64 n,.int .u64 ct] 107::ae g4 #[.int .u64 0,.string ⟨#[]⟩,.int .u64 0,.int .u64 0,.string ⟨#[]⟩,.string ⟨#[]⟩,.slice none 0 0,.int .u64 0,.int .u64 0,.int .i64 0] 40::L))) hS (fun x h=>h.cell 0) (fun _ h=>h) ?_
 clear hR hS
 repeat
  refine Exists.intro _ (And.intro rfl (Or.inl (Exists.intro ?_ (And.intro (fun wS hS K hK=>?_) (And.intro ?_ ?_)))))
  rotate_left 1
  ·have t0:=hS
   first
    | (refine ah rfl ?_;simp only [Act.put,List.setIfInBounds_toArray,List.set_cons_zero,List.set_cons_succ];exact hK.out)
    | (refine ag rfl ?_;go_simp;exact hK.out)
  ·rfl
 intro wE hE
 have aX:=Lib.hid hE
 clear hE
 clear HS2 Uy HF
 unfold ay at aX
 by_cases hh:Q.D.now.has fl=true
 ·rw [if_pos hh] at HV
  rw [show (if Q.D.now.has fl=true then (0:Int) else 10)=0 from if_pos hh]
  clear hh
  go_upto_region 5 with (fail)
  refine aM [0,1,2,3,4,5,6,7,8,9,10,11,12,13] (fun c=>c == 8) (fun c=>false) (T:=fun wx=>wx.cell? ⟨P.s,2,none⟩=some (.string ⟨c.ai.toArray⟩)∧(∀ jA,wx.cell? ⟨g7,jA,none⟩=(#[.string ⟨d.toArray⟩,.int .u64 n,.int .u64 ct])[jA]?)) (S:=fun wx=>Sp w0 [] wx (ae P.s (aA P c.ai Q.last) 90::aY 34 aJ.agg P.m Q.rows::aF P.d Q.D::jG P.b Q.B::dP P.l P.d c.step c.most Q.led::bz P.r P.d Q.ring::ae g7 #[.string ⟨d.toArray⟩,.int .u64 n,.int .u64 ct] 107::ae g4 #[.int .u64 0,.string ⟨#[]⟩,.int .u64 0,.int .u64 0,.string ⟨#[]⟩,.string ⟨#[]⟩,.slice none 0 0,.int .u64 0,.int .u64 0,.int .i64 0] 40::L)) (by kernel_rfl) (by kernel_rfl) (by kernel_rfl) aX.out.drew (fun x h=>⟨h.cell 2,((Sp.pick [_,_,_,_,_,_,_] [6] (by decide) (h))).cell⟩) ?_
  repeat
   refine Exists.intro _ (And.intro rfl (Or.inl (Exists.intro ?_ (And.intro (fun wS hS K hK=>?_) (And.intro ?_ ?_)))))
   rotate_left 1
   ·obtain ⟨t0,t1⟩:=hS
    first
     | (refine ah rfl ?_;simp only [Act.put,List.setIfInBounds_toArray,List.set_cons_zero,List.set_cons_succ];exact hK.out)
     | (refine ag rfl ?_;go_simp;exact hK.out)
   ·rfl
  refine bC.one rfl rfl rfl (fun wS hS R hR=>?_)
  go_simp
  go_at_call 75
  refine (HK.out _ _ hS).mono ?_
  rintro e w7 ⟨rfl,S7⟩
  refine hR.out _ _ rfl (fun wx=>wx.cell? ⟨P.s,2,none⟩=some (.string ⟨c.ai.toArray⟩)∧(∀ jA,wx.cell? ⟨g7,jA,none⟩=(#[.string ⟨d.toArray⟩,.int .u64 n,.int .u64 ct])[jA]?)) (fun wx=>Sp w0 [] wx (ae P.s (aA P c.ai Q.last) 90::aY 34 aJ.agg P.m Q.rows::aF P.d Q.D::jG P.b Q.B::dP P.l P.d c.step c.most Q.led::bz P.r P.d Q.ring::ae g7 #[.string ⟨d.toArray⟩,.int .u64 n,.int .u64 ct] 107::ae g4 #[.int .u64 0,.string ⟨#[]⟩,.int .u64 0,.int .u64 0,.string ⟨#[]⟩,.string ⟨#[]⟩,.slice none 0 0,.int .u64 0,.int .u64 0,.int .i64 0] 40::L)) S7 (fun x h=>⟨h.cell 2,((Sp.pick [_,_,_,_,_,_,_] [6] (by decide) (h))).cell⟩) (fun _ h=>h) ?_
  clear hR hS S7
  repeat
   refine Exists.intro _ (And.intro rfl (Or.inl (Exists.intro ?_ (And.intro (fun wS hS K hK=>?_) (And.intro ?_ ?_)))))
   rotate_left 1
   ·obtain ⟨t0,t1⟩:=hS
    first
     | (refine ah rfl ?_;simp only [Act.put,List.setIfInBounds_toArray,List.set_cons_zero,List.set_cons_succ];exact hK.out)
     | (refine ag rfl ?_;go_simp;exact hK.out)
   ·rfl
  intro wE hE
  have aX:=Lib.hid hE
  clear hE
  have c1:=aX.out.cell
  unfold aA at c1
  clear HK
  go_wp2_with fail
  have HZ:=(Sp.pick [_,_,_,_,_,_,_,_] [3,0,1,2,4,5,6,7] (by decide) (aX.out))
  refine (Nf Q.B key txt Jb.out VN.out HB.out HE.out HZ).mono ?_
  rintro r w2 ⟨v,rfl,S⟩
  clear HZ c1
  generalize dQ Q.B key txt=q at *
  obtain ⟨⟨xi,xd,xe,xc,xf,xr,xb,xn,xt⟩,body,f⟩:=q
  dsimp only at *
  obtain ⟨va,vc,rfl⟩:=S.kM.form
  unfold eH
  dsimp only
  have S5:=S.box (bQ ⟨xi,xd,xe,xc,xf,xr,xb,xn,xt⟩ (.slice va xr.length vc)) 40
  unfold bQ at S5
  dsimp only at S5
  have gB:=Lib.hid S5
  clear S S5 aX
  go_upto_region 9 with (fail)
  generalize w2.alloc _=w3 at *
  generalize w2.heap.size=g11 at *
  have fG:Hid (Sp w0 [] w3 (ae g11 #[.int .u64 xi,.string ⟨xd.toArray⟩,.int .u64 xe,.int .u64 xc,.string ⟨xf.1.toArray⟩,.string ⟨xf.2.toArray⟩,.slice va xr.length vc,.int .u64 xb,.int .u64 xn,.int .i64 xt] 40::ae g7 #[.string ⟨d.toArray⟩,.int .u64 n,.int .u64 ct] 107::ae P.s (aA P c.ai Q.last) 90::bz P.r P.d Q.ring::dH (.slice va xr.length vc) xr::jG P.b Q.B::aY 34 aJ.agg P.m Q.rows::aF P.d Q.D::dP P.l P.d c.step c.most Q.led::ae g4 #[.int .u64 0,.string ⟨#[]⟩,.int .u64 0,.int .u64 0,.string ⟨#[]⟩,.string ⟨#[]⟩,.slice none 0 0,.int .u64 0,.int .u64 0,.int .i64 0] 40::L)):=(Sp.pick [_,_,_,_,_,_,_,_,_,_] [0,8,3,7,1,2,4,5,6,9] (by decide) (gB.out))
  clear gB
  have HL2:Hid (∀ (w':World) (A B C:aT) (K:List aT),Sp w0 [] w' (A::B::C::bz P.r P.d Q.ring::K)→Calls Tryz.prog 77 #[.pointer (some ⟨P.r,0,none⟩),.string ⟨d.toArray⟩,.int .u64 n] w' fun e w2=>e=.returned (.bool lv)∧Sp w0 [] w2 (A::B::C::bz P.r P.d Q.ring::K)):=fun w' A B C K S'=>(HLV.out _ _ S'.nV).mono fun e w2 ⟨h1,h2⟩=>⟨h1,(Sp.pick [_,_,_,_] [1,2,3,0] (by decide) (h2))⟩
  clear HLV
  by_cases h0:f=0
  rotate_left 1
  ·have HW:Hid (qo=(En.zero,[],false)):=HV.out.trans (if_neg (by simp [h0]))
   have hb:(f == 0)=false:=by simp;omega
   clear HV h0
   refine au (S:=fun wx=>Sp w0 [] wx (ae g11 #[.int .u64 xi,.string ⟨xd.toArray⟩,.int .u64 xe,.int .u64 xc,.string ⟨xf.1.toArray⟩,.string ⟨xf.2.toArray⟩,.slice va xr.length vc,.int .u64 xb,.int .u64 xn,.int .i64 xt] 40::ae g7 #[.string ⟨d.toArray⟩,.int .u64 n,.int .u64 ct] 107::ae P.s (aA P c.ai Q.last) 90::bz P.r P.d Q.ring::dH (.slice va xr.length vc) xr::jG P.b Q.B::aY 34 aJ.agg P.m Q.rows::aF P.d Q.D::dP P.l P.d c.step c.most Q.led::ae g4 #[.int .u64 0,.string ⟨#[]⟩,.int .u64 0,.int .u64 0,.string ⟨#[]⟩,.string ⟨#[]⟩,.slice none 0 0,.int .u64 0,.int .u64 0,.int .i64 0] 40::L)∧(∀ o,wx.cell? ⟨g11,o,none⟩=(#[.int .u64 xi,.string ⟨xd.toArray⟩,.int .u64 xe,.int .u64 xc,.string ⟨xf.1.toArray⟩,.string ⟨xf.2.toArray⟩,.slice va xr.length vc,.int .u64 xb,.int .u64 xn,.int .i64 xt])[o]?)∧(∀ o,wx.cell? ⟨g7,o,none⟩=(#[.string ⟨d.toArray⟩,.int .u64 n,.int .u64 ct])[o]?)∧(∀ o,wx.cell? ⟨P.s,o,none⟩=(#[.pointer (some ⟨P.d,0,none⟩),.pointer (some ⟨P.b,0,none⟩),.string ⟨c.ai.toArray⟩,.pointer (some ⟨P.l,0,none⟩),.pointer (some ⟨P.r,0,none⟩),.map (some P.m),.int .u64 Q.last])[o]?)) (by kernel_rfl) (by kernel_rfl) ⟨(fG.out).drew,(Sp.pick [_,_,_,_,_,_,_,_,_,_] [0] (by decide) ((fG.out).drew)).cell,(Sp.pick [_,_,_,_,_,_,_,_,_,_] [1] (by decide) ((fG.out).drew)).cell,(Sp.pick [_,_,_,_,_,_,_,_,_,_] [2] (by decide) ((fG.out).drew)).cell⟩ ?_
   repeat
    refine Exists.intro ?_ (And.intro (fun wS hS K hK=>?_) (And.intro ?_ ?_))
    rotate_left 1
    ·obtain ⟨hS1,hS2,eG,Bc⟩:=hS
     first
      | (refine ah rfl ?_;simp only [Act.put,List.setIfInBounds_toArray,List.set_cons_zero,List.set_cons_succ];exact hK.out _ ⟨hS1,hS2,eG,Bc⟩)
      | (refine ag rfl ?_;go_simp;exact hK.out _ ⟨hS1,hS2,eG,Bc⟩)
      | (refine ag rfl ?_;go_simp;go_at_call 77;refine (HL2.out _ _ _ _ _ hS1).mono ?_;rintro e mZ ⟨rfl,bS⟩;exact hK.out _ ⟨bS,(Sp.pick [_,_,_,_,_,_,_,_,_,_] [0] (by decide) (bS)).cell,(Sp.pick [_,_,_,_,_,_,_,_,_,_] [1] (by decide) (bS)).cell,(Sp.pick [_,_,_,_,_,_,_,_,_,_] [2] (by decide) (bS)).cell⟩)
    ·rfl
   intro wE hE
   have aX:=Lib.hid hE.1
   clear hE
   clear fG HL2
   have S6:=(Sp.pick [_,_,_,_,_,_,_,_,_,_] [9,2,6,7,5,8,3] (by decide) (aX.out))
   have d0:=S6.cell
   have f0:=S6.free
   have rZ:=Lib.hid (((((((((((S6.set (o:=0) (.int .u64 0)).set (o:=1) (.string ⟨#[]⟩)).set (o:=2) (.int .u64 0)).set (o:=3) (.int .u64 0)).set (o:=4) (.string ⟨#[]⟩)).set (o:=5) (.string ⟨#[]⟩)).set (o:=6) (.slice none 0 0)).set (o:=7) (.int .u64 0)).set (o:=8) (.int .u64 0)).set (o:=9) (.int .i64 0)).drop.iX)
   clear S6 aX
   go_wp2
   rw [HW.out]
   exact bodyPost_ret (v:=.tuple #[.agg #[.int .u64 0,.string ⟨#[]⟩,.int .u64 0,.int .u64 0,.string ⟨#[]⟩,.string ⟨#[]⟩,.slice none 0 0,.int .u64 0,.int .u64 0,.int .i64 0],.string ⟨#[]⟩,.bool false]) (by simp [results,Tryz.results44,go_sem,d0]) rfl ⟨.slice none 0 0,rfl,rZ.out⟩
  have h0x:=h0.symm
  clear h0
  subst h0x
  by_cases h1:xi=id
  rotate_left 1
  ·have HW:Hid (qo=(En.zero,[],false)):=HV.out.trans (if_neg (by simp [h1]))
   have hb:((xi:Int) == (id:Int))=false:=by simp;omega
   clear HV h1
   refine au (S:=fun wx=>Sp w0 [] wx (ae g11 #[.int .u64 xi,.string ⟨xd.toArray⟩,.int .u64 xe,.int .u64 xc,.string ⟨xf.1.toArray⟩,.string ⟨xf.2.toArray⟩,.slice va xr.length vc,.int .u64 xb,.int .u64 xn,.int .i64 xt] 40::ae g7 #[.string ⟨d.toArray⟩,.int .u64 n,.int .u64 ct] 107::ae P.s (aA P c.ai Q.last) 90::bz P.r P.d Q.ring::dH (.slice va xr.length vc) xr::jG P.b Q.B::aY 34 aJ.agg P.m Q.rows::aF P.d Q.D::dP P.l P.d c.step c.most Q.led::ae g4 #[.int .u64 0,.string ⟨#[]⟩,.int .u64 0,.int .u64 0,.string ⟨#[]⟩,.string ⟨#[]⟩,.slice none 0 0,.int .u64 0,.int .u64 0,.int .i64 0] 40::L)∧(∀ o,wx.cell? ⟨g11,o,none⟩=(#[.int .u64 xi,.string ⟨xd.toArray⟩,.int .u64 xe,.int .u64 xc,.string ⟨xf.1.toArray⟩,.string ⟨xf.2.toArray⟩,.slice va xr.length vc,.int .u64 xb,.int .u64 xn,.int .i64 xt])[o]?)∧(∀ o,wx.cell? ⟨g7,o,none⟩=(#[.string ⟨d.toArray⟩,.int .u64 n,.int .u64 ct])[o]?)∧(∀ o,wx.cell? ⟨P.s,o,none⟩=(#[.pointer (some ⟨P.d,0,none⟩),.pointer (some ⟨P.b,0,none⟩),.string ⟨c.ai.toArray⟩,.pointer (some ⟨P.l,0,none⟩),.pointer (some ⟨P.r,0,none⟩),.map (some P.m),.int .u64 Q.last])[o]?)) (by kernel_rfl) (by kernel_rfl) ⟨(fG.out).drew,(Sp.pick [_,_,_,_,_,_,_,_,_,_] [0] (by decide) ((fG.out).drew)).cell,(Sp.pick [_,_,_,_,_,_,_,_,_,_] [1] (by decide) ((fG.out).drew)).cell,(Sp.pick [_,_,_,_,_,_,_,_,_,_] [2] (by decide) ((fG.out).drew)).cell⟩ ?_
   repeat
    refine Exists.intro ?_ (And.intro (fun wS hS K hK=>?_) (And.intro ?_ ?_))
    rotate_left 1
    ·obtain ⟨hS1,hS2,eG,Bc⟩:=hS
     first
      | (refine ah rfl ?_;simp only [Act.put,List.setIfInBounds_toArray,List.set_cons_zero,List.set_cons_succ];exact hK.out _ ⟨hS1,hS2,eG,Bc⟩)
      | (refine ag rfl ?_;go_simp;exact hK.out _ ⟨hS1,hS2,eG,Bc⟩)
      | (refine ag rfl ?_;go_simp;go_at_call 77;refine (HL2.out _ _ _ _ _ hS1).mono ?_;rintro e mZ ⟨rfl,bS⟩;exact hK.out _ ⟨bS,(Sp.pick [_,_,_,_,_,_,_,_,_,_] [0] (by decide) (bS)).cell,(Sp.pick [_,_,_,_,_,_,_,_,_,_] [1] (by decide) (bS)).cell,(Sp.pick [_,_,_,_,_,_,_,_,_,_] [2] (by decide) (bS)).cell⟩)
    ·rfl
   intro wE hE
   have aX:=Lib.hid hE.1
   clear hE
   clear fG HL2
   have S6:=(Sp.pick [_,_,_,_,_,_,_,_,_,_] [9,2,6,7,5,8,3] (by decide) (aX.out))
   have d0:=S6.cell
   have f0:=S6.free
   have rZ:=Lib.hid (((((((((((S6.set (o:=0) (.int .u64 0)).set (o:=1) (.string ⟨#[]⟩)).set (o:=2) (.int .u64 0)).set (o:=3) (.int .u64 0)).set (o:=4) (.string ⟨#[]⟩)).set (o:=5) (.string ⟨#[]⟩)).set (o:=6) (.slice none 0 0)).set (o:=7) (.int .u64 0)).set (o:=8) (.int .u64 0)).set (o:=9) (.int .i64 0)).drop.iX)
   clear S6 aX
   go_wp2
   rw [HW.out]
   exact bodyPost_ret (v:=.tuple #[.agg #[.int .u64 0,.string ⟨#[]⟩,.int .u64 0,.int .u64 0,.string ⟨#[]⟩,.string ⟨#[]⟩,.slice none 0 0,.int .u64 0,.int .u64 0,.int .i64 0],.string ⟨#[]⟩,.bool false]) (by simp [results,Tryz.results44,go_sem,d0]) rfl ⟨.slice none 0 0,rfl,rZ.out⟩
  have h1x:=h1.symm
  clear h1
  subst h1x
  by_cases h2:xd=d
  rotate_left 1
  ·have HW:Hid (qo=(En.zero,[],false)):=HV.out.trans (if_neg (by simp [h2]))
   have hb:(xd == d)=false:=by simpa using h2
   clear HV h2
   refine au (S:=fun wx=>Sp w0 [] wx (ae g11 #[.int .u64 id,.string ⟨xd.toArray⟩,.int .u64 xe,.int .u64 xc,.string ⟨xf.1.toArray⟩,.string ⟨xf.2.toArray⟩,.slice va xr.length vc,.int .u64 xb,.int .u64 xn,.int .i64 xt] 40::ae g7 #[.string ⟨d.toArray⟩,.int .u64 n,.int .u64 ct] 107::ae P.s (aA P c.ai Q.last) 90::bz P.r P.d Q.ring::dH (.slice va xr.length vc) xr::jG P.b Q.B::aY 34 aJ.agg P.m Q.rows::aF P.d Q.D::dP P.l P.d c.step c.most Q.led::ae g4 #[.int .u64 0,.string ⟨#[]⟩,.int .u64 0,.int .u64 0,.string ⟨#[]⟩,.string ⟨#[]⟩,.slice none 0 0,.int .u64 0,.int .u64 0,.int .i64 0] 40::L)∧(∀ o,wx.cell? ⟨g11,o,none⟩=(#[.int .u64 id,.string ⟨xd.toArray⟩,.int .u64 xe,.int .u64 xc,.string ⟨xf.1.toArray⟩,.string ⟨xf.2.toArray⟩,.slice va xr.length vc,.int .u64 xb,.int .u64 xn,.int .i64 xt])[o]?)∧(∀ o,wx.cell? ⟨g7,o,none⟩=(#[.string ⟨d.toArray⟩,.int .u64 n,.int .u64 ct])[o]?)∧(∀ o,wx.cell? ⟨P.s,o,none⟩=(#[.pointer (some ⟨P.d,0,none⟩),.pointer (some ⟨P.b,0,none⟩),.string ⟨c.ai.toArray⟩,.pointer (some ⟨P.l,0,none⟩),.pointer (some ⟨P.r,0,none⟩),.map (some P.m),.int .u64 Q.last])[o]?)) (by kernel_rfl) (by kernel_rfl) ⟨(fG.out).drew,(Sp.pick [_,_,_,_,_,_,_,_,_,_] [0] (by decide) ((fG.out).drew)).cell,(Sp.pick [_,_,_,_,_,_,_,_,_,_] [1] (by decide) ((fG.out).drew)).cell,(Sp.pick [_,_,_,_,_,_,_,_,_,_] [2] (by decide) ((fG.out).drew)).cell⟩ ?_
   repeat
    refine Exists.intro ?_ (And.intro (fun wS hS K hK=>?_) (And.intro ?_ ?_))
    rotate_left 1
    ·obtain ⟨hS1,hS2,eG,Bc⟩:=hS
     first
      | (refine ah rfl ?_;simp only [Act.put,List.setIfInBounds_toArray,List.set_cons_zero,List.set_cons_succ];exact hK.out _ ⟨hS1,hS2,eG,Bc⟩)
      | (refine ag rfl ?_;go_simp;exact hK.out _ ⟨hS1,hS2,eG,Bc⟩)
      | (refine ag rfl ?_;go_simp;go_at_call 77;refine (HL2.out _ _ _ _ _ hS1).mono ?_;rintro e mZ ⟨rfl,bS⟩;exact hK.out _ ⟨bS,(Sp.pick [_,_,_,_,_,_,_,_,_,_] [0] (by decide) (bS)).cell,(Sp.pick [_,_,_,_,_,_,_,_,_,_] [1] (by decide) (bS)).cell,(Sp.pick [_,_,_,_,_,_,_,_,_,_] [2] (by decide) (bS)).cell⟩)
    ·rfl
   intro wE hE
   have aX:=Lib.hid hE.1
   clear hE
   clear fG HL2
   have S6:=(Sp.pick [_,_,_,_,_,_,_,_,_,_] [9,2,6,7,5,8,3] (by decide) (aX.out))
   have d0:=S6.cell
   have f0:=S6.free
   have rZ:=Lib.hid (((((((((((S6.set (o:=0) (.int .u64 0)).set (o:=1) (.string ⟨#[]⟩)).set (o:=2) (.int .u64 0)).set (o:=3) (.int .u64 0)).set (o:=4) (.string ⟨#[]⟩)).set (o:=5) (.string ⟨#[]⟩)).set (o:=6) (.slice none 0 0)).set (o:=7) (.int .u64 0)).set (o:=8) (.int .u64 0)).set (o:=9) (.int .i64 0)).drop.iX)
   clear S6 aX
   go_wp2
   rw [HW.out]
   exact bodyPost_ret (v:=.tuple #[.agg #[.int .u64 0,.string ⟨#[]⟩,.int .u64 0,.int .u64 0,.string ⟨#[]⟩,.string ⟨#[]⟩,.slice none 0 0,.int .u64 0,.int .u64 0,.int .i64 0],.string ⟨#[]⟩,.bool false]) (by simp [results,Tryz.results44,go_sem,d0]) rfl ⟨.slice none 0 0,rfl,rZ.out⟩
  have h2x:=h2.symm
  clear h2
  subst h2x
  by_cases h3:xe=n
  rotate_left 1
  ·have HW:Hid (qo=(En.zero,[],false)):=HV.out.trans (if_neg (by simp [h3]))
   have hb:((xe:Int) == (n:Int))=false:=by simp;omega
   clear HV h3
   refine au (S:=fun wx=>Sp w0 [] wx (ae g11 #[.int .u64 id,.string ⟨d.toArray⟩,.int .u64 xe,.int .u64 xc,.string ⟨xf.1.toArray⟩,.string ⟨xf.2.toArray⟩,.slice va xr.length vc,.int .u64 xb,.int .u64 xn,.int .i64 xt] 40::ae g7 #[.string ⟨d.toArray⟩,.int .u64 n,.int .u64 ct] 107::ae P.s (aA P c.ai Q.last) 90::bz P.r P.d Q.ring::dH (.slice va xr.length vc) xr::jG P.b Q.B::aY 34 aJ.agg P.m Q.rows::aF P.d Q.D::dP P.l P.d c.step c.most Q.led::ae g4 #[.int .u64 0,.string ⟨#[]⟩,.int .u64 0,.int .u64 0,.string ⟨#[]⟩,.string ⟨#[]⟩,.slice none 0 0,.int .u64 0,.int .u64 0,.int .i64 0] 40::L)∧(∀ o,wx.cell? ⟨g11,o,none⟩=(#[.int .u64 id,.string ⟨d.toArray⟩,.int .u64 xe,.int .u64 xc,.string ⟨xf.1.toArray⟩,.string ⟨xf.2.toArray⟩,.slice va xr.length vc,.int .u64 xb,.int .u64 xn,.int .i64 xt])[o]?)∧(∀ o,wx.cell? ⟨g7,o,none⟩=(#[.string ⟨d.toArray⟩,.int .u64 n,.int .u64 ct])[o]?)∧(∀ o,wx.cell? ⟨P.s,o,none⟩=(#[.pointer (some ⟨P.d,0,none⟩),.pointer (some ⟨P.b,0,none⟩),.string ⟨c.ai.toArray⟩,.pointer (some ⟨P.l,0,none⟩),.pointer (some ⟨P.r,0,none⟩),.map (some P.m),.int .u64 Q.last])[o]?)) (by kernel_rfl) (by kernel_rfl) ⟨(fG.out).drew,(Sp.pick [_,_,_,_,_,_,_,_,_,_] [0] (by decide) ((fG.out).drew)).cell,(Sp.pick [_,_,_,_,_,_,_,_,_,_] [1] (by decide) ((fG.out).drew)).cell,(Sp.pick [_,_,_,_,_,_,_,_,_,_] [2] (by decide) ((fG.out).drew)).cell⟩ ?_
   repeat
    refine Exists.intro ?_ (And.intro (fun wS hS K hK=>?_) (And.intro ?_ ?_))
    rotate_left 1
    ·obtain ⟨hS1,hS2,eG,Bc⟩:=hS
     first
      | (refine ah rfl ?_;simp only [Act.put,List.setIfInBounds_toArray,List.set_cons_zero,List.set_cons_succ];exact hK.out _ ⟨hS1,hS2,eG,Bc⟩)
      | (refine ag rfl ?_;go_simp;exact hK.out _ ⟨hS1,hS2,eG,Bc⟩)
      | (refine ag rfl ?_;go_simp;go_at_call 77;refine (HL2.out _ _ _ _ _ hS1).mono ?_;rintro e mZ ⟨rfl,bS⟩;exact hK.out _ ⟨bS,(Sp.pick [_,_,_,_,_,_,_,_,_,_] [0] (by decide) (bS)).cell,(Sp.pick [_,_,_,_,_,_,_,_,_,_] [1] (by decide) (bS)).cell,(Sp.pick [_,_,_,_,_,_,_,_,_,_] [2] (by decide) (bS)).cell⟩)
    ·rfl
   intro wE hE
   have aX:=Lib.hid hE.1
   clear hE
   clear fG HL2
   have S6:=(Sp.pick [_,_,_,_,_,_,_,_,_,_] [9,2,6,7,5,8,3] (by decide) (aX.out))
   have d0:=S6.cell
   have f0:=S6.free
   have rZ:=Lib.hid (((((((((((S6.set (o:=0) (.int .u64 0)).set (o:=1) (.string ⟨#[]⟩)).set (o:=2) (.int .u64 0)).set (o:=3) (.int .u64 0)).set (o:=4) (.string ⟨#[]⟩)).set (o:=5) (.string ⟨#[]⟩)).set (o:=6) (.slice none 0 0)).set (o:=7) (.int .u64 0)).set (o:=8) (.int .u64 0)).set (o:=9) (.int .i64 0)).drop.iX)
   clear S6 aX
   go_wp2
   rw [HW.out]
   exact bodyPost_ret (v:=.tuple #[.agg #[.int .u64 0,.string ⟨#[]⟩,.int .u64 0,.int .u64 0,.string ⟨#[]⟩,.string ⟨#[]⟩,.slice none 0 0,.int .u64 0,.int .u64 0,.int .i64 0],.string ⟨#[]⟩,.bool false]) (by simp [results,Tryz.results44,go_sem,d0]) rfl ⟨.slice none 0 0,rfl,rZ.out⟩
  have h3x:=h3.symm
  clear h3
  subst h3x
  by_cases h4:xc=ct
  rotate_left 1
  ·have HW:Hid (qo=(En.zero,[],false)):=HV.out.trans (if_neg (by simp [h4]))
   have hb:((xc:Int) == (ct:Int))=false:=by simp;omega
   clear HV h4
   refine au (S:=fun wx=>Sp w0 [] wx (ae g11 #[.int .u64 id,.string ⟨d.toArray⟩,.int .u64 n,.int .u64 xc,.string ⟨xf.1.toArray⟩,.string ⟨xf.2.toArray⟩,.slice va xr.length vc,.int .u64 xb,.int .u64 xn,.int .i64 xt] 40::ae g7 #[.string ⟨d.toArray⟩,.int .u64 n,.int .u64 ct] 107::ae P.s (aA P c.ai Q.last) 90::bz P.r P.d Q.ring::dH (.slice va xr.length vc) xr::jG P.b Q.B::aY 34 aJ.agg P.m Q.rows::aF P.d Q.D::dP P.l P.d c.step c.most Q.led::ae g4 #[.int .u64 0,.string ⟨#[]⟩,.int .u64 0,.int .u64 0,.string ⟨#[]⟩,.string ⟨#[]⟩,.slice none 0 0,.int .u64 0,.int .u64 0,.int .i64 0] 40::L)∧(∀ o,wx.cell? ⟨g11,o,none⟩=(#[.int .u64 id,.string ⟨d.toArray⟩,.int .u64 n,.int .u64 xc,.string ⟨xf.1.toArray⟩,.string ⟨xf.2.toArray⟩,.slice va xr.length vc,.int .u64 xb,.int .u64 xn,.int .i64 xt])[o]?)∧(∀ o,wx.cell? ⟨g7,o,none⟩=(#[.string ⟨d.toArray⟩,.int .u64 n,.int .u64 ct])[o]?)∧(∀ o,wx.cell? ⟨P.s,o,none⟩=(#[.pointer (some ⟨P.d,0,none⟩),.pointer (some ⟨P.b,0,none⟩),.string ⟨c.ai.toArray⟩,.pointer (some ⟨P.l,0,none⟩),.pointer (some ⟨P.r,0,none⟩),.map (some P.m),.int .u64 Q.last])[o]?)) (by kernel_rfl) (by kernel_rfl) ⟨(fG.out).drew,(Sp.pick [_,_,_,_,_,_,_,_,_,_] [0] (by decide) ((fG.out).drew)).cell,(Sp.pick [_,_,_,_,_,_,_,_,_,_] [1] (by decide) ((fG.out).drew)).cell,(Sp.pick [_,_,_,_,_,_,_,_,_,_] [2] (by decide) ((fG.out).drew)).cell⟩ ?_
   repeat
    refine Exists.intro ?_ (And.intro (fun wS hS K hK=>?_) (And.intro ?_ ?_))
    rotate_left 1
    ·obtain ⟨hS1,hS2,eG,Bc⟩:=hS
     first
      | (refine ah rfl ?_;simp only [Act.put,List.setIfInBounds_toArray,List.set_cons_zero,List.set_cons_succ];exact hK.out _ ⟨hS1,hS2,eG,Bc⟩)
      | (refine ag rfl ?_;go_simp;exact hK.out _ ⟨hS1,hS2,eG,Bc⟩)
      | (refine ag rfl ?_;go_simp;go_at_call 77;refine (HL2.out _ _ _ _ _ hS1).mono ?_;rintro e mZ ⟨rfl,bS⟩;exact hK.out _ ⟨bS,(Sp.pick [_,_,_,_,_,_,_,_,_,_] [0] (by decide) (bS)).cell,(Sp.pick [_,_,_,_,_,_,_,_,_,_] [1] (by decide) (bS)).cell,(Sp.pick [_,_,_,_,_,_,_,_,_,_] [2] (by decide) (bS)).cell⟩)
    ·rfl
   intro wE hE
   have aX:=Lib.hid hE.1
   clear hE
   clear fG HL2
   have S6:=(Sp.pick [_,_,_,_,_,_,_,_,_,_] [9,2,6,7,5,8,3] (by decide) (aX.out))
   have d0:=S6.cell
   have f0:=S6.free
   have rZ:=Lib.hid (((((((((((S6.set (o:=0) (.int .u64 0)).set (o:=1) (.string ⟨#[]⟩)).set (o:=2) (.int .u64 0)).set (o:=3) (.int .u64 0)).set (o:=4) (.string ⟨#[]⟩)).set (o:=5) (.string ⟨#[]⟩)).set (o:=6) (.slice none 0 0)).set (o:=7) (.int .u64 0)).set (o:=8) (.int .u64 0)).set (o:=9) (.int .i64 0)).drop.iX)
   clear S6 aX
   go_wp2
   rw [HW.out]
   exact bodyPost_ret (v:=.tuple #[.agg #[.int .u64 0,.string ⟨#[]⟩,.int .u64 0,.int .u64 0,.string ⟨#[]⟩,.string ⟨#[]⟩,.slice none 0 0,.int .u64 0,.int .u64 0,.int .i64 0],.string ⟨#[]⟩,.bool false]) (by simp [results,Tryz.results44,go_sem,d0]) rfl ⟨.slice none 0 0,rfl,rZ.out⟩
  have h4x:=h4.symm
  clear h4
  subst h4x
  by_cases h5:lv=true
  rotate_left 1
  ·have HW:Hid (qo=(En.zero,[],false)):=HV.out.trans (if_neg (by simp [h5]))
   obtain rfl:lv=false:=by simpa using h5
   clear HV h5
   refine au (S:=fun wx=>Sp w0 [] wx (ae g11 #[.int .u64 id,.string ⟨d.toArray⟩,.int .u64 n,.int .u64 ct,.string ⟨xf.1.toArray⟩,.string ⟨xf.2.toArray⟩,.slice va xr.length vc,.int .u64 xb,.int .u64 xn,.int .i64 xt] 40::ae g7 #[.string ⟨d.toArray⟩,.int .u64 n,.int .u64 ct] 107::ae P.s (aA P c.ai Q.last) 90::bz P.r P.d Q.ring::dH (.slice va xr.length vc) xr::jG P.b Q.B::aY 34 aJ.agg P.m Q.rows::aF P.d Q.D::dP P.l P.d c.step c.most Q.led::ae g4 #[.int .u64 0,.string ⟨#[]⟩,.int .u64 0,.int .u64 0,.string ⟨#[]⟩,.string ⟨#[]⟩,.slice none 0 0,.int .u64 0,.int .u64 0,.int .i64 0] 40::L)∧(∀ o,wx.cell? ⟨g11,o,none⟩=(#[.int .u64 id,.string ⟨d.toArray⟩,.int .u64 n,.int .u64 ct,.string ⟨xf.1.toArray⟩,.string ⟨xf.2.toArray⟩,.slice va xr.length vc,.int .u64 xb,.int .u64 xn,.int .i64 xt])[o]?)∧(∀ o,wx.cell? ⟨g7,o,none⟩=(#[.string ⟨d.toArray⟩,.int .u64 n,.int .u64 ct])[o]?)∧(∀ o,wx.cell? ⟨P.s,o,none⟩=(#[.pointer (some ⟨P.d,0,none⟩),.pointer (some ⟨P.b,0,none⟩),.string ⟨c.ai.toArray⟩,.pointer (some ⟨P.l,0,none⟩),.pointer (some ⟨P.r,0,none⟩),.map (some P.m),.int .u64 Q.last])[o]?)) (by kernel_rfl) (by kernel_rfl) ⟨(fG.out).drew,(Sp.pick [_,_,_,_,_,_,_,_,_,_] [0] (by decide) ((fG.out).drew)).cell,(Sp.pick [_,_,_,_,_,_,_,_,_,_] [1] (by decide) ((fG.out).drew)).cell,(Sp.pick [_,_,_,_,_,_,_,_,_,_] [2] (by decide) ((fG.out).drew)).cell⟩ ?_
   repeat
    refine Exists.intro ?_ (And.intro (fun wS hS K hK=>?_) (And.intro ?_ ?_))
    rotate_left 1
    ·obtain ⟨hS1,hS2,eG,Bc⟩:=hS
     first
      | (refine ah rfl ?_;simp only [Act.put,List.setIfInBounds_toArray,List.set_cons_zero,List.set_cons_succ];exact hK.out _ ⟨hS1,hS2,eG,Bc⟩)
      | (refine ag rfl ?_;go_simp;exact hK.out _ ⟨hS1,hS2,eG,Bc⟩)
      | (refine ag rfl ?_;go_simp;go_at_call 77;refine (HL2.out _ _ _ _ _ hS1).mono ?_;rintro e mZ ⟨rfl,bS⟩;exact hK.out _ ⟨bS,(Sp.pick [_,_,_,_,_,_,_,_,_,_] [0] (by decide) (bS)).cell,(Sp.pick [_,_,_,_,_,_,_,_,_,_] [1] (by decide) (bS)).cell,(Sp.pick [_,_,_,_,_,_,_,_,_,_] [2] (by decide) (bS)).cell⟩)
    ·rfl
   intro wE hE
   have aX:=Lib.hid hE.1
   clear hE
   clear fG HL2
   have S6:=(Sp.pick [_,_,_,_,_,_,_,_,_,_] [9,2,6,7,5,8,3] (by decide) (aX.out))
   have d0:=S6.cell
   have f0:=S6.free
   have rZ:=Lib.hid (((((((((((S6.set (o:=0) (.int .u64 0)).set (o:=1) (.string ⟨#[]⟩)).set (o:=2) (.int .u64 0)).set (o:=3) (.int .u64 0)).set (o:=4) (.string ⟨#[]⟩)).set (o:=5) (.string ⟨#[]⟩)).set (o:=6) (.slice none 0 0)).set (o:=7) (.int .u64 0)).set (o:=8) (.int .u64 0)).set (o:=9) (.int .i64 0)).drop.iX)
   clear S6 aX
   go_wp2
   rw [HW.out]
   exact bodyPost_ret (v:=.tuple #[.agg #[.int .u64 0,.string ⟨#[]⟩,.int .u64 0,.int .u64 0,.string ⟨#[]⟩,.string ⟨#[]⟩,.slice none 0 0,.int .u64 0,.int .u64 0,.int .i64 0],.string ⟨#[]⟩,.bool false]) (by simp [results,Tryz.results44,go_sem,d0]) rfl ⟨.slice none 0 0,rfl,rZ.out⟩
  have h5x:=h5.symm
  clear h5
  subst h5x
  have HW:Hid (qo=(⟨id,d,n,ct,xf,xr,xb,xn,xt⟩,body,true)):=HV.out.trans (if_pos (by simp))
  clear HV
  refine au (S:=fun wx=>Sp w0 [] wx (ae g11 #[.int .u64 id,.string ⟨d.toArray⟩,.int .u64 n,.int .u64 ct,.string ⟨xf.1.toArray⟩,.string ⟨xf.2.toArray⟩,.slice va xr.length vc,.int .u64 xb,.int .u64 xn,.int .i64 xt] 40::ae g7 #[.string ⟨d.toArray⟩,.int .u64 n,.int .u64 ct] 107::ae P.s (aA P c.ai Q.last) 90::bz P.r P.d Q.ring::dH (.slice va xr.length vc) xr::jG P.b Q.B::aY 34 aJ.agg P.m Q.rows::aF P.d Q.D::dP P.l P.d c.step c.most Q.led::ae g4 #[.int .u64 0,.string ⟨#[]⟩,.int .u64 0,.int .u64 0,.string ⟨#[]⟩,.string ⟨#[]⟩,.slice none 0 0,.int .u64 0,.int .u64 0,.int .i64 0] 40::L)∧(∀ o,wx.cell? ⟨g11,o,none⟩=(#[.int .u64 id,.string ⟨d.toArray⟩,.int .u64 n,.int .u64 ct,.string ⟨xf.1.toArray⟩,.string ⟨xf.2.toArray⟩,.slice va xr.length vc,.int .u64 xb,.int .u64 xn,.int .i64 xt])[o]?)∧(∀ o,wx.cell? ⟨g7,o,none⟩=(#[.string ⟨d.toArray⟩,.int .u64 n,.int .u64 ct])[o]?)∧(∀ o,wx.cell? ⟨P.s,o,none⟩=(#[.pointer (some ⟨P.d,0,none⟩),.pointer (some ⟨P.b,0,none⟩),.string ⟨c.ai.toArray⟩,.pointer (some ⟨P.l,0,none⟩),.pointer (some ⟨P.r,0,none⟩),.map (some P.m),.int .u64 Q.last])[o]?)) (by kernel_rfl) (by kernel_rfl) ⟨(fG.out).drew,(Sp.pick [_,_,_,_,_,_,_,_,_,_] [0] (by decide) ((fG.out).drew)).cell,(Sp.pick [_,_,_,_,_,_,_,_,_,_] [1] (by decide) ((fG.out).drew)).cell,(Sp.pick [_,_,_,_,_,_,_,_,_,_] [2] (by decide) ((fG.out).drew)).cell⟩ ?_
  repeat
   refine Exists.intro ?_ (And.intro (fun wS hS K hK=>?_) (And.intro ?_ ?_))
   rotate_left 1
   ·obtain ⟨hS1,hS2,eG,Bc⟩:=hS
    first
     | (refine ah rfl ?_;simp only [Act.put,List.setIfInBounds_toArray,List.set_cons_zero,List.set_cons_succ];exact hK.out _ ⟨hS1,hS2,eG,Bc⟩)
     | (refine ag rfl ?_;go_simp;exact hK.out _ ⟨hS1,hS2,eG,Bc⟩)
     | (refine ag rfl ?_;go_simp;go_at_call 77;refine (HL2.out _ _ _ _ _ hS1).mono ?_;rintro e mZ ⟨rfl,bS⟩;exact hK.out _ ⟨bS,(Sp.pick [_,_,_,_,_,_,_,_,_,_] [0] (by decide) (bS)).cell,(Sp.pick [_,_,_,_,_,_,_,_,_,_] [1] (by decide) (bS)).cell,(Sp.pick [_,_,_,_,_,_,_,_,_,_] [2] (by decide) (bS)).cell⟩)
   ·rfl
  intro wE hE
  have aX:=Lib.hid hE.1
  clear hE
  clear fG HL2
  have S6:=(Sp.pick [_,_,_,_,_,_,_,_,_,_] [9,0,4,2,6,7,5,8,3] (by decide) (aX.out))
  have d0:=S6.cell
  have f0:=S6.free
  have c11:=S6.ak.cell
  have rZ:=Lib.hid (((((((((((S6.set (o:=0) (.int .u64 id)).set (o:=1) (.string ⟨d.toArray⟩)).set (o:=2) (.int .u64 n)).set (o:=3) (.int .u64 ct)).set (o:=4) (.string ⟨xf.1.toArray⟩)).set (o:=5) (.string ⟨xf.2.toArray⟩)).set (o:=6) (.slice va xr.length vc)).set (o:=7) (.int .u64 xb)).set (o:=8) (.int .u64 xn)).set (o:=9) (.int .i64 xt)).drop.drop)
  clear S6 aX
  go_wp2
  rw [HW.out]
  exact bodyPost_ret (v:=.tuple #[.agg #[.int .u64 id,.string ⟨d.toArray⟩,.int .u64 n,.int .u64 ct,.string ⟨xf.1.toArray⟩,.string ⟨xf.2.toArray⟩,.slice va xr.length vc,.int .u64 xb,.int .u64 xn,.int .i64 xt],.string ⟨body.toArray⟩,.bool true]) (by simp [results,Tryz.results44,go_sem,d0]) rfl ⟨_,rfl,rZ.out⟩
 ·have hh2:Q.D.now.has fl=false:=by simpa using hh
  have HW:Hid (qo=(En.zero,[],false)):=HV.out.trans (if_neg hh)
  rw [show (if Q.D.now.has fl=true then (0:Int) else 10)=10 from if_neg hh]
  have S6:=(Sp.pick [_,_,_,_,_,_,_,_] [7,0,1,2,3,4,5] (by decide) (aX.out))
  have d0:=S6.cell
  have f0:=S6.free
  have rZ:=Lib.hid (((((((((((S6.set (o:=0) (.int .u64 0)).set (o:=1) (.string ⟨#[]⟩)).set (o:=2) (.int .u64 0)).set (o:=3) (.int .u64 0)).set (o:=4) (.string ⟨#[]⟩)).set (o:=5) (.string ⟨#[]⟩)).set (o:=6) (.slice none 0 0)).set (o:=7) (.int .u64 0)).set (o:=8) (.int .u64 0)).set (o:=9) (.int .i64 0)).drop.iX)
  clear S6 aX HV hh
  go_wp2
  rw [HW.out]
  exact bodyPost_ret (v:=.tuple #[.agg #[.int .u64 0,.string ⟨#[]⟩,.int .u64 0,.int .u64 0,.string ⟨#[]⟩,.string ⟨#[]⟩,.slice none 0 0,.int .u64 0,.int .u64 0,.int .i64 0],.string ⟨#[]⟩,.bool false]) (by simp [results,Tryz.results44,go_sem,d0]) rfl ⟨.slice none 0 0,rfl,rZ.out⟩
end
end
end Go.Proofs.YtangbdahnmomlaaGreatDoor
