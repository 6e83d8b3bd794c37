/- spool: index. Conditions: the lengths fit. spool, plainly: what keeps all lengths small, act by act. No program. -/
import Derived.Test.YtangbdahnmomlaaGreatDoorBu30
set_option linter.unnecessarySimpa false
set_option linter.unusedSimpArgs false
set_option linter.unusedVariables false
set_option maxHeartbeats 2000000
set_option maxRecDepth 100000
namespace Go.Proofs.YtangbdahnmomlaaGreatDoor
section
open Go.RowKit Go.Maps
theorem xL {s:Bs} (h:(dO ⟨s,false⟩).2.2.1=true) :
  (dO ⟨s,false⟩).2.2.2.bad=false∧s=bP (dO ⟨s,false⟩).1 (dO ⟨s,false⟩).2.1++(dO ⟨s,false⟩).2.2.2.s∧(dO ⟨s,false⟩).2.2.2.s.length<s.length∧(dO ⟨s,false⟩).1≤1099511627776∧(dO ⟨s,false⟩).2.1.fit:=by
 unfold dO at h ⊢
 simp only [decide_eq_true_eq] at h ⊢
 obtain ⟨b4,e4⟩:=Gu h
 obtain ⟨b3,e3⟩:=jQ b4
 obtain ⟨b2,e2⟩:=jQ b3
 obtain ⟨b1,e1⟩:=lq b2
 obtain ⟨b0,e0⟩:=jQ b1
 have l1:=jB ⟨(Rd.text ⟨s,false⟩ 400).1,false⟩ 1099511627776
 have l2:=iL (Rd.num ⟨(Rd.text ⟨s,false⟩ 400).1,false⟩ 1099511627776).2 255
 have l3:=jB ((Rd.num ⟨(Rd.text ⟨s,false⟩ 400).1,false⟩ 1099511627776).2.text 255).2 1099511627776
 have l4:=jB (((Rd.num ⟨(Rd.text ⟨s,false⟩ 400).1,false⟩ 1099511627776).2.text 255).2.num 1099511627776).2 1099511627776
 have hb:(Rd.text ⟨s,false⟩ 400).2.bad=false:=by
  cases hh:(Rd.text ⟨s,false⟩ 400).2.bad with
  | false=>rfl
  | true =>
   exfalso
   have ht:(Rd.text ⟨s,false⟩ 400).1=[]:=by
    unfold Rd.text Rd.take at hh ⊢
    split
    ·rfl
    ·rename_i hc
     rw [if_neg hc] at hh
     cases hh
   dsimp only at e0
   rw [ht] at e0
   simp [aN,bJ] at e0
 obtain ⟨_,ea⟩:=lq hb
 have hl:=(ic ⟨s,false⟩ 400).2.1 hb
 dsimp only at *
 refine ⟨hb,?_,hl,l1,l2,l3,l4⟩
 rw [e4,List.append_nil] at e3
 rw [e3] at e2
 rw [e2] at e1
 rw [e1] at e0
 unfold bP
 dsimp only
 rw [List.append_assoc,List.append_assoc,← e0]
 exact ea
theorem Gy (f:Nat) (s:Bs) (h:s.length<f):mJ (f+1) s=mJ f s:=by
 induction f generalizing s with
 | zero=>omega
 | succ f ih =>
  conv=>lhs;rw [mJ]
  conv=>rhs;rw [mJ]
  split
  ·rename_i h1
   obtain ⟨_,_,h2,_⟩:=xL h1
   rw [ih _ (by omega)]
  ·rfl
theorem yV {s:Bs} (h:(dO ⟨s,false⟩).2.2.1=true):gK s=((dO ⟨s,false⟩).1,(dO ⟨s,false⟩).2.1)::gK (dO ⟨s,false⟩).2.2.2.s∧gW s=gW (dO ⟨s,false⟩).2.2.2.s:=by
 obtain ⟨_,_,h2,_⟩:=xL h
 have h3:∀ f,(dO ⟨s,false⟩).2.2.2.s.length<f→mJ f (dO ⟨s,false⟩).2.2.2.s=mJ ((dO ⟨s,false⟩).2.2.2.s.length+1) (dO ⟨s,false⟩).2.2.2.s:=by
  intro f hf
  induction f with
  | zero=>omega
  | succ f ih =>
   by_cases hh:(dO ⟨s,false⟩).2.2.2.s.length<f
   ·rw [Gy _ _ hh,ih hh]
   ·rw [show f=(dO ⟨s,false⟩).2.2.2.s.length by omega]
 unfold gK gW
 rw [mJ,if_pos h,h3 _ h2]
 exact ⟨rfl,rfl⟩
theorem yX {s:Bs} (h:(dO ⟨s,false⟩).2.2.1=false):gK s=[]∧gW s=s:=by
 unfold gK gW
 rw [mJ,if_neg (by simp [h])]
 exact ⟨rfl,rfl⟩
theorem wN (l:List (Nat×aJ)) (x:Nat×aJ):fH (l++[x])=(dU (fH l).1 x.1 x.2,max (fH l).2 x.1):=by simp [fH]
theorem nM (M:Mn aJ) (id:Nat) (r:aJ):(dU M id r).length≤M.length+1:=by
 unfold dU
 split
 ·have:=List.length_filter_le (fun p:Nat×aJ => !(p.1 == id)) M
  unfold Mn.del
  omega
 ·exact Mn.dB _ _ _
theorem ma:∀ (l:List (Nat×aJ)) (q:Mn aJ×Nat),(l.foldl (fun q p=>(dU q.1 p.1 p.2,max q.2 p.1)) q).1.length≤q.1.length+l.length
 | [],q=>by simp
 | x::l,q=>by
  have h1:=ma l (dU q.1 x.1 x.2,max q.2 x.1)
  have h2:=nM q.1 x.1 x.2
  simp only [List.foldl_cons,List.length_cons]
  dsimp only at h1
  omega
theorem Bd (l:List (Nat×aJ)):(fH l).1.length≤l.length:=by
 have:=ma l ([],0)
 simpa [fH] using this
section
variable {w0 w:World} {L:List aT} {P:nS} {c:Sc} {Q:Sq}
theorem PY (k:Nat) (hq:Q.rows=[]) (hz:Q.last=0) (hD:Q.D.Roomy k) (hk:k≤400000000) (S:Sp w0 [] w (ay P c Q L)) :
  Calls Tryz.prog 36 #[.pointer (some ⟨P.s,0,none⟩)] w fun e w2=>e=.returned (.int .i64 (eP Q.D).2)∧Sp w0 [] w2 (ay P c { Q with D:=(eP Q.D).1,rows:=(fH (gK (indexOf Q.D))).1,last:=(fH (gK (indexOf Q.D))).2 } L):=by
 obtain ⟨D,B,led,ring,rows,last⟩:=Q
 dsimp only at *
 subst hq hz
 have HO:Hid (eP D=_):=Lib.hid (eP.eq_1 D)
 have HF:Hid (indexOf D=(D.now.get indexB).getD []):=rfl
 have hl:(indexOf D).length≤k:=hD.file indexB
 have HL:Hid ((indexOf D).length≤400000000):=Nat.le_trans hl hk
 have HW:Hid (D.Small∧∀ x:Bs,x.length≤400000000→(D.write indexB x).1.Small):=by
  refine ⟨hD.small (by omega),fun x hx=>(hD.write indexB x).small (by omega)⟩
 unfold ay at S
 dsimp only at S
 have HS:=Lib.hid S
 have c0:=S.cell 0
 clear S hD hk hl
 unfold aA at c0
 go_enter Tryz.func36,Tryz.ntmps36
 go_wp2_with fail
 refine (Ku indexB HS.out.dJ (by decide)).mono ?_
 rw [← HF.out]
 rintro e w2 ⟨rfl,rfl⟩
 generalize indexOf D=s at *
 obtain ⟨ec,Il⟩:∃ c:Int,(if D.now.has indexB then 0 else 10)=c:=⟨_,rfl⟩
 rw [Il]
 have Ul:Hid ((D.now.has indexB=true∧ec=0)∨(D.now.has indexB=false∧ec=10)):=by
  cases hh:D.now.has indexB <;> simp [hh] at Il <;> simp [Il.symm,Hid]
 clear Il
 go_wp2_with fail
 refine (yx HS.out s).mono ?_
 rintro e w3 ⟨i,rfl,S3⟩
 have bI:=Lib.hid S3
 clear S3 HS c0
 go_wp2_with fail
 go_loopw [6] (fun v wr=>∃ (dn:List (Nat×aJ)) (r:Bs),gK s=dn++gK r∧gW s=gW r∧v=.int .i64 ((s.length:Int) - r.length)∧r.length+dn.length≤s.length∧Sp w0 [] wr (xC 151 i ⟨r,false⟩::ae P.s (aA P c.ai (fH dn).2) 90::aY 34 aJ.agg P.m (fH dn).1::aF P.d D::jG P.b B::dP P.l P.d c.step c.most led::bz P.r P.d ring::L)) (fun v _=>s.length - (intOf v).toNat)
 case atStart=>exact ⟨[],s,rfl,rfl,by simp,by simp,bI.out⟩
 case round =>
  obtain ⟨dn,r,h1,h2,rfl,h4,S4⟩:=hrel
  have H1:=Lib.hid h1
  have H2:=Lib.hid h2
  have H4:=Lib.hid h4
  have gP:=Lib.hid S4
  clear h1 h2 h4 S4 bI
  go_wp2_with fail
  refine (Tt i ⟨r,false⟩ gP.out (by have:=HL.out;have:=H4.out;dsimp only;omega)).mono ?_
  have HQ:=Lib.hid (@xL r)
  have OQ:=Lib.hid (@yV r)
  have zz:=Lib.hid (@yX r)
  generalize dO ⟨r,false⟩=q at *
  obtain ⟨x,⟨a,b,n⟩,ok,r2⟩:=q
  dsimp only at *
  rintro e w4 ⟨rfl,S5⟩
  clear gP
  cases ok with
  | false =>
   obtain ⟨g1,g2⟩:=zz.out rfl
   have HR1:Hid (gK s=dn):=by rw [H1.out,g1];simp [Hid]
   have HR2:Hid (gW s=r):=by rw [H2.out,g2];trivial
   have gB:=Lib.hid (S5.drop.new (.cells #[.string ⟨a.toArray⟩,.int .u64 b,.int .u64 n] 107))
   clear g1 g2 HQ OQ zz H1 H2 S5
   rw [HR2.out] at HO
   have hr:(r.length:Int)≤s.length:=by have:=H4.out;omega
   have hs:(s.length:Int)≤400000000:=by have:=HL.out;omega
   have hcut:=iT s (s.length - r.length)
   have hle:(s.length:Int) - (r.length:Int)≤(s.length:Int):=by omega
   have Im:Hid ((s.take (s.length - r.length)).length≤400000000):=by have:=HL.out;rw [List.length_take];unfold Hid;omega
   have c0:=gB.out.cell 0
   unfold aA at c0
   by_cases hcond:D.now.has indexB=true∧r=[]
   ·obtain ⟨hh,rfl⟩:=hcond
    have he:ec=0:=by rcases Ul.out with h | h;exact h.2;rw [hh] at h;exact absurd h.1 (by decide)
    subst he
    have HV:Hid (eP D=(D,0)):=by unfold Hid;rw [HO.out,if_pos ⟨hh,rfl⟩]
    clear HO hcut
    go_wp2_with fail
    go_ret
    rw [HV.out,show indexOf D=s from HF.out.symm,HR1.out]
    exact ⟨rfl,gB.out⟩
   ·rw [if_neg hcond] at HO
    have HW1:=Lib.hid (HW.out.2 _ Im.out)
    have V4:=Lib.hid (fun (w':World) (K:List aT) (S':Sp w0 [] w' (aF P.d D::K))=>DT indexB (s.take (s.length - r.length)) S' HW.out.1 (by decide) (by have:=Im.out;omega))
    unfold indexB at V4
    change Hid (∀ (w':World) (K:List aT),Sp w0 [] w' (aF P.d D::K)→Calls Tryz.prog 61 _ w' fun e w2=>e=.returned (.int .i64 (D.write indexB (s.take (s.length - r.length))).2)∧Sp w0 [] w2 (aF P.d (D.write indexB (s.take (s.length - r.length))).1::K)) at V4
    have Il:(ec=0∧((s.length:Int) - r.length == s.length)=false)∨(ec=10∧(0:Int)=0):=by
     rcases Ul.out with h | h
     ·refine .inl ⟨h.2,?_⟩
      have:r≠[]:=fun hr=>hcond ⟨h.1,hr⟩
      have:r.length≠0:=fun hr=>this (List.eq_nil_of_length_eq_zero hr)
      simp only [beq_eq_false_iff_ne]
      omega
     ·exact .inr ⟨h.2,rfl⟩
    clear Ul hcond
    generalize D.write indexB (s.take (s.length - r.length))=A at *
    generalize hst:s.take (s.length - r.length)=st at *
    obtain ⟨D1,e1⟩:=A
    dsimp only at *
    rcases Il with ⟨rfl,hb⟩ | ⟨rfl,hb⟩
    all_goals
     go_upto_region 10 with (fail)
     clear hb
     refine aM [0,1,2,3,4,5,6,7,8] (fun c=>c == 7) (fun c=>false) (T:=fun wx=>wx.cell? ⟨P.s,0,none⟩=some (.pointer (some ⟨P.d,0,none⟩))) (S:=fun wx=>Sp w0 [] wx (ae P.s (aA P c.ai (fH dn).2) 90::aY 34 aJ.agg P.m (fH dn).1::aF P.d D::jG P.b B::dP P.l P.d c.step c.most led::bz P.r P.d ring::L)) (by kernel_rfl) (by kernel_rfl) (by kernel_rfl) gB.out.drew (fun x h=>h.cell 0) ?_
     repeat
      refine Exists.intro _ (And.intro rfl (Or.inl (Exists.intro ?_ (And.intro (fun wS hS K hK=>?_) (And.intro ?_ ?_)))))
      rotate_left 1
      ·have t0:=hS
       first
        | (refine ah rfl ?_;simp only [Act.put,List.setIfInBounds_toArray,List.set_cons_zero,List.set_cons_succ];exact hK.out)
        | (refine ag rfl ?_;go_simp;exact hK.out)
      ·rfl
     refine bC.one rfl rfl rfl (fun wS hS R hR=>?_)
     go_simp
     go_at_call 61
     refine (V4.out _ _ hS.dJ).mono ?_
     rintro e w7 ⟨rfl,S7⟩
     refine hR.out _ _ rfl (fun wx=>wx.cell? ⟨P.s,0,none⟩=some (.pointer (some ⟨P.d,0,none⟩))) (fun wx=>Sp w0 [] wx (aF P.d D1::ae P.s (aA P c.ai (fH dn).2) 90::aY 34 aJ.agg P.m (fH dn).1::jG P.b B::dP P.l P.d c.step c.most led::bz P.r P.d ring::L)) S7 (fun x h=>h.ak.cell 0) (fun _ h=>h) ?_
     clear hR hS S7
     repeat
      refine Exists.intro _ (And.intro rfl (Or.inl (Exists.intro ?_ (And.intro (fun wS hS K hK=>?_) (And.intro ?_ ?_)))))
      rotate_left 1
      ·have t0:=hS
       first
        | (refine ah rfl ?_;simp only [Act.put,List.setIfInBounds_toArray,List.set_cons_zero,List.set_cons_succ];exact hK.out)
        | (refine ag rfl ?_;go_simp;exact hK.out)
      ·rfl
     intro wE hE
     have aX:=Lib.hid hE
     clear hE
     clear gB V4 c0
     by_cases he:e1=0
     ·subst he
      have c0:=aX.out.ak.cell 0
      unfold aA at c0
      have HV:Hid (eP D=D1.sync):=by unfold Hid;rw [HO.out];simp
      go_wp2_with fail
      refine (yz aX.out HW1.out).mono ?_
      rintro e w6 ⟨rfl,S7⟩
      have HZ:=Lib.hid ((Sp.pick [_,_,_] [1,2,0] (by decide) (S7)))
      clear S7 aX c0
      go_wp2_with fail
      go_ret
      rw [HV.out,show indexOf D=s from HF.out.symm,HR1.out]
      exact ⟨rfl,HZ.out⟩
     ·have hb:(e1 != 0)=true:=by simpa using he
      have HV:Hid (eP D=(D1,e1)):=by unfold Hid;rw [HO.out,if_pos he]
      clear he HO
      go_wp2_with fail
      go_ret
      rw [HV.out,show indexOf D=s from HF.out.symm,HR1.out]
      have HZ:=(Sp.pick [_,_,_] [1,2,0] (by decide) (aX.out))
      exact ⟨rfl,HZ⟩
  | true =>
   obtain ⟨g1,g2,g3,g4,g5⟩:=HQ.out rfl
   obtain ⟨g7,g8⟩:=OQ.out rfl
   obtain ⟨r2,bad⟩:=r2
   dsimp only at *
   subst g1
   have HM:Hid ((fH dn).1.length<maxLen):=by have:=Bd dn;have:=H4.out;have:=HL.out;unfold Hid maxLen;omega
   have HX:Hid (x<18446744073709551616):=by unfold Hid;omega
   have S6:=S5.box #[.string ⟨a.toArray⟩,.int .u64 b,.int .u64 n] 107
   have c6:=S6.cell
   have fG:=Lib.hid S6
   have hls:=wN dn (x,⟨a,b,n⟩)
   have h1:gK s=(dn++[(x,⟨a,b,n⟩)])++gK r2:=by rw [H1.out,g7];simp
   have h2:gW s=gW r2:=by rw [H2.out,g8]
   have H1:=Lib.hid h1
   have H2:=Lib.hid h2
   have SY:=Lib.hid hls
   have XJ:Hid (r2.length+(dn++[(x,(⟨a,b,n⟩:aJ))]).length≤s.length):=by have:=H4.out;simp only [List.length_append,List.length_cons,List.length_nil,Hid];omega
   have hr2:(r2.length:Int)≤s.length:=by have:=H4.out;omega
   have hs:(s.length:Int)≤400000000:=by have:=HL.out;omega
   have H3:Hid (r2.length<r.length∧r.length≤s.length):=⟨g3,by have:=H4.out;omega⟩
   clear g2 g3 g4 g5 g7 g8 HQ OQ zz S5 S6 h1 h2 hls
   go_upto_region 5 with (fail)
   generalize w4.alloc _=w5 at *
   generalize w4.heap.size=g8 at *
   go_wp2_with fail
   refine (zw fG.out.ak).mono ?_
   rintro e w6 ⟨rfl,rfl⟩
   go_wp2_with fail
   have HZ:=(Sp.pick [_,_,_,_] [2,3,1] (by decide) (fG.out))
   refine (Em x ⟨a,b,n⟩ HX.out HM.out HZ).mono ?_
   rintro e w7 ⟨rfl,S7⟩
   have jN:Hid (Sp w0 [] w7 (xC 151 i ⟨r2,false⟩::ae P.s (aA P c.ai (fH (dn++[(x,⟨a,b,n⟩)])).2) 90::aY 34 aJ.agg P.m (fH (dn++[(x,⟨a,b,n⟩)])).1::aF P.d D::jG P.b B::dP P.l P.d c.step c.most led::bz P.r P.d ring::L)):=by
    rw [SY.out]
    exact S7.dJ
   clear S7 fG c6 HZ
   go_wp2_with fail
   go_roundw
   case rel=>exact ⟨_,r2,H1.out,H2.out,rfl,XJ.out,jN.out⟩
   case measure=>have:=H3.out;simp [intOf];omega
end
end
section
open Go.RowKit Go.Maps
def Bx.tab:Bx→Nat
 | .real=>0
 | .eT _ T=>T.length
def Bx.tX:Bx→Prop
 | .real=>True
 | .eT D T=>D.length≤1000000∧∀ k x,T.get k=some x→x.2.1.length≤16384∧x.2.2.length=x.2.1.length+16
structure bg (c:Sc) (n:Nat) (Q:Sq):Prop where
 key:c.ai.length=32
 step:1≤c.step∧c.step≤1000
 most:c.most≤1099511627776
 room:Q.D.Roomy n
 led:∀ p∈Q.led,p.2.c≤p.2.ceil∧p.2.ceil≤1099511627776
 Gz:Q.led.length≤n
 ring:∀ p∈Q.ring,p.2.now≤1000000∧p.2.old≤1000000
 CS:Q.ring.length≤n
 fit:RowsFit Q.rows
 len:Q.rows.length≤n
 last:Q.last≤1099511627776
 tX:Q.B.tX
 tab:1000*Q.B.tab≤n
section
variable {c:Sc} {n m:Nat} {Q:Sq}
theorem bg.mono (h:bg c n Q) (hn:n≤m):bg c m Q:={ h with room:=h.room.mono hn,Gz:=Nat.le_trans h.Gz hn,CS:=Nat.le_trans h.CS hn,len:=Nat.le_trans h.len hn,tab:=Nat.le_trans h.tab hn }
theorem bg.disk (h:bg c n Q) {D:Dk} (hD:D.Roomy m) (hn:n≤m):bg c m { Q with D:=D }:={ h.mono hn with room:=hD }
theorem bg.Cw (h:bg c n Q) (hn:n≤1000000):Cw Q.led:=⟨Nat.le_trans h.Gz hn,h.led⟩
theorem bg.sw (h:bg c n Q) (hn:n≤1000000):sw Q.ring:=⟨Nat.le_trans h.CS hn,h.ring⟩
theorem bg.box (h:bg c n Q) (hn:n≤1000000):Q.B.ok:=by
 have h1:=h.tX
 have h2:=h.tab
 cases hB:Q.B with
 | real=>trivial
 | eT D T =>
  rw [hB] at h1 h2
  refine ⟨⟨?_,fun k x hx=>?_⟩,h1.1⟩
  ·have:1000*T.length≤n:=h2
   omega
  ·have:=h1.2 k x hx
   omega
theorem bg.small (h:bg c n Q) (hn:n≤1000000):Q.rows.length<maxLen:=by have:=h.len;unfold maxLen;omega
theorem GA {M:Mn aJ} (h:RowsFit M) {id:Nat} {r:aJ} (hi:id≤1099511627776) (hr:r.fit):RowsFit (dU M id r):=by
 unfold dU
 split
 ·exact fun p hp=>h p (List.mem_filter.1 hp).1
 ·intro p hp
  rcases Mn.tu.1 hp with rfl | ⟨hp,_⟩
  ·exact ⟨hi,hr⟩
  ·exact h p hp
theorem bg.know (h:bg c n Q) {id:Nat} {r:aJ} (hi:id≤1099511627776) (hr:r.fit):bg c (n+1) (Q.know id r) :=
 { h.mono (Nat.le_succ n) with
  fit:=GA h.fit hi hr
  len:=Nat.le_trans (nM Q.rows id r) (Nat.succ_le_succ h.len)
  last:=Nat.max_le.2 ⟨h.last,hi⟩ }
theorem wO {M:Mn aJ} (h:RowsFit M) (id:Nat):(⟨(rowAt M id).dom,0,0⟩:aJ).fit:=⟨(o6 h id).1,Nat.zero_le _,Nat.zero_le _⟩
theorem bg.lay (h:bg c n Q) {id:Nat} {r:aJ} (hi:id≤1099511627776) (hr:r.fit):bg c (n+403) (Q.lay id r).1:=by
 have hl:=o7 id r hr.1
 have h1:=h.room.append indexB (bP id r)
 unfold Sq.lay
 split
 ·exact (h.disk h1 (by omega)).mono (by omega)
 ·split
  ·exact (h.disk h1.sync (by omega)).mono (by omega)
  ·exact ((h.disk h1.sync (by omega)).know hi hr).mono (by omega)
theorem bg.drop (h:bg c n Q) {id:Nat} (hi:id≤1099511627776):bg c (n+403) (Q.drop id).1:=by
 have hr:=wO h.fit id
 have hl:=o7 id ⟨(rowAt Q.rows id).dom,0,0⟩ hr.1
 have h0:=nZ h.room (aU Q.rows id)
 have h1:=h0.append indexB (bP id ⟨(rowAt Q.rows id).dom,0,0⟩)
 unfold Sq.drop
 split
 ·exact (h.disk h0 (by omega)).mono (by omega)
 ·split
  ·exact (h.disk h1 (by omega)).mono (by omega)
  ·exact ((h.disk h1 (by omega)).know hi hr).mono (by omega)
theorem bg.sync (h:bg c n Q):bg c (n+1) { Q with D:=Q.D.sync.1 }:=h.disk h.room.sync (by omega)
theorem bg.Eo (h:bg c n Q) (f:Bs):bg c (n+1) { Q with D:=(Q.D.remove f).1 }:=h.disk (h.room.remove f) (by omega)
theorem bg.has (h:bg c n Q) {id:Nat} (hh:Q.rows.has id=true):id≤1099511627776:=by
 rw [Mn.has_eq] at hh
 obtain ⟨r,hr⟩:=Option.isSome_iff_exists.1 hh
 exact (h.fit _ (Mn.get_mem hr)).1
theorem qY {D:Dk} {k:Nat} (h:D.Roomy k) {x:Bs} (hx:x.length≤300) (ceil:Nat):(gF D x ceil).1.Roomy (k+329):=by
 have hl:=kz ⟨x,ceil⟩
 dsimp only at hl
 have h1:=h.append dm (dK.text ⟨x,ceil⟩)
 unfold gF
 split
 ·exact h1.mono (by omega)
 ·exact h1.sync.mono (by omega)
theorem Ep {D:Dk} {k:Nat} (h:D.Roomy k) (M:Mp pO) (step most:Nat) (x:Bs):(aQ D M step most x).1.Roomy (k+329):=by
 unfold aQ
 split
 ·exact h.mono (by omega)
 ·rename_i hx
  split
  ·exact h.mono (by omega)
  ·split
   ·split
    ·exact qY h (by omega) _
    ·exact qY h (by omega) _
   ·exact h.mono (by omega)
theorem Er {M:Mp pO} (h:∀ p∈M,p.2.c≤p.2.ceil∧p.2.ceil≤1099511627776) (x:Bs):(bK M x).c≤(bK M x).ceil∧(bK M x).ceil≤1099511627776:=by
 unfold bK Mp.get
 cases hf:M.find? fun p=>p.1 == x with
 | none=>simp
 | some p=>exact h p (List.mem_of_find?_eq_some hf)
theorem GD {D:Dk} {M:Mp pO} (h:∀ p∈M,p.2.c≤p.2.ceil∧p.2.ceil≤1099511627776) {step most:Nat} (hs:1≤step) (hm:most≤1099511627776) (x:Bs) :
  (∀ p∈(aQ D M step most x).2.1,p.2.c≤p.2.ceil∧p.2.ceil≤1099511627776)∧(aQ D M step most x).2.1.length≤M.length+1:=by
 have hx:=Er h x
 have put:∀ v:pO,v.c≤v.ceil→v.ceil≤1099511627776→(∀ p∈M.put x v,p.2.c≤p.2.ceil∧p.2.ceil≤1099511627776)∧(M.put x v).length≤M.length+1:=by
  intro v h1 h2
  refine ⟨fun p hp=>?_,Mp.dB _ _ _⟩
  rcases Mp.tu.1 hp with rfl | ⟨hp,_⟩
  ·exact ⟨h1,h2⟩
  ·exact h p hp
 unfold aQ
 split
 ·exact ⟨h,Nat.le_succ _⟩
 ·split
  ·exact ⟨h,Nat.le_succ _⟩
  ·split
   ·split
    ·exact ⟨h,Nat.le_succ _⟩
    ·exact put _ (by dsimp only;omega) (by dsimp only;omega)
   ·exact put _ (by dsimp only;omega) (by dsimp only;omega)
theorem bg.next (h:bg c n Q) (d:Bs):bg c (n+330) { Q with D:=(Q.next c d).1,led:=(Q.next c d).2.1 }:=by
 have h1:=Ep h.room Q.led c.step c.most (bH d (Q.dV d))
 have h2:=GD (D:=Q.D) h.led h.step.1 h.most (bH d (Q.dV d))
 have hl:=h.Gz
 exact { h.mono (Nat.le_add_right n 330) with room:=h1.mono (by omega),led:=h2.1,Gz:=by have:=h2.2;show (aQ Q.D Q.led c.step c.most (bH d (Q.dV d))).2.1.length≤_;omega }
theorem Es {D:Dk} {k:Nat} (h:D.Roomy k) (M:Mp jF) {x:Bs} (hx:x.length≤255) (s:jF):(bO D M x s).1.Roomy (k+293):=by
 have hl:=jb x s
 have h1:=h.append bn (bq x s)
 unfold bO
 split
 ·exact h.mono (by omega)
 ·split
  ·exact h1.mono (by omega)
  ·split
   ·exact h1.sync.mono (by omega)
   ·exact h1.sync.mono (by omega)
theorem Et {D:Dk} {M:Mp jF} (h:∀ p∈M,p.2.now≤1000000∧p.2.old≤1000000) {x:Bs} {s:jF} (h1:s.now≤1000000) (h2:s.old≤1000000) :
  (∀ p∈(bO D M x s).2.1,p.2.now≤1000000∧p.2.old≤1000000)∧(bO D M x s).2.1.length≤M.length+1:=by
 unfold bO
 split
 ·exact ⟨h,Nat.le_succ _⟩
 ·split
  ·exact ⟨h,Nat.le_succ _⟩
  ·split
   ·exact ⟨h,Nat.le_succ _⟩
   ·refine ⟨fun p hp=>?_,Mp.dB _ _ _⟩
    rcases Mp.tu.1 hp with rfl | ⟨hp,_⟩
    ·exact ⟨h1,h2⟩
    ·exact h p hp
theorem jw {M:Mp jF} (h:∀ p∈M,p.2.now≤1000000∧p.2.old≤1000000) (x:Bs):(ax M x).now≤1000000∧(ax M x).old≤1000000:=by
 unfold ax Mp.get
 cases hf:M.find? fun p=>p.1 == x with
 | none=>simp
 | some p=>exact h p (List.mem_of_find?_eq_some hf)
theorem bg.set (h:bg c n Q) {x:Bs} (hx:x.length≤255) {s:jF} (h1:s.now≤1000000) (h2:s.old≤1000000):bg c (n+400) { Q with D:=(bO Q.D Q.ring x s).1,ring:=(bO Q.D Q.ring x s).2.1 }:=by
 have ha:=Es h.room Q.ring hx s
 have hb:=Et (D:=Q.D) h.ring (x:=x) h1 h2
 have hl:=h.CS
 exact { h.mono (Nat.le_add_right n 400) with room:=ha.mono (by omega),ring:=hb.1,CS:=by have:=hb.2;show (bO Q.D Q.ring x s).2.1.length≤_;omega }
theorem bg.begin (h:bg c n Q) (d:Bs):bg c (n+400) (Q.begin d).1:=by
 have hs:=jw h.ring d
 have h0:bg c (n+400) { Q with D:=Q.D,ring:=Q.ring }:=h.mono (by omega)
 unfold Sq.begin fA
 split
 ·exact h0
 ·split
  ·exact h0
  ·split
   ·exact h0
   ·rename_i h255 _ hne
    have h1:=h.set (x:=d) (by omega) (s:=⟨(ax Q.ring d).now+1,(ax Q.ring d).now⟩) (by dsimp only;omega) (by dsimp only;omega)
    split
    ·exact h1
    ·exact h1
theorem bg.end (h:bg c n Q) (d:Bs):bg c (n+400) { Q with D:=(fU Q.D Q.ring d).1,ring:=(fU Q.D Q.ring d).2.1 }:=by
 have hs:=jw h.ring d
 have h0:bg c (n+400) { Q with D:=Q.D,ring:=Q.ring }:=h.mono (by omega)
 unfold fU
 split
 ·exact h0
 ·split
  ·exact h0
  ·rename_i h255 _
   exact h.set (x:=d) (by omega) (s:=⟨(ax Q.ring d).now,0⟩) (by dsimp only;omega) (Nat.zero_le _)
theorem Ng {B:Bx} (hB:B.tX) (key:Bs) (e:En) (body:Bs):(dh B key e body).2.tX∧(dh B key e body).2.tab≤B.tab+1∧(dh B key e body).1.1.length≤20500:=by
 have hlen:∀ q:Bs×Int,q.1.length≤16400→(iO e body q).1.length≤20500:=by
  intro q hq
  unfold iO
  split
  ·rename_i he
   have hh:=mY (bT he)
   have h3:=aP (dC e)
   split
   ·split
    ·dsimp only
     rw [List.length_append]
     omega
    ·exact Nat.zero_le _
   ·exact Nat.zero_le _
  ·exact Nat.zero_le _
 cases B with
 | real =>
  have h2:(dh .real key e body).2=.real:=by unfold dh Bx.zi;dsimp only;split <;> rfl
  rw [h2]
  refine ⟨trivial,Nat.le_succ _,hlen _ ?_⟩
  show (iQ key (bR e.cnt) (dC e) (fQ body)).1.length≤16400
  unfold iQ
  split
  ·dsimp only
   rw [lZ.lV]
   omega
  ·exact Nat.zero_le _
 | eT D T =>
  have hs:(eD uB T D key (bR e.cnt) (dC e) (fQ body)).1.1.length≤16400∧(Bx.eT (eD uB T D key (bR e.cnt) (dC e) (fQ body)).2.1 (eD uB T D key (bR e.cnt) (dC e) (fQ body)).2.2).tX∧(eD uB T D key (bR e.cnt) (dC e) (fQ body)).2.2.length≤T.length+1:=by
   unfold eD
   split
   ·rename_i hc
    cases hg:T.get (uB key (bR e.cnt)) with
    | none =>
     dsimp only
     split
     ·exact ⟨Nat.zero_le _,hB,Nat.le_succ _⟩
     ·refine ⟨by dsimp only;rw [List.length_take];omega,⟨by dsimp only;rw [List.length_drop];have:=hB.1;omega,fun k x hx=>?_⟩,Mp.dB _ _ _⟩
      dsimp only at hx
      rw [Mp.get_put] at hx
      split at hx
      ·cases hx
       exact ⟨hc.2.2.2,by dsimp only;rw [List.length_take];omega⟩
      ·exact hB.2 k x hx
    | some x =>
     dsimp only
     split
     ·exact ⟨by have:=hB.2 _ _ hg;dsimp only;omega,hB,Nat.le_succ _⟩
     ·exact ⟨Nat.zero_le _,hB,Nat.le_succ _⟩
   ·exact ⟨Nat.zero_le _,hB,Nat.le_succ _⟩
  have h2:(dh (.eT D T) key e body).2=.eT (eD uB T D key (bR e.cnt) (dC e) (fQ body)).2.1 (eD uB T D key (bR e.cnt) (dC e) (fQ body)).2.2∨(dh (.eT D T) key e body).2=.eT D T:=by
   unfold dh Bx.zi
   dsimp only
   split
   ·exact .inl rfl
   ·exact .inr rfl
  refine ⟨?_,?_,hlen _ hs.1⟩
  ·rcases h2 with h | h
   ·rw [h];exact hs.2.1
   ·rw [h];exact hB
  ·rcases h2 with h | h
   ·rw [h];exact hs.2.2
   ·rw [h];exact Nat.le_succ _
theorem bg.aZ (h:bg c n Q) (e:En) (body:Bs):bg c (n+1330) (Q.aZ c e body).1∧(Q.aZ c e body).2.1.length≤20500∧((Q.aZ c e body).2.2=0→e.dom.length≤255):=by
 have h1:=h.next e.dom
 unfold Sq.aZ
 split
 ·rename_i h0
  exact ⟨h1.mono (by omega),Nat.zero_le _,fun hh=>absurd hh h0⟩
 ·split
  ·exact ⟨h1.mono (by omega),Nat.zero_le _,fun hh=>by cases hh⟩
  ·rename_i h255
   have h2:=Ng h.tX (nR c.ai e.dom (Q.dV e.dom)) (Q.entry c e) body
   have ht:=h.tab
   exact ⟨{ h1.mono (show n+330≤n+1330 by omega) with tX:=h2.1,tab:=by have:=h2.2.1;dsimp only;omega },h2.2.2,fun _=>by omega⟩
theorem bg.wrote (h:bg c n Q) {file text:Bs} (ht:text.length≤20500) {id:Nat} (hi:id≤1099511627776) {r:aJ} (hr:r.fit) (old:Option Bs):bg c (n+20905) (Q.wrote file text id r old).1:=by
 have h1:bg c (n+20501) { Q with D:=(Q.D.write file text).1 }:=h.disk ((h.room.write file text).mono (by omega)) (by omega)
 have h2:=h1.lay hi hr
 unfold Sq.wrote
 split
 ·exact h1.mono (by omega)
 ·dsimp only
  split
  ·exact (h2.Eo file).mono (by omega)
  ·cases old with
   | none=>exact h2.mono (by omega)
   | some o =>
    dsimp only
    split
    ·exact h2.mono (by omega)
    ·exact (h2.Eo o).mono (by omega)
theorem bg.entry (h:bg c n Q) (e:En):(Q.entry c e).ep≤1000000∧(Q.entry c e).cnt≤1099511627776:=by
 refine ⟨(jw h.ring e.dom).1,?_⟩
 have h2:=Er (h.next e.dom).led (bH e.dom (Q.dV e.dom))
 show (bK (Q.next c e.dom).2.1 (bH e.dom (Q.dV e.dom))).c - 1≤_
 dsimp only at h2
 omega
theorem bg.write (h:bg c n Q) (e:En) (body:Bs) (hi:e.id≤1099511627776):bg c (n+22500) (Q.write c e body).1:=by
 obtain ⟨h1,h2,h3⟩:=h.aZ e body
 have h4:=h.entry e
 unfold Sq.write
 dsimp only
 split
 ·exact h1.mono (by omega)
 ·rename_i h0
  exact (h1.wrote h2 hi (r:=⟨e.dom,(Q.entry c e).ep,(Q.entry c e).cnt⟩) ⟨h3 (Classical.byContradiction fun hh=>h0 hh),by have:=h4.1;dsimp only;omega,h4.2⟩ _).mono (by omega)
theorem bg.put (h:bg c n Q) (e:En) (body:Bs):bg c (n+22500) (Q.put c e body).1:=by
 have h0:=h.mono (show n≤n+22500 by omega)
 unfold Sq.put
 split
 ·exact h0
 ·split
  ·exact h0
  ·split
   ·exact h0
   ·rename_i hl
    have h1:=h.write { e with id:=Q.last+1 } body (by have:=h.last;dsimp only;omega)
    dsimp only
    split
    ·exact h1
    ·exact h1
theorem bg.load (h:bg c n Q) (id:Nat):bg c (n+404) (Q.load c.ai id).1:=by
 have h0:=h.mono (show n≤n+404 by omega)
 unfold Sq.load
 split
 ·exact h0
 ·rename_i hh
  have hi:=h.has (id:=id) (by simpa using hh)
  have h1:=h.drop hi
  split
  ·exact h0
  ·split
   ·exact h1.mono (by omega)
   ·split
    ·exact h1.sync.mono (by omega)
    ·exact h1.sync.mono (by omega)
theorem bg.update (h:bg c n Q) (e:En):bg c (n+23000) (Q.update c e).1:=by
 have h1:=h.load e.id
 have h2:=h1.mono (show n+404≤n+23000 by omega)
 unfold Sq.update
 dsimp only
 split
 ·exact h2
 ·rename_i h0
  split
  ·exact h2
  ·split
   ·exact h2
   ·have hh:Q.rows.has e.id=true:=by
     cases hh:Q.rows.has e.id with
     | true=>rfl
     | false =>
      exfalso
      apply h0
      unfold Sq.load
      rw [if_pos hh]
      exact show (10:Int)≠0 by decide
    exact (h1.write e _ (h.has hh)).mono (by omega)
theorem bg.remove (h:bg c n Q) (id:Nat):bg c (n+404) (Q.remove id).1:=by
 have h0:=h.mono (show n≤n+404 by omega)
 unfold Sq.remove
 split
 ·exact h0
 ·rename_i hh
  have hi:=h.has (id:=id) (by simpa using hh)
  have h1:=h.lay hi (wO h.fit id)
  dsimp only
  split
  ·exact h1.mono (by omega)
  ·exact h1.Eo _
end
end
end Go.Proofs.YtangbdahnmomlaaGreatDoor
