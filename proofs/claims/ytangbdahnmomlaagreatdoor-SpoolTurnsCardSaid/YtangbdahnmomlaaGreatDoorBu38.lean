/- spool: all, as an iterator over the sorted ids. Conditions: the lengths fit. spool: recover. Conditions: the lengths fit; what Go's variables hold. -/
import Derived.Test.YtangbdahnmomlaaGreatDoorBu25
import Derived.Test.YtangbdahnmomlaaGreatDoorBu31
import Derived.Test.YtangbdahnmomlaaGreatDoorBu37
set_option linter.unnecessarySimpa false
set_option linter.unusedSimpArgs false
set_option linter.unusedVariables false
set_option maxHeartbeats 4000000
set_option maxRecDepth 1000000
namespace Go.Proofs.YtangbdahnmomlaaGreatDoor
section
open Go.RowKit Go.Maps Go.Sort Go.Shelf
attribute [local go_sem] Oper.semAt_some
section
variable {w0 w:World} {F0:List Nat} {L:List aT} {m:Nat} {M:Mn aJ}
theorem EE {P:Program} {k:TypeId} {enc:aJ→Value} (h:fD P k enc w m M) (hk:Keyed P k) {xs:List Nat} (hp:xs.Perm (M.map (·.1))):mK xs=M.map (·.1):=by
 refine GZ hp ?_
 rw [List.pairwise_map]
 exact (h.sorted hk).imp fun h=>Nat.le_of_lt h
theorem Wn (s:Nat) (S:Sp w0 F0 w L):Calls Tryz.prog 41 #[.pointer (some ⟨s,0,none⟩)] w fun e w2=>∃ g,e=.returned (.func (.func 71) #[] #[.pointer (some ⟨g,0,none⟩)])∧Sp w0 F0 w2 (ae g #[.pointer (some ⟨s,0,none⟩)] 26::L):=by
 have HS:=Lib.hid (S.box #[.pointer (some ⟨s,0,none⟩)] 26)
 clear S
 go_enter Tryz.func41,Tryz.ntmps41
 go_wp2_with fail
 go_ret
 exact ⟨_,rfl,HS.out⟩
theorem UK:∀ l:List Nat,(l.map fun n=>[xQ n]).flatten=l.map xQ
 | []=>rfl
 | x::l=>by simp [UK l]
theorem EG (s g:Nat) (cells:Array Value) (hc:cells[5]? = some (.map (some m))) (hM:M.length≤1000000) (ids:List Nat) (xR:M.map (·.1)=ids) (A:List Nat→List aT) (K0 R:List aT) (hp:(A []++K0).Perm (ae g #[.pointer (some ⟨s,0,none⟩)] 26::ae s cells 90::aY 34 aJ.agg m M::R)) :
  Cr Fence.wide 5 Tryz.prog 71 #[.pointer (some ⟨g,0,none⟩)] o8 w0 F0 A K0 (fun xs=>xs <+: ids) (fun xs=>xs=ids):=by
 intro l K1 X W S hY
 have hp1:(A []++(K0++K1)).Perm (ae g #[.pointer (some ⟨s,0,none⟩)] 26::ae s cells 90::aY 34 aJ.agg m M::(R++K1)):=by
  rw [← List.append_assoc]
  exact hp.append_right K1
 have S1:=S.perm hp1
 have cg:=S1.cell
 have cs:=S1.ak.cell
 have c5:=cs 5
 rw [hc] at c5
 have HY:=Lib.hid hY
 have HI:Hid (∀ xs:List Nat,xs.Perm (M.map (·.1))→mK xs=M.map (·.1)):=fun xs hx=>EE S1.dJ.Aw (int_keyed Tryz.underlying34) hx
 have HK:=Lib.hid (Ql m ((Sp.pick [_,_,_] [2,0,1] (by decide) (S1))))
 clear S S1 hY cs hc
 refine callsIn_of_wp Tryz.func71 rfl trivial ?_ rfl
 simp only [Tryz.ntmps71,List.size_toArray,List.length_cons,List.length_nil,Nat.reduceAdd,Nat.reduceSub,Array.replicate_succ,Array.replicate_zero,List.push_toArray,List.append_toArray,List.nil_append,List.cons_append]
 gi_wp2_with fail
 refine ⟨trivial,(callsIn_wide.2 HK.out).mono ?_⟩
 rintro e w2 ⟨g2,rfl,S⟩
 rw [xR] at HI
 have UL:Hid (ids.length≤1000000):=by unfold Hid;rw [← xR,List.length_map];exact hM
 have XC:=Lib.hid (Tz (L:=ae g #[.pointer (some ⟨s,0,none⟩)] 26::ae s cells 90::(R++K1)) 109 #[.pointer (some ⟨g2,0,none⟩)] (enters_of Tryz.func109 (by kernel_rfl) rfl)
  (K0:=[ae g2 #[.map (some m)] 88,aY 34 aJ.agg m M]) (Y:=fun xs=>xs.length≤M.length) (T:=fun xs=>xs.Perm (M.map (·.1))) (fun xs h=>Nat.le_trans h hM) (fun xs h=>by rw [h.length_eq,List.length_map];exact hM)
  (fun A'=>keysIter g2 A') S)
 rw [xR] at XC
 have HHP:=Lib.hid hp1
 have G6:=Lib.hid xR
 clear S HK hp hp1 hM xR
 gi_wp2_with fail
 refine ⟨trivial,(callsIn_wide.2 XC.out).mono ?_⟩
 rintro e w3 ⟨v,xs,rfl,hx,S⟩
 rw [HI.out xs hx] at S
 have S2:Sp w0 F0 w3 (jK v ids::(A []++(K0++K1))):=((Sp.pick [_,_,_,_,_] [3,4,2,0] (by decide) (S))).perm (by
  refine (List.Perm.trans ?_ (HHP.out.symm.cons (jK v ids)))
  refine List.Perm.trans ?_ (List.Perm.refl _)
  exact (List.perm_middle (l₁:=[_,_,_])))
 have HS2:=Lib.hid S2
 have hlen:(ids.length:Int)≤1000000:=by have:=UL.out;omega
 clear S XC cg c5 HI hx
 obtain ⟨n,hn⟩:∃ n,ids.length=n:=⟨_,rfl⟩
 have HN:=Lib.hid hn
 have hform:v=.slice none 0 0∧n=0∨∃ g cap,v=.slice (some ⟨g,0,none⟩) n cap:=by rw [← hn];exact S2.jr
 rw [hn] at hlen
 obtain ⟨a,cap,rfl,ha⟩:∃ (a:Option Addr) (cap:Nat),v=.slice a n cap∧(0<n→∃ g,a=some ⟨g,0,none⟩):=by
  rcases hform with ⟨rfl,h0⟩ | ⟨g3,cap,rfl⟩
  ·exact ⟨none,0,by rw [h0],fun h=>by omega⟩
  ·exact ⟨_,cap,rfl,fun _=>⟨g3,rfl⟩⟩
 have HA:=Lib.hid ha
 clear S2 hform hn ha
 gi_wp2_with fail
 gi_loopw [12] (fun v12 wr=>∃ k:Nat,v12=.int .i64 k∧k≤n∧Sp w0 F0 wr (jK (.slice a n cap) ids::(A (ids.take k)++(K0++K1)))) (fun v12 _=>n - (intOf v12).toNat)
 case atStart=>exact ⟨0,rfl,Nat.zero_le _,by simpa using HS2.out⟩
 case round =>
  clear HS2
  obtain ⟨k,rfl,hk,S⟩:=hrel
  by_cases hlt:k<n
  ·have VU:(k:Int)<n:=by omega
   obtain ⟨g3,rfl⟩:=HA.out (by omega)
   have hki:ids[k]? = some (ids[k]'(by rw [HN.out];exact hlt)):=List.getElem?_eq_getElem _
   obtain ⟨x,hx⟩:∃ x,ids[k]'(by rw [HN.out];exact hlt)=x:=⟨_,rfl⟩
   rw [hx] at hki
   have ck:wr.cell? ⟨g3,k,none⟩=some (.int .u64 x):=by
    have h:=Sp.zt (rs:=ids.map fun n=>[xQ n]) (n:=n) (e:=34) (k:=1) (g:=g3) (cap:=cap) (L:=A (ids.take k)++(K0++K1)) (w0:=w0) (F0:=F0) (w:=wr) (by
     have S':=S
     unfold jK at S'
     rw [HN.out] at S'
     rw [UK]
     exact S') (by simp) (i:=k) (r:=[xQ x]) (by rw [List.getElem?_map,hki];rfl) (j:=0) (u:=xQ x) rfl
    simpa using h
   have htk:ids.take (k+1)=ids.take k++[x]:=by
    rw [List.take_add_one,hki]
    rfl
   obtain ⟨fn,tmps,assign,body,hy,hR⟩:=HY.out (ids.take k) x (jK (.slice (some ⟨g3,0,none⟩) n cap) ids::K0) wr (by rw [← htk];exact List.take_prefix _ _) (S.perm List.perm_middle.symm)
   have FQ:=Lib.hid htk
   dsimp only [o8] at hy
   clear S hki hx htk
   gi_wp2
   refine hR.mono ?_
   rintro e W3 (⟨rfl,S3⟩ | ⟨rfl,hX⟩)
   ·have gP:Hid (Sp w0 F0 W3 (jK (.slice (some ⟨g3,0,none⟩) n cap) ids::(A (ids.take (k+1))++(K0++K1)))):=by unfold Hid;rw [FQ.out];exact S3.perm List.perm_middle
    clear S3 hR hy ck
    gi_wp2
    go_roundw
    case rel=>exact ⟨k+1,by go_num,by omega,gP.out⟩
    case measure=>(simp [intOf];try omega)
   ·clear hR hy ck
    gi_wp2
    refine bodyPost_ret (results_none rfl _ _ _) rfl ?_
    exact ⟨⟨_,rfl⟩,.inr hX⟩
  ·obtain rfl:k=n:=by omega
   have HS:=Lib.hid S
   clear S
   gi_wp2
   go_end0
   have e:ids.take k=ids:=List.take_of_length_le (by rw [HN.out];exact Nat.le_refl _)
   have h:=HS.out.drop
   rw [e] at h
   exact ⟨⟨_,rfl⟩,.inl ⟨ids,rfl,h⟩⟩
end
end
section
open Go.RowKit Go.Maps Go.Shelf
attribute [local go_sem] Oper.semAt_some
abbrev kH (p:Prop):aT where
 holds:=fun F _=>F=[]∧p
 keeps:=fun h _ _=>h
 inside:=fun h x hx=>by rw [h.1] at hx;cases hx
section
variable {w0 w:World} {F0:List Nat} {L:List aT} {p:Nat} {D:Dk} {v:Value} {l:List Bs}
theorem Sp.pure (S:Sp w0 F0 w L) {q:Prop} (h:q):Sp w0 F0 w (kH q::L):=S.gain (G:=[]) (Ext.refl [] w) ⟨rfl,h⟩ (fun x hx=>nomatch hx)
theorem Sp.sure {q:Prop} (S:Sp w0 F0 w (kH q::L)):q:=by
 obtain ⟨F,h,_⟩:=S.take
 exact h.2
theorem UM (pre:Bs) (S:Sp w0 F0 w (aF p D::L)) (hl:D.now.length<1000000000000) :
  Calls Tryz.prog 47 #[.pointer (some ⟨p,0,none⟩),.string ⟨pre.toArray⟩] w fun e w2=>∃ v,e=.returned v∧Sp w0 F0 w2 (nz v (D.now.names pre)::aF p D::L):=by
 obtain ⟨F,h,hk⟩:=S.disk
 refine (OB p F D pre w h hl).mono fun e w2 ⟨v,he,h1,hx,hn⟩=>⟨v,he,?_⟩
 exact S.gain (G:=v.ownBlock.toList) hx ⟨rfl,h1⟩ (fun x hx2=>hn x (by simpa using hx2))
theorem Sp.tO (S:Sp w0 F0 w (nz v l::L)):∃ a cap,v=.slice a l.length cap:=by
 rcases S.jr with ⟨rfl,h0⟩ | ⟨g,cap,rfl⟩
 ·exact ⟨none,0,by rw [h0]⟩
 ·exact ⟨_,_,rfl⟩
theorem Sp.Qm {a:Option Addr} {n cap:Nat} (S:Sp w0 F0 w (nz (.slice a n cap) l::L)) {i:Nat} {x:Bs} (hx:l[i]? = some x):∃ g,a=some ⟨g,0,none⟩∧w.cell? ⟨g,i,none⟩=some (.string ⟨x.toArray⟩):=by
 rcases S.jr with ⟨h,h0⟩ | ⟨g,c,h⟩
 ·rw [List.eq_nil_of_length_eq_zero h0] at hx
  cases hx
 ·simp only [Value.slice.injEq] at h
  obtain ⟨rfl,rfl,rfl⟩:=h
  have h2:=S.row.cells (g:=g) rfl i (.string ⟨x.toArray⟩) (by rw [List.getElem?_map,hx];rfl)
  have hadd:(⟨g,0,none⟩:Addr).add i=⟨g,i,none⟩:=by unfold Addr.add;split <;> simp_all
  rw [hadd] at h2
  exact ⟨g,rfl,h2⟩
end
def bW (m:Bs) (r:Rec) (id:Nat):Rec×Int :=
 if (r.Q.open m id).2.2=true then ({ r with files:=r.files.put (aU r.Q.rows id) true },0)
 else if (r.Q.drop id).2≠0 then ({ r with Q:=(r.Q.drop id).1 },(r.Q.drop id).2)
 else ({ r with Q:=(r.Q.drop id).1,done:=true },0)
def dY (m:Bs) (r:Rec) (l:List Nat):Rec:=l.foldl (fun r id=>(bW m r id).1) r
def gM (m:Bs):Rec→List Nat→Prop
 | _,[]=>True
 | r,id::l=>(bW m r id).2=0∧gM m (bW m r id).1 l
theorem sK (m:Bs) (r:Rec) (id:Nat) (l:List Nat):bE m (id::l) r=if (bW m r id).2≠0 then bW m r id else bE m l (bW m r id).1:=by
 rw [bE]
 unfold bW
 split
 ·simp
 ·split
  ·rfl
  ·simp
theorem G7 (m:Bs) (r:Rec) (l:List Nat) (id:Nat):dY m r (l++[id])=(bW m (dY m r l) id).1:=by simp [dY]
theorem wT (m:Bs) (id:Nat):∀ (l:List Nat) (r:Rec),gM m r (l++[id])↔gM m r l∧(bW m (dY m r l) id).2=0
 | [],r=>by simp [gM,dY]
 | x::l,r=>by
  have h:=wT m id l (bW m r x).1
  simp only [List.cons_append,gM,h,dY,List.foldl_cons]
  exact and_assoc.symm
theorem uU (m:Bs):∀ (l k:List Nat) (r:Rec),gM m r l→bE m (l++k) r=bE m k (dY m r l)
 | [],k,r,_=>rfl
 | x::l,k,r,h=>by
  rw [List.cons_append,sK,if_neg (by simp [h.1]),uU m l k _ h.2]
  rfl
theorem JM {m:Bs} {l:List Nat} {r:Rec} (h:gM m r l):bE m l r=(dY m r l,0):=by
 have:=uU m l [] r h
 rw [List.append_nil] at this
 rw [this]
 rfl
theorem G8 {m:Bs} {l k:List Nat} {id:Nat} {r:Rec} (h:gM m r l) (he:(bW m (dY m r l) id).2≠0):bE m (l++id::k) r=bW m (dY m r l) id:=by
 rw [uU m l _ r h,sK,if_pos he]
theorem bg.TA {c:Sc} {n:Nat} {r:Rec} (h:bg c n r.Q) {id:Nat} (hi:id≤1099511627776):bg c (n+403) (bW c.ai r id).1.Q∧(bW c.ai r id).1.files.length≤r.files.length+1:=by
 have h1:=h.drop hi
 unfold bW
 split
 ·exact ⟨h.mono (by omega),Mp.dB _ _ _⟩
 ·split
  ·exact ⟨h1,Nat.le_succ _⟩
  ·exact ⟨h1,Nat.le_succ _⟩
theorem bg.recs {c:Sc}:∀ (l:List Nat) {n:Nat} {r:Rec},bg c n r.Q→(∀ id∈l,id≤1099511627776)→bg c (n+403*l.length) (dY c.ai r l).Q∧(dY c.ai r l).files.length≤r.files.length+l.length
 | [],n,r,h,_=>⟨by simpa [dY] using h,by simp [dY]⟩
 | x::l,n,r,h,hl=>by
  obtain ⟨h1,h2⟩:=h.TA (hl x (by simp))
  obtain ⟨h3,h4⟩:=bg.recs l h1 (fun id hid=>hl id (by simp [hid]))
  refine ⟨h3.mono (by simp only [List.length_cons];omega),?_⟩
  simp only [List.length_cons]
  show (dY c.ai (bW c.ai r x).1 l).files.length≤_
  omega
def mM (files:Mp Bool) (q:Dk×Bool) (f:Bs):(Dk×Bool)×Int :=
 if files.get f=some true then (q,0) else if (fE q.1 f).2≠0 then (((fE q.1 f).1,q.2),(fE q.1 f).2) else (((fE q.1 f).1,true),0)
theorem G9 (files:Mp Bool) (f:Bs) (l:List Bs) (q:Dk×Bool):iY files (f::l) q.1 q.2=if (mM files q f).2≠0 then ((mM files q f).1.1,(mM files q f).1.2,(mM files q f).2) else iY files l (mM files q f).1.1 (mM files q f).1.2:=by
 rw [iY]
 unfold mM
 split
 ·simp
 ·split
  ·rfl
  ·simp
theorem Ha (files:Mp Bool) {q:Dk×Bool} {n:Nat} (h:q.1.Roomy n) (f:Bs):(mM files q f).1.1.Roomy (n+1):=by
 unfold mM
 split
 ·exact h.mono (Nat.le_succ _)
 ·split
  ·exact nZ h f
  ·exact nZ h f
theorem qH (Q:Sq) (m:Bs):Q.recover m =
  if (bE m Q.ids ⟨Q,[],false⟩).2≠0 then ((bE m Q.ids ⟨Q,[],false⟩).1.Q,(bE m Q.ids ⟨Q,[],false⟩).2)
  else if (iY (bE m Q.ids ⟨Q,[],false⟩).1.files ((bE m Q.ids ⟨Q,[],false⟩).1.Q.D.now.names dR) (bE m Q.ids ⟨Q,[],false⟩).1.Q.D (bE m Q.ids ⟨Q,[],false⟩).1.done).2.2≠0 then
   ({ (bE m Q.ids ⟨Q,[],false⟩).1.Q with D:=(iY (bE m Q.ids ⟨Q,[],false⟩).1.files ((bE m Q.ids ⟨Q,[],false⟩).1.Q.D.now.names dR) (bE m Q.ids ⟨Q,[],false⟩).1.Q.D (bE m Q.ids ⟨Q,[],false⟩).1.done).1 },(iY (bE m Q.ids ⟨Q,[],false⟩).1.files ((bE m Q.ids ⟨Q,[],false⟩).1.Q.D.now.names dR) (bE m Q.ids ⟨Q,[],false⟩).1.Q.D (bE m Q.ids ⟨Q,[],false⟩).1.done).2.2)
  else if (iY (bE m Q.ids ⟨Q,[],false⟩).1.files ((bE m Q.ids ⟨Q,[],false⟩).1.Q.D.now.names dR) (bE m Q.ids ⟨Q,[],false⟩).1.Q.D (bE m Q.ids ⟨Q,[],false⟩).1.done).2.1=false then
   ({ (bE m Q.ids ⟨Q,[],false⟩).1.Q with D:=(iY (bE m Q.ids ⟨Q,[],false⟩).1.files ((bE m Q.ids ⟨Q,[],false⟩).1.Q.D.now.names dR) (bE m Q.ids ⟨Q,[],false⟩).1.Q.D (bE m Q.ids ⟨Q,[],false⟩).1.done).1 },0)
  else ({ (bE m Q.ids ⟨Q,[],false⟩).1.Q with D:=(iY (bE m Q.ids ⟨Q,[],false⟩).1.files ((bE m Q.ids ⟨Q,[],false⟩).1.Q.D.now.names dR) (bE m Q.ids ⟨Q,[],false⟩).1.Q.D (bE m Q.ids ⟨Q,[],false⟩).1.done).1.sync.1 },(iY (bE m Q.ids ⟨Q,[],false⟩).1.files ((bE m Q.ids ⟨Q,[],false⟩).1.Q.D.now.names dR) (bE m Q.ids ⟨Q,[],false⟩).1.Q.D (bE m Q.ids ⟨Q,[],false⟩).1.done).1.sync.2):=rfl
section
variable {w0 w:World} {L:List aT} {P:nS} {c:Sc} {Q:Sq}
def mo (P:nS) (c:Sc) (q1 q2 q3 q4 mf:Nat) (r:Rec) (e:Int) (L:List aT):List aT :=
 ay P c r.Q (ae q2 #[.int .i64 e] 27::ae q3 #[.bool r.done] 4::ae q4 #[.map (some mf)] 155::mG 9 Value.bool mf r.files::ae q1 #[.pointer (some ⟨P.s,0,none⟩)] 26::L)
theorem JN (n F:Nat) (h:bg c n Q) (hF:((bE c.ai Q.ids ⟨Q,[],false⟩).1.Q.D.now.names dR).length≤F) (hF2:∀ f∈(bE c.ai Q.ids ⟨Q,[],false⟩).1.Q.D.now.names dR,f.length≤1000000) (hn:n+403*Q.rows.length+F+1000≤1000000) (E:Env w0) (S:Sp w0 [] w (ay P c Q L)) :
  Calls Tryz.prog 37 #[.pointer (some ⟨P.s,0,none⟩)] w fun e w2=>e=.returned (.int .i64 (Q.recover c.ai).2)∧Sp w0 [] w2 (ay P c (Q.recover c.ai).1 L):=by
 refine (callsIn_wide (n:=6)).1 ?_
 have HV:Hid (Q.recover c.ai=_):=Lib.hid (qH Q c.ai)
 have zD:=Lib.hid h
 have HN:=Lib.hid hn
 have HE:=Lib.hid E
 have HF:=Lib.hid hF
 have Ik:=Lib.hid hF2
 have Q4:Hid (∀ id∈Q.ids,id≤1099511627776):=fun id hid=>by
  unfold Sq.ids at hid
  obtain ⟨p,hp,rfl⟩:=List.mem_map.1 hid
  exact (h.fit p hp).1
 have UL:Hid (Q.ids.length=Q.rows.length):=by unfold Hid Sq.ids;rw [List.length_map]
 have HR:Hid (dY c.ai ⟨Q,[],false⟩ []=⟨Q,[],false⟩):=rfl
 have S1:=((((S.box #[.pointer (some ⟨P.s,0,none⟩)] 26).box #[.int .i64 0] 27).box #[.bool false] 4).zu 9 Value.bool)
 have S2:=S1.box #[.map (some (w.heap.size+1+1+1))] 155
 have hmm:=@run_makeMap Tryz.prog
 simp only [World.size_alloc] at S2
 have c1:=((Sp.pick [_,_,_,_,_] [4] (by decide) (S2))).cell
 have HS2:=Lib.hid S2
 clear S1 S2 h hF hF2 hn E S
 refine callsIn_of_wp_marks Tryz.func37 rfl trivial ?_ rfl
 simp only [Tryz.ntmps37,List.size_toArray,List.length_cons,List.length_nil,Nat.reduceAdd,Nat.reduceSub,Array.replicate_succ,Array.replicate_zero,List.push_toArray,List.append_toArray,List.nil_append,List.cons_append]
 gi_wp2_with fail
 refine ⟨trivial,(callsIn_wide.2 (Wn P.s HS2.out)).mono ?_⟩
 generalize w.heap.size+1+1+1+1=q4 at *
 generalize w.heap.size+1+1+1=mf at *
 generalize w.heap.size+1+1=q3 at *
 generalize w.heap.size+1=q2 at *
 generalize w.heap.size=q1 at *
 rintro e w2 ⟨g,rfl,S⟩
 have bI:Hid (Sp w0 [] w2 ((kH (gM c.ai ⟨Q,[],false⟩ [])::mo P c q1 q2 q3 q4 mf (dY c.ai ⟨Q,[],false⟩ []) 0 L)++[ae g #[.pointer (some ⟨P.s,0,none⟩)] 26])):=by
  have S':=S.pure (q:=gM c.ai ⟨Q,[],false⟩ []) trivial
  unfold mo ay
  unfold ay at S'
  have S2:Sp w0 [] w2 (ae g #[.pointer (some ⟨P.s,0,none⟩)] 26::(kH (gM c.ai ⟨Q,[],false⟩ [])::ae P.s (aA P c.ai Q.last) 90::aY 34 aJ.agg P.m Q.rows::aF P.d Q.D::jG P.b Q.B::dP P.l P.d c.step c.most Q.led::bz P.r P.d Q.ring::ae q2 #[.int .i64 0] 27::ae q3 #[.bool false] 4::ae q4 #[.map (some mf)] 155::mG 9 Value.bool mf []::ae q1 #[.pointer (some ⟨P.s,0,none⟩)] 26::L)):=(Sp.pick [_,_,_,_,_,_,_,_,_,_,_,_,_] [1,0,7,8,9,10,11,12,5,4,2,3,6] (by decide) (S'))
  exact S2.perm (List.perm_append_comm (l₁:=[_]))
 clear S HS2 c1 hmm
 obtain ⟨ids,xR⟩:∃ ids,Q.ids=ids:=⟨_,rfl⟩
 have CY:Q.rows.map (·.1)=ids:=xR
 rw [xR] at HV HF Ik Q4 UL
 have G6:=Lib.hid CY
 obtain ⟨r0,hr0⟩:∃ r0:Rec,(⟨Q,[],false⟩:Rec)=r0:=⟨_,rfl⟩
 rw [hr0] at HV HF Ik HR bI
 have hrq:r0.Q=Q∧r0.files=[]:=by rw [← hr0];exact ⟨rfl,rfl⟩
 have Xh:=Lib.hid hrq
 clear xR CY hr0 hrq
 gi_wp2_with fail
 refine ku (α:=Nat) (β:=List Nat×Nat) rfl (by omega) (gf:=71) (lb:=#[.pointer (some ⟨g,0,none⟩)]) rfl trivial (enters_of Tryz.func71 (by kernel_rfl) rfl) (encs:=o8) (fun _=>rfl)
  (A:=fun pre=>kH (gM c.ai r0 pre)::mo P c q1 q2 q3 q4 mf (dY c.ai r0 pre) 0 L)
  (K0:=[ae g #[.pointer (some ⟨P.s,0,none⟩)] 26])
  (Y:=fun xs=>xs <+: ids) (T:=fun xs=>xs=ids) ?hseq
  (fun _ y=>mo P c q1 q2 q3 q4 mf (bW c.ai (dY c.ai r0 y.1) y.2).1 (bW c.ai (dY c.ai r0 y.1) y.2).2 L)
  (fun cd y=>cd=.ret∧(∃ k,ids=y.1++y.2::k)∧gM c.ai r0 y.1∧(bW c.ai (dY c.ai r0 y.1) y.2).2≠0) bI.out
  (fun x=>{ tmps:=#[.pointer (some ⟨P.s,0,none⟩),.pointer (some ⟨q1,0,none⟩),.pointer (some ⟨q2,0,none⟩),.pointer (some ⟨q3,0,none⟩),.pointer (some ⟨q4,0,none⟩),.int .u64 x,undef,undef,undef,undef,undef,undef,undef,.map (some mf),.pointer (some ⟨P.s,0,none⟩),.func (.func 71) #[] #[.pointer (some ⟨g,0,none⟩)],.int .u64 x,undef,undef,undef,undef,undef,undef,undef,undef,undef,undef,undef,undef,undef,undef,undef,undef,undef,undef,undef,undef,undef,undef,undef,undef,undef,undef,undef,undef,undef,undef,undef,undef,undef,undef,undef,undef,undef,undef,undef,undef,undef,undef,undef,undef,undef],defers:=[] }) ?assign ?body ?done ?stop
 case hseq =>
  exact EG P.s g (aA P c.ai Q.last) rfl (by have:=HN.out;omega) ids G6.out _ _ (kH (gM c.ai r0 [])::aF P.d Q.D::jG P.b Q.B::dP P.l P.d c.step c.most Q.led::bz P.r P.d Q.ring::ae q2 #[.int .i64 0] 27::ae q3 #[.bool r0.done] 4::ae q4 #[.map (some mf)] 155::mG 9 Value.bool mf r0.files::ae q1 #[.pointer (some ⟨P.s,0,none⟩)] 26::L) (by
   show (kH (gM c.ai r0 [])::mo P c q1 q2 q3 q4 mf (dY c.ai r0 []) 0 L++[ae g #[.pointer (some ⟨P.s,0,none⟩)] 26]).Perm _
   rw [HR.out]
   unfold mo ay
   rw [Xh.out.1]
   refine (List.perm_append_comm (l₂:=[_])).trans (List.Perm.cons _ ?_)
   refine (List.perm_middle (l₁:=[_])).trans (List.Perm.cons _ ?_)
   exact (List.perm_middle (l₁:=[_])))
 case assign =>
  intro l x W K hK
  unfold o8
  gi_wp2
  exact hK
 case body =>
  intro l pre x K W hy hS
  have hsn:=G7 c.ai r0 pre x
  have hos:=wT c.ai x pre r0
  have hk:=bg.recs pre (show bg c n r0.Q by rw [Xh.out.1];exact zD.out) (fun id hid=>Q4.out id (hy.subset (by simp [hid])))
  have hpl:=hy.length_le
  rw [List.length_append,List.length_singleton] at hpl
  have hx1:=Q4.out x (hy.subset (by simp))
  have hfl:(dY c.ai r0 pre).files.length≤pre.length:=by have:=hk.2;rw [Xh.out.2] at this;simpa using this
  have HST:Hid (bW c.ai (dY c.ai r0 pre) x=_):=Lib.hid (bW.eq_1 c.ai (dY c.ai r0 pre) x)
  have ZJ:=Lib.hid hy
  have hS':Sp w0 [] W (kH (gM c.ai r0 pre)::mo P c q1 q2 q3 q4 mf (dY c.ai r0 pre) 0 (L++K)):=hS
  have Wo:=Lib.hid hS'.sure
  have hS2:=hS'.drop
  unfold mo at hS2
  obtain ⟨k,hkk⟩:∃ k,n+403*pre.length=k:=⟨_,rfl⟩
  rw [hkk] at hk
  have hkb:k≤999000:=by have:=HN.out;have:=UL.out;omega
  have HOX:Hid (ids.length≤1000000):=by have:=HN.out;have:=UL.out;unfold Hid;omega
  generalize hr:dY c.ai r0 pre=r at *
  have YB:=Lib.hid hr
  clear hr hS hS' hy
  have NU:=Lib.hid hsn
  have HOS:=Lib.hid hos
  obtain ⟨hk1,_⟩:=hk
  have HO:=Lib.hid (K4 (P:=P) (c:=c) x k (by omega) hk1.key hk1.fit hk1.room (by omega) (hk1.box (by omega)) HE.out hS2)
  have RZ:=Lib.hid (fun (w':World) (K':List aT) (S':Sp w0 [] w' (ay P c r.Q K'))=>wM x (by omega) hk1.fit HE.out S')
  have HDR:=Lib.hid (fun (w':World) (K':List aT) (S':Sp w0 [] w' (ay P c r.Q K'))=>K3 x k (by omega) hk1.fit (hk1.small (by omega)) hk1.room (by omega) HE.out S')
  have BV:Hid (r.files.length<maxLen):=by have:=HOX.out;unfold Hid maxLen;omega
  have Sm:Hid ((aU r.Q.rows x).length≤maxLen):=by have:=nL hk1.fit x (by omega);unfold Hid maxLen;omega
  have hmx:Tryz.prog.follows .mixedOrders=true:=by kernel_rfl
  have c1:=(show Sp w0 [] W (ae q1 #[.pointer (some ⟨P.s,0,none⟩)] 26::(L++K)) from (Sp.pick [_,_,_,_,_,_,_,_,_,_,_] [10] (by decide) (hS2))).cell
  clear hsn hos hkk hpl hx1 hfl hk1 hkb hS2
  generalize r.Q.open c.ai x=o at *
  obtain ⟨⟨xi,xd,xe,xc,xf,xr,xb,xn,xt⟩,body,right⟩:=o
  dsimp only at *
  gi_wp2_with fail
  refine ⟨trivial,(CallsIn.inRound l (callsIn_wide.2 HO.out)).mono ?_⟩
  rintro e w2 ⟨v,rfl,S⟩
  obtain ⟨va,vc,rfl⟩:=S.kM.form
  unfold eH
  dsimp only
  have S5:=S.drop.new (.cells (bQ ⟨xi,xd,xe,xc,xf,xr,xb,xn,xt⟩ (.slice va xr.length vc)) 40)
  unfold bQ at S5
  dsimp only at S5
  have c1:=(show Sp w0 [] _ (ae q1 #[.pointer (some ⟨P.s,0,none⟩)] 26::(L++K)) from (Sp.pick [_,_,_,_,_,_,_,_,_,_,_] [10] (by decide) (S5))).cell
  have gB:=Lib.hid S5
  clear S S5 HO
  cases right with
  | true =>
   rw [if_pos rfl] at HST
   have c4:=(show Sp w0 [] _ (ae q4 #[.map (some mf)] 155::(L++K)) from (Sp.pick [_,_,_,_,_,_,_,_,_,_,_] [8] (by decide) (gB.out))).cell
   gi_wp2_with fail
   generalize w2.alloc _=w3 at *
   gi_region_with_o (refine ⟨trivial,?_⟩;gi_at_call 48;refine (CallsIn.inRound l (callsIn_wide.2 (RZ.out _ _ gB.out.drew))).mono ?_;rintro e w4 ⟨rfl,S6⟩;unfold ay at S6;have c4b:=(show Sp w0 [] _ (ae q4 #[.map (some mf)] 155::(L++K)) from (Sp.pick [_,_,_,_,_,_,_,_,_,_,_] [8] (by decide) (S6))).cell;obtain ⟨w5,hrun,S7,_⟩:=((Sp.pick [_,_,_,_,_,_,_,_,_,_,_] [9,0,1,2,3,4,5,6,7,8,10] (by decide) (S6))).xD (t:=155) su Tryz.underlying155 BV.out (Ba _ Sm.out) true;have jN:=Lib.hid S7;clear S6 S7)
   all_goals
    gi_wp2
    show Sp w0 [] _ ((kH (gM c.ai r0 (pre++[x]))::mo P c q1 q2 q3 q4 mf (dY c.ai r0 (pre++[x])) 0 L)++K)
    rw [NU.out,HST.out]
    unfold mo ay
    exact ((Sp.pick [_,_,_,_,_,_,_,_,_,_,_] [1,2,3,4,5,6,7,8,9,0,10] (by decide) (jN.out))).pure (HOS.out.2 ⟨Wo.out,by rw [HST.out]⟩)
  | false =>
   rw [if_neg (by simp)] at HST
   generalize r.Q.drop x=dq at *
   obtain ⟨Q2,e2⟩:=dq
   dsimp only at *
   gi_wp2_with fail
   refine ⟨trivial,(CallsIn.inRound l (callsIn_wide.2 (HDR.out _ _ gB.out))).mono ?_⟩
   rintro e w4 ⟨rfl,S6⟩
   unfold ay at S6
   clear HDR gB c1
   by_cases he:e2=0
   ·subst he
    rw [if_neg (by simp)] at HST
    have S7:=(Sp.pick [_,_,_,_,_,_,_,_,_,_,_] [7,0,1,2,3,4,5,6,8,9,10] (by decide) (S6))
    have c3:=S7.cell
    have f3:=S7.free
    have jN:=Lib.hid (S7.set (o:=0) (.bool true))
    clear S6 S7
    gi_wp2
    show Sp w0 [] _ ((kH (gM c.ai r0 (pre++[x]))::mo P c q1 q2 q3 q4 mf (dY c.ai r0 (pre++[x])) 0 L)++K)
    rw [NU.out,HST.out]
    unfold mo ay
    exact ((Sp.pick [_,_,_,_,_,_,_,_,_,_,_] [1,2,3,4,5,6,7,0,8,9,10] (by decide) (jN.out))).pure (HOS.out.2 ⟨Wo.out,by rw [HST.out]⟩)
   ·have hb:(e2 != 0)=true:=by simpa using he
    rw [if_pos he] at HST
    have QX:=Lib.hid he
    have S7:=(Sp.pick [_,_,_,_,_,_,_,_,_,_,_] [6,0,1,2,3,4,5,7,8,9,10] (by decide) (S6))
    have c3:=S7.cell
    have f3:=S7.free
    have jN:=Lib.hid (S7.set (o:=0) (.int .i64 e2))
    clear S6 S7 he
    gi_wp2
    obtain ⟨kk,hkk⟩:=ZJ.out
    refine ⟨(pre,x),⟨rfl,⟨kk,by rw [← hkk];simp⟩,Wo.out,by dsimp only;rw [YB.out,HST.out];exact QX.out⟩,?_⟩
    dsimp only
    rw [YB.out,HST.out]
    unfold mo ay
    exact (Sp.pick [_,_,_,_,_,_,_,_,_,_,_] [1,2,3,4,5,6,0,7,8,9,10] (by decide) (jN.out))
 case done =>
  intro D xs K W hT hS
  subst hT
  have hS':Sp w0 [] W (gY D (.deferred (some []))::kH (gM c.ai r0 xs)::mo P c q1 q2 q3 q4 mf (dY c.ai r0 xs) 0 (L++(ae g #[.pointer (some ⟨P.s,0,none⟩)] 26::K))):=hS
  have hra:=JM hS'.ak.sure
  rw [hra] at HV HF Ik
  have hk:=bg.recs xs (show bg c n r0.Q by rw [Xh.out.1];exact zD.out) Q4.out
  generalize dY c.ai r0 xs=r at *
  obtain ⟨hk1,_⟩:=hk
  obtain ⟨k,hkk⟩:∃ k,n+403*xs.length=k:=⟨_,rfl⟩
  rw [hkk] at hk1
  have R7:Hid (k+F+1000≤1000000):=by have:=HN.out;have:=UL.out;unfold Hid;omega
  have Xi:=Lib.hid hk1
  have S2:=hS'.ak.drop
  unfold mo at S2
  rw [if_neg (by simp)] at HV
  dsimp only at HV HF Ik
  have HS2:=Lib.hid S2
  have hK:=S2.oQ
  clear hra hkk hS hS' S2 bI HR Xh G6 Q4 UL zD hk1
  unfold ay at HS2
  have c1:=(show Sp w0 [] W (ae q1 #[.pointer (some ⟨P.s,0,none⟩)] 26::(L++(ae g #[.pointer (some ⟨P.s,0,none⟩)] 26::K))) from (Sp.pick [_,_,_,_,_,_,_,_,_,_,_,_] [11] (by decide) (HS2.out))).cell
  have cs:=HS2.out.ak.cell
  unfold aA at cs
  have HL:=Lib.hid (UM dR ((Sp.pick [_,_,_,_,_,_,_,_,_,_,_,_] [3,0,1,2,4,5,6,7,8,9,10,11] (by decide) (HS2.out))) (by have:=Xi.out.room.now;have:=R7.out;omega))
  gi_wp2_with fail
  refine ⟨trivial,(callsIn_wide.2 HL.out).mono ?_⟩
  rintro e w3 ⟨fv,rfl,S⟩
  obtain ⟨fa,fc,rfl⟩:=S.tO
  have bI:=Lib.hid ((Sp.pick [_,_,_,_,_,_,_,_,_,_,_,_,_] [2,3,4,1,5,6,7,8,9,10,11,12,0] (by decide) (S)))
  clear S HL HS2 cs c1 hK
  generalize hfs:r.Q.D.now.names dR=fs at *
  clear hfs
  obtain ⟨m,hm⟩:∃ m,fs.length=m:=⟨_,rfl⟩
  rw [hm] at HF bI ⊢
  have HM:=Lib.hid hm
  have hmb:(m:Int)≤1000000:=by have:=HF.out;have:=R7.out;omega
  clear hm
  gi_wp2_with fail
  gi_loopw [41] (fun v wr=>∃ (i:Nat) (Di:Dk) (di:Bool),v=.int .i64 i∧i≤m∧iY r.files fs r.Q.D r.done=iY r.files (fs.drop i) Di di∧Di.Roomy (k+i)∧Sp w0 [] wr (gY D (.deferred (some []))::ae P.s (aA P c.ai r.Q.last) 90::aY 34 aJ.agg P.m r.Q.rows::aF P.d Di::jG P.b r.Q.B::dP P.l P.d c.step c.most r.Q.led::bz P.r P.d r.Q.ring::ae q2 #[.int .i64 0] 27::ae q3 #[.bool di] 4::ae q4 #[.map (some mf)] 155::mG 9 Value.bool mf r.files::ae q1 #[.pointer (some ⟨P.s,0,none⟩)] 26::nz (.slice fa m fc) fs::(L++(ae g #[.pointer (some ⟨P.s,0,none⟩)] 26::K)))) (fun v _=>m - (intOf v).toNat)
  case atStart=>exact ⟨0,r.Q.D,r.done,rfl,Nat.zero_le _,rfl,Xi.out.room,bI.out⟩
  case round =>
   clear bI
   obtain ⟨i,Di,di,rfl,hi,h2,hD,S⟩:=hrel
   by_cases hlt:i<m
   ·have VU:(i:Int)<m:=by omega
    have hlt':i<fs.length:=by rw [HM.out];exact hlt
    obtain ⟨x,hx⟩:∃ x,fs[i]=x:=⟨_,rfl⟩
    have hxi:fs[i]? = some x:=by rw [List.getElem?_eq_getElem hlt',hx]
    have hxm:x∈fs:=by rw [← hx];exact List.getElem_mem _
    have hdr:fs.drop i=x::fs.drop (i+1):=by rw [List.drop_eq_getElem_cons hlt',hx]
    rw [hdr,G9 r.files x _ (Di,di)] at h2
    have HST:Hid (mM r.files (Di,di) x=_):=Lib.hid (mM.eq_1 r.files (Di,di) x)
    have H2:=Lib.hid h2
    have hrm:=Ha r.files (q:=(Di,di)) hD x
    have Qn:=Lib.hid hrm
    have hxl:=Ik.out x hxm
    obtain ⟨gg,rfl,cx⟩:=((Sp.pick [_,_,_,_,_,_,_,_,_,_,_,_,_] [12,0,1,2,3,4,5,6,7,8,9,10,11] (by decide) (S))).Qm hxi
    have hlk:=((Sp.pick [_,_,_,_,_,_,_,_,_,_,_,_,_] [10,0,1,2,3,4,5,6,7,8,9,11,12] (by decide) (S))).map.look (t:=155) su Tryz.underlying155 (z:=.bool false) (by kernel_rfl) (Ba x (by unfold maxLen;omega))
    have hbv:((r.files.get x).map Value.bool).getD (.bool false)=.bool (decide (r.files.get x=some true)):=by
     cases r.files.get x with
     | none=>rfl
     | some b=>cases b <;> rfl
    rw [hbv] at hlk
    have c4:=((Sp.pick [_,_,_,_,_,_,_,_,_,_,_,_,_] [9,0,1,2,3,4,5,6,7,8,10,11,12] (by decide) (S))).cell
    have c1:=((Sp.pick [_,_,_,_,_,_,_,_,_,_,_,_,_] [11,0,1,2,3,4,5,6,7,8,9,10,12] (by decide) (S))).cell
    have Xj:=Lib.hid (fun (w':World) (K':List aT) (S':Sp w0 [] w' (ay P c { r.Q with D:=Di } K'))=>KZ x (by omega) (hD.small (by have:=R7.out;have:=HF.out;show k+i≤100000000000;omega)) S')
    have HS:=Lib.hid S
    have xB:=Lib.hid hlt
    clear S h2 hD hrm hxi hxm hdr hlt hlt' hx hbv hxl hi
    by_cases hb:r.files.get x=some true
    ·have hbt:decide (r.files.get x=some true)=true:=decide_eq_true hb
     rw [hbt] at hlk
     have bX:Hid (mM r.files (Di,di) x=((Di,di),0)):=by unfold Hid;rw [HST.out,if_pos hb]
     clear HST hbt hb Xj
     gi_wp2
     go_roundw
     case rel=>exact ⟨i+1,Di,di,by go_num,xB.out,by rw [H2.out,bX.out,if_neg (by simp)],by have h:=Qn.out;rw [bX.out] at h;exact h,HS.out⟩
     case measure=>(have:=xB.out;simp [intOf];try omega)
    ·have hbt:decide (r.files.get x=some true)=false:=decide_eq_false hb
     rw [hbt] at hlk
     rw [if_neg hb] at HST
     dsimp only at HST
     clear hbt hb
     gi_wp2_with fail
     have HZ:Hid (Sp w0 [] wr (ay P c { r.Q with D:=Di } (gY D (.deferred (some []))::ae q2 #[.int .i64 0] 27::ae q3 #[.bool di] 4::ae q4 #[.map (some mf)] 155::mG 9 Value.bool mf r.files::ae q1 #[.pointer (some ⟨P.s,0,none⟩)] 26::nz (.slice (some ⟨gg,0,none⟩) m fc) fs::(L++(ae g #[.pointer (some ⟨P.s,0,none⟩)] 26::K))))):=by
      unfold ay
      exact (Sp.pick [_,_,_,_,_,_,_,_,_,_,_,_,_] [1,2,3,4,5,6,0,7,8,9,10,11,12] (by decide) (HS.out))
     refine ⟨trivial,(callsIn_wide.2 (Xj.out _ _ HZ.out)).mono ?_⟩
     rintro e w4 ⟨rfl,S⟩
     try dsimp only at S
     generalize fE Di x=aw at *
     obtain ⟨Da,ea⟩:=aw
     try dsimp only at *
     unfold ay at S
     try dsimp only at S
     clear HZ HS hlk c1 c4 cx Xj
     by_cases he:ea=0
     ·subst he
      rw [if_neg (by simp)] at HST
      have S7:=(Sp.pick [_,_,_,_,_,_,_,_,_,_,_,_,_] [8,0,1,2,3,4,5,6,7,9,10,11,12] (by decide) (S))
      have c3:=S7.cell
      have f3:=S7.free
      have jN:=Lib.hid (S7.set (o:=0) (.bool true))
      clear S S7
      gi_wp2
      go_roundw
      case rel=>exact ⟨i+1,Da,true,by go_num,xB.out,by rw [H2.out,HST.out,if_neg (by simp)],by have h:=Qn.out;rw [HST.out] at h;exact h,(Sp.pick [_,_,_,_,_,_,_,_,_,_,_,_,_] [7,1,2,3,4,5,6,8,0,9,10,11,12] (by decide) (jN.out))⟩
      case measure=>(have:=xB.out;simp [intOf];try omega)
     ·have hb:(ea != 0)=true:=by simpa using he
      rw [if_pos he] at HST
      rw [HST.out,if_pos he] at H2
      have gq:Hid (Q.recover c.ai=({ r.Q with D:=Da },ea)):=by unfold Hid;rw [HV.out,H2.out,if_pos he]
      have S7:=(Sp.pick [_,_,_,_,_,_,_,_,_,_,_,_,_] [7,0,1,2,3,4,5,6,8,9,10,11,12] (by decide) (S))
      have c3:=S7.cell
      have f3:=S7.free
      have S8:=S7.set (o:=0) (.int .i64 ea)
      have hK:=((Sp.pick [_,_,_,_,_,_,_,_,_,_,_,_,_] [7,0,1,2,3,4,5,6,8,9,10,11,12] (by decide) (S8))).oQ
      have S9:=((Sp.pick [_,_,_,_,_,_,_,_,_,_,_,_,_] [7,0,1,2,3,4,5,6,8,9,10,11,12] (by decide) (S8))).mF (.deferred none)
      have c2:=S9.ak.cell
      have h9:=(Sp.pick [_,_,_,_,_,_,_,_,_,_,_,_,_] [2,3,4,5,6,7] (by decide) (S9))
      have HZ:=Lib.hid (Sp.oh (A:=ay P c { r.Q with D:=Da } L) h9)
      clear h9
      clear S S7 S8 S9 he HV H2 HST Qn
      gi_wp2
      refine ⟨by simp,.inl ⟨_,_,rfl,run_takeDeferred hK,?_⟩⟩
      exact ⟨.int .i64 ea,by simp [results,Tryz.results37,go_sem,c2],by rw [gq.out],by rw [gq.out];exact HZ.out⟩
   ·obtain rfl:i=m:=by omega
    have hdr:fs.drop i=[]:=List.drop_of_length_le (by rw [HM.out];exact Nat.le_refl _)
    rw [hdr] at h2
    have h3:iY r.files fs r.Q.D r.done=(Di,di,0):=h2
    rw [h3,if_neg (by simp)] at HV
    have Wp:=Lib.hid (fun (w':World) (K':List aT) (S':Sp w0 [] w' (aF P.d Di::K'))=>yz S' (hD.small (by have:=R7.out;have:=HF.out;show k+i≤100000000000;omega)))
    have HS:=Lib.hid S
    have c3:=((Sp.pick [_,_,_,_,_,_,_,_,_,_,_,_,_] [8,0,1,2,3,4,5,6,7,9,10,11,12] (by decide) (S))).cell
    clear S h2 h3 hD hdr hlt hi
    cases di with
    | false =>
     rw [if_pos rfl] at HV
     have S7:=(Sp.pick [_,_,_,_,_,_,_,_,_,_,_,_,_] [7,0,1,2,3,4,5,6,8,9,10,11,12] (by decide) (HS.out))
     have c2:=S7.cell
     have f2:=S7.free
     have S8:=S7.set (o:=0) (.int .i64 0)
     have hK:=((Sp.pick [_,_,_,_,_,_,_,_,_,_,_,_,_] [1,0,2,3,4,5,6,7,8,9,10,11,12] (by decide) (S8))).oQ
     have S9:=((Sp.pick [_,_,_,_,_,_,_,_,_,_,_,_,_] [1,0,2,3,4,5,6,7,8,9,10,11,12] (by decide) (S8))).mF (.deferred none)
     have c5:=S9.ak.cell
     have h9:=(Sp.pick [_,_,_,_,_,_,_,_,_,_,_,_,_] [2,3,4,5,6,7] (by decide) (S9))
     have HZ:=Lib.hid (Sp.oh (A:=ay P c { r.Q with D:=Di } L) h9)
     clear h9
     clear S7 S8 S9 HS Wp
     gi_wp2
     refine ⟨by simp,.inl ⟨_,_,rfl,run_takeDeferred hK,?_⟩⟩
     exact ⟨.int .i64 0,by simp [results,Tryz.results37,go_sem,c5],by rw [HV.out],by rw [HV.out];exact HZ.out⟩
    | true =>
     rw [if_neg (by simp)] at HV
     have c1:=((Sp.pick [_,_,_,_,_,_,_,_,_,_,_,_,_] [11,0,1,2,3,4,5,6,7,8,9,10,12] (by decide) (HS.out))).cell
     have cs:=((Sp.pick [_,_,_,_,_,_,_,_,_,_,_,_,_] [1,0,2,3,4,5,6,7,8,9,10,11,12] (by decide) (HS.out))).cell
     unfold aA at cs
     gi_wp2_with fail
     refine ⟨trivial,(callsIn_wide.2 (Wp.out _ _ ((Sp.pick [_,_,_,_,_,_,_,_,_,_,_,_,_] [3,0,1,2,4,5,6,7,8,9,10,11,12] (by decide) (HS.out))))).mono ?_⟩
     generalize Di.sync=sy at *
     obtain ⟨Ds,es⟩:=sy
     try dsimp only at *
     rintro e w4 ⟨rfl,S⟩
     have S7:=(Sp.pick [_,_,_,_,_,_,_,_,_,_,_,_,_] [7,0,1,2,3,4,5,6,8,9,10,11,12] (by decide) (S))
     have c2:=S7.cell
     have f2:=S7.free
     have S8:=S7.set (o:=0) (.int .i64 es)
     have hK:=((Sp.pick [_,_,_,_,_,_,_,_,_,_,_,_,_] [2,0,1,3,4,5,6,7,8,9,10,11,12] (by decide) (S8))).oQ
     have S9:=((Sp.pick [_,_,_,_,_,_,_,_,_,_,_,_,_] [2,0,1,3,4,5,6,7,8,9,10,11,12] (by decide) (S8))).mF (.deferred none)
     have c5:=S9.ak.cell
     have h9:=(Sp.pick [_,_,_,_,_,_,_,_,_,_,_,_,_] [3,4,2,5,6,7] (by decide) (S9))
     have HZ:=Lib.hid (Sp.oh (A:=ay P c { r.Q with D:=Ds } L) h9)
     clear h9
     clear S S7 S8 S9 HS Wp c1 cs c3
     gi_wp2
     refine ⟨by simp,.inl ⟨_,_,rfl,run_takeDeferred hK,?_⟩⟩
     exact ⟨.int .i64 es,by simp [results,Tryz.results37,go_sem,c5],by rw [HV.out],by rw [HV.out];exact HZ.out⟩
 case stop =>
  rintro D cd y K W ⟨rfl,⟨kk,hk⟩,ho,hz⟩ hS
  have hst:=G8 (k:=kk) ho hz
  rw [← hk] at hst
  rw [hst,if_pos hz] at HV
  clear hst hk ho HF Ik
  generalize bW c.ai (dY c.ai r0 y.1) y.2=st at *
  obtain ⟨r,er⟩:=st
  have hS':Sp w0 [] W (gY D (.deferred (some []))::mo P c q1 q2 q3 q4 mf r er (L++K)):=hS
  have hK:=hS'.oQ
  have S2:=hS'.mF (.deferred none)
  unfold mo ay at S2
  have c2:=(show Sp w0 [] (W.putObj D (.deferred none)) (ae q2 #[.int .i64 er] 27::(L++K)) from (Sp.pick [_,_,_,_,_,_,_,_,_,_,_,_] [7] (by decide) (S2))).cell
  have HZ:Hid (Sp w0 [] (W.putObj D (.deferred none)) (ay P c r.Q L)):=by
   unfold ay
   exact Sp.oh (A:=[_,_,_,_,_,_]++L) ((Sp.pick [_,_,_,_,_,_,_,_,_,_,_,_] [1,2,3,4,5,6] (by decide) (S2)))
  clear hS hS' S2 hz bI HR Xh G6 Q4 UL zD
  gi_wp2
  refine ⟨by simp,.inl ⟨_,_,rfl,run_takeDeferred hK,?_⟩⟩
  exact ⟨.int .i64 er,by simp [results,Tryz.results37,go_sem,c2],by rw [HV.out],by rw [HV.out];exact HZ.out⟩
end
end
end Go.Proofs.YtangbdahnmomlaaGreatDoor
