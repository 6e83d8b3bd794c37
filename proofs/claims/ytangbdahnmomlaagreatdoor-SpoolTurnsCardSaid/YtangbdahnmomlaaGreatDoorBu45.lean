/- SpoolTurns, plainly: messages of two domains, one of which turns. No program. law 16: one of any domain; are entries alike. Conditions: the -/
import Derived.Test.YtangbdahnmomlaaGreatDoorBu14
import Derived.Test.YtangbdahnmomlaaGreatDoorBu44
set_option linter.unnecessarySimpa false
set_option linter.unusedSimpArgs false
set_option linter.unusedVariables false
set_option maxHeartbeats 4000000
set_option maxRecDepth 100000
namespace Go.Proofs.YtangbdahnmomlaaGreatDoor
section
open Go.RowKit Go.Maps
def fC (d:Bs):En:=⟨0,d,0,0,([],[]),[(([120],[99]),0)],0,0,0⟩
def Y3:Bs:=[97,46,101,120,97,109,112,108,101]
def Y4:Bs:=[98,46,101,120,97,109,112,108,101]
def aD (b:Bool):Bs:=if b then Y4 else Y3
theorem tT {a b:Bool}:aD a=aD b↔a=b:=by
 cases a <;> cases b <;> simp [aD,Y3,Y4]
theorem ll (b:Bool):(aD b).length=9:=by cases b <;> rfl
theorem Lx (b:Bool) (id ep cnt:Nat) (h1:1≤id∧id≤1099511627776) (h2:1≤ep∧ep≤1099511627776) (h3:cnt≤1099511627776):dz { fC (aD b) with id:=id,ep:=ep,cnt:=cnt }=true:=by
 have hd:oC (aD b)=true:=by cases b <;> decide +kernel
 have hr:jR [(([120],[99]),0)]=true:=by decide +kernel
 unfold dz sV fC
 dsimp only
 rw [hd,hr]
 simp [nk,h1.1,h1.2,h2.1,h2.2,h3]
abbrev cT:Sc:=⟨cO,3,1000⟩
def J8 (Q:Sq) (id:Nat) (b:Bool) (ep:Nat) (body:Bs):Prop:=∃ cnt,Q.rows.get id=some ⟨aD b,ep,cnt⟩∧jJ cO Q.B Q.D.now id ⟨aD b,ep,cnt⟩ { fC (aD b) with id:=id,ep:=ep,cnt:=cnt } body
structure Tn (Q:Sq) (l:List (Bool×Bs)) (ef:Nat→Nat) (t:Nat):Prop where
 up:Up cO Q
 ok:bg cT (100+23000*t) Q
 real:Q.B=.real
 bL:Q.D.bL=1048576
 led:∀ k,(bK Q.led k).c≤t
 len:Q.rows.length≤t
 last:Q.last=l.length
 small:l.length≤20
 bodies:∀ p∈l,p.2.length≤1200
 msg:∀ i (h:i<l.length),J8 Q (i+1) l[i].1 (ef i) l[i].2
 none:∀ id r,Q.rows.get id=some r→1≤id∧id≤l.length
theorem Tn.room {Q:Sq} {l:List (Bool×Bs)} {ef:Nat→Nat} {t:Nat} (h:Tn Q l ef t) (ht:t≤41):Room Q cT where
 bL:=h.bL
 rows:=by have:=h.len;omega
 real:=h.real
 led:=fun k=>by have:=h.led k;show _<1000;omega
theorem QN:Tn (zk .real) [] (fun _=>1) 0 where
 up:=YH _ _
 ok:=ok16 m32 (by decide) trivial (by decide)
 real:=rfl
 bL:=of_decide_eq_true (by kernel_rfl)
 led:=fun k=>by simp [zk,bK,Mp.get]
 len:=Nat.zero_le _
 last:=rfl
 small:=Nat.zero_le _
 bodies:=fun _ h=>nomatch h
 msg:=fun i h=>absurd h (Nat.not_lt_zero i)
 none:=fun id r h=>by simp [zk,Mn.get] at h
theorem QO {Q:Sq} (h:Q.B=.real) (id:Nat) (r:aJ):(Q.lay id r).1.B=.real:=by
 rw [nO]
 split
 ·exact h
 ·exact h
theorem J9 {Q:Sq} (h:Q.B=.real) (file text:Bs) (id:Nat) (r:aJ) (old:Option Bs):(Q.wrote file text id r old).1.B=.real:=by
 have h2:=QO (Q:={ Q with D:=(Q.D.write file text).1 }) h id r
 rw [mq]
 repeat' split
 all_goals first | exact h | exact h2
theorem ze {Q:Sq} (h:Q.B=.real) (c:Sc) (e:En) (body:Bs):(Q.aZ c e body).1.B=.real:=by
 unfold Sq.aZ
 split
 ·exact h
 ·split
  ·exact h
  ·show (dh Q.B _ _ _).2=.real
   unfold dh
   rw [h]
   dsimp only
   split <;> rfl
theorem Ka {Q:Sq} (h:Q.B=.real) (c:Sc) (e:En) (body:Bs):(Q.write c e body).1.B=.real:=by
 rw [kI]
 split
 ·exact ze h c e body
 ·exact J9 (ze h c e body) _ _ _ _ _
theorem Tn.write {Q:Sq} {l:List (Bool×Bs)} {ef:Nat→Nat} {t:Nat} (h:Tn Q l ef t) (ht:t≤40) (b:Bool) (e:En) (body:Bs) (he:∃ id ep cnt,e={ fC (aD b) with id:=id,ep:=ep,cnt:=cnt }∧1≤id∧id≤1099511627776) (hb:body.length≤1200)
  (KQ:1≤Q.dV (aD b)) (hown:∀ r0,Q.rows.get e.id=some r0→r0.dom=e.dom) :
  (Q.write cT e body).2=0∧Up cO (Q.write cT e body).1∧bg cT (100+23000*(t+1)) (Q.write cT e body).1∧(Q.write cT e body).1.B=.real∧(Q.write cT e body).1.D.bL=1048576∧(∀ k,(bK (Q.write cT e body).1.led k).c≤t+1)∧(Q.write cT e body).1.rows.length≤t+1 ∧
   (Q.write cT e body).1.last=max Q.last e.id∧(Q.write cT e body).1.ring=Q.ring∧(∀ j r,(Q.write cT e body).1.rows.get j=some r→j=e.id∨Q.rows.get j=some r)∧J8 (Q.write cT e body).1 e.id b (Q.dV (aD b)) body ∧
   ∀ j b2 ep2 QP,j≠e.id→J8 Q j b2 ep2 QP→J8 (Q.write cT e body).1 j b2 ep2 QP:=by
 obtain ⟨id,ep,cnt,rfl,hi1,hi2⟩:=he
 have hE:=h.ok.entry { fC (aD b) with id:=id,ep:=ep,cnt:=cnt }
 have Hr:dz (Q.entry cT { fC (aD b) with id:=id,ep:=ep,cnt:=cnt })=true:=Lx b id _ _ ⟨hi1,hi2⟩ ⟨KQ,by have:=hE.1;show (Q.entry cT _).ep≤_;omega⟩ hE.2
 have h0:=J7 h.up h.ok rfl (by omega) (h.room (by omega)) { fC (aD b) with id:=id,ep:=ep,cnt:=cnt } body (by omega) Hr
 obtain ⟨a1,a2,a3,a4,a5,a6,a7⟩:=h.up.wrote h.ok rfl { fC (aD b) with id:=id,ep:=ep,cnt:=cnt } body hi2 hown h0
 have hq:=Ie Q cT { fC (aD b) with id:=id,ep:=ep,cnt:=cnt } body
 have hl:=(JY Q cT { fC (aD b) with id:=id,ep:=ep,cnt:=cnt } body).1
 have hok:=h.ok.write { fC (aD b) with id:=id,ep:=ep,cnt:=cnt } body hi2
 have hB:=Ka h.real cT { fC (aD b) with id:=id,ep:=ep,cnt:=cnt } body
 have hne:(Q.row cT { fC (aD b) with id:=id,ep:=ep,cnt:=cnt }).ep≠0:=by
  show Q.dV (aD b)≠0
  omega
 refine ⟨h0,a1,hok.mono (by omega),hB,by rw [hq];exact h.bL,fun k=>?_,by have:=h.len;omega,a2,a4,fun j r hj=>?_,⟨(Q.entry cT { fC (aD b) with id:=id,ep:=ep,cnt:=cnt }).cnt,?_,a5⟩,fun j b2 ep2 QP hj hm=>?_⟩
 ·have h1:=NN Q cT { fC (aD b) with id:=id,ep:=ep,cnt:=cnt } body k
  have h2:=h.led k
  omega
 ·rw [a3,gQ] at hj
  split at hj
  ·rename_i e
   exact .inl e
  ·exact .inr hj
 ·rw [a3,gQ,if_pos rfl,if_neg hne]
  rfl
 ·obtain ⟨cnt2,g1,g2⟩:=hm
  refine ⟨cnt2,?_,(g2.le a6).get (a7 j _ hj g1)⟩
  rw [a3,gQ,if_neg hj]
  exact g1
theorem Tn.put {Q:Sq} {l:List (Bool×Bs)} {ef:Nat→Nat} {t:Nat} (h:Tn Q l ef t) (ht:t≤20) (hl:l.length<20) (b:Bool) (body:Bs) (hb:body.length≤1200) (hr:Q.dV (aD b)=1) (hef:ef l.length=1) :
  (Q.put cT (fC (aD b)) body).2=(l.length+1,0)∧Tn (Q.put cT (fC (aD b)) body).1 (l++[(b,body)]) ef (t+1)∧(Q.put cT (fC (aD b)) body).1.ring=Q.ring:=by
 have hlast:=h.last
 have hno:∀ r0,Q.rows.get (Q.last+1)=some r0→False:=fun r0 hr0=>by
  have:=(h.none _ _ hr0).2
  omega
 obtain ⟨w1,w2,w3,w4,w5,w6,w7,w8,w9,Po,NZ,mZ⟩:=h.write (by omega) b { fC (aD b) with id:=Q.last+1 } body ⟨Q.last+1,0,0,rfl,by omega,by omega⟩ hb (by omega) (fun r0 hr0=>(hno r0 hr0).elim)
 have hm:sF (fC (aD b)) 1=true:=Lx b 1 1 0 (by decide) (by decide) (by decide)
 have e0:Q.put cT (fC (aD b)) body=((Q.write cT { fC (aD b) with id:=Q.last+1 } body).1,Q.last+1,0):=by
  rw [put_eq,if_neg (by rw [hm];simp),if_neg (by omega),if_neg (by omega),if_neg (by rw [w1];simp)]
 rw [e0]
 generalize (Q.write cT { fC (aD b) with id:=Q.last+1 } body).1=Q2 at *
 dsimp only at *
 refine ⟨by rw [hlast],⟨w2,w3,w4,w5,w6,w7,?_,by simp;omega,?_,?_,?_⟩,w9⟩
 ·rw [w8,hlast];simp
 ·intro p hp
  rw [List.mem_append] at hp
  rcases hp with hp | hp
  ·exact h.bodies p hp
  ·rw [List.mem_singleton.1 hp];exact hb
 ·intro i hi
  by_cases hi2:i<l.length
  ·rw [List.getElem_append_left hi2]
   exact mZ _ _ _ _ (by omega) (h.msg i hi2)
  ·have hi3:i=l.length:=by simp at hi;omega
   subst hi3
   rw [List.getElem_append_right (Nat.le_refl _)]
   simp only [Nat.sub_self,List.getElem_cons_zero]
   have h9:=NZ
   rw [hr,hlast] at h9
   rw [hef]
   exact h9
 ·intro id r hg
  rcases Po id r hg with rfl | hg
  ·simp;omega
  ·have:=h.none id r hg
   simp;omega
theorem zf {D:Dk} {M:Mp jF} {x:Bs} {s:jF} (hc:Calm D) (hne:s≠ax M x) (hR:D.now.get bn≠none) (hx:x.length≤255) (hb:(D.now.bytes:Int)+400≤D.bL) :
  (bO D M x s).2.2=0∧(bO D M x s).2.1=M.put x s∧∀ k,k≠bn→(bO D M x s).1.now.get k=D.now.get k:=by
 have hrow:=jb x s
 have h1:=qP hc hR (d:=bq x s) (by omega)
 rw [qJ,if_neg hne,if_neg (by rw [h1];simp)]
 refine ⟨rfl,rfl,fun k hk=>?_⟩
 rcases (j5 D bn (bq x s)).alive hc.1 hc.2 with ⟨_,g,_⟩ | ⟨_,_,g,_⟩
 ·exact absurd h1 g
 ·dsimp only
  rw [g,aW,if_neg (Ne.symm hk)]
theorem J8.disk {Q Q2:Sq} {id ep:Nat} {b:Bool} {body:Bs} (h:J8 Q id b ep body) (h1:Q2.rows=Q.rows) (h2:Q2.B=Q.B) (h3:∀ k,k≠bn→Q2.D.now.get k=Q.D.now.get k):J8 Q2 id b ep body:=by
 obtain ⟨cnt,g1,g2⟩:=h
 refine ⟨cnt,by rw [h1];exact g1,?_⟩
 rw [h2]
 exact g2.get (h3 _ (tL _ _ _))
theorem Tn.begin {Q:Sq} {l:List (Bool×Bs)} {ef:Nat→Nat} {t:Nat} (h:Tn Q l ef t) (ht:t≤40) (o:Bool) (hr:ax Q.ring (aD o)=⟨1,0⟩) :
  (Q.begin (aD o)).2=0∧Tn (Q.begin (aD o)).1 l ef (t+1)∧∀ x,ax (Q.begin (aD o)).1.ring x=if aD o=x then ⟨2,1⟩ else ax Q.ring x:=by
 have hby:=h.ok.room.bytes
 have hq:=h.bL
 obtain ⟨s1,s2,s3⟩:=zf (M:=Q.ring) (x:=aD o) (s:=⟨2,1⟩) h.up.calm (by rw [hr];simp) h.up.JQ (by rw [ll];decide) (by omega)
 have e0:Q.begin (aD o)=({ Q with D:=(bO Q.D Q.ring (aD o) ⟨2,1⟩).1,ring:=(bO Q.D Q.ring (aD o) ⟨2,1⟩).2.1 },0):=by
  unfold Sq.begin fA
  rw [hr]
  dsimp only
  rw [if_neg (by rw [ll];decide),if_neg (by simp),if_neg (by decide),if_neg (by rw [s1];simp)]
 have hu:=h.up.begin h.ok (aD o)
 have hk:=h.ok.begin (aD o)
 have hqq:=uA Q.D Q.ring (aD o) ⟨2,1⟩
 rw [e0] at hu hk ⊢
 refine ⟨rfl,⟨hu,hk.mono (by omega),h.real,by dsimp only;rw [hqq];exact hq,fun k=>by have:=h.led k;dsimp only;omega,by have:=h.len;dsimp only;omega,h.last,h.small,h.bodies,fun i hi=>(h.msg i hi).disk rfl rfl s3,h.none⟩,fun x=>?_⟩
 dsimp only
 rw [s2,nP]
theorem Tn.load {Q:Sq} {l:List (Bool×Bs)} {ef:Nat→Nat} {t:Nat} (h:Tn Q l ef t) {i:Nat} (hi:i<l.length):∃ cnt,Q.rows.get (i+1)=some ⟨aD l[i].1,ef i,cnt⟩∧Q.load cO (i+1)=(Q,{ fC (aD l[i].1) with id:=i+1,ep:=ef i,cnt:=cnt },l[i].2,0):=by
 obtain ⟨cnt,g1,g2⟩:=h.msg i hi
 obtain ⟨lf,hh⟩:=h.up.holds
 obtain ⟨e,body,ho,hl⟩:=Dl hh h.ok.fit g1
 obtain ⟨⟨t1,a1,a2⟩,_⟩:=ho
 obtain ⟨⟨t2,b1,b2⟩,_⟩:=g2
 rw [a1] at b1
 cases b1
 rw [a2] at b2
 cases b2
 exact ⟨cnt,g1,hl⟩
def mr (l:List (Bool×Bs)) (ef:Nat→Nat) (o:Bool):Nat:=(List.range l.length).countP fun i=>decide ((l[i]?).map (·.1)=some o) && decide (ef i=1)
theorem BG {p q:Nat→Bool} {i:Nat} (hp:p i=true) (hq:q i=false) (hs:∀ j,j≠i→q j=p j):∀ r:List Nat,r.Nodup→i∈r→r.countP q+1=r.countP p
 | [],_,h=>nomatch h
 | x::r,hn,h=>by
  rw [List.nodup_cons] at hn
  rw [List.countP_cons,List.countP_cons]
  rcases List.mem_cons.1 h with rfl | h
  ·rw [hp,hq]
   have:r.countP q=r.countP p:=List.countP_congr fun j hj=>by rw [hs j (fun e=>hn.1 (e ▸ hj))]
   rw [this]
   simp
  ·have:=BG hp hq hs r hn.2 h
   rw [hs x (fun e=>hn.1 (e ▸ h))]
   omega
theorem Kb {l:List (Bool×Bs)} {ef:Nat→Nat} {o:Bool} {i:Nat} (hi:i<l.length) (ho:l[i].1=o) (he:ef i=1):mr l (fun j=>if j=i then 2 else ef j) o+1=mr l ef o :=
 BG (i:=i) (by simp [List.getElem?_eq_getElem hi,ho,he]) (by simp) (fun j hj=>by simp [hj]) _ List.nodup_range (List.mem_range.2 hi)
theorem BH {l:List (Bool×Bs)} {ef:Nat→Nat} {o:Bool} (h:mr l ef o=0) {i:Nat} (hi:i<l.length) (ho:l[i].1=o):ef i≠1:=fun he=>by
 unfold mr at h
 rw [List.countP_eq_zero] at h
 have:=h i (List.mem_range.2 hi)
 simp [List.getElem?_eq_getElem hi,ho,he] at this
theorem NP {l:List (Bool×Bs)} {ef:Nat→Nat} {o:Bool} (h:0<mr l ef o):∃ i,∃ hi:i<l.length,l[i].1=o∧ef i=1:=by
 unfold mr at h
 obtain ⟨i,hi,hp⟩:=List.countP_pos_iff.1 h
 rw [List.mem_range] at hi
 rw [List.getElem?_eq_getElem hi] at hp
 simp at hp
 exact ⟨i,hi,hp.1,hp.2⟩
theorem BI (l:List (Bool×Bs)) (x:Bool×Bs) (o:Bool):mr (l++[x]) (fun _=>1) o=mr l (fun _=>1) o+(if x.1=o then 1 else 0):=by
 unfold mr
 rw [List.length_append,List.length_singleton,List.range_succ,List.countP_append]
 congr 1
 ·refine List.countP_congr fun i hi=>?_
  rw [List.mem_range] at hi
  rw [List.getElem?_append_left hi]
 ·rw [List.countP_singleton,List.getElem?_append_right (Nat.le_refl _)]
  simp
theorem QQ (l:List (Bool×Bs)) (ef:Nat→Nat) (o:Bool):mr l ef o≤l.length:=by
 have:=List.countP_le_length (l:=List.range l.length) (p:=fun i=>decide ((l[i]?).map (·.1)=some o) && decide (ef i=1))
 rw [List.length_range] at this
 exact this
theorem qQ {M:Mn aJ} {d:Bs} {o id:Nat}:∀ {l:List Nat},bZ M d o l=some id→(rowAt M id).dom=d∧(rowAt M id).ep=o
 | x::l,h=>by
  unfold bZ at h
  split at h
  ·rename_i hx
   cases h
   exact hx
  ·exact qQ h
theorem Kc {Q:Sq} {c:Sc} {d:Bs} {id:Nat} {e:En} {body:Bs} (h:(ax Q.ring d).old≠0) (hel:bZ Q.rows d (ax Q.ring d).old Q.ids=some id) (hl:Q.load c.ai id=(Q,e,body,0)):Q.step c d=((Q.write c e body).1,false,(Q.write c e body).2):=by
 rw [step_eq,if_neg h,hel]
 dsimp only
 rw [hl]
 dsimp only
 rw [if_pos rfl]
structure oq (Q:Sq) (l:List (Bool×Bs)) (ef:Nat→Nat) (t:Nat) (o:Bool):Prop where
 tn:Tn Q l ef t
 ring:∀ b,ax Q.ring (aD b)=if b=o then ⟨2,1⟩ else ⟨1,0⟩
 two:∀ i (h:i<l.length),ef i=1∨(ef i=2∧l[i].1=o)
theorem oq.step {Q:Sq} {l:List (Bool×Bs)} {ef:Nat→Nat} {t:Nat} {o:Bool} (h:oq Q l ef t o) (ht:t≤40) (hk:0<mr l ef o) :
  ∃ ZN,(Q.step cT (aD o)).2=(false,0)∧oq (Q.step cT (aD o)).1 l ZN (t+1) o∧mr l ZN o+1=mr l ef o:=by
 have hro:=h.ring o
 rw [if_pos rfl] at hro
 obtain ⟨i0,hi0,ho0,he0⟩:=NP hk
 obtain ⟨RA,g0,_⟩:=h.tn.load hi0
 cases hel:bZ Q.rows (aD o) 1 Q.ids with
 | none =>
  exfalso
  have:=qL hel (i0+1) (JR g0)
  rw [j6 g0] at this
  exact this ⟨by rw [ho0],he0⟩
 | some id =>
  have h1:=qQ hel
  have h2:=sN hel
  obtain ⟨r,hr⟩:∃ r,Q.rows.get id=some r:=by
   unfold Sq.ids at h2
   obtain ⟨p,hp,rfl⟩:=List.mem_map.1 h2
   have:Q.rows.has p.1=true:=by unfold Mn.has;rw [List.any_eq_true];exact ⟨p,hp,by simp⟩
   rw [Mn.has_eq] at this
   exact Option.isSome_iff_exists.1 this
  have hn:=h.tn.none id r hr
  obtain ⟨i,rfl⟩:∃ i,id=i+1:=⟨id - 1,by omega⟩
  have hi:i<l.length:=by omega
  obtain ⟨cnt,g1,g2⟩:=h.tn.load hi
  rw [j6 g1] at h1
  dsimp only at h1
  have ho:l[i].1=o:=tT.1 h1.1
  have he:ef i=1:=h1.2
  rw [Kc (c:=cT) (by rw [hro];decide) (by rw [hro];exact hel) g2]
  have KQ:Q.dV (aD l[i].1)=2:=by
   unfold Sq.dV
   rw [ho,hro]
  obtain ⟨w1,w2,w3,w4,w5,w6,w7,w8,w9,Po,NZ,mZ⟩:=h.tn.write ht l[i].1 { fC (aD l[i].1) with id:=i+1,ep:=ef i,cnt:=cnt } l[i].2 ⟨i+1,ef i,cnt,rfl,by omega,by have:=h.tn.small;omega⟩ (h.tn.bodies _ (List.getElem_mem hi)) (by omega) (fun r0 hr0=>by
   dsimp only at hr0
   rw [g1] at hr0
   cases hr0
   rfl)
  have hlast:=h.tn.last
  rw [w1]
  refine ⟨fun j=>if j=i then 2 else ef j,rfl,⟨⟨w2,w3,w4,w5,w6,w7,?_,h.tn.small,h.tn.bodies,fun j hj=>?_,fun j r1 hj=>?_⟩,fun b=>by rw [w9];exact h.ring b,fun j hj=>?_⟩,Kb hi ho he⟩
  ·rw [w8,hlast]
   dsimp only
   omega
  ·by_cases hji:j=i
   ·subst hji
    rw [if_pos rfl,← KQ]
    exact NZ
   ·rw [if_neg hji]
    exact mZ _ _ _ _ (by dsimp only;omega) (h.tn.msg j hj)
  ·rcases Po j r1 hj with rfl | hj
   ·exact hn
   ·exact h.tn.none j r1 hj
  ·by_cases hji:j=i
   ·subst hji
    rw [if_pos rfl]
    exact .inr ⟨rfl,ho⟩
   ·rw [if_neg hji]
    exact h.two j hj
theorem oq.over {Q:Sq} {l:List (Bool×Bs)} {ef:Nat→Nat} {t:Nat} {o:Bool} (h:oq Q l ef t o) (ht:t≤41) (hk:mr l ef o=0) :
  (Q.step cT (aD o)).2=(true,0)∧Tn (Q.step cT (aD o)).1 l ef (t+1)∧ax (Q.step cT (aD o)).1.ring (aD o)=⟨2,0⟩∧∀ i (h:i<l.length),ef i=if l[i].1=o then 2 else 1:=by
 have hro:=h.ring o
 rw [if_pos rfl] at hro
 have hby:=h.tn.ok.room.bytes
 have hq:=h.tn.bL
 obtain ⟨s1,s2,s3⟩:=zf (M:=Q.ring) (x:=aD o) (s:=⟨2,0⟩) h.tn.up.calm (by rw [hro];simp) h.tn.up.JQ (by rw [ll];decide) (by omega)
 have hqq:=uA Q.D Q.ring (aD o) ⟨2,0⟩
 have hu:=h.tn.up.step h.tn.ok rfl (aD o)
 have hsk:=h.tn.ok.stepped (aD o)
 have e0:Q.step cT (aD o)=({ Q with D:=(bO Q.D Q.ring (aD o) ⟨2,0⟩).1,ring:=(bO Q.D Q.ring (aD o) ⟨2,0⟩).2.1 },true,0):=by
  rw [step_eq,hro]
  dsimp only
  rw [if_neg (by decide)]
  cases hel:bZ Q.rows (aD o) 1 Q.ids with
  | some id =>
   exfalso
   have h1:=qQ hel
   have h2:=sN hel
   obtain ⟨r,hr⟩:∃ r,Q.rows.get id=some r:=by
    unfold Sq.ids at h2
    obtain ⟨p,hp,rfl⟩:=List.mem_map.1 h2
    have:Q.rows.has p.1=true:=by unfold Mn.has;rw [List.any_eq_true];exact ⟨p,hp,by simp⟩
    rw [Mn.has_eq] at this
    exact Option.isSome_iff_exists.1 this
   have hn:=h.tn.none id r hr
   obtain ⟨i,rfl⟩:∃ i,id=i+1:=⟨id - 1,by omega⟩
   have hi:i<l.length:=by omega
   obtain ⟨cnt,g1,g2⟩:=h.tn.load hi
   rw [j6 g1] at h1
   exact BH hk hi (tT.1 h1.1) h1.2
  | none =>
   have e1:fU Q.D Q.ring (aD o)=bO Q.D Q.ring (aD o) ⟨2,0⟩:=by
    unfold fU
    rw [hro]
    rw [if_neg (by rw [ll];decide),if_neg (by decide)]
   dsimp only
   rw [e1,s1]
   rfl
 rw [e0] at hu hsk ⊢
 refine ⟨rfl,⟨hu,hsk.mono (by omega),h.tn.real,by dsimp only;rw [hqq];exact hq,fun k=>by have:=h.tn.led k;dsimp only;omega,by have:=h.tn.len;dsimp only;omega,h.tn.last,h.tn.small,h.tn.bodies,fun i hi=>(h.tn.msg i hi).disk rfl rfl s3,h.tn.none⟩,?_,fun i hi=>?_⟩
 ·dsimp only
  rw [s2,nP,if_pos rfl]
 ·rcases h.two i hi with g | ⟨g1,g2⟩
  ·rw [if_neg (fun ho=>BH hk hi ho g)]
   exact g
  ·rw [if_pos g2]
   exact g1
theorem Tn.bad {Q:Sq} {l:List (Bool×Bs)} {ef:Nat→Nat} {t:Nat} (h:Tn Q l ef t):Q.D.now.names oO=[]:=by
 rw [List.eq_nil_iff_forall_not_mem]
 intro f hf
 obtain ⟨g1,g2⟩:=xV hf
 rcases h.up.tidy f g1 with rfl | rfl | rfl | ⟨id,r,_,rfl⟩
 ·exact absurd g2 (by decide)
 ·exact absurd g2 (by decide)
 ·exact absurd g2 (by decide)
 ·simp [aS,oO,List.isPrefixOf] at g2
end
section
open Go.RowKit Go.Maps
section
variable {w0 w:World} {L:List aT} {v v2:Value}
abbrev vg (d:Bs) (v:Value):Array Value:=#[.int .u64 0,.string ⟨d.toArray⟩,.int .u64 0,.int .u64 0,.string ⟨#[]⟩,.string ⟨#[]⟩,v,.int .u64 0,.int .u64 0,.int .i64 0]
theorem abH (d:Bs) (S:Sp w0 [] w L):Calls Tryz.prog 10 #[.string ⟨d.toArray⟩] w fun r w2=>∃ v,r=.returned (.agg (vg d v))∧Sp w0 [] w2 (dH v fw::L):=by
 have S1:=S.box (vg d (.slice (some ⟨w.heap.size+1,0,none⟩) 1 1)) 40
 have S2:Sp w0 [] _ (dH (.slice (some ⟨(w.alloc (.cells (vg d (.slice (some ⟨w.heap.size+1,0,none⟩) 1 1)) 40)).heap.size,0,none⟩) 1 1) fw::_):=S1.Kk 100 3 1 [.string ⟨#[120]⟩,.string ⟨#[99]⟩,.int .i64 0] rfl (by decide)
 have c0:=S2.ak.cell
 simp only [World.size_alloc] at S2 c0
 have HS:=Lib.hid ((Sp.pick [_,_] [0] (by decide) (S2)))
 clear S S1 S2
 go_enter Tryz.func10,Tryz.ntmps10
 go_upto_region 1 with (fail)
 go_wp2_with fail
 exact bodyPost_ret (v:=.agg (vg d (.slice (some ⟨w.heap.size+1,0,none⟩) 1 1))) (by simp [results,Tryz.results10,go_sem,c0]) rfl ⟨_,rfl,HS.out⟩
def En.as (e g:En):En:={ e with id:=g.id,ep:=g.ep,cnt:=g.cnt }
theorem En.WB {e g:En} (h:e.Fit) (h2:g.Fit):(e.as g).Fit:={ h with id:=h2.id,ep:=h2.ep,cnt:=h2.cnt }
theorem WC (e g:En) (w:World) (he:Ji w e v) (hg:Ji w g v2):Calls Tryz.prog 15 #[eH e v,eH g v2] w fun r w2=>r=.returned (.bool (uE (e.as g) g))∧Ext [] w w2:=by
 have bV:=Lib.hid (((Sp.nil w []).box (bQ e v) 40).box (bQ g v2) 40)
 rw [show (w.alloc (.cells (bQ e v) 40)).heap.size=w.heap.size+1 by simp] at bV
 have Vm:Hid (∀ w',Ext [] w w'→Calls Tryz.prog 31 #[eH (e.as g) v,eH g v2] w' fun r w2=>r=.returned (.bool (uE (e.as g) g))∧Ext [] w' w2):=fun w' hx=>Gn (e.as g) g w' ⟨En.WB he.fit hg.fit,he.WU.ext hx⟩ (hg.ext hx)
 generalize uE (e.as g) g=b at *
 clear he hg
 obtain ⟨xi,xd,xe,xc,xf,xr,xb,xn,xt⟩:=e
 obtain ⟨yi,yd,ye,yc,yf,yr,yb,yn,yt⟩:=g
 unfold En.as eH bQ at *
 dsimp only at *
 go_enter Tryz.func15,Tryz.ntmps15
 go_upto_region 1 with (fail)
 generalize World.alloc _ _=w1 at *
 generalize w.heap.size=q at *
 have c0:=bV.out.cell
 have c1:=bV.out.ak.cell
 have f0:=bV.out.ak.free
 have bX:=Lib.hid ((((bV.out.ak).set (o:=0) (.int .u64 yi)).set (o:=2) (.int .u64 ye)).set (o:=3) (.int .u64 yc)).drew
 clear bV
 go_wp2_with fail
 go_region
 all_goals
  have c2:=bX.out.cell
  have c3:=bX.out.ak.cell
  clear c0 c1 f0
  go_wp2_with fail
  refine (Vm.out _ bX.out.ext).mono ?_
  rintro r w2 ⟨rfl,hx⟩
  have HX:=Lib.hid (bX.out.ext.trans hx (by simp))
  clear hx c2 c3
  go_wp2
  go_ret
  exact ⟨rfl,HX.out⟩
end
end
end Go.Proofs.YtangbdahnmomlaaGreatDoor
