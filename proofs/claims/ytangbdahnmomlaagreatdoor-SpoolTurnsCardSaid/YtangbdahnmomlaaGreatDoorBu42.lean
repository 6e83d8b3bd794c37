/- spool, plainly: what each act does to the files, whatever dies. No program. spool, plainly: what writing a message leaves, whatever dies. No -/
import Derived.Test.YtangbdahnmomlaaGreatDoorBu32
import Derived.Test.YtangbdahnmomlaaGreatDoorBu41
set_option linter.unnecessarySimpa false
set_option linter.unusedSimpArgs false
set_option linter.unusedVariables false
namespace Go.Proofs.YtangbdahnmomlaaGreatDoor
section
open Go.RowKit Go.Maps
theorem lh (D:Dk) (e:Ev):(D.done e=({ D with dead:=true },13)∧(D.dead=true∨D.eB=0)) ∨
  ((D.done e).2=0∧D.dead=false∧(D.done e).1.dead=false∧(D.done e).1.now=(if e.op=5 then D.now else D.now.did e)∧(D.eB<0→(D.done e).1.eB<0)∧(D.done e).1.bL=D.bL∧(e.op=5→(D.done e).1.sure=D.now∧(D.done e).1.pend=[])):=by
 by_cases h:(D.dead || D.eB == 0)=true
 ·left
  unfold Dk.done
  rw [if_pos h]
  exact ⟨rfl,by simpa using h⟩
 ·right
  have hd:D.dead=false:=by cases hh:D.dead <;> simp [hh] at h ⊢
  have hf:∀ x:Int,D.eB<0→(if 0<D.eB then D.eB - 1 else D.eB)<0:=fun _ hx=>by split <;> omega
  unfold Dk.done
  rw [if_neg h]
  by_cases h5:e.op=5
  ·rw [if_pos h5,if_pos h5]
   exact ⟨rfl,hd,hd,rfl,hf 0,rfl,fun _=>⟨rfl,rfl⟩⟩
  ·rw [if_neg h5,if_neg h5]
   exact ⟨rfl,hd,hd,rfl,hf 0,rfl,fun h=>absurd h h5⟩
theorem kg.Qq {P:Fs→Prop} {D:Dk} (h:kg P D):kg P { D with dead:=true }:=⟨h.all,h.now⟩
theorem kg.sync {P:Fs→Prop} {D:Dk} (h1:D.sure=D.now) (h2:D.pend=[]) (hP:P D.now):kg P D:=by
 refine ⟨fun k=>?_,?_⟩
 ·unfold Dk.replay
  rw [h1,h2]
  simpa using hP
 ·unfold Dk.replay
  rw [h1,h2]
  rfl
inductive De (D:Dk) (F:Fs):Dk×Int→Prop
 | no (c:Int):c≠0→c≠13→De D F (D,c)
 | dead (D2:Dk):D2.dead=true→(D.dead=true∨D.eB=0∨0<D.eB)→(∀ P:Fs→Prop,kg P D→(D.dead=false→P F)→kg P D2)→D2.bL=D.bL→(D.dead=true→D2=D)→De D F (D2,13)
 | did (D2:Dk):D.dead=false→D2.dead=false→D2.now=F→(D.eB<0→D2.eB<0)→D2.bL=D.bL→(∀ P:Fs→Prop,kg P D→P F→kg P D2)→De D F (D2,0)
theorem xS {D:Dk} (h:D.dead=true):({ D with dead:=true }:Dk)=D:=by cases D;simp_all
theorem Br (D:Dk) (e:Ev) (h5:e.op≠5):De D (D.now.did e) (D.done e):=by
 rcases lh D e with ⟨h1,h2⟩ | ⟨h1,h2,h3,h4,h6,h7,_⟩
 ·rw [h1]
  exact .dead _ rfl (h2.imp id .inl) (fun P hP _=>hP.Qq) rfl (fun hd=>xS hd)
 ·rw [if_neg h5] at h4
  obtain ⟨D2,c⟩:∃ D2 c,D.done e=(D2,c):=⟨_,_,rfl⟩
  have e2:D.done e=((D.done e).1,0):=by rw [← h1]
  rw [e2]
  exact .did _ h2 h3 h4 h6 h7 (fun P hP hF=>hP.done e (fun _=>hF))
theorem Qr (D:Dk):De D D.now D.sync:=by
 rcases lh D ⟨5,[],[],[]⟩ with ⟨h1,h2⟩ | ⟨h1,h2,h3,h4,h6,h7,h8⟩
 ·unfold Dk.sync
  rw [h1]
  exact .dead _ rfl (h2.imp id .inl) (fun P hP _=>hP.Qq) rfl (fun hd=>xS hd)
 ·have e2:D.sync=((D.done ⟨5,[],[],[]⟩).1,0):=by unfold Dk.sync;rw [← h1]
  rw [e2]
  rw [if_pos rfl] at h4
  exact .did _ h2 h3 h4 h6 h7 (fun P _ hF=>kg.sync (by rw [(h8 rfl).1,h4]) (h8 rfl).2 (by rw [h4];exact hF))
theorem Df (D:Dk) (n d:Bs):De D (D.now.put n d) (D.write n d):=by
 unfold Dk.write
 split
 ·split
  ·exact .no 4 (by decide) (by decide)
  ·split
   ·exact .no 12 (by decide) (by decide)
   ·exact Br D ⟨1,n,[],d⟩ (show (1:Int)≠5 by decide)
 ·exact .no 1 (by decide) (by decide)
theorem Bt (D:Dk) (n d:Bs):De D (D.now.put n ((D.now.get n).getD []++d)) (D.append n d):=by
 unfold Dk.append
 split
 ·split
  ·exact .no 12 (by decide) (by decide)
  ·exact Br D ⟨2,n,[],d⟩ (show (2:Int)≠5 by decide)
 ·exact .no 10 (by decide) (by decide)
theorem uV (D:Dk) (n:Bs):De D (D.now.del n) (D.remove n):=by
 unfold Dk.remove
 split
 ·exact Br D ⟨4,n,[],[]⟩ (show (4:Int)≠5 by decide)
 ·exact .no 10 (by decide) (by decide)
theorem De.TG {D:Dk} {F:Fs} {R:Dk×Int} (h:De D F R):De D F (if R.2≠0 then R else R.1.sync):=by
 cases h with
 | no c h1 h2=>rw [if_pos h1];exact .no c h1 h2
 | dead D2 h1 h2 h3 h4 h5=>rw [if_pos (show (13:Int)≠0 by decide)];exact .dead D2 h1 h2 h3 h4 h5
 | did D2 h1 h2 h3 h4 h5 h6 =>
  rw [if_neg (by simp)]
  dsimp only
  have hs:=Qr D2
  generalize hS:D2.sync=S at hs
  cases hs with
  | no c g1 g2 =>
   exfalso
   rcases lh D2 ⟨5,[],[],[]⟩ with ⟨k1,_⟩ | ⟨k1,_⟩
   ·have:D2.sync.2=13:=by unfold Dk.sync;rw [k1]
    rw [hS] at this
    exact g2 this
   ·have:D2.sync.2=0:=k1
    rw [hS] at this
    exact g1 this
  | dead D3 g1 g2 g3 g4 g5 =>
   refine .dead D3 g1 ?_ (fun P hP hF=>g3 P (h6 P hP (hF h1)) (fun _=>by rw [h3];exact hF h1)) (g4.trans h5) (fun hd=>by rw [h1] at hd;cases hd)
   rcases g2 with g | g | g
   ·rw [h2] at g;cases g
   ·by_cases hf:D.eB<0
    ·have:=h4 hf;omega
    ·by_cases hz:D.eB=0
     ·exact .inr (.inl hz)
     ·exact .inr (.inr (by omega))
   ·by_cases hf:D.eB<0
    ·have:=h4 hf;omega
    ·by_cases hz:D.eB=0
     ·exact .inr (.inl hz)
     ·exact .inr (.inr (by omega))
  | did D3 g1 g2 g3 g4 g5 g6=>exact .did D3 h1 g2 (g3.trans h3) (fun hf=>g4 (h4 hf)) (g5.trans h5) (fun P hP hF=>g6 P (h6 P hP hF) (by rw [h3];exact hF))
theorem j5 (D:Dk) (n d:Bs):De D (D.now.put n ((D.now.get n).getD []++d)) (dA D n d):=(Bt D n d).TG
theorem De.alive {D:Dk} {F:Fs} {R:Dk×Int} (h:De D F R) (hd:D.dead=false) (hc:D.eB<0):(R.1=D∧R.2≠0∧R.2≠13)∨(R.2=0∧R.1.dead=false∧R.1.now=F∧R.1.eB<0∧R.1.bL=D.bL):=by
 cases h with
 | no c h1 h2=>exact .inl ⟨rfl,h1,h2⟩
 | dead D2 h1 h2 h3 h4 h5 =>
  exfalso
  rcases h2 with g | g | g
  ·rw [hd] at g;cases g
  ·omega
  ·omega
 | did D2 h1 h2 h3 h4 h5 h6=>exact .inr ⟨rfl,h2,h3,h4 hc,h5⟩
theorem nO (Q:Sq) (id:Nat) (r:aJ):Q.lay id r=if (dA Q.D indexB (bP id r)).2≠0 then ({ Q with D:=(dA Q.D indexB (bP id r)).1 },(dA Q.D indexB (bP id r)).2) else (({ Q with D:=(dA Q.D indexB (bP id r)).1 }:Sq).know id r,0):=by
 unfold Sq.lay dA
 by_cases h:(Q.D.append indexB (bP id r)).2≠0
 ·rw [if_pos h,if_pos h,if_pos h]
 ·rw [if_neg h,if_neg h]
theorem qJ (D:Dk) (M:Mp jF) (x:Bs) (s:jF):bO D M x s=if s=ax M x then (D,M,0) else if (dA D bn (bq x s)).2≠0 then ((dA D bn (bq x s)).1,M,(dA D bn (bq x s)).2) else ((dA D bn (bq x s)).1,M.put x s,0):=by
 unfold bO dA
 split
 ·rfl
 ·by_cases h:(D.append bn (bq x s)).2≠0
  ·rw [if_pos h,if_pos h,if_pos h]
  ·rw [if_neg h,if_neg h]
theorem wU (D:Dk) (x:Bs) (n:Nat):gF D x n=dA D dm (dK.text ⟨x,n⟩):=rfl
end
section
open Go.RowKit Go.Maps
theorem zK (n:Nat):∀ c∈Lib.decDigits n,c≠46:=by
 induction n using Nat.strongRecOn with
 | _ n ih =>
  have hd:∀ k,k<10→UInt8.ofNat (48+k)≠46:=by decide
  rw [Lib.decDigits]
  split
  ·rename_i h
   intro c hc
   rw [List.mem_singleton] at hc
   subst hc
   exact hd n h
  ·intro c hc
   rcases List.mem_append.1 hc with hc | hc
   ·exact ih (n / 10) (by omega) c hc
   ·rw [List.mem_singleton] at hc
    subst hc
    exact hd _ (by omega)
def Li (s:Bs):Nat:=s.foldl (fun a c=>a*10+(c.toNat - 48)) 0
theorem Dg (n:Nat):Li (Lib.decDigits n)=n:=by
 induction n using Nat.strongRecOn with
 | _ n ih =>
  rw [Lib.decDigits]
  split
  ·rename_i h
   have:(UInt8.ofNat (48+n)).toNat=48+n:=by simp;omega
   show 0*10+((UInt8.ofNat (48+n)).toNat - 48)=n
   rw [this];omega
  ·have hs:∀ (s:Bs) (c:UInt8),Li (s++[c])=Li s*10+(c.toNat - 48):=fun s c=>by simp [Li]
   rw [hs,ih (n / 10) (by omega)]
   have:(UInt8.ofNat (48+n % 10)).toNat=48+n % 10:=by simp;omega
   rw [this];omega
theorem Bu {a b:Nat} (h:Lib.decDigits a=Lib.decDigits b):a=b:=by rw [← Dg a,h,Dg]
theorem Dh {a b x y:Bs} (ha:∀ c∈a,c≠46) (hb:∀ c∈b,c≠46) (h:a++46::x=b++46::y):a=b∧x=y:=by
 induction a generalizing b with
 | nil =>
  cases b with
  | nil=>simpa using h
  | cons c r =>
   simp only [List.nil_append,List.cons_append,List.cons.injEq] at h
   exact absurd h.1.symm (hb c (by simp))
 | cons d a ih =>
  cases b with
  | nil =>
   simp only [List.nil_append,List.cons_append,List.cons.injEq] at h
   exact absurd h.1 (ha d (by simp))
  | cons c r =>
   simp only [List.cons_append,List.cons.injEq] at h
   obtain ⟨h1,h2⟩:=ih (fun c hc=>ha c (by simp [hc])) (fun c hc=>hb c (by simp [hc])) h.2
   rw [h.1,h1]
   exact ⟨rfl,h2⟩
theorem xU {i n o j p q:Nat} (h:aS i n o=aS j p q):i=j∧n=p∧o=q:=by
 unfold aS at h
 simp only [List.append_assoc,List.cons_append,List.nil_append,List.cons.injEq,true_and] at h
 obtain ⟨h1,h2⟩:=Dh (zK _) (zK _) h
 obtain ⟨h3,h4⟩:=Dh (zK _) (zK _) h2
 exact ⟨Bu h1,Bu h3,Bu h4⟩
structure Good (P:Bx→Fs→Prop) (m:Bs) (Q:Sq) (lf:List dK):Prop where
 holds:Holds m Q.B Q.D.now Q.rows Q.last Q.ring lf
 live:Q.D.dead=false
 Hf:kg (P Q.B) Q.D
 mem:∀ k,(bK Q.led k).c≤(bK Q.led k).ceil∧(bK Q.led k).ceil=(bK (bG lf) k).ceil
 used:∀ id r,Q.rows.get id=some r→r.cnt<(bK Q.led (bH r.dom r.ep)).c
def jy (rows:Mn aJ) (F F0:Fs):Prop:=∀ id r,rows.get id=some r→F.get (aS id r.ep r.cnt)=F0.get (aS id r.ep r.cnt)
def Old (P:Bx→Fs→Prop) (m:Bs) (Q:Sq):Prop:=∀ B F lf,Q.B.le B→Holds m B F Q.rows Q.last Q.ring lf→jy Q.rows F Q.D.now→P B F
def YD (P:Bx→Fs→Prop):Prop:=∀ B B2 F,B.le B2→P B F→P B2 F
theorem kg.mono {P P2:Fs→Prop} {D:Dk} (h:kg P D) (hp:∀ F,P F→P2 F):kg P2 D:=⟨fun k=>hp _ (h.all k),h.now⟩
theorem De.good {D:Dk} {F:Fs} {R:Dk×Int} (h:De D F R) {P P2:Fs→Prop} (hH:kg P D) (hPP:∀ F,P F→P2 F) (hF:P2 F):(R.1=D∧R.2≠0∧R.2≠13)∨(R.2=13∧R.1.dead=true∧kg P2 R.1)∨(R.2=0∧R.1.dead=false∧R.1.now=F∧kg P2 R.1):=by
 cases h with
 | no c h1 h2=>exact .inl ⟨rfl,h1,h2⟩
 | dead D2 h1 h2 h3 h4 h5=>exact .inr (.inl ⟨rfl,h1,h3 _ (hH.mono hPP) (fun _=>hF)⟩)
 | did D2 h1 h2 h3 h4 h5 h6=>exact .inr (.inr ⟨rfl,h2,h3,h6 _ (hH.mono hPP) hF⟩)
theorem Qs {D:Dk} {M:Mp pO} {step most:Nat} {x:Bs} (hs:1≤step) (hm:most≤1099511627776) (hc:(bK M x).c≤(bK M x).ceil) :
  ((aQ D M step most x).1=D∧(aQ D M step most x).2.1=M∧(aQ D M step most x).2.2.2≠0) ∨
  ((aQ D M step most x).1=D∧(aQ D M step most x).2.1=M.put x ⟨(bK M x).c+1,(bK M x).ceil⟩∧(bK M x).c<(bK M x).ceil) ∨
  (∃ ceil,qa ⟨x,ceil⟩∧(bK M x).c=(bK M x).ceil∧(bK M x).ceil<ceil∧(aQ D M step most x).1=(dA D dm (dK.text ⟨x,ceil⟩)).1 ∧
   ((dA D dm (dK.text ⟨x,ceil⟩)).2≠0→(aQ D M step most x).2.2.2=(dA D dm (dK.text ⟨x,ceil⟩)).2∧(aQ D M step most x).2.1=M) ∧
   ((dA D dm (dK.text ⟨x,ceil⟩)).2=0→(aQ D M step most x).2.1=M.put x ⟨(bK M x).c+1,ceil⟩)):=by
 unfold aQ
 split
 ·exact .inl ⟨rfl,rfl,show (5:Int)≠0 by decide⟩
 ·rename_i hx
  split
  ·exact .inl ⟨rfl,rfl,show (21:Int)≠0 by decide⟩
  ·rename_i hsp
   split
   ·rename_i heq
    refine .inr (.inr ⟨min ((bK M x).ceil+step) most,⟨by dsimp only;omega,by dsimp only;omega⟩,heq,by omega,?_⟩)
    rw [← wU]
    split
    ·rename_i h1
     exact ⟨rfl,fun _=>⟨rfl,rfl⟩,fun h=>absurd h h1⟩
    ·rename_i h1
     exact ⟨rfl,fun h=>absurd h h1,fun _=>rfl⟩
   ·rename_i hne
    exact .inr (.inl ⟨rfl,rfl,by omega⟩)
section
variable {P P0:Bx→Fs→Prop} {m:Bs} {Q:Sq} {c:Sc} {n:Nat} {lf:List dK}
theorem jy.refl (rows:Mn aJ) (F:Fs):jy rows F F:=fun _ _ _=>rfl
theorem Nw (h:Good P m Q lf) (hst:1≤c.step) (Cx:c.most≤1099511627776) (hold:Old P m Q) (d:Bs) :
  ((Q.next c d).1.dead=true∧(Q.next c d).2.2.2=13∧kg (P Q.B) (Q.next c d).1) ∨
  (∃ lf2,Good P m { Q with D:=(Q.next c d).1,led:=(Q.next c d).2.1 } lf2∧(∀ k,k≠dm→(Q.next c d).1.now.get k=Q.D.now.get k)∧((Q.next c d).2.2.2=0→(bK (Q.next c d).2.1 (bH d (Q.dV d))).c=(bK Q.led (bH d (Q.dV d))).c+1)):=by
 have hlast:(Q.next c d).2.2.2=0→(bK (Q.next c d).2.1 (bH d (Q.dV d))).c=(bK Q.led (bH d (Q.dV d))).c+1:=fun hz=>(Bi hz).2.2
 have hput:∀ (v:pO),(bK Q.led (bH d (Q.dV d))).c<v.c→∀ id r,Q.rows.get id=some r→r.cnt<(bK (Q.led.put (bH d (Q.dV d)) v) (bH r.dom r.ep)).c:=by
  intro v hv id r hr
  have:=h.used id r hr
  rw [rP]
  split
  ·rename_i e
   rw [e] at hv
   omega
  ·exact this
 unfold Sq.next at hlast ⊢
 generalize bH d (Q.dV d)=x at *
 rcases Qs (D:=Q.D) (M:=Q.led) (x:=x) hst Cx (h.mem x).1 with ⟨h1,h2,_⟩ | ⟨h1,h2,h3⟩ | ⟨ceil,hx,aft,hlt,h1,h2,h3⟩
 ·right
  rw [h2] at hlast
  rw [h1,h2]
  exact ⟨lf,⟨h.holds,h.live,h.Hf,h.mem,h.used⟩,fun _ _=>rfl,hlast⟩
 ·right
  rw [h2] at hlast
  rw [h1,h2]
  refine ⟨lf,⟨h.holds,h.live,h.Hf,fun k=>?_,hput _ (by dsimp only;omega)⟩,fun _ _=>rfl,hlast⟩
  rw [rP]
  have:=h.mem k
  split
  ·rename_i e
   subst e
   exact ⟨by dsimp only;omega,this.2⟩
  ·exact this
 ·have hle:(bK (bG lf) x).ceil≤ceil:=by have:=(h.mem x).2;omega
  have hF:=h.holds.ledger hx hle
  have hg:∀ k,k≠dm→(Q.D.now.put dm ((Q.D.now.get dm).getD []++dK.text ⟨x,ceil⟩)).get k=Q.D.now.get k:=fun k hk=>by rw [aW,if_neg (Ne.symm hk)]
  have hP:=hold Q.B _ _ (Bx.le.refl _) hF (fun id r _=>hg _ (mg _ _ _))
  rcases (j5 Q.D dm (dK.text ⟨x,ceil⟩)).good h.Hf (fun _ h=>h) hP with ⟨g1,g2,g3⟩ | ⟨g1,g2,g3⟩ | ⟨g1,g2,g3,g4⟩
  ·right
   obtain ⟨h4,h5⟩:=h2 g2
   rw [h5] at hlast
   rw [h1,h5,g1]
   exact ⟨lf,⟨h.holds,h.live,h.Hf,h.mem,h.used⟩,fun _ _=>rfl,hlast⟩
  ·left
   obtain ⟨h4,h5⟩:=h2 (by rw [g1];decide)
   rw [h1]
   exact ⟨g2,by rw [h4,g1],g3⟩
  ·right
   have h5:=h3 g1
   refine ⟨lf++[⟨x,ceil⟩],⟨?_,?_,?_,fun k=>?_,?_⟩,fun k hk=>by rw [h1,g3];exact hg k hk,hlast⟩
   ·show Holds m Q.B (aQ _ _ _ _ _).1.now _ _ _ _
    rw [h1,g3]
    exact hF
   ·show (aQ _ _ _ _ _).1.dead=false
    rw [h1]
    exact g2
   ·show kg (P Q.B) (aQ _ _ _ _ _).1
    rw [h1]
    exact g4
   ·show (bK (aQ _ _ _ _ _).2.1 k).c≤(bK (aQ _ _ _ _ _).2.1 k).ceil∧(bK (aQ _ _ _ _ _).2.1 k).ceil=_
    rw [h5,rP,xF]
    have:=h.mem k
    by_cases e:x=k
    ·rw [if_pos e,if_pos e]
     exact ⟨by dsimp only;omega,rfl⟩
    ·rw [if_neg e,if_neg e]
     exact this
   ·show ∀ id r,Q.rows.get id=some r→r.cnt<(bK (aQ _ _ _ _ _).2.1 _).c
    rw [h5]
    exact hput _ (by dsimp only;omega)
theorem Hg (h:Good P m Q lf) (hmk:c.ai=m) (hst:1≤c.step) (Cx:c.most≤1099511627776) (hs:Q.B.tX) (hmo:YD P) (hold:Old P m Q) (e:En) (body:Bs) :
  ((Q.aZ c e body).1.D.dead=true∧(Q.aZ c e body).2.2=13∧kg (P (Q.aZ c e body).1.B) (Q.aZ c e body).1.D) ∨
  (∃ lf2,Good P m (Q.aZ c e body).1 lf2∧(Q.aZ c e body).1.rows=Q.rows∧(Q.aZ c e body).1.last=Q.last∧(Q.aZ c e body).1.ring=Q.ring∧Q.B.le (Q.aZ c e body).1.B∧(∀ k,k≠dm→(Q.aZ c e body).1.D.now.get k=Q.D.now.get k) ∧
   ((Q.aZ c e body).2.2=0→e.dom.length≤255∧dz (Q.entry c e)=true∧dQ (Q.aZ c e body).1.B (nR m e.dom (Q.dV e.dom)) (Q.aZ c e body).2.1=(Q.entry c e,body,0) ∧
    (Q.entry c e).cnt=(bK Q.led (bH e.dom (Q.dV e.dom))).c∧(Q.entry c e).cnt<(bK (Q.aZ c e body).1.led (bH e.dom (Q.dV e.dom))).c)):=by
 rcases Nw h hst Cx hold e.dom with ⟨d1,d2,d3⟩ | ⟨lf2,d1,d2,d3⟩
 ·left
  unfold Sq.aZ
  rw [if_pos (by rw [d2];decide)]
  exact ⟨d1,d2,d3⟩
 ·right
  refine ⟨lf2,?_⟩
  unfold Sq.aZ
  split
  ·rename_i h0
   exact ⟨d1,rfl,rfl,rfl,Bx.le.refl _,d2,fun hz=>absurd hz h0⟩
  ·rename_i h0
   split
   ·exact ⟨d1,rfl,rfl,rfl,Bx.le.refl _,d2,fun hz=>by cases hz⟩
   ·rename_i h255
    have hle:=CV Q.B (nR c.ai e.dom (Q.dV e.dom)) (Q.entry c e) body
    have hc:=d3 (Classical.byContradiction fun hh=>h0 hh)
    have hcnt:(Q.entry c e).cnt=(bK Q.led (bH e.dom (Q.dV e.dom))).c:=by
     show (bK (Q.next c e.dom).2.1 (bH e.dom (Q.dV e.dom))).c - 1=_
     omega
    refine ⟨⟨d1.holds.le hle,d1.live,d1.Hf.mono (fun F hF=>hmo _ _ F hle hF),d1.mem,d1.used⟩,rfl,rfl,rfl,hle,d2,fun hz=>?_⟩
    rw [← hmk]
    obtain ⟨b1,_,b3⟩:=GI hs (rW _ _ _) hz
    exact ⟨by omega,b1,b3,hcnt,by rw [hcnt];show _<(bK (Q.next c e.dom).2.1 _).c;omega⟩
end
end
section
open Go.RowKit Go.Maps
theorem uW {D:Dk} {n:Bs} (h:D.now.get n≠none):(D.remove n).2=13∨(D.remove n).2=0:=by
 have hh:D.now.has n=true:=by
  rw [Fs.has_eq]
  cases hg:D.now.get n with
  | none=>exact absurd hg h
  | some v=>rfl
 unfold Dk.remove
 rw [if_pos hh]
 rcases lh D ⟨4,n,[],[]⟩ with ⟨h1,_⟩ | ⟨h1,_⟩
 ·left;rw [h1]
 ·right;exact h1
theorem Hl {D:Dk} (h:D.dead=true) (n:Bs):(D.remove n).1=D:=by
 unfold Dk.remove
 split
 ·unfold Dk.done
  rw [if_pos (by simp [h])]
  exact xS h
 ·rfl
theorem j6 {M:Mn aJ} {id:Nat} {r:aJ} (h:M.get id=some r):rowAt M id=r:=by unfold rowAt;rw [h];rfl
section
variable {P P0:Bx→Fs→Prop} {m:Bs} {Q:Sq} {c:Sc} {n:Nat} {lf:List dK}
inductive Wrote (P0 P:Bx→Fs→Prop) (m:Bs) (Q:Sq) (lf:List dK) (id:Nat) (r:aJ) (e:En) (body:Bs) (R:Sq×Int):Prop
 | down:R.2=13→R.1.D.dead=true→kg (P R.1.B) R.1.D→Q.B.le R.1.B→Wrote P0 P m Q lf id r e body R
 | lost:R.2≠0→R.1.D.dead=true→kg (P0 R.1.B) R.1.D→Q.B.le R.1.B→Wrote P0 P m Q lf id r e body R
 | no:R.2≠0→Good P0 m R.1 lf→R.1.rows=Q.rows→R.1.last=Q.last→R.1.ring=Q.ring→Q.B.le R.1.B→jy Q.rows R.1.D.now Q.D.now→(∀ k,k≠dm→R.1.D.now.get k≠none→Q.D.now.get k≠none)→(∀ k,dR.isPrefixOf k=false→k≠dm→Q.D.now.get k≠none→R.1.D.now.get k≠none)→Wrote P0 P m Q lf id r e body R
 | did:R.2=0→Good P m R.1 lf→R.1.rows=dU Q.rows id r→R.1.last=max Q.last id→R.1.ring=Q.ring→Q.B.le R.1.B→jJ m R.1.B R.1.D.now id r e body→(∀ j r0,j≠id→Q.rows.get j=some r0→R.1.D.now.get (aS j r0.ep r0.cnt)=Q.D.now.get (aS j r0.ep r0.cnt)) →
   (∀ k,k≠dm→R.1.D.now.get k≠none→k=aS id r.ep r.cnt∨(Q.D.now.get k≠none∧∀ r0,Q.rows.get id=some r0→k≠aS id r0.ep r0.cnt))→(∀ k,dR.isPrefixOf k=false→k≠dm→Q.D.now.get k≠none→R.1.D.now.get k≠none)→Wrote P0 P m Q lf id r e body R
theorem uX (id n o:Nat):dR.isPrefixOf (aS id n o)=true:=by simp [aS,dR,List.isPrefixOf]
theorem JP (h:Good P0 m Q lf) (h01:∀ F,P0 Q.B F→P Q.B F) (hold:Old P0 m Q) (hI:Q.D.now.get indexB≠none) {text body:Bs} {id:Nat} {r:aJ} {e:En}
  (hx:K5 (id,r)) (ho:dQ Q.B (nR m r.dom r.ep) text=(e,body,0)) (e1:e.id=id) (e2:e.dom=r.dom) (e3:e.ep=r.ep) (e4:e.cnt=r.cnt) (KQ:r.ep≠0) (hl:iJ Q.ring r.dom r.ep=true)
  (hcnt:r.cnt<(bK Q.led (bH r.dom r.ep)).c) (hfresh:∀ j r0,Q.rows.get j=some r0→aS j r0.ep r0.cnt≠aS id r.ep r.cnt)
  (hnew:∀ F,Holds m Q.B F (dU Q.rows id r) (max Q.last id) Q.ring lf→jJ m Q.B F id r e body→(∀ j r0,j≠id→Q.rows.get j=some r0→F.get (aS j r0.ep r0.cnt)=Q.D.now.get (aS j r0.ep r0.cnt))→P Q.B F) :
  Wrote P0 P m Q lf id r e body (Q.wrote (aS id r.ep r.cnt) text id r (if Q.rows.has id=true then some (aU Q.rows id) else none)):=by
 have hfi:=nN id r.ep r.cnt
 have hfr:=tL id r.ep r.cnt
 have hfl:=mg id r.ep r.cnt
 have hfq:=uX id r.ep r.cnt
 obtain ⟨file,Dj⟩:∃ f,aS id r.ep r.cnt=f:=⟨_,rfl⟩
 rw [Dj] at hfi hfr hfl hfq hfresh ⊢
 have hF1:Holds m Q.B (Q.D.now.put file text) Q.rows Q.last Q.ring lf:=h.holds.other text hfi hfr hfl (fun j r0 hj e=>absurd e.symm (hfresh j r0 hj))
 have abo:jy Q.rows (Q.D.now.put file text) Q.D.now:=fun j r0 hj=>by rw [aW,if_neg (Ne.symm (hfresh j r0 hj))]
 rw [mq]
 rcases (Df Q.D file text).good h.Hf (fun _ h=>h) (hold Q.B _ lf (Bx.le.refl _) hF1 abo) with ⟨g1,g2,g3⟩ | ⟨g1,g2,g3⟩ | ⟨g1,g2,g3,g4⟩
 ·rw [if_pos g2,g1]
  exact .no g2 h rfl rfl rfl (Bx.le.refl _) (jy.refl _ _) (fun _ _ hk=>hk) (fun _ _ _ hk=>hk)
 ·rw [if_pos (by rw [g1];decide)]
  exact .down g1 g2 (g3.mono h01) (Bx.le.refl _)
 ·rw [if_neg (by simp [g1])]
  clear g1
  generalize (Q.D.write file text).1=D1 at *
  have hD1:Holds m Q.B D1.now Q.rows Q.last Q.ring lf:=by rw [g3];exact hF1
  have hO1:jJ m Q.B D1.now id r e body:=⟨⟨text,by rw [g3,Dj,aW,if_pos rfl],ho⟩,e1,e2,e3,e4⟩
  have hF2:=hD1.row hx (fun _=>by have:=h.mem (bH r.dom r.ep);omega) (fun _=>⟨⟨e,body,hO1⟩,hl⟩)
  have hO2:jJ m Q.B (D1.now.put indexB ((D1.now.get indexB).getD []++bP id r)) id r e body:=hO1.get (by rw [aW,if_neg (Ne.symm (nN _ _ _))])
  have hoth:∀ j r0,j≠id→Q.rows.get j=some r0→(D1.now.put indexB ((D1.now.get indexB).getD []++bP id r)).get (aS j r0.ep r0.cnt)=Q.D.now.get (aS j r0.ep r0.cnt):=fun j r0 _ hr=>by
   rw [aW,if_neg (Ne.symm (nN _ _ _)),g3,aW,if_neg (Ne.symm (hfresh j r0 hr))]
  have hDf:D1.now.get file≠none:=by rw [g3,aW,if_pos rfl];simp
  rw [nO]
  rcases (j5 D1 indexB (bP id r)).good g4 h01 (hnew _ hF2 hO2 hoth) with ⟨k1,k2,k3⟩ | ⟨k1,k2,k3⟩ | ⟨k1,k2,k3,k4⟩
  ·dsimp only
   rw [if_pos k2,if_pos k2,k1]
   dsimp only
   have hF3:Holds m Q.B (D1.now.del file) Q.rows Q.last Q.ring lf:=hD1.gone hfi hfr hfl (fun j r0 hj=>Ne.symm (hfresh j r0 hj))
   have YE:jy Q.rows (D1.now.del file) Q.D.now:=fun j r0 hj=>by rw [gI,if_neg (hfresh j r0 hj),g3,aW,if_neg (Ne.symm (hfresh j r0 hj))]
   rcases (uV D1 file).good g4 (fun _ h=>h) (hold Q.B _ lf (Bx.le.refl _) hF3 YE) with ⟨j1,j2,j3⟩ | ⟨j1,j2,j3⟩ | ⟨j1,j2,j3,j4⟩
   ·exfalso
    rcases uW hDf with hh | hh
    ·exact j3 hh
    ·exact j2 hh
   ·exact .lost k2 j2 j3 (Bx.le.refl _)
   ·refine .no k2 ⟨by rw [j3];exact hF3,j2,j4,h.mem,h.used⟩ rfl rfl rfl (Bx.le.refl _) (fun j r0 hj=>by rw [j3];exact YE j r0 hj) (fun k _ hk=>?_) (fun k hq _ hk=>?_)
    ·rw [j3,gI,g3,aW] at hk
     by_cases e:k=file
     ·rw [if_pos e] at hk
      exact absurd rfl hk
     ·rw [if_neg e,if_neg (Ne.symm e)] at hk
      exact hk
    ·rw [j3,gI,g3,aW]
     by_cases e:k=file
     ·rw [e,hfq] at hq;cases hq
     ·rw [if_neg e,if_neg (Ne.symm e)]
      exact hk
  ·have hk0:(dA D1 indexB (bP id r)).2≠0:=by rw [k1];decide
   dsimp only
   rw [if_pos hk0,if_pos hk0]
   dsimp only
   rw [Hl k2]
   exact .down k1 k2 k3 (Bx.le.refl _)
  ·dsimp only
   have hk0:¬ (dA D1 indexB (bP id r)).2≠0:=by rw [k1];simp
   rw [if_neg hk0,if_neg (by simp)]
   generalize (dA D1 indexB (bP id r)).1=D2 at *
   have hD2:Holds m Q.B D2.now (dU Q.rows id r) (max Q.last id) Q.ring lf:=by rw [k3];exact hF2
   have UN:∀ j r0,(dU Q.rows id r).get j=some r0→r0.cnt<(bK Q.led (bH r0.dom r0.ep)).c:=by
    intro j r0 hj
    rw [gQ] at hj
    split at hj
    ·first | (rw [if_neg KQ] at hj;cases hj;exact hcnt) | (cases hj;exact hcnt)
    ·exact h.used j r0 hj
   have hG:Good P m (({ Q with D:=D2 }:Sq).know id r) lf:=⟨hD2,k2,k4,h.mem,UN⟩
   have hget:∀ k,k≠file→k≠indexB→D2.now.get k=Q.D.now.get k:=fun k h1 h2=>by rw [k3,aW,if_neg (Ne.symm h2),g3,aW,if_neg (Ne.symm h1)]
   have UO:∀ k,k≠dm→D2.now.get k≠none→k=file∨Q.D.now.get k≠none:=fun k _ hk=>by
    by_cases e1:k=file
    ·exact .inl e1
    ·by_cases e2:k=indexB
     ·rw [e2];exact .inr hI
     ·rw [hget k e1 e2] at hk
      exact .inr hk
   have hkeep:∀ k,dR.isPrefixOf k=false→k≠dm→Q.D.now.get k≠none→D2.now.get k≠none:=fun k hq _ hk=>by
    by_cases e2:k=indexB
    ·rw [e2,k3,aW,if_pos rfl];simp
    ·rw [hget k (fun e=>by rw [e,hfq] at hq;cases hq) e2]
     exact hk
   cases hg:Q.rows.get id with
   | none =>
    have hh:Q.rows.has id=false:=by rw [Mn.has_eq,hg];rfl
    rw [if_neg (by simp [hh])]
    refine .did rfl hG rfl rfl rfl (Bx.le.refl _) ?_ (fun j r0 hj hr=>?_) (fun k hk hk2=>?_) hkeep
    ·show jJ m Q.B D2.now id r e body
     rw [k3];exact hO2
    ·show D2.now.get _=_
     rw [k3];exact hoth j r0 hj hr
    ·rw [Dj]
     exact (UO k hk hk2).imp (fun h=>h) fun hh=>⟨hh,fun r0 hr0=>by rw [hg] at hr0;cases hr0⟩
   | some r0 =>
    have hh:Q.rows.has id=true:=by rw [Mn.has_eq,hg];rfl
    have hsl:aU Q.rows id=aS id r0.ep r0.cnt:=by unfold aU;rw [j6 hg]
    have hne:=hfresh id r0 hg
    rw [if_pos hh,hsl]
    dsimp only
    rw [if_neg hne]
    have hoi:=nN id r0.ep r0.cnt
    have hor:=tL id r0.ep r0.cnt
    have hol:=mg id r0.ep r0.cnt
    have hoq:=uX id r0.ep r0.cnt
    have YF:D2.now.get (aS id r0.ep r0.cnt)≠none:=by
     rw [hget _ hne hoi]
     obtain ⟨⟨_,_,⟨t,ht,_⟩,_⟩,_⟩:=h.holds.right id r0 hg
     rw [ht];simp
    have hnr:∀ j r1,(dU Q.rows id r).get j=some r1→aS id r0.ep r0.cnt≠aS j r1.ep r1.cnt:=by
     intro j r1 hj hf
     obtain ⟨i1,i2,i3⟩:=xU hf
     rw [gQ,← i1,if_pos rfl,if_neg KQ] at hj
     cases hj
     exact hne (by rw [i2,i3];exact Dj)
    have hF4:Holds m Q.B (D2.now.del (aS id r0.ep r0.cnt)) (dU Q.rows id r) (max Q.last id) Q.ring lf:=hD2.gone hoi hor hol hnr
    have hO4:jJ m Q.B (D2.now.del (aS id r0.ep r0.cnt)) id r e body:=(show jJ m Q.B D2.now id r e body by rw [k3];exact hO2).get (by rw [gI,Dj,if_neg (Ne.symm hne)])
    have UQ:∀ j r1,j≠id→Q.rows.get j=some r1→(D2.now.del (aS id r0.ep r0.cnt)).get (aS j r1.ep r1.cnt)=Q.D.now.get (aS j r1.ep r1.cnt):=fun j r1 hj hr=>by
     rw [gI,if_neg (fun hf=>hj (xU hf).1),k3]
     exact hoth j r1 hj hr
    rcases (uV D2 (aS id r0.ep r0.cnt)).good k4 (fun _ h=>h) (hnew _ hF4 hO4 UQ) with ⟨j1,j2,j3⟩ | ⟨j1,j2,j3⟩ | ⟨j1,j2,j3,j4⟩
    ·exfalso
     rcases uW YF with hh | hh
     ·exact j3 hh
     ·exact j2 hh
    ·exact .down j1 j2 j3 (Bx.le.refl _)
    ·refine .did j1 ⟨by show Holds m Q.B (D2.remove _).1.now _ _ _ _;rw [j3];exact hF4,j2,j4,h.mem,UN⟩ rfl rfl rfl (Bx.le.refl _) ?_ (fun j r1 hj hr=>?_) (fun k hk hk2=>?_) (fun k hq hk hk2=>?_)
     ·show jJ m Q.B (D2.remove _).1.now id r e body
      rw [j3];exact hO4
     ·show (D2.remove _).1.now.get _=_
      rw [j3];exact UQ j r1 hj hr
     ·have hk3:(D2.remove (aS id r0.ep r0.cnt)).1.now.get k≠none:=hk2
      rw [j3,gI] at hk3
      by_cases ek:k=aS id r0.ep r0.cnt
      ·rw [if_pos ek] at hk3
       exact absurd rfl hk3
      ·rw [if_neg ek] at hk3
       rw [Dj]
       exact (UO k hk hk3).imp (fun h=>h) fun hh=>⟨hh,fun r1 hr1=>by rw [hg] at hr1;cases hr1;exact ek⟩
     ·show (D2.remove _).1.now.get k≠none
      rw [j3,gI,if_neg (fun e=>by rw [e,hoq] at hq;cases hq)]
      exact hkeep k hq hk hk2
end
end
section
open Go.RowKit Go.Maps
section
variable {P P0:Bx→Fs→Prop} {m:Bs} {Q Q1:Sq} {c:Sc} {n:Nat} {lf:List dK}
theorem Ny (Q:Sq) (c:Sc) (e:En) (body:Bs):Q.B.le (Q.aZ c e body).1.B:=by
 unfold Sq.aZ
 split
 ·exact Bx.le.refl _
 ·split
  ·exact Bx.le.refl _
  ·exact CV _ _ _ _
theorem Wrote.from {id:Nat} {r:aJ} {e:En} {body:Bs} {R:Sq×Int} (h:Wrote P0 P m Q1 lf id r e body R) (h1:Q1.rows=Q.rows) (h2:Q1.last=Q.last) (h3:Q1.ring=Q.ring) (h4:Q.B.le Q1.B) (h5:∀ k,k≠dm→Q1.D.now.get k=Q.D.now.get k):Wrote P0 P m Q lf id r e body R:=by
 cases h with
 | down a1 a2 a3 a4=>exact .down a1 a2 a3 (h4.trans a4)
 | lost a1 a2 a3 a4=>exact .lost a1 a2 a3 (h4.trans a4)
 | no a1 a2 a3 a4 a5 a6 a7 a8 a9 =>
  refine .no a1 a2 (a3.trans h1) (a4.trans h2) (a5.trans h3) (h4.trans a6) (fun j r0 hj=>?_) (fun k hk hh=>?_) (fun k hq hk hh=>?_)
  ·rw [a7 j r0 (by rw [h1];exact hj),h5 _ (mg _ _ _)]
  ·rw [← h5 k hk];exact a8 k hk hh
  ·exact a9 k hq hk (by rw [h5 k hk];exact hh)
 | did a1 a2 a3 a4 a5 a6 a7 a8 a9 b1 =>
  refine .did a1 a2 (by rw [a3,h1]) (by rw [a4,h2]) (a5.trans h3) (h4.trans a6) a7 (fun j r0 hj hr=>?_) (fun k hk hh=>?_) (fun k hq hk hh=>?_)
  ·rw [a8 j r0 hj (by rw [h1];exact hr),h5 _ (mg _ _ _)]
  ·rcases a9 k hk hh with hh | ⟨g1,g2⟩
   ·exact .inl hh
   ·exact .inr ⟨by rw [← h5 k hk];exact g1,fun r0 hr0=>g2 r0 (by rw [h1];exact hr0)⟩
  ·exact b1 k hq hk (by rw [h5 k hk];exact hh)
theorem Old.from (hold:Old P0 m Q) (h1:Q1.rows=Q.rows) (h2:Q1.last=Q.last) (h3:Q1.ring=Q.ring) (h4:Q.B.le Q1.B) (h5:jy Q.rows Q1.D.now Q.D.now):Old P0 m Q1:=by
 intro B F lf hB hF hs
 rw [h1,h2,h3] at hF
 rw [h1] at hs
 exact hold B F lf (h4.trans hB) hF (fun j r0 hj=>(hs j r0 hj).trans (h5 j r0 hj))
def Sq.row (Q:Sq) (c:Sc) (e:En):aJ:=⟨e.dom,(Q.entry c e).ep,(Q.entry c e).cnt⟩
theorem Bv (h:Good P0 m Q lf) (hok:bg c n Q) (hmk:c.ai=m) (hmo:YD P0) (h01:∀ B F,P0 B F→P B F) (hold:Old P0 m Q) (hI:Q.D.now.get indexB≠none) (e:En) (body:Bs) (hid:e.id≤1099511627776) (hown:∀ r0,Q.rows.get e.id=some r0→r0.dom=e.dom)
  (hnew:∀ B F lf2,Q.B.le B→Holds m B F (dU Q.rows e.id (Q.row c e)) (max Q.last e.id) Q.ring lf2→jJ m B F e.id (Q.row c e) (Q.entry c e) body→(∀ j r0,j≠e.id→Q.rows.get j=some r0→F.get (aS j r0.ep r0.cnt)=Q.D.now.get (aS j r0.ep r0.cnt))→P B F) :
  ∃ lf2,Wrote P0 P m Q lf2 e.id (Q.row c e) (Q.entry c e) body (Q.write c e body):=by
 have hen:=hok.entry e
 have hle:=Ny Q c e body
 rcases Hg h hmk hok.step.1 hok.most hok.tX hmo hold e body with ⟨d1,d2,d3⟩ | ⟨lf2,d1,d2,d3,d4,d5,d6,d7⟩
 ·refine ⟨lf,?_⟩
  rw [kI,if_pos (by rw [d2];decide)]
  exact .down d2 d1 (d3.mono (fun F hF=>h01 _ F hF)) hle
 ·refine ⟨lf2,?_⟩
  rw [kI]
  have hsf:jy Q.rows (Q.aZ c e body).1.D.now Q.D.now:=fun j r0 _=>d6 _ (mg _ _ _)
  split
  ·rename_i h0
   exact .no h0 d1 d2 d3 d4 d5 hsf (fun k hk hh=>by rw [← d6 k hk];exact hh) (fun k _ hk hh=>by rw [d6 k hk];exact hh)
  ·rename_i h0
   obtain ⟨f1,f2,f3,f4,f5⟩:=d7 (Classical.byContradiction fun hh=>h0 hh)
   have hpt:=bT f2
   have KQ:(Q.entry c e).ep≠0:=by have:=hpt.ep;omega
   have hw:=JP (P:=P) (r:=Q.row c e) (id:=e.id) d1 (fun F hF=>h01 _ F hF) (hold.from d2 d3 d4 d5 hsf) (by rw [d6 _ xM];exact hI) ⟨hid,f1,by show (Q.entry c e).ep≤_;omega,hen.2⟩ f3 rfl rfl rfl rfl KQ
    (by
     rw [d4]
     show iJ Q.ring e.dom (Q.entry c e).ep=true
     unfold iJ
     have:(Q.entry c e).ep=(ax Q.ring e.dom).now:=rfl
     simp [this]
     omega) f5
    (fun j r0 hj hf=>by
     rw [d2] at hj
     obtain ⟨i1,i2,i3⟩:=xU hf
     subst i1
     have h1:=h.used _ r0 hj
     have h2:r0.ep=Q.dV e.dom:=i2
     have h3:r0.cnt=(Q.entry c e).cnt:=i3
     rw [hown r0 hj,h2,h3,f4] at h1
     omega)
    (fun F hF hO hoth=>hnew _ F lf2 d5 (by rw [d2,d3,d4] at hF;exact hF) hO (fun j r0 hj hr=>by rw [hoth j r0 hj (by rw [d2];exact hr),d6 _ (mg _ _ _)]))
   have e1:(if (Q.aZ c e body).1.rows.has e.id=true then some (aU (Q.aZ c e body).1.rows e.id) else none)=(if Q.rows.has e.id=true then some (aU Q.rows e.id) else none):=by rw [d2]
   rw [e1] at hw
   exact hw.from d2 d3 d4 d5 d6
theorem Bw (h:Holds m Q.B Q.D.now Q.rows Q.last Q.ring lf) (hf:RowsFit Q.rows) {id:Nat} {r:aJ} (hr:Q.rows.get id=some r):∃ e body,jJ m Q.B Q.D.now id r e body∧Q.open m id=(e,body,true):=by
 obtain ⟨⟨e,body,ho⟩,hl⟩:=h.right id r hr
 refine ⟨e,body,ho,?_⟩
 obtain ⟨⟨t,ht,hop⟩,h1,h2,h3,h4⟩:=ho
 have hra:=j6 hr
 have hsl:aU Q.rows id=aS id r.ep r.cnt:=by unfold aU;rw [hra]
 have hd:r.dom.length≤255:=(hf _ (Mn.get_mem hr)).2.1
 unfold Sq.open
 rw [hsl,hra,if_pos (by rw [Fs.has_eq,ht];rfl),if_pos hd,ht]
 simp only [Option.getD_some]
 rw [hop,if_pos]
 unfold wH
 simp only [Bool.and_eq_true,decide_eq_true_eq]
 exact ⟨⟨⟨⟨⟨trivial,h1⟩,h2⟩,h3⟩,h4⟩,hl⟩
theorem Nz {id:Nat} (h:Q.rows.get id=none):Q.load m id=(Q,En.zero,[],10):=by
 rw [zI,if_pos (by rw [Mn.has_eq,h];rfl)]
theorem Dl (h:Holds m Q.B Q.D.now Q.rows Q.last Q.ring lf) (hf:RowsFit Q.rows) {id:Nat} {r:aJ} (hr:Q.rows.get id=some r):∃ e body,jJ m Q.B Q.D.now id r e body∧Q.load m id=(Q,e,body,0):=by
 obtain ⟨e,body,ho,hq⟩:=Bw h hf hr
 refine ⟨e,body,ho,?_⟩
 rw [zI,if_neg (by rw [Mn.has_eq,hr];simp),if_pos (by rw [hq]),hq]
end
end
section
open Go.RowKit Go.Maps
def Calm (D:Dk):Prop:=D.dead=false∧D.eB<0
def ru (k:Bs) (D D2:Dk):Prop:=Calm D→Calm D2∧(D.now.get k≠none→D2.now.get k≠none)
theorem ru.refl (k:Bs) (D:Dk):ru k D D:=fun h=>⟨h,fun hh=>hh⟩
theorem ru.trans {k:Bs} {A B C:Dk} (h1:ru k A B) (h2:ru k B C):ru k A C:=fun h=>⟨(h2 (h1 h).1).1,fun hh=>(h2 (h1 h).1).2 ((h1 h).2 hh)⟩
theorem De.keep {k:Bs} {D:Dk} {F:Fs} {R:Dk×Int} (h:De D F R) (hF:D.now.get k≠none→F.get k≠none):ru k D R.1:=fun hc=>by
 rcases h.alive hc.1 hc.2 with ⟨h1,_⟩ | ⟨_,h2,h3,h4,_⟩
 ·rw [h1];exact ⟨hc,fun hh=>hh⟩
 ·exact ⟨⟨h2,h4⟩,fun hh=>by rw [h3];exact hF hh⟩
theorem Bz {F:Fs} {k n v:Bs} (h:F.get k≠none):(F.put n v).get k≠none:=by
 rw [aW]
 split
 ·simp
 ·exact h
theorem qK (k:Bs) (D:Dk) (n d:Bs):ru k D (D.write n d).1:=(Df D n d).keep Bz
theorem Ho (k:Bs) (D:Dk) (n d:Bs):ru k D (D.append n d).1:=(Bt D n d).keep Bz
theorem y5 {k:Bs} (D:Dk) {n:Bs} (hn:k≠n):ru k D (D.remove n).1:=(uV D n).keep (fun h=>by rw [gI,if_neg hn];exact h)
theorem gN (k:Bs) (D:Dk) (n d:Bs):ru k D (dA D n d).1:=(j5 D n d).keep Bz
theorem EI (k:Bs) (D:Dk) (M:Mp pO) (step most:Nat) (x:Bs):ru k D (aQ D M step most x).1:=by
 unfold aQ
 split
 ·exact ru.refl _ _
 ·split
  ·exact ru.refl _ _
  ·split
   ·split
    ·exact gN _ _ _ _
    ·exact gN _ _ _ _
   ·exact ru.refl _ _
theorem wV (k:Bs) (Q:Sq) (id:Nat) (r:aJ):ru k Q.D (Q.lay id r).1.D:=by
 rw [nO]
 split
 ·exact gN _ _ _ _
 ·exact gN _ _ _ _
theorem om (k:Bs) (Q:Sq) (c:Sc) (e:En) (body:Bs):ru k Q.D (Q.aZ c e body).1.D:=by
 have h:=EI k Q.D Q.led c.step c.most (bH e.dom (Q.dV e.dom))
 unfold Sq.aZ
 split
 ·exact h
 ·split
  ·exact h
  ·exact h
theorem Dm {k:Bs} (hk:dR.isPrefixOf k=false) (id n o:Nat):k≠aS id n o:=fun e=>by rw [e,uX] at hk;cases hk
theorem sO {k:Bs} (hk:dR.isPrefixOf k=false) (Q:Sq) (c:Sc) (e:En) (body:Bs):ru k Q.D (Q.write c e body).1.D:=by
 rw [kI]
 split
 ·exact om k Q c e body
 ·refine (om k Q c e body).trans ?_
  generalize (Q.aZ c e body).1=Q1
  rw [mq]
  split
  ·exact qK k Q1.D _ _
  ·refine (qK k Q1.D (aS e.id (Q.entry c e).ep (Q.entry c e).cnt) (Q.aZ c e body).2.1).trans ?_
   generalize hD:(Q1.D.write (aS e.id (Q.entry c e).ep (Q.entry c e).cnt) (Q.aZ c e body).2.1).1=D2
   split
   ·exact (wV k { Q1 with D:=D2 } _ _).trans (y5 _ (Dm hk _ _ _))
   ·split
    ·exact wV k { Q1 with D:=D2 } _ _
    ·split
     ·exact wV k { Q1 with D:=D2 } _ _
     ·rename_i o ho _
      refine (wV k { Q1 with D:=D2 } _ _).trans (y5 _ ?_)
      split at ho
      ·cases ho
       exact Dm hk _ _ _
      ·cases ho
abbrev Top:Bx→Fs→Prop:=fun _ _=>True
structure Up (m:Bs) (Q:Sq):Prop where
 good:∃ lf,Good Top m Q lf
 calm:Calm Q.D
 Hq:Q.D.now.get indexB≠none
 JQ:Q.D.now.get bn≠none
 NA:Q.D.now.get dm≠none
 tidy:∀ k,Q.D.now.get k≠none→k=indexB∨k=bn∨k=dm∨∃ id r,Q.rows.get id=some r∧k=aS id r.ep r.cnt
section
variable {m:Bs} {Q:Sq} {c:Sc} {n:Nat}
theorem Up.write (h:Up m Q) (hok:bg c n Q) (hmk:c.ai=m) (e:En) (body:Bs) (hid:e.id≤1099511627776) (hown:∀ r0,Q.rows.get e.id=some r0→r0.dom=e.dom) :
  Up m (Q.write c e body).1∧(Q.write c e body).1.last=(if (Q.write c e body).2=0 then max Q.last e.id else Q.last):=by
 obtain ⟨lf,hg⟩:=h.good
 have k1:=sO (k:=indexB) (by decide) Q c e body h.calm
 have k2:=sO (k:=bn) (by decide) Q c e body h.calm
 have k3:=sO (k:=dm) (by decide) Q c e body h.calm
 obtain ⟨lf2,hw⟩:=Bv (P:=Top) hg hok hmk (fun _ _ _ _ h=>h) (fun _ _ h=>h) (fun _ _ _ _ _ _=>trivial) h.Hq e body hid hown (fun _ _ _ _ _ _ _=>trivial)
 have Lj:=k1.1.1
 cases hw with
 | down a1 a2 _ _=>rw [a2] at Lj;cases Lj
 | lost a1 a2 _ _=>rw [a2] at Lj;cases Lj
 | no a1 a2 a3 a4 a5 a6 a7 a8 a9 =>
  refine ⟨⟨⟨lf2,a2⟩,k1.1,k1.2 h.Hq,k2.2 h.JQ,k3.2 h.NA,fun k hk=>?_⟩,by rw [if_neg a1,a4]⟩
  by_cases hl:k=dm
  ·exact .inr (.inr (.inl hl))
  ·rw [a3]
   exact h.tidy k (a8 k hl hk)
 | did a1 a2 a3 a4 a5 a6 a7 a8 a9 b1 =>
  refine ⟨⟨⟨lf2,a2⟩,k1.1,k1.2 h.Hq,k2.2 h.JQ,k3.2 h.NA,fun k hk=>?_⟩,by rw [if_pos a1,a4]⟩
  have KQ:(Q.row c e).ep≠0:=by
   obtain ⟨⟨t,_,ht⟩,_,_,h5,_⟩:=a7
   have:=Dc (B:=(Q.write c e body).1.B) (key:=nR m (Q.row c e).dom (Q.row c e).ep) (t:=t) (by rw [ht])
   rw [ht] at this
   have:=(bT this).ep
   dsimp only at this
   rw [h5] at this
   omega
  by_cases hl:k=dm
  ·exact .inr (.inr (.inl hl))
  ·rcases a9 k hl hk with hh | ⟨g1,g2⟩
   ·refine .inr (.inr (.inr ⟨e.id,Q.row c e,?_,hh⟩))
    rw [a3,gQ,if_pos rfl,if_neg KQ]
   ·rcases h.tidy k g1 with t | t | t | ⟨j,r1,hj,hjk⟩
    ·exact .inl t
    ·exact .inr (.inl t)
    ·exact .inr (.inr (.inl t))
    ·refine .inr (.inr (.inr ⟨j,r1,?_,hjk⟩))
     rw [a3,gQ]
     by_cases hje:j=e.id
     ·rw [hje] at hj hjk
      exact absurd hjk (g2 r1 hj)
     ·rw [if_neg hje]
      exact hj
theorem Up.holds (h:Up m Q):∃ lf,Holds m Q.B Q.D.now Q.rows Q.last Q.ring lf:=by
 obtain ⟨lf,hg⟩:=h.good
 exact ⟨lf,hg.holds⟩
theorem Up.load (h:Up m Q) (hok:bg c n Q) (id:Nat):(Q.load m id).1=Q∧((Q.load m id).2.2.2=0→∃ r,Q.rows.get id=some r∧(Q.load m id).2.1.id=id∧(Q.load m id).2.1.dom=r.dom)∧((Q.load m id).2.2.2≠0→Q.rows.get id=none):=by
 obtain ⟨lf,hh⟩:=h.holds
 cases hg:Q.rows.get id with
 | none =>
  rw [Nz hg]
  exact ⟨rfl,fun hz=>absurd hz (show (10:Int)≠0 by decide),fun _=>rfl⟩
 | some r =>
  obtain ⟨e,body,ho,hl⟩:=Dl hh hok.fit hg
  rw [hl]
  exact ⟨rfl,fun _=>⟨r,rfl,ho.id,ho.dom⟩,fun hz=>absurd rfl hz⟩
theorem Up.put (h:Up m Q) (hok:bg c n Q) (hmk:c.ai=m) (e:En) (body:Bs):Up m (Q.put c e body).1:=by
 rw [put_eq]
 split
 ·exact h
 ·split
  ·exact h
  ·split
   ·exact h
   ·rename_i hl
    obtain ⟨lf,hh⟩:=h.holds
    have hla:=hok.last
    have hw:=(h.write hok hmk { e with id:=Q.last+1 } body (by dsimp only;omega) (fun r0 hr0=>by have:=hh.below hr0;dsimp only at this;omega)).1
    split
    ·exact hw
    ·exact hw
theorem Up.update (h:Up m Q) (hok:bg c n Q) (hmk:c.ai=m) (e:En):Up m (Q.update c e).1:=by
 obtain ⟨l1,l2,l3⟩:=h.load hok e.id
 rw [← hmk] at l1 l2 l3
 rw [C8]
 split
 ·rw [l1];exact h
 ·rename_i h0
  obtain ⟨r,hr,hi,hd⟩:=l2 (Classical.byContradiction fun hh=>h0 hh)
  split
  ·rw [l1];exact h
  ·rename_i Hr
   split
   ·rw [l1];exact h
   ·rename_i hdom
    rw [l1]
    have hid:=(hok.fit _ (Mn.get_mem hr)).1
    exact (h.write hok hmk e _ hid (fun r0 hr0=>by
     rw [hr] at hr0
     cases hr0
     rw [← hd]
     exact (Classical.byContradiction fun hh=>hdom hh:e.dom=_).symm)).1
end
end
end Go.Proofs.YtangbdahnmomlaaGreatDoor
