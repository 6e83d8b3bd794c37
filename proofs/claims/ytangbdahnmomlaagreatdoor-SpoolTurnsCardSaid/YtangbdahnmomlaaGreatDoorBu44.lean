/- law 16: SpoolAgain's walk. Conditions: what Go's variables hold; the arguments are some. law 16, plainly: what the first look computes. No -/
import Derived.Test.YtangbdahnmomlaaGreatDoorBu11
import Derived.Test.YtangbdahnmomlaaGreatDoorBu20
import Derived.Test.YtangbdahnmomlaaGreatDoorBu43
set_option linter.unnecessarySimpa false
set_option linter.unusedSimpArgs false
set_option linter.unusedVariables false
set_option maxHeartbeats 16000000
set_option maxRecDepth 1000000
namespace Go.Proofs.YtangbdahnmomlaaGreatDoor
section
open Go.RowKit Go.Maps
def cO:Bs:=[48,49,50,51,52,53,54,55,56,57,97,98,99,100,101,102,48,49,50,51,52,53,54,55,56,57,97,98,99,100,101,102]
theorem m32:cO.length=32:=by decide
theorem JZ:Dk.new.Roomy 100∧Qv.Roomy 100∧ND.Roomy 100 :=
 ⟨⟨of_decide_eq_true (by kernel_rfl),of_decide_eq_true (by kernel_rfl),of_decide_eq_true (by kernel_rfl),of_decide_eq_true (by kernel_rfl),of_decide_eq_true (by kernel_rfl)⟩,
  ⟨of_decide_eq_true (by kernel_rfl),of_decide_eq_true (by kernel_rfl),of_decide_eq_true (by kernel_rfl),of_decide_eq_true (by kernel_rfl),of_decide_eq_true (by kernel_rfl)⟩,
  ⟨of_decide_eq_true (by kernel_rfl),of_decide_eq_true (by kernel_rfl),of_decide_eq_true (by kernel_rfl),of_decide_eq_true (by kernel_rfl),of_decide_eq_true (by kernel_rfl)⟩⟩
theorem UR {c:Sc} {B:Bx} (hk:c.ai.length=32) (hB:B.tX) (ht:1000*B.tab≤100) (h:¬ (c.step<1∨1000<c.step∨1099511627776<c.most)):EL c Dk.new B 100:=by
 refine ⟨hk,JZ.1,by rw [sS];exact JZ.2.1,by rw [sS];dsimp only;rw [wY];exact JZ.2.2,by decide,fun led ring h1 h2 _=>?_⟩
 rw [sS] at h1 h2
 dsimp only at h1 h2
 rw [wY] at h2
 cases h1
 cases h2
 rw [Ll,Dn]
 have hn:(zk B).D.now.names dR=[]:=Lm
 dsimp only
 rw [hn]
 exact ⟨0,ok16 hk h hB ht,Nat.le_refl _,by simp,by show 100+403*0+0+1000≤1000000;decide⟩
theorem za:∀ (l:List dK) (M:Mp pO),(∀ x∈l,qa x)→(∀ p∈M,p.2.c≤p.2.ceil∧p.2.ceil≤1099511627776)→∀ p∈l.foldl (fun M p=>M.put p.key ⟨p.ceil,p.ceil⟩) M,p.2.c≤p.2.ceil∧p.2.ceil≤1099511627776
 | [],M,_,h=>h
 | x::l,M,hl,h=>za l _ (fun y hy=>hl y (by simp [hy])) (fun p hp=>by
  rcases Mp.tu.1 hp with rfl | ⟨hp,_⟩
  ·exact ⟨Nat.le_refl _,(hl x (by simp)).2⟩
  ·exact h p hp)
theorem zb {D:Dk} {M:Mp pO} (h:(aR D).2.1=some M):(∀ p∈M,p.2.c≤p.2.ceil∧p.2.ceil≤1099511627776)∧M.length≤(bN D).length:=by
 have hM:M=bG (fT (bN D)):=by
  unfold aR at h
  split at h
  ·cases h;rfl
  ·split at h
   ·cases h
   ·split at h
    ·cases h
    ·cases h;rfl
 have hs:=rO ((bN D).length+1) (bN D)
 have hp:=rM (fT (bN D))
 have hlen:(fT (bN D)).length≤(bN D).length:=by
  have:=hs.1
  unfold fT
  omega
 rw [hM]
 exact ⟨za _ [] hs.2 (by simp),by omega⟩
theorem NF {m:Bs} {c:Sc} {n:Nat} {Q:Sq} (h:Up m Q) (hok:bg c n Q) (hmk:c.ai=m) (hn:n≤940000) (hr:Q.rows.length≤100) (hf:Q.D.now.length≤1000):EL c Q.D Q.B n:=by
 obtain ⟨lf,_,hup,hl,hrg,hi,Sk⟩:=reopen h hok hmk
 refine ⟨hok.key,hok.room,by rw [hl];exact hok.room,by rw [hl];dsimp only;rw [hrg];exact hok.room,by omega,fun led ring h1 h2 _=>?_⟩
 rw [hl] at h1 h2
 dsimp only at h1 h2
 rw [hrg] at h2
 cases h1
 cases h2
 rw [Sk,hmk,(wW hup hok.fit).2.2]
 refine ⟨1000,?_,?_,fun f hfm=>?_,by show n+403*Q.rows.length+1000+1000≤1000000;omega⟩
 ·have hb:=zb (D:=Q.D) (M:=bG lf) (by rw [hl])
  have hfl:(bN Q.D).length≤n:=hok.room.file dm
  exact { hok with led:=hb.1,Gz:=Nat.le_trans hb.2 hfl }
 ·show (Q.D.now.names dR).length≤1000
  unfold Fs.names
  exact Nat.le_trans (List.length_filter_le _ _) (by rw [List.length_map];exact hf)
 ·obtain ⟨g1,g2⟩:=xV (F:=Q.D.now) hfm
  rcases h.tidy f g1 with rfl | rfl | rfl | ⟨id,r,hr,rfl⟩
  ·decide
  ·decide
  ·decide
  ·have:=hok.fit _ (Mn.get_mem hr)
   have:=CZ id r.ep r.cnt this.1 this.2.2.1 this.2.2.2
   omega
theorem TH {m:Bs} {c:Sc} {n:Nat} {Q:Sq} (h:Up m Q) (hok:bg c n Q) (hmk:c.ai=m):∃ lf,gZ c Q.D Q.B=(Q.D,some { Q with led:=bG lf },0)∧Up m { Q with led:=bG lf }∧bg c n { Q with led:=bG lf }:=by
 obtain ⟨lf,h1,h2,hl,_⟩:=reopen h hok hmk
 have hb:=zb (D:=Q.D) (M:=bG lf) (by rw [hl])
 have hfl:(bN Q.D).length≤n:=hok.room.file dm
 exact ⟨lf,h1,h2,{ hok with led:=hb.1,Gz:=Nat.le_trans hb.2 hfl }⟩
end
section
open Go.RowKit Go.Maps
def c16:Sc:=⟨cO,2,100⟩
def nT:Bs:=[97,46,98]
def fw:List lu:=[(([120],[99]),0)]
def e16:En:=⟨0,nT,0,0,([],[]),fw,0,0,0⟩
def sU:Bs:=[98,111,100,121]
def zL:Bs:=[111,116,104,101,114]
def Xl:Bx:=.eT (zeros 2000) []
def Wt:Sq:=zk Xl
def Q6:Sq:=(Wt.put c16 e16 sU).1
theorem a1:(Wt.put c16 e16 sU).2=(1,0):=by kernel_rfl
def x16:En:=⟨1,nT,1,0,([],[]),fw,0,0,0⟩
theorem l1:(Q6.load cO 1).2=(x16,sU,0):=by kernel_rfl
def Xm:En:=⟨1,nT,1,0,([],[]),fw,0,0,3⟩
def Q7:Sq:=(Q6.update c16 Xm).1
theorem u1:(Q6.update c16 Xm).2=0:=by kernel_rfl
def z16:En:=⟨1,nT,1,1,([],[]),fw,0,0,3⟩
theorem l2:(Q7.load cO 1).2=(z16,sU,0):=by kernel_rfl
def Xn:Sq:=(Q7.begin nT).1
theorem b1:(Q7.begin nT).2=0:=by kernel_rfl
def Xo:Sq:=(Xn.step c16 nT).1
theorem s1:(Xn.step c16 nT).2=(false,0):=by kernel_rfl
def rf:Sq:=(Xo.step c16 nT).1
theorem s2:(Xo.step c16 nT).2=(true,0):=by kernel_rfl
theorem abr:ax rf.ring nT=⟨2,0⟩:=by kernel_rfl
def Lr:Sq:={ rf with led:=(aR rf.D).2.1.getD [] }
def w16:En:=⟨1,nT,2,0,([],[]),fw,0,0,3⟩
theorem l3:(Lr.load cO 1).2=(w16,sU,0):=by kernel_rfl
def Wu:Sq:=(Lr.put c16 e16 zL).1
theorem a2:(Lr.put c16 e16 zL).2=(2,0):=by kernel_rfl
def YI:Sq:={ Wu with D:=(Wu.D.edit (aS 1 2 0) [63]).1 }
def Xp:Sq:=(YI.load cO 1).1
theorem l4:(YI.load cO 1).2=(En.zero,[],20):=by kernel_rfl
def H8:Sq:=(Xp.remove 2).1
theorem r1:(Xp.remove 2).2=0:=by kernel_rfl
theorem r2:(H8.remove 2).2=10:=by kernel_rfl
theorem n16:(H8.D.now.names oO).length=1:=by kernel_rfl
theorem i16:H8.ids=[]:=by kernel_rfl
theorem Wv:H8.last=2:=by kernel_rfl
end
section
open Go.RowKit Go.Maps
theorem Ls:e16.Fit:=⟨by decide,by decide,by decide,by decide,by decide,by decide,by decide,by decide,by decide,by decide⟩
theorem TI:Xm.Fit:=⟨by decide,by decide,by decide,by decide,by decide,by decide,by decide,by decide,by decide,by decide⟩
theorem TJ:w16.Fit:=⟨by decide,by decide,by decide,by decide,by decide,by decide,by decide,by decide,by decide,by decide⟩
theorem UT:Xl.tX:=⟨by rw [zeros_length];decide,fun k x hx=>by simp [Mp.get] at hx⟩
theorem ok0:bg c16 100 Wt:=ok16 m32 (by decide) UT (by decide)
theorem uq0:Up cO Wt:=YH _ _
theorem ok1:bg c16 22600 Q6:=ok0.put e16 sU
theorem uq1:Up cO Q6:=uq0.put ok0 rfl e16 sU
theorem YJ:bg c16 45600 Q7:=ok1.update Xm
theorem uq2:Up cO Q7:=uq1.update ok1 rfl Xm
theorem ok3:bg c16 46000 Xn:=YJ.begin nT
theorem uq3:Up cO Xn:=uq2.begin YJ nT
theorem ok4:bg c16 69000 Xo:=ok3.stepped nT
theorem uq4:Up cO Xo:=uq3.step ok3 rfl nT
theorem ok5:bg c16 92000 rf:=ok4.stepped nT
theorem uq5:Up cO rf:=uq4.step ok4 rfl nT
theorem Dp:gZ c16 rf.D rf.B=(rf.D,some Lr,0)∧Up cO Lr∧bg c16 92000 Lr:=by
 obtain ⟨lf,h1,h2,h3⟩:=TH uq5 ok5 (c:=c16) rfl
 obtain ⟨lf',g1,_,gl,_⟩:=reopen uq5 ok5 (c:=c16) rfl
 have e:Lr={ rf with led:=bG lf' }:=by unfold Lr;rw [gl];rfl
 have e2:({ rf with led:=bG lf' }:Sq)={ rf with led:=bG lf }:=by
  exact Option.some.inj (Prod.mk.inj (Prod.mk.inj (g1.symm.trans h1)).2).1
 rw [e,e2]
 exact ⟨h1,h2,h3⟩
theorem YK:rf.rows.length≤100∧rf.D.now.length≤1000:=⟨of_decide_eq_true (by kernel_rfl),of_decide_eq_true (by kernel_rfl)⟩
theorem YL:bg c16 114500 Wu:=Dp.2.2.put e16 zL
theorem YM:(Wu.D.edit (aS 1 2 0) [63]).1.Roomy 200000:=⟨of_decide_eq_true (by kernel_rfl),of_decide_eq_true (by kernel_rfl),of_decide_eq_true (by kernel_rfl),of_decide_eq_true (by kernel_rfl),of_decide_eq_true (by kernel_rfl)⟩
theorem YN:Wu.D.sure.length<1000000000000:=of_decide_eq_true (by kernel_rfl)
theorem YO:bg c16 200000 YI:=YL.disk YM (by decide)
theorem YP:bg c16 200404 Xp:=YO.load 1
theorem Ww:bg c16 200808 H8:=YP.remove 2
theorem abx:H8.rows.has 2=false:=by kernel_rfl
theorem aby:H8.remove 2=(H8,10):=by rw [C9,if_pos abx]
theorem nmw:zV w16=aS 1 2 0:=by kernel_rfl
end
section
open Go.RowKit Go.Maps
section
variable {w0 w:World} {F0:List Nat} {K L X:List aT} {P:nS} {c:Sc} {Q:Sq} {v:Value} {l:List lu}
theorem Sp.xW (S:Sp w0 F0 w (ay P c Q L)):Sp w0 F0 w L:=S.drop.drop.drop.drop.drop.drop
theorem Sp.behind (S:Sp w0 F0 w (X++L)):Sp w0 F0 w L:=by
 induction X with
 | nil=>exact S
 | cons x X ih=>exact ih S.drop
theorem Sp.EN (S:Sp w0 F0 w (X++dH v l::L)):iM w v l:=S.behind.kM
abbrev NH (v:Value):Array Value:=#[.int .u64 0,.string ⟨#[97,46,98]⟩,.int .u64 0,.int .u64 0,.string ⟨#[]⟩,.string ⟨#[]⟩,v,.int .u64 0,.int .u64 0,.int .i64 0]
abbrev YQ (v:Value):Array Value:=#[.int .u64 1,.string ⟨#[97,46,98]⟩,.int .u64 1,.int .u64 0,.string ⟨#[]⟩,.string ⟨#[]⟩,v,.int .u64 0,.int .u64 0,.int .i64 0]
abbrev H9 (v:Value):Array Value:=#[.int .u64 1,.string ⟨#[97,46,98]⟩,.int .u64 1,.int .u64 0,.string ⟨#[]⟩,.string ⟨#[]⟩,v,.int .u64 0,.int .u64 0,.int .i64 3]
abbrev J2 (v:Value):Array Value:=#[.int .u64 1,.string ⟨#[97,46,98]⟩,.int .u64 1,.int .u64 1,.string ⟨#[]⟩,.string ⟨#[]⟩,v,.int .u64 0,.int .u64 0,.int .i64 3]
abbrev NI (v:Value):Array Value:=#[.int .u64 1,.string ⟨#[97,46,98]⟩,.int .u64 2,.int .u64 0,.string ⟨#[]⟩,.string ⟨#[]⟩,v,.int .u64 0,.int .u64 0,.int .i64 3]
abbrev Wx (v:Value):Array Value:=#[.int .u64 0,.string ⟨#[]⟩,.int .u64 0,.int .u64 0,.string ⟨#[]⟩,.string ⟨#[]⟩,v,.int .u64 0,.int .u64 0,.int .i64 0]
theorem TK (n e:Bs) {p:Nat} {D:Dk} (S:Sp w0 F0 w (aF p D::L)) (hs:D.now.length<1000000000000) (hs2:D.sure.length<1000000000000) (hn:n.length≤maxLen) (hd:e.length≤maxLen):Calls Tryz.prog 32 #[.pointer (some ⟨p,0,none⟩),.string ⟨n.toArray⟩,.string ⟨e.toArray⟩] w fun r w2=>r=.returned (.int .i64 (D.edit n e).2)∧Sp w0 F0 w2 (aF p (D.edit n e).1::L):=by
 obtain ⟨F,h,hk⟩:=S.disk
 exact (OA p F D n e w h hs hs2 hn hd).mono fun _ _ ⟨he,h2⟩=>⟨he,hk _ _ h2⟩
theorem J3 {l:List Nat} (S:Sp w0 F0 w (jK v l::L)):∃ a cap,v=.slice a l.length cap:=by
 rcases S.jr with ⟨rfl,h0⟩ | ⟨g,cap,rfl⟩
 ·exact ⟨none,0,by rw [h0]⟩
 ·exact ⟨_,cap,rfl⟩
theorem Qx (S:Sp w0 [] w L):Calls Tryz.prog 10 #[.string ⟨#[97,46,98]⟩] w fun r w2=>∃ v,r=.returned (.agg (NH v))∧Sp w0 [] w2 (dH v fw::L):=by
 have S1:=S.box (NH (.slice (some ⟨w.heap.size+1,0,none⟩) 1 1)) 40
 have S2:Sp w0 [] _ (dH (.slice (some ⟨(w.alloc (.cells (NH (.slice (some ⟨w.heap.size+1,0,none⟩) 1 1)) 40)).heap.size,0,none⟩) 1 1) fw::_):=S1.Kk 100 3 1 [.string ⟨#[120]⟩,.string ⟨#[99]⟩,.int .i64 0] rfl (by decide)
 have c0:=S2.ak.cell
 simp only [World.size_alloc] at S2 c0
 have HS:=Lib.hid ((Sp.pick [_,_] [0] (by decide) (S2)))
 clear S S1 S2
 go_enter Tryz.func10,Tryz.ntmps10
 go_upto_region 1 with (fail)
 go_wp2_with fail
 exact bodyPost_ret (v:=.agg (NH (.slice (some ⟨w.heap.size+1,0,none⟩) 1 1))) (by simp [results,Tryz.results10,go_sem,c0]) rfl ⟨_,rfl,HS.out⟩
theorem Qy {d b:Nat} (E:Env w0) (S:Sp w0 [] w (aF d Dk.new::jG b Xl::L)):Calls Tryz.prog 7 #[.pointer (some ⟨d,0,none⟩),.pointer (some ⟨b,0,none⟩),.string ⟨cO.toArray⟩,.int .u64 2,.int .u64 100] w fun e w2=>∃ P:nS,P.d=d∧P.b=b∧e=.returned (.tuple #[.pointer (some ⟨P.s,0,none⟩),.int .i64 0])∧Sp w0 [] w2 (ay P c16 Wt L):=by
 refine (uY c16 Dk.new Xl 100 m32 (fun hg=>UR m32 UT (by decide) hg) E S).mono fun e w2 h=>?_
 unfold EK at h
 rw [Lp (c:=c16) (B:=Xl) (by decide)] at h
 exact h
theorem Qz {d b:Nat} (E:Env w0) (S:Sp w0 [] w (aF d rf.D::jG b rf.B::L)):Calls Tryz.prog 7 #[.pointer (some ⟨d,0,none⟩),.pointer (some ⟨b,0,none⟩),.string ⟨cO.toArray⟩,.int .u64 2,.int .u64 100] w fun e w2=>∃ P:nS,P.d=d∧P.b=b∧e=.returned (.tuple #[.pointer (some ⟨P.s,0,none⟩),.int .i64 0])∧Sp w0 [] w2 (ay P c16 Lr L):=by
 refine (uY c16 rf.D rf.B 92000 m32 (fun _=>NF uq5 ok5 rfl (by decide) YK.1 YK.2) E S).mono fun e w2 h=>?_
 unfold EK at h
 rw [Dp.1] at h
 exact h
theorem TL (E:Env w0) (S:Sp w0 [] w (ay P c16 Wt (dH v fw::K))):Calls Tryz.prog 11 #[.pointer (some ⟨P.s,0,none⟩),.agg (NH v),.string ⟨#[98,111,100,121]⟩] w fun r w2=>r=.returned (.tuple #[.int .u64 1,.int .i64 0])∧Sp w0 [] w2 (ay P c16 Q6 (dH v fw::K)):=by
 have h:=JO (v:=v) e16 sU 100 Ls ok0 (by decide) E (fun w' X S'=>Sp.EN (v:=v) (l:=fw) S') S
 rw [a1] at h
 exact h
theorem TM (E:Env w0) (S:Sp w0 [] w (ay P c16 Lr (dH v fw::K))):Calls Tryz.prog 11 #[.pointer (some ⟨P.s,0,none⟩),.agg (NH v),.string ⟨#[111,116,104,101,114]⟩] w fun r w2=>r=.returned (.tuple #[.int .u64 2,.int .i64 0])∧Sp w0 [] w2 (ay P c16 Wu (dH v fw::K)):=by
 have h:=JO (v:=v) e16 zL 92000 Ls Dp.2.2 (by decide) E (fun w' X S'=>Sp.EN (v:=v) (l:=fw) S') S
 rw [a2] at h
 exact h
theorem QA (E:Env w0) (S:Sp w0 [] w (ay P c16 Q6 K)):Calls Tryz.prog 14 #[.pointer (some ⟨P.s,0,none⟩),.int .u64 1] w fun r w2=>∃ va vc,r=.returned (.tuple #[.agg (YQ (.slice va 1 vc)),.string ⟨#[98,111,100,121]⟩,.int .i64 0])∧Sp w0 [] w2 (dH (.slice va 1 vc) fw::ay P c16 Q6 K):=by
 have h:=qI 1 22600 (by decide) ok1 (by decide) E S
 rw [show c16.ai=cO from rfl,(uq1.load ok1 1).1,l1] at h
 refine h.mono fun r w2 ⟨v,hr,S2⟩=>?_
 obtain ⟨va,vc,rfl⟩:=S2.kM.form
 exact ⟨va,vc,hr,S2⟩
theorem QB (E:Env w0) (S:Sp w0 [] w (ay P c16 Q7 K)):Calls Tryz.prog 14 #[.pointer (some ⟨P.s,0,none⟩),.int .u64 1] w fun r w2=>∃ va vc,r=.returned (.tuple #[.agg (J2 (.slice va 1 vc)),.string ⟨#[98,111,100,121]⟩,.int .i64 0])∧Sp w0 [] w2 (dH (.slice va 1 vc) fw::ay P c16 Q7 K):=by
 have h:=qI 1 45600 (by decide) YJ (by decide) E S
 rw [show c16.ai=cO from rfl,(uq2.load YJ 1).1,l2] at h
 refine h.mono fun r w2 ⟨v,hr,S2⟩=>?_
 obtain ⟨va,vc,rfl⟩:=S2.kM.form
 exact ⟨va,vc,hr,S2⟩
theorem QC (E:Env w0) (S:Sp w0 [] w (ay P c16 Lr K)):Calls Tryz.prog 14 #[.pointer (some ⟨P.s,0,none⟩),.int .u64 1] w fun r w2=>∃ va vc,r=.returned (.tuple #[.agg (NI (.slice va 1 vc)),.string ⟨#[98,111,100,121]⟩,.int .i64 0])∧Sp w0 [] w2 (dH (.slice va 1 vc) fw::ay P c16 Lr K):=by
 have h:=qI 1 92000 (by decide) Dp.2.2 (by decide) E S
 rw [show c16.ai=cO from rfl,(Dp.2.1.load Dp.2.2 1).1,l3] at h
 refine h.mono fun r w2 ⟨v,hr,S2⟩=>?_
 obtain ⟨va,vc,rfl⟩:=S2.kM.form
 exact ⟨va,vc,hr,S2⟩
theorem QD (E:Env w0) (S:Sp w0 [] w (ay P c16 YI K)):Calls Tryz.prog 14 #[.pointer (some ⟨P.s,0,none⟩),.int .u64 1] w fun r w2=>∃ va vc,r=.returned (.tuple #[.agg (Wx (.slice va 0 vc)),.string ⟨#[]⟩,.int .i64 20])∧Sp w0 [] w2 (dH (.slice va 0 vc) []::ay P c16 Xp K):=by
 have h:=qI 1 200000 (by decide) YO (by decide) E S
 rw [show c16.ai=cO from rfl,l4] at h
 refine h.mono fun r w2 ⟨v,hr,S2⟩=>?_
 obtain ⟨va,vc,rfl⟩:=S2.kM.form
 exact ⟨va,vc,hr,S2⟩
theorem TN (E:Env w0) (S:Sp w0 [] w (ay P c16 Q6 (dH v fw::K))):Calls Tryz.prog 21 #[.pointer (some ⟨P.s,0,none⟩),.agg (H9 v)] w fun r w2=>r=.returned (.int .i64 0)∧Sp w0 [] w2 (ay P c16 Q7 (dH v fw::K)):=by
 have h:=Nu (v:=v) Xm 22600 TI ok1 (by decide) E (fun w' X S'=>Sp.EN (v:=v) (l:=fw) S') S
 rw [u1] at h
 exact h
theorem TP (S:Sp w0 [] w (ay P c16 Q7 K)):Calls Tryz.prog 13 #[.pointer (some ⟨P.s,0,none⟩),.string ⟨#[97,46,98]⟩] w fun r w2=>r=.returned (.int .i64 0)∧Sp w0 [] w2 (ay P c16 Xn K):=by
 have h:=He nT 45600 (by decide) YJ (by decide) S
 rw [b1] at h
 exact h
theorem TQ (E:Env w0) (S:Sp w0 [] w (ay P c16 Xn K)):Calls Tryz.prog 12 #[.pointer (some ⟨P.s,0,none⟩),.string ⟨#[97,46,98]⟩] w fun r w2=>r=.returned (.tuple #[.bool false,.int .i64 0])∧Sp w0 [] w2 (ay P c16 Xo K):=by
 have h:=zJ nT 46000 (by decide) ok3 (by decide) E S
 rw [s1] at h
 exact h
theorem TR (E:Env w0) (S:Sp w0 [] w (ay P c16 Xo K)):Calls Tryz.prog 12 #[.pointer (some ⟨P.s,0,none⟩),.string ⟨#[97,46,98]⟩] w fun r w2=>r=.returned (.tuple #[.bool true,.int .i64 0])∧Sp w0 [] w2 (ay P c16 rf K):=by
 have h:=zJ nT 69000 (by decide) ok4 (by decide) E S
 rw [s2] at h
 exact h
theorem TS (S:Sp w0 [] w (ay P c16 rf K)):Calls Tryz.prog 16 #[.pointer (some ⟨P.s,0,none⟩),.string ⟨#[97,46,98]⟩] w fun r w2=>r=.returned (.agg #[.int .u64 2,.int .u64 0])∧Sp w0 [] w2 (ay P c16 rf K):=by
 have h:=Hd nT (by decide) S
 rw [abr] at h
 exact h
theorem QE (E:Env w0) (S:Sp w0 [] w K):Calls Tryz.prog 33 #[.agg (NI v)] w fun r w2=>r=.returned (.string ⟨(aS 1 2 0).toArray⟩)∧Sp w0 [] w2 K:=by
 have h:=Ed (v:=v) w16 E TJ S
 rw [nmw] at h
 exact h
theorem TT (n e:Bs) (hs:Q.D.now.length<1000000000000) (hs2:Q.D.sure.length<1000000000000) (hn:n.length≤maxLen) (hd:e.length≤maxLen) (S:Sp w0 [] w (ay P c Q K)):Calls Tryz.prog 32 #[.pointer (some ⟨P.d,0,none⟩),.string ⟨n.toArray⟩,.string ⟨e.toArray⟩] w fun r w2=>r=.returned (.int .i64 (Q.D.edit n e).2)∧Sp w0 [] w2 (ay P c { Q with D:=(Q.D.edit n e).1 } K):=by
 unfold ay at S
 have h:=TK n e ((Sp.pick [_,_,_,_,_,_] [2,0,1,3,4,5] (by decide) (S))) hs hs2 hn hd
 refine h.mono fun r w2 ⟨hr,S2⟩=>⟨hr,?_⟩
 unfold ay
 exact (Sp.pick [_,_,_,_,_,_] [1,2,0,3,4,5] (by decide) (S2))
theorem QF (S:Sp w0 [] w (ay P c16 Wu K)):Calls Tryz.prog 32 #[.pointer (some ⟨P.d,0,none⟩),.string ⟨(aS 1 2 0).toArray⟩,.string ⟨#[63]⟩] w fun r w2=>∃ z,r=.returned (.int .i64 z)∧Sp w0 [] w2 (ay P c16 YI K) :=
 (TT (aS 1 2 0) [63] (Nat.lt_of_le_of_lt YL.room.now (by decide)) YN (of_decide_eq_true (by kernel_rfl)) (by decide) S).mono fun r w2 h=>⟨_,h.1,h.2⟩
theorem TU (E:Env w0) (S:Sp w0 [] w (ay P c16 Xp K)):Calls Tryz.prog 22 #[.pointer (some ⟨P.s,0,none⟩),.int .u64 2] w fun r w2=>r=.returned (.int .i64 0)∧Sp w0 [] w2 (ay P c16 H8 K):=by
 have h:=Db 2 200404 (by decide) YP (by decide) E S
 rw [r1] at h
 exact h
theorem TV (E:Env w0) (S:Sp w0 [] w (ay P c16 H8 K)):Calls Tryz.prog 22 #[.pointer (some ⟨P.s,0,none⟩),.int .u64 2] w fun r w2=>r=.returned (.int .i64 10)∧Sp w0 [] w2 (ay P c16 H8 K):=by
 have h:=Db 2 200808 (by decide) Ww (by decide) E S
 rw [aby] at h
 dsimp only at h
 exact h
theorem TW (S:Sp w0 [] w (ay P c16 H8 K)):Calls Tryz.prog 17 #[.pointer (some ⟨P.s,0,none⟩)] w fun r w2=>∃ va vc,r=.returned (.slice va 1 vc)∧Sp w0 [] w2 (ay P c16 H8 K):=by
 refine (Qo (Nat.lt_of_le_of_lt Ww.room.now (by decide)) S).mono fun r w2 ⟨v,hr,S2⟩=>?_
 obtain ⟨va,vc,rfl⟩:=S2.tO
 rw [n16] at hr
 exact ⟨va,vc,hr,S2.drop⟩
theorem TY (S:Sp w0 [] w (ay P c16 H8 K)):Calls Tryz.prog 30 #[.pointer (some ⟨P.s,0,none⟩)] w fun r w2=>∃ va vc,r=.returned (.slice va 0 vc)∧Sp w0 [] w2 (ay P c16 H8 K):=by
 refine (Wq (Nat.le_trans Ww.len (by decide)) S).mono fun r w2 ⟨v,hr,S2⟩=>?_
 rw [i16] at S2
 obtain ⟨va,vc,rfl⟩:=J3 S2
 exact ⟨va,vc,hr,S2.drop⟩
theorem QG (S:Sp w0 [] w (ay P c16 H8 K)):Calls Tryz.prog 20 #[.pointer (some ⟨P.s,0,none⟩)] w fun r w2=>r=.returned (.int .u64 2)∧Sp w0 [] w2 (ay P c16 H8 K):=by
 have h:=TB S
 rw [Wv] at h
 exact h
theorem QH (E:Env w0) (S:Sp w0 [] w K):Calls Tryz.prog 6 #[] w fun e w2=>e=.returned (.bool true)∧Sp w0 [] w2 K:=by
 have HE:=Lib.hid E
 have bV:=Lib.hid S
 have hmk:∀ (n:Nat) (z:Int),z=n→n≤1000000→∀ W:World,(Instr.makeSlice 79 (.int .i64 z) (.int .i64 z)).run Tryz.prog W=.ok (.slice (some ⟨W.heap.size,0,none⟩) n n) (W.alloc (.cells (iA (zeros n)) 5)):=fun n z hz hn W=>by subst hz;exact Uw n hn W
 have hcv:∀ (n:Nat) (W:World),(convert 79 9 (.slice (some ⟨W.heap.size,0,none⟩) n n)).run Tryz.prog (W.alloc (.cells (iA (zeros n)) 5))=.ok (.string ⟨(zeros n).toArray⟩) (W.alloc (.cells (iA (zeros n)) 5)):=fun n W=>Ux n _ _ (fun j hj=>Ya n W j hj)
 have hm:=hmk 2000 2000 rfl (by decide)
 have hc:=hcv 2000
 clear S E hmk hcv
 go_enter Tryz.func6,Tryz.ntmps6
 go_wp2_with fail
 refine (XG bV.out).mono ?_
 rintro r w1 ⟨d,rfl,S⟩
 have bX:=Lib.hid (S.new (.cells (iA (zeros 2000)) 5))
 clear S bV
 go_wp2_with fail
 refine (Vp (zeros 2000) bX.out).mono ?_
 rintro r w2 ⟨b,rfl,S⟩
 have HS2:Hid (Sp w0 [] w2 (aF d Dk.new::jG b Xl::K)):=S.ak
 clear S bX hm hc
 go_wp2_with fail
 refine (Qy HE.out HS2.out).mono ?_
 rintro r w3 ⟨P,rfl,rfl,rfl,S⟩
 have bI:=Lib.hid S
 clear S HS2
 go_wp2_with fail
 refine (Qx bI.out).mono ?_
 rintro r w4 ⟨v1,rfl,S⟩
 have gP:Hid (Sp w0 [] w4 (ay P c16 Wt (dH v1 fw::K))):=by unfold ay at S ⊢;exact (Sp.pick [_,_,_,_,_,_,_] [1,2,3,4,5,6,0] (by decide) (S))
 clear S bI
 go_wp2_with fail
 refine (TL HE.out gP.out).mono ?_
 rintro r w5 ⟨rfl,S⟩
 have gB:=Lib.hid S
 clear S gP
 go_wp2_with fail
 refine (QA HE.out gB.out).mono ?_
 rintro r w6 ⟨Lt,Lu,rfl,S⟩
 have S1:=S.box (YQ (.slice Lt 1 Lu)) 40
 have c1:=S1.cell
 have fG:=Lib.hid S1
 clear S S1 gB
 go_upto_region 8 with (fail)
 generalize w6.alloc _=w7 at *
 generalize w6.heap.size=qx at *
 have jN:=Lib.hid (fG.out.box (H9 (.slice Lt 1 Lu)) 40)
 clear fG
 go_upto_region 10 with (fail)
 generalize w7.alloc _=w8 at *
 generalize w7.heap.size=qy at *
 clear c1
 have tV:Hid (Sp w0 [] _ (ay P c16 Q6 (dH (.slice Lt 1 Lu) fw::ae qy (H9 (.slice Lt 1 Lu)) 40::dH v1 fw::K))):=Lib.hid (by have h:=jN.out;unfold ay at h ⊢;exact (Sp.pick [_,_,_,_,_,_,_,_,_] [3,4,5,6,7,8,2,0] (by decide) (h)))
 have c2:=tV.out.xW.drop.cell
 clear jN
 go_wp2_with fail
 refine (TN HE.out tV.out).mono ?_
 rintro r w9 ⟨rfl,S⟩
 have uj:=Lib.hid S
 clear S tV c2
 go_wp2_with fail
 refine (QB HE.out uj.out).mono ?_
 rintro r Po ⟨QI,QJ,rfl,S⟩
 have zg:=Lib.hid (S.box (J2 (.slice QI 1 QJ)) 40)
 clear S uj
 go_upto_region 12 with (fail)
 generalize Po.alloc _=NZ at *
 generalize Po.heap.size=qz at *
 have QK:Hid (Sp w0 [] NZ (ay P c16 Q7 (ae qz (J2 (.slice QI 1 QJ)) 40::dH (.slice QI 1 QJ) fw::dH (.slice Lt 1 Lu) fw::ae qy (H9 (.slice Lt 1 Lu)) 40::dH v1 fw::K))):=Lib.hid (by have h:=zg.out;unfold ay at h ⊢;exact (Sp.pick [_,_,_,_,_,_,_,_] [2,3,4,5,6,7,0,1] (by decide) (h)))
 clear zg
 go_wp2_with fail
 refine (TP QK.out).mono ?_
 rintro r mZ ⟨rfl,S⟩
 have Ia:=Lib.hid S
 clear S QK
 go_wp2_with fail
 refine (TQ HE.out Ia.out).mono ?_
 rintro r Xq ⟨rfl,S⟩
 have Cb:=Lib.hid S
 clear S Ia
 go_wp2_with fail
 refine (TR HE.out Cb.out).mono ?_
 rintro r w14 ⟨rfl,S⟩
 have Ib:=Lib.hid S
 clear S Cb
 go_wp2_with fail
 refine (TS Ib.out).mono ?_
 rintro r Xr ⟨rfl,S⟩
 have YR:=Lib.hid (S.box #[.int .u64 2,.int .u64 0] 53)
 clear S Ib
 go_upto_region 16 with (fail)
 generalize Xr.alloc _=w16 at *
 generalize Xr.heap.size=qs at *
 have YS:Hid (Sp w0 [] w16 (aF P.d rf.D::jG P.b rf.B::ae P.s (aA P c16.ai rf.last) 90::aY 34 aJ.agg P.m rf.rows::dP P.l P.d c16.step c16.most rf.led::bz P.r P.d rf.ring::ae qs #[.int .u64 2,.int .u64 0] 53::ae qz (J2 (.slice QI 1 QJ)) 40::dH (.slice QI 1 QJ) fw::dH (.slice Lt 1 Lu) fw::ae qy (H9 (.slice Lt 1 Lu)) 40::dH v1 fw::K)):=Lib.hid (by have h:=YR.out;unfold ay at h;exact (Sp.pick [_,_,_,_,_,_,_] [3,4,1,2,5,6,0] (by decide) (h)))
 clear YR
 go_wp2_with fail
 refine (Qz HE.out YS.out).mono ?_
 rintro r w17 ⟨⟨s2,d2,b2,l2,r2,m2⟩,h1,h2,rfl,S⟩
 dsimp only at h1 h2
 subst h1 h2
 have Wy:=Lib.hid S
 clear S YS
 dsimp only at Wy ⊢
 go_wp2_with fail
 refine (QC HE.out Wy.out).mono ?_
 rintro r w18 ⟨Wz,WA,rfl,S⟩
 have YT:=Lib.hid (S.box (NI (.slice Wz 1 WA)) 40)
 clear S Wy
 go_upto_region 20 with (fail)
 generalize w18.alloc _=w19 at *
 generalize w18.heap.size=qw at *
 have YU:Hid (Sp w0 [] w19 (ay ⟨s2,P.d,P.b,l2,r2,m2⟩ c16 Lr (ae qw (NI (.slice Wz 1 WA)) 40::dH (.slice Wz 1 WA) fw::ae P.s (aA P c16.ai rf.last) 90::aY 34 aJ.agg P.m rf.rows::dP P.l P.d c16.step c16.most rf.led::bz P.r P.d rf.ring::ae qs #[.int .u64 2,.int .u64 0] 53::ae qz (J2 (.slice QI 1 QJ)) 40::dH (.slice QI 1 QJ) fw::dH (.slice Lt 1 Lu) fw::ae qy (H9 (.slice Lt 1 Lu)) 40::dH v1 fw::K))):=Lib.hid (by have h:=YT.out;unfold ay at h ⊢;exact (Sp.pick [_,_,_,_,_,_,_,_] [2,3,4,5,6,7,0,1] (by decide) (h)))
 clear YT
 go_wp2_with fail
 refine (Qx YU.out).mono ?_
 rintro r w20 ⟨v5,rfl,S⟩
 have MS:Hid (Sp w0 [] w20 (ay ⟨s2,P.d,P.b,l2,r2,m2⟩ c16 Lr (dH v5 fw::ae qw (NI (.slice Wz 1 WA)) 40::dH (.slice Wz 1 WA) fw::ae P.s (aA P c16.ai rf.last) 90::aY 34 aJ.agg P.m rf.rows::dP P.l P.d c16.step c16.most rf.led::bz P.r P.d rf.ring::ae qs #[.int .u64 2,.int .u64 0] 53::ae qz (J2 (.slice QI 1 QJ)) 40::dH (.slice QI 1 QJ) fw::dH (.slice Lt 1 Lu) fw::ae qy (H9 (.slice Lt 1 Lu)) 40::dH v1 fw::K))):=Lib.hid (by have h:=S;unfold ay at h ⊢;exact (Sp.pick [_,_,_,_,_,_,_] [1,2,3,4,5,6,0] (by decide) (h)))
 clear S YU
 go_wp2_with fail
 refine (TM HE.out MS.out).mono ?_
 rintro r w21 ⟨rfl,S⟩
 have cw:=S.xW.drop.cell
 have Pp:=Lib.hid S
 clear S MS
 go_wp2_with fail
 refine (QE HE.out Pp.out).mono ?_
 rintro r w22 ⟨rfl,S⟩
 have Pq:=Lib.hid S
 clear S Pp cw
 go_wp2_with fail
 refine (QF Pq.out).mono ?_
 rintro r w23 ⟨z23,rfl,S⟩
 have Sz:=Lib.hid S
 clear S Pq
 go_wp2_with fail
 refine (QD HE.out Sz.out).mono ?_
 rintro r w24 ⟨va6,vc6,rfl,S⟩
 have YV:=Lib.hid (S.box (Wx (.slice va6 0 vc6)) 40)
 clear S Sz
 go_upto_region 23 with (fail)
 generalize w24.alloc _=w25 at *
 generalize w24.heap.size=ql at *
 have YW:Hid (Sp w0 [] w25 (ay ⟨s2,P.d,P.b,l2,r2,m2⟩ c16 Xp (ae ql (Wx (.slice va6 0 vc6)) 40::dH (.slice va6 0 vc6) []::dH v5 fw::ae qw (NI (.slice Wz 1 WA)) 40::dH (.slice Wz 1 WA) fw::ae P.s (aA P c16.ai rf.last) 90::aY 34 aJ.agg P.m rf.rows::dP P.l P.d c16.step c16.most rf.led::bz P.r P.d rf.ring::ae qs #[.int .u64 2,.int .u64 0] 53::ae qz (J2 (.slice QI 1 QJ)) 40::dH (.slice QI 1 QJ) fw::dH (.slice Lt 1 Lu) fw::ae qy (H9 (.slice Lt 1 Lu)) 40::dH v1 fw::K))):=Lib.hid (by have h:=YV.out;unfold ay at h ⊢;exact (Sp.pick [_,_,_,_,_,_,_,_] [2,3,4,5,6,7,0,1] (by decide) (h)))
 clear YV
 go_wp2_with fail
 refine (TU HE.out YW.out).mono ?_
 rintro r w26 ⟨rfl,S⟩
 have YX:=Lib.hid S
 clear S YW
 go_wp2_with fail
 refine (TV HE.out YX.out).mono ?_
 rintro r w27 ⟨rfl,S⟩
 have YY:=Lib.hid S
 clear S YX
 go_wp2_with fail
 refine (JU (b:=P.b) ⟨cO,1,1⟩ YY.out).mono ?_
 rintro r w28 ⟨rfl,S⟩
 have cw:=S.xW.drop.drop.drop.cell
 have cs:=S.xW.drop.drop.drop.drop.drop.drop.drop.drop.drop.cell
 have cz:=S.xW.drop.drop.drop.drop.drop.drop.drop.drop.drop.drop.cell
 have YZ:=Lib.hid S
 clear S YY
 go_wp2_with fail
 refine (TW YZ.out).mono ?_
 rintro r w29 ⟨va7,vc7,rfl,S⟩
 have Y0:=Lib.hid S
 clear S YZ cw cs cz
 go_wp2_with fail
 refine (TY Y0.out).mono ?_
 rintro r w30 ⟨va8,vc8,rfl,S⟩
 have Ps:=Lib.hid S
 clear S Y0
 go_wp2_with fail
 refine (QG Ps.out).mono ?_
 rintro r w31 ⟨rfl,S⟩
 have abB:=Lib.hid S
 clear S Ps
 go_wp2
 go_ret
 exact ⟨rfl,abB.out.xW.drop.drop.drop.drop.drop.drop.drop.drop.drop.drop.drop.drop.drop.drop.drop⟩
end
end
section
open Go.RowKit Go.Maps
theorem qN (D:Dk) (e:Ev):(D.done e).1.bL=D.bL:=by
 rcases lh D e with ⟨h,_⟩ | ⟨_,_,_,_,_,h,_⟩
 ·rw [h]
 ·exact h
theorem wZ (D:Dk) (n d:Bs):(D.write n d).1.bL=D.bL:=by
 unfold Dk.write
 repeat' split
 all_goals first | rfl | exact qN _ _
theorem xg (D:Dk) (n d:Bs):(D.append n d).1.bL=D.bL:=by
 unfold Dk.append
 repeat' split
 all_goals first | rfl | exact qN _ _
theorem J4 (D:Dk):D.sync.1.bL=D.bL:=qN _ _
theorem xh (D:Dk) (n:Bs):(D.remove n).1.bL=D.bL:=by
 unfold Dk.remove
 repeat' split
 all_goals first | rfl | exact qN _ _
theorem lL (D:Dk) (n d:Bs):(dA D n d).1.bL=D.bL:=by
 unfold dA
 split
 ·exact xg _ _ _
 ·exact (J4 _).trans (xg _ _ _)
theorem Cc (D:Dk) (M:Mp pO) (step most:Nat) (x:Bs):(aQ D M step most x).1.bL=D.bL:=by
 unfold aQ
 repeat' split
 all_goals first | rfl | exact lL _ _ _
theorem uA (D:Dk) (M:Mp jF) (x:Bs) (s:jF):(bO D M x s).1.bL=D.bL:=by
 rw [qJ]
 repeat' split
 all_goals first | rfl | exact lL _ _ _
theorem NJ (Q:Sq) (id:Nat) (r:aJ):(Q.lay id r).1.D.bL=Q.D.bL:=by
 rw [nO]
 split
 ·exact lL _ _ _
 ·exact lL _ _ _
theorem qO (Q:Sq) (c:Sc) (e:En) (body:Bs):(Q.aZ c e body).1.D.bL=Q.D.bL:=by
 have h:=Cc Q.D Q.led c.step c.most (bH e.dom (Q.dV e.dom))
 unfold Sq.aZ
 repeat' split
 all_goals exact h
theorem Ic (Q:Sq) (file text:Bs) (id:Nat) (r:aJ) (old:Option Bs):(Q.wrote file text id r old).1.D.bL=Q.D.bL:=by
 have h1:=wZ Q.D file text
 have h2:=(NJ ({ Q with D:=(Q.D.write file text).1 }:Sq) id r).trans h1
 rw [mq]
 split
 ·exact h1
 ·split
  ·exact (xh _ _).trans h2
  ·split
   ·exact h2
   ·split
    ·exact h2
    ·exact (xh _ _).trans h2
theorem Ie (Q:Sq) (c:Sc) (e:En) (body:Bs):(Q.write c e body).1.D.bL=Q.D.bL:=by
 rw [kI]
 split
 ·exact qO _ _ _ _
 ·exact (Ic _ _ _ _ _ _).trans (qO _ _ _ _)
theorem tQ {D:Dk} (h:Calm D) (e:Ev):(D.done e).2=0:=by
 rcases lh D e with ⟨_,h2⟩ | ⟨h1,_⟩
 ·exfalso
  rcases h2 with g | g
  ·rw [h.1] at g;cases g
  ·have:=h.2;omega
 ·exact h1
theorem Ig {D:Dk} (h:Calm D) {n d:Bs} (hn:D.now.get n≠none) (hr:(D.now.bytes:Int)+d.length≤D.bL):(D.append n d).2=0:=by
 unfold Dk.append
 rw [if_pos (sP hn),if_neg (by omega)]
 exact tQ h _
theorem NK {D:Dk} (h:Calm D):D.sync.2=0:=tQ h _
theorem qP {D:Dk} (h:Calm D) {n d:Bs} (hn:D.now.get n≠none) (hr:(D.now.bytes:Int)+d.length≤D.bL):(dA D n d).2=0:=by
 have h1:=Ig h hn hr
 unfold dA
 rw [if_neg (by rw [h1];simp)]
 exact NK ((Ho n D n d) h).1
theorem J5 {D:Dk} (h:Calm D) {n d:Bs} (hm:may n=true) (hl:D.now.length<200) (hr:(D.now.bytes:Int)+d.length≤D.bL):(D.write n d).2=0:=by
 unfold Dk.write
 rw [if_pos hm,if_neg (by simp;intro _;omega),if_neg (by omega)]
 exact tQ h _
theorem NL {D:Dk} (h:Calm D) {M:Mp pO} {step most:Nat} {x:Bs} (hx:x.length≤300) (hm:(bK M x).c<most) (hL:D.now.get dm≠none) (hr:(D.now.bytes:Int)+400≤D.bL):(aQ D M step most x).2.2.2=0:=by
 have hrow:=kz ⟨x,min ((bK M x).ceil+step) most⟩
 have h1:=qP h hL (d:=dK.text ⟨x,min ((bK M x).ceil+step) most⟩) (by dsimp only at hrow;omega)
 rw [← wU] at h1
 unfold aQ
 rw [if_neg (by omega),if_neg (by omega)]
 split
 ·rw [if_neg (by rw [h1];simp)]
 ·rfl
theorem QL (D:Dk) (M:Mp pO) (step most:Nat) (x k:Bs):(bK (aQ D M step most x).2.1 k).c≤(bK M k).c+1:=by
 have hp:∀ v:pO,v.c=(bK M x).c+1→(bK (M.put x v) k).c≤(bK M k).c+1:=fun v hv=>by
  rw [rP]
  split
  ·rename_i e
   rw [hv,e]
   exact Nat.le_refl _
  ·exact Nat.le_succ _
 unfold aQ
 repeat' split
 all_goals first | exact Nat.le_succ _ | exact hp _ rfl
theorem TZ (Q:Sq) (id:Nat) (r:aJ):(Q.lay id r).1.led=Q.led:=by
 rw [nO]
 split <;> rfl
theorem NM (Q:Sq) (file text:Bs) (id:Nat) (r:aJ) (old:Option Bs):(Q.wrote file text id r old).1.led=Q.led:=by
 have h:=TZ ({ Q with D:=(Q.D.write file text).1 }:Sq) id r
 rw [mq]
 repeat' split
 all_goals first | rfl | exact h
theorem J6 (Q:Sq) (c:Sc) (e:En) (body k:Bs):(bK (Q.aZ c e body).1.led k).c≤(bK Q.led k).c+1:=by
 have h:=QL Q.D Q.led c.step c.most (bH e.dom (Q.dV e.dom)) k
 unfold Sq.aZ
 repeat' split
 all_goals exact h
theorem NN (Q:Sq) (c:Sc) (e:En) (body k:Bs):(bK (Q.write c e body).1.led k).c≤(bK Q.led k).c+1:=by
 have h:=J6 Q c e body k
 rw [kI]
 split
 ·exact h
 ·rw [NM]
  exact h
theorem Lv {α:Type} [BEq α] [LawfulBEq α]:∀ (l k:List α),l.Nodup→(∀ x∈l,x∈k)→l.length≤k.length
 | [],k,_,_=>Nat.zero_le _
 | x::l,k,hn,hs=>by
  rw [List.nodup_cons] at hn
  have hx:=hs x (by simp)
  have h:=Lv l (k.erase x) hn.2 (fun y hy=>(List.mem_erase_of_ne (fun e:y=x=>hn.1 (by rw [← e];exact hy))).2 (hs y (by simp [hy])))
  rw [List.length_erase_of_mem hx] at h
  have:=List.length_pos_of_mem hx
  simp only [List.length_cons]
  omega
theorem uZ (n:Nat) (h:n≤1099511627776):(Lib.decDigits n).length≤13:=by
 rw [Lib.decDigits_length]
 exact Gm (k:=13) (by decide) (by omega)
section
variable {m:Bs} {Q:Sq} {c:Sc} {n:Nat}
theorem Up.files (h:Up m Q):Q.D.now.length≤3+Q.rows.length:=by
 obtain ⟨lf,hh⟩:=h.holds
 have hs:=hh.sorted
 have hn:(Q.D.now.map (·.1)).Nodup:=by
  unfold List.Nodup
  rw [List.pairwise_map]
  exact Ck hs
 have hl:=Lv (Q.D.now.map (·.1)) ([indexB,bn,dm]++Q.rows.map fun p=>aS p.1 p.2.ep p.2.cnt) hn (fun k hk=>by
  obtain ⟨p,hp,rfl⟩:=List.mem_map.1 hk
  have hg:Q.D.now.get p.1≠none:=by
   have:=KC.2 ⟨p,hp,rfl⟩
   rw [Fs.has_eq] at this
   intro e
   rw [e] at this
   cases this
  rcases h.tidy _ hg with e | e | e | ⟨id,r,hr,e⟩
  ·rw [e];simp
  ·rw [e];simp
  ·rw [e];simp
  ·rw [e]
   exact List.mem_append.2 (.inr (List.mem_map.2 ⟨(id,r),Mn.get_mem hr,rfl⟩)))
 simp only [List.length_map,List.length_append,List.length_cons,List.length_nil] at hl
 omega
structure Room (Q:Sq) (c:Sc):Prop where
 bL:Q.D.bL=1048576
 rows:Q.rows.length≤100
 real:Q.B=.real
 led:∀ k,(bK Q.led k).c<c.most
theorem ve (n:Nat):∀ c∈Lib.decDigits n,iN c=true:=by
 induction n using Nat.strongRecOn with
 | _ n ih =>
  have hd:∀ k,k<10→iN (UInt8.ofNat (48+k))=true:=by decide
  rw [Lib.decDigits]
  split
  ·rename_i h
   intro c hc
   rw [List.mem_singleton] at hc
   subst hc
   exact hd n h
  ·intro c hc
   rcases List.mem_append.1 hc with hc | hc
   ·exact ih (n / 10) (by omega) c hc
   ·rw [List.mem_singleton] at hc
    subst hc
    exact hd _ (by omega)
theorem QM {id n o:Nat} (h1:id≤1099511627776) (h2:n≤1099511627776) (h3:o≤1099511627776):may (aS id n o)=true:=by
 have a1:=uZ id h1
 have a2:=uZ n h2
 have a3:=uZ o h3
 unfold may
 simp only [Bool.and_eq_true,decide_eq_true_eq,List.all_eq_true,Bool.not_eq_true']
 refine ⟨⟨fun c hc=>?_,by simp [aS]⟩,?_⟩
 ·unfold aS at hc
  simp only [List.mem_append] at hc
  rcases hc with ((((hc | hc) | hc) | hc) | hc) | hc
  ·have:∀ c∈([113,47]:Bs),iN c=true:=by decide
   exact this c hc
  ·exact ve _ c hc
  ·have:∀ c∈([46]:Bs),iN c=true:=by decide
   exact this c hc
  ·exact ve _ c hc
  ·have:∀ c∈([46]:Bs),iN c=true:=by decide
   exact this c hc
  ·exact ve _ c hc
 ·unfold aS
  simp only [List.length_append,List.length_cons,List.length_nil]
  omega
theorem Ih (h:Up m Q) (hok:bg c n Q) (hn:n≤960000) (hr:Room Q c) (e:En) (body:Bs) (hb:body.length≤16000) (Hr:dz (Q.entry c e)=true) (hd:e.dom.length≤255):(Q.aZ c e body).2.2=0:=by
 have hby:=hok.room.bytes
 have hx:(bH e.dom (Q.dV e.dom)).length≤300:=by
  have h1:=aP e.dom
  have h2:=aL (Q.dV e.dom)
  unfold bH
  rw [List.length_append]
  omega
 have h1:(Q.next c e.dom).2.2.2=0:=NL h.calm hx (hr.led _) h.NA (by have:=hr.bL;omega)
 unfold Sq.aZ
 rw [if_neg (by rw [h1];simp),if_neg (by omega)]
 show (dh Q.B _ _ _).1.2=0
 unfold dh iO
 rw [hr.real]
 dsimp only
 rw [if_pos Hr,if_pos hb]
 have hl:=pJ hb
 have hbl:=sW (aN body).length
 have hh:=mY (bT Hr)
 have h2:(Bx.real.zi (nR c.ai e.dom (Q.dV e.dom)) (bR (Q.entry c e).cnt) (dC (Q.entry c e)) (fQ body)).1.2=0:=(KV _ _ _ _ (by omega) (by omega)).1
 rw [if_pos h2]
theorem J7 (h:Up m Q) (hok:bg c n Q) (hmk:c.ai=m) (hn:n≤960000) (hr:Room Q c) (e:En) (body:Bs) (hb:body.length≤16000) (Hr:dz (Q.entry c e)=true):(Q.write c e body).2=0:=by
 have hpt:=bT Hr
 have hid:e.id≤1099511627776:=hpt.id.2
 have hz:=Ih h hok hn hr e body hb Hr hpt.dom
 have hs:=hok.aZ e body
 have hf:=h.files
 have hl:=y8 Q c e body
 have hq:=qO Q c e body
 have hc:=om indexB Q c e body h.calm
 have hen:=hok.entry e
 rw [kI,if_neg (by rw [hz];simp)]
 have hQ:=hr.bL
 have hrl:=hr.rows
 have hrows : (Q.aZ c e body).1.rows = Q.rows := by unfold Sq.aZ; repeat' split
                                                    all_goals rfl
 have hhas:∀ id,(Q.rows.has id=true)→Q.D.now.get (aU Q.rows id)≠none:=fun id hh=>by
  obtain ⟨lf,ho⟩:=h.holds
  rw [Mn.has_eq] at hh
  obtain ⟨r,hr⟩:=Option.isSome_iff_exists.1 hh
  obtain ⟨⟨_,_,⟨t,ht,_⟩,_⟩,_⟩:=ho.right id r hr
  unfold aU
  rw [j6 hr,ht]
  simp
 have hsk:∀ id n o,Q.D.now.get (aS id n o)≠none→(Q.aZ c e body).1.D.now.get (aS id n o)≠none:=fun id n o hh=>(om (aS id n o) Q c e body h.calm).2 hh
 generalize hS:Q.aZ c e body=S at *
 obtain ⟨Q1,text,code⟩:=S
 dsimp only at *
 have b1:=hs.1.room.bytes
 have b2:=hs.2.1
 have hw:(Q1.D.write (aS e.id (Q.entry c e).ep (Q.entry c e).cnt) text).2=0:=J5 hc.1 (QM hid hpt.ep.2 hpt.cnt) (by have:=hl.2;omega) (by omega)
 have hk:=qK indexB Q1.D (aS e.id (Q.entry c e).ep (Q.entry c e).cnt) text hc.1
 have hb3:=(hs.1.room.write (aS e.id (Q.entry c e).ep (Q.entry c e).cnt) text).bytes
 have hq3:=wZ Q1.D (aS e.id (Q.entry c e).ep (Q.entry c e).cnt) text
 have hrow:=o7 e.id ⟨e.dom,(Q.entry c e).ep,(Q.entry c e).cnt⟩ hpt.dom
 have hkf:∀ id n o,Q1.D.now.get (aS id n o)≠none→(Q1.D.write (aS e.id (Q.entry c e).ep (Q.entry c e).cnt) text).1.now.get (aS id n o)≠none:=fun id n o hh=>(qK (aS id n o) Q1.D (aS e.id (Q.entry c e).ep (Q.entry c e).cnt) text hc.1).2 hh
 rw [mq,if_neg (by rw [hw];simp)]
 generalize (Q1.D.write (aS e.id (Q.entry c e).ep (Q.entry c e).cnt) text).1=D2 at *
 have ha:=qP hk.1 (hk.2 (hc.2 h.Hq)) (d:=bP e.id ⟨e.dom,(Q.entry c e).ep,(Q.entry c e).cnt⟩) (by have:=hpt.dom;omega)
 have hka:=gN indexB D2 indexB (bP e.id ⟨e.dom,(Q.entry c e).ep,(Q.entry c e).cnt⟩) hk.1
 have hkb:∀ id n o,D2.now.get (aS id n o)≠none→(dA D2 indexB (bP e.id ⟨e.dom,(Q.entry c e).ep,(Q.entry c e).cnt⟩)).1.now.get (aS id n o)≠none:=fun id n o hh=>(gN (aS id n o) D2 indexB (bP e.id ⟨e.dom,(Q.entry c e).ep,(Q.entry c e).cnt⟩) hk.1).2 hh
 have hly:∀ r:aJ,r=⟨e.dom,(Q.entry c e).ep,(Q.entry c e).cnt⟩→(({ Q1 with D:=D2 }:Sq).lay e.id r).2=0∧(({ Q1 with D:=D2 }:Sq).lay e.id r).1.D=(dA D2 indexB (bP e.id ⟨e.dom,(Q.entry c e).ep,(Q.entry c e).cnt⟩)).1:=by
  rintro r rfl
  rw [nO]
  dsimp only
  rw [if_neg (by rw [ha];simp)]
  exact ⟨rfl,rfl⟩
 obtain ⟨abD,abE⟩:=hly _ rfl
 rw [if_neg (by rw [abD];simp)]
 split
 ·rfl
 ·rename_i o ho
  split
  ·rfl
  ·rw [abE]
   split at ho
   ·rename_i hh
    cases ho
    skip
    have hg:=hkb _ _ _ (hkf _ _ _ (hsk _ _ _ (hhas _ hh)))
    rcases uW hg with g | g
    ·exfalso
     have hcc:=tQ hka.1 ⟨4,aU Q.rows e.id,[],[]⟩
     unfold Dk.remove at g
     rw [if_pos (sP hg)] at g
     have abF:((dA D2 indexB (bP e.id ⟨e.dom,(Q.entry c e).ep,(Q.entry c e).cnt⟩)).1.done ⟨4,aS e.id (rowAt Q.rows e.id).ep (rowAt Q.rows e.id).cnt,[],[]⟩).2=0:=hcc
     rw [abF] at g
     cases g
    ·exact g
   ·cases ho
theorem Up.wrote (h:Up m Q) (hok:bg c n Q) (hmk:c.ai=m) (e:En) (body:Bs) (hid:e.id≤1099511627776) (hown:∀ r0,Q.rows.get e.id=some r0→r0.dom=e.dom) (h0:(Q.write c e body).2=0) :
  Up m (Q.write c e body).1∧(Q.write c e body).1.last=max Q.last e.id∧(Q.write c e body).1.rows=dU Q.rows e.id (Q.row c e)∧(Q.write c e body).1.ring=Q.ring∧jJ m (Q.write c e body).1.B (Q.write c e body).1.D.now e.id (Q.row c e) (Q.entry c e) body ∧
   Q.B.le (Q.write c e body).1.B∧∀ j r0,j≠e.id→Q.rows.get j=some r0→(Q.write c e body).1.D.now.get (aS j r0.ep r0.cnt)=Q.D.now.get (aS j r0.ep r0.cnt):=by
 obtain ⟨u1,u2⟩:=h.write hok hmk e body hid hown
 rw [if_pos h0] at u2
 obtain ⟨lf,hg⟩:=h.good
 obtain ⟨lf2,hw⟩:=Bv (P:=Top) hg hok hmk (fun _ _ _ _ h=>h) (fun _ _ h=>h) (fun _ _ _ _ _ _=>trivial) h.Hq e body hid hown (fun _ _ _ _ _ _ _=>trivial)
 cases hw with
 | down a1 a2 _ _=>rw [a1] at h0;cases h0
 | lost a1 a2 _ _=>exact absurd h0 a1
 | no a1 a2 a3 a4 a5 a6 a7 a8 a9=>exact absurd h0 a1
 | did a1 a2 a3 a4 a5 a6 a7 a8 a9 b1=>exact ⟨u1,u2,a3,a5,a7,a6,a8⟩
end
end
end Go.Proofs.YtangbdahnmomlaaGreatDoor
