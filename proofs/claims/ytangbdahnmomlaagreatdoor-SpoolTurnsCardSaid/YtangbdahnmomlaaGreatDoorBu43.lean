/- spool, plainly: removed, turned, on a disk that nothing breaks. No program. spool: Open. Conditions: the lengths fit; what Go's variables hold. -/
import Derived.Lib.SmallJoins
import Derived.Test.YtangbdahnmomlaaGreatDoorBu02
import Derived.Test.YtangbdahnmomlaaGreatDoorBu18
import Derived.Test.YtangbdahnmomlaaGreatDoorBu40
import Derived.Test.YtangbdahnmomlaaGreatDoorBu42
set_option linter.unnecessarySimpa false
set_option linter.unusedSimpArgs false
set_option linter.unusedVariables false
set_option maxHeartbeats 4000000
set_option maxRecDepth 100000
namespace Go.Proofs.YtangbdahnmomlaaGreatDoor
section
open Go.RowKit Go.Maps
theorem nP (M:Mp jF) (x:Bs) (s:jF) (d:Bs):ax (M.put x s) d=if x=d then s else ax M d:=by
 unfold ax
 rw [Mp.get_put]
 split <;> rfl
theorem qL {M:Mn aJ} {d:Bs} {o:Nat}:∀ {l:List Nat},bZ M d o l=none→∀ id∈l,¬ ((rowAt M id).dom=d∧(rowAt M id).ep=o)
 | x::l,h,id,hid=>by
  unfold bZ at h
  split at h
  ·cases h
  ·rename_i hx
   rcases List.mem_cons.1 hid with rfl | hid
   ·exact hx
   ·exact qL h id hid
theorem De.top {D:Dk} {F:Fs} {R:Dk×Int} (h:De D F R) (hH:kg (fun _=>True) D):kg (fun _=>True) R.1:=by
 rcases h.good hH (fun _ h=>h) trivial with ⟨g1,_⟩ | ⟨_,_,g⟩ | ⟨_,_,_,g⟩
 ·rw [g1];exact hH
 ·exact g
 ·exact g
section
variable {m:Bs} {Q:Sq} {c:Sc} {n:Nat}
theorem JR {id:Nat} {r:aJ} (h:Q.rows.get id=some r):id∈Q.ids:=by
 unfold Sq.ids
 exact List.mem_map.2 ⟨(id,r),Mn.get_mem h,rfl⟩
theorem Up.set (h:Up m Q) {x:Bs} {s:jF} (hx:wP (x,s)) (hl:∀ id r,Q.rows.get id=some r→r.dom=x→iJ Q.ring r.dom r.ep=true→r.ep=s.now∨r.ep=s.old) :
  Up m { Q with D:=(bO Q.D Q.ring x s).1,ring:=(bO Q.D Q.ring x s).2.1 }:=by
 obtain ⟨lf,hg⟩:=h.good
 rw [qJ]
 split
 ·exact h
 ·have hI:=gN indexB Q.D bn (bq x s) h.calm
  have hR:=gN bn Q.D bn (bq x s) h.calm
  have hL:=gN dm Q.D bn (bq x s) h.calm
  have hT:=(j5 Q.D bn (bq x s)).top hg.Hf
  rcases (j5 Q.D bn (bq x s)).alive h.calm.1 h.calm.2 with ⟨k1,k2,_⟩ | ⟨k1,k2,k3,k4,_⟩
  ·rw [if_pos k2,k1]
   exact h
  ·rw [if_neg (by rw [k1];simp)]
   generalize (dA Q.D bn (bq x s)).1=D2 at *
   have hF:=hg.holds.state (x:=x) (s:=s) hx (fun id r hr=>by
    have h1:=(hg.holds.right id r hr).2
    unfold iJ
    rw [nP]
    by_cases e:x=r.dom
    ·rw [if_pos e]
     have h2:=hl id r hr e.symm h1
     unfold iJ at h1
     simp only [Bool.and_eq_true,Bool.or_eq_true,decide_eq_true_eq] at h1 ⊢
     exact ⟨h1.1,h2⟩
    ·rw [if_neg e]
     exact h1)
   rw [← k3] at hF
   refine ⟨⟨lf,⟨hF,k2,hT,hg.mem,hg.used⟩⟩,hI.1,hI.2 h.Hq,hR.2 h.JQ,hL.2 h.NA,fun k hk=>?_⟩
   have hk':D2.now.get k≠none:=hk
   by_cases er:k=bn
   ·exact .inr (.inl er)
   ·rw [k3,aW,if_neg (Ne.symm er)] at hk'
    exact h.tidy k hk'
theorem Up.begin (h:Up m Q) (hok:bg c n Q) (x:Bs):Up m (Q.begin x).1:=by
 have hs:=jw hok.ring x
 have h0:Up m { Q with D:=Q.D,ring:=Q.ring }:=h
 unfold Sq.begin fA
 split
 ·exact h0
 ·split
  ·exact h0
  ·split
   ·exact h0
   ·rename_i h255 hold hne
    have h1:=h.set (x:=x) (s:=⟨(ax Q.ring x).now+1,(ax Q.ring x).now⟩) ⟨by dsimp only;omega,by dsimp only;omega,by dsimp only;omega⟩ (fun id r hr hd hl=>by
     unfold iJ at hl
     rw [hd] at hl
     simp only [Bool.and_eq_true,Bool.or_eq_true,decide_eq_true_eq] at hl
     dsimp only
     omega)
    split
    ·exact h1
    ·exact h1
theorem Up.step (h:Up m Q) (hok:bg c n Q) (hmk:c.ai=m) (d:Bs):Up m (Q.step c d).1:=by
 rw [step_eq]
 split
 ·exact h
 ·rename_i hold
  split
  ·rename_i id hel
   obtain ⟨l1,l2,_⟩:=h.load hok id
   rw [← hmk] at l1 l2
   split
   ·rename_i hz
    obtain ⟨r,hr,hi,hd⟩:=l2 hz
    rw [l1]
    have hid:=(hok.fit _ (Mn.get_mem hr)).1
    exact (h.write hok hmk _ _ (by rw [hi];exact hid) (fun r0 hr0=>by
     rw [hi,hr] at hr0
     cases hr0
     exact hd.symm)).1
   ·split
    ·rw [l1];exact h
    ·rw [l1];exact h
  ·rename_i hel
   have hs:=jw hok.ring d
   have h0:Up m { Q with D:=Q.D,ring:=Q.ring }:=h
   unfold fU
   split
   ·exact h0
   ·rename_i h255
    exact h.set (x:=d) (s:=⟨(ax Q.ring d).now,0⟩) ⟨by dsimp only;omega,by dsimp only;omega,Nat.zero_le _⟩ (fun id r hr hd hl=>by
      have hne:=qL hel id (JR hr)
      rw [j6 hr] at hne
      unfold iJ at hl
      rw [hd] at hl
      simp only [Bool.and_eq_true,Bool.or_eq_true,decide_eq_true_eq] at hl
      dsimp only
      rcases hl.2 with g | g
      ·exact .inl g
      ·exact absurd ⟨hd,g⟩ hne)
end
end
section
open Go.RowKit Go.Maps Go.Shelf
theorem Ca {c:Sc} {D:Dk} {B:Bx} (h:c.step<1∨1000<c.step∨1099511627776<c.most):gZ c D B=(D,none,1):=by
 unfold gZ
 rw [if_pos h]
def fe (c:Sc) (D:Dk) (B:Bx) (led:Mp pO) (ring:Mp jF):Sq:={ tK (bB (aR D).1).1 B led ring with D:=(eP (bB (aR D).1).1).1 }
theorem qM {c:Sc} {D:Dk} {B:Bx} (h:¬ (c.step<1∨1000<c.step∨1099511627776<c.most)):gZ c D B =
  match (aR D).2.1 with
  | none=>((aR D).1,none,(aR D).2.2)
  | some led=>match (bB (aR D).1).2.1 with
   | none=>((bB (aR D).1).1,none,(bB (aR D).1).2.2)
   | some ring=>if (eP (bB (aR D).1).1).2≠0 then ((eP (bB (aR D).1).1).1,none,(eP (bB (aR D).1).1).2)
    else if ((fe c D B led ring).recover c.ai).2≠0 then (((fe c D B led ring).recover c.ai).1.D,none,((fe c D B led ring).recover c.ai).2) else (((fe c D B led ring).recover c.ai).1.D,some ((fe c D B led ring).recover c.ai).1,0):=by
 unfold gZ
 rw [if_neg h]
 rfl
theorem JS {D:Dk} (h:(aR D).2.1=none):(aR D).2.2≠0:=by
 unfold aR at h ⊢
 split at h
 ·cases h
 ·rename_i h1
  rw [if_neg h1]
  split at h
  ·rename_i h2
   rw [if_pos h2]
   exact h2
  ·rename_i h2
   rw [if_neg h2]
   split at h
   ·rename_i h3
    rw [if_pos h3]
    exact h3
   ·cases h
theorem Ht {D:Dk} {M:Mp pO} (h:(aR D).2.1=some M):(aR D).2.2=0:=by
 unfold aR at h ⊢
 split at h
 ·rename_i h1
  rw [if_pos h1]
 ·rename_i h1
  rw [if_neg h1]
  split at h
  ·cases h
  ·rename_i h2
   rw [if_neg h2]
   split at h
   ·cases h
   ·rename_i h3
    rw [if_neg h3]
theorem Hu {D:Dk} (h:(bB D).2.1=none):(bB D).2.2≠0:=by
 unfold bB at h ⊢
 split at h
 ·cases h
 ·rename_i h1
  rw [if_neg h1]
  split at h
  ·rename_i h2
   rw [if_pos h2]
   exact h2
  ·rename_i h2
   rw [if_neg h2]
   split at h
   ·rename_i h3
    rw [if_pos h3]
    exact h3
   ·cases h
theorem EJ {D:Dk} {M:Mp jF} (h:(bB D).2.1=some M):(bB D).2.2=0:=by
 unfold bB at h ⊢
 split at h
 ·rename_i h1
  rw [if_pos h1]
 ·rename_i h1
  rw [if_neg h1]
  split at h
  ·cases h
  ·rename_i h2
   rw [if_neg h2]
   split at h
   ·cases h
   ·rename_i h3
    rw [if_neg h3]
theorem Hw (Q:Sq) (id:Nat):(Q.drop id).1.B=Q.B:=by
 unfold Sq.drop
 split
 ·rfl
 ·split
  ·rfl
  ·rfl
theorem y7 (m:Bs) (r:Rec) (id:Nat):(bW m r id).1.Q.B=r.Q.B:=by
 unfold bW
 split
 ·rfl
 ·split
  ·exact Hw _ _
  ·exact Hw _ _
theorem Hy (m:Bs):∀ (l:List Nat) (r:Rec),(bE m l r).1.Q.B=r.Q.B
 | [],r=>rfl
 | id::l,r=>by
  rw [sK]
  split
  ·exact y7 m r id
  ·rw [Hy m l,y7]
theorem Hz (Q:Sq) (m:Bs):(Q.recover m).1.B=Q.B:=by
 have h:=Hy m Q.ids ⟨Q,[],false⟩
 rw [qH]
 split
 ·exact h
 ·split
  ·exact h
  ·split
   ·exact h
   ·exact h
def EK (w0:World) (L:List aT) (c:Sc) (d b:Nat) (B:Bx) (R:Dk×Option Sq×Int) (e:Ending) (w2:World):Prop :=
 match R.2.1 with
 | none=>e=.returned (.tuple #[.pointer none,.int .i64 R.2.2])∧Sp w0 [] w2 (aF d R.1::jG b B::L)
 | some Q=>∃ P:nS,P.d=d∧P.b=b∧e=.returned (.tuple #[.pointer (some ⟨P.s,0,none⟩),.int .i64 R.2.2])∧Sp w0 [] w2 (ay P c Q L)
structure EL (c:Sc) (D:Dk) (B:Bx) (n:Nat):Prop where
 key:c.ai.length=32
 room:D.Roomy n
 led:(aR D).1.Roomy n
 ring:(bB (aR D).1).1.Roomy n
 small:n≤1000000
 found:∀ led ring,(aR D).2.1=some led→(bB (aR D).1).2.1=some ring→(eP (bB (aR D).1).1).2=0→∃ F,bg c n (fe c D B led ring) ∧
  ((bE c.ai (fe c D B led ring).ids ⟨fe c D B led ring,[],false⟩).1.Q.D.now.names dR).length≤F∧(∀ f∈(bE c.ai (fe c D B led ring).ids ⟨fe c D B led ring,[],false⟩).1.Q.D.now.names dR,f.length≤1000000)∧n+403*(fe c D B led ring).rows.length+F+1000≤1000000
section
variable {w0 w:World} {L:List aT} {d b:Nat}
theorem JU (c:Sc) (S:Sp w0 [] w L) :
  Calls Tryz.prog 7 #[.pointer none,.pointer (some ⟨b,0,none⟩),.string ⟨c.ai.toArray⟩,.int .u64 c.step,.int .u64 c.most] w fun e w2=>e=.returned (.tuple #[.pointer none,.int .i64 1])∧Sp w0 [] w2 L:=by
 have HS:=Lib.hid S
 clear S
 go_enter Tryz.func7,Tryz.ntmps7
 go_wp2_with fail
 go_ret2
 exact ⟨rfl,HS.out⟩
theorem uY (c:Sc) (D:Dk) (B:Bx) (n:Nat) (hkey:c.ai.length=32) (hfit:¬ (c.step<1∨1000<c.step∨1099511627776<c.most)→EL c D B n) (E:Env w0) (S:Sp w0 [] w (aF d D::jG b B::L)) :
  Calls Tryz.prog 7 #[.pointer (some ⟨d,0,none⟩),.pointer (some ⟨b,0,none⟩),.string ⟨c.ai.toArray⟩,.int .u64 c.step,.int .u64 c.most] w (EK w0 L c d b B (gZ c D B)):=by
 have hk:(c.ai.length:Int)=32:=by omega
 have HS:=Lib.hid S
 have hmm:=@run_makeMap Tryz.prog
 clear S
 by_cases NB:c.step<1∨1000<c.step∨1099511627776<c.most
 ·have HV:Hid (gZ c D B=(D,none,1)):=Ca NB
  have HL:=Lib.hid (FP (d:=d) c.step c.most HS.out NB)
  clear NB hfit
  go_enter Tryz.func7,Tryz.ntmps7
  go_wp2_with fail
  refine HL.out.mono ?_
  rintro e w2 ⟨rfl,S⟩
  have HS2:=Lib.hid S
  clear S HS HL
  go_wp2_with fail
  go_ret2
  rw [HV.out]
  exact ⟨rfl,HS2.out⟩
 have HV:Hid (gZ c D B=_):=Lib.hid (qM NB)
 have hfit:=hfit NB
 have HL:=Lib.hid (OU c.step c.most n D HS.out (by omega) (by omega) (by omega) hfit.room (by have:=hfit.small;omega))
 have HR:=Lib.hid (fun (w':World) (K':List aT) (S':Sp w0 [] w' (aF d (aR D).1::K'))=>M5 n (aR D).1 S' hfit.led (by have:=hfit.small;omega))
 have Ec:=Lib.hid hfit
 have HE:=Lib.hid E
 generalize hSO:gZ c D B=so at *
 clear NB hfit E hSO
 go_enter Tryz.func7,Tryz.ntmps7
 go_wp2_with fail
 refine HL.out.mono ?_
 intro e w2 hpost
 unfold KA at hpost
 cases JV:(aR D).2.1 with
 | none =>
  have hne:=JS JV
  rw [JV] at hpost HV
  obtain ⟨rfl,S⟩:=hpost
  have HS2:=Lib.hid S
  have gq:Hid (so=((aR D).1,none,(aR D).2.2)):=HV.out
  generalize (aR D).2.2=er at *
  have hb:(er != 0)=true:=by simpa using hne
  clear S HS HL HR HV hne JV
  go_wp2_with fail
  go_ret2
  rw [gq.out]
  exact ⟨rfl,HS2.out⟩
 | some led =>
  have hz:=Ht JV
  rw [JV] at hpost HV
  obtain ⟨pl,rfl,S⟩:=hpost
  rw [hz]
  have HS2:=Lib.hid S.ak
  have YG:=Lib.hid JV
  clear S HS HL hz JV
  go_wp2_with fail
  refine (HR.out _ _ HS2.out).mono ?_
  clear HS2 HR
  intro e w3 hpost
  unfold Gt at hpost
  cases hring:(bB (aR D).1).2.1 with
  | none =>
   have hne:=Hu hring
   rw [hring] at hpost HV
   obtain ⟨rfl,S⟩:=hpost
   have HS2:=Lib.hid ((Sp.pick [_,_] [0] (by decide) (S)))
   have gq:Hid (so=((bB (aR D).1).1,none,(bB (aR D).1).2.2)):=HV.out
   generalize (bB (aR D).1).2.2=er at *
   have hb:(er != 0)=true:=by simpa using hne
   clear S HV hne hring
   go_wp2_with fail
   go_ret2
   rw [gq.out]
   exact ⟨rfl,HS2.out⟩
  | some ring =>
   have hz:=EJ hring
   rw [hring] at hpost HV
   obtain ⟨pr,rfl,S⟩:=hpost
   rw [hz]
   have Ws:=Lib.hid (Ec.out.found led ring YG.out hring)
   have hrm:=Ec.out.ring
   have hkey:=Ec.out.key
   have hsm:=Ec.out.small
   have gq:Hid (so=if (eP (bB (aR D).1).1).2≠0 then ((eP (bB (aR D).1).1).1,none,(eP (bB (aR D).1).1).2)
    else if ((fe c D B led ring).recover c.ai).2≠0 then (((fe c D B led ring).recover c.ai).1.D,none,((fe c D B led ring).recover c.ai).2) else (((fe c D B led ring).recover c.ai).1.D,some ((fe c D B led ring).recover c.ai).1,0)):=HV.out
   have hf:fe c D B led ring={ tK (bB (aR D).1).1 B led ring with D:=(eP (bB (aR D).1).1).1 }:=rfl
   unfold tK at hf
   have HIX:=Lib.hid (fun (w':World) (P:nS) (S':Sp w0 [] w' (ay P c ⟨(bB (aR D).1).1,B,led,ring,[],0⟩ L))=>PY n rfl rfl hrm (by omega) S')
   have VJ:=Lib.hid hf
   clear hf hrm hz hring HV Ec YG
   generalize fe c D B led ring=Q1 at *
   generalize (bB (aR D).1).1=D1 at *
   dsimp only at *
   rw [← VJ.out] at HIX
   have S2:=(S.FL 34 aJ.agg).box #[.pointer (some ⟨d,0,none⟩),.pointer (some ⟨b,0,none⟩),.string ⟨c.ai.toArray⟩,.pointer (some ⟨pl,0,none⟩),.pointer (some ⟨pr,0,none⟩),.map (some w3.heap.size),.int .u64 (0:Nat)] 90
   simp only [World.size_alloc] at S2
   have HS2:=Lib.hid S2
   clear S S2
   go_upto_region 10 with (fail)
   generalize (w3.alloc _).alloc _=w4 at *
   generalize w3.heap.size+1=s at *
   generalize w3.heap.size=m at *
   have HZ:Hid (Sp w0 [] w4 (ay ⟨s,d,b,pl,pr,m⟩ c ⟨D1,B,led,ring,[],0⟩ L)):=(Sp.pick [_,_,_,_,_,_] [0,1,3,5,4,2] (by decide) (HS2.out))
   clear HS2 hmm
   go_wp2_with fail
   refine (HIX.out _ ⟨s,d,b,pl,pr,m⟩ HZ.out).mono ?_
   clear HIX
   rintro e w5 ⟨rfl,S⟩
   have HS2:=Lib.hid S
   clear S HZ
   generalize hix:(eP D1).2=ei at *
   by_cases he:ei=0
   rotate_left 1
   ·have hb:(ei != 0)=true:=by simpa using he
    have Uz:Hid (so=(Q1.D,none,ei)):=by unfold Hid;rw [gq.out,if_pos he,VJ.out]
    have bI:=HS2.out
    unfold ay at bI
    have gP:Hid (Sp w0 [] w5 (aF d Q1.D::jG b Q1.B::L)):=(Sp.pick [_,_,_,_,_,_] [2,3] (by decide) (bI))
    have hB:Q1.B=B:=by rw [VJ.out]
    rw [hB] at gP
    clear he gq Ws HS2 bI hB
    go_wp2_with fail
    go_ret2
    rw [Uz.out]
    exact ⟨rfl,gP.out⟩
   subst he
   rw [if_neg (by simp)] at gq
   obtain ⟨F,hq1,hq2,hq3,hq4⟩:=Ws.out rfl
   have HRC:=Lib.hid (fun (w':World) (P:nS) (S':Sp w0 [] w' (ay P c Q1 L))=>JN n F hq1 hq2 hq3 hq4 HE.out S')
   have hB:(Q1.recover c.ai).1.B=B:=by rw [Hz,VJ.out]
   have HB:=Lib.hid hB
   clear hq1 hq2 hq3 hq4 Ws VJ hB
   generalize Q1.recover c.ai=rc at *
   obtain ⟨Q2,er⟩:=rc
   dsimp only at *
   go_wp2_with fail
   refine (HRC.out _ _ HS2.out).mono ?_
   rintro e w6 ⟨rfl,S⟩
   have bI:=Lib.hid S
   clear S HS2 HRC
   by_cases he:er=0
   ·subst he
    rw [if_neg (by simp)] at gq
    go_wp2_with fail
    go_ret2
    rw [gq.out]
    exact ⟨⟨s,d,b,pl,pr,m⟩,rfl,rfl,rfl,bI.out⟩
   ·have hb:(er != 0)=true:=by simpa using he
    rw [if_pos he] at gq
    have gP:=bI.out
    unfold ay at gP
    have gB:Hid (Sp w0 [] w6 (aF d Q2.D::jG b Q2.B::L)):=(Sp.pick [_,_,_,_,_,_] [2,3] (by decide) (gP))
    rw [HB.out] at gB
    clear he bI gP
    go_wp2_with fail
    go_ret2
    rw [gq.out]
    exact ⟨rfl,gB.out⟩
end
end
section
open Go.RowKit Go.Maps
theorem sP {F:Fs} {k:Bs} (h:F.get k≠none):F.has k=true:=by
 rw [Fs.has_eq]
 cases hg:F.get k with
 | none=>exact absurd hg h
 | some v=>rfl
theorem xV {F:Fs} {pre f:Bs} (h:f∈F.names pre):F.get f≠none∧pre.isPrefixOf f=true:=by
 unfold Fs.names at h
 rw [List.mem_filter,List.mem_map] at h
 obtain ⟨⟨p,hp,rfl⟩,h2⟩:=h
 refine ⟨fun hn=>?_,h2⟩
 have:=KC.2 ⟨p,hp,rfl⟩
 rw [Fs.has_eq,hn] at this
 cases this
section
variable {m:Bs} {Q:Sq} {c:Sc} {n:Nat} {lf:List dK}
theorem BA (Q:Sq) (m:Bs):∀ (l:List Nat) (files:Mp Bool) (d:Bool),(∀ id∈l,(Q.open m id).2.2=true) →
  ∃ BB,bE m l ⟨Q,files,d⟩=(⟨Q,BB,d⟩,0)∧(∀ f,files.get f=some true→BB.get f=some true)∧∀ id∈l,BB.get (aU Q.rows id)=some true
 | [],files,d,_=>⟨files,rfl,fun _ h=>h,fun _ h=>nomatch h⟩
 | id::l,files,d,h=>by
  obtain ⟨BB,h1,h2,h3⟩:=BA Q m l (files.put (aU Q.rows id) true) d (fun j hj=>h j (by simp [hj]))
  have hput:∀ f,f=aU Q.rows id∨files.get f=some true→(files.put (aU Q.rows id) true).get f=some true:=fun f hf=>by
   rw [Mp.get_put]
   split
   ·rfl
   ·rename_i hne
    rcases hf with rfl | hf
    ·exact absurd rfl hne
    ·exact hf
  refine ⟨BB,?_,fun f hf=>h2 f (hput f (.inr hf)),fun j hj=>?_⟩
  ·rw [bE,if_pos (h id (by simp)),h1]
  ·rcases List.mem_cons.1 hj with rfl | hj
   ·exact h2 _ (hput _ (.inl rfl))
   ·exact h3 j hj
theorem BD (files:Mp Bool) (D:Dk):∀ (l:List Bs) (d:Bool),(∀ f∈l,files.get f=some true)→iY files l D d=(D,d,0)
 | [],d,_=>rfl
 | f::l,d,h=>by
  rw [iY,if_pos (h f (by simp))]
  exact BD files D l d (fun g hg=>h g (by simp [hg]))
theorem wW (h:Up m Q) (hf:RowsFit Q.rows):Q.recover m=(Q,0)∧bE m Q.ids ⟨Q,[],false⟩=((bE m Q.ids ⟨Q,[],false⟩).1,0)∧(bE m Q.ids ⟨Q,[],false⟩).1.Q=Q:=by
 obtain ⟨lf,hh⟩:=h.holds
 have hall:∀ id∈Q.ids,(Q.open m id).2.2=true:=fun id hid=>by
  unfold Sq.ids at hid
  obtain ⟨p,hp,rfl⟩:=List.mem_map.1 hid
  obtain ⟨r,hr⟩:∃ r,Q.rows.get p.1=some r:=by
   have:Q.rows.has p.1=true:=by unfold Mn.has;rw [List.any_eq_true];exact ⟨p,hp,by simp⟩
   rw [Mn.has_eq] at this
   exact Option.isSome_iff_exists.1 this
  obtain ⟨e,body,_,ho⟩:=Bw hh hf hr
  rw [ho]
 obtain ⟨files,h1,_,h3⟩:=BA Q m Q.ids [] false hall
 have hk:∀ f∈Q.D.now.names dR,files.get f=some true:=fun f hfm=>by
  obtain ⟨g1,g2⟩:=xV hfm
  rcases h.tidy f g1 with rfl | rfl | rfl | ⟨id,r,hr,rfl⟩
  ·exact absurd g2 (by decide)
  ·exact absurd g2 (by decide)
  ·exact absurd g2 (by decide)
  ·have:=h3 id (JR hr)
   unfold aU at this
   rw [j6 hr] at this
   exact this
 have h2:=BD files Q.D (Q.D.now.names dR) false hk
 refine ⟨?_,by rw [h1],by rw [h1]⟩
 rw [qH,h1]
 dsimp only
 rw [if_neg (by simp),h2]
 dsimp only
 rw [if_neg (by simp),if_pos rfl]
theorem reopen (h:Up m Q) (hok:bg c n Q) (hmk:c.ai=m):∃ lf,gZ c Q.D Q.B=(Q.D,some { Q with led:=bG lf },0)∧Up m { Q with led:=bG lf }∧aR Q.D=(Q.D,some (bG lf),0)∧bB Q.D=(Q.D,some Q.ring,0)∧eP Q.D=(Q.D,0)∧fe c Q.D Q.B (bG lf) Q.ring={ Q with led:=bG lf }:=by
 obtain ⟨lf,hg⟩:=h.good
 have hl:aR Q.D=(Q.D,some (bG lf),0):=by
  obtain ⟨b1,b2⟩:=I9 lf hg.holds.led.2
  unfold aR
  have e:bN Q.D=(lf.map dK.text).flatten:=hg.holds.led.1
  rw [e,b1,b2,if_pos ⟨sP h.NA,rfl⟩]
 have hr:bB Q.D=(Q.D,some Q.ring,0):=by
  obtain ⟨l,e,l2,l3⟩:=hg.holds.ring
  obtain ⟨b1,b2⟩:=JH l l2
  unfold bB
  have e':bU Q.D=qZ l:=e
  rw [e',b1,b2,l3,if_pos ⟨sP h.JQ,rfl⟩]
 obtain ⟨l,e,l2,l3⟩:=hg.holds.index
 obtain ⟨b1,b2⟩:=P6 l l2
 have ei:indexOf Q.D=NW l:=e
 have hi:eP Q.D=(Q.D,0):=by
  unfold eP
  rw [ei,b2,if_pos ⟨sP h.Hq,rfl⟩]
 have Sk:fe c Q.D Q.B (bG lf) Q.ring={ Q with led:=bG lf }:=by
  unfold fe tK
  rw [hl]
  dsimp only
  rw [hr]
  dsimp only
  rw [hi,ei,b1,l3]
 have hup:Up m { Q with led:=bG lf }:=by
  refine ⟨⟨lf,⟨hg.holds,hg.live,hg.Hf,fun k=>⟨Nat.le_of_eq (vS lf k),rfl⟩,fun id r hr=>?_⟩⟩,h.calm,h.Hq,h.JQ,h.NA,h.tidy⟩
  have:=hg.holds.Eu id r hr
  show r.cnt<(bK (bG lf) _).c
  rw [vS]
  exact this
 refine ⟨lf,?_,hup,hl,hr,hi,Sk⟩
 have hst:=hok.step
 have hmo:=hok.most
 rw [qM (by omega),hl]
 dsimp only
 rw [hr]
 dsimp only
 rw [hi,Sk,if_neg (by simp),hmk,(wW hup hok.fit).1]
 dsimp only
 rw [if_neg (by simp)]
end
end
section
open Go.RowKit Go.Maps
theorem wX (D:Dk) (e:Ev):(D.done e).1.now.length≤D.now.length+1:=by
 unfold Dk.done
 split
 ·exact Nat.le_succ _
 ·split
  ·exact Nat.le_succ _
  ·exact uh D.now e
theorem NC (D:Dk) (n d:Bs):(D.write n d).1.now.length≤D.now.length+1:=by
 unfold Dk.write
 split
 ·split
  ·exact Nat.le_succ _
  ·split
   ·exact Nat.le_succ _
   ·exact wX _ _
 ·exact Nat.le_succ _
theorem JW (D:Dk) (n d:Bs):(D.append n d).1.now.length≤D.now.length+1:=by
 unfold Dk.append
 split
 ·split
  ·exact Nat.le_succ _
  ·exact wX _ _
 ·exact Nat.le_succ _
theorem BF (D:Dk) (n:Bs):(D.remove n).1.now.length≤D.now.length+1:=by
 unfold Dk.remove
 split
 ·exact wX _ _
 ·exact Nat.le_succ _
theorem Qt (D:Dk):D.sync.1.now.length≤D.now.length+1:=wX _ _
theorem sQ (D:Dk) (n d:Bs):(dA D n d).1.now.length≤D.now.length+2:=by
 have h1:=JW D n d
 have h2:=Qt (D.append n d).1
 unfold dA
 split <;> omega
theorem H6 (D:Dk) (M:Mp pO) (step most:Nat) (x:Bs):(aQ D M step most x).1.now.length≤D.now.length+2:=by
 unfold aQ
 split
 ·exact Nat.le_add_right _ _
 ·split
  ·exact Nat.le_add_right _ _
  ·split
   ·split
    ·exact sQ _ _ _
    ·exact sQ _ _ _
   ·exact Nat.le_add_right _ _
def Sq.less (Q Q2:Sq) (a b:Nat):Prop:=Q2.rows.length≤Q.rows.length+a∧Q2.D.now.length≤Q.D.now.length+b
theorem Qu (Q:Sq) (id:Nat) (r:aJ):Q.less (Q.lay id r).1 1 2:=by
 have h:=sQ Q.D indexB (bP id r)
 have h2:=nM Q.rows id r
 rw [nO]
 split
 ·exact ⟨Nat.le_succ _,h⟩
 ·exact ⟨h2,h⟩
theorem y8 (Q:Sq) (c:Sc) (e:En) (body:Bs):Q.less (Q.aZ c e body).1 0 2:=by
 have h:=H6 Q.D Q.led c.step c.most (bH e.dom (Q.dV e.dom))
 unfold Sq.aZ
 split
 ·exact ⟨Nat.le_refl _,h⟩
 ·split
  ·exact ⟨Nat.le_refl _,h⟩
  ·exact ⟨Nat.le_refl _,h⟩
theorem JX (Q:Sq) (file text:Bs) (id:Nat) (r:aJ) (old:Option Bs):Q.less (Q.wrote file text id r old).1 1 4:=by
 have h:=NC Q.D file text
 have h1:=Qu ({ Q with D:=(Q.D.write file text).1 }:Sq) id r
 rw [mq]
 generalize (Q.D.write file text).1=D1 at *
 split
 ·exact ⟨Nat.le_succ _,by dsimp only;omega⟩
 ·have h3:=BF (({ Q with D:=D1 }:Sq).lay id r).1.D file
  have h1a:=h1.1
  have h1b:=h1.2
  dsimp only at h1a h1b
  split
  ·exact ⟨h1a,by dsimp only;omega⟩
  ·cases old with
   | none=>exact ⟨h1a,by dsimp only;omega⟩
   | some o =>
    have h4:=BF (({ Q with D:=D1 }:Sq).lay id r).1.D o
    dsimp only
    split
    ·exact ⟨h1a,by dsimp only;omega⟩
    ·exact ⟨h1a,by dsimp only;omega⟩
theorem JY (Q:Sq) (c:Sc) (e:En) (body:Bs):Q.less (Q.write c e body).1 1 6:=by
 have h:=y8 Q c e body
 have h1:=JX (Q.aZ c e body).1 (aS e.id (Q.entry c e).ep (Q.entry c e).cnt) (Q.aZ c e body).2.1 e.id ⟨e.dom,(Q.entry c e).ep,(Q.entry c e).cnt⟩ (if Q.rows.has e.id=true then some (aU Q.rows e.id) else none)
 unfold Sq.less at *
 rw [kI]
 split
 ·exact ⟨by dsimp only;omega,by dsimp only;omega⟩
 ·exact ⟨by omega,by omega⟩
def Qv:Dk:=(aR Dk.new).1
def ND:Dk:=(bB Qv).1
def y9:Dk:=(eP ND).1
theorem sS:aR Dk.new=(Qv,some [],0):=by
 show _=((aR Dk.new).1,_,_)
 kernel_rfl
theorem wY:bB Qv=(ND,some [],0):=by
 show _=((bB Qv).1,_,_)
 kernel_rfl
theorem H7:eP ND=(y9,0):=by
 show _=((eP ND).1,_)
 kernel_rfl
theorem EM:y9.now=[(indexB,[]),(dm,[]),(bn,[])]:=by kernel_rfl
theorem Qw:y9.sure=y9.now∧y9.pend=[]∧y9.dead=false∧y9.eB = -1:=⟨by kernel_rfl,by kernel_rfl,by kernel_rfl,by kernel_rfl⟩
def zk (B:Bx):Sq:=⟨y9,B,[],[],[],0⟩
theorem Ll (c:Sc) (B:Bx):fe c Dk.new B [] []=zk B:=by
 unfold fe tK
 rw [sS]
 dsimp only
 rw [wY]
 dsimp only
 rw [H7]
 have h:fH (gK (indexOf ND))=([],0):=by kernel_rfl
 rw [h]
 rfl
theorem Dn (m:Bs) (B:Bx):bE m (zk B).ids ⟨zk B,[],false⟩=(⟨zk B,[],false⟩,0):=rfl
theorem Lm:y9.now.names dR=[]:=by rw [EM];kernel_rfl
theorem Lp {c:Sc} {B:Bx} (h:¬ (c.step<1∨1000<c.step∨1099511627776<c.most)):gZ c Dk.new B=(y9,some (zk B),0):=by
 have hr:(zk B).recover c.ai=(zk B,0):=by
  rw [qH,Dn]
  dsimp only
  have hn:(zk B).D.now.names dR=[]:=Lm
  rw [if_neg (by simp),hn]
  rfl
 rw [qM h,sS]
 dsimp only
 rw [wY]
 dsimp only
 rw [H7,Ll,hr]
 dsimp only
 rw [if_neg (by simp),if_neg (by simp)]
 rfl
theorem YH (m:Bs) (B:Bx):Up m (zk B):=by
 have hget:∀ k,y9.now.get k=if k=indexB∨k=dm∨k=bn then some [] else none:=by
  intro k
  rw [EM]
  show Mp.get _ k=_
  rw [Mp.fI,Mp.fI,Mp.fI]
  by_cases h1:indexB=k
  ·rw [if_pos h1,if_pos (.inl h1.symm)]
  ·rw [if_neg h1]
   by_cases h2:dm=k
   ·rw [if_pos h2,if_pos (.inr (.inl h2.symm))]
   ·rw [if_neg h2]
    by_cases h3:bn=k
    ·rw [if_pos h3,if_pos (.inr (.inr h3.symm))]
    ·rw [if_neg h3,if_neg (by rintro (h | h | h) <;> simp_all)]
     rfl
 obtain ⟨r1,r2,r3,r4⟩:=Qw
 refine ⟨⟨[],⟨⟨?_,⟨[],?_,by simp,rfl⟩,⟨[],?_,by simp,rfl⟩,⟨?_,by simp⟩,fun id r hr=>by simp [zk,Mn.get] at hr,fun id r hr=>by simp [zk,Mn.get] at hr⟩,r3,⟨fun _=>trivial,?_⟩,fun k=>by simp [zk,bK,Mp.get,bG],fun id r hr=>by simp [zk,Mn.get] at hr⟩⟩,⟨r3,by show y9.eB<0;rw [r4];decide⟩,?_,?_,?_,fun k hk=>?_⟩
 ·show y9.now.Sorted
  rw [EM]
  unfold Fs.Sorted
  simp only [List.pairwise_cons,List.mem_cons,List.not_mem_nil,or_false,forall_eq_or_imp,forall_eq,List.Pairwise.nil,and_true,false_implies,implies_true]
  exact ⟨⟨by decide,by decide⟩,by decide⟩
 ·show (y9.now.get indexB).getD []=_
  rw [hget,if_pos (.inl rfl)];rfl
 ·show (y9.now.get bn).getD []=_
  rw [hget,if_pos (.inr (.inr rfl))];rfl
 ·show (y9.now.get dm).getD []=_
  rw [hget,if_pos (.inr (.inl rfl))];rfl
 ·show y9.now=_
  unfold Dk.replay zk
  dsimp only
  rw [r1,r2]
  rfl
 ·show y9.now.get indexB≠none
  rw [hget,if_pos (.inl rfl)];simp
 ·show y9.now.get bn≠none
  rw [hget,if_pos (.inr (.inr rfl))];simp
 ·show y9.now.get dm≠none
  rw [hget,if_pos (.inr (.inl rfl))];simp
 ·have hk':y9.now.get k≠none:=hk
  rw [hget] at hk'
  split at hk'
  ·rename_i h
   rcases h with h | h | h
   ·exact .inl h
   ·exact .inr (.inr (.inl h))
   ·exact .inr (.inl h)
  ·exact absurd rfl hk'
theorem ok16 {c:Sc} {B:Bx} (hk:c.ai.length=32) (h:¬ (c.step<1∨1000<c.step∨1099511627776<c.most)) (hB:B.tX) (ht:1000*B.tab≤100):bg c 100 (zk B) where
 key:=hk
 step:=by omega
 most:=by omega
 room:=⟨show y9.eB≤9223372036854775807 from of_decide_eq_true (by kernel_rfl),show y9.trace.length≤100 from of_decide_eq_true (by kernel_rfl),show y9.pend.length≤100 from of_decide_eq_true (by kernel_rfl),show y9.now.length≤100 from of_decide_eq_true (by kernel_rfl),show y9.now.bytes≤100 from of_decide_eq_true (by kernel_rfl)⟩
 led:=by simp [zk]
 Gz:=Nat.zero_le _
 ring:=by simp [zk]
 CS:=Nat.zero_le _
 fit:=fun p hp=>by simp [zk] at hp
 len:=Nat.zero_le _
 last:=Nat.zero_le _
 tX:=hB
 tab:=ht
end
end Go.Proofs.YtangbdahnmomlaaGreatDoor
