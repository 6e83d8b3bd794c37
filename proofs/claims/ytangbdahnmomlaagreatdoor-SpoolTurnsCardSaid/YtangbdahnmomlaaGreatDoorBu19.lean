/- entry: mailboxes, recipients, whether an entry may be. Conditions: the lengths fit; what Go's variables hold. entry: the greatest of numbers, and -/
import Derived.Shelf.SlicesQ.IndexFunc
import Derived.Test.YtangbdahnmomlaaGreatDoorBu18
import Derived.Test.YtangbdahnmomlaaGreatDoorGen
set_option linter.unnecessarySimpa false
set_option linter.unusedSimpArgs false
set_option linter.unusedVariables false
set_option maxHeartbeats 4000000
set_option maxRecDepth 100000
namespace Go.Proofs.YtangbdahnmomlaaGreatDoor
section
open Go.RowKit
section
variable {w0 w:World} {L:List aT} {b:Nat} {v:Value} {e:En}
theorem AX (m:Mb) (S:Sp w0 [] w L) (E:Env w0) (h1:m.1.length≤1000000) (h2:m.2.length≤1000000):Calls Tryz.prog 102 #[wu m] w fun e w2=>e=.returned (.bool (ko m))∧Sp w0 [] w2 L:=by
 obtain ⟨l,d⟩:=m
 have bV:=Lib.hid (S.box (wC (l,d)) 37)
 have HM:=Lib.hid (fun (w':World) (S':Sp w0 [] w' (ae w.heap.size (wC (l,d)) 37::L))=>aas (l,d) S' E h1 h2)
 unfold wu at *
 unfold wC at bV
 dsimp only at *
 clear S E h1 h2
 go_enter Tryz.func102,Tryz.ntmps102
 go_wp2_with fail
 refine (HM.out _ bV.out).mono ?_
 rintro e w2 ⟨rfl,S⟩
 have HS2:=Lib.hid S.drop
 clear S bV HM
 go_wp2
 go_ret
 exact ⟨rfl,HS2.out⟩
def lu.Fit (x:lu):Prop:=x.1.1.length≤1000000∧x.1.2.length≤1000000 ∧ -9223372036854775808≤x.2∧x.2≤9223372036854775807
def Us (x:lu):Value:=.agg #[.string ⟨x.1.1.toArray⟩,.string ⟨x.1.2.toArray⟩,.int .i64 x.2]
theorem MO (x:lu) (S:Sp w0 [] w L) (E:Env w0) (h:x.Fit):Calls Tryz.prog 140 #[Us x] w fun e w2=>e=.returned (.bool (!qU x))∧Sp w0 [] w2 L:=by
 obtain ⟨⟨l,d⟩,s⟩:=x
 obtain ⟨h1,h2,h3,h4⟩:=h
 dsimp only at *
 have bV:=Lib.hid (S.box #[.string ⟨l.toArray⟩,.string ⟨d.toArray⟩,.int .i64 s] 100)
 have HM:=Lib.hid (fun (w':World) (L':List aT) (S':Sp w0 [] w' L')=>AX (l,d) S' E h1 h2)
 have HV:Hid (qU ((l,d),s)=(ko (l,d) && decide (0≤s) && decide (s≤2))):=rfl
 unfold Us
 unfold wu at HM
 dsimp only at *
 clear S E h1 h2
 go_enter Tryz.func140,Tryz.ntmps140
 go_upto_region 1 with (fail)
 generalize w.alloc (.cells #[.string ⟨l.toArray⟩,.string ⟨d.toArray⟩,.int .i64 s] 100)=w1 at *
 generalize w.heap.size=q at *
 have c0:=bV.out.cell
 go_wp2_with fail
 refine (HM.out _ _ bV.out).mono ?_
 rintro e w2 ⟨rfl,S⟩
 generalize ko (l,d)=m at *
 have c1:=S.cell
 have HS2:=Lib.hid S.drop
 clear S bV HM c0
 cases m with
 | false =>
  have HW:Hid (qU ((l,d),s)=false):=by unfold Hid;rw [HV.out];rfl
  go_wp2
  go_ret
  exact ⟨by rw [HW.out];rfl,HS2.out⟩
 | true =>
  go_wp2
  all_goals
   go_ret
   refine ⟨dw ?_,HS2.out⟩
   rw [HV.out,Bool.eq_iff_iff]
   simp
   first | done | omega
abbrev Sd:={x:lu // x.Fit}
instance:Inhabited Sd:=⟨⟨(([],[]),0),by unfold lu.Fit;decide⟩⟩
theorem Ut:∀ l:List lu,(∀ x∈l,x.Fit)→∃ zs:List Sd,zs.map (·.1)=l
 | [],_=>⟨[],rfl⟩
 | s::l,h=>by
  obtain ⟨zs,hz⟩:=Ut l fun t ht=>h t (by simp [ht])
  exact ⟨⟨s,h s (by simp)⟩::zs,by simp [hz]⟩
theorem Sg {b o:Nat} {x:Value} (h:w.cell? ⟨b,o,none⟩=some x):b<w.heap.size:=by
 apply Classical.byContradiction
 intro hn
 have h2:w.heap[b]? = none:=Array.getElem?_eq_none (by omega)
 simp [World.cell?,h2] at h
theorem Si (l:List lu) (h0:l≠[]) (hn:l.length≤1000) (hf:∀ x∈l,x.Fit) (T:iM w v l) (S:Sp w0 [] w L) (E:Env w0):Calls Tryz.prog 139 #[v,.func (.func 140) #[] #[]] w fun e w2=>e=.returned (.bool (l.any fun x => !qU x))∧Sp w0 [] w2 L:=by
 obtain ⟨zs,rfl⟩:=Ut l hf
 obtain ⟨a,cap,rfl⟩:=T.form
 have eg:∀ args w,(callFunc 140 args).run Tryz.prog w=.ok (.enter 140 args) w:=enters_of Tryz.func140 (by kernel_rfl) rfl
 obtain ⟨b,off,rfl,_⟩:=T.at (i:=0) (by simp at h0 ⊢;exact List.length_pos_iff.2 h0)
 have hlt:b<w.heap.size:=by
  obtain ⟨b2,o2,h1,h2,_⟩:=T.at (i:=0) (by simp at h0 ⊢;exact List.length_pos_iff.2 h0)
  cases h1
  exact Sg h2
 have hp:PredBelow Tryz.prog 140 #[] (fun x:Sd=>.agg x.1.vals.toArray) (fun x => !qU x.1) w:=fun W x hb=>(MO (w0:=W) (L:=[]) x.1 (Sp.nil W []) (E.ext (S.ext.trans (Ext.of_below hb) (by simp))) x.2).mono fun _ _ ⟨he,hx⟩=>⟨he,hb.trans ((hx.ext.below (Nat.le_refl _) (by simp)).mono hb.size)⟩
 refine (AnyQ.slices_ContainsFunc Tryz.conT 3 (fun w=>by kernel_rfl) (fun w=>by kernel_rfl) (fun x:Sd=>x.1.vals) (fun _=>rfl) (fun x => !qU x.1) _ #[] eg b off _ cap zs w hp (by simp) (by rw [List.length_map] at *;omega) hlt (fun j hj i u hu=>?_)).mono ?_
 ·obtain ⟨a2,cap2,h1,h2⟩:=T
  cases h1
  have hr:((zs.map (·.1)).map lu.vals)[j]? = some (zs[j]!).1.vals:=by rw [List.map_map,List.getElem?_map,List.getElem?_eq_getElem hj,getElem!_pos zs j hj];rfl
  exact h2.at j _ hr i u hu
 ·rintro e w2 ⟨rfl,hb⟩
  refine ⟨?_,S.iq (Ext.of_below hb)⟩
  rw [List.any_map,List.length_map,List.take_length]
  rfl
theorem BU (l:List lu) (hn:l.length≤1000) (hf:∀ x∈l,x.Fit) (T:iM w v l) (S:Sp w0 [] w L) (E:Env w0):Calls Tryz.prog 103 #[v] w fun e w2=>e=.returned (.bool (jR l))∧Sp w0 [] w2 L:=by
 have hn':(l.length:Int)≤1000:=by omega
 have HA:=Lib.hid (fun h0=>Si l h0 hn hf T S E)
 have HS:=Lib.hid S
 have HV:Hid (jR l=(decide (1≤l.length) && decide (l.length≤10) && l.all qU)):=rfl
 obtain ⟨a,cap,rfl⟩:=T.form
 clear S E T hf hn
 by_cases h0:l=[]
 ·subst h0
  have HW:Hid (jR []=false):=rfl
  go_enter Tryz.func103,Tryz.ntmps103
  go_wp2
  go_ret
  exact ⟨by rw [HW.out];rfl,HS.out⟩
 ·have h1:1≤l.length:=List.length_pos_iff.2 h0
  have h1':(0:Int)<l.length:=by omega
  by_cases h2:l.length≤10
  ·have h2':(l.length:Int)≤10:=by omega
   have HW:Hid (jR l = !(l.any fun x => !qU x)):=by
    unfold Hid
    rw [HV.out,decide_eq_true h1,decide_eq_true h2,List.not_any_eq_all_not]
    simp
   have HA2:=Lib.hid (HA.out h0)
   generalize (l.any fun x => !qU x)=q at *
   clear h0 h1 h2 HA
   go_enter Tryz.func103,Tryz.ntmps103
   go_wp2_with fail
   refine HA2.out.mono ?_
   rintro e w2 ⟨rfl,S⟩
   have HS2:=Lib.hid S
   clear S
   go_wp2
   go_ret
   exact ⟨by rw [HW.out];rfl,HS2.out⟩
  ·have h2':(10:Int)<l.length:=by omega
   have HW:Hid (jR l=false):=by
    unfold Hid
    rw [HV.out,decide_eq_false h2]
    simp
   clear h0 h1 h2 HA
   go_enter Tryz.func103,Tryz.ntmps103
   go_wp2
   go_ret
   exact ⟨by rw [HW.out];exact dw (by simp),HS.out⟩
end
end
section
open Go.RowKit
section
variable {w0 w:World} {L:List aT} {F0:List Nat} {b:Nat} {v:Value} {e:En}
theorem Pk (l:List Nat) (b cap:Nat) (w:World) (h0:1≤l.length) (hl:l.length≤1000) (hc:∀ (i:Nat) (x:Nat),l[i]? = some x→w.cell? ⟨b,i,none⟩=some (.int .u64 (x:Int))) :
  Calls Tryz.prog 101 #[.slice (some ⟨b,0,none⟩) l.length cap] w fun e w2=>(∃ m:Nat,e=.returned (.int .u64 m)∧∀ k,m≤k↔∀ x∈l,x≤k)∧w=w2:=by
 have h0':(1:Int)≤l.length:=by omega
 have hl':(l.length:Int)≤1000:=by omega
 have HC:=Lib.hid hc
 obtain ⟨x0,r,rfl⟩:∃ x0 r,l=x0::r:=by
  cases l with
  | nil=>simp at h0
  | cons x0 r=>exact ⟨x0,r,rfl⟩
 have c0:w.cell? ⟨b,0,none⟩=some (.int .u64 (x0:Int)):=hc 0 x0 rfl
 have HB:Hid (∀ i,i<(x0::r).length→(x0::r)[i]? = some ((x0::r).getD i 0)):=fun i hi=>by rw [List.getD_eq_getElem?_getD,List.getElem?_eq_getElem hi];rfl
 have HT:Hid (∀ i,i<(x0::r).length→(x0::r).take (i+1)=(x0::r).take i++[(x0::r).getD i 0]):=fun i hi=>by rw [List.take_add_one,HB.out i hi];rfl
 have HA:Hid ((x0::r).take (x0::r).length=x0::r):=List.take_length
 have HO:Hid ((x0::r).take 1=[x0]):=rfl
 clear hc h0 hl
 generalize hq:x0::r=l at *
 clear hq r
 go_enter Tryz.func101,Tryz.ntmps101
 go_wp2_with fail
 go_loopw [3,4] (fun v DX wr=>∃ m i:Nat,v=.int .u64 m∧DX=.int .i64 i∧1≤i∧i≤l.length∧(∀ k,m≤k↔∀ x∈l.take i,x≤k)∧w=wr) (fun _ v _=>l.length - (intOf v).toNat)
 case atStart=>exact ⟨x0,1,rfl,rfl,Nat.le_refl 1,by omega,by rw [HO.out];simp,rfl⟩
 case round =>
  obtain ⟨m,i,rfl,rfl,h1,h2,h3,rfl⟩:=hrel
  have H3:=Lib.hid h3
  have h2':(i:Int)≤l.length:=by omega
  clear h3
  by_cases hi:i<l.length
  ·have hi':(i:Int)<l.length:=by omega
   have ci:=HC.out i _ (HB.out i hi)
   have HTi:=Lib.hid (HT.out i hi)
   generalize l.getD i 0=x at *
   go_wp2_with fail
   go_roundw
   case rel=>exact ⟨max m x,i+1,congrArg (Value.int .u64) (by omega),by go_num,by omega,by omega,fun k=>by
     have h:=H3.out k
     rw [HTi.out]
     simp only [List.mem_append,List.mem_singleton]
     constructor
     ·rintro hk y (hy | rfl)
      ·exact h.1 (by omega) y hy
      ·omega
     ·intro hk
      have h1:=h.2 fun y hy=>hk y (.inl hy)
      have h2:=hk x (.inr rfl)
      omega,by trivial⟩
   case measure=>simp [intOf];omega
  ·obtain rfl:i=l.length:=by omega
   rw [HA.out] at H3
   go_wp2_with fail
   go_ret
   exact ⟨⟨m,rfl,H3.out⟩,rfl⟩
theorem Pm {s:Bs} (h:oC s=true):oz s=(s,0):=by
 unfold oC at h
 rw [Bool.and_eq_true,beq_iff_eq] at h
 unfold oz
 rw [if_pos h.1,h.2]
theorem Sj {s:Bs} (h:oC s=false):(oz s).2=2∨((oz s).2=0∧(oz s).1≠s):=by
 unfold oz
 by_cases h1:vB s=true
 ·rw [if_pos h1]
  refine .inr ⟨rfl,fun h2=>?_⟩
  have h3:iw s=s:=h2
  unfold oC at h
  rw [h1,h3] at h
  simp at h
 ·rw [if_neg h1]
  exact .inl rfl
theorem xJ (e:En) (v:Value) (w:World) (E:Env w) (hf:e.Fit) (T:iM w v e.gz):Calls Tryz.prog 68 #[eH e v] w fun r w2=>r=.returned (.bool (dz e))∧Ext [] w w2:=by
 have bV:=Lib.hid ((Sp.nil w []).box (bQ e v) 40)
 have HD:=Lib.hid (fun (w':World) (L':List aT) (S':Sp w [] w' L')=>KN e.dom S' E hf.dom)
 have HM:=Lib.hid (fun (w':World) (L':List aT) (S':Sp w [] w' L')=>AX e.mX S' E hf.mX.1 hf.mX.2)
 have HR:=Lib.hid (fun (w':World) (L':List aT) (S':Sp w [] w' L')=>BU e.gz hf.gz hf.each (T.ext S'.ext) S' E)
 have HV:Hid (dz e=(oC e.dom && sV e && (nk e.mX || ko e.mX) && jR e.gz)):=rfl
 have HY:=Lib.hid (@Pm e.dom)
 have HN:=Lib.hid (@Sj e.dom)
 have HX:Hid (∀ (w':World) (b:Nat),(∀ o,w'.cell? ⟨b,o,none⟩=(#[Value.int .u64 e.id,.int .u64 e.ep,.int .u64 e.cnt,.int .u64 e.born,.int .u64 e.jM]:Array Value)[o]?)→Calls Tryz.prog 101 #[.slice (some ⟨b,0,none⟩) 5 5] w' fun r w2=>(∃ m:Nat,r=.returned (.int .u64 m)∧∀ k,m≤k↔∀ x∈[e.id,e.ep,e.cnt,e.born,e.jM],x≤k)∧w'=w2):=fun w' b hc=>Pk [e.id,e.ep,e.cnt,e.born,e.jM] b 5 w' (show 1≤5 by omega) (show 5≤1000 by omega) (fun i x hx=>by
  rw [hc i]
  match i,hx with
  | 0,hx=>cases hx;rfl
  | 1,hx=>cases hx;rfl
  | 2,hx=>cases hx;rfl
  | 3,hx=>cases hx;rfl
  | 4,hx=>cases hx;rfl)
 obtain ⟨id,dom,ep,cnt,⟨fl,fd⟩,gz,born,jM,tries⟩:=e
 unfold eH
 unfold bQ at bV
 unfold wu at HM
 dsimp only at *
 clear T E hf
 go_enter Tryz.func68,Tryz.ntmps68
 go_upto_region 1 with (fail)
 generalize w.alloc (.cells #[.int .u64 id,.string ⟨dom.toArray⟩,.int .u64 ep,.int .u64 cnt,.string ⟨fl.toArray⟩,.string ⟨fd.toArray⟩,v,.int .u64 born,.int .u64 jM,.int .i64 tries] 40)=w1 at *
 generalize w.heap.size=q0 at *
 have c0:=bV.out.cell
 go_wp2_with fail
 refine (HD.out _ _ bV.out).mono ?_
 rintro r w2 ⟨rfl,S⟩
 have c1:=S.cell
 have l1:=S.x8
 have bX:=Lib.hid (S.box #[.int .u64 id,.int .u64 ep,.int .u64 cnt,.int .u64 born,.int .u64 jM] 189)
 generalize oz dom=dv at *
 obtain ⟨d,f⟩:=dv
 dsimp only at *
 clear S bV c0 HD
 go_upto_region 3 with (fail)
 generalize w2.alloc (.cells #[.int .u64 id,.int .u64 ep,.int .u64 cnt,.int .u64 born,.int .u64 jM] 189)=w3 at *
 generalize w2.heap.size=q1 at *
 have c2:=bX.out.ak.cell
 have MP:=Lib.hid (HX.out w3 q1 bX.out.cell)
 have NR:Hid (sV ⟨id,dom,ep,cnt,(fl,fd),gz,born,jM,tries⟩=(decide (1≤id) && decide (1≤ep) && decide (id≤1099511627776) && decide (ep≤1099511627776) && decide (cnt≤1099511627776) && decide (born≤1099511627776) && decide (jM≤1099511627776) && decide (0≤tries) && decide (tries≤100))):=rfl
 generalize sV ⟨id,dom,ep,cnt,(fl,fd),gz,born,jM,tries⟩=N at *
 clear HX c1 l1
 cases Vq:oC dom with
 | false =>
  have HW:Hid (dz ⟨id,dom,ep,cnt,(fl,fd),gz,born,jM,tries⟩=false):=by unfold Hid;rw [HV.out,Vq];simp
  rcases HN.out Vq with h | ⟨h,h'⟩
  ·have hf:f=2:=h
   subst hf
   clear h Vq
   go_wp2
   go_ret
   exact ⟨by rw [HW.out];rfl,bX.out.ext⟩
  ·have hf:f=0:=h
   have hd:d≠dom:=h'
   subst hf
   clear h h' Vq
   go_wp2
   go_ret
   exact ⟨by rw [HW.out];rfl,bX.out.ext⟩
 | true =>
  obtain ⟨rfl,rfl⟩:dom=d∧f=0:=by
   have:=HY.out Vq
   simp only [Prod.mk.injEq] at this
   exact ⟨this.1.symm,this.2⟩
  rw [Vq] at HV
  clear HY HN Vq
  by_cases h1:1≤id
  ·have h1':(0:Int)<id:=by omega
   by_cases h2:1≤ep
   ·have h2':(0:Int)<ep:=by omega
    go_wp2_with fail
    refine MP.out.mono ?_
    rintro r w4 ⟨⟨m,rfl,hm⟩,rfl⟩
    have Uu:=Lib.hid (hm 1099511627776)
    clear hm
    by_cases h3:m≤1099511627776
    ·have h3':(m:Int)≤1099511627776:=by omega
     have HG:=Lib.hid (Uu.out.1 h3)
     by_cases h4:0≤tries
     ·by_cases h5:tries≤100
      ·have HNT:Hid (N=true):=by
        have:=HG.out
        simp only [List.mem_cons,List.not_mem_nil,or_false,forall_eq_or_imp,forall_eq] at this
        unfold Hid
        rw [NR.out]
        simp
        omega
       clear Uu HG MP NR h1 h2 h3
       cases hnb:nk (fl,fd) with
       | true =>
        have hnb':=hnb
        unfold nk at hnb'
        simp only [Bool.and_eq_true,beq_iff_eq] at hnb'
        obtain ⟨rfl,rfl⟩:=hnb'
        have Pn:Hid ((nk (([]:Bs),([]:Bs)) || ko ([],[]))=true):=by unfold Hid;rw [hnb];simp
        clear hnb
        go_wp2_with fail
        refine (HR.out _ _ bX.out).mono ?_
        rintro r w5 ⟨rfl,S⟩
        have gB:=Lib.hid S
        have HW:Hid (dz ⟨id,dom,ep,cnt,([],[]),gz,born,jM,tries⟩=jR gz):=by unfold Hid;rw [HV.out,HNT.out,Pn.out];simp
        generalize jR gz=z at *
        clear S HV
        go_wp2
        go_ret
        exact ⟨by rw [HW.out];rfl,gB.out.ext⟩
       | false =>
        by_cases hfl:fl=[]
        ·have Sk:fd≠[]:=by
          intro h
          subst hfl h
          simp [nk] at hnb
         subst hfl
         go_wp2_with fail
         refine (HM.out _ _ bX.out).mono ?_
         rintro r w4 ⟨rfl,S⟩
         have c5:=S.ak.cell
         have gP:=Lib.hid S
         clear S
         cases hmb:ko ([],fd) with
         | false =>
          have HW:Hid (dz ⟨id,dom,ep,cnt,([],fd),gz,born,jM,tries⟩=false):=by unfold Hid;rw [HV.out,hnb,hmb];simp
          go_wp2
          go_ret
          exact ⟨by rw [HW.out];rfl,gP.out.ext⟩
         | true =>
          have Pn:Hid ((nk ([],fd) || ko ([],fd))=true):=by unfold Hid;rw [hmb];simp
          go_wp2_with fail
          refine (HR.out _ _ gP.out).mono ?_
          rintro r w5 ⟨rfl,S⟩
          have gB:=Lib.hid S
          have HW:Hid (dz ⟨id,dom,ep,cnt,([],fd),gz,born,jM,tries⟩=jR gz):=by unfold Hid;rw [HV.out,HNT.out,Pn.out];simp
          generalize jR gz=z at *
          clear S HV
          go_wp2
          go_ret
          exact ⟨by rw [HW.out];rfl,gB.out.ext⟩
        ·skip
         go_wp2_with fail
         refine (HM.out _ _ bX.out).mono ?_
         rintro r w4 ⟨rfl,S⟩
         have c5:=S.ak.cell
         have gP:=Lib.hid S
         clear S
         cases hmb:ko (fl,fd) with
         | false =>
          have HW:Hid (dz ⟨id,dom,ep,cnt,(fl,fd),gz,born,jM,tries⟩=false):=by unfold Hid;rw [HV.out,hnb,hmb];simp
          go_wp2
          go_ret
          exact ⟨by rw [HW.out];rfl,gP.out.ext⟩
         | true =>
          have Pn:Hid ((nk (fl,fd) || ko (fl,fd))=true):=by unfold Hid;rw [hmb];simp
          go_wp2_with fail
          refine (HR.out _ _ gP.out).mono ?_
          rintro r w5 ⟨rfl,S⟩
          have gB:=Lib.hid S
          have HW:Hid (dz ⟨id,dom,ep,cnt,(fl,fd),gz,born,jM,tries⟩=jR gz):=by unfold Hid;rw [HV.out,HNT.out,Pn.out];simp
          generalize jR gz=z at *
          clear S HV
          go_wp2
          go_ret
          exact ⟨by rw [HW.out];rfl,gB.out.ext⟩
      ·have HW:Hid (dz ⟨id,dom,ep,cnt,(fl,fd),gz,born,jM,tries⟩=false):=by unfold Hid;rw [HV.out,NR.out,decide_eq_false h5];simp
       clear Uu HG MP NR h1 h2 h3
       go_wp2
       go_ret
       exact ⟨by rw [HW.out];rfl,bX.out.ext⟩
     ·have HW:Hid (dz ⟨id,dom,ep,cnt,(fl,fd),gz,born,jM,tries⟩=false):=by unfold Hid;rw [HV.out,NR.out,decide_eq_false h4];simp
      clear Uu HG MP NR h1 h2 h3
      go_wp2
      go_ret
      exact ⟨by rw [HW.out];rfl,bX.out.ext⟩
    ·have h3':(1099511627776:Int)<m:=by omega
     have HW:Hid (dz ⟨id,dom,ep,cnt,(fl,fd),gz,born,jM,tries⟩=false):=by
      unfold Hid
      rw [HV.out]
      have hn:N≠true:=by
       intro hn
       rw [NR.out] at hn
       simp only [Bool.and_eq_true,decide_eq_true_eq] at hn
       refine h3 (Uu.out.2 ?_)
       simp only [List.mem_cons,List.not_mem_nil,or_false,forall_eq_or_imp,forall_eq]
       omega
      cases N
      ·simp
      ·exact absurd rfl hn
     clear Uu MP NR h1 h2 h3
     go_wp2
     go_ret
     exact ⟨by rw [HW.out];rfl,bX.out.ext⟩
   ·have h2':(ep:Int)=0:=by omega
    have HW:Hid (dz ⟨id,dom,ep,cnt,(fl,fd),gz,born,jM,tries⟩=false):=by unfold Hid;rw [HV.out,NR.out,decide_eq_false h2];simp
    clear MP NR h1 h2
    go_wp2
    go_ret
    exact ⟨by rw [HW.out];rfl,bX.out.ext⟩
  ·have h1':(id:Int)=0:=by omega
   have HW:Hid (dz ⟨id,dom,ep,cnt,(fl,fd),gz,born,jM,tries⟩=false):=by unfold Hid;rw [HV.out,NR.out,decide_eq_false h1];simp
   clear MP NR h1
   go_wp2
   go_ret
   exact ⟨by rw [HW.out];rfl,bX.out.ext⟩
end
end
section
open Go.RowKit
section
variable {w0 w:World} {L:List aT} {F0:List Nat} {b:Nat} {v:Value} {e:En} {r:Rd}
theorem Gh (m:Nat) (r:Rd):(lQ m r).2.s.length≤r.s.length:=by
 unfold lQ
 have h1:=ic r m
 have h2:=ic (r.text m).2 m
 dsimp only
 omega
theorem AY (S:Sp w0 F0 w (xC 151 b r::L)) (hs:r.s.length≤1000000):Calls Tryz.prog 194 #[.pointer (some ⟨b,0,none⟩)] w fun e w2=>e=.returned (wu (lQ 300 r).1)∧Sp w0 F0 w2 (xC 151 b (lQ 300 r).2::L):=by
 have bV:=Lib.hid (S.box #[.string ⟨#[]⟩,.string ⟨#[]⟩] 37).ak
 have HL:=Lib.hid hs
 have Kr:=Lib.hid (ic r 300)
 have HV:Hid (lQ 300 r=(((r.text 300).1,((r.text 300).2.text 300).1),((r.text 300).2.text 300).2)):=rfl
 clear S hs
 go_enter Tryz.func194,Tryz.ntmps194
 go_upto_region 1 with (fail)
 generalize w.alloc (.cells #[.string ⟨#[]⟩,.string ⟨#[]⟩] 37)=w1 at *
 generalize w.heap.size=q at *
 go_wp2_with fail
 refine (lF 300 300 rfl bV.out (by have:=HL.out;omega) (by omega)).mono ?_
 rintro e w2 ⟨rfl,S⟩
 have HS2:=Lib.hid S
 generalize r.text 300=a at *
 clear S bV
 go_wp2_with fail
 refine (lF 300 300 rfl HS2.out (by have:=HL.out;have:=Kr.out;omega) (by omega)).mono ?_
 rintro e w3 ⟨rfl,S⟩
 generalize a.2.text 300=c at *
 have d0:=S.ak.cell
 have f0:=S.ak.free
 have bI:=Lib.hid ((S.ak.set (o:=0) (.string ⟨a.1.toArray⟩)).set (o:=1) (.string ⟨c.1.toArray⟩)).drop
 clear S HS2
 go_wp2
 rw [HV.out]
 exact bodyPost_ret (v:=.agg #[.string ⟨a.1.toArray⟩,.string ⟨c.1.toArray⟩]) (by simp [results,Tryz.results194,go_sem,d0]) rfl ⟨rfl,bI.out⟩
theorem Jm (m:Nat) (r:Rd):pF m r=(
 let a:=r.num 1099511627776
 let b:=a.2.text m
 let c:=b.2.num 1099511627776
 let d:=c.2.num 1099511627776
 let f:=lQ m d.2
 let n:=f.2.num 10
 let l:=jc m n.1 n.2
 let g:=l.2.num 1099511627776
 let h:=g.2.num 1099511627776
 let t:=h.2.num 100
 ((⟨a.1,b.1,c.1,d.1,f.1,l.1,g.1,h.1,t.1⟩,t.2):En×Rd)):=rfl
abbrev WV (b:Nat) (id:Nat) (dom:Bs) (ep cnt:Nat) (f:Mb) (v:Value) (born jM:Nat) (tries:Int):aT:=ae b #[.int .u64 id,.string ⟨dom.toArray⟩,.int .u64 ep,.int .u64 cnt,.string ⟨f.1.toArray⟩,.string ⟨f.2.toArray⟩,v,.int .u64 born,.int .u64 jM,.int .i64 tries] 40
theorem Sl (s:Bs) (hs:s.length≤1000000) (E:Env w0) (S:Sp w0 [] w L):Calls Tryz.prog 152 #[.string ⟨s.toArray⟩] w fun r w2=>∃ v,r=.returned (.tuple #[eH (iW 300 s).1 v,.int .i64 (iW 300 s).2])∧Sp w0 [] w2 (dH v (iW 300 s).1.gz::L):=by
 have bV:=Lib.hid (S.box #[.int .u64 0,.string ⟨#[]⟩,.int .u64 0,.int .u64 0,.string ⟨#[]⟩,.string ⟨#[]⟩,.slice none 0 0,.int .u64 0,.int .u64 0,.int .i64 0] 40)
 have HL0:Hid ((⟨s,false⟩:Rd).s.length≤1000000):=hs
 have HE:=Lib.hid E
 have Ec:=Lib.hid (Oc 300 (by omega) ⟨s,false⟩)
 have HV:Hid (iW 300 s=if (pF 300 ⟨s,false⟩).2.done=0∧dz (pF 300 ⟨s,false⟩).1=true then ((pF 300 ⟨s,false⟩).1,0) else (En.zero,2)):=rfl
 have HR:=Lib.hid (Jm 300 ⟨s,false⟩)
 generalize pF 300 ⟨s,false⟩=X at *
 generalize hr0:(⟨s,false⟩:Rd)=r0 at *
 clear S hs E
 go_enter Tryz.func152,Tryz.ntmps152
 go_upto_region 1 with (fail)
 generalize w.alloc (.cells #[.int .u64 0,.string ⟨#[]⟩,.int .u64 0,.int .u64 0,.string ⟨#[]⟩,.string ⟨#[]⟩,.slice none 0 0,.int .u64 0,.int .u64 0,.int .i64 0] 40)=w1 at *
 generalize w.heap.size=q2 at *
 go_wp2_with fail
 refine (yx bV.out s).mono ?_
 rw [hr0]
 rintro e w2 ⟨b,rfl,S⟩
 have bX:=Lib.hid ((Sp.pick [_,_,_,_] [2,1,0,3] (by decide) ((S.box #[.int .u64 0,.string ⟨#[]⟩,.int .u64 0,.int .u64 0,.string ⟨#[]⟩,.string ⟨#[]⟩,.slice none 0 0,.int .u64 0,.int .u64 0,.int .i64 0] 40).iX)))
 clear S bV hr0
 go_upto_region 3 with (fail)
 generalize w2.alloc (.cells #[.int .u64 0,.string ⟨#[]⟩,.int .u64 0,.int .u64 0,.string ⟨#[]⟩,.string ⟨#[]⟩,.slice none 0 0,.int .u64 0,.int .u64 0,.int .i64 0] 40)=w3 at *
 generalize w2.heap.size=q5 at *
 go_wp2_with fail
 refine (kT 1099511627776 1099511627776 rfl bX.out (by have:=HL0.out;omega)).mono ?_
 have Kr:Hid ((r0.num 1099511627776).2.s.length≤1000000):=by have:=jq r0 1099511627776;have:=HL0.out;unfold Hid;omega
 generalize r0.num 1099511627776=a at *
 rintro e w4 ⟨rfl,S⟩
 have c1:=S.ak.cell
 have f1:=S.ak.free
 have HS2:=Lib.hid ((S.ak.set (o:=0) (.int .u64 a.1)).ak)
 clear S bX
 go_wp2_with fail
 refine (lF 300 300 rfl HS2.out (by have:=Kr.out;omega) (by omega)).mono ?_
 have HL2:Hid ((a.2.text 300).2.s.length≤1000000):=by have:=ic a.2 300;have:=Kr.out;unfold Hid;omega
 generalize a.2.text 300=b1 at *
 rintro e w5 ⟨rfl,S⟩
 have c2:=S.ak.cell
 have f2:=S.ak.free
 have bI:=Lib.hid ((S.ak.set (o:=1) (.string ⟨b1.1.toArray⟩)).ak)
 clear S HS2 c1 f1
 go_wp2_with fail
 refine (kT 1099511627776 1099511627776 rfl bI.out (by have:=HL2.out;omega)).mono ?_
 have MQ:Hid ((b1.2.num 1099511627776).2.s.length≤1000000):=by have:=jq b1.2 1099511627776;have:=HL2.out;unfold Hid;omega
 generalize b1.2.num 1099511627776=c at *
 rintro e w6 ⟨rfl,S⟩
 have c3:=S.ak.cell
 have f3:=S.ak.free
 have gP:=Lib.hid ((S.ak.set (o:=2) (.int .u64 c.1)).ak)
 clear S bI c2 f2
 go_wp2_with fail
 refine (kT 1099511627776 1099511627776 rfl gP.out (by have:=MQ.out;omega)).mono ?_
 have XT:Hid ((c.2.num 1099511627776).2.s.length≤1000000):=by have:=jq c.2 1099511627776;have:=MQ.out;unfold Hid;omega
 generalize c.2.num 1099511627776=d at *
 rintro e w7 ⟨rfl,S⟩
 have c4:=S.ak.cell
 have f4:=S.ak.free
 have gB:=Lib.hid ((S.ak.set (o:=3) (.int .u64 d.1)).ak)
 clear S gP c3 f3
 go_wp2_with fail
 refine (AY gB.out XT.out).mono ?_
 have XU:Hid ((lQ 300 d.2).2.s.length≤1000000):=by have:=Gh 300 d.2;have:=XT.out;unfold Hid;omega
 generalize lQ 300 d.2=f at *
 unfold wu
 rintro e w8 ⟨rfl,S⟩
 have c5:=S.ak.cell
 have f5:=S.ak.free
 have fG:=Lib.hid (((S.ak.set (o:=4) (.string ⟨f.1.1.toArray⟩)).set (o:=5) (.string ⟨f.1.2.toArray⟩)).ak)
 clear S gB c4 f4
 go_wp2_with fail
 refine (kT 10 10 rfl fG.out (by have:=XU.out;omega)).mono ?_
 have Vr:Hid ((f.2.num 10).2.s.length≤1000000):=by have:=jq f.2 10;have:=XU.out;unfold Hid;omega
 have hn:=jB f.2 10
 generalize f.2.num 10=nr at *
 rintro e w9 ⟨rfl,S⟩
 have jN:Hid (Sp w0 [] w9 (xC 151 b nr.2::WV q5 a.1 b1.1 c.1 d.1 f.1 (.slice none 0 0) 0 0 0::dH (.slice none 0 0) []::WV q2 0 [] 0 0 ([],[]) (.slice none 0 0) 0 0 0::L)):=S
 clear S fG c5 f5
 have hn':(nr.1:Int)≤10:=by omega
 go_wp2_with fail
 go_loopw [36] (fun DX wr=>∃ (k:Nat) (r1:Rd) (v1:Value) (dn:List lu),DX=.int .u64 k∧k≤nr.1∧dn.length=k∧jc 300 nr.1 nr.2=(dn++(jc 300 (nr.1 - k) r1).1,(jc 300 (nr.1 - k) r1).2)∧r1.s.length≤1000000∧Sp w0 [] wr (xC 151 b r1::WV q5 a.1 b1.1 c.1 d.1 f.1 v1 0 0 0::dH v1 dn::WV q2 0 [] 0 0 ([],[]) (.slice none 0 0) 0 0 0::L)) (fun DX _=>nr.1 - (intOf DX).toNat)
 case atStart=>exact ⟨0,nr.2,.slice none 0 0,[],rfl,Nat.zero_le _,rfl,rfl,Vr.out,jN.out⟩
 case round =>
  obtain ⟨k,r1,v1,dn,rfl,hk,hd,heq,hl,S1⟩:=hrel
  have hk':(k:Int)≤nr.1:=by omega
  by_cases hlt:k<nr.1
  ·have hlt':(k:Int)<nr.1:=by omega
   have Zk:Hid (jc 300 nr.1 nr.2=(dn++(((lQ 300 r1).1,(((lQ 300 r1).2.num 2).1:Int))::(jc 300 (nr.1 - (k+1)) ((lQ 300 r1).2.num 2).2).1),(jc 300 (nr.1 - (k+1)) ((lQ 300 r1).2.num 2).2).2)):=by
    unfold Hid
    rw [heq,show nr.1 - k=(nr.1 - (k+1))+1 by omega]
    rfl
   have HD:=Lib.hid hd
   have HL:=Lib.hid hl
   have XV:=Lib.hid S1
   have Io:=Lib.hid (Gh 300 r1)
   clear heq hd hl S1 jN
   go_wp2_with fail
   refine (AY XV.out HL.out).mono ?_
   generalize lQ 300 r1=x at *
   unfold wu
   rintro e wa ⟨rfl,S⟩
   have HSb:=Lib.hid (S.box #[.string ⟨x.1.1.toArray⟩,.string ⟨x.1.2.toArray⟩,.int .i64 0] 100).ak
   clear S XV
   go_upto_region 11 with (fail)
   generalize wa.alloc (.cells #[.string ⟨x.1.1.toArray⟩,.string ⟨x.1.2.toArray⟩,.int .i64 0] 100)=wb at *
   generalize wa.heap.size=q6 at *
   go_wp2_with fail
   refine (kT 2 2 rfl HSb.out (by have:=Io.out;have:=HL.out;omega)).mono ?_
   have Sm:=Lib.hid (jq x.2 2)
   have hle:=jB x.2 2
   generalize x.2.num 2=y at *
   have adP:(y.1:Int)≤2:=by omega
   rintro e wc ⟨rfl,S⟩
   have cx:=S.ak.cell
   have fx:=S.ak.free
   have S2:=S.ak.set (o:=2) (.int .i64 y.1)
   have cq:=((Sp.pick [_,_,_] [2] (by decide) (S2))).cell
   have fq:=((Sp.pick [_,_,_] [2] (by decide) (S2))).free
   have cy:=S2.cell
   have S3:=S2.box #[.string ⟨x.1.1.toArray⟩,.string ⟨x.1.2.toArray⟩,.int .i64 y.1] 100
   simp only [World.size_setCell] at S3
   obtain ⟨g,cap,wd,hrun,S4⟩:=Sp.O8 38 ((x.1,(y.1:Int)):lu) (by have:=HD.out;omega) ((Sp.pick [_,_,_,_,_,_] [0,4,2,3,5] (by decide) (S3)))
   have pV:=Lib.hid hrun
   have cr:=((Sp.pick [_,_,_] [2] (by decide) (S4))).cell
   have fr:=((Sp.pick [_,_,_] [2] (by decide) (S4))).free
   have S5:=((Sp.pick [_,_,_,_] [2,0,1,3] (by decide) (S4))).set (o:=6) (.slice (some ⟨g,0,none⟩) (dn.length+1) cap)
   have gB:=Lib.hid ((Sp.pick [_,_,_,_] [2,0,1,3] (by decide) (S5)))
   clear S S2 S3 S4 S5 hrun HSb
   go_wp2_with (at_builtin;refine wpList_append_run (by rfl) (by rfl) (by rfl) (by rfl) pV.out ?_)
   go_roundw
   case rel=>exact ⟨k+1,y.2,.slice (some ⟨g,0,none⟩) (dn.length+1) cap,dn++[((x.1,(y.1:Int)):lu)],by go_num,by omega,by have:=HD.out;simp;exact this,by rw [Zk.out];simp,by have:=Sm.out;have:=Io.out;have:=HL.out;omega,gB.out⟩
   case measure=>simp [intOf];omega
  ·obtain rfl:k=nr.1:=by omega
   have heq2:jc 300 nr.1 nr.2=(dn,r1):=by
    rw [heq,Nat.sub_self]
    simp [jc]
   rw [heq2] at HR
   have XW:=Lib.hid hl
   have XV:=Lib.hid S1
   clear heq hd hl S1 jN heq2
   dsimp only at HR
   have XX:=XW
   have XY:=XV
   clear XV XW hlt hk hk'
   go_wp2_with fail
   refine (kT 1099511627776 1099511627776 rfl XY.out (by have:=XX.out;omega)).mono ?_
   have XZ:Hid ((r1.num 1099511627776).2.s.length≤1000000):=by have:=jq r1 1099511627776;have:=XX.out;unfold Hid;omega
   have hle0:=jB r1 1099511627776
   generalize r1.num 1099511627776=g at *
   have acf:(g.1:Int)≤1099511627776:=by omega
   rintro e wn1 ⟨rfl,S⟩
   have cn1:=S.ak.cell
   have fn1:=S.ak.free
   have X0:=Lib.hid ((S.ak.set (o:=7) (.int .u64 g.1)).ak)
   clear S XY hle0
   go_wp2_with fail
   refine (kT 1099511627776 1099511627776 rfl X0.out (by have:=XZ.out;omega)).mono ?_
   have X3:Hid ((g.2.num 1099511627776).2.s.length≤1000000):=by have:=jq g.2 1099511627776;have:=XZ.out;unfold Hid;omega
   have hle1:=jB g.2 1099511627776
   generalize g.2.num 1099511627776=h at *
   have acg:(h.1:Int)≤1099511627776:=by omega
   rintro e wn2 ⟨rfl,S⟩
   have Sn:=S.ak.cell
   have fn2:=S.ak.free
   have X4:=Lib.hid ((S.ak.set (o:=8) (.int .u64 h.1)).ak)
   clear S X0 hle1 cn1 fn1
   go_wp2_with fail
   refine (kT 100 100 rfl X4.out (by have:=X3.out;omega)).mono ?_
   have adS:Hid ((h.2.num 100).2.s.length≤1000000):=by have:=jq h.2 100;have:=X3.out;unfold Hid;omega
   have hle2:=jB h.2 100
   generalize h.2.num 100=t at *
   have aci:(t.1:Int)≤100:=by omega
   rintro e wn3 ⟨rfl,S⟩
   have cn3:=S.ak.cell
   have fn3:=S.ak.free
   have X5:=Lib.hid ((S.ak.set (o:=9) (.int .i64 t.1)).ak)
   clear S X4 hle2 Sn fn2
   have uj:Hid (Sp w0 [] ((wn3.setCell ⟨q5,9,none⟩ (.int .i64 t.1))) (WV q5 a.1 b1.1 c.1 d.1 f.1 v1 g.1 h.1 t.1::xC 151 b t.2::dH v1 dn::WV q2 0 [] 0 0 ([],[]) (.slice none 0 0) 0 0 0::L)):=Lib.hid X5.out.ak
   clear X5
   go_wp2_with fail
   refine (DR uj.out.ak).mono ?_
   rintro e w8 ⟨rfl,rfl⟩
   generalize wn3.setCell ⟨q5,9,none⟩ (.int .i64 t.1)=wx at *
   have ce:=uj.out.cell
   have HX:Hid (X.1=⟨a.1,b1.1,c.1,d.1,f.1,dn,g.1,h.1,t.1⟩):=by rw [HR.out];exact Eq.refl _
   have HD:Hid (X.2.done=t.2.done):=by rw [HR.out];exact Eq.refl _
   rw [HX.out,HD.out] at HV
   rw [HX.out] at Ec
   have HM:=Lib.hid (xJ ⟨a.1,b1.1,c.1,d.1,f.1,dn,g.1,h.1,t.1⟩ v1 wx (HE.out.sp uj.out) Ec.out ((Sp.pick [_,_,_] [2] (by decide) (uj.out))).kM)
   unfold eH at HM
   dsimp only at HM
   generalize t.2.done=dd at *
   clear cn3 fn3 HR HX HD Ec
   obtain ⟨va,vc,rfl⟩:=((Sp.pick [_,_,_] [2] (by decide) (uj.out))).kM.form
   by_cases hdd:dd=0
   ·subst hdd
    go_wp2_with fail
    refine HM.out.mono ?_
    rintro e wy ⟨rfl,hx⟩
    have S:=uj.out.iq hx
    have cf:=S.cell
    have S2:=(Sp.pick [_,_,_,_] [3,2] (by decide) (S))
    have d0:=S2.cell
    have f0:=S2.free
    cases hm:dz ⟨a.1,b1.1,c.1,d.1,f.1,dn,g.1,h.1,t.1⟩ with
    | true =>
     have HW:Hid (iW 300 s=(⟨a.1,b1.1,c.1,d.1,f.1,dn,g.1,h.1,t.1⟩,0)):=by unfold Hid;rw [HV.out,if_pos ⟨by trivial,hm⟩]
     have bI:=Lib.hid (((((((((((S2.set (o:=0) (.int .u64 a.1)).set (o:=1) (.string ⟨b1.1.toArray⟩)).set (o:=2) (.int .u64 c.1)).set (o:=3) (.int .u64 d.1)).set (o:=4) (.string ⟨f.1.1.toArray⟩)).set (o:=5) (.string ⟨f.1.2.toArray⟩)).set (o:=6) (.slice va dn.length vc)).set (o:=7) (.int .u64 g.1)).set (o:=8) (.int .u64 h.1)).set (o:=9) (.int .i64 t.1)).drop)
     clear S S2 hx uj ce HM hm HV
     go_wp2
     rw [HW.out]
     exact bodyPost_ret (v:=.tuple #[.agg #[.int .u64 a.1,.string ⟨b1.1.toArray⟩,.int .u64 c.1,.int .u64 d.1,.string ⟨f.1.1.toArray⟩,.string ⟨f.1.2.toArray⟩,.slice va dn.length vc,.int .u64 g.1,.int .u64 h.1,.int .i64 t.1],.int .i64 0]) (by simp [results,Tryz.results152,go_sem,d0]) rfl ⟨_,rfl,bI.out⟩
    | false =>
     have HW:Hid (iW 300 s=(En.zero,2)):=by unfold Hid;rw [HV.out,if_neg (by rintro ⟨_,h⟩;rw [hm] at h;cases h)]
     have bI:=Lib.hid (((((((((((S2.set (o:=0) (.int .u64 0)).set (o:=1) (.string ⟨#[]⟩)).set (o:=2) (.int .u64 0)).set (o:=3) (.int .u64 0)).set (o:=4) (.string ⟨#[]⟩)).set (o:=5) (.string ⟨#[]⟩)).set (o:=6) (.slice none 0 0)).set (o:=7) (.int .u64 0)).set (o:=8) (.int .u64 0)).set (o:=9) (.int .i64 0)).drop.drop.iX)
     clear S S2 hx uj ce HM hm HV
     go_wp2
     rw [HW.out]
     exact bodyPost_ret (v:=.tuple #[.agg #[.int .u64 0,.string ⟨#[]⟩,.int .u64 0,.int .u64 0,.string ⟨#[]⟩,.string ⟨#[]⟩,.slice none 0 0,.int .u64 0,.int .u64 0,.int .i64 0],.int .i64 2]) (by simp [results,Tryz.results152,go_sem,d0]) rfl ⟨.slice none 0 0,rfl,bI.out⟩
   ·have HW:Hid (iW 300 s=(En.zero,2)):=by unfold Hid;rw [HV.out,if_neg (fun h=>hdd h.1)]
    have hb:(dd == 0)=false:=by simpa using hdd
    have S2:=(Sp.pick [_,_,_,_] [3] (by decide) (uj.out))
    have d0:=S2.cell
    have f0:=S2.free
    have bI:=Lib.hid (((((((((((S2.set (o:=0) (.int .u64 0)).set (o:=1) (.string ⟨#[]⟩)).set (o:=2) (.int .u64 0)).set (o:=3) (.int .u64 0)).set (o:=4) (.string ⟨#[]⟩)).set (o:=5) (.string ⟨#[]⟩)).set (o:=6) (.slice none 0 0)).set (o:=7) (.int .u64 0)).set (o:=8) (.int .u64 0)).set (o:=9) (.int .i64 0)).drop.iX)
    clear S2 uj HM HV
    go_wp2
    rw [HW.out]
    exact bodyPost_ret (v:=.tuple #[.agg #[.int .u64 0,.string ⟨#[]⟩,.int .u64 0,.int .u64 0,.string ⟨#[]⟩,.string ⟨#[]⟩,.slice none 0 0,.int .u64 0,.int .u64 0,.int .i64 0],.int .i64 2]) (by simp [results,Tryz.results152,go_sem,d0]) rfl ⟨.slice none 0 0,rfl,bI.out⟩
end
end
section
open Go.RowKit
section
variable {w0 w:World} {L:List aT} {F0:List Nat} {b:Nat} {v:Value} {e:En} {r:Rd}
theorem MR (a b c:Value) (i:Nat) (h:i<3) (W:World):(Instr.index 125 (.agg #[a,b,c]) (.int .i64 i)).run Tryz.prog W=.ok ((#[a,b,c]:Array Value).getD i a) W:=by
 match i,h with
 | 0,_=>simp [Instr.index,go_sem,Tryz.underlying125]
 | 1,_=>simp [Instr.index,go_sem,Tryz.underlying125]
 | 2,_=>simp [Instr.index,go_sem,Tryz.underlying125]
theorem mQ (n:Nat):(bJ n).length≤1000:=by have:=aL n;omega
theorem lX {s:Bs} (h:s.length≤1000000):(aN s).length≤1001000:=by have:=aP s;omega
theorem KP:∀ l:List lu,(∀ x∈l,x.1.1.length≤1000000∧x.1.2.length≤1000000)→(l.flatMap Dt).length≤3000000*l.length
 | [],_=>by simp
 | x::l,h=>by
  have h1:=KP l (fun y hy=>h y (by simp [hy]))
  have h2:=lX (h x (by simp)).1
  have h3:=lX (h x (by simp)).2
  have h4:=mQ x.2.toNat
  have h5:(Dt x).length≤3000000:=by
   unfold Dt
   simp only [List.length_append]
   omega
  rw [List.flatMap_cons,List.length_append,List.length_cons]
  omega
theorem Jn (e:En) (v:Value) (w:World) (E:Env w) (hf:e.Fit) (T:iM w v e.gz):Calls Tryz.prog 145 #[eH e v] w fun r w2=>r=.returned (.tuple #[.string ⟨(xy e).1.toArray⟩,.int .i64 (xy e).2])∧Ext [] w w2:=by
 have bV:=Lib.hid ((Sp.nil w []).box (bQ e v) 40)
 have HM:=Lib.hid (fun (w':World) (L':List aT) (S':Sp w [] w' L')=>xJ e v w' (E.sp S') hf (T.ext S'.ext))
 have HT:=Lib.hid T
 have HF:=Lib.hid hf
 have HV:Hid (xy e=if dz e=true then (dC e,0) else ([],2)):=rfl
 have HP:=Lib.hid (@bT e)
 have HH:=Lib.hid (zX e [])
 rw [List.append_nil] at HH
 obtain ⟨id,dom,ep,cnt,⟨fl,fd⟩,gz,born,jM,tries⟩:=e
 unfold eH at *
 unfold bQ at bV
 dsimp only at *
 obtain ⟨va,vc,rfl⟩:=T.form
 clear T E hf
 go_enter Tryz.func145,Tryz.ntmps145
 go_upto_region 1 with (fail)
 generalize w.alloc (.cells #[.int .u64 id,.string ⟨dom.toArray⟩,.int .u64 ep,.int .u64 cnt,.string ⟨fl.toArray⟩,.string ⟨fd.toArray⟩,.slice va gz.length vc,.int .u64 born,.int .u64 jM,.int .i64 tries] 40)=w1 at *
 generalize w.heap.size=q1 at *
 have c0:=bV.out.cell
 go_wp2_with fail
 refine (HM.out w1 _ bV.out).mono ?_
 rintro e w2 ⟨rfl,hx⟩
 have bX:=Lib.hid (bV.out.iq hx)
 clear hx c0 bV HM
 cases hm:dz ⟨id,dom,ep,cnt,(fl,fd),gz,born,jM,tries⟩ with
 | false =>
  rw [if_neg (by rw [hm];decide)] at HV
  clear hm
  go_wp2
  go_ret2
  rw [HV.out]
  exact ⟨rfl,bX.out.ext⟩
 | true =>
  rw [if_pos hm] at HV
  obtain ⟨p1,⟨p2,p3⟩,⟨p4,p4'⟩,p5,p6,p7,p8,p9,X6,⟨p11,p12⟩⟩:=HP.out hm
  dsimp only at p1 p2 p3 p4 p4' p5 p6 p7 p8 p9 X6 p11 p12
  obtain ⟨tn,rfl⟩:∃ tn:Nat,tries=tn:=⟨tries.toNat,by omega⟩
  obtain ⟨vb,vo,he⟩:∃ vb vo,va=some ⟨vb,vo,none⟩:=by
   obtain ⟨vb,vo,h1,_⟩:=HT.out.at (i:=0) p4
   exact ⟨vb,vo,h1⟩
  subst he
  have HB2:=Lib.hid (bX.out.Z8 203).ak
  have P5:=Lib.hid p5
  have P1:=Lib.hid p1
  have P2:=Lib.hid p2
  have P3:=Lib.hid p3
  have hid:(id:Int)≤1099511627776:=by omega
  have KQ:(ep:Int)≤1099511627776:=by omega
  have hcnt:(cnt:Int)≤1099511627776:=by omega
  have hborn:(born:Int)≤1099511627776:=by omega
  have adV:(jM:Int)≤1099511627776:=by omega
  have htn:(tn:Int)≤100:=by omega
  have hrl:(gz.length:Int)≤10:=by omega
  clear hm HP p1 p2 p3 p4 p4' p5 p6 p7 p8 p9 X6 p11 p12
  go_upto_region 4 with (fail)
  generalize w2.alloc (.cells #[.pointer none,.slice none 0 0] 203)=w3 at *
  generalize w2.heap.size=q4 at *
  obtain ⟨l3,hl3⟩:∃ l3:Bs,l3=[]:=⟨_,rfl⟩
  have bI:Hid (Sp w [] w3 (DN 203 q4 l3::ae q1 #[.int .u64 id,.string ⟨dom.toArray⟩,.int .u64 ep,.int .u64 cnt,.string ⟨fl.toArray⟩,.string ⟨fd.toArray⟩,.slice (some ⟨vb,vo,none⟩) gz.length vc,.int .u64 born,.int .u64 jM,.int .i64 tn] 40::[])):=by rw [hl3];exact Lib.hid HB2.out.ak
  have MQ:Hid (l3.length≤0):=by rw [hl3];exact Nat.le_refl 0
  have c3:=bI.out.ak.cell
  clear HB2 bX
  go_wp2_with fail
  refine (jv id bI.out (by have:=MQ.out;omega) (by omega)).mono ?_
  obtain ⟨l4,hl4⟩:∃ l4:Bs,l4=l3++bJ id:=⟨_,rfl⟩
  have XT:Hid (l4.length≤2000000):=by have h1:=MQ.out;have h2:=mQ id;rw [hl4,List.length_append];unfold Hid;omega
  rw [← hl4]
  rintro e w4 ⟨rfl,S⟩
  have c4:=S.ak.cell
  have gP:=Lib.hid S
  have Zl:=Lib.hid hl4
  clear S bI c3 hl4
  go_wp2_with fail
  refine (nD gP.out (by have:=XT.out;omega) (by have:=P1.out;omega)).mono ?_
  obtain ⟨l5,hl5⟩:∃ l5:Bs,l5=l4++aN dom:=⟨_,rfl⟩
  have XU:Hid (l5.length≤4000000):=by have h1:=XT.out;have h2:=lX (s:=dom) (by have:=P1.out;omega);rw [hl5,List.length_append];unfold Hid;omega
  rw [← hl5]
  rintro e w5 ⟨rfl,S⟩
  have c5:=S.ak.cell
  have gB:=Lib.hid S
  have HQ5:=Lib.hid hl5
  clear S gP c4 hl5
  go_wp2_with fail
  refine (jv ep gB.out (by have:=XU.out;omega) (by omega)).mono ?_
  obtain ⟨l6,Zm⟩:∃ l6:Bs,l6=l5++bJ ep:=⟨_,rfl⟩
  have Vr:Hid (l6.length≤6000000):=by have h1:=XU.out;have h2:=mQ ep;rw [Zm,List.length_append];unfold Hid;omega
  rw [← Zm]
  rintro e w6 ⟨rfl,S⟩
  have c6:=S.ak.cell
  have fG:=Lib.hid S
  have HQ6:=Lib.hid Zm
  clear S gB c5 Zm
  go_wp2_with fail
  refine (jv cnt fG.out (by have:=Vr.out;omega) (by omega)).mono ?_
  obtain ⟨l7,Zn⟩:∃ l7:Bs,l7=l6++bJ cnt:=⟨_,rfl⟩
  have XW:Hid (l7.length≤8000000):=by have h1:=Vr.out;have h2:=mQ cnt;rw [Zn,List.length_append];unfold Hid;omega
  rw [← Zn]
  rintro e w7 ⟨rfl,S⟩
  have c7:=S.ak.cell
  have jN:=Lib.hid S
  have HQ7:=Lib.hid Zn
  clear S fG c6 Zn
  go_wp2_with fail
  refine (nD jN.out (by have:=XW.out;omega) (by have:=P2.out;omega)).mono ?_
  obtain ⟨l8,WW⟩:∃ l8:Bs,l8=l7++aN fl:=⟨_,rfl⟩
  have Zo:Hid (l8.length≤10000000):=by have h1:=XW.out;have h2:=lX (s:=fl) (by have:=P2.out;omega);rw [WW,List.length_append];unfold Hid;omega
  rw [← WW]
  rintro e w8 ⟨rfl,S⟩
  have c8:=S.ak.cell
  have tV:=Lib.hid S
  have HQ8:=Lib.hid WW
  clear S jN c7 WW
  go_wp2_with fail
  refine (nD tV.out (by have:=Zo.out;omega) (by have:=P3.out;omega)).mono ?_
  obtain ⟨l9,Zp⟩:∃ l9:Bs,l9=l8++aN fd:=⟨_,rfl⟩
  have HL9:Hid (l9.length≤12000000):=by have h1:=Zo.out;have h2:=lX (s:=fd) (by have:=P3.out;omega);rw [Zp,List.length_append];unfold Hid;omega
  rw [← Zp]
  rintro e w9 ⟨rfl,S⟩
  have c9:=S.ak.cell
  have uj:=Lib.hid S
  have HQ9:=Lib.hid Zp
  clear S tV c8 Zp
  go_wp2_with fail
  refine (jv gz.length uj.out (by have:=HL9.out;omega) (by omega)).mono ?_
  obtain ⟨l10,Sr⟩:∃ l10:Bs,l10=l9++bJ (gz.length):=⟨_,rfl⟩
  have aav:Hid (l10.length≤14000000):=by have h1:=HL9.out;have h2:=mQ (gz.length);rw [Sr,List.length_append];unfold Hid;omega
  rw [← Sr]
  rintro e Po ⟨rfl,S⟩
  have c10:=S.ak.cell
  have zg:=Lib.hid S
  have X7:=Lib.hid Sr
  clear S uj c9 Sr
  have HFM:=Lib.hid (fun k=>KP (gz.take k) (fun x hx=>by have:=P5.out x (List.mem_of_mem_take hx);omega))
  go_wp2_with fail
  go_loopw [40] (fun DX wr=>∃ (k:Nat) (l:Bs),DX=.int .i64 k∧k≤gz.length∧l=l10++(gz.take k).flatMap Dt∧Sp w [] wr (DN 203 q4 l::ae q1 #[.int .u64 id,.string ⟨dom.toArray⟩,.int .u64 ep,.int .u64 cnt,.string ⟨fl.toArray⟩,.string ⟨fd.toArray⟩,.slice (some ⟨vb,vo,none⟩) gz.length vc,.int .u64 born,.int .u64 jM,.int .i64 tn] 40::[])) (fun DX _=>gz.length - (intOf DX).toNat)
  case atStart=>exact ⟨0,l10,rfl,Nat.zero_le _,by simp,zg.out⟩
  case round =>
   obtain ⟨k,Zq,rfl,hk,Vs,S1⟩:=hrel
   have hk':(k:Int)≤gz.length:=by omega
   have Su:=Lib.hid Vs
   have HK:=Lib.hid hk
   have Vt:Hid (Zq.length≤100000000):=by
    rw [Vs,List.length_append]
    have h1:=aav.out
    have h2:=HFM.out k
    have h3:(gz.take k).length≤10:=by rw [List.length_take];omega
    unfold Hid
    omega
   clear Vs zg c10 hk
   by_cases hlt:k<gz.length
   ·have hlt':(k:Int)<gz.length:=by omega
    obtain ⟨vb2,vo2,he,x0,x1,x2⟩:=(HT.out.ext S1.ext).at hlt
    cases he
    obtain ⟨y1,y2,y3,y4⟩:=P5.out gz[k] (List.getElem_mem hlt)
    have FQ:Hid (gz.take (k+1)=gz.take k++[gz[k]]):=List.take_succ_eq_append_getElem hlt
    generalize gz[k]=x at *
    obtain ⟨⟨xl,xd⟩,xs⟩:=x
    dsimp only at *
    obtain ⟨sn,rfl⟩:∃ sn:Nat,xs=sn:=⟨xs.toNat,by omega⟩
    have Y1:=Lib.hid y1
    have Y2:=Lib.hid y2
    have hsn:(sn:Int)≤2:=by omega
    have c20:=S1.ak.cell
    have Uv:=Lib.hid (S1.box #[.string ⟨xl.toArray⟩,.string ⟨xd.toArray⟩,.int .i64 sn] 100)
    clear y1 y2 y3 y4 S1 hlt
    go_upto_region 14 with (fail)
    generalize wr.alloc (.cells #[.string ⟨xl.toArray⟩,.string ⟨xd.toArray⟩,.int .i64 sn] 100)=w20 at *
    generalize wr.heap.size=q6 at *
    clear x0 x1 x2 c20
    have MS:=Lib.hid Uv.out.ak
    have c20:=MS.out.ak.cell
    clear Uv
    go_wp2_with fail
    refine (nD MS.out (by have:=Vt.out;omega) (by have:=Y1.out;omega)).mono ?_
    obtain ⟨Zr,Sv⟩:∃ Zr:Bs,Zr=Zq++aN xl:=⟨_,rfl⟩
    have X8:Hid (Zr.length≤102000000):=by have h1:=Vt.out;have h2:=lX (s:=xl) (by have:=Y1.out;omega);rw [Sv,List.length_append];unfold Hid;omega
    rw [← Sv]
    rintro e w21 ⟨rfl,S⟩
    have c21:=S.ak.cell
    have Pp:=Lib.hid S
    have aaw:=Lib.hid Sv
    clear S MS c20 Sv
    go_wp2_with fail
    refine (nD Pp.out (by have:=X8.out;omega) (by have:=Y2.out;omega)).mono ?_
    obtain ⟨Zt,Sw⟩:∃ Zt:Bs,Zt=Zr++aN xd:=⟨_,rfl⟩
    have X9:Hid (Zt.length≤104000000):=by have h1:=X8.out;have h2:=lX (s:=xd) (by have:=Y2.out;omega);rw [Sw,List.length_append];unfold Hid;omega
    rw [← Sw]
    rintro e w22 ⟨rfl,S⟩
    have c22:=S.ak.cell
    have Pq:=Lib.hid S
    have aax:=Lib.hid Sw
    clear S Pp c21 Sw
    go_wp2_with fail
    refine (jv sn Pq.out (by have:=X9.out;omega) (by omega)).mono ?_
    obtain ⟨Zu,Sy⟩:∃ Zu:Bs,Zu=Zt++bJ sn:=⟨_,rfl⟩
    have adZ:Hid (Zu.length≤106000000):=by have h1:=X9.out;have h2:=mQ sn;rw [Sy,List.length_append];unfold Hid;omega
    rw [← Sy]
    rintro e w23 ⟨rfl,S⟩
    have c23:=S.ak.cell
    have Sz:=Lib.hid S
    have aay:=Lib.hid Sy
    clear S Pq c22 Sy
    go_wp2_with fail
    go_roundw
    case rel=>exact ⟨k+1,Zu,by go_num,by omega,by rw [FQ.out,List.flatMap_append,aay.out,aax.out,aaw.out,Su.out];simp [Dt],(Sp.pick [_,_,_] [0,2] (by decide) (Sz.out))⟩
    case measure=>simp [intOf];omega
   ·obtain rfl:k=gz.length:=by have:=HK.out;omega
    have Ps:=Lib.hid S1
    have c30:=S1.ak.cell
    rw [List.take_length] at Su
    clear S1 hlt hk' HFM HT
    go_wp2_with fail
    go_loopw [65] (fun DX wr=>∃ (k:Nat) (l:Bs),DX=.int .i64 k∧k≤3∧l=Zq++([bJ born,bJ jM,bJ tn].take k).flatten∧Sp w [] wr (DN 203 q4 l::[])) (fun DX _=>3 - (intOf DX).toNat)
    case atStart=>exact ⟨0,Zq,rfl,Nat.zero_le _,by simp,(Sp.pick [_,_] [0] (by decide) (Ps.out))⟩
    case round =>
     obtain ⟨k,l40,rfl,hk,Vu,S1⟩:=hrel
     have Gi:=Lib.hid S1
     have Pt:=Lib.hid Vu
     have Vv:Hid (l40.length≤200000000):=by
      rw [Vu,List.length_append]
      have h1:=Vt.out
      have h2:=mQ born
      have h3:=mQ jM
      have h4:=mQ tn
      have h5:([bJ born,bJ jM,bJ tn].take k).flatten.length≤3000:=by
       rcases (by omega:k=0∨k=1∨k=2∨k=3) with rfl | rfl | rfl | rfl <;> simp <;> omega
      unfold Hid
      omega
     clear S1 Vu Ps c30
     by_cases h0:k=3
     ·subst h0
      have HN:Hid (l40≠[]):=by
       rw [Pt.out,Su.out,X7.out,HQ9.out,HQ8.out,HQ7.out,HQ6.out,HQ5.out,Zl.out]
       unfold Hid
       simp [bJ]
      have HE:Hid (dC ⟨id,dom,ep,cnt,(fl,fd),gz,born,jM,(tn:Int)⟩=l40):=by
       rw [HH.out,Pt.out,Su.out,X7.out,HQ9.out,HQ8.out,HQ7.out,HQ6.out,HQ5.out,Zl.out,hl3]
       unfold Hid
       simp
      go_wp2_with fail
      refine (uN Gi.out HN.out).mono ?_
      rintro e w41 ⟨rfl,S⟩
      have Jo:=Lib.hid S
      clear S Gi
      go_wp2
      go_ret2
      rw [HV.out,HE.out]
      exact ⟨rfl,Jo.out.ext⟩
     ·rcases (by omega:k=0∨k=1∨k=2) with rfl | rfl | rfl
      ·have hi:∀ W,(Instr.index 125 (.agg #[.int .u64 born,.int .u64 jM,.int .u64 tn]) (.int .i64 0)).run Tryz.prog W=.ok (.int .u64 born) W:=fun W=>MR _ _ _ 0 (by omega) W
       go_wp2_with fail
       refine (jv born Gi.out (by have:=Vv.out;omega) (by omega)).mono ?_
       rintro e w41 ⟨rfl,S⟩
       have Jo:=Lib.hid S
       clear S Gi
       go_wp2_with fail
       go_roundw
       case rel=>exact ⟨1,_,by go_num,by omega,by rw [Pt.out];simp,Jo.out⟩
       case measure=>simp [intOf]
      ·have hi:∀ W,(Instr.index 125 (.agg #[.int .u64 born,.int .u64 jM,.int .u64 tn]) (.int .i64 1)).run Tryz.prog W=.ok (.int .u64 jM) W:=fun W=>MR _ _ _ 1 (by omega) W
       go_wp2_with fail
       refine (jv jM Gi.out (by have:=Vv.out;omega) (by omega)).mono ?_
       rintro e w41 ⟨rfl,S⟩
       have Jo:=Lib.hid S
       clear S Gi
       go_wp2_with fail
       go_roundw
       case rel=>exact ⟨2,_,by go_num,by omega,by rw [Pt.out];simp,Jo.out⟩
       case measure=>simp [intOf]
      ·have hi:∀ W,(Instr.index 125 (.agg #[.int .u64 born,.int .u64 jM,.int .u64 tn]) (.int .i64 2)).run Tryz.prog W=.ok (.int .u64 tn) W:=fun W=>MR _ _ _ 2 (by omega) W
       go_wp2_with fail
       refine (jv tn Gi.out (by have:=Vv.out;omega) (by omega)).mono ?_
       rintro e w41 ⟨rfl,S⟩
       have Jo:=Lib.hid S
       clear S Gi
       go_wp2_with fail
       go_roundw
       case rel=>exact ⟨3,_,by go_num,by omega,by rw [Pt.out];simp,Jo.out⟩
       case measure=>simp [intOf]
end
end
end Go.Proofs.YtangbdahnmomlaaGreatDoor
