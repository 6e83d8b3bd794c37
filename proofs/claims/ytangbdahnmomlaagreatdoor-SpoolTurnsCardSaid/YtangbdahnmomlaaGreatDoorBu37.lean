/- slices.Sorted(maps.Keys(m)) over a map with keys of the kind uint64: maps.Keys, AppendSeq, Collect, Sorted. Conditions: the lengths fit. maps.Keys -/
import Derived.LoopIn
import Derived.LoopNIn
import Derived.OwnWalkIn
import Derived.RangeFuncCalls
import Derived.RangeFuncLeaves
import Derived.Shelf.Abstract
import Derived.Shelf.RegionOpen
import Derived.TacticsInMore
import Derived.Test.YtangbdahnmomlaaGreatDoorBu09
import Derived.Test.YtangbdahnmomlaaGreatDoorBu13
import Derived.Test.YtangbdahnmomlaaGreatDoorBu36
import Derived.WalkKit
set_option linter.unnecessarySimpa false
set_option linter.unusedSimpArgs false
set_option linter.unusedVariables false
set_option maxHeartbeats 2000000
set_option maxRecDepth 1000000
namespace Go.Proofs.YtangbdahnmomlaaGreatDoor
section
open Go.RowKit Go.Maps Go.Sort Go.Shelf
attribute [local go_sem] Oper.semAt_some
theorem tY {F:Fence} {n:Nat} {P:Program} {w w1:World} {ops:Array Oper} {rest:List Oper} {o:Oper} {a:Act} {Q:Exit→Act→World→Prop} {s x:Operand} {t:TypeId} {v u r:Value} (hgd:o.guard=none)
  (ho:o.op=.call { callee:=.builtin .append,args:=#[s,x],argTypes:=#[t,t] }) (hs:a.eval s=v) (hx:a.eval x=u)
  (hr:(Builtin.append_ #[t,t] o.type #[v,u]).run P w=.ok r w1) (h:wpListIn F n P ops Q rest (a.put o.dst r) w1):wpListIn F n P ops Q (o::rest) a w:=by
 refine wpListIn_plain hgd fun K hK=>?_
 unfold Oper.wpIn
 refine ⟨by simp [Oper.about,ho,resolve,Target.leads,Sem.run_pure],?_⟩
 rw [Oper.semAt_plain F _ _ (by rw [ho];intro c hc';cases hc')]
 simp [execOp,ho,resolve,invoke,builtin,hs,hx,hr,Result.andThen]
 exact hK _ _ h
theorem Ty:(Tryz.prog.info? 34).map (fun i=>(i.zero,i.size,i.bytes))=some (some (.int .u64 0),1,8):=by kernel_rfl
abbrev xQ (n:Nat):Value:=.int .u64 n
abbrev jK (v:Value) (l:List Nat):aT:=vE 34 1 v l.length (l.map xQ)
section
variable {w0 w:World} {F0:List Nat} {L:List aT} {v:Value} {b:Nat}
theorem Sp.Nr (ty:TypeId) {l:List Nat} (x:Nat) (hn:l.length<10000000000) (S:Sp w0 F0 w (ae b #[xQ x] 34::jK v l::L)) :
  ∃ g cap w2,(Builtin.append_ #[77,77] ty #[v,.slice (some ⟨b,0,none⟩) 1 1]).run Tryz.prog w=.ok (.slice (some ⟨g,0,none⟩) (l.length+1) cap) w2∧Sp w0 F0 w2 (jK (.slice (some ⟨g,0,none⟩) (l.length+1) cap) (l++[x])::L):=by
 obtain ⟨g,cap,w2,h1,S2⟩:=Sp.tq 77 ty #[xQ x] _ 8 Ty rfl Tryz.underlying77 (by decide) (by decide) rfl (by simp [Value.oneCell']) hn S
 refine ⟨g,cap,w2,h1,?_⟩
 have e1:(l++[x]).map xQ=l.map xQ++[xQ x]:=by simp
 have e2:(l++[x]).length=l.length+1:=by simp
 unfold jK
 rw [e1,e2]
 exact S2.drop
theorem Sp.oh {A K:List aT} (S:Sp w0 F0 w (A++K)):Sp w0 F0 w A:=Sp.drops K (S.perm List.perm_append_comm)
abbrev Ns (B:Nat) (l:List Nat):aT:=aT.ex fun v:Value=>(ae B #[v] 77).and (jK v l)
theorem Sp.Lf {q:Nat} {l:List Nat} (S:Sp w0 F0 w (ae q #[v] 77::jK v l::L)):Sp w0 F0 w (Ns q l::L):=Sp.jP (f:=fun v:Value=>(ae q #[v] 77).and (jK v l)) v S.glue
def o8 (x:Nat):Array Value:=#[.int .u64 x]
theorem JL (gf:Nat) (lb:Array Value) (eg:∀ args w,(callFunc gf args).run Tryz.prog w=.ok (.enter gf args) w) {K0:List aT} {Y T:List Nat→Prop} (hY:∀ xs,Y xs→xs.length≤1000000)
  (hseq:∀ A:List Nat→List aT,Cr Fence.wide 5 Tryz.prog gf lb o8 w0 F0 A (K0++L) Y T) (S:Sp w0 F0 w (K0++L)) :
  CallsIn Fence.wide 6 Tryz.prog 86 #[.slice none 0 0,.func (.func gf) #[] lb] w fun e w2=>∃ v xs,e=.returned v∧T xs∧Sp w0 F0 w2 (jK v xs::(K0++L)):=by
 have HS:=Lib.hid S
 clear S
 refine callsIn_of_wp_marks Tryz.func86 rfl trivial ?_ rfl
 simp only [Tryz.ntmps86,List.size_toArray,List.length_cons,List.length_nil,Nat.reduceAdd,Nat.reduceSub,Array.replicate_succ,Array.replicate_zero,List.push_toArray,List.append_toArray,List.nil_append,List.cons_append]
 gi_wp2
 have S0:Hid (Sp w0 F0 (w.alloc (.cells #[.slice none 0 0] 77)) (Ns w.heap.size []::(K0++L))):=Sp.Lf (v:=.slice none 0 0) ((HS.out.Dv 34 1).box #[.slice none 0 0] 77)
 generalize w.alloc (.cells #[.slice none 0 0] 77)=W0 at *
 generalize w.heap.size=q at *
 refine ku (α:=Nat) (β:=Unit) rfl (by omega) (gf:=gf) (lb:=lb) rfl trivial eg (encs:=o8) (fun _=>rfl) (A:=fun pre=>[Ns q pre]) (hseq _) (fun _ _=>[]) (fun _ _=>False) S0.out
  (fun x=>{ tmps:=#[.slice none 0 0,.func (.func gf) #[] lb,.pointer (some ⟨q,0,none⟩),undef,.slice none 0 0,.int .u64 x,.func (.func gf) #[] lb,.int .u64 x,undef,undef,undef,undef,undef],defers:=[] }) ?assign ?body ?done ?stop
 case assign =>
  intro l x W K hK
  unfold o8
  gi_wp2
  exact hK
 case body =>
  intro l pre x K W hy hS
  have hlen:=hY _ hy
  rw [List.length_append,List.length_singleton] at hlen
  obtain ⟨v,S1⟩:=Sp.mD (show Sp w0 F0 W (Ns q pre::K) from hS)
  have S2:=S1.part
  have c2:=S2.cell
  have l2:=S2.x8
  obtain ⟨g,cap,w2,hr,S3⟩:=(((Sp.pick [_,_,_] [0,2,1] (by decide) ((S2.box #[xQ x] 34))))).Nr 77 x (by omega)
  obtain ⟨n1,hn1⟩:∃ n1,pre.length+1=n1:=⟨_,rfl⟩
  rw [hn1] at hr S3
  have pV:=Lib.hid hr
  have c3:=S3.ak.cell
  have f3:=S3.ak.free
  have gP:=Lib.hid ((S3.ak.set (o:=0) (.slice (some ⟨g,0,none⟩) n1 cap)))
  rcases S2.ak.jr with ⟨rfl,h0⟩ | ⟨g0,cap0,rfl⟩
  all_goals
   clear S1 S2 S3 hS hy hlen hr hn1
   gi_wp2_with (gi_at_builtin;refine tY (by rfl) (by rfl) (by rfl) (by rfl) pV.out ?_)
   show Sp w0 F0 _ (Ns q (pre++[x])::K)
   exact Sp.Lf (v:=.slice (some ⟨g,0,none⟩) n1 cap) gP.out
 case done =>
  intro D xs K W hT hS
  have HD:=Lib.hid hS
  obtain ⟨v,S1⟩:=Sp.mD (show Sp w0 F0 W (Ns q xs::gY D (.deferred (some []))::((K0++L)++K)) from hS.ak)
  have S2:=S1.part
  have c2:=S2.cell
  have hK:=hS.oQ
  have bI:=Lib.hid ((Sp.pick [_,_,_] [2,1] (by decide) (S2))).ak
  have gP:=Lib.hid (((Sp.pick [_,_,_] [2,1] (by decide) (S2))).mF (.deferred none))
  rcases S2.ak.jr with ⟨rfl,h0⟩ | ⟨g0,cap0,rfl⟩
  all_goals
   clear S1 S2 hS HD
   gi_wp2
   refine ⟨by simp,.inl ⟨_,_,rfl,run_takeDeferred hK,?_⟩⟩
   have h:Sp w0 F0 _ (jK _ xs::((K0++L)++K)):=gP.out.drop
   exact ⟨_,results_tmp rfl _ _ _,_,xs,rfl,hT,Sp.oh (A:=jK _ xs::(K0++L)) h⟩
 case stop =>
  intro D c y K W h
  exact h.elim
theorem G5 (gf:Nat) (lb:Array Value) (eg:∀ args w,(callFunc gf args).run Tryz.prog w=.ok (.enter gf args) w) {K0:List aT} {Y T:List Nat→Prop} (hY:∀ xs,Y xs→xs.length≤1000000)
  (hseq:∀ A:List Nat→List aT,Cr Fence.wide 5 Tryz.prog gf lb o8 w0 F0 A (K0++L) Y T) (S:Sp w0 F0 w (K0++L)) :
  Calls Tryz.prog 55 #[.func (.func gf) #[] lb] w fun e w2=>∃ v xs,e=.returned v∧T xs∧Sp w0 F0 w2 (jK v xs::(K0++L)):=by
 have HA:=Lib.hid (callsIn_wide.1 (JL gf lb eg hY hseq S))
 clear S hseq
 go_enter Tryz.func55,Tryz.ntmps55
 go_wp2_with fail
 refine HA.out.mono ?_
 rintro e w2 ⟨v,xs,rfl,hT,S⟩
 have HS:=Lib.hid S
 rcases S.jr with ⟨rfl,h0⟩ | ⟨g0,cap0,rfl⟩
 all_goals
  clear S HA
  go_wp2_with fail
  go_ret
  exact ⟨_,xs,rfl,hT,HS.out⟩
theorem Qk (S:Sp w0 F0 w L):Calls Tryz.prog 108 #[.slice none 0 0] w fun e w2=>e=.returned (.tuple #[])∧Sp w0 F0 w2 L:=by
 have HS:=Lib.hid S
 have HB:=Lib.hid (Tryz.bits_Len 0 w (by omega) (by omega))
 have HI:Hid (∀ w':World,Calls Tryz.prog 183 #[.slice none 0 0,.int .i64 0,.int .i64 0] w' fun e w2=>e=.returned (.tuple #[])∧w'=w2):=by
  intro w'
  go_enter Tryz.func183,Tryz.ntmps183
  go_wp2_with fail
  go_loopw [6] (fun vi wr=>vi=.int .i64 1∧w'=wr) (fun vi _=>0)
  case atStart=>exact ⟨rfl,rfl⟩
  case round =>
   obtain ⟨rfl,rfl⟩:=hrel
   go_wp2_with fail
   go_end0
   exact ⟨rfl,rfl⟩
 have HP:Hid (∀ (l:Nat) (w':World),Calls Tryz.prog 148 #[.slice none 0 0,.int .i64 0,.int .i64 0,.int .i64 l] w' fun e w2=>e=.returned (.tuple #[])∧w'=w2):=by
  intro l w'
  go_enter Tryz.func148,Tryz.ntmps148
  go_wp2_with fail
  go_loopw [1,2] (fun va vb wr=>va=.int .i64 0∧vb=.int .i64 0∧w'=wr) (fun va vb _=>0)
  case atStart=>exact ⟨rfl,rfl,rfl⟩
  case round =>
   obtain ⟨rfl,rfl,rfl⟩:=hrel
   go_wp2_with fail
   refine (HI.out _).mono ?_
   rintro e w2 ⟨rfl,rfl⟩
   go_wp2_with fail
   first | go_end0 | refine bodyPost_ret (results_none rfl _ _ _) rfl ?_
   exact ⟨rfl,rfl⟩
 generalize Lib.bitLen (Int.toNat 0)=bl at *
 clear S HI
 go_enter Tryz.func108,Tryz.ntmps108
 go_wp2_with fail
 refine HB.out.mono ?_
 rintro e w2 ⟨rfl,rfl⟩
 go_wp2_with fail
 refine (HP.out _ _).mono ?_
 rintro e w3 ⟨rfl,rfl⟩
 go_wp2_with fail
 go_end0
 exact ⟨rfl,HS.out⟩
theorem Sp.Wl {g cap:Nat} {l:List Nat} (S:Sp w0 F0 w (jK (.slice (some ⟨g,0,none⟩) l.length cap) l::L)):∃ J:Array Value,(wQ l.toArray J).size=cap∧l.length≤cap∧cap≤maxLen∧Sp w0 F0 w (fB g 34 l.toArray J::L):=by
 obtain ⟨F,⟨rfl,h⟩,hk⟩:=S.take
 rcases h.2 with ⟨h1,h2⟩ | ⟨g2,cap2,cur,h1,h2,h3,h4,h5,h6,h7⟩
 ·cases h1
 ·cases h1
  have e:cur=wQ l.toArray (cur.toList.drop l.length).toArray:=by
   apply Array.ext'
   unfold wQ
   have:=List.take_append_drop l.length cur.toList
   rw [← this,show cur.toList.take l.length=l.map xQ by rw [← h7];simp]
   simp
  have hsz:cur.size=cap:=by simpa using h6
  refine ⟨_,by rw [← e];exact hsz,by simpa using h4,h5,hk w _ [g] ⟨rfl,?_⟩ (cB.refl _ w)⟩
  rw [← e]
  exact h3
theorem Sp.Wm {g cap:Nat} {l:List Nat} {J:Array Value} (S:Sp w0 F0 w (fB g 34 l.toArray J::L)) (h1:(wQ l.toArray J).size=cap) (h2:l.length≤cap) (h3:cap≤maxLen):Sp w0 F0 w (jK (.slice (some ⟨g,0,none⟩) l.length cap) l::L):=by
 obtain ⟨F,⟨rfl,h⟩,hk⟩:=S.take
 refine hk w _ [g] ⟨rfl,by simp,.inr ⟨g,cap,_,rfl,Nat.zero_le _,h,h2,h3,by simpa using h1,?_⟩⟩ (cB.refl _ w)
 unfold wQ
 simp
theorem Nt (d:Array Nat) (J:Array Value):(wQ d J).size=d.size+J.size:=by simp [wQ]
theorem Tz (gf:Nat) (lb:Array Value) (eg:∀ args w,(callFunc gf args).run Tryz.prog w=.ok (.enter gf args) w) {K0:List aT} {Y T:List Nat→Prop} (hY:∀ xs,Y xs→xs.length≤1000000) (hT:∀ xs,T xs→xs.length≤1000000)
  (hseq:∀ A:List Nat→List aT,Cr Fence.wide 5 Tryz.prog gf lb o8 w0 F0 A (K0++L) Y T) (S:Sp w0 F0 w (K0++L)) :
  Calls Tryz.prog 72 #[.func (.func gf) #[] lb] w fun e w2=>∃ v xs,e=.returned v∧T xs∧Sp w0 F0 w2 (jK v (mK xs)::(K0++L)):=by
 have HC:=Lib.hid (G5 gf lb eg hY hseq S)
 clear S hseq
 go_enter Tryz.func72,Tryz.ntmps72
 go_wp2_with fail
 refine HC.out.mono ?_
 rintro e w2 ⟨v,xs,rfl,hx,S⟩
 have hl:=hT xs hx
 rcases S.jr with ⟨rfl,h0⟩ | ⟨g0,cap0,rfl⟩
 ·have hxs:xs=[]:=List.eq_nil_of_length_eq_zero h0
  subst hxs
  have HN:=Lib.hid (Qk S)
  clear S HC
  go_wp2_with fail
  refine HN.out.mono ?_
  rintro e w3 ⟨rfl,S⟩
  have HS:=Lib.hid S
  clear S HN
  go_wp2_with fail
  go_ret
  exact ⟨.slice none 0 0,[],rfl,hx,by rw [show mK []=[] by simp [mK]];exact HS.out⟩
 ·obtain ⟨J,h1,h2,h3,S2⟩:=S.Wl
  have HN:=Lib.hid (YA (cap:=cap0) xs hl S2)
  have HL:Hid ((mK xs).length=xs.length):=List.length_mergeSort _
  have H1:Hid ((wQ (mK xs).toArray J).size=cap0):=by unfold Hid;rw [Nt] at h1 ⊢;simp only [List.size_toArray] at h1 ⊢;rw [HL.out];exact h1
  have H2:=Lib.hid h2
  have H3:=Lib.hid h3
  have HX:=Lib.hid hx
  clear S S2 HC h1 h2 h3 hx
  obtain ⟨n,hn⟩:∃ n,xs.length=n:=⟨_,rfl⟩
  have Zj:=Lib.hid hn
  rw [hn] at HN ⊢
  clear hn hl
  go_wp2_with fail
  refine HN.out.mono ?_
  rintro e w3 ⟨rfl,S⟩
  have h:=S.Wm H1.out (by rw [HL.out];exact H2.out) H3.out
  rw [HL.out,Zj.out] at h
  have HS:=Lib.hid h
  clear S HN h
  go_wp2_with fail
  go_ret
  exact ⟨.slice (some ⟨g0,0,none⟩) n cap0,xs,rfl,HX.out,HS.out⟩
end
end
section
open Go.RowKit Go.Maps Go.Sort Go.Shelf
attribute [local go_sem] Oper.semAt_some
theorem Lg {A Z:List aT} {x y:aT}:(A++x::y::Z).Perm (x::y::(A++Z)):=List.perm_middle.trans ((List.perm_middle).cons x)
section
variable {w0 w:World} {F0:List Nat} {L:List aT} {b:Nat} {V:Type} {enc:V→Value} {M:Mn V}
theorem Ql (b:Nat) (S:Sp w0 F0 w L):Calls Tryz.prog 73 #[.map (some b)] w fun e w2=>∃ g,e=.returned (.func (.func 109) #[] #[.pointer (some ⟨g,0,none⟩)])∧Sp w0 F0 w2 (ae g #[.map (some b)] 88::L):=by
 have HS:=Lib.hid (S.box #[.map (some b)] 88)
 clear S
 go_enter Tryz.func73,Tryz.ntmps73
 go_wp2_with fail
 go_ret
 exact ⟨_,rfl,HS.out⟩
theorem keysIter (g:Nat) (A:List Nat→List aT):Cr Fence.wide 5 Tryz.prog 109 #[.pointer (some ⟨g,0,none⟩)] o8 w0 F0 A ([ae g #[.map (some b)] 88,aY 34 enc b M]++L) (fun xs=>xs.length≤M.length) (fun xs=>xs.Perm (M.map (·.1))):=by
 intro l K1 X W S hY
 have S1:Sp w0 F0 W (ae g #[.map (some b)] 88::aY 34 enc b M::(A []++(L++K1))):=S.perm Lg
 obtain ⟨w1,cnt,hrange,S2⟩:=(S1.ak).Ay (t:=88) (int_keyed Tryz.underlying34) Tryz.underlying88
 have cg:=S1.cell
 have HS2:=Lib.hid S2.ak
 generalize W.heap.size=r at *
 have HY:=Lib.hid hY
 clear S S1 S2 hY
 refine callsIn_of_wp Tryz.func109 rfl trivial ?_ rfl
 simp only [Tryz.ntmps109,List.size_toArray,List.length_cons,List.length_nil,Nat.reduceAdd,Nat.reduceSub,Array.replicate_succ,Array.replicate_zero,List.push_toArray,List.append_toArray,List.nil_append,List.cons_append]
 gi_wp2
 gi_loopw [3] (fun _ wr=>∃ (pre:List Nat) (N:Mn V) (cnt:Nat),(pre++N.map (·.1)).Perm (M.map (·.1))∧Sp w0 F0 wr (ae g #[.map (some b)] 88::gX 34 enc b r M N cnt::(A pre++(L++K1)))) (fun _ wr=>wr.rangeLeft b r)
 case atStart=>exact ⟨[],M,cnt,by simp,HS2.out⟩
 case round =>
  clear HS2 hrange cg
  obtain ⟨pre,N,cnt,hp,S⟩:=hrel
  have hleft:=S.ak.uO.left_eq
  have HP:=Lib.hid hp
  rcases S.ak.Az Tryz.underlying34 with ⟨hN,hnext⟩ | ⟨x,c,w2,N1,cnt1,h1,h2,h3,hnext,S3,h5,h6,abk⟩
  ·subst hN
   have HS:=Lib.hid S
   clear S hleft hp
   gi_wp2
   go_end0
   exact ⟨⟨_,rfl⟩,.inl ⟨pre,by simpa using HP.out,(HS.out.ak.Mi.ak).perm Lg.symm⟩⟩
  ·have hpx:((pre++[x])++N1.map (·.1)).Perm (M.map (·.1)):=by
    refine List.Perm.trans ?_ hp
    rw [List.append_assoc]
    refine List.Perm.append_left pre ?_
    simpa using (h1.map (·.1)).symm
   have hlen:(pre++[x]).length≤M.length:=by
    have:=hpx.length_eq
    rw [List.length_append,List.length_map,List.length_map] at this
    omega
   obtain ⟨fn,tmps,assign,body,hy,hR⟩:=HY.out pre x ([ae g #[.map (some b)] 88,gX 34 enc b r M N1 cnt1]++L) w2 hlen ((S3.ak).perm Lg.symm)
   have HPX:=Lib.hid hpx
   dsimp only [o8] at hy
   clear S S3 hp hpx hlen h1 h2 h6
   gi_wp2
   refine hR.mono ?_
   rintro e W3 (⟨rfl,S3⟩ | ⟨rfl,hX⟩)
   ·have S4:Sp w0 F0 W3 (ae g #[.map (some b)] 88::gX 34 enc b r M N1 cnt1::(A (pre++[x])++(L++K1))):=S3.perm Lg
    have hl2:=S4.ak.uO.left_eq
    have gP:=Lib.hid S4
    clear S3 S4 hR hy
    gi_wp2
    go_roundw
    case rel=>exact ⟨pre++[x],N1,cnt1,HPX.out,gP.out⟩
    case measure=>rw [hl2,hleft];exact h5
   ·clear hR hy
    gi_wp2
    refine bodyPost_ret (results_none rfl _ _ _) rfl ?_
    exact ⟨⟨_,rfl⟩,.inr hX⟩
end
end
end Go.Proofs.YtangbdahnmomlaaGreatDoor
