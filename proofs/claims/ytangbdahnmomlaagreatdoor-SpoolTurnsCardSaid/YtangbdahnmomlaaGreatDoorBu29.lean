/- spool: its parts; a row's bytes, and what bytes are read as. Conditions: the lengths fit. spool: know, file, away. Conditions: the lengths fit. -/
import Derived.Test.YtangbdahnmomlaaGreatDoorBu20
import Derived.Test.YtangbdahnmomlaaGreatDoorBu25
import Derived.Test.YtangbdahnmomlaaGreatDoorBu28
set_option linter.unnecessarySimpa false
set_option linter.unusedSimpArgs false
set_option linter.unusedVariables false
set_option maxHeartbeats 1000000
set_option maxRecDepth 100000
namespace Go.Proofs.YtangbdahnmomlaaGreatDoor
section
open Go.RowKit Go.Maps
structure nS where
 s:Nat
 d:Nat
 b:Nat
 l:Nat
 r:Nat
 m:Nat
def jG (b:Nat):Bx→aT
 | .real=>yQ b
 | .eT D T=>rY b D T
def aA (P:nS) (ai:Bs) (last:Nat):Array Value:=#[.pointer (some ⟨P.d,0,none⟩),.pointer (some ⟨P.b,0,none⟩),.string ⟨ai.toArray⟩,.pointer (some ⟨P.l,0,none⟩),.pointer (some ⟨P.r,0,none⟩),.map (some P.m),.int .u64 last]
def ay (P:nS) (c:Sc) (Q:Sq) (L:List aT):List aT:=ae P.s (aA P c.ai Q.last) 90::aY 34 aJ.agg P.m Q.rows::aF P.d Q.D::jG P.b Q.B::dP P.l P.d c.step c.most Q.led::bz P.r P.d Q.ring::L
section
variable {w0 w:World} {F0:List Nat} {L:List aT}
theorem PW (id:Nat) (r:aJ) (S:Sp w0 F0 w L) (hi:id<18446744073709551616) (hd:r.dom.length≤1000000) (he:r.ep<18446744073709551616) (hc:r.cnt<18446744073709551616) :
  Calls Tryz.prog 79 #[r.agg,.int .u64 id] w fun e w2=>e=.returned (.string ⟨(bP id r).toArray⟩)∧Sp w0 F0 w2 L:=by
 obtain ⟨d,n,o⟩:=r
 have HT:Hid (bP id ⟨d,n,o⟩=aN (bJ id++aN d++bJ n++bJ o)):=rfl
 dsimp only at *
 have HI:=Lib.hid hi
 have HD:=Lib.hid hd
 have HN:=Lib.hid he
 have HO:=Lib.hid hc
 have l0:=aL id
 have l1:=aP d
 have l2:=aL n
 have l3:=aL o
 have HL:Hid ((bJ id).length≤9∧(bJ id++aN d).length≤1000018∧(bJ id++aN d++bJ n).length≤1000027∧(bJ id++aN d++bJ n++bJ o).length≤1000036):=by refine ⟨by omega,?_,?_,?_⟩ <;> simp only [List.length_append] <;> omega
 have S0:=Lib.hid ((S.box #[.string ⟨d.toArray⟩,.int .u64 n,.int .u64 o] 107).Z8 203)
 clear hi hd he hc l0 l1 l2 l3 S
 go_enter Tryz.func79,Tryz.ntmps79
 go_wp2_with fail
 simp only [World.size_alloc] at S0
 refine (jv id S0.out (by decide) HI.out).mono ?_
 rintro e w0 ⟨rfl,S1⟩
 have c:=S1.ak.cell
 have bV:=Lib.hid S1
 clear S1 S0
 go_wp2_with fail
 refine (nD bV.out (by have:=HL.out;simp only [List.nil_append];omega) (by have:=HD.out;omega)).mono ?_
 rintro e w1 ⟨rfl,S1⟩
 have c1:=S1.ak.cell
 have bX:=Lib.hid S1
 clear S1 bV c
 go_wp2_with fail
 refine (jv n bX.out (by have:=HL.out;simp only [List.nil_append];omega) HN.out).mono ?_
 rintro e w2 ⟨rfl,S2⟩
 have c2:=S2.ak.cell
 have HS2:=Lib.hid S2
 clear S2 bX c1
 go_wp2_with fail
 refine (jv o HS2.out (by have:=HL.out;simp only [List.nil_append];omega) HO.out).mono ?_
 rintro e w3 ⟨rfl,S3⟩
 have bI:=Lib.hid S3
 clear S3 HS2 c2
 go_wp2_with fail
 refine (uN bI.out (by simp [aN,bJ])).mono ?_
 rintro e w4 ⟨rfl,S4⟩
 have gP:=Lib.hid S4.drop
 clear S4 bI
 go_wp2_with fail
 refine (oU gP.out _ (by have:=HL.out.2.2.2;simp only [List.length_append,List.nil_append] at this ⊢;omega)).mono ?_
 rintro e w5 ⟨rfl,S5⟩
 have gB:=Lib.hid S5
 clear S5 gP
 go_wp2
 go_ret
 exact ⟨by rw [HT.out];simp only [List.append_assoc];rfl,gB.out⟩
theorem Tt (b:Nat) (r:Rd) (S:Sp w0 F0 w (xC 151 b r::L)) (hr:r.s.length≤1000000000) :
  Calls Tryz.prog 65 #[.pointer (some ⟨b,0,none⟩)] w fun e w2=>e=.returned (.tuple #[.int .u64 (dO r).1,(dO r).2.1.agg,.bool (dO r).2.2.1])∧Sp w0 F0 w2 (xC 151 b (dO r).2.2.2::L):=by
 have HE:Hid (dO r=((Rd.num ⟨(r.text 400).1,false⟩ 1099511627776).1,⟨((Rd.num ⟨(r.text 400).1,false⟩ 1099511627776).2.text 255).1,(((Rd.num ⟨(r.text 400).1,false⟩ 1099511627776).2.text 255).2.num 1099511627776).1,((((Rd.num ⟨(r.text 400).1,false⟩ 1099511627776).2.text 255).2.num 1099511627776).2.num 1099511627776).1⟩,decide (((((Rd.num ⟨(r.text 400).1,false⟩ 1099511627776).2.text 255).2.num 1099511627776).2.num 1099511627776).2.done=0),(r.text 400).2)):=rfl
 have HR:=Lib.hid hr
 have S0:=Lib.hid (S.box #[.string ⟨#[]⟩,.int .u64 0,.int .u64 0] 107).ak
 clear S hr
 go_enter Tryz.func65,Tryz.ntmps65
 go_wp2_with fail
 refine (lF 400 400 rfl S0.out (by have:=HR.out;omega) (by decide)).mono ?_
 rintro e w1 ⟨rfl,S1⟩
 have HT:=Lib.hid (ic r 400).2.2
 have bX:=Lib.hid S1
 clear S1 S0
 generalize r.text 400=a at *
 obtain ⟨t,r1⟩:=a
 dsimp only at *
 go_wp2_with fail
 refine (yx bX.out t).mono ?_
 rintro e w2 ⟨q,rfl,S2⟩
 have HS2:=Lib.hid S2
 clear S2 bX
 go_wp2_with fail
 refine (kT 1099511627776 1099511627776 rfl HS2.out (by have:=HT.out;have:=HR.out;dsimp only;omega)).mono ?_
 rintro e w3 ⟨rfl,S3⟩
 have HT3:=Lib.hid (jq ⟨t,false⟩ 1099511627776).1
 have bI:=Lib.hid S3
 clear S3 HS2
 generalize Rd.num ⟨t,false⟩ 1099511627776=a at *
 obtain ⟨i,r2⟩:=a
 dsimp only at *
 go_wp2_with fail
 refine (lF 255 255 rfl bI.out (by have:=HT3.out;have:=HT.out;have:=HR.out;omega) (by decide)).mono ?_
 rintro e w4 ⟨rfl,S4⟩
 have Xb:=Lib.hid (ic r2 255).1
 generalize r2.text 255=a at *
 obtain ⟨d,r3⟩:=a
 dsimp only at *
 have CR:=S4.box #[.string ⟨d.toArray⟩,.int .u64 0,.int .u64 0] 107
 have gP:=Lib.hid CR
 clear S4 CR bI
 go_upto_region 4 with (fail)
 generalize w4.alloc _=w5 at *
 generalize w4.heap.size=q7 at *
 go_wp2_with fail
 refine (kT 1099511627776 1099511627776 rfl gP.out.ak (by have:=Xb.out;have:=HT3.out;have:=HT.out;have:=HR.out;omega)).mono ?_
 rintro e w6 ⟨rfl,S5⟩
 have HT5:=Lib.hid (jq r3 1099511627776).1
 generalize r3.num 1099511627776=a at *
 obtain ⟨n,r4⟩:=a
 dsimp only at *
 have S5:=S5.ak
 have c5:=S5.cell
 have f5:=S5.free
 have gB:=Lib.hid (S5.set (o:=1) (.int .u64 n))
 simp only [List.setIfInBounds_toArray,List.set_cons_zero,List.set_cons_succ] at gB
 clear S5 gP
 go_upto_region 5 with (fail)
 generalize w6.setCell _ _=w7 at *
 clear c5 f5
 go_wp2_with fail
 refine (kT 1099511627776 1099511627776 rfl gB.out.ak (by have:=HT5.out;have:=Xb.out;have:=HT3.out;have:=HT.out;have:=HR.out;omega)).mono ?_
 rintro e w8 ⟨rfl,S6⟩
 generalize r4.num 1099511627776=a at *
 obtain ⟨o,r5⟩:=a
 dsimp only at *
 have S6:=S6.ak
 have c6:=S6.cell
 have f6:=S6.free
 have fG:=Lib.hid (S6.set (o:=2) (.int .u64 o))
 simp only [List.setIfInBounds_toArray,List.set_cons_zero,List.set_cons_succ] at fG
 clear S6 gB
 go_upto_region 6 with (fail)
 generalize w8.setCell _ _=w9 at *
 clear c6 f6
 generalize w.heap.size=g3 at *
 have c7:=fG.out.cell
 have c3:=fG.out.nV.cell
 have f3:=fG.out.nV.free
 go_region_with (go_at_call 97;refine (DR fG.out.drew.ak).mono ?_;rintro e w2 ⟨rfl,rfl⟩)
 all_goals
  go_wp2
  have S7:=(((fG.out.nV.set (o:=0) (.string ⟨d.toArray⟩)).set (o:=1) (.int .u64 n)).set (o:=2) (.int .u64 o)).drew
  generalize (((w9.setCell ⟨g3,0,none⟩ (.string ⟨d.toArray⟩)).setCell ⟨g3,1,none⟩ (.int .u64 n)).setCell ⟨g3,2,none⟩ (.int .u64 o)).drew=W2 at *
  have c8:=S7.cell
  have jN:=Lib.hid S7
  clear S7 fG c7 c3 f3
  refine bodyPost_ret (v:=.tuple #[.int .u64 i,.agg #[.string ⟨d.toArray⟩,.int .u64 n,.int .u64 o],.bool (decide (r5.done=0))]) ?_ rfl ⟨by rw [HE.out],by rw [HE.out];exact (Sp.pick [_,_,_,_] [3] (by decide) (jN.out))⟩
  simp [results,Tryz.results65,go_sem,c8]
  rfl
end
end
section
open Go.RowKit Go.Maps
theorem nJ:Keyed Tryz.prog 34:=int_keyed Tryz.underlying34
theorem oP (n:Nat) (h:n<18446744073709551616):keyOf Tryz.prog 34 (.int .u64 n)=some (jD n):=aab Tryz.underlying34 n h
theorem nK (w:World):(zeroValue 107).run Tryz.prog w=.ok (aJ.agg ⟨[],0,0⟩) w:=by kernel_rfl
section
variable {w0 w:World} {F0:List Nat} {K:List aT} {P:nS} {m:Bs} {last:Nat} {M:Mn aJ}
theorem Em (id:Nat) (r:aJ) (hi:id<18446744073709551616) (hM:M.length<maxLen) (S:Sp w0 F0 w (ae P.s (aA P m last) 90::aY 34 aJ.agg P.m M::K)) :
  Calls Tryz.prog 66 #[.pointer (some ⟨P.s,0,none⟩),.int .u64 id,r.agg] w fun e w2=>e=.returned (.tuple #[])∧Sp w0 F0 w2 (ae P.s (aA P m (max last id)) 90::aY 34 aJ.agg P.m (dU M id r)::K):=by
 obtain ⟨d,n,o⟩:=r
 have HV:Hid (dU M id ⟨d,n,o⟩=if n=0 then M.del id else M.put id ⟨d,n,o⟩):=rfl
 have hmax:(max (last:Int) (id:Int))=((max last id:Nat):Int):=by omega
 unfold aA at *
 have S1:=(S.box #[.string ⟨d.toArray⟩,.int .u64 n,.int .u64 o] 107).ak
 have S2:=S1.set (o:=6) (.int .u64 (max last id:Nat))
 simp only [List.setIfInBounds_toArray,List.set_cons_zero,List.set_cons_succ] at S2
 have c0:=S1.cell
 have f0:=S1.free
 have c5:=S1.ak.cell
 have HS:=Lib.hid S2
 have HM:=Lib.hid hM
 have HI:=Lib.hid hi
 clear S S1 S2 hM hi
 go_enter Tryz.func66,Tryz.ntmps66
 by_cases hn:n=0
 ·have hV:Hid (dU M id ⟨d,n,o⟩=M.del id):=by unfold Hid;rw [HV.out,if_pos hn]
  have hb:((n:Int) == 0)=true:=by simpa using hn
  obtain ⟨w2,hrun,S2,_⟩:=HS.out.dJ.RJ (t:=88) nJ Tryz.underlying88 (oP id HI.out)
  have HS2:=Lib.hid S2
  have c5:=HS.out.cell 5
  clear S2 HS hn
  go_wp2_with fail
  go_end0
  exact ⟨rfl,by rw [hV.out];exact (Sp.pick [_,_,_] [1,0] (by decide) (HS2.out))⟩
 ·have hV:Hid (dU M id ⟨d,n,o⟩=M.put id ⟨d,n,o⟩):=by unfold Hid;rw [HV.out,if_neg hn]
  have hb:((n:Int) == 0)=false:=by simpa using hn
  obtain ⟨w2,hrun,S2,_⟩:=HS.out.dJ.drew.Ky (t:=88) nJ Tryz.underlying88 HM.out (oP id HI.out) ⟨d,n,o⟩
  have HS2:=Lib.hid S2
  have c5b:=HS.out.cell 5
  have c7:=HS.out.ak.cell
  clear S2 HS hn
  go_wp2_with fail
  go_region
  all_goals
   go_wp2
   go_end0
   exact ⟨rfl,by rw [hV.out];exact (Sp.pick [_,_,_] [1,0] (by decide) (HS2.out))⟩
end
def aJ.fit (r:aJ):Prop:=r.dom.length≤255∧r.ep≤1099511627776∧r.cnt≤1099511627776
def RowsFit (M:Mn aJ):Prop:=∀ p∈M,p.1≤1099511627776∧p.2.fit
theorem Mn.get_mem {V:Type} {M:Mn V} {k:Nat} {v:V} (h:M.get k=some v):(k,v)∈M:=by
 unfold Mn.get at h
 simp only [Option.map_eq_some_iff] at h
 obtain ⟨⟨a,b⟩,h1,rfl⟩:=h
 have h2:=List.find?_some h1
 simp only [beq_iff_eq] at h2
 subst h2
 exact List.mem_of_find?_eq_some h1
theorem o6 {M:Mn aJ} (h:RowsFit M) (id:Nat):(rowAt M id).fit:=by
 unfold rowAt
 cases hg:M.get id with
 | none=>exact ⟨by decide,by decide,by decide⟩
 | some r=>exact (h _ (Mn.get_mem hg)).2
theorem JD (x:Bs):Lib.trimPrefix x dR=nI x:=by
 unfold Lib.trimPrefix nI
 by_cases h:dR.isPrefixOf x=true
 ·rw [if_pos (show Lib.hasPrefix x dR=true from h),if_pos h]
  rfl
 ·rw [if_neg (show ¬ Lib.hasPrefix x dR=true from h),if_neg h]
theorem Na {id n o:Nat} (hi:id<18446744073709551616) (hn:n<18446744073709551616) (ho:o<18446744073709551616):(⟨id,[],n,o,([],[]),[],0,0,0⟩:En).Fit where
 id:=hi
 ep:=hn
 cnt:=ho
 born:=show 0<18446744073709551616 by decide
 jM:=show 0<18446744073709551616 by decide
 tries:=show (-9223372036854775808:Int)≤0∧(0:Int)≤9223372036854775807 by decide
 dom:=show 0≤1000000 by decide
 mX:=show 0≤1000000∧0≤1000000 by decide
 gz:=show 0≤1000 by decide
 each:=fun _ h=>nomatch h
section
variable {w0 w:World} {L:List aT} {P:nS} {c:Sc} {Q:Sq}
theorem wM (id:Nat) (hi:id<18446744073709551616) (hM:RowsFit Q.rows) (E:Env w0) (S:Sp w0 [] w (ay P c Q L)) :
  Calls Tryz.prog 48 #[.pointer (some ⟨P.s,0,none⟩),.int .u64 id] w fun e w2=>e=.returned (.string ⟨(aU Q.rows id).toArray⟩)∧Sp w0 [] w2 (ay P c Q L):=by
 have hl:=S.ak.Aw.look (t:=88) nJ Tryz.underlying88 (nK _) (oP id hi)
 have hr:((Q.rows.get id).map aJ.agg).getD (aJ.agg ⟨[],0,0⟩)=(rowAt Q.rows id).agg:=by unfold rowAt;cases Q.rows.get id <;> rfl
 rw [hr] at hl
 have hf:=o6 hM id
 have HV:Hid (aU Q.rows id=aS id (rowAt Q.rows id).ep (rowAt Q.rows id).cnt):=rfl
 have HE:=Lib.hid E
 have HI:=Lib.hid hi
 generalize rowAt Q.rows id=r at *
 obtain ⟨d,n,o⟩:=r
 have HF:=Lib.hid hf
 dsimp only at *
 unfold ay aA at S
 have c5:=S.cell
 have S1:=S.box #[.string ⟨d.toArray⟩,.int .u64 n,.int .u64 o] 107
 have c6:=S1.cell
 have HS:=Lib.hid S1
 clear S S1 hf hr hM hi
 go_enter Tryz.func48,Tryz.ntmps48
 go_wp2_with fail
 refine (Ed (v:=.slice none 0 0) ⟨id,[],n,o,([],[]),[],0,0,0⟩ HE.out (Na HI.out (by have:=HF.out.2.1;dsimp only at this ⊢;omega) (by have:=HF.out.2.2;dsimp only at this ⊢;omega)) HS.out).mono ?_
 rintro e w2 ⟨rfl,S⟩
 have HS2:=Lib.hid S
 clear S HS
 go_wp2
 go_ret
 exact ⟨by rw [HV.out];rfl,HS2.out.drop⟩
theorem V3 (x:Bs) (w:World):Calls Tryz.prog 99 #[.string ⟨x.toArray⟩,.string ⟨#[113,47]⟩] w fun e w2=>e=.returned (.string ⟨(nI x).toArray⟩)∧w2=w:=by
 refine (Tryz.strings_TrimPrefix ⟨x.toArray⟩ ⟨#[113,47]⟩ w).mono ?_
 rintro e w2 ⟨rfl,rfl⟩
 have:=JD x
 unfold dR at this
 exact ⟨by rw [this],rfl⟩
theorem JE (x:Bs):(nI x).length≤x.length:=by
 unfold nI
 split
 ·rw [List.length_drop];omega
 ·exact Nat.le_refl _
theorem KZ (f:Bs) (hf:f.length≤100000000) (hD:Q.D.Small) (S:Sp w0 [] w (ay P c Q L)) :
  Calls Tryz.prog 67 #[.pointer (some ⟨P.s,0,none⟩),.string ⟨f.toArray⟩] w fun e w2=>e=.returned (.int .i64 (fE Q.D f).2)∧Sp w0 [] w2 (ay P c { Q with D:=(fE Q.D f).1 } L):=by
 have hl:=JE f
 have HT:=Lib.hid (fun W=>V3 f W)
 have hj:=dZ oO (nI f) (by simp only [maxLen];show 4+(nI f).length≤_;omega)
 have HR:=Lib.hid (fun (w':World) (K:List aT) (S':Sp w0 [] w' (aF P.d Q.D::K))=>RG f (oO++nI f) S' hD (by omega) (by rw [List.length_append];show 4+_<_;omega))
 have HV:Hid (fE Q.D f=Q.D.rename f (oO++nI f)):=rfl
 rw [← HV.out] at HR
 unfold oO at hj HR
 generalize fE Q.D f=A at *
 unfold ay aA at *
 dsimp only at *
 have HS:=Lib.hid S
 clear S hf hD hl
 generalize nI f=t at *
 go_enter Tryz.func67,Tryz.ntmps67
 go_upto_region 1 with (fail)
 refine aM [0,1,2,3,4,5,6,7,8,9] (fun c=>c == 6 || c == 8) (fun c=>false) (T:=fun wx=>wx.cell? ⟨P.s,0,none⟩=some (.pointer (some ⟨P.d,0,none⟩))) (S:=fun wx=>Sp w0 [] wx (ae P.s (aA P c.ai Q.last) 90::aY 34 aJ.agg P.m Q.rows::aF P.d Q.D::jG P.b Q.B::dP P.l P.d c.step c.most Q.led::bz P.r P.d Q.ring::L)) (by kernel_rfl) (by kernel_rfl) (by kernel_rfl) HS.out.drew (fun x h=>h.cell 0) ?_
 repeat
  refine Exists.intro _ (And.intro rfl (Or.inl (Exists.intro ?_ (And.intro (fun wS hS K hK=>?_) (And.intro ?_ ?_)))))
  rotate_left 1
  ·have t0:=hS
   first
    | (refine ah rfl ?_;simp only [Act.put,List.setIfInBounds_toArray,List.set_cons_zero,List.set_cons_succ];exact hK.out)
    | (refine ag rfl ?_;go_simp;exact hK.out)
  ·rfl
 refine bC.one rfl rfl rfl (fun wS hS R hR=>?_)
 go_simp
 go_at_call 99
 refine (HT.out wS).mono ?_
 rintro e w7 ⟨rfl,rfl⟩
 refine hR.out _ _ rfl (fun wx=>wx.cell? ⟨P.s,0,none⟩=some (.pointer (some ⟨P.d,0,none⟩))) (fun wx=>Sp w0 [] wx (ae P.s (aA P c.ai Q.last) 90::aY 34 aJ.agg P.m Q.rows::aF P.d Q.D::jG P.b Q.B::dP P.l P.d c.step c.most Q.led::bz P.r P.d Q.ring::L)) hS (fun x h=>h.cell 0) (fun _ h=>h) ?_
 clear hR hS
 repeat
  refine Exists.intro _ (And.intro rfl (Or.inl (Exists.intro ?_ (And.intro (fun wS hS K hK=>?_) (And.intro ?_ ?_)))))
  rotate_left 1
  ·have t0:=hS
   first
    | (refine ah rfl ?_;simp only [Act.put,List.setIfInBounds_toArray,List.set_cons_zero,List.set_cons_succ];exact hK.out)
    | (refine ag rfl ?_;go_simp;exact hK.out)
  ·rfl
 refine bC.one rfl rfl rfl (fun wS hS R hR=>?_)
 go_simp
 go_at_call 98
 refine (HR.out _ _ hS.dJ).mono ?_
 rintro e w7 ⟨rfl,S7⟩
 refine hR.out _ _ rfl (fun wx=>wx.cell? ⟨P.s,0,none⟩=some (.pointer (some ⟨P.d,0,none⟩))) (fun wx=>Sp w0 [] wx (aF P.d A.1::ae P.s (aA P c.ai Q.last) 90::aY 34 aJ.agg P.m Q.rows::jG P.b Q.B::dP P.l P.d c.step c.most Q.led::bz P.r P.d Q.ring::L)) S7 (fun x h=>h.ak.cell 0) (fun _ h=>h) ?_
 clear hR hS S7
 repeat
  refine Exists.intro _ (And.intro rfl (Or.inl (Exists.intro ?_ (And.intro (fun wS hS K hK=>?_) (And.intro ?_ ?_)))))
  rotate_left 1
  ·have t0:=hS
   first
    | (refine ah rfl ?_;simp only [Act.put,List.setIfInBounds_toArray,List.set_cons_zero,List.set_cons_succ];exact hK.out)
    | (refine ag rfl ?_;go_simp;exact hK.out)
  ·rfl
 intro wE hE
 have aX:=Lib.hid hE
 clear hE
 go_wp2
 go_ret
 have HZ:=(Sp.pick [_,_,_] [1,2,0] (by decide) (aX.out))
 exact ⟨rfl,HZ⟩
end
end
section
open Go.RowKit Go.Maps
theorem o7 (id:Nat) (r:aJ) (h:r.dom.length≤255):(bP id r).length≤400:=by
 have l0:=aL id
 have l1:=aP r.dom
 have l2:=aL r.ep
 have l3:=aL r.cnt
 have l4:=aP (bJ id++aN r.dom++bJ r.ep++bJ r.cnt)
 unfold bP
 simp only [List.length_append] at *
 omega
theorem Dk.Roomy.rename {D:Dk} {m:Nat} (h:D.Roomy m) (n t:Bs):(D.rename n t).1.Roomy (m+1):=by
 unfold Dk.rename
 split
 ·split
  ·exact h.done ⟨3,n,t,[]⟩
  ·exact h.mono (Nat.le_succ _)
 ·exact h.mono (Nat.le_succ _)
theorem Dk.Roomy.remove {D:Dk} {m:Nat} (h:D.Roomy m) (n:Bs):(D.remove n).1.Roomy (m+1):=by
 unfold Dk.remove
 split
 ·exact h.done ⟨4,n,[],[]⟩
 ·exact h.mono (Nat.le_succ _)
theorem nZ {D:Dk} {m:Nat} (h:D.Roomy m) (f:Bs):(fE D f).1.Roomy (m+1):=h.rename _ _
theorem nL {M:Mn aJ} (h:RowsFit M) (id:Nat) (hi:id<18446744073709551616):(aU M id).length≤4000:=by
 have h1:=kE id hi
 have hf:=o6 h id
 have h2:=kE (rowAt M id).ep (by have:=hf.2.1;omega)
 have h3:=kE (rowAt M id).cnt (by have:=hf.2.2;omega)
 unfold aU aS
 simp only [List.length_append,List.length_cons,List.length_nil]
 omega
section
variable {w0 w:World} {L:List aT} {P:nS} {c:Sc} {Q:Sq}
theorem PX (id:Nat) (r:aJ) (k:Nat) (hi:id<18446744073709551616) (hr:r.fit) (hM:Q.rows.length<maxLen) (hD:Q.D.Roomy k) (hk:k≤800000000) (S:Sp w0 [] w (ay P c Q L)) :
  Calls Tryz.prog 49 #[.pointer (some ⟨P.s,0,none⟩),.int .u64 id,r.agg] w fun e w2=>e=.returned (.int .i64 (Q.lay id r).2)∧Sp w0 [] w2 (ay P c (Q.lay id r).1 L):=by
 have hl:=o7 id r hr.1
 have HT:=Lib.hid (fun (w':World) (K:List aT) (S':Sp w0 [] w' K)=>PW id r S' hi (by have:=hr.1;omega) (by have:=hr.2.1;omega) (by have:=hr.2.2;omega))
 have HA:=Lib.hid (fun (w':World) (K:List aT) (S':Sp w0 [] w' (aF P.d Q.D::K))=>zx indexB (bP id r) S' (hD.small (by omega)) (by decide) (by omega))
 have HD1:=Lib.hid (hD.append indexB (bP id r))
 have HV:Hid (Q.lay id r=if (Q.D.append indexB (bP id r)).2≠0 then ({ Q with D:=(Q.D.append indexB (bP id r)).1 },(Q.D.append indexB (bP id r)).2)
  else if (Q.D.append indexB (bP id r)).1.sync.2≠0 then ({ Q with D:=(Q.D.append indexB (bP id r)).1.sync.1 },(Q.D.append indexB (bP id r)).1.sync.2)
  else (({ Q with D:=(Q.D.append indexB (bP id r)).1.sync.1 }:Sq).know id r,0)):=rfl
 have Vm:Hid ((Q.D.append indexB (bP id r)).1.Small):=HD1.out.small (by omega)
 unfold indexB at HA
 change Hid (∀ (w':World) (K:List aT),Sp w0 [] w' (aF P.d Q.D::K)→Calls Tryz.prog 78 _ w' fun e w2=>e=.returned (.int .i64 (Q.D.append indexB (bP id r)).2)∧Sp w0 [] w2 (aF P.d (Q.D.append indexB (bP id r)).1::K)) at HA
 have HI:=Lib.hid hi
 have HM:=Lib.hid hM
 clear HD1 hl hD
 generalize Q.D.append indexB (bP id r)=A at *
 generalize bP id r=tx at *
 obtain ⟨D1,e1⟩:=A
 obtain ⟨d,n,o⟩:=r
 dsimp only at *
 unfold ay at S
 have HS:=Lib.hid (S.box #[.string ⟨d.toArray⟩,.int .u64 n,.int .u64 o] 107)
 clear S hi hM hr
 go_enter Tryz.func49,Tryz.ntmps49
 go_upto_region 1 with (fail)
 generalize w.alloc _=w1 at *
 generalize w.heap.size=g5 at *
 refine aM [0,1,2,3,4,5,6,7,8] (fun c=>c == 6 || c == 7) (fun c=>false) (T:=fun wx=>wx.cell? ⟨P.s,0,none⟩=some (.pointer (some ⟨P.d,0,none⟩))∧(∀ jA,wx.cell? ⟨g5,jA,none⟩=(#[.string ⟨d.toArray⟩,.int .u64 n,.int .u64 o])[jA]?)) (S:=fun wx=>Sp w0 [] wx (ae g5 #[.string ⟨d.toArray⟩,.int .u64 n,.int .u64 o] 107::ae P.s (aA P c.ai Q.last) 90::aY 34 aJ.agg P.m Q.rows::aF P.d Q.D::jG P.b Q.B::dP P.l P.d c.step c.most Q.led::bz P.r P.d Q.ring::L)) (by kernel_rfl) (by kernel_rfl) (by kernel_rfl) HS.out.drew (fun x h=>⟨h.ak.cell 0,h.cell⟩) ?_
 repeat
  refine Exists.intro _ (And.intro rfl (Or.inl (Exists.intro ?_ (And.intro (fun wS hS K hK=>?_) (And.intro ?_ ?_)))))
  rotate_left 1
  ·obtain ⟨t0,t1⟩:=hS
   first
    | (refine ah rfl ?_;simp only [Act.put,List.setIfInBounds_toArray,List.set_cons_zero,List.set_cons_succ];exact hK.out)
    | (refine ag rfl ?_;go_simp;exact hK.out)
  ·rfl
 refine bC.one rfl rfl rfl (fun wS hS R hR=>?_)
 go_simp
 go_at_call 79
 refine (HT.out _ _ hS).mono ?_
 rintro e w7 ⟨rfl,S7⟩
 refine hR.out _ _ rfl (fun wx=>wx.cell? ⟨P.s,0,none⟩=some (.pointer (some ⟨P.d,0,none⟩))∧(∀ jA,wx.cell? ⟨g5,jA,none⟩=(#[.string ⟨d.toArray⟩,.int .u64 n,.int .u64 o])[jA]?)) (fun wx=>Sp w0 [] wx (ae g5 #[.string ⟨d.toArray⟩,.int .u64 n,.int .u64 o] 107::ae P.s (aA P c.ai Q.last) 90::aY 34 aJ.agg P.m Q.rows::aF P.d Q.D::jG P.b Q.B::dP P.l P.d c.step c.most Q.led::bz P.r P.d Q.ring::L)) S7 (fun x h=>⟨h.ak.cell 0,h.cell⟩) (fun _ h=>h) ?_
 clear hR hS S7
 repeat
  refine Exists.intro _ (And.intro rfl (Or.inl (Exists.intro ?_ (And.intro (fun wS hS K hK=>?_) (And.intro ?_ ?_)))))
  rotate_left 1
  ·obtain ⟨t0,t1⟩:=hS
   first
    | (refine ah rfl ?_;simp only [Act.put,List.setIfInBounds_toArray,List.set_cons_zero,List.set_cons_succ];exact hK.out)
    | (refine ag rfl ?_;go_simp;exact hK.out)
  ·rfl
 refine bC.one rfl rfl rfl (fun wS hS R hR=>?_)
 go_simp
 go_at_call 78
 refine (HA.out _ _ hS.nV).mono ?_
 rintro e w7 ⟨rfl,S7⟩
 refine hR.out _ _ rfl (fun wx=>wx.cell? ⟨P.s,0,none⟩=some (.pointer (some ⟨P.d,0,none⟩))∧(∀ jA,wx.cell? ⟨g5,jA,none⟩=(#[.string ⟨d.toArray⟩,.int .u64 n,.int .u64 o])[jA]?)) (fun wx=>Sp w0 [] wx (aF P.d D1::ae g5 #[.string ⟨d.toArray⟩,.int .u64 n,.int .u64 o] 107::ae P.s (aA P c.ai Q.last) 90::aY 34 aJ.agg P.m Q.rows::jG P.b Q.B::dP P.l P.d c.step c.most Q.led::bz P.r P.d Q.ring::L)) S7 (fun x h=>⟨h.dJ.cell 0,h.ak.cell⟩) (fun _ h=>h) ?_
 clear hR hS S7
 repeat
  refine Exists.intro _ (And.intro rfl (Or.inl (Exists.intro ?_ (And.intro (fun wS hS K hK=>?_) (And.intro ?_ ?_)))))
  rotate_left 1
  ·obtain ⟨t0,t1⟩:=hS
   first
    | (refine ah rfl ?_;simp only [Act.put,List.setIfInBounds_toArray,List.set_cons_zero,List.set_cons_succ];exact hK.out)
    | (refine ag rfl ?_;go_simp;exact hK.out)
  ·rfl
 intro wE hE
 have aX:=Lib.hid hE
 clear hE
 by_cases he:e1=0
 ·subst he
  have cs:=aX.out.dJ.cell
  unfold aA at cs
  generalize hB:D1.sync=B at *
  obtain ⟨D2,e2⟩:=B
  go_wp2_with fail
  refine (yz aX.out Vm.out).mono ?_
  rw [hB]
  rintro e w3 ⟨rfl,S3⟩
  dsimp only at *
  have xK:Hid (Q.lay id ⟨d,n,o⟩=if e2≠0 then ({ Q with D:=D2 },e2) else (({ Q with D:=D2 }:Sq).know id ⟨d,n,o⟩,0)):=by unfold Hid;rw [HV.out];simp
  have bI:=Lib.hid S3
  clear S3 aX cs HV hB
  by_cases he:e2=0
  ·subst he
   have cg:=bI.out.ak.cell
   go_wp2_with fail
   have HZ:=(Sp.pick [_,_,_,_] [2,3,0,1] (by decide) (bI.out))
   refine (Em id ⟨d,n,o⟩ HI.out HM.out HZ).mono ?_
   rintro e w4 ⟨rfl,S4⟩
   have gP:=Lib.hid S4
   clear S4 bI cg HZ
   go_wp2_with fail
   go_ret
   have HZ:=(Sp.pick [_,_,_,_] [0,1,2] (by decide) (gP.out))
   exact ⟨by rw [xK.out];simp,by rw [xK.out];exact HZ⟩
  ·have hb:(e2 != 0)=true:=by simpa using he
   have gq:Hid (Q.lay id ⟨d,n,o⟩=({ Q with D:=D2 },e2)):=by unfold Hid;rw [xK.out,if_pos he]
   clear he xK
   go_wp2_with fail
   go_ret
   have HZ:=(Sp.pick [_,_,_,_] [2,3,0] (by decide) (bI.out))
   exact ⟨by rw [gq.out];rfl,by rw [gq.out];exact HZ⟩
 ·have hb:(e1 != 0)=true:=by simpa using he
  have gq:Hid (Q.lay id ⟨d,n,o⟩=({ Q with D:=D1 },e1)):=by unfold Hid;rw [HV.out,if_pos he]
  clear he HV
  go_wp2_with fail
  go_ret
  have HZ:=(Sp.pick [_,_,_,_] [2,3,0] (by decide) (aX.out))
  exact ⟨by rw [gq.out];rfl,by rw [gq.out];exact HZ⟩
theorem K3 (id:Nat) (k:Nat) (hi:id<18446744073709551616) (hR:RowsFit Q.rows) (hM:Q.rows.length<maxLen) (hD:Q.D.Roomy k) (hk:k≤800000000) (E:Env w0) (S:Sp w0 [] w (ay P c Q L)) :
  Calls Tryz.prog 45 #[.pointer (some ⟨P.s,0,none⟩),.int .u64 id] w fun e w2=>e=.returned (.int .i64 (Q.drop id).2)∧Sp w0 [] w2 (ay P c (Q.drop id).1 L):=by
 have hrf:=o6 hR id
 have hdl:=hrf.1
 have hfl:=nL hR id hi
 have hl:=o7 id ⟨(rowAt Q.rows id).dom,0,0⟩ hdl
 have HF:=Lib.hid (wM (P:=P) (c:=c) (L:=L) id hi hR E S)
 have HW:=Lib.hid (fun (w':World) (S':Sp w0 [] w' (ay P c Q L))=>KZ (aU Q.rows id) (by omega) (hD.small (by omega)) S')
 have hD1:=nZ hD (aU Q.rows id)
 have HT:=Lib.hid (fun (w':World) (K:List aT) (S':Sp w0 [] w' K)=>PW id ⟨(rowAt Q.rows id).dom,0,0⟩ S' hi (by dsimp only;omega) (show 0<18446744073709551616 by decide) (show 0<18446744073709551616 by decide))
 have HA:=Lib.hid (fun (w':World) (K:List aT) (S':Sp w0 [] w' (aF P.d (fE Q.D (aU Q.rows id)).1::K))=>zx indexB (bP id ⟨(rowAt Q.rows id).dom,0,0⟩) S' (hD1.small (by omega)) (by decide) (by omega))
 have HV:Hid (Q.drop id=_):=Lib.hid (Sq.drop.eq_1 Q id)
 have hlk:∀ {w'},Sp w0 [] w' (aY 34 aJ.agg P.m Q.rows::_)→_:=fun {w'} (S':Sp w0 [] w' (aY 34 aJ.agg P.m Q.rows::ae P.s (aA P c.ai Q.last) 90::aF P.d (fE Q.D (aU Q.rows id)).1::jG P.b Q.B::dP P.l P.d c.step c.most Q.led::bz P.r P.d Q.ring::L))=>S'.Aw.look (t:=88) nJ Tryz.underlying88 (nK _) (oP id hi)
 have hr:((Q.rows.get id).map aJ.agg).getD (aJ.agg ⟨[],0,0⟩)=(rowAt Q.rows id).agg:=by unfold rowAt;cases Q.rows.get id <;> rfl
 rw [hr] at hlk
 unfold indexB at HA
 change Hid (∀ (w':World) (K:List aT),Sp w0 [] w' (aF P.d (fE Q.D (aU Q.rows id)).1::K)→Calls Tryz.prog 78 _ w' fun e w2=>e=.returned (.int .i64 ((fE Q.D (aU Q.rows id)).1.append indexB (bP id ⟨(rowAt Q.rows id).dom,0,0⟩)).2)∧Sp w0 [] w2 (aF P.d ((fE Q.D (aU Q.rows id)).1.append indexB (bP id ⟨(rowAt Q.rows id).dom,0,0⟩)).1::K)) at HA
 have HI:=Lib.hid hi
 have HM:=Lib.hid hM
 have vW:=Lib.hid (fun w'=>@hlk w')
 clear S hi hM hD hD1 hl hfl hdl hrf hR hr hlk
 generalize fE Q.D (aU Q.rows id)=A at *
 obtain ⟨D1,e1⟩:=A
 dsimp only at *
 generalize aU Q.rows id=fl at *
 generalize (rowAt Q.rows id)=rw_ at *
 obtain ⟨d,n,o⟩:=rw_
 dsimp only at *
 generalize D1.append indexB (bP id ⟨d,0,0⟩)=B at *
 generalize bP id ⟨d,0,0⟩=tx at *
 obtain ⟨D2,e2⟩:=B
 dsimp only at *
 go_enter Tryz.func45,Tryz.ntmps45
 go_wp2_with fail
 refine HF.out.mono ?_
 rintro e w1 ⟨rfl,S1⟩
 have bX:=Lib.hid S1
 clear S1 HF
 go_wp2_with fail
 refine (HW.out _ bX.out).mono ?_
 rintro e w2 ⟨rfl,S2⟩
 have HS2:=Lib.hid S2
 clear S2 bX HW
 by_cases he:e1≠0∧e1≠10
 ·have hb1:(e1 != 0)=true:=by simpa using he.1
  have hb2:(e1 != 10)=true:=by simpa using he.2
  have gq:Hid (Q.drop id=({ Q with D:=D1 },e1)):=by unfold Hid;rw [HV.out,if_pos he]
  clear he HV
  go_wp2_with fail
  go_ret
  exact ⟨by rw [gq.out];rfl,by rw [gq.out];exact HS2.out⟩
 ·have xK:Hid (Q.drop id=if e2≠0 then ({ Q with D:=D2 },e2) else (({ Q with D:=D2 }:Sq).know id ⟨d,0,0⟩,0)):=by unfold Hid;rw [HV.out,if_neg he]
  have he':e1=0∨e1=10:=by
   by_cases h0:e1=0
   ·exact .inl h0
   ·exact .inr (Classical.byContradiction fun h=>he ⟨h0,h⟩)
  clear HV he
  have hl:=vW.out _ HS2.out.ak
  unfold aJ.agg at hl
  dsimp only at hl
  have Sk:∀ W:World,(Instr.field 107 (.agg #[.string ⟨d.toArray⟩,.int .u64 n,.int .u64 o]) 0).run Tryz.prog W=.ok (.string ⟨d.toArray⟩) W:=fun W=>by (show @Eq (Result Value) _ _;kernel_rfl)
  have c5:=HS2.out.cell
  unfold aA at c5
  have bI:=Lib.hid (HS2.out.box #[.string ⟨d.toArray⟩,.int .u64 0,.int .u64 0] 107)
  clear HS2 vW
  unfold ay at bI
  dsimp only at bI
  rcases he' with rfl | rfl
  all_goals
   go_upto_region 5 with (fail)
   clear hl c5
   generalize w2.alloc _=w3 at *
   generalize w2.heap.size=g6 at *
   refine aM [0,1,2,3,4,5,6,7,8] (fun c=>c == 6 || c == 7) (fun c=>false) (T:=fun wx=>wx.cell? ⟨P.s,0,none⟩=some (.pointer (some ⟨P.d,0,none⟩))∧(∀ jA,wx.cell? ⟨g6,jA,none⟩=(#[.string ⟨d.toArray⟩,.int .u64 0,.int .u64 0])[jA]?)) (S:=fun wx=>Sp w0 [] wx (ae g6 #[.string ⟨d.toArray⟩,.int .u64 0,.int .u64 0] 107::ae P.s (aA P c.ai Q.last) 90::aY 34 aJ.agg P.m Q.rows::aF P.d D1::jG P.b Q.B::dP P.l P.d c.step c.most Q.led::bz P.r P.d Q.ring::L)) (by kernel_rfl) (by kernel_rfl) (by kernel_rfl) bI.out.drew (fun x h=>⟨h.ak.cell 0,h.cell⟩) ?_
   repeat
    refine Exists.intro _ (And.intro rfl (Or.inl (Exists.intro ?_ (And.intro (fun wS hS K hK=>?_) (And.intro ?_ ?_)))))
    rotate_left 1
    ·obtain ⟨t0,t1⟩:=hS
     first
      | (refine ah rfl ?_;simp only [Act.put,List.setIfInBounds_toArray,List.set_cons_zero,List.set_cons_succ];exact hK.out)
      | (refine ag rfl ?_;go_simp;exact hK.out)
    ·rfl
   refine bC.one rfl rfl rfl (fun wS hS R hR=>?_)
   go_simp
   go_at_call 79
   refine (HT.out _ _ hS).mono ?_
   rintro e w7 ⟨rfl,S7⟩
   refine hR.out _ _ rfl (fun wx=>wx.cell? ⟨P.s,0,none⟩=some (.pointer (some ⟨P.d,0,none⟩))∧(∀ jA,wx.cell? ⟨g6,jA,none⟩=(#[.string ⟨d.toArray⟩,.int .u64 0,.int .u64 0])[jA]?)) (fun wx=>Sp w0 [] wx (ae g6 #[.string ⟨d.toArray⟩,.int .u64 0,.int .u64 0] 107::ae P.s (aA P c.ai Q.last) 90::aY 34 aJ.agg P.m Q.rows::aF P.d D1::jG P.b Q.B::dP P.l P.d c.step c.most Q.led::bz P.r P.d Q.ring::L)) S7 (fun x h=>⟨h.ak.cell 0,h.cell⟩) (fun _ h=>h) ?_
   clear hR hS S7
   repeat
    refine Exists.intro _ (And.intro rfl (Or.inl (Exists.intro ?_ (And.intro (fun wS hS K hK=>?_) (And.intro ?_ ?_)))))
    rotate_left 1
    ·obtain ⟨t0,t1⟩:=hS
     first
      | (refine ah rfl ?_;simp only [Act.put,List.setIfInBounds_toArray,List.set_cons_zero,List.set_cons_succ];exact hK.out)
      | (refine ag rfl ?_;go_simp;exact hK.out)
    ·rfl
   refine bC.one rfl rfl rfl (fun wS hS R hR=>?_)
   go_simp
   go_at_call 78
   refine (HA.out _ _ hS.nV).mono ?_
   rintro e w7 ⟨rfl,S7⟩
   refine hR.out _ _ rfl (fun wx=>wx.cell? ⟨P.s,0,none⟩=some (.pointer (some ⟨P.d,0,none⟩))∧(∀ jA,wx.cell? ⟨g6,jA,none⟩=(#[.string ⟨d.toArray⟩,.int .u64 0,.int .u64 0])[jA]?)) (fun wx=>Sp w0 [] wx (aF P.d D2::ae g6 #[.string ⟨d.toArray⟩,.int .u64 0,.int .u64 0] 107::ae P.s (aA P c.ai Q.last) 90::aY 34 aJ.agg P.m Q.rows::jG P.b Q.B::dP P.l P.d c.step c.most Q.led::bz P.r P.d Q.ring::L)) S7 (fun x h=>⟨h.dJ.cell 0,h.ak.cell⟩) (fun _ h=>h) ?_
   clear hR hS S7
   repeat
    refine Exists.intro _ (And.intro rfl (Or.inl (Exists.intro ?_ (And.intro (fun wS hS K hK=>?_) (And.intro ?_ ?_)))))
    rotate_left 1
    ·obtain ⟨t0,t1⟩:=hS
     first
      | (refine ah rfl ?_;simp only [Act.put,List.setIfInBounds_toArray,List.set_cons_zero,List.set_cons_succ];exact hK.out)
      | (refine ag rfl ?_;go_simp;exact hK.out)
    ·rfl
   intro wE hE
   have aX:=Lib.hid hE
   clear hE
   clear bI HA HT
   by_cases he:e2=0
   ·subst he
    have gq:Hid (Q.drop id=(({ Q with D:=D2 }:Sq).know id ⟨d,0,0⟩,0)):=by unfold Hid;rw [xK.out];simp
    have cg:=aX.out.ak.cell
    go_wp2_with fail
    have HZ:=(Sp.pick [_,_,_,_] [2,3,0,1] (by decide) (aX.out))
    refine (Em id ⟨d,0,0⟩ HI.out HM.out HZ).mono ?_
    rintro e w4 ⟨rfl,S4⟩
    have gP:=Lib.hid S4
    clear S4 aX cg HZ
    go_wp2_with fail
    go_ret
    have HZ:=(Sp.pick [_,_,_,_] [0,1,2] (by decide) (gP.out))
    exact ⟨by rw [gq.out];rfl,by rw [gq.out];exact HZ⟩
   ·have hb:(e2 != 0)=true:=by simpa using he
    have gq:Hid (Q.drop id=({ Q with D:=D2 },e2)):=by unfold Hid;rw [xK.out,if_pos he]
    clear he xK
    go_wp2_with fail
    go_ret
    have HZ:=(Sp.pick [_,_,_,_] [2,3,0] (by decide) (aX.out))
    exact ⟨by rw [gq.out];rfl,by rw [gq.out];exact HZ⟩
end
end
end Go.Proofs.YtangbdahnmomlaaGreatDoor
