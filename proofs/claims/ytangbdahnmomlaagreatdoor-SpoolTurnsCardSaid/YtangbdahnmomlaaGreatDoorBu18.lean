/- entry: what entries and their recipients are in memory. No condition. entry: bodies filled up. Conditions: the lengths fit. box: an ideal one, by -/
import Derived.Test.YtangbdahnmomlaaGreatDoorBu02
import Derived.Test.YtangbdahnmomlaaGreatDoorBu03
import Derived.Test.YtangbdahnmomlaaGreatDoorBu09
import Derived.Test.YtangbdahnmomlaaGreatDoorBu12
import Derived.Test.YtangbdahnmomlaaGreatDoorBu17
set_option linter.unnecessarySimpa false
set_option linter.unusedSimpArgs false
set_option linter.unusedVariables false
set_option maxHeartbeats 4000000
set_option maxRecDepth 100000
namespace Go.Proofs.YtangbdahnmomlaaGreatDoor
section
open Go.RowKit
theorem Vo:(Tryz.prog.info? 100).map (fun i=>(i.zero,i.size,i.bytes))=some (some (.agg #[.string ⟨#[]⟩,.string ⟨#[]⟩,.int .i64 0]),3,40):=by kernel_rfl
def lu.vals (x:lu):List Value:=[.string ⟨x.1.1.toArray⟩,.string ⟨x.1.2.toArray⟩,.int .i64 x.2]
theorem yJ (l:List lu):∀ x∈l.map lu.vals,x.length=3:=fun x hx=>by
 obtain ⟨r,_,rfl⟩:=List.mem_map.1 hx
 rfl
abbrev dH (v:Value) (l:List lu):aT:=vE 100 3 v l.length (l.map lu.vals).flatten
def iM (w:World) (v:Value) (l:List lu):Prop:=∃ a cap,v=.slice a l.length cap∧rA w a 3 (l.map lu.vals)
theorem iM.ext {w w2:World} {v:Value} {l:List lu} (h:iM w v l) (hx:Ext [] w w2):iM w2 v l:=by
 obtain ⟨a,cap,h1,h2⟩:=h
 exact ⟨a,cap,h1,h2.ext hx⟩
theorem iM.form {w:World} {v:Value} {l:List lu} (h:iM w v l):∃ a cap,v=.slice a l.length cap:=by
 obtain ⟨a,cap,h1,_⟩:=h
 exact ⟨a,cap,h1⟩
theorem iM.at {w:World} {a:Option Addr} {n cap:Nat} {l:List lu} (h:iM w (.slice a n cap) l) {i:Nat} (hi:i<l.length):∃ b off,a=some ⟨b,off,none⟩∧w.cell? ⟨b,off+i*3,none⟩=some (.string ⟨l[i].1.1.toArray⟩)∧w.cell? ⟨b,off+i*3+1,none⟩=some (.string ⟨l[i].1.2.toArray⟩)∧w.cell? ⟨b,off+i*3+2,none⟩=some (.int .i64 l[i].2):=by
 obtain ⟨a2,cap2,h1,h2⟩:=h
 cases h1
 obtain ⟨b,off,rfl⟩:=h2.addr (i:=i) (by simpa using hi)
 have hr:(l.map lu.vals)[i]? = some (lu.vals l[i]):=by rw [List.getElem?_map,List.getElem?_eq_getElem hi];rfl
 exact ⟨b,off,rfl,h2.at i _ hr 0 _ rfl,h2.at i _ hr 1 _ rfl,h2.at i _ hr 2 _ rfl⟩
theorem iM.nil (w:World):iM w (.slice none 0 0) []:=⟨none,0,rfl,.inl rfl⟩
def eH (e:En) (v:Value):Value:=.agg #[.int .u64 e.id,.string ⟨e.dom.toArray⟩,.int .u64 e.ep,.int .u64 e.cnt,.string ⟨e.mX.1.toArray⟩,.string ⟨e.mX.2.toArray⟩,v,.int .u64 e.born,.int .u64 e.jM,.int .i64 e.tries]
def bQ (e:En) (v:Value):Array Value:=#[.int .u64 e.id,.string ⟨e.dom.toArray⟩,.int .u64 e.ep,.int .u64 e.cnt,.string ⟨e.mX.1.toArray⟩,.string ⟨e.mX.2.toArray⟩,v,.int .u64 e.born,.int .u64 e.jM,.int .i64 e.tries]
structure Ji (w:World) (e:En) (v:Value):Prop where
 fit:e.Fit
 WU:iM w v e.gz
theorem Ji.ext {w w2:World} {e:En} {v:Value} (h:Ji w e v) (hx:Ext [] w w2):Ji w2 e v:=⟨h.fit,h.WU.ext hx⟩
section
variable {w0 w:World} {F0:List Nat} {L:List aT} {b:Nat} {v:Value} {l:List lu}
theorem Sp.iX (S:Sp w0 F0 w L):Sp w0 F0 w (dH (.slice none 0 0) []::L):=S.Dv 100 3
theorem Sp.O8 (ty:TypeId) (r:lu) (hn:l.length<10000000000) (S:Sp w0 F0 w (ae b r.vals.toArray 100::dH v l::L)) :
  ∃ g cap w2,(Builtin.append_ #[38,38] ty #[v,.slice (some ⟨b,0,none⟩) 1 1]).run Tryz.prog w=.ok (.slice (some ⟨g,0,none⟩) (l.length+1) cap) w2∧Sp w0 F0 w2 (dH (.slice (some ⟨g,0,none⟩) (l.length+1) cap) (l++[r])::L):=by
 obtain ⟨g,cap,w2,h1,S2⟩:=Sp.tq 38 ty r.vals.toArray _ 40 Vo rfl Tryz.underlying38 (by decide) (by decide) rfl (by simp [lu.vals,Value.oneCell']) hn S
 refine ⟨g,cap,w2,h1,?_⟩
 have e1:((l++[r]).map lu.vals).flatten=(l.map lu.vals).flatten++r.vals:=by simp
 have e2:(l++[r]).length=l.length+1:=by simp
 unfold dH
 rw [e1,e2]
 exact S2.drop
theorem Sp.kM (S:Sp w0 F0 w (dH v l::L)):iM w v l:=by
 rcases S.jr with ⟨rfl,h0⟩ | ⟨g,cap,rfl⟩
 ·obtain rfl:=List.eq_nil_of_length_eq_zero h0
  exact iM.nil w
 ·refine ⟨_,cap,rfl,.inr ⟨g,0,rfl,fun i r hr j x hx=>?_⟩⟩
  have:=S.zt (yJ l) hr hx
  simpa using this
theorem Calls.sp {f:FuncId} {args:Array Value} {P:Ending→Prop} (h:Calls Tryz.prog f args w fun e w2=>P e∧Ext [] w w2) (S:Sp w0 F0 w L):Calls Tryz.prog f args w fun e w2=>P e∧Sp w0 F0 w2 L :=
 h.mono fun _ _ ⟨h1,h2⟩=>⟨h1,S.iq h2⟩
end
end
section
open Go.RowKit
theorem Gc:∀ n,Lib.repeatL [0] n=zeros n
 | 0=>rfl
 | n+1=>by rw [Lib.repeatL,Gc n];rfl
theorem ML {n:Nat} (h:n≤16384):([256,1024,4096,16384]:List Int)[(([256,1024,4096,16384]:List Int).countP (·<(n:Int)))]? = some ((bucket n:Nat):Int):=by
 unfold bucket
 simp only [List.countP_cons,List.countP_nil]
 by_cases h1:n≤256
 ·rw [if_pos h1]
  have a1:¬ (256:Int)<n:=by omega
  have a2:¬ (1024:Int)<n:=by omega
  have a3:¬ (4096:Int)<n:=by omega
  have a4:¬ (16384:Int)<n:=by omega
  simp [a1,a2,a3,a4]
 ·rw [if_neg h1]
  have a1:(256:Int)<n:=by omega
  by_cases h2:n≤1024
  ·rw [if_pos h2]
   have a2:¬ (1024:Int)<n:=by omega
   have a3:¬ (4096:Int)<n:=by omega
   have a4:¬ (16384:Int)<n:=by omega
   simp [a1,a2,a3,a4]
  ·rw [if_neg h2]
   have a2:(1024:Int)<n:=by omega
   by_cases h3:n≤4096
   ·rw [if_pos h3]
    have a3:¬ (4096:Int)<n:=by omega
    have a4:¬ (16384:Int)<n:=by omega
    simp [a1,a2,a3,a4]
   ·rw [if_neg h3]
    have a3:(4096:Int)<n:=by omega
    have a4:¬ (16384:Int)<n:=by omega
    simp [a1,a2,a3,a4]
section
variable {w0 w:World} {F0:List Nat} {L:List aT} {b:Nat}
theorem Ea (c:Nat) (ci:Int) (h:ci=c) (hc:c≤1000000) (S:Sp w0 F0 w L):Calls Tryz.prog 212 #[.string ⟨#[0]⟩,.int .i64 ci] w fun e w2=>e=.returned (.string ⟨(zeros c).toArray⟩)∧Sp w0 F0 w2 L:=by
 subst h
 refine (Tryz.strings_Repeat ⟨#[0]⟩ c w (by omega) (by show 1*c≤_;omega)).mono fun e w2 ⟨he,hb⟩=>⟨?_,S.iq (Ext.of_below hb)⟩
 rw [he,← Gc]
theorem Gd (s:Bs) (n:Nat) (h1:1≤s.length) (h2:s.length≤n) (hn:n≤100000) (S:Sp w0 F0 w L):Calls Tryz.prog 181 #[.string ⟨s.toArray⟩,.int .i64 n] w fun e w2=>e=.returned (.string ⟨(s++zeros (n - s.length)).toArray⟩)∧Sp w0 F0 w2 L:=by
 have HS:=Lib.hid S
 have hn':(n:Int)≤100000:=by omega
 have hn1:(1:Int)≤n:=by omega
 have hs':(s.length:Int)≤100000:=by omega
 clear S
 by_cases he:s.length=n
 ·have hm:(s.length:Int).tmod n=0:=by rw [he];simp
  have HZ:Hid (s++zeros (n - s.length)=s):=by unfold Hid;rw [he];simp [zeros]
  go_enter Tryz.func181,Tryz.ntmps181
  go_wp2
  go_ret
  exact ⟨by rw [HZ.out];rfl,HS.out⟩
 ·have hlt:s.length<n:=by omega
  have hm:(s.length:Int).tmod n=s.length:=Int.tmod_eq_of_lt (by omega) (by omega)
  have hb1:((s.length:Int) == 0)=false:=by simp;intro h;simp [h] at h1
  have hb2:decide ((n:Int)<1)=false:=by simp;omega
  have HC:Hid (((n:Int) - s.length)=((n - s.length:Nat):Int)):=by unfold Hid;omega
  have HN:Hid (n - s.length≤1000000):=by unfold Hid;omega
  have hadd:=dZ s (zeros (n - s.length)) (by simp [zeros,maxLen];omega)
  clear h1 h2 hlt he
  go_enter Tryz.func181,Tryz.ntmps181
  go_wp2_with fail
  refine (Ea _ _ HC.out HN.out HS.out).mono ?_
  rintro e w2 ⟨rfl,S⟩
  have HS2:=Lib.hid S
  clear S HS
  go_wp2
  go_ret
  exact ⟨rfl,HS2.out⟩
theorem Gf (w:World):Calls Tryz.prog 179 #[] w fun e w2=>e=.returned (.agg #[.int .i64 256,.int .i64 1024,.int .i64 4096,.int .i64 16384])∧Ext [] w w2:=by
 have S0:=(Sp.nil w []).box #[.int .i64 256,.int .i64 1024,.int .i64 4096,.int .i64 16384] 258
 have d0:=S0.cell
 have HS:=Lib.hid S0
 clear S0
 go_enter Tryz.func179,Tryz.ntmps179
 go_wp2
 exact bodyPost_ret (v:=.agg #[.int .i64 256,.int .i64 1024,.int .i64 4096,.int .i64 16384]) (by simp [results,Tryz.results179,go_sem,d0]) rfl ⟨rfl,HS.out.ext⟩
theorem Jj {n:Nat} (h:n≤16384):∃ k:Nat,(([256,1024,4096,16384]:List Int).take 4).countP (·<(n:Int))=k∧k<4∧(#[Value.int .i64 256,.int .i64 1024,.int .i64 4096,.int .i64 16384]:Array Value)[k]? = some (.int .i64 (bucket n:Nat)):=by
 have h1:=ML h
 generalize hk:([256,1024,4096,16384]:List Int).countP (·<(n:Int))=k at h1
 refine ⟨k,hk,?_,?_⟩
 ·exact (List.getElem?_eq_some_iff.1 h1).1
 ·match k,h1 with
  | 0,h1=>simp at h1 ⊢;exact h1
  | 1,h1=>simp at h1 ⊢;exact h1
  | 2,h1=>simp at h1 ⊢;exact h1
  | 3,h1=>simp at h1 ⊢;exact h1
  | k+4,h1=>simp at h1
theorem Eb (body:Bs) (S:Sp w0 F0 w L):Calls Tryz.prog 146 #[.string ⟨body.toArray⟩] w fun e w2=>e=.returned (.tuple #[.string ⟨(nu body).1.toArray⟩,.int .i64 (nu body).2])∧Sp w0 F0 w2 L:=by
 have HS:=Lib.hid S
 clear S
 by_cases h:body.length≤16000
 ·have h':(body.length:Int)≤16000:=by omega
  have HV:Hid (nu body=(aN body++zeros (bucket (aN body).length - (aN body).length),0)):=by unfold Hid nu;rw [if_pos h];rfl
  have HT:=Lib.hid (pI h)
  have HP:=Lib.hid (Od body)
  obtain ⟨k,hk,hk4,hkb⟩:=Jj (n:=(aN body).length) (by have:=pI h;omega)
  have HK:=Lib.hid hk
  have HB:=Lib.hid (Cj (n:=(aN body).length) (by have:=pI h;omega))
  have Cz:=Lib.hid (sW (aN body).length)
  have adN:(k:Int)<4:=by omega
  have R7:=Lib.hid hkb
  clear hk hkb
  go_enter Tryz.func146,Tryz.ntmps146
  go_wp2_with fail
  refine (oU HS.out body (by omega)).mono ?_
  rintro e w1 ⟨rfl,S⟩
  have bX:=Lib.hid S
  generalize aN body=t at *
  clear S HS h
  go_wp2_with fail
  refine (Gf w1).mono ?_
  rintro e w2 ⟨rfl,hx⟩
  have S2:=(bX.out.iq hx).box #[.int .i64 256,.int .i64 1024,.int .i64 4096,.int .i64 16384] 258
  have HS2:=Lib.hid S2
  clear hx bX S2
  have ht':(t.length:Int)≤16003:=by have:=HT.out;omega
  go_upto_region 5 with (fail)
  generalize w2.alloc (.cells #[.int .i64 256,.int .i64 1024,.int .i64 4096,.int .i64 16384] 258)=w3 at *
  generalize w2.heap.size=q at *
  have c3:=HS2.out.cell
  go_wp2_with fail
  refine (Tryz.slices_BinarySearch_int q 0 4 4 [256,1024,4096,16384] t.length w3 (by decide) (by decide) (fun j hj=>?_) (by decide)).mono ?_
  ·rw [Nat.zero_add,c3 j]
   match j,hj with
   | 0,_=>rfl
   | 1,_=>rfl
   | 2,_=>rfl
   | 3,_=>rfl
   | j+4,hj=>simp at hj;omega
  rw [HK.out]
  rintro e w4 ⟨rfl,n,rfl⟩
  have gP:=Lib.hid (HS2.out.drewN n)
  have c4:=gP.out.cell k
  rw [R7.out] at c4
  generalize w3.drewN n=w4 at *
  clear HS2 c3 R7 HK
  go_wp2_with fail
  refine (Gd t (bucket t.length) HP.out HB.out (by have:=Cz.out;omega) gP.out).mono ?_
  rintro e w5 ⟨rfl,S⟩
  have gB:=Lib.hid S.drop
  clear S gP c4
  go_wp2
  go_ret2
  rw [HV.out]
  exact ⟨rfl,gB.out⟩
 ·have h':(16000:Int)<body.length:=by omega
  have HV:Hid (nu body=([],5)):=by unfold Hid nu;rw [if_neg h]
  clear h
  go_enter Tryz.func146,Tryz.ntmps146
  go_wp2
  go_ret2
  rw [HV.out]
  exact ⟨rfl,HS.out⟩
theorem MM (s:Bs) (hs:s.length≤1000000) (S:Sp w0 F0 w L):Calls Tryz.prog 116 #[.string ⟨s.toArray⟩] w fun e w2=>e=.returned (.tuple #[.string ⟨(eF s).1.toArray⟩,.int .i64 (eF s).2])∧Sp w0 F0 w2 L:=by
 have HS:=Lib.hid S
 have HL:=Lib.hid hs
 have HE:Hid (nu (ny s)=(fQ (ny s),0)):=by unfold Hid nu;rw [if_pos (Iw s)]
 have HV:Hid (eF s=if fQ (ny s)=s then (ny s,0) else ([],2)):=rfl
 clear S hs
 go_enter Tryz.func116,Tryz.ntmps116
 go_wp2_with fail
 refine (yx HS.out s).mono ?_
 rintro e w1 ⟨b,rfl,S⟩
 have bX:=Lib.hid S
 clear S HS
 go_wp2_with fail
 refine (lF 16000 16000 rfl bX.out (by have:=HL.out;dsimp only;omega) (by omega)).mono ?_
 rw [show (Rd.text ⟨s,false⟩ 16000).1=ny s from rfl]
 rintro e w2 ⟨rfl,S⟩
 have HS2:=Lib.hid S.drop
 generalize ny s=x at *
 clear S bX
 go_wp2_with fail
 refine (Eb x HS2.out).mono ?_
 rw [HE.out]
 rintro e w3 ⟨rfl,S⟩
 have bI:=Lib.hid S
 clear S HS2
 by_cases h:fQ x=s
 ·have HW:Hid (eF s=(x,0)):=by unfold Hid;rw [HV.out,if_pos h]
  rw [h] at *
  clear HV h HE
  go_wp2
  go_ret2
  rw [HW.out]
  exact ⟨rfl,bI.out⟩
 ·have HW:Hid (eF s=([],2)):=by unfold Hid;rw [HV.out,if_neg h]
  clear HV HE
  generalize fQ x=y at *
  have hb:(y == s)=false:=by simpa using h
  go_wp2
  go_ret2
  rw [HW.out]
  exact ⟨rfl,bI.out⟩
end
end
section
open Go.RowKit Go.Maps
theorem Gg:Tryz.prog.cellsOf 234=2:=by kernel_rfl
theorem O9:(234:TypeId)<Tryz.prog.types.size:=of_decide_eq_true (by kernel_rfl)
theorem Jk:Tryz.prog.keyType 234=true:=by kernel_rfl
theorem R8:(match Tryz.prog.underlying 234 with | some (.array _ _) | some (.struct _)=>true | _=>false)=true:=by kernel_rfl
theorem AV:Keyed Tryz.prog 234:=Keyed.of_law (deep_law_laid laidOut (m:=2) (by omega) O9 (by kernel_rfl) R8)
def uB (x s:Bs):Bs:=keyBytes [.string x,.string s]
theorem R9:∃ m,Tryz.prog.types.size=m+1:=by
 have h:=O9
 generalize Tryz.prog.types.size=n at *
 exact ⟨n - 1,(Nat.succ_pred_eq_of_pos (Nat.lt_of_le_of_lt (Nat.zero_le _) h)).symm⟩
theorem Jl:Tryz.prog.cellsOf 9=1:=by kernel_rfl
theorem Pb (x s:Bs) (hx:x.length≤maxLen) (hs:s.length≤maxLen):keyOf Tryz.prog 234 (.agg #[.string ⟨x.toArray⟩,.string ⟨s.toArray⟩])=some (.string (uB x s)):=by
 have hsx:(ByteArray.mk x.toArray).size≤maxLen:=hx
 have hss:(ByteArray.mk s.toArray).size≤maxLen:=hs
 have hkt:=Jk
 obtain ⟨m,hm⟩:=R9
 unfold keyOf
 simp only [Tryz.underlying234]
 rw [if_pos (by simp [hkt,Value.formed,Tryz.underlying234,Gg]),hm]
 unfold Program.keyLits
 simp only [Tryz.underlying234,Value.cells]
 rw [if_pos ⟨by rw [Gg];rfl,by kernel_rfl⟩]
 simp [Jl,Program.keyLits,Tryz.underlying9,hsx,hss,uB]
def KO (x:ja):Value:=.agg #[.string ⟨x.1.toArray⟩,.string ⟨x.2.1.toArray⟩,.string ⟨x.2.2.toArray⟩]
theorem Pf (w:World):(zeroValue 231).run Tryz.prog w=.ok (.agg #[.string ⟨#[]⟩,.string ⟨#[]⟩,.string ⟨#[]⟩]) w:=by kernel_rfl
abbrev rY (b:Nat) (D:Bs) (T:Mp ja):aT:=aT.ex fun m=>(ae b #[.bool true,.string ⟨D.toArray⟩,.map (some m)] 98).and (mG 234 KO m T)
section
variable {w0 w:World} {F0:List Nat} {L:List aT} {b:Nat} {D:Bs} {T:Mp ja}
theorem Sp.eT {m:Nat} (S:Sp w0 F0 w (ae b #[.bool true,.string ⟨D.toArray⟩,.map (some m)] 98::mG 234 KO m T::L)):Sp w0 F0 w (rY b D T::L):=(S.glue).jP m
theorem Vp (D:Bs) (S:Sp w0 F0 w L):Calls Tryz.prog 18 #[.string ⟨D.toArray⟩] w fun e w2=>∃ b,e=.returned (.pointer (some ⟨b,0,none⟩))∧Sp w0 F0 w2 (rY b D []::L):=by
 have hmm:=@run_makeMap Tryz.prog
 have HS:=Lib.hid ((S.zu 234 KO).box #[.bool true,.string ⟨D.toArray⟩,.map (some w.heap.size)] 98)
 rw [show (w.alloc (.map #[] 0)).heap.size=w.heap.size+1 by simp] at HS
 clear S
 go_enter Tryz.func18,Tryz.ntmps18
 go_wp2
 go_ret
 exact ⟨_,rfl,Sp.eT HS.out⟩
theorem CG (k n d:Bs) (l:Int) (w:World):Calls Tryz.prog 154 #[.string ⟨k.toArray⟩,.string ⟨n.toArray⟩,.string ⟨d.toArray⟩,.int .i64 l] w fun e w2=>e=.returned (.bool (decide (k.length=32∧n.length=12∧d.length≤4096∧0≤l∧l≤16384)))∧w=w2:=by
 go_enter Tryz.func154,Tryz.ntmps154
 go_wp2
 all_goals
  go_ret
  refine ⟨dw ?_,rfl⟩
  rw [Bool.eq_iff_iff]
  simp
  first | done | omega
theorem Ph {k n d s:Bs}:decide (k.length=32∧n.length=12∧d.length≤4096∧0≤((s.length:Int) - 16)∧((s.length:Int) - 16)≤16384)=decide (k.length=32∧n.length=12∧d.length≤4096∧16≤s.length∧s.length≤16400):=by
 rw [decide_eq_decide]
 omega
theorem Pj {k n d s:Bs}:decide (k.length=32∧n.length=12∧d.length≤4096∧0≤(s.length:Int)∧(s.length:Int)≤16384)=decide (k.length=32∧n.length=12∧d.length≤4096∧s.length≤16384):=by
 rw [decide_eq_decide]
 omega
theorem Sa (k n d s:Bs) (hk:k.length≤1000000) (hn:n.length≤1000000) (hs:s.length≤1000000) (S:Sp w0 F0 w (rY b D T::L)) :
  Calls Tryz.prog 114 #[.pointer (some ⟨b,0,none⟩),.string ⟨k.toArray⟩,.string ⟨n.toArray⟩,.string ⟨d.toArray⟩,.string ⟨s.toArray⟩] w fun e w2=>e=.returned (.tuple #[.string ⟨(jC uB T k n d s).1.toArray⟩,.int .i64 (jC uB T k n d s).2])∧Sp w0 F0 w2 (rY b D T::L):=by
 obtain ⟨m,S1⟩:=S.mD
 have S2:=S1.part
 have c0:=S2.cell
 have hs':(s.length:Int)≤1000000:=by omega
 have hl:=fun W (SW:Sp w0 F0 W (ae b #[.bool true,.string ⟨D.toArray⟩,.map (some m)] 98::mG 234 KO m T::L))=>SW.ak.map.ou (t:=96) AV Tryz.underlying96 (Pf _) (Pb k n (by unfold maxLen;omega) (by unfold maxLen;omega))
 have hlk:=hl w S2
 have lW:=Lib.hid (CG k n d ((s.length:Int) - 16) w)
 rw [Ph] at lW
 have HS2:=Lib.hid S2
 have HV:Hid (jC uB T k n d s=if k.length=32∧n.length=12∧d.length≤4096∧16≤s.length∧s.length≤16400 then
  match T.get (uB k n) with
  | none=>(([]:Bs),(20:Int))
  | some x=>if x.1=d∧x.2.2=s then (x.2.1,0) else ([],20)
 else (([]:Bs),(5:Int))):=rfl
 clear S S1 S2 hl hk hn hs
 by_cases hm:k.length=32∧n.length=12∧d.length≤4096∧16≤s.length∧s.length≤16400
 ·rw [decide_eq_true hm] at lW
  rw [if_pos hm] at HV
  clear hm
  cases hg:T.get (uB k n) with
  | none =>
   rw [Mp.has_eq,hg] at hlk
   rw [hg] at HV
   have MN:(Instr.lookup 96 (.map (some m)) (.agg #[.string ⟨k.toArray⟩,.string ⟨n.toArray⟩]) true).run Tryz.prog w=.ok (.tuple #[.agg #[.string ⟨#[]⟩,.string ⟨#[]⟩,.string ⟨#[]⟩],.bool false]) w:=hlk
   clear hlk hg
   go_enter Tryz.func114,Tryz.ntmps114
   go_wp2_with fail
   refine lW.out.mono ?_
   rintro e w1 ⟨rfl,rfl⟩
   go_wp2
   go_ret2
   rw [HV.out]
   exact ⟨rfl,(HS2.out.iq ((Ext.refl [] _).alloc _)).eT⟩
  | some x =>
   obtain ⟨x1,x2,x3⟩:=x
   rw [Mp.has_eq,hg] at hlk
   rw [hg] at HV
   have MN:(Instr.lookup 96 (.map (some m)) (.agg #[.string ⟨k.toArray⟩,.string ⟨n.toArray⟩]) true).run Tryz.prog w=.ok (.tuple #[.agg #[.string ⟨x1.toArray⟩,.string ⟨x2.toArray⟩,.string ⟨x3.toArray⟩],.bool true]) w:=hlk
   clear hlk hg
   dsimp only at HV
   by_cases h1:x1=d
   ·by_cases h2:x3=s
    ·rw [if_pos ⟨h1,h2⟩] at HV
     subst h1 h2
     go_enter Tryz.func114,Tryz.ntmps114
     go_wp2_with fail
     refine lW.out.mono ?_
     rintro e w1 ⟨rfl,rfl⟩
     go_wp2
     go_ret2
     rw [HV.out]
     exact ⟨rfl,(HS2.out.iq ((Ext.refl [] _).alloc _)).eT⟩
    ·rw [if_neg (fun h=>h2 h.2)] at HV
     have hb2:(x3 == s)=false:=by simpa using h2
     subst h1
     go_enter Tryz.func114,Tryz.ntmps114
     go_wp2_with fail
     refine lW.out.mono ?_
     rintro e w1 ⟨rfl,rfl⟩
     go_wp2
     go_ret2
     rw [HV.out]
     exact ⟨rfl,(HS2.out.iq ((Ext.refl [] _).alloc _)).eT⟩
   ·rw [if_neg (fun h=>h1 h.1)] at HV
    have hb1:(x1 == d)=false:=by simpa using h1
    go_enter Tryz.func114,Tryz.ntmps114
    go_wp2_with fail
    refine lW.out.mono ?_
    rintro e w1 ⟨rfl,rfl⟩
    go_wp2
    go_ret2
    rw [HV.out]
    exact ⟨rfl,(HS2.out.iq ((Ext.refl [] _).alloc _)).eT⟩
 ·rw [decide_eq_false hm] at lW
  rw [if_neg hm] at HV
  clear hm hlk
  go_enter Tryz.func114,Tryz.ntmps114
  go_wp2_with fail
  refine lW.out.mono ?_
  rintro e w1 ⟨rfl,rfl⟩
  go_wp2
  go_ret2
  rw [HV.out]
  exact ⟨rfl,HS2.out.eT⟩
theorem Sb (k n d t:Bs) (hk:k.length≤1000000) (hn:n.length≤1000000) (ht:t.length≤1000000) (hT:T.length≤1000000) (S:Sp w0 F0 w (rY b D T::L)) :
  Calls Tryz.prog 147 #[.pointer (some ⟨b,0,none⟩),.string ⟨k.toArray⟩,.string ⟨n.toArray⟩,.string ⟨d.toArray⟩,.string ⟨t.toArray⟩] w fun e w2=>e=.returned (.tuple #[.string ⟨(eD uB T D k n d t).1.1.toArray⟩,.int .i64 (eD uB T D k n d t).1.2])∧Sp w0 F0 w2 (rY b (eD uB T D k n d t).2.1 (eD uB T D k n d t).2.2::L):=by
 obtain ⟨m,S1⟩:=S.mD
 have S2:=S1.part
 have c0:=S2.cell
 have f0:=S2.free
 have l0:=S2.x8
 have ht':(t.length:Int)≤1000000:=by omega
 have hkey:=Pb k n (by unfold maxLen;omega) (by unfold maxLen;omega)
 have hlk:=S2.ak.map.ou (t:=96) AV Tryz.underlying96 (Pf _) hkey
 have HKEY:=Lib.hid hkey
 have lW:=Lib.hid (fun W=>CG k n d (t.length:Int) W)
 rw [Pj] at lW
 have HS2:=Lib.hid S2
 have Jb:=Lib.hid hT
 have HV:Hid (eD uB T D k n d t=if k.length=32∧n.length=12∧d.length≤4096∧t.length≤16384 then
  match T.get (uB k n) with
  | some x=>if x.1=d∧x.2.1=t then ((x.2.2,(0:Int)),D,T) else ((([]:Bs),(11:Int)),D,T)
  | none=>if D.length<t.length+16 then ((([]:Bs),(21:Int)),D,T) else ((D.take (t.length+16),(0:Int)),D.drop (t.length+16),T.put (uB k n) (d,t,D.take (t.length+16)))
 else ((([]:Bs),(5:Int)),D,T)):=rfl
 clear S S1 S2 hk hn ht hkey hT
 by_cases hm:k.length=32∧n.length=12∧d.length≤4096∧t.length≤16384
 ·rw [decide_eq_true hm] at lW
  rw [if_pos hm] at HV
  clear hm
  cases hg:T.get (uB k n) with
  | none =>
   rw [Mp.has_eq,hg] at hlk
   rw [hg] at HV
   have MN:(Instr.lookup 96 (.map (some m)) (.agg #[.string ⟨k.toArray⟩,.string ⟨n.toArray⟩]) true).run Tryz.prog w=.ok (.tuple #[.agg #[.string ⟨#[]⟩,.string ⟨#[]⟩,.string ⟨#[]⟩],.bool false]) w:=hlk
   clear hlk hg
   dsimp only at HV
   by_cases h1:D.length<t.length+16
   ·rw [if_pos h1] at HV
    have h1':(D.length:Int)<t.length+16:=by omega
    clear h1
    go_enter Tryz.func147,Tryz.ntmps147
    go_wp2_with fail
    refine (lW.out _).mono ?_
    rintro e w1 ⟨rfl,rfl⟩
    go_wp2
    go_ret2
    rw [HV.out]
    exact ⟨rfl,(HS2.out.iq ((Ext.refl [] _).alloc _)).eT⟩
   ·rw [if_neg h1] at HV
    have h1':(t.length:Int)+16≤D.length:=by omega
    obtain ⟨q,hq⟩:∃ q,q=t.length+16:=⟨_,rfl⟩
    have hq':(t.length:Int)+16=q:=by omega
    have hqD:(q:Int)≤D.length:=by omega
    rw [← hq] at HV
    have hc0:=iT D q
    have hc1:=nC D q D.length rfl
    have S4:=(HS2.out.set (o:=1) (.string ⟨(D.drop q).toArray⟩)).iq ((Ext.refl [] _).alloc (.cells #[.string ⟨#[]⟩,.string ⟨#[]⟩,.string ⟨#[]⟩] 231))
    obtain ⟨w5,hrun,S5,_⟩:=S4.ak.xD (t:=96) AV Tryz.underlying96 (by have:=Jb.out;unfold maxLen;omega) HKEY.out ((d,t,D.take q):ja)
    have hrun':(Instr.mapUpdate 96 (.map (some m)) (.agg #[.string ⟨k.toArray⟩,.string ⟨n.toArray⟩]) (.agg #[.string ⟨d.toArray⟩,.string ⟨t.toArray⟩,.string ⟨(D.take q).toArray⟩])).run Tryz.prog ((w.setCell ⟨b,1,none⟩ (.string ⟨(D.drop q).toArray⟩)).alloc (.cells #[.string ⟨#[]⟩,.string ⟨#[]⟩,.string ⟨#[]⟩] 231))=.ok () w5:=hrun
    have gB:=Lib.hid S5.ak
    clear S4 hrun S5 h1 hq
    go_enter Tryz.func147,Tryz.ntmps147
    go_wp2_with fail
    refine (lW.out _).mono ?_
    rintro e w1 ⟨rfl,rfl⟩
    go_wp2
    go_ret2
    rw [HV.out]
    exact ⟨rfl,gB.out.eT⟩
  | some x =>
   obtain ⟨x1,x2,x3⟩:=x
   rw [Mp.has_eq,hg] at hlk
   rw [hg] at HV
   have MN:(Instr.lookup 96 (.map (some m)) (.agg #[.string ⟨k.toArray⟩,.string ⟨n.toArray⟩]) true).run Tryz.prog w=.ok (.tuple #[.agg #[.string ⟨x1.toArray⟩,.string ⟨x2.toArray⟩,.string ⟨x3.toArray⟩],.bool true]) w:=hlk
   clear hlk hg
   dsimp only at HV
   have HMW:=Lib.hid (lW.out)
   by_cases h1:x1=d
   ·by_cases h2:x2=t
    ·rw [if_pos ⟨h1,h2⟩] at HV
     subst h1 h2
     go_enter Tryz.func147,Tryz.ntmps147
     go_wp2_with fail
     refine (lW.out _).mono ?_
     rintro e w1 ⟨rfl,rfl⟩
     go_wp2
     go_ret2
     rw [HV.out]
     exact ⟨rfl,(HS2.out.iq ((Ext.refl [] _).alloc _)).eT⟩
    ·rw [if_neg (fun h=>h2 h.2)] at HV
     have hb2:(x2 == t)=false:=by simpa using h2
     subst h1
     go_enter Tryz.func147,Tryz.ntmps147
     go_wp2_with fail
     refine (lW.out _).mono ?_
     rintro e w1 ⟨rfl,rfl⟩
     go_wp2
     go_ret2
     rw [HV.out]
     exact ⟨rfl,(HS2.out.iq ((Ext.refl [] _).alloc _)).eT⟩
   ·rw [if_neg (fun h=>h1 h.1)] at HV
    have hb1:(x1 == d)=false:=by simpa using h1
    go_enter Tryz.func147,Tryz.ntmps147
    go_wp2_with fail
    refine (lW.out _).mono ?_
    rintro e w1 ⟨rfl,rfl⟩
    go_wp2
    go_ret2
    rw [HV.out]
    exact ⟨rfl,(HS2.out.iq ((Ext.refl [] _).alloc _)).eT⟩
 ·rw [decide_eq_false hm] at lW
  rw [if_neg hm] at HV
  clear hm
  cases hg:T.get (uB k n) with
  | none =>
   rw [Mp.has_eq,hg] at hlk
   have MN:(Instr.lookup 96 (.map (some m)) (.agg #[.string ⟨k.toArray⟩,.string ⟨n.toArray⟩]) true).run Tryz.prog w=.ok (.tuple #[.agg #[.string ⟨#[]⟩,.string ⟨#[]⟩,.string ⟨#[]⟩],.bool false]) w:=hlk
   clear hlk hg
   go_enter Tryz.func147,Tryz.ntmps147
   go_wp2_with fail
   refine (lW.out _).mono ?_
   rintro e w1 ⟨rfl,rfl⟩
   go_wp2
   go_ret2
   rw [HV.out]
   exact ⟨rfl,(HS2.out.iq ((Ext.refl [] _).alloc _)).eT⟩
  | some x =>
   obtain ⟨x1,x2,x3⟩:=x
   rw [Mp.has_eq,hg] at hlk
   have MN:(Instr.lookup 96 (.map (some m)) (.agg #[.string ⟨k.toArray⟩,.string ⟨n.toArray⟩]) true).run Tryz.prog w=.ok (.tuple #[.agg #[.string ⟨x1.toArray⟩,.string ⟨x2.toArray⟩,.string ⟨x3.toArray⟩],.bool true]) w:=hlk
   clear hlk hg
   go_enter Tryz.func147,Tryz.ntmps147
   go_wp2_with fail
   refine (lW.out _).mono ?_
   rintro e w1 ⟨rfl,rfl⟩
   go_wp2
   go_ret2
   rw [HV.out]
   exact ⟨rfl,(HS2.out.iq ((Ext.refl [] _).alloc _)).eT⟩
end
end
end Go.Proofs.YtangbdahnmomlaaGreatDoor
