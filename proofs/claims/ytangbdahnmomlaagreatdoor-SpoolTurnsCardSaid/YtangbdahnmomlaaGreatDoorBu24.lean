/- ring: a row's bytes (row), and what bytes are read as (read). Conditions: the lengths fit. ring: a domain's state (State, Live), and how it is set -/
import Derived.BigQuiet
import Derived.Deep.DeepCutAuto
import Derived.Deep.QuietTactic
import Derived.Test.YtangbdahnmomlaaGreatDoorBu04
import Derived.Test.YtangbdahnmomlaaGreatDoorBu12
set_option linter.unnecessarySimpa false
set_option linter.unusedSimpArgs false
set_option linter.unusedVariables false
set_option maxHeartbeats 2000000
set_option maxRecDepth 100000
namespace Go.Proofs.YtangbdahnmomlaaGreatDoor
section
open Go.RowKit Go.Maps
structure jF where
 now:Nat
 old:Nat
deriving DecidableEq
abbrev jF.agg (s:jF):Value:=.agg #[.int .u64 s.now,.int .u64 s.old]
def bq (d:Bs) (s:jF):Bs:=aN (aN d++(bJ s.now++bJ s.old))
def bF (r:Rd):Bs×jF×Bool×Rd :=
 let a:=r.text 300
 let t:=Rd.text ⟨a.1,false⟩ 255
 let n:=t.2.num 1000000
 let o:=n.2.num 1000000
 (t.1,⟨n.1,o.1⟩,decide (o.2.done=0),a.2)
section
variable {w0 w:World} {F0:List Nat} {L:List aT}
theorem PK (d:Bs) (n o:Nat) (S:Sp w0 F0 w L) (hd:d.length≤1000000) (hn:n<18446744073709551616) (ho:o<18446744073709551616) :
  Calls Tryz.prog 110 #[.string ⟨d.toArray⟩,.agg #[.int .u64 n,.int .u64 o]] w fun e w2=>e=.returned (.string ⟨(bq d ⟨n,o⟩).toArray⟩)∧Sp w0 F0 w2 L:=by
 have HT:Hid (bq d ⟨n,o⟩=aN (aN d++(bJ n++bJ o))):=rfl
 have HD:=Lib.hid hd
 have HN:=Lib.hid hn
 have HO:=Lib.hid ho
 have l1:=aP d
 have l2:=aL n
 have l3:=aL o
 have HL:Hid ((aN d).length≤1000009∧(aN d++bJ n).length≤1000018∧(aN d++bJ n++bJ o).length≤1000027):=by refine ⟨by omega,?_,?_⟩ <;> simp only [List.length_append] <;> omega
 have S0:=Lib.hid ((S.box #[.int .u64 n,.int .u64 o] 53).Z8 203)
 clear hd hn ho l1 l2 l3 S
 go_enter Tryz.func110,Tryz.ntmps110
 go_wp2_with fail
 simp only [World.size_alloc] at S0
 refine (nD S0.out (by decide) (by have:=HD.out;omega)).mono ?_
 rintro e w1 ⟨rfl,S1⟩
 have c:=S1.ak.cell
 have bX:=Lib.hid S1
 clear S1 S0
 go_wp2_with fail
 refine (jv n bX.out (by have:=HL.out;simp;omega) HN.out).mono ?_
 rintro e w2 ⟨rfl,S2⟩
 have c2:=S2.ak.cell
 have HS2:=Lib.hid S2
 clear S2 bX c
 go_wp2_with fail
 refine (jv o HS2.out (by have:=HL.out;simp only [List.nil_append];omega) HO.out).mono ?_
 rintro e w3 ⟨rfl,S3⟩
 have bI:=Lib.hid S3
 clear S3 HS2 c2
 go_wp2_with fail
 refine (uN bI.out (by simp [aN,bJ])).mono ?_
 rintro e w4 ⟨rfl,S4⟩
 have gP:=Lib.hid S4.drop
 clear S4 bI
 go_wp2_with fail
 refine (oU gP.out _ (by have:=HL.out;simp at this ⊢;omega)).mono ?_
 rintro e w5 ⟨rfl,S5⟩
 have gB:=Lib.hid S5
 clear S5 gP
 go_wp2
 go_ret
 exact ⟨by rw [HT.out];rfl,gB.out⟩
theorem MZ (b:Nat) (r:Rd) (S:Sp w0 F0 w (xC 151 b r::L)) (hr:r.s.length≤1000000000) :
  Calls Tryz.prog 63 #[.pointer (some ⟨b,0,none⟩)] w fun e w2=>e=.returned (.tuple #[.string ⟨(bF r).1.toArray⟩,(bF r).2.1.agg,.bool (bF r).2.2.1])∧Sp w0 F0 w2 (xC 151 b (bF r).2.2.2::L):=by
 have HE:Hid (bF r=((Rd.text ⟨(r.text 300).1,false⟩ 255).1,⟨((Rd.text ⟨(r.text 300).1,false⟩ 255).2.num 1000000).1,(((Rd.text ⟨(r.text 300).1,false⟩ 255).2.num 1000000).2.num 1000000).1⟩,decide ((((Rd.text ⟨(r.text 300).1,false⟩ 255).2.num 1000000).2.num 1000000).2.done=0),(r.text 300).2)):=rfl
 have HR:=Lib.hid hr
 have S0:=Lib.hid (S.box #[.int .u64 0,.int .u64 0] 53).ak
 clear S hr
 go_enter Tryz.func63,Tryz.ntmps63
 go_wp2_with fail
 refine (lF 300 300 rfl S0.out (by have:=HR.out;omega) (by decide)).mono ?_
 rintro e w1 ⟨rfl,S1⟩
 have HT:=Lib.hid (ic r 300).2.2
 have bX:=Lib.hid S1
 clear S1 S0
 generalize r.text 300=a at *
 obtain ⟨t,r1⟩:=a
 dsimp only at *
 go_wp2_with fail
 refine (yx bX.out t).mono ?_
 rintro e w2 ⟨q,rfl,S2⟩
 have HS2:=Lib.hid S2
 clear S2 bX
 go_wp2_with fail
 refine (lF 255 255 rfl HS2.out (by have:=HT.out;have:=HR.out;dsimp only;omega) (by decide)).mono ?_
 rintro e w3 ⟨rfl,S3⟩
 have HT3:=Lib.hid (ic ⟨t,false⟩ 255).1
 have bI:=Lib.hid S3
 clear S3 HS2
 generalize Rd.text ⟨t,false⟩ 255=a at *
 obtain ⟨d,r2⟩:=a
 dsimp only at *
 go_wp2_with fail
 refine (kT 1000000 1000000 rfl bI.out (by have:=HT3.out;have:=HT.out;have:=HR.out;omega)).mono ?_
 rintro e w4 ⟨rfl,S4⟩
 have Xb:=Lib.hid (jq r2 1000000).1
 have gP:=Lib.hid S4
 clear S4 bI
 generalize r2.num 1000000=a at *
 obtain ⟨n,r3⟩:=a
 dsimp only at *
 go_wp2_with fail
 refine (kT 1000000 1000000 rfl gP.out (by have:=Xb.out;have:=HT3.out;have:=HT.out;have:=HR.out;omega)).mono ?_
 rintro e w5 ⟨rfl,S5⟩
 have gB:=Lib.hid S5
 clear S5 gP
 generalize r3.num 1000000=a at *
 obtain ⟨o,r4⟩:=a
 dsimp only at *
 go_wp2_with fail
 have S6:=gB.out.box #[.int .u64 n,.int .u64 o] 53
 generalize w5.alloc (.cells #[.int .u64 n,.int .u64 o] 53)=W at *
 generalize w5.heap.size=q8 at *
 have c8:=S6.cell
 have c3:=S6.nV.cell
 have f3:=S6.nV.free
 have fG:=Lib.hid S6
 clear S6 gB
 go_region_with (go_at_call 97;refine (DR fG.out.drew.ak).mono ?_;rintro e w2 ⟨rfl,rfl⟩)
 all_goals
  go_wp2
  have S7:=((fG.out.nV.set (o:=0) (.int .u64 n)).set (o:=1) (.int .u64 o)).drew
  generalize ((W.setCell ⟨w.heap.size,0,none⟩ (.int .u64 n)).setCell ⟨w.heap.size,1,none⟩ (.int .u64 o)).drew=W2 at *
  have c7:=S7.cell
  have jN:=Lib.hid S7
  clear S7 fG c8 c3 f3
  refine bodyPost_ret (v:=.tuple #[.string ⟨d.toArray⟩,.agg #[.int .u64 n,.int .u64 o],.bool (decide (r4.done=0))]) ?_ rfl ⟨by rw [HE.out],by rw [HE.out];exact (Sp.pick [_,_,_,_] [3] (by decide) (jN.out))⟩
  simp [results,Tryz.results63,go_sem,c7]
  rfl
end
end
section
open Go.RowKit Go.Maps
open Go.WideMaps (keyOf_string_mk)
def ax (M:Mp jF) (d:Bs):jF:=(M.get d).getD ⟨1,0⟩
abbrev bz (p d:Nat) (M:Mp jF):aT:=aT.ex fun m:Nat=>(ae p #[.pointer (some ⟨d,0,none⟩),.map (some m)] 142).and (mG 9 jF.agg m M)
theorem Ba (x:Bs) (hx:x.length≤maxLen):keyOf Tryz.prog 9 (.string ⟨x.toArray⟩)=some (.string x):=keyOf_string_mk Tryz.underlying9 (s:=⟨x.toArray⟩) hx
theorem su:Keyed Tryz.prog 9:=string_keyed Tryz.underlying9
theorem Tk (w:World):(zeroValue 53).run Tryz.prog w=.ok (jF.agg ⟨0,0⟩) w:=by kernel_rfl
section
variable {w0 w:World} {F0:List Nat} {L:List aT} {p d:Nat} {M:Mp jF}
theorem VQ (S:Sp w0 F0 w L):Calls Tryz.prog 70 #[] w fun e w2=>e=.returned (.agg #[.int .u64 1,.int .u64 0])∧Sp w0 F0 w2 L:=by
 have HS:=Lib.hid S
 clear S
 go_enter Tryz.func70,Tryz.ntmps70
 go_wp2
 exact bodyPost_ret (v:=.agg #[.int .u64 1,.int .u64 0]) (by simp [results,Tryz.results70,go_sem]) rfl ⟨rfl,HS.out.new _⟩
theorem jl (x:Bs) (S:Sp w0 F0 w (bz p d M::L)) (hx:x.length≤maxLen) :
  Calls Tryz.prog 40 #[.pointer (some ⟨p,0,none⟩),.string ⟨x.toArray⟩] w fun e w2=>e=.returned (ax M x).agg∧Sp w0 F0 w2 (bz p d M::L):=by
 obtain ⟨m,S1⟩:=S.mD
 have S2:=(S1.part.box #[.int .u64 0,.int .u64 0] 53).dJ
 have hl:=S2.map.ou (t:=140) su Tryz.underlying140 (Tk _) (Ba x hx)
 have c:=S1.part.cell
 have hlt:=S1.part.x8
 have HS:=Lib.hid S
 clear S S1 S2 hx
 cases hg:M.get x with
 | none =>
  have hh:M.has x=false:=by rw [Mp.has_eq,hg];rfl
  rw [hg,hh] at hl
  have HE:Hid (ax M x=⟨1,0⟩):=by simp [ax,hg,Hid]
  clear hg hh
  dsimp only [Option.map_none,Option.getD_none] at hl
  go_enter Tryz.func40,Tryz.ntmps40
  go_wp2_with (go_at_call 70;refine (VQ ((HS.out.box #[.int .u64 0,.int .u64 0] 53).new _)).mono ?_;rintro e w2 ⟨rfl,S2⟩;have c2:=S2.cell;have f2:=S2.free;have HS2:=Lib.hid S2;clear S2)
  have S3:=(HS2.out.set (o:=0) (.int .u64 1)).set (o:=1) (.int .u64 0)
  have c3:=S3.cell
  exact bodyPost_ret (v:=.agg #[.int .u64 1,.int .u64 0]) (by simp [results,Tryz.results40,go_sem,c3]) rfl ⟨by rw [HE.out];rfl,S3.drop⟩
 | some s =>
  obtain ⟨n,o⟩:=s
  have hh:M.has x=true:=by rw [Mp.has_eq,hg];rfl
  rw [hg,hh] at hl
  have HE:Hid (ax M x=⟨n,o⟩):=by simp [ax,hg,Hid]
  clear hg hh
  dsimp only [Option.map_some,Option.getD_some] at hl
  go_enter Tryz.func40,Tryz.ntmps40
  go_wp2
  exact bodyPost_ret (v:=.agg #[.int .u64 n,.int .u64 o]) (by simp [results,Tryz.results40,go_sem]) rfl ⟨by rw [HE.out],(HS.out.new _).new _⟩
theorem M0 (x:Bs) (n:Nat) (S:Sp w0 F0 w (bz p d M::L)) (hx:x.length≤maxLen) (hn:n<18446744073709551616) :
  Calls Tryz.prog 77 #[.pointer (some ⟨p,0,none⟩),.string ⟨x.toArray⟩,.int .u64 n] w fun e w2=>e=.returned (.bool (decide (0<n) && (decide (n=(ax M x).now) || decide (n=(ax M x).old))))∧Sp w0 F0 w2 (bz p d M::L):=by
 have HS:=Lib.hid S
 have HX:=Lib.hid hx
 clear S hx
 go_enter Tryz.func77,Tryz.ntmps77
 go_wp2_with fail
 refine (jl x HS.out HX.out).mono ?_
 rintro e w2 ⟨rfl,S2⟩
 have HS2:=Lib.hid (S2.new (.cells #[.int .u64 (ax M x).now,.int .u64 (ax M x).old] 53))
 clear S2
 generalize hs:ax M x=s at *
 have HE:=Lib.hid hs
 clear hs
 obtain ⟨a,b⟩:=s
 dsimp only at *
 go_wp2
 all_goals
  go_ret
  refine ⟨dw ?_,HS2.out⟩
  rw [HE.out,Bool.eq_iff_iff]
  simp
  omega
def bn:Bs:=[114,105,110,103]
def bO (D:Dk) (M:Mp jF) (x:Bs) (s:jF):Dk×Mp jF×Int :=
 if s=ax M x then (D,M,0)
 else if (D.append bn (bq x s)).2≠0 then ((D.append bn (bq x s)).1,M,(D.append bn (bq x s)).2)
 else if (D.append bn (bq x s)).1.sync.2≠0 then ((D.append bn (bq x s)).1.sync.1,M,(D.append bn (bq x s)).1.sync.2)
 else ((D.append bn (bq x s)).1.sync.1,M.put x s,0)
theorem jb (x:Bs) (s:jF):(bq x s).length≤x.length+36:=by
 unfold bq
 have h1:=aP (aN x++(bJ s.now++bJ s.old))
 have h2:=aP x
 have h3:=aL s.now
 have h4:=aL s.old
 simp only [List.length_append] at h1
 omega
theorem Gs (x:Bs) (n o k:Nat) (D:Dk) (S:Sp w0 F0 w (bz p d M::aF d D::L)) (hx:x.length≤1000000) (hn:n<18446744073709551616) (ho:o<18446744073709551616) (hD:D.Roomy k) (hk:k≤800000000) (hM:M.length≤1000000) :
  Calls Tryz.prog 74 #[.pointer (some ⟨p,0,none⟩),.string ⟨x.toArray⟩,.agg #[.int .u64 n,.int .u64 o]] w fun e w2=>e=.returned (.int .i64 (bO D M x ⟨n,o⟩).2.2)∧Sp w0 F0 w2 (bz p d (bO D M x ⟨n,o⟩).2.1::aF d (bO D M x ⟨n,o⟩).1::L):=by
 have HX:=Lib.hid hx
 have HN:=Lib.hid hn
 have HO:=Lib.hid ho
 have HM:=Lib.hid hM
 have HA:Hid (D.Small∧(D.append bn (bq x ⟨n,o⟩)).1.Small):=by
  have h1:=hD.append bn (bq x ⟨n,o⟩)
  have h2:=jb x ⟨n,o⟩
  exact ⟨hD.small (by omega),h1.small (by omega)⟩
 obtain ⟨⟨a,b⟩,hs⟩:∃ s,ax M x=s:=⟨_,rfl⟩
 have HE:=Lib.hid hs
 have S1:=S.box #[.int .u64 n,.int .u64 o] 53
 have c1:=S1.cell
 have bX:=Lib.hid S1.ak
 clear hx hn ho hM hD hk S S1 hs
 go_enter Tryz.func74,Tryz.ntmps74
 go_wp2_with fail
 generalize w.alloc (.cells #[.int .u64 n,.int .u64 o] 53)=W at *
 generalize w.heap.size=q at *
 have hcase:(((n:Int) == (a:Int))=true∧((o:Int) == (b:Int))=true)∨((n:Int) == (a:Int))=false∨(((n:Int) == (a:Int))=true∧((o:Int) == (b:Int))=false):=by
  cases (n:Int) == (a:Int) <;> cases (o:Int) == (b:Int) <;> simp
 rcases hcase with ⟨e1,e2⟩ | hne
 ·have HV:Hid (bO D M x ⟨n,o⟩=(D,M,0)):=by
   simp only [beq_iff_eq,Int.ofNat_inj] at e1 e2
   unfold bO
   rw [if_pos (by rw [HE.out,e1,e2])]
   trivial
  go_region_with (go_at_call 40;refine (jl x bX.out.drew (by have:=HX.out;unfold maxLen;omega)).mono ?_;rw [HE.out];rintro e w2 ⟨rfl,S2⟩;have c2:=S2.ak.cell;have HS2:=Lib.hid S2;clear S2)
  all_goals
   go_wp2
   go_ret
   rw [HV.out]
   exact ⟨rfl,(Sp.pick [_,_,_] [0,2] (by decide) (HS2.out))⟩
 ·have HV : Hid (bO D M x ⟨n, o⟩ = if (D.append bn (bq x ⟨n, o⟩)).2 ≠ 0 then ((D.append bn (bq x ⟨n, o⟩)).1, M, (D.append bn (bq x ⟨n, o⟩)).2)
      else if (D.append bn (bq x ⟨n,o⟩)).1.sync.2≠0 then ((D.append bn (bq x ⟨n,o⟩)).1.sync.1,M,(D.append bn (bq x ⟨n,o⟩)).1.sync.2)
      else ((D.append bn (bq x ⟨n,o⟩)).1.sync.1,M.put x ⟨n,o⟩,0)):=by
   unfold bO
   rw [if_neg]
   ·trivial
   ·rw [HE.out,jF.mk.injEq]
    rcases hne with h | ⟨_,h⟩ <;> simp at h <;> omega
  go_cut [13] (fun v wx=>v=.bool false∧Sp w0 F0 wx (bz p d M::ae q #[.int .u64 n,.int .u64 o] 53::aF d D::L))
  case first =>
   rcases hne with e1 | ⟨e1,e2⟩
   all_goals
    go_region_with (go_at_call 40;refine (jl x bX.out.drew (by have:=HX.out;unfold maxLen;omega)).mono ?_;rw [HE.out];rintro e w2 ⟨rfl,S2⟩;have c2:=S2.ak.cell;have HS2:=Lib.hid S2;clear S2)
    all_goals
     clear c1 c2
     go_wp2_with fail
     go_meet
     exact ⟨rfl,HS2.out⟩
  case rest =>
   obtain ⟨rfl,S3⟩:=hcut
   clear hne bX c1
   obtain ⟨m,S4⟩:=S3.mD
   have c4:=S4.part.cell
   have l4:=S4.part.x8
   have gP:=Lib.hid S4.part
   have q4:=(Sp.pick [_,_,_,_] [2] (by decide) (S4.part)).cell
   have bI:=Lib.hid S3
   clear S3 S4
   go_wp2_with fail
   go_cut [7] (fun v wx=>v=.int .i64 (D.append bn (bq x ⟨n,o⟩)).2∧Sp w0 F0 wx (bz p d M::ae q #[.int .u64 n,.int .u64 o] 53::aF d (D.append bn (bq x ⟨n,o⟩)).1::L))
   case first =>
    go_region_with (first | (go_at_call 110;refine (PK x n o gP.out.drew HX.out HN.out HO.out).mono ?_;rintro e w2 ⟨rfl,S5⟩;have c5:=S5.cell;have q5:=(Sp.pick [_,_,_,_] [2] (by decide) (S5)).cell;have gB:=Lib.hid S5;clear S5) | (go_at_call 78;refine (zx bn (bq x ⟨n,o⟩) gB.out.nV HA.out.1 (by decide) (by have:=jb x ⟨n,o⟩;have:=HX.out;omega)).mono ?_;rintro e w3 ⟨rfl,S6⟩;have fG:=Lib.hid (Sp.pick [_,_,_,_] [1,2,3,0] (by decide) (S6));clear S6))
    all_goals
     clear c4 q4 c5 q5
     go_wp2_with fail
     go_meet
     exact ⟨rfl,fG.out.glue.jP m⟩
   case rest =>
    obtain ⟨rfl,S7⟩:=hcut
    clear bI gP c4 q4 l4
    obtain ⟨m7,S8⟩:=S7.mD
    have HA1:=Lib.hid HA.out.2
    clear HA
    generalize D.append bn (bq x ⟨n,o⟩)=A at *
    obtain ⟨D1,e1⟩:=A
    dsimp only at *
    have c8:=S8.part.cell
    have tV:=Lib.hid S8.part
    clear S7 S8
    by_cases he:e1=0
    ·subst he
     go_wp2_with fail
     refine (yz tV.out.nV HA1.out).mono ?_
     rintro e w3 ⟨rfl,S9⟩
     generalize D1.sync=B at *
     obtain ⟨D2,e2⟩:=B
     dsimp only at *
     by_cases he:e2=0
     ·subst he
      have c9:=(Sp.pick [_,_,_,_] [1] (by decide) (S9)).cell
      have q9:=(Sp.pick [_,_,_,_] [3] (by decide) (S9)).cell
      obtain ⟨w4,hrun,UB,_⟩:=((Sp.pick [_,_,_,_] [2,1,0] (by decide) (S9))).drew.xD (t:=140) su Tryz.underlying140 (by have:=HM.out;unfold maxLen;omega) (Ba x (by have:=HX.out;unfold maxLen;omega)) ⟨n,o⟩
      have zg:=Lib.hid UB.ak
      have Uz:Hid (bO D M x ⟨n,o⟩=(D2,M.put x ⟨n,o⟩,0)):=by rw [HV.out];simp [Hid]
      clear S9 UB c8 tV
      go_wp2_with fail
      go_region
      all_goals
       go_wp2
       go_ret
       rw [Uz.out]
       exact ⟨rfl,zg.out.glue.jP m7⟩
     ·have t2:(e2 != 0)=true:=by simpa using he
      have uj:=Lib.hid (Sp.pick [_,_,_,_] [1,2,0] (by decide) (S9))
      have gq:Hid (bO D M x ⟨n,o⟩=(D2,M,e2)):=by rw [HV.out];simp [he,Hid]
      clear S9 he
      go_wp2
      go_ret
      rw [gq.out]
      exact ⟨rfl,uj.out.glue.jP m7⟩
    ·have t1:(e1 != 0)=true:=by simpa using he
     have xK:Hid (bO D M x ⟨n,o⟩=(D1,M,e1)):=by rw [HV.out];simp [he,Hid]
     clear he
     go_wp2
     go_ret
     rw [xK.out]
     exact ⟨rfl,((Sp.pick [_,_,_,_] [0,1,3] (by decide) (tV.out))).glue.jP m7⟩
end
end
section
open Go.RowKit Go.Maps
def fA (D:Dk) (M:Mp jF) (x:Bs):Dk×Mp jF×Nat×Int :=
 if 255<x.length then (D,M,0,5)
 else if (ax M x).old≠0 then (D,M,0,11)
 else if (ax M x).now=1000000 then (D,M,0,21)
 else if (bO D M x ⟨(ax M x).now+1,(ax M x).now⟩).2.2≠0 then ((bO D M x ⟨(ax M x).now+1,(ax M x).now⟩).1,(bO D M x ⟨(ax M x).now+1,(ax M x).now⟩).2.1,0,(bO D M x ⟨(ax M x).now+1,(ax M x).now⟩).2.2)
 else ((bO D M x ⟨(ax M x).now+1,(ax M x).now⟩).1,(bO D M x ⟨(ax M x).now+1,(ax M x).now⟩).2.1,(ax M x).now+1,0)
def fU (D:Dk) (M:Mp jF) (x:Bs):Dk×Mp jF×Int :=
 if 255<x.length then (D,M,5)
 else if (ax M x).old=0 then (D,M,10)
 else bO D M x ⟨(ax M x).now,0⟩
def bH (x:Bs) (n:Nat):Bs:=aN x++bJ n
def sw (M:Mp jF):Prop:=M.length≤1000000∧∀ p∈M,p.2.now≤1000000∧p.2.old≤1000000
theorem sw.state {M:Mp jF} (h:sw M) (x:Bs):(ax M x).now≤1000000∧(ax M x).old≤1000000:=by
 unfold ax Mp.get
 cases hf:M.find? fun p=>p.1 == x with
 | none=>simp
 | some p=>exact h.2 p (List.mem_of_find?_eq_some hf)
section
variable {w0 w:World} {F0:List Nat} {L:List aT} {p d:Nat} {M:Mp jF}
theorem PL (x:Bs) (n:Nat) (S:Sp w0 F0 w L) (hx:x.length≤1000000) (hn:n<18446744073709551616) :
  Calls Tryz.prog 104 #[.string ⟨x.toArray⟩,.int .u64 n] w fun e w2=>e=.returned (.string ⟨(bH x n).toArray⟩)∧Sp w0 F0 w2 L:=by
 have HS:=Lib.hid S
 have HX:=Lib.hid hx
 have HN:=Lib.hid hn
 have HK:Hid (bH x n=aN x++bJ n):=rfl
 have hadd:=dZ (aN x) (bJ n) (by have:=aP x;have:=aL n;unfold maxLen;omega)
 clear S hx hn
 go_enter Tryz.func104,Tryz.ntmps104
 go_wp2_with fail
 refine (oU HS.out x (by have:=HX.out;omega)).mono ?_
 rintro e w1 ⟨rfl,S1⟩
 have bX:=Lib.hid S1
 clear S1
 go_wp2_with fail
 refine (OC bX.out n HN.out).mono ?_
 rintro e w2 ⟨rfl,S2⟩
 have HS2:=Lib.hid S2
 clear S2
 go_wp2
 go_ret
 exact ⟨by rw [HK.out];rfl,HS2.out⟩
theorem Jy (x:Bs) (k:Nat) (D:Dk) (S:Sp w0 F0 w (bz p d M::aF d D::L)) (hx:x.length≤1000000) (hM:sw M) (hD:D.Roomy k) (hk:k≤800000000) :
  Calls Tryz.prog 43 #[.pointer (some ⟨p,0,none⟩),.string ⟨x.toArray⟩] w fun e w2=>e=.returned (.tuple #[.int .u64 (fA D M x).2.2.1,.int .i64 (fA D M x).2.2.2])∧Sp w0 F0 w2 (bz p d (fA D M x).2.1::aF d (fA D M x).1::L):=by
 have HS:=Lib.hid S
 have HX:=Lib.hid hx
 have HM:=Lib.hid hM
 have HD:=Lib.hid hD
 have HK:=Lib.hid hk
 have hb:=hM.state x
 have hx':(x.length:Int)≤1000000:=by omega
 have HB:Hid (fA D M x=_):=Lib.hid (fA.eq_1 D M x)
 clear S hM hD hk hx
 go_enter Tryz.func43,Tryz.ntmps43
 go_wp2_with fail
 refine (jl x HS.out (by have:=HX.out;unfold maxLen;omega)).mono ?_
 rintro e w2 ⟨rfl,S2⟩
 generalize hs:ax M x=s at *
 have HE:=Lib.hid hs
 clear hs HS
 obtain ⟨a,b⟩:=s
 dsimp only at *
 have HS2:=Lib.hid (S2.box (.mk [.int .u64 a,.int .u64 b]) 53).dJ.dJ
 have ha:(a:Int)≤1000000:=by omega
 have hb':(b:Int)≤1000000:=by omega
 have HA:=Lib.hid hb.1
 clear S2 hb
 go_wp2_with (go_at_call 74;refine (Gs x (a+1) a k D HS2.out HX.out (by have:=HA.out;omega) (by have:=HA.out;omega) HD.out HK.out HM.out.1).mono ?_;rintro e w3 ⟨rfl,S3⟩;have c3:=(Sp.pick [_,_,_] [2] (by decide) (S3)).cell;have bI:=Lib.hid S3;clear S3)
 all_goals
  go_ret2
  rw [HB.out]
  simp only [bne_iff_ne,ne_eq,bne_eq_false_iff_eq,beq_iff_eq,beq_eq_false_iff_ne] at *
  repeat' split
  all_goals first
   | (exfalso;omega)
   | exact ⟨rfl,(Sp.pick [_,_,_] [0,1] (by decide) (HS2.out))⟩
   | exact ⟨rfl,(Sp.pick [_,_,_] [0,1] (by decide) (bI.out))⟩
theorem PM (x:Bs) (k:Nat) (D:Dk) (S:Sp w0 F0 w (bz p d M::aF d D::L)) (hx:x.length≤1000000) (hM:sw M) (hD:D.Roomy k) (hk:k≤800000000) :
  Calls Tryz.prog 42 #[.pointer (some ⟨p,0,none⟩),.string ⟨x.toArray⟩] w fun e w2=>e=.returned (.int .i64 (fU D M x).2.2)∧Sp w0 F0 w2 (bz p d (fU D M x).2.1::aF d (fU D M x).1::L):=by
 have HS:=Lib.hid S
 have HX:=Lib.hid hx
 have HM:=Lib.hid hM
 have HD:=Lib.hid hD
 have HK:=Lib.hid hk
 have hb:=hM.state x
 have hx':(x.length:Int)≤1000000:=by omega
 have HB:Hid (fU D M x=_):=Lib.hid (fU.eq_1 D M x)
 clear S hM hD hk hx
 go_enter Tryz.func42,Tryz.ntmps42
 go_wp2_with fail
 refine (jl x HS.out (by have:=HX.out;unfold maxLen;omega)).mono ?_
 rintro e w2 ⟨rfl,S2⟩
 generalize hs:ax M x=s at *
 have HE:=Lib.hid hs
 clear hs HS
 obtain ⟨a,b⟩:=s
 dsimp only at *
 have HS2:=Lib.hid (S2.box (.mk [.int .u64 a,.int .u64 b]) 53).dJ.dJ
 have ha:(a:Int)≤1000000:=by omega
 have hb':(b:Int)≤1000000:=by omega
 have HA:=Lib.hid hb.1
 clear S2 hb
 go_wp2_with (go_at_call 74;refine (Gs x a 0 k D HS2.out HX.out (by have:=HA.out;omega) (by decide) HD.out HK.out HM.out.1).mono ?_;rintro e w3 ⟨rfl,S3⟩;have bI:=Lib.hid S3;clear S3)
 all_goals
  go_ret
  rw [HB.out]
  simp only [beq_iff_eq,beq_eq_false_iff_ne] at *
  repeat' split
  all_goals first
   | (exfalso;omega)
   | exact ⟨rfl,(Sp.pick [_,_,_] [0,1] (by decide) (HS2.out))⟩
   | exact ⟨rfl,(Sp.pick [_,_,_] [0,1] (by decide) (bI.out))⟩
end
end
section
open Go.RowKit Go.Maps
def iU:Nat→Bs→List (Bs×jF)×Bs
 | 0,s=>([],s)
 | f+1,s=>if (bF ⟨s,false⟩).2.2.1 then (((bF ⟨s,false⟩).1,(bF ⟨s,false⟩).2.1)::(iU f (bF ⟨s,false⟩).2.2.2.s).1,(iU f (bF ⟨s,false⟩).2.2.2.s).2) else ([],s)
def iH (l:List (Bs×jF)):Mp jF:=l.foldl (fun M p=>M.put p.1 p.2) []
def bU (D:Dk):Bs:=(D.now.get bn).getD []
def iI (s:Bs):List (Bs×jF):=(iU (s.length+1) s).1
def eZ (s:Bs):Bs:=(iU (s.length+1) s).2
def bB (D:Dk):Dk×Option (Mp jF)×Int :=
 if D.now.has bn=true∧eZ (bU D)=[] then (D,some (iH (iI (bU D))),0)
 else if (D.write bn ((bU D).take ((bU D).length - (eZ (bU D)).length))).2≠0 then ((D.write bn ((bU D).take ((bU D).length - (eZ (bU D)).length))).1,none,(D.write bn ((bU D).take ((bU D).length - (eZ (bU D)).length))).2)
 else if (D.write bn ((bU D).take ((bU D).length - (eZ (bU D)).length))).1.sync.2≠0 then ((D.write bn ((bU D).take ((bU D).length - (eZ (bU D)).length))).1.sync.1,none,(D.write bn ((bU D).take ((bU D).length - (eZ (bU D)).length))).1.sync.2)
 else ((D.write bn ((bU D).take ((bU D).length - (eZ (bU D)).length))).1.sync.1,some (iH (iI (bU D))),0)
def Gt (w0:World) (F0:List Nat) (L:List aT) (d:Nat) (R:Dk×Option (Mp jF)×Int) (e:Ending) (w2:World):Prop :=
 match R.2.1 with
 | none=>e=.returned (.tuple #[.pointer none,.int .i64 R.2.2])∧Sp w0 F0 w2 (aF d R.1::L)
 | some M=>∃ p,e=.returned (.tuple #[.pointer (some ⟨p,0,none⟩),.int .i64 R.2.2])∧Sp w0 F0 w2 (bz p d M::aF d R.1::L)
theorem Gu {r:Rd} (h:r.done=0):r.bad=false∧r.s=[]:=by
 unfold Rd.done at h
 split at h
 ·cases h
 ·split at h
  ·rename_i h1 h2
   exact ⟨by simpa using h1,by simpa using h2⟩
  ·cases h
theorem Ej:(bF ⟨[],false⟩).2.2.1=false:=by decide
theorem sD {s:Bs} (h:(bF ⟨s,false⟩).2.2.1=true) :
  (bF ⟨s,false⟩).2.2.2.bad=false∧s=bq (bF ⟨s,false⟩).1 (bF ⟨s,false⟩).2.1++(bF ⟨s,false⟩).2.2.2.s∧(bF ⟨s,false⟩).2.2.2.s.length<s.length∧(bF ⟨s,false⟩).1.length≤255∧(bF ⟨s,false⟩).2.1.now≤1000000∧(bF ⟨s,false⟩).2.1.old≤1000000:=by
 unfold bF at h ⊢
 simp only [decide_eq_true_eq] at h ⊢
 obtain ⟨b3,e3⟩:=Gu h
 obtain ⟨b2,e2⟩:=jQ b3
 obtain ⟨b1,e1⟩:=jQ b2
 obtain ⟨b0,e0⟩:=lq b1
 have l1:=iL ⟨(Rd.text ⟨s,false⟩ 300).1,false⟩ 255
 have l2:=jB (Rd.text ⟨(Rd.text ⟨s,false⟩ 300).1,false⟩ 255).2 1000000
 have l3:=jB ((Rd.text ⟨(Rd.text ⟨s,false⟩ 300).1,false⟩ 255).2.num 1000000).2 1000000
 have hb:(Rd.text ⟨s,false⟩ 300).2.bad=false:=by
  cases hh:(Rd.text ⟨s,false⟩ 300).2.bad with
  | false=>rfl
  | true =>
   exfalso
   have ht:(Rd.text ⟨s,false⟩ 300).1=[]:=by
    unfold Rd.text Rd.take at hh ⊢
    split
    ·rfl
    ·rename_i hc
     rw [if_neg hc] at hh
     cases hh
   dsimp only at e0
   rw [ht] at e0
   simp [aN,bJ] at e0
 obtain ⟨_,ea⟩:=lq hb
 have hl:=(ic ⟨s,false⟩ 300).2.1 hb
 dsimp only at *
 refine ⟨hb,?_,hl,l1,l2,l3⟩
 rw [e3,List.append_nil] at e2
 rw [e2] at e1
 rw [e1] at e0
 unfold bq
 rw [← e0]
 exact ea
theorem BX (f:Nat) (s:Bs) (h:s.length<f):iU (f+1) s=iU f s:=by
 induction f generalizing s with
 | zero=>omega
 | succ f ih =>
  conv=>lhs;rw [iU]
  conv=>rhs;rw [iU]
  split
  ·rename_i h1
   obtain ⟨_,_,h2,_⟩:=sD h1
   rw [ih _ (by omega)]
  ·rfl
theorem um {s:Bs} (h:(bF ⟨s,false⟩).2.2.1=true):iI s=((bF ⟨s,false⟩).1,(bF ⟨s,false⟩).2.1)::iI (bF ⟨s,false⟩).2.2.2.s∧eZ s=eZ (bF ⟨s,false⟩).2.2.2.s:=by
 obtain ⟨_,_,h2,_⟩:=sD h
 have h3:∀ f,(bF ⟨s,false⟩).2.2.2.s.length<f→iU f (bF ⟨s,false⟩).2.2.2.s=iU ((bF ⟨s,false⟩).2.2.2.s.length+1) (bF ⟨s,false⟩).2.2.2.s:=by
  intro f hf
  induction f with
  | zero=>omega
  | succ f ih =>
   by_cases hh:(bF ⟨s,false⟩).2.2.2.s.length<f
   ·rw [BX _ _ hh,ih hh]
   ·rw [show f=(bF ⟨s,false⟩).2.2.2.s.length by omega]
 unfold iI eZ
 rw [iU,if_pos h,h3 _ h2]
 exact ⟨rfl,rfl⟩
theorem uq {s:Bs} (h:(bF ⟨s,false⟩).2.2.1=false):iI s=[]∧eZ s=s:=by
 unfold iI eZ
 rw [iU,if_neg (by simp [h])]
 exact ⟨rfl,rfl⟩
theorem BZ (l:List (Bs×jF)) (x:Bs×jF):iH (l++[x])=(iH l).put x.1 x.2:=by simp [iH]
theorem zh (l:List (Bs×jF)):(iH l).length≤l.length:=by
 have:∀ (l:List (Bs×jF)) (M:Mp jF),(l.foldl (fun M p=>M.put p.1 p.2) M).length≤M.length+l.length:=by
  intro l
  induction l with
  | nil=>intro M;simp
  | cons x l ih =>
   intro M
   have h1:=ih (M.put x.1 x.2)
   have h2:=Mp.dB M x.1 x.2
   simp only [List.foldl_cons,List.length_cons]
   omega
 have:=this l []
 simpa [iH] using this
section
variable {w0 w:World} {F0:List Nat} {L:List aT} {d:Nat}
theorem M5 (k:Nat) (D:Dk) (S:Sp w0 F0 w (aF d D::L)) (hD:D.Roomy k) (hk:k≤400000000) :
  Calls Tryz.prog 35 #[.pointer (some ⟨d,0,none⟩)] w fun e w2=>Gt w0 F0 L d (bB D) e w2:=by
 have HO:Hid (bB D=_):=Lib.hid (bB.eq_1 D)
 have HF:Hid (bU D=(D.now.get bn).getD []):=rfl
 have hl:(bU D).length≤k:=hD.file bn
 have HL:Hid ((bU D).length≤400000000):=Nat.le_trans hl hk
 have HW:Hid (D.Small∧∀ x:Bs,x.length≤400000000→(D.write bn x).1.Small):=by
  refine ⟨hD.small (by omega),fun x hx=>(hD.write bn x).small (by omega)⟩
 have HS:=Lib.hid S
 have hmm:=@run_makeMap Tryz.prog
 clear S hD hk hl
 go_enter Tryz.func35,Tryz.ntmps35
 go_wp2_with fail
 refine (Ku bn HS.out (by decide)).mono ?_
 rw [← HF.out]
 rintro e w2 ⟨rfl,rfl⟩
 generalize bU D=s at *
 obtain ⟨ec,Il⟩:∃ c:Int,(if D.now.has bn then 0 else 10)=c:=⟨_,rfl⟩
 rw [Il]
 have Ul:Hid ((D.now.has bn=true∧ec=0)∨(D.now.has bn=false∧ec=10)):=by
  cases hh:D.now.has bn <;> simp [hh] at Il <;> simp [Il.symm,Hid]
 clear Il
 go_wp2_with fail
 have S1:=(HS.out.zu 9 jF.agg).box #[.pointer (some ⟨d,0,none⟩),.map (some w.heap.size)] 142
 simp only [World.size_alloc] at S1
 refine (yx S1 s).mono ?_
 rintro e w3 ⟨i,rfl,S3⟩
 clear S1 HS hmm
 generalize w.heap.size+1=p at *
 generalize w.heap.size=m at *
 have bI:=Lib.hid S3
 clear S3
 go_wp2_with fail
 go_loopw [8] (fun v wr=>∃ (dn:List (Bs×jF)) (r:Bs),iI s=dn++iI r∧eZ s=eZ r∧v=.int .i64 ((s.length:Int) - r.length)∧r.length+dn.length≤s.length∧Sp w0 F0 wr (xC 151 i ⟨r,false⟩::ae p #[.pointer (some ⟨d,0,none⟩),.map (some m)] 142::mG 9 jF.agg m (iH dn)::aF d D::L)) (fun v _=>s.length - (intOf v).toNat)
 case atStart=>exact ⟨[],s,rfl,rfl,by simp,by simp,bI.out⟩
 case round =>
  obtain ⟨dn,r,h1,h2,rfl,h4,S4⟩:=hrel
  have H1:=Lib.hid h1
  have H2:=Lib.hid h2
  have H4:=Lib.hid h4
  have gP:=Lib.hid S4
  clear h1 h2 h4 S4 bI
  go_wp2_with fail
  refine (MZ i ⟨r,false⟩ gP.out (by have:=HL.out;have:=H4.out;dsimp only;omega)).mono ?_
  have HQ:=Lib.hid (@sD r)
  have OQ:=Lib.hid (@um r)
  have zz:=Lib.hid (@uq r)
  generalize bF ⟨r,false⟩=q at *
  obtain ⟨x,⟨a,b⟩,ok,r2⟩:=q
  dsimp only at *
  rintro e w4 ⟨rfl,S5⟩
  clear gP
  cases ok with
  | false =>
   obtain ⟨g1,g2⟩:=zz.out rfl
   have HR1:Hid (iI s=dn):=by rw [H1.out,g1];simp [Hid]
   have HR2:Hid (eZ s=r):=by rw [H2.out,g2];trivial
   have gB:=Lib.hid ((Sp.pick [_,_,_,_] [1,2,3] (by decide) (S5)).new (.cells #[.int .u64 a,.int .u64 b] 53))
   clear g1 g2 HQ OQ zz H1 H2 S5
   rw [HR1.out,HR2.out] at HO
   have hr:(r.length:Int)≤s.length:=by have:=H4.out;omega
   have hs:(s.length:Int)≤400000000:=by have:=HL.out;omega
   have HC:=Lib.hid (iT s (s.length - r.length))
   have Im:Hid ((s.take (s.length - r.length)).length≤400000000):=by have:=HL.out;rw [List.length_take];unfold Hid;omega
   go_wp2_with fail
   ·have hr0:r=[]:=by
     have h:((s.length:Int) - r.length == s.length)=true:=by assumption
     simp only [beq_iff_eq] at h
     exact List.eq_nil_of_length_eq_zero (by omega)
    have he:ec=0:=by assumption
    have hh:D.now.has bn=true:=by rcases Ul.out with h | h;exact h.1;omega
    go_ret2
    rw [HO.out,if_pos ⟨hh,hr0⟩]
    exact ⟨p,rfl,gB.out.glue.jP m⟩
   all_goals
    have hno:¬ (D.now.has bn=true∧r=[]):=by
     rintro ⟨h1,h2⟩
     rcases Ul.out with h | h
     ·have he:=h.2
      subst he h2
      simp at *
     ·rw [h1] at h
      cases h.1
    rw [if_neg hno] at HO
    clear hno
    rw [HC.out]
    refine (DT bn _ gB.out.dJ HW.out.1 (by decide) (by have:=Im.out;omega)).mono ?_
    have HW1:=Lib.hid (HW.out.2 _ Im.out)
    generalize D.write bn (s.take (s.length - r.length))=A at *
    obtain ⟨D1,e1⟩:=A
    dsimp only at *
    rintro e w5 ⟨rfl,S6⟩
    have fG:=Lib.hid S6
    clear S6 gB
    go_wp2_with (go_at_call 46;refine (yz fG.out HW1.out).mono ?_;rintro e w6 ⟨rfl,S7⟩;have jN:=Lib.hid S7;clear S7)
    all_goals
     go_ret2
     simp only [bne_iff_ne,ne_eq,bne_eq_false_iff_eq] at *
     rw [HO.out]
     first
      | (rw [if_pos (by assumption)];exact ⟨rfl,(Sp.pick [_,_,_] [0] (by decide) (fG.out))⟩)
      | (rw [if_neg (by simpa using ‹e1=0›),if_pos (by assumption)];exact ⟨rfl,(Sp.pick [_,_,_] [0] (by decide) (jN.out))⟩)
      | (rw [if_neg (by simpa using ‹e1=0›),if_neg (by simpa using ‹D1.sync.2=0›)];exact ⟨p,rfl,((Sp.pick [_,_,_] [1,2,0] (by decide) (jN.out))).glue.jP m⟩)
  | true =>
   obtain ⟨g1,g2,g3,g4,g5,g6⟩:=HQ.out rfl
   obtain ⟨g7,g8⟩:=OQ.out rfl
   have S6:=S5.box #[.int .u64 a,.int .u64 b] 53
   have c6:=S6.cell
   have p6:=(Sp.pick [_,_,_] [2] (by decide) (S6)).cell
   obtain ⟨r2,bad⟩:=r2
   dsimp only at *
   subst g1
   have HM:Hid ((iH dn).length<maxLen):=by have:=zh dn;have:=H4.out;have:=HL.out;unfold Hid maxLen;omega
   obtain ⟨w5,hrun,S7,_⟩:=((Sp.pick [_,_,_,_,_] [3,1,2,4] (by decide) (S6))).drew.xD (t:=140) su Tryz.underlying140 HM.out (Ba x (by unfold maxLen;omega)) ⟨a,b⟩
   rw [← BZ dn (x,⟨a,b⟩)] at S7
   have S7':=(Sp.pick [_,_,_,_] [1,2,0,3] (by decide) (S7))
   have jN:=Lib.hid S7'
   have h1:iI s=(dn++[(x,⟨a,b⟩)])++iI r2:=by rw [H1.out,g7];simp
   have h2:eZ s=eZ r2:=by rw [H2.out,g8]
   have H1:=Lib.hid h1
   have H2:=Lib.hid h2
   have XJ:Hid (r2.length+(dn++[(x,(⟨a,b⟩:jF))]).length≤s.length):=by have:=H4.out;simp only [List.length_append,List.length_cons,List.length_nil,Hid];omega
   have hr2:(r2.length:Int)≤s.length:=by have:=H4.out;omega
   have hs:(s.length:Int)≤400000000:=by have:=HL.out;omega
   have H3:Hid (r2.length<r.length∧r.length≤s.length):=⟨g3,by have:=H4.out;omega⟩
   clear g2 g3 g4 g5 g6 g7 g8 HQ OQ zz S5 S6 S7 S7' h1 h2
   go_wp2_with fail
   go_region
   all_goals
    clear c6 p6 hrun
    go_wp2_with (go_at_call 64;refine (zw jN.out).mono ?_;rintro e w2 ⟨rfl,rfl⟩)
    go_roundw
    case rel=>exact ⟨_,r2,H1.out,H2.out,rfl,XJ.out,jN.out⟩
    case measure=>have:=H3.out;simp [intOf];omega
end
end
end Go.Proofs.YtangbdahnmomlaaGreatDoor
