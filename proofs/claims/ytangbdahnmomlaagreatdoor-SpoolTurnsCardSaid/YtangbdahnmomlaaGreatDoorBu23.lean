/- chacha: Stream, Turn. Conditions: a key of 32 bytes, a nonce of 12, a counter below 2^32; at most 65536 bytes. aead: Once, joined, Covered, tag, -/
import Derived.Deep.LoopGhost
import Derived.Test.YtangbdahnmomlaaGreatDoorBu12
import Derived.Test.YtangbdahnmomlaaGreatDoorBu18
import Derived.Test.YtangbdahnmomlaaGreatDoorBu21
import Derived.Test.YtangbdahnmomlaaGreatDoorBu22
set_option linter.unnecessarySimpa false
set_option linter.unusedSimpArgs false
set_option linter.unusedVariables false
set_option maxHeartbeats 4000000
set_option maxRecDepth 100000
namespace Go.Proofs.YtangbdahnmomlaaGreatDoor
section
open Go.RowKit
def lZ:dD:=⟨Mr,wD,FW,A7⟩
section
variable {w0 w:World} {F0:List Nat} {L:List aT} {v:Value}
theorem Gr (key aB:Bs) (n:Nat) (hk:key.length=32) (hz:aB.length=12) (hn:n<4294967296) (S:Sp w0 F0 w L):Calls Tryz.prog 237 #[.string ⟨key.toArray⟩,.int .u32 n,.string ⟨aB.toArray⟩] w fun e w2=>e=.returned (.tuple #[.string ⟨(lZ.blk key n aB).toArray⟩,.int .i64 0])∧Sp w0 F0 w2 L:=SI key aB n hk hz hn S
theorem VL (n:Nat):IntKind.u32.wrap ((n:Int)+1)=(((n+1) % 4294967296:Nat):Int):=by
 rw [IntKind.wrap_u32]
 omega
theorem PG (key aB:Bs) (c n:Nat) (hk:key.length=32) (hz:aB.length=12) (hc:c<4294967296) (hn:n≤65536) (S:Sp w0 F0 w L) :
  Calls Tryz.prog 223 #[.string ⟨key.toArray⟩,.int .u32 c,.string ⟨aB.toArray⟩,.int .i64 n] w fun e w2=>e=.returned (.tuple #[.string ⟨(lZ.gJ key aB c n).toArray⟩,.int .i64 0])∧Sp w0 F0 w2 L:=by
 have lW:=Lib.hid (Um key aB hk hz w)
 have HK:=Lib.hid hk
 have HZ:=Lib.hid hz
 have hn':(n:Int)≤65536:=by omega
 have aek:¬ (n:Int)<0:=by omega
 have Zj:=Lib.hid hn
 have HST:Hid (lZ.gJ key aB c n=(lZ.blocks key aB ((n+63) / 64) c).take n):=rfl
 have HCB:=Lib.hid (fun k W (hk2:k<4294967296) (L':List aT) (S':Sp w0 F0 W L')=>Gr key aB k hk hz hk2 S')
 have NU:=Lib.hid (lZ.yA key aB)
 have HBN:=Lib.hid (lZ.lG key aB)
 have Cz:=Lib.hid lZ.RH
 generalize lZ=ch at *
 by_cases h0:n=0
 ·have bV:=Lib.hid (S.box #[.pointer none,.slice none 0 0] 176)
  have HE:Hid (ch.gJ key aB c n=[]):=by unfold Hid;rw [HST.out,h0];simp
  clear S hk hz
  subst h0
  go_enter Tryz.func223,Tryz.ntmps223
  go_wp2_with fail
  refine lW.out.mono ?_
  rintro e w2 ⟨rfl,rfl⟩
  go_wp2_with fail
  generalize (w2.alloc _)=w3 at *
  generalize w2.heap.size=g at *
  go_loopg [1] 1 (fun gg v1 wr=>gg=1∧Sp w0 F0 wr (ae g #[.pointer none,.slice none 0 0] 176::L))
  case atStart=>exact ⟨rfl,bV.out⟩
  case round =>
   clear bV
   obtain ⟨_,S⟩:=hrel
   have HS:=Lib.hid S
   clear S
   go_wp2_with fail
   refine (Vi HS.out).mono ?_
   rintro e w4 ⟨rfl,S⟩
   have HS2:=Lib.hid S
   clear S HS
   go_wp2_with fail
   refine (Mm HS2.out).mono ?_
   rintro e w5 ⟨rfl,S⟩
   have bI:=Lib.hid S
   clear S HS2
   go_wp2_with fail
   go_ret2
   exact ⟨by rw [HE.out];rfl,bI.out⟩
 ·have bV:=Lib.hid (S.vT 176)
  have HN0:=Lib.hid (Nat.pos_of_ne_zero h0)
  have HC0:=Lib.hid hc
  clear S hk hz h0 hc hn
  go_enter Tryz.func223,Tryz.ntmps223
  go_wp2_with fail
  refine lW.out.mono ?_
  rintro e w2 ⟨rfl,rfl⟩
  go_wp2_with fail
  generalize (w2.alloc _)=w3 at *
  generalize w2.heap.size=g at *
  go_loopg [1] (n+64) (fun gg v1 wr=>∃ m:Nat,v1=.int .u32 (((c+m) % 4294967296:Nat):Int)∧gg+64*m=n+64∧(m=0∨64*(m - 1)<n)∧Sp w0 F0 wr (rq 176 g (ch.blocks key aB m c)::L))
  case atStart=>exact ⟨0,by rw [Nat.add_zero,Nat.mod_eq_of_lt HC0.out],rfl,.inl rfl,bV.out⟩
  case round =>
   clear bV
   obtain ⟨m,rfl,hg,hm,S⟩:=hrel
   have HS:=Lib.hid S
   have HG:=Lib.hid hg
   have HM:=Lib.hid hm
   have Vx:=Lib.hid (HBN.out m c)
   clear S hg hm
   go_wp2_with fail
   refine (Vh HS.out).mono ?_
   rintro e w4 ⟨rfl,S⟩
   have HS2:=Lib.hid S
   rw [Vx.out]
   clear S HS
   by_cases hlt:64*m<n
   ·have hlt':64*(m:Int)<n:=by omega
    have xB:=Lib.hid hlt
    have xq:=Lib.hid (HCB.out ((c+m) % 4294967296) w4 (Nat.mod_lt _ (by decide)) _ HS2.out)
    have bI:=Lib.hid (NU.out m c)
    have HI:Hid (IntKind.u32.wrap ((((c+m) % 4294967296:Nat):Int)+1)=(((c+(m+1)) % 4294967296:Nat):Int)):=by
     unfold Hid
     rw [VL]
     omega
    have HB1:=Lib.hid (Cz.out key ((c+m) % 4294967296) aB)
    generalize (c+m) % 4294967296=cm at *
    generalize hcm1:(c+(m+1)) % 4294967296=cm1 at *
    have HCM:=Lib.hid hcm1
    clear hcm1
    generalize ch.blk key cm aB=bk at *
    clear hlt
    go_wp2_with fail
    refine xq.out.mono ?_
    rintro e w5 ⟨rfl,S⟩
    have gP:=Lib.hid S
    clear S HS2 xq
    go_wp2_with fail
    refine (jY bk gP.out (by rw [Vx.out,HB1.out];have:=xB.out;have:=Zj.out;omega)).mono ?_
    rintro e w6 ⟨rfl,S⟩
    rw [← bI.out] at S
    have gB:=Lib.hid S
    clear S gP
    have hi:∀ z:Int,z=IntKind.u32.wrap ((cm:Int)+1)→z=cm1:=fun z h=>h.trans HI.out
    go_wp2_with fail
    go_roundg (gk - 64)
    case measure=>have:=HG.out;have:=xB.out;omega
    case rel=>exact ⟨m+1,by rw [HCM.out],by have:=HG.out;have:=xB.out;omega,.inr (by have:=xB.out;rw [Nat.add_sub_cancel];exact this),gB.out⟩
   ·have hlt':¬ 64*(m:Int)<n:=by omega
    have hm63:m=(n+63) / 64:=by have:=HM.out;have:=HN0.out;omega
    have Uu:=Lib.hid hm63
    have QX:Hid (ch.blocks key aB m c≠[]):=fun h=>by
     have h1:=Vx.out
     rw [h] at h1
     have:=HN0.out
     simp at h1
     omega
    rw [← Uu.out] at HST
    have hcut:=iT (ch.blocks key aB m c) n
    have hle:(n:Int)≤(ch.blocks key aB m c).length:=by rw [Vx.out];omega
    clear hm63 hlt
    generalize ch.blocks key aB m c=bl at *
    go_wp2_with fail
    refine (vU HS2.out QX.out).mono ?_
    rintro e w5 ⟨rfl,S⟩
    have bI:=Lib.hid S
    clear S HS2
    go_wp2_with fail
    go_ret2
    exact ⟨by rw [HST.out];rfl,bI.out⟩
theorem PH (key aB t:Bs) (c:Nat) (hk:key.length=32) (hz:aB.length=12) (hc:c<4294967296) (ht:t.length≤65536) (S:Sp w0 F0 w L) :
  Calls Tryz.prog 197 #[.string ⟨key.toArray⟩,.int .u32 c,.string ⟨aB.toArray⟩,.string ⟨t.toArray⟩] w fun e w2=>e=.returned (.tuple #[.string ⟨(jU t (lZ.gJ key aB c t.length)).toArray⟩,.int .i64 0])∧Sp w0 F0 w2 L:=by
 have HC:=Lib.hid (PG key aB c t.length hk hz hc ht S)
 have HL:=Lib.hid (lZ.qV key aB c t.length)
 have HT:=Lib.hid ht
 have ht':(t.length:Int)≤65536:=by omega
 generalize lZ.gJ key aB c t.length=st at *
 clear S hk hz hc ht
 go_enter Tryz.func197,Tryz.ntmps197
 go_wp2_with fail
 refine HC.out.mono ?_
 rintro e w2 ⟨rfl,S⟩
 have HS:=Lib.hid S
 clear S HC
 go_wp2_with fail
 refine (Kw t st HL.out.symm (by have:=HT.out;omega) HS.out).mono ?_
 rintro e w3 ⟨rfl,S⟩
 have HS2:=Lib.hid S
 clear S HS
 go_wp2_with fail
 go_ret2
 exact ⟨rfl,HS2.out⟩
end
end
section
open Go.RowKit
section
variable {w0 w:World} {F0:List Nat} {L:List aT} {v:Value}
theorem VM (key aB:Bs) (hk:key.length=32) (hz:aB.length=12) (S:Sp w0 F0 w L) :
  Calls Tryz.prog 220 #[.string ⟨key.toArray⟩,.string ⟨aB.toArray⟩] w fun e w2=>e=.returned (.tuple #[.string ⟨((lZ.blk key 0 aB).take 32).toArray⟩,.int .i64 0])∧Sp w0 F0 w2 L:=by
 have HC:=Lib.hid (Gr key aB 0 hk hz (by decide) S)
 have HL:=Lib.hid (lZ.RH key 0 aB)
 generalize lZ.blk key 0 aB=b at *
 have hcut:=iT b 32
 have hl:(b.length:Int)=64:=by have:=HL.out;omega
 clear S hk hz
 go_enter Tryz.func220,Tryz.ntmps220
 go_wp2_with fail
 refine HC.out.mono ?_
 rintro e w2 ⟨rfl,S⟩
 have HS:=Lib.hid S
 clear S HC
 go_wp2_with fail
 go_ret2
 exact ⟨rfl,HS.out⟩
theorem wG:∀ (k n:Nat),OD k n=dF n k
 | 0,_=>rfl
 | k+1,n=>by rw [OD,dF,wG k]
theorem qh (s:Bs):(iF s).length≤s.length+16:=by
 unfold iF
 split
 ·omega
 ·rw [List.length_append,List.length_replicate]
  omega
theorem CL (s:Bs) (hs:s.length≤100000000) (S:Sp w0 F0 w L) :
  Calls Tryz.prog 181 #[.string ⟨s.toArray⟩,.int .i64 16] w fun e w2=>e=.returned (.string ⟨(iF s).toArray⟩)∧Sp w0 F0 w2 L:=by
 have HF:Hid (iF s=if s.length % 16=0 then s else s++List.replicate (16 - s.length % 16) 0):=rfl
 have HS:=Lib.hid S
 have hs':(s.length:Int)≤100000000:=by omega
 clear S
 by_cases h:s.length % 16=0
 ·have h':(s.length:Int) % 16=0:=by omega
  have Ik:=Lib.hid (HF.out.trans (if_pos h))
  clear h HF
  go_enter Tryz.func181,Tryz.ntmps181
  go_wp2_with fail
  go_ret
  exact ⟨by rw [Ik.out];rfl,HS.out⟩
 ·have h':¬ (s.length:Int) % 16=0:=by omega
  have Ik:Hid (iF s=s++zeros (16 - s.length % 16)):=HF.out.trans (if_neg h)
  have HC:Hid ((16:Int) - (s.length:Int) % 16=((16 - s.length % 16:Nat):Int)):=by unfold Hid;omega
  have HN:Hid (16 - s.length % 16≤1000000):=by unfold Hid;omega
  have hadd:=dZ s (zeros (16 - s.length % 16)) (by simp [zeros,maxLen];omega)
  clear h HF hs
  go_enter Tryz.func181,Tryz.ntmps181
  go_wp2_with fail
  refine (Ea _ _ HC.out HN.out HS.out).mono ?_
  rintro e w2 ⟨rfl,S⟩
  have HS2:=Lib.hid S
  clear S HS
  go_wp2_with fail
  go_ret
  exact ⟨by rw [Ik.out];rfl,HS2.out⟩
theorem PI (d s:Bs) (g:Nat) (hd:d.length≤1000000) (hs:s.length≤1000000) (S:Sp w0 F0 w (ae g #[.string ⟨d.toArray⟩,.string ⟨s.toArray⟩] 9::L)) :
  Calls Tryz.prog 241 #[.slice (some ⟨g,0,none⟩) 2 2] w fun e w2=>e=.returned (.string ⟨(covered d s).toArray⟩)∧Sp w0 F0 w2 L:=by
 have HD:=Lib.hid hd
 have NV:=Lib.hid hs
 have Zy:=Lib.hid (qh d)
 have BK:=Lib.hid (qh s)
 have Xa:Hid (covered d s=iF d++iF s++dF d.length 8++dF s.length 8):=by
  unfold Hid covered
  rw [wG,wG]
 have bV:=Lib.hid (S.vT 176)
 have Kr:=Lib.hid (dS 8 d.length)
 have HL2:=Lib.hid (dS 8 s.length)
 clear S hd hs
 go_enter Tryz.func241,Tryz.ntmps241
 go_wp2_with fail
 generalize (w.alloc _)=w1 at *
 generalize w.heap.size=gb at *
 go_loopw [10] (fun i wr=>∃ k:Nat,i=.int .i64 k∧k≤2∧Sp w0 F0 wr (rq 176 gb (([[],iF d,iF d++iF s]:List Bs).getD k [])::ae g #[.string ⟨d.toArray⟩,.string ⟨s.toArray⟩] 9::L)) (fun i _=>2 - (intOf i).toNat)
 case atStart=>exact ⟨0,rfl,by decide,bV.out⟩
 case round =>
  clear bV
  obtain ⟨k,rfl,hk,S⟩:=hrel
  have HS:=Lib.hid S
  have c:=S.ak.cell
  clear S
  have hk3:k=0∨k=1∨k=2:=by omega
  rcases hk3 with rfl | rfl | hk2
  ·go_wp2_with fail
   refine (CL d (by have:=HD.out;omega) HS.out).mono ?_
   rintro e w2 ⟨rfl,S⟩
   have HS2:=Lib.hid S
   clear S HS c
   go_wp2_with fail
   refine (jY (iF d) HS2.out (by have:=HD.out;have:=Zy.out;simp;omega)).mono ?_
   rintro e w3 ⟨rfl,S⟩
   have bI:=Lib.hid S
   clear S HS2
   go_wp2_with fail
   exact ⟨⟨1,rfl,by decide,bI.out⟩,by simp [intOf]⟩
  ·go_wp2_with fail
   refine (CL s (by have:=NV.out;omega) HS.out).mono ?_
   rintro e w2 ⟨rfl,S⟩
   have HS2:=Lib.hid S
   clear S HS c
   go_wp2_with fail
   refine (jY (iF s) HS2.out (by have:=HD.out;have:=Zy.out;have:=NV.out;have:=BK.out;simp;omega)).mono ?_
   rintro e w3 ⟨rfl,S⟩
   have bI:=Lib.hid S
   clear S HS2
   go_wp2_with fail
   exact ⟨⟨2,rfl,by decide,bI.out⟩,by simp [intOf]⟩
  ·clear c
   have hlt':¬ (k:Int)<2:=by omega
   rw [hk2] at HS
   clear hk2 hk
   go_wp2_with fail
   go_loopw [20] (fun i wr=>∃ k:Nat,i=.int .i64 k∧k≤2∧Sp w0 F0 wr (rq 176 gb (([iF d++iF s,iF d++iF s++dF d.length 8,iF d++iF s++dF d.length 8++dF s.length 8]:List Bs).getD k [])::ae g #[.string ⟨d.toArray⟩,.string ⟨s.toArray⟩] 9::L)) (fun i _=>2 - (intOf i).toNat)
   case atStart=>exact ⟨0,rfl,by decide,HS.out⟩
   case round =>
    clear HS
    obtain ⟨k,rfl,hk,S⟩:=hrel
    have HS:=Lib.hid S
    have c:=S.ak.cell
    clear S
    have hk3:k=0∨k=1∨k=2:=by omega
    rcases hk3 with rfl | rfl | hk2
    ·have hw:IntKind.u64.wrap (d.length:Int)=d.length:=by rw [IntKind.wrap_u64];have:=HD.out;omega
     go_wp2_with fail
     refine (Calls.Zb (pX d.length 8 _ (by decide)) HS.out).mono ?_
     rintro e w2 ⟨rfl,S⟩
     have HS2:=Lib.hid S
     clear S HS c
     go_wp2_with fail
     refine (jY (dF d.length 8) HS2.out (by have:=HD.out;have:=Zy.out;have:=NV.out;have:=BK.out;have:=Kr.out;simp;omega)).mono ?_
     rintro e w3 ⟨rfl,S⟩
     have bI:=Lib.hid S
     clear S HS2
     go_wp2_with fail
     exact ⟨⟨1,rfl,by decide,bI.out⟩,by simp [intOf]⟩
    ·have hw:IntKind.u64.wrap (s.length:Int)=s.length:=by rw [IntKind.wrap_u64];have:=NV.out;omega
     go_wp2_with fail
     refine (Calls.Zb (pX s.length 8 _ (by decide)) HS.out).mono ?_
     rintro e w2 ⟨rfl,S⟩
     have HS2:=Lib.hid S
     clear S HS c
     go_wp2_with fail
     refine (jY (dF s.length 8) HS2.out (by have:=HD.out;have:=Zy.out;have:=NV.out;have:=BK.out;have:=Kr.out;have:=HL2.out;simp;omega)).mono ?_
     rintro e w3 ⟨rfl,S⟩
     have bI:=Lib.hid S
     clear S HS2
     go_wp2_with fail
     exact ⟨⟨2,rfl,by decide,bI.out⟩,by simp [intOf]⟩
    ·clear c
     have acE:¬ (k:Int)<2:=by omega
     rw [hk2] at HS
     have QX:Hid (covered d s≠[]):=fun h=>by
      have h1:=HL2.out
      rw [Xa.out] at h
      have h2:=congrArg List.length h
      rw [List.length_append,h1,List.length_nil] at h2
      omega
     have bI:Hid (Sp w0 F0 wr (rq 176 gb (covered d s)::ae g #[.string ⟨d.toArray⟩,.string ⟨s.toArray⟩] 9::L)):=by
      unfold Hid
      rw [Xa.out]
      exact HS.out
     clear HS hk2
     go_wp2_with fail
     refine (vU bI.out QX.out).mono ?_
     rintro e w2 ⟨rfl,S⟩
     have NU:=Lib.hid S.drop
     clear S bI
     go_wp2_with fail
     go_ret
     exact ⟨rfl,NU.out⟩
theorem MX (d s:Bs) (hd:d.length≤1000000) (hs:s.length≤1000000) (S:Sp w0 F0 w L) :
  Calls Tryz.prog 222 #[.string ⟨d.toArray⟩,.string ⟨s.toArray⟩] w fun e w2=>e=.returned (.string ⟨(covered d s).toArray⟩)∧Sp w0 F0 w2 L:=by
 have HS:=Lib.hid (S.box #[.string ⟨d.toArray⟩,.string ⟨s.toArray⟩] 9)
 have HD:=Lib.hid hd
 have NV:=Lib.hid hs
 clear S hd hs
 go_enter Tryz.func222,Tryz.ntmps222
 go_wp2_with fail
 refine (PI d s _ HD.out NV.out HS.out).mono ?_
 rintro e w2 ⟨rfl,S⟩
 have HS2:=Lib.hid S
 clear S HS
 go_wp2_with fail
 go_ret
 exact ⟨rfl,HS2.out⟩
theorem UA (key aB d s:Bs) (hk:key.length=32) (hz:aB.length=12) (hd:d.length≤100000) (hs:s.length≤100000) (S:Sp w0 F0 w L) :
  Calls Tryz.prog 195 #[.string ⟨key.toArray⟩,.string ⟨aB.toArray⟩,.string ⟨d.toArray⟩,.string ⟨s.toArray⟩] w fun e w2=>e=.returned (.tuple #[.string ⟨(lZ.oV key aB d s).toArray⟩,.int .i64 0])∧Sp w0 F0 w2 L:=by
 have HT:Hid (lZ.oV key aB d s=wD ((lZ.blk key 0 aB).take 32) (covered d s)):=rfl
 have HO:=Lib.hid (VM key aB hk hz S)
 have VN:Hid (((lZ.blk key 0 aB).take 32).length=32):=by unfold Hid;rw [List.length_take,lZ.RH];rfl
 have Yh:Hid ((covered d s).length≤1000000):=by
  have h1:=qh d
  have h2:=qh s
  have h3:=dS 8 d.length
  have h4:=dS 8 s.length
  unfold Hid covered
  rw [wG,wG]
  simp
  omega
 have HC:=Lib.hid (fun (W:World) (S':Sp w0 F0 W L)=>MX d s (by omega) (by omega) S')
 generalize (lZ.blk key 0 aB).take 32=ok at *
 generalize lZ.oV key aB d s=tg at *
 clear S hk hz hd hs
 go_enter Tryz.func195,Tryz.ntmps195
 go_wp2_with fail
 refine HO.out.mono ?_
 rintro e w2 ⟨rfl,S⟩
 have HS2:=Lib.hid S
 clear S HO
 go_wp2_with fail
 refine (HC.out _ HS2.out).mono ?_
 rintro e w3 ⟨rfl,S⟩
 have bI:=Lib.hid S
 clear S HS2
 generalize covered d s=cv at *
 go_wp2_with fail
 refine (Yj ok cv VN.out Yh.out bI.out).mono ?_
 rintro e w4 ⟨rfl,S⟩
 have gP:=Lib.hid S
 clear S bI
 go_wp2_with fail
 go_ret2
 exact ⟨by rw [HT.out];rfl,gP.out⟩
end
end
section
open Go.RowKit
def iQ (k n d t:Bs):Bs×Int:=if d.length≤4096∧t.length≤16384 then (lZ.shut k n d t,0) else ([],5)
def jW (k n d s:Bs):Bs×Int:=if d.length≤4096∧16≤s.length∧s.length≤16400 then (match lZ.open k n d s with | some t=>(t,0) | none=>([],20)) else ([],5)
theorem KV (k n d t:Bs) (hd:d.length≤4096) (ht:t.length≤16384):(iQ k n d t).2=0∧jW k n d (iQ k n d t).1=(t,0):=by
 unfold iQ
 rw [if_pos ⟨hd,ht⟩]
 refine ⟨rfl,?_⟩
 unfold jW
 rw [if_pos ⟨hd,by rw [lZ.lV];omega,by rw [lZ.lV];omega⟩,lZ.Md]
section
variable {w0 w:World} {F0:List Nat} {L:List aT} {v:Value} {b:Nat}
theorem VO (k n d t:Bs) (hk:k.length=32) (hz:n.length=12) (S:Sp w0 F0 w L) :
  Calls Tryz.prog 182 #[.string ⟨k.toArray⟩,.string ⟨n.toArray⟩,.string ⟨d.toArray⟩,.string ⟨t.toArray⟩] w fun e w2=>e=.returned (.tuple #[.string ⟨(iQ k n d t).1.toArray⟩,.int .i64 (iQ k n d t).2])∧Sp w0 F0 w2 L:=by
 have HS:=Lib.hid S
 by_cases h:d.length≤4096∧t.length≤16384
 ·have HR:Hid (iQ k n d t=(lZ.shut k n d t,0)):=if_pos h
  obtain ⟨h1,h2⟩:=h
  have h1':(d.length:Int)≤4096:=by omega
  have h2':(t.length:Int)≤16384:=by omega
  have HT:=Lib.hid (PH k n t 1 hk hz (by decide) (by omega) S)
  have HXL:Hid ((jU t (lZ.gJ k n 1 t.length)).length=t.length):=lU _ _ (by rw [lZ.qV];exact Nat.le_refl _)
  have HG:=Lib.hid (fun (W:World) (S':Sp w0 F0 W L)=>UA k n d (jU t (lZ.gJ k n 1 t.length)) hk hz (by omega) (by rw [HXL.out];omega) S')
  have Ij:Hid (lZ.shut k n d t=jU t (lZ.gJ k n 1 t.length)++lZ.oV k n d (jU t (lZ.gJ k n 1 t.length))):=rfl
  have Jb:=Lib.hid (lZ.Vb ((lZ.blk k 0 n).take 32) (covered d (jU t (lZ.gJ k n 1 t.length))))
  have QY:Hid ((lZ.oV k n d (jU t (lZ.gJ k n 1 t.length))).length=16):=Jb.out
  generalize jU t (lZ.gJ k n 1 t.length)=x at *
  generalize lZ.oV k n d x=tg at *
  have hadd:=dZ x tg (by rw [HXL.out,QY.out];unfold maxLen;omega)
  rw [Ij.out] at HR
  clear S hk hz h1 h2 Jb Ij
  generalize iQ k n d t=rs at *
  have HR2:=HR.out
  subst HR2
  clear HR
  go_enter Tryz.func182,Tryz.ntmps182
  go_wp2_with fail
  refine HT.out.mono ?_
  rintro e w2 ⟨rfl,S⟩
  have HS2:=Lib.hid S
  clear S HS HT
  go_wp2_with fail
  refine (HG.out _ HS2.out).mono ?_
  rintro e w3 ⟨rfl,S⟩
  have bI:=Lib.hid S
  clear S HS2
  go_wp2_with fail
  go_ret2
  exact ⟨rfl,bI.out⟩
 ·have HR:Hid (iQ k n d t=([],5)):=if_neg h
  clear S hk hz
  generalize iQ k n d t=rs at *
  have HR2:=HR.out
  subst HR2
  clear HR
  by_cases h1:d.length≤4096
  ·have h1':(d.length:Int)≤4096:=by omega
   have h2':¬ (t.length:Int)≤16384:=by omega
   clear h h1
   go_enter Tryz.func182,Tryz.ntmps182
   go_wp2_with fail
   go_ret2
   exact ⟨rfl,HS.out⟩
  ·have h1':¬ (d.length:Int)≤4096:=by omega
   clear h h1
   go_enter Tryz.func182,Tryz.ntmps182
   go_wp2_with fail
   go_ret2
   exact ⟨rfl,HS.out⟩
theorem VP (k n d s:Bs) (hk:k.length=32) (hz:n.length=12) (hs:s.length≤1000000) (S:Sp w0 F0 w L) :
  Calls Tryz.prog 153 #[.string ⟨k.toArray⟩,.string ⟨n.toArray⟩,.string ⟨d.toArray⟩,.string ⟨s.toArray⟩] w fun e w2=>e=.returned (.tuple #[.string ⟨(jW k n d s).1.toArray⟩,.int .i64 (jW k n d s).2])∧Sp w0 F0 w2 L:=by
 have HS:=Lib.hid S
 have hs':(s.length:Int)≤1000000:=by omega
 by_cases h:d.length≤4096∧16≤s.length∧s.length≤16400
 ·have HR:Hid (jW k n d s=(match lZ.open k n d s with | some t=>(t,0) | none=>([],20))):=if_pos h
  obtain ⟨h1,h2,h3⟩:=h
  have h1':(d.length:Int)≤4096:=by omega
  have h2':(16:Int)≤s.length:=by omega
  have h3':(s.length:Int)≤16400:=by omega
  obtain ⟨m,hm⟩:∃ m:Nat,(m:Int)=(s.length:Int) - 16:=⟨s.length - 16,by omega⟩
  have hmn:m=s.length - 16:=by omega
  have hc1:=iT s m
  have hc2:=nC s m s.length rfl
  have Jb:Hid ((s.take m).length=m):=by unfold Hid;rw [List.length_take];omega
  have KH:Hid ((s.drop m).length=16):=by unfold Hid;rw [List.length_drop];omega
  have HG:=Lib.hid (UA k n d (s.take m) hk hz (by omega) (by rw [Jb.out];omega) S)
  have HT:=Lib.hid (fun (W:World) (S':Sp w0 F0 W L)=>PH k n (s.take m) 1 hk hz (by decide) (by rw [Jb.out];omega) S')
  rw [Jb.out] at HT
  have QY:Hid ((lZ.oV k n d (s.take m)).length=16):=lZ.Vb _ _
  have Tg:Hid (lZ.open k n d s=if lZ.oV k n d (s.take m)=s.drop m then some (jU (s.take m) (lZ.gJ k n 1 m)) else none):=by
   rw [hmn]
   rfl
  generalize lZ.open k n d s=op at *
  generalize lZ.gJ k n 1 m=st at *
  generalize lZ.oV k n d (s.take m)=tg at *
  generalize s.take m=sm at *
  generalize s.drop m=sd at *
  have HM:=Lib.hid hm
  have hm1:(s.length:Int) - 16=m:=hm.symm
  have hm2:(m:Int)≤16384:=by omega
  have NQ:(m:Int)≤s.length:=by omega
  have hm4:m≤s.length:=by omega
  clear S hk hz h1 h2 h3 hm hmn hs
  generalize jW k n d s=rs at *
  go_enter Tryz.func153,Tryz.ntmps153
  go_wp2_with fail
  refine HG.out.mono ?_
  rintro e w2 ⟨rfl,S⟩
  have HS2:=Lib.hid S
  clear S HS HG
  go_wp2_with fail
  refine (FK tg sd (by rw [QY.out];decide) (by rw [KH.out];decide) HS2.out).mono ?_
  rintro e w3 ⟨rfl,S⟩
  have bI:=Lib.hid S
  clear S HS2
  by_cases ht:tg=sd
  ·rw [if_pos ht] at Tg
   rw [decide_eq_true ht]
   rw [Tg.out] at HR
   have HR2:=HR.out
   dsimp only at HR2
   subst HR2
   clear HR Tg ht
   go_wp2_with fail
   refine (HT.out _ bI.out).mono ?_
   rintro e w4 ⟨rfl,S⟩
   have gP:=Lib.hid S
   clear S bI
   go_wp2_with fail
   go_ret2
   exact ⟨rfl,gP.out⟩
  ·rw [if_neg ht] at Tg
   rw [decide_eq_false ht]
   rw [Tg.out] at HR
   have HR2:=HR.out
   dsimp only at HR2
   subst HR2
   clear HR Tg ht
   go_wp2_with fail
   go_ret2
   exact ⟨rfl,bI.out⟩
 ·have HR:Hid (jW k n d s=([],5)):=if_neg h
  clear S hk hz
  generalize jW k n d s=rs at *
  have HR2:=HR.out
  subst HR2
  clear HR
  by_cases h1:d.length≤4096
  ·have h1':(d.length:Int)≤4096:=by omega
   by_cases h2:16≤s.length
   ·have h2':(16:Int)≤s.length:=by omega
    have h3':¬ (s.length:Int)≤16400:=by omega
    clear h h1 h2
    go_enter Tryz.func153,Tryz.ntmps153
    go_wp2_with fail
    go_ret2
    exact ⟨rfl,HS.out⟩
   ·have h2':¬ (16:Int)≤s.length:=by omega
    clear h h1 h2
    go_enter Tryz.func153,Tryz.ntmps153
    go_wp2_with fail
    go_ret2
    exact ⟨rfl,HS.out⟩
  ·have h1':¬ (d.length:Int)≤4096:=by omega
   clear h h1
   go_enter Tryz.func153,Tryz.ntmps153
   go_wp2_with fail
   go_ret2
   exact ⟨rfl,HS.out⟩
abbrev yQ (b:Nat):aT:=ae b #[.bool false,.string ⟨#[]⟩,.map none] 98
theorem Yk (S:Sp w0 F0 w L):Calls Tryz.prog 9 #[] w fun e w2=>∃ b,e=.returned (.pointer (some ⟨b,0,none⟩))∧Sp w0 F0 w2 (yQ b::L):=by
 have HS:=Lib.hid (S.box #[.bool false,.string ⟨#[]⟩,.map none] 98)
 clear S
 go_enter Tryz.func9,Tryz.ntmps9
 go_wp2
 go_ret
 exact ⟨_,rfl,HS.out⟩
theorem Ti (k n d t:Bs) (hk:k.length=32) (hz:n.length=12) (S:Sp w0 F0 w (yQ b::L)) :
  Calls Tryz.prog 147 #[.pointer (some ⟨b,0,none⟩),.string ⟨k.toArray⟩,.string ⟨n.toArray⟩,.string ⟨d.toArray⟩,.string ⟨t.toArray⟩] w fun e w2=>e=.returned (.tuple #[.string ⟨(iQ k n d t).1.toArray⟩,.int .i64 (iQ k n d t).2])∧Sp w0 F0 w2 (yQ b::L):=by
 have c:=S.cell
 have HA:=Lib.hid (VO k n d t hk hz S)
 generalize iQ k n d t=q at *
 clear S hk hz
 go_enter Tryz.func147,Tryz.ntmps147
 go_wp2_with fail
 refine HA.out.mono ?_
 rintro e w2 ⟨rfl,S⟩
 have HS:=Lib.hid S
 clear S HA
 go_wp2_with fail
 go_ret2
 exact ⟨rfl,HS.out⟩
theorem Tj (k n d s:Bs) (hk:k.length=32) (hz:n.length=12) (hs:s.length≤1000000) (S:Sp w0 F0 w (yQ b::L)) :
  Calls Tryz.prog 114 #[.pointer (some ⟨b,0,none⟩),.string ⟨k.toArray⟩,.string ⟨n.toArray⟩,.string ⟨d.toArray⟩,.string ⟨s.toArray⟩] w fun e w2=>e=.returned (.tuple #[.string ⟨(jW k n d s).1.toArray⟩,.int .i64 (jW k n d s).2])∧Sp w0 F0 w2 (yQ b::L):=by
 have c:=S.cell
 have HA:=Lib.hid (VP k n d s hk hz hs S)
 generalize jW k n d s=q at *
 clear S hk hz hs
 go_enter Tryz.func114,Tryz.ntmps114
 go_wp2_with fail
 refine HA.out.mono ?_
 rintro e w2 ⟨rfl,S⟩
 have HS:=Lib.hid S
 clear S HA
 go_wp2_with fail
 go_ret2
 exact ⟨rfl,HS.out⟩
end
end
end Go.Proofs.YtangbdahnmomlaaGreatDoor
