/- poly, plainly: numbers of five parts, each below 2^64, as the code reckons with them. No program. poly: plus, carry, times, read, whole, bytes. -/
import Derived.Deep.LoopGhost
import Derived.Test.YtangbdahnmomlaaGreatDoorBu00
import Derived.Test.YtangbdahnmomlaaGreatDoorBu04
import Derived.Test.YtangbdahnmomlaaGreatDoorBu05
import Derived.Test.YtangbdahnmomlaaGreatDoorBu06
import Derived.Test.YtangbdahnmomlaaGreatDoorBu07
import Derived.Test.YtangbdahnmomlaaGreatDoorBu12
set_option linter.unnecessarySimpa false
set_option linter.unusedSimpArgs false
set_option linter.unusedVariables false
set_option maxHeartbeats 4000000
set_option maxRecDepth 100000
namespace Go.Proofs.YtangbdahnmomlaaGreatDoor
section
open Go.RowKit
def Limbs (l:List Nat):Prop:=l.length=5∧∀ x∈l,x<18446744073709551616
theorem Limbs.getD {l:List Nat} (h:Limbs l) (i:Nat):l.getD i 0<18446744073709551616:=by
 rw [List.getD_eq_getElem?_getD]
 cases e:l[i]? with
 | none=>simp
 | some x=>exact h.2 x (List.mem_of_getElem? e)
theorem Limbs.set {l:List Nat} (h:Limbs l) (i x:Nat) (hx:x<18446744073709551616):Limbs (l.set i x):=by
 refine ⟨by rw [List.length_set];exact h.1,fun y hy=>?_⟩
 rcases List.mem_or_eq_of_mem_set hy with hy | rfl
 ·exact h.2 y hy
 ·exact hx
def aH (l:List Nat):Array Value:=(l.map fun n:Nat=>Value.int .u64 n).toArray
theorem MV (l:List Nat) (i:Nat) (h:i<l.length):(aH l)[i]? = some (.int .u64 (l.getD i 0)):=by
 simp [aH,List.getD_eq_getElem?_getD,List.getElem?_eq_getElem h]
theorem MW (l:List Nat) (i x:Nat):(aH l).setIfInBounds i (.int .u64 x)=aH (l.set i x):=by
 simp [aH,List.map_set]
theorem uR (l:List Nat):(aH l).size=l.length:=by simp [aH]
def gV:List Nat:=[0,0,0,0,0]
theorem gu:Limbs gV:=⟨rfl,by decide⟩
def eu (l:List Nat) (k x:Nat):List Nat:=l.set k ((l.getD k 0+x) % 18446744073709551616)
theorem Limbs.eu {l:List Nat} (h:Limbs l) (k x:Nat):Limbs (eu l k x):=h.set _ _ (Nat.mod_lt _ (by decide))
def eQ (s:Bs):Nat→List Nat
 | 0=>gV
 | i+1 =>
  let v:=(s.getD i 0).toNat*2 ^ (8*i % 26) % 18446744073709551616
  let l:=eu (eQ s i) (8*i / 26) (v % 67108864)
  if 8*i / 26+1<5 then eu l (8*i / 26+1) (v / 67108864) else l
theorem il (s:Bs):∀ i,Limbs (eQ s i)
 | 0=>gu
 | i+1=>by
  unfold eQ
  dsimp only
  split
  ·exact ((il s i).eu _ _).eu _ _
  ·exact (il s i).eu _ _
def dL (l:List Nat):Nat→List Nat×Nat
 | 0=>(l,0)
 | k+1 =>
  let x:=((dL l k).1.getD k 0+(dL l k).2) % 18446744073709551616
  ((dL l k).1.set k (x % 67108864),x / 67108864)
theorem oL {l:List Nat} (h:Limbs l):∀ k,Limbs (dL l k).1
 | 0=>h
 | k+1=>(oL h k).set _ _ (Nat.lt_of_lt_of_le (Nat.mod_lt _ (by decide)) (by decide))
theorem Js (l:List Nat):∀ k,(dL l k).2<18446744073709551616
 | 0=>by simp [dL]
 | k+1=>Nat.lt_of_le_of_lt (Nat.div_le_self _ _) (Nat.mod_lt _ (by decide))
def Ee (l:List Nat):List Nat:=eu (dL l 5).1 0 (5*(dL l 5).2 % 18446744073709551616)
def fP (l:List Nat):Nat→List Nat
 | 0=>l
 | k+1=>Ee (fP l k)
theorem Ef {l:List Nat} (h:Limbs l):Limbs (Ee l):=(oL h 5).eu _ _
theorem eY {l:List Nat} (h:Limbs l):∀ k,Limbs (fP l k)
 | 0=>h
 | k+1=>Ef (eY h k)
def kY (n m:List Nat):Nat→List Nat
 | 0=>n
 | k+1=>eu (kY n m k) k (m.getD k 0)
theorem kF {n:List Nat} (h:Limbs n) (m:List Nat):∀ k,Limbs (kY n m k)
 | 0=>h
 | k+1=>(kF h m k).eu _ _
def yL (n m:List Nat):List Nat:=kY n m 5
def Py (n m:List Nat) (i k:Nat):Nat :=
 let v:=n.getD i 0*m.getD k 0 % 18446744073709551616
 if 5≤i+k then v*5 % 18446744073709551616 else v
def mR (n m:List Nat) (i:Nat) (o:List Nat):Nat→List Nat
 | 0=>o
 | k+1=>eu (mR n m i o k) ((i+k) % 5) (Py n m i k)
theorem oM (n m:List Nat) (i:Nat) {o:List Nat} (h:Limbs o):∀ k,Limbs (mR n m i o k)
 | 0=>h
 | k+1=>(oM n m i h k).eu _ _
def jO (n m:List Nat):Nat→List Nat
 | 0=>gV
 | i+1=>mR n m i (jO n m i) 5
theorem lK (n m:List Nat):∀ k,Limbs (jO n m k)
 | 0=>gu
 | k+1=>oM n m k (lK n m k) 5
def Jt (n m:List Nat):List Nat:=fP (jO n m 5) 2
def bD (l:List Nat):Nat→List Nat
 | 0=>l
 | k+1 =>
  let l:=bD l k
  let l2:=eu l (k+1) (l.getD k 0 / 67108864)
  l2.set k (l2.getD k 0 % 67108864)
theorem mU {l:List Nat} (h:Limbs l):∀ k,Limbs (bD l k)
 | 0=>h
 | k+1=>((mU h k).eu _ _).set _ _ (Nat.lt_of_lt_of_le (Nat.mod_lt _ (by decide)) (by decide))
def oN (l:List Nat):List Nat :=
 let n:=fP (fP l 2) 2
 let m:=bD (eu n 0 5) 4
 if m.getD 4 0 / 67108864=0 then n else m.set 4 (m.getD 4 0 % 67108864)
theorem Eg {l:List Nat} (h:Limbs l):Limbs (oN l):=by
 unfold oN
 dsimp only
 split
 ·exact eY (eY h 2) 2
 ·exact (mU ((eY (eY h 2) 2).eu _ _) 4).set _ _ (Nat.lt_of_lt_of_le (Nat.mod_lt _ (by decide)) (by decide))
def yM (l:List Nat) (i:Nat):Nat :=
 let v:=l.getD (8*i / 26) 0 / 2 ^ (8*i % 26)
 if 8*i / 26+1<5 then v ||| (l.getD (8*i / 26+1) 0*2 ^ (26 - 8*i % 26) % 18446744073709551616) else v
def r9 (l:List Nat):Bs:=(List.range 16).map fun i=>UInt8.ofNat (yM l i % 256)
def qf (i:Nat) (c:UInt8):UInt8:=if i % 4=3 then c &&& 15 else if i % 4=0∧0<i then c &&& 252 else c
def dI (r:Bs):Nat→Bs
 | 0=>r
 | i+1=>(dI r i).set i (qf i ((dI r i).getD i 0))
theorem nH (r:Bs):∀ i,(dI r i).length=r.length
 | 0=>rfl
 | i+1=>by rw [dI,List.length_set,nH r i]
def yN (r a:List Nat) (s:Bs):List Nat:=Jt (yL a (eQ (s++[1]) (s.length+1))) r
def ji (r:List Nat):Nat→List Nat→Bs→List Nat×Bs
 | 0,a,s=>(a,s)
 | n+1,a,s=>if 16≤s.length then ji r n (yN r a (s.take 16)) (s.drop 16) else (a,s)
def SL (r s a:List Nat) (rest:Bs):Bs :=
 let a1:=if rest=[] then a else yN r a rest
 r9 (bD (yL (oN a1) s) 4)
def yO (key:Bs):List Nat:=eQ (dI (key.take 16) 16) 16
def Gp (key:Bs):List Nat:=eQ (key.drop 16) 16
def wD (key t:Bs):Bs :=
 let p:=ji (yO key) (t.length / 16) gV t
 SL (yO key) (Gp key) p.1 p.2
theorem A7 (key t:Bs):(wD key t).length=16:=rfl
end
section
open Go.RowKit
section
variable {w0 w:World} {F0:List Nat} {L:List aT} {v:Value}
theorem qg (a b:Nat):IntKind.u64.wrap ((a:Int)+(b:Int))=((a+b) % 18446744073709551616:Nat):=by
 rw [IntKind.wrap_u64]
 omega
theorem info5:(Tryz.prog.info? 324).map (·.size)=some 5:=by kernel_rfl
theorem dN {l:List Nat} (h:Limbs l):(Tryz.prog.info? 324).map (·.size)=some (aH l).size:=info5.trans (by rw [uR,h.1])
theorem jZ (l:List Nat):(aH l).all (·.oneCell')=true:=by
 rw [Array.all_eq_true_iff_forall_mem]
 intro x hx
 simp only [aH,List.mem_toArray,List.mem_map] at hx
 obtain ⟨n,_,rfl⟩:=hx
 rfl
theorem jk {l m:List Nat} (h:Limbs l) (k:Limbs m):(aH l).size=(aH m).size:=by rw [uR,uR,h.1,k.1]
theorem Sp.si {b:Nat} {l:List Nat} {T:TypeId} (S:Sp w0 F0 w (ae b (aH l) T::L)) {i:Nat} (h:i<l.length):w.cell? ⟨b,i,none⟩=some (.int .u64 (l.getD i 0)):=by
 rw [S.cell,MV l i h]
theorem Sp.o5 {b:Nat} {l:List Nat} {T:TypeId} (S:Sp w0 F0 w (ae b (aH l) T::L)) (i x:Nat) (l2:List Nat) (he:l.set i x=l2):Sp w0 F0 (w.setCell ⟨b,i,none⟩ (.int .u64 x)) (ae b (aH l2) T::L):=by
 have h:=S.set (o:=i) (.int .u64 x)
 rw [MW,he] at h
 exact h
theorem Pz (n m:List Nat) (hn:Limbs n) (hm:Limbs m) (S:Sp w0 F0 w L):Calls Tryz.prog 260 #[.agg (aH n),.agg (aH m)] w fun e w2=>e=.returned (.agg (aH (yL n m)))∧Sp w0 F0 w2 L:=by
 have HN:=Lib.hid hn
 have HM:=Lib.hid hm
 have bV:=Lib.hid (((S.box (aH n) 324).box (aH m) 324).box (aH gV) 324)
 have hsz:∀ (w:World) (o:Obj),(w.alloc o).heap.size=w.heap.size+1:=fun _ o=>Array.size_push _
 simp only [hsz] at bV
 clear S hn hm hsz
 go_enter Tryz.func260,Tryz.ntmps260
 go_wp2_with fail
 have bX:Hid (Sp w0 F0 (((w.alloc (.cells (aH n) 324)).alloc (.cells (aH m) 324)).alloc (.cells #[.int .u64 0,.int .u64 0,.int .u64 0,.int .u64 0,.int .u64 0] 324)) _):=bV
 clear bV
 generalize ((w.alloc (.cells (aH n) 324)).alloc (.cells (aH m) 324)).alloc (.cells #[.int .u64 0,.int .u64 0,.int .u64 0,.int .u64 0,.int .u64 0] 324)=w1 at *
 generalize w.heap.size+1+1=g2 at *
 generalize w.heap.size+1=g1 at *
 generalize w.heap.size=g0 at *
 go_loopw [6] (fun i wr=>∃ k:Nat,i=.int .i64 k∧k≤5∧Sp w0 F0 wr (ae g0 (aH (kY n m k)) 324::ae g1 (aH m) 324::ae g2 (aH gV) 324::L)) (fun i _=>5 - (intOf i).toNat)
 case atStart=>exact ⟨0,rfl,by decide,bX.out.dJ.under Sp.ak⟩
 case round =>
  clear bX
  obtain ⟨k,rfl,hk,S⟩:=hrel
  have HS:=Lib.hid S
  have HL:=Lib.hid (kF HN.out m k)
  clear S
  by_cases hlt:k<5
  ·have hlt':(k:Int)<5:=by omega
   have cn:=HS.out.si (i:=k) (by rw [HL.out.1];exact hlt)
   have cm:=HS.out.ak.si (i:=k) (by rw [HM.out.1];exact hlt)
   have fn:=HS.out.free k
   have HP:=Lib.hid (HS.out.o5 k (((kY n m k).getD k 0+m.getD k 0) % 18446744073709551616) (kY n m (k+1)) rfl).drew
   have HE:=Lib.hid (qg ((kY n m k).getD k 0) (m.getD k 0))
   generalize (kY n m k).getD k 0=x at *
   generalize m.getD k 0=y at *
   go_wp2_with fail
   go_region
   all_goals
    go_wp2_with fail
    go_roundw
    case rel=>exact ⟨k+1,by go_num,by omega,by rw [HE.out];exact HP.out⟩
    case measure=>simp [intOf];omega
  ·obtain rfl:k=5:=by omega
   have HP:=Lib.hid (HS.out.dJ.setRow (aH (kY n m 5)))
   have bx:=HS.out.boxed
   have b2:=HS.out.dJ.boxed
   go_wp2_with (first
    | refine wpList_load_row rfl 324 _ rfl g0 rfl 324 (aH (kY n m 5)) (0,0) _ bx Tryz.underlying324 rfl (dN HL.out) ?_
    | refine wpList_store_row rfl 324 _ _ rfl g2 (aH (kY n m 5)) rfl rfl 324 _ b2 (dN HL.out) (jk gu HL.out) (jZ _) ?_)
   refine bodyPost_ret (results_cell_row rfl _ _ g2 324 (aH (kY n m 5)) (0,0) _ rfl HP.out.boxed Tryz.underlying324 rfl (dN HL.out)) rfl ?_
   exact ⟨rfl,HP.out.drop.drop.drop⟩
theorem A8 (a:Nat):((a:Int) / 67108864)=((a / 67108864:Nat):Int):=by omega
theorem A9 (a:Nat) (ha:a<18446744073709551616):bits .and .u64 (a:Int) 67108863=((a % 67108864:Nat):Int):=by
 have e:a % 67108864=a &&& 67108863:=(Nat.and_two_pow_sub_one_eq_mod a 26).symm
 rw [e]
 exact u64_and_nat a 67108863 ha (by decide)
theorem Ju (a b:Nat):IntKind.u64.wrap ((a:Int)*(b:Int))=(a*b % 18446744073709551616:Nat):=by
 rw [IntKind.wrap_u64,← Int.natCast_mul]
 generalize a*b=m
 omega
theorem Eh (n:List Nat) (hn:Limbs n) (S:Sp w0 F0 w L):Calls Tryz.prog 270 #[.agg (aH n)] w fun e w2=>e=.returned (.agg (aH (fP n 2)))∧Sp w0 F0 w2 L:=by
 have HN:=Lib.hid hn
 have bV:=Lib.hid ((S.box (aH n) 324).box (aH gV) 324)
 have hsz:∀ (w:World) (o:Obj),(w.alloc o).heap.size=w.heap.size+1:=fun _ o=>Array.size_push _
 simp only [hsz] at bV
 clear S hn hsz
 go_enter Tryz.func270,Tryz.ntmps270
 go_wp2_with fail
 have bX:Hid (Sp w0 F0 ((w.alloc (.cells (aH n) 324)).alloc (.cells #[.int .u64 0,.int .u64 0,.int .u64 0,.int .u64 0,.int .u64 0] 324)) _):=bV
 clear bV
 generalize ((w.alloc (.cells (aH n) 324)).alloc (.cells #[.int .u64 0,.int .u64 0,.int .u64 0,.int .u64 0,.int .u64 0] 324))=w1 at *
 generalize w.heap.size+1=g1 at *
 generalize w.heap.size=g0 at *
 go_loopw [5] (fun i wr=>∃ k:Nat,i=.int .i64 k∧k≤2∧Sp w0 F0 wr (ae g0 (aH (fP n k)) 324::ae g1 (aH gV) 324::L)) (fun i _=>2 - (intOf i).toNat)
 case atStart=>exact ⟨0,rfl,by decide,bX.out.ak⟩
 case round =>
  clear bX
  obtain ⟨k,rfl,hk,S⟩:=hrel
  have HS:=Lib.hid S
  have HL:=Lib.hid (eY HN.out k)
  clear S
  by_cases hlt:k<2
  ·have hlt':(k:Int)<2:=by omega
   have HE:Hid (Ee (fP n k)=fP n (k+1)):=rfl
   generalize fP n k=l at *
   go_wp2_with fail
   go_loopw [3,7] (fun c j wq=>∃ m:Nat,j=.int .i64 m∧c=.int .u64 (dL l m).2∧m≤5∧Sp w0 F0 wq (ae g0 (aH (dL l m).1) 324::ae g1 (aH gV) 324::L)) (fun _ j _=>5 - (intOf j).toNat)
   case atStart=>exact ⟨0,rfl,rfl,by decide,HS.out⟩
   case round =>
    clear HS
    obtain ⟨m,rfl,rfl,hm,S⟩:=hrel
    have HS2:=Lib.hid S
    have HL2:=Lib.hid (oL HL.out m)
    have HC:=Lib.hid (Js l m)
    clear S
    by_cases hlm:m<5
    ·have SC:(m:Int)<5:=by omega
     have nQ:Hid ((dL l (m+1)).2=((dL l m).1.getD m 0+(dL l m).2) % 18446744073709551616 / 67108864):=rfl
     have xq:Hid ((dL l (m+1)).1=(dL l m).1.set m (((dL l m).1.getD m 0+(dL l m).2) % 18446744073709551616 % 67108864)):=rfl
     have cn:=HS2.out.si (i:=m) (by rw [HL2.out.1];exact hlm)
     have fn:=HS2.out.free m
     obtain ⟨⟨x,hx⟩,⟨y,hy⟩⟩:(∃ x,(dL l m).1.getD m 0=x)∧∃ y,(dL l m).2=y:=⟨⟨_,rfl⟩,⟨_,rfl⟩⟩
     rw [hx] at cn xq nQ
     rw [hy] at xq nQ
     have HE2:=Lib.hid (qg x y)
     have Aq:=HS2.out.o5 m ((x+y) % 18446744073709551616) _ rfl
     generalize hz:(x+y) % 18446744073709551616=z at *
     have HZ:Hid (z<18446744073709551616):=by rw [← hz];exact Lib.hid (Nat.mod_lt _ (by decide))
     have HA:=Lib.hid (A9 z HZ.out)
     have Ij:=Lib.hid (A8 z)
     have NV:Hid (((dL l m).1.set m z).set m (z % 67108864)=(dL l (m+1)).1):=by
      unfold Hid
      rw [xq.out,List.set_set]
     have HP:=Lib.hid (Aq.o5 m (z % 67108864) _ NV.out)
     have Aq:=Lib.hid Aq
     clear hx hz xq HL2
     rw [hy]
     clear hy
     go_wp2_with fail
     refine ⟨⟨m+1,by go_num,?_,by omega,?_⟩,by simp [intOf];omega⟩
     ·rw [HE2.out,Ij.out,nQ.out]
     ·rw [HE2.out,HA.out]
      exact HP.out
    ·obtain rfl:m=5:=by omega
     have cn:=HS2.out.si (i:=0) (by rw [HL2.out.1];decide)
     have fn:=HS2.out.free 0
     have HM:=Lib.hid (Ju 5 (dL l 5).2)
     have HE2:=Lib.hid (qg ((dL l 5).1.getD 0 0) (5*(dL l 5).2 % 18446744073709551616))
     have HP:=Lib.hid (HS2.out.o5 0 (((dL l 5).1.getD 0 0+5*(dL l 5).2 % 18446744073709551616) % 18446744073709551616) (Ee l) rfl)
     rw [HE.out] at HP
     generalize (dL l 5).1.getD 0 0=x at *
     generalize (dL l 5).2=y at *
     go_wp2_with fail
     refine ⟨⟨k+1,by go_num,by omega,?_⟩,by simp [intOf];omega⟩
     rw [← HE2.out,← HM.out] at HP
     exact HP.out
  ·obtain rfl:k=2:=by omega
   have HP:=Lib.hid (HS.out.ak.setRow (aH (fP n 2)))
   have bx:=HS.out.boxed
   have b2:=HS.out.ak.boxed
   go_wp2_with (first
    | refine wpList_load_row rfl 324 _ rfl g0 rfl 324 (aH (fP n 2)) (0,0) _ bx Tryz.underlying324 rfl (dN HL.out) ?_
    | refine wpList_store_row rfl 324 _ _ rfl g1 (aH (fP n 2)) rfl rfl 324 _ b2 (dN HL.out) (jk gu HL.out) (jZ _) ?_)
   refine bodyPost_ret (results_cell_row rfl _ _ g1 324 (aH (fP n 2)) (0,0) _ rfl HP.out.boxed Tryz.underlying324 rfl (dN HL.out)) rfl ?_
   exact ⟨rfl,HP.out.drop.drop⟩
end
end
section
open Go.RowKit
section
variable {w0 w:World} {F0:List Nat} {L:List aT} {v:Value}
theorem SN (n m:List Nat) (hn:Limbs n) (hm:Limbs m) (S:Sp w0 F0 w L):Calls Tryz.prog 269 #[.agg (aH n),.agg (aH m)] w fun e w2=>e=.returned (.agg (aH (Jt n m)))∧Sp w0 F0 w2 L:=by
 have HN:=Lib.hid hn
 have HM:=Lib.hid hm
 have bV:=Lib.hid ((((S.box (aH n) 324).box (aH m) 324).box (aH gV) 324).box (aH gV) 324)
 have hsz:∀ (w:World) (o:Obj),(w.alloc o).heap.size=w.heap.size+1:=fun _ o=>Array.size_push _
 simp only [hsz] at bV
 clear S hn hm hsz
 go_enter Tryz.func269,Tryz.ntmps269
 go_wp2_with fail
 have bX:Hid (Sp w0 F0 ((((w.alloc (.cells (aH n) 324)).alloc (.cells (aH m) 324)).alloc (.cells #[.int .u64 0,.int .u64 0,.int .u64 0,.int .u64 0,.int .u64 0] 324)).alloc (.cells #[.int .u64 0,.int .u64 0,.int .u64 0,.int .u64 0,.int .u64 0] 324)) _):=bV
 clear bV
 generalize ((((w.alloc (.cells (aH n) 324)).alloc (.cells (aH m) 324)).alloc (.cells #[.int .u64 0,.int .u64 0,.int .u64 0,.int .u64 0,.int .u64 0] 324)).alloc (.cells #[.int .u64 0,.int .u64 0,.int .u64 0,.int .u64 0,.int .u64 0] 324))=w1 at *
 generalize w.heap.size+1+1+1=g3 at *
 generalize w.heap.size+1+1=g2 at *
 generalize w.heap.size+1=g1 at *
 generalize w.heap.size=g0 at *
 go_loopw [9] (fun i wr=>∃ k:Nat,i=.int .i64 k∧k≤5∧Sp w0 F0 wr (ae g3 (aH (jO n m k)) 324::ae g2 (aH gV) 324::ae g1 (aH m) 324::ae g0 (aH n) 324::L)) (fun i _=>5 - (intOf i).toNat)
 case atStart=>exact ⟨0,rfl,by decide,bX.out⟩
 case round =>
  clear bX
  obtain ⟨k,rfl,hk,S⟩:=hrel
  have HS:=Lib.hid S
  have HL:=Lib.hid (lK n m k)
  clear S
  by_cases hlt:k<5
  ·have hlt':(k:Int)<5:=by omega
   have HE:Hid (mR n m k (jO n m k) 5=jO n m (k+1)):=rfl
   generalize jO n m k=l at *
   go_wp2_with fail
   go_loopw [12] (fun j wq=>∃ p:Nat,j=.int .i64 p∧p≤5∧Sp w0 F0 wq (ae g3 (aH (mR n m k l p)) 324::ae g2 (aH gV) 324::ae g1 (aH m) 324::ae g0 (aH n) 324::L)) (fun j _=>5 - (intOf j).toNat)
   case atStart=>exact ⟨0,rfl,by decide,HS.out⟩
   case round =>
    clear HS
    obtain ⟨p,rfl,hp,S⟩:=hrel
    have HS2:=Lib.hid S
    have HL2:=Lib.hid (oM n m k HL.out p)
    clear S
    by_cases hlp:p<5
    ·have aec:(p:Int)<5:=by omega
     have cn:=(HS2.out.nV).si (i:=k) (by rw [HN.out.1];exact hlt)
     have cm:=(HS2.out.dJ).si (i:=p) (by rw [HM.out.1];exact hlp)
     have hq5:(k+p) % 5<5:=Nat.mod_lt _ (by decide)
     have co:=HS2.out.si (i:=(k+p) % 5) (by rw [HL2.out.1];exact hq5)
     have fo:=HS2.out.free ((k+p) % 5)
     have Yd:=Lib.hid (Ju (n.getD k 0) (m.getD p 0))
     have WQ:=Lib.hid (Ju (n.getD k 0*m.getD p 0 % 18446744073709551616) 5)
     have W9:Hid (Py n m k p=if 5≤k+p then n.getD k 0*m.getD p 0 % 18446744073709551616*5 % 18446744073709551616 else n.getD k 0*m.getD p 0 % 18446744073709551616):=rfl
     have HAD:=Lib.hid (fun z=>qg ((mR n m k l p).getD ((k+p) % 5) 0) z)
     have HP:=Lib.hid (HS2.out.drew.o5 ((k+p) % 5) (((mR n m k l p).getD ((k+p) % 5) 0+Py n m k p) % 18446744073709551616) (mR n m k l (p+1)) rfl)
     generalize (mR n m k l p).getD ((k+p) % 5) 0=x at *
     generalize n.getD k 0=y at *
     generalize m.getD p 0=z at *
     go_wp2_with fail
     go_region
     all_goals
      by_cases h5:5≤k+p
      ·have h5':(5:Int)≤k+p:=by omega
       have VD:=Lib.hid (W9.out.trans (if_pos h5))
       clear W9
       go_wp2_with fail
       refine ⟨⟨p+1,by go_num,by omega,?_⟩,by simp [intOf];omega⟩
       rw [← HAD.out,VD.out,← WQ.out,← Yd.out] at HP
       exact HP.out
      ·have h5':¬ (5:Int)≤k+p:=by omega
       have VD:=Lib.hid (W9.out.trans (if_neg h5))
       clear W9
       go_wp2_with fail
       refine ⟨⟨p+1,by go_num,by omega,?_⟩,by simp [intOf];omega⟩
       rw [← HAD.out,VD.out,← Yd.out] at HP
       exact HP.out
    ·obtain rfl:p=5:=by omega
     go_wp2_with fail
     refine ⟨⟨k+1,by go_num,by omega,?_⟩,by simp [intOf];omega⟩
     rw [← HE.out]
     exact HS2.out
  ·obtain rfl:k=5:=by omega
   have HB:=Lib.hid (Eh (jO n m 5) HL.out HS.out)
   have bx:=HS.out.boxed
   go_wp2_with (first
    | refine wpList_load_row rfl 324 _ rfl g3 rfl 324 (aH (jO n m 5)) (0,0) _ bx Tryz.underlying324 rfl (dN HL.out) ?_
    | fail)
   refine HB.out.mono ?_
   rintro e w2 ⟨rfl,S⟩
   have HC:=Lib.hid (eY HL.out 2)
   have HS2:=Lib.hid S.ak
   have HP:=Lib.hid (HS2.out.setRow (aH (fP (jO n m 5) 2)))
   have b2:=HS2.out.boxed
   clear S bx
   go_wp2_with (first
    | refine wpList_store_row rfl 324 _ _ rfl g2 (aH (fP (jO n m 5) 2)) rfl rfl 324 _ b2 (dN HC.out) (jk gu HC.out) (jZ _) ?_
    | fail)
   refine bodyPost_ret (results_cell_row rfl _ _ g2 324 (aH (fP (jO n m 5) 2)) (0,0) _ rfl HP.out.boxed Tryz.underlying324 rfl (dN HC.out)) rfl ?_
   exact ⟨rfl,HP.out.drop.drop.drop.drop⟩
theorem VE (c:UInt8) (p:Nat):IntKind.u64.wrap (IntKind.u64.wrap (c.toNat:Int)*2 ^ p)=((c.toNat*2 ^ p % 18446744073709551616:Nat):Int):=by
 have e:IntKind.u64.wrap (c.toNat:Int)=(c.toNat:Int):=by
  have:=c.toNat_lt
  rw [IntKind.wrap_u64]
  omega
 have h2:((c.toNat*2 ^ p:Nat):Int)=(c.toNat:Int)*2 ^ p:=by rw [Int.natCast_mul,Int.natCast_pow];rfl
 rw [e,← h2,IntKind.wrap_u64]
 generalize c.toNat*2 ^ p=m
 omega
theorem Jv (l:List Nat) (i x:Nat):(eu l i x).getD (i+1) 0=l.getD (i+1) 0:=by
 unfold eu
 simp [List.getD_eq_getElem?_getD,List.getElem?_set]
theorem Jw (s:Bs) (hs:s.length≤17) (S:Sp w0 F0 w L):Calls Tryz.prog 257 #[.string ⟨s.toArray⟩] w fun e w2=>e=.returned (.agg (aH (eQ s s.length)))∧Sp w0 F0 w2 L:=by
 have hs':(s.length:Int)≤17:=by omega
 have bV:=Lib.hid ((S.box (aH gV) 324).box (aH gV) 324)
 have hsz:∀ (w:World) (o:Obj),(w.alloc o).heap.size=w.heap.size+1:=fun _ o=>Array.size_push _
 simp only [hsz] at bV
 clear S hsz
 go_enter Tryz.func257,Tryz.ntmps257
 go_wp2_with fail
 have bX:Hid (Sp w0 F0 ((w.alloc (.cells #[.int .u64 0,.int .u64 0,.int .u64 0,.int .u64 0,.int .u64 0] 324)).alloc (.cells #[.int .u64 0,.int .u64 0,.int .u64 0,.int .u64 0,.int .u64 0] 324)) _):=bV
 clear bV
 generalize ((w.alloc (.cells #[.int .u64 0,.int .u64 0,.int .u64 0,.int .u64 0,.int .u64 0] 324)).alloc (.cells #[.int .u64 0,.int .u64 0,.int .u64 0,.int .u64 0,.int .u64 0] 324))=w1 at *
 generalize w.heap.size+1=g1 at *
 generalize w.heap.size=g0 at *
 go_loopw [11] (fun i wr=>∃ k:Nat,i=.int .i64 k∧k≤s.length∧Sp w0 F0 wr (ae g1 (aH (eQ s k)) 324::ae g0 (aH gV) 324::L)) (fun i _=>s.length - (intOf i).toNat)
 case atStart=>exact ⟨0,rfl,Nat.zero_le _,bX.out⟩
 case round =>
  clear bX
  obtain ⟨k,rfl,hk,S⟩:=hrel
  have HS:=Lib.hid S
  have HL:=Lib.hid (il s k)
  clear S
  by_cases hlt:k<s.length
  ·have hlt':(k:Int)<s.length:=by omega
   have hix:=fun w'=>tF s k hlt (k:Int) rfl w'
   have HG:Hid (s.getD k 0=s[k]):=by unfold Hid;simp [List.getD_eq_getElem?_getD,List.getElem?_eq_getElem hlt]
   have hb5:8*k / 26<5:=by omega
   have cn:=HS.out.si (i:=8*k / 26) (by rw [HL.out.1];exact hb5)
   have fn:=HS.out.free (8*k / 26)
   have HV:=Lib.hid (VE s[k] (8*k % 26))
   have HU:Hid (eQ s (k+1)=if 8*k / 26+1<5 then eu (eu (eQ s k) (8*k / 26) ((s.getD k 0).toNat*2 ^ (8*k % 26) % 18446744073709551616 % 67108864)) (8*k / 26+1) ((s.getD k 0).toNat*2 ^ (8*k % 26) % 18446744073709551616 / 67108864) else eu (eQ s k) (8*k / 26) ((s.getD k 0).toNat*2 ^ (8*k % 26) % 18446744073709551616 % 67108864)):=rfl
   rw [HG.out] at HU
   have xB:Hid (s[k].toNat*2 ^ (8*k % 26) % 18446744073709551616<18446744073709551616):=Lib.hid (Nat.mod_lt _ (by decide))
   clear HG
   generalize s[k]=c at *
   generalize hvv:c.toNat*2 ^ (8*k % 26) % 18446744073709551616=vv at *
   clear hvv
   have HA:=Lib.hid (A9 vv xB.out)
   have Ij:=Lib.hid (A8 vv)
   have HAD:=Lib.hid (qg ((eQ s k).getD (8*k / 26) 0) (vv % 67108864))
   have HP:=Lib.hid (HS.out.o5 (8*k / 26) (((eQ s k).getD (8*k / 26) 0+vv % 67108864) % 18446744073709551616) (eu (eQ s k) (8*k / 26) (vv % 67108864)) rfl)
   have HL2:=Lib.hid (HL.out.eu (8*k / 26) (vv % 67108864))
   have HN:=Lib.hid (Jv (eQ s k) (8*k / 26) (vv % 67108864))
   have nQ:Hid (8*k / 26+1<5→wr.cell? ⟨g1,8*k / 26+1,none⟩=some (.int .u64 ((eQ s k).getD (8*k / 26+1) 0))):=fun h=>HS.out.si (by rw [HL.out.1];exact h)
   have Ik:=Lib.hid (HS.out.free (8*k / 26+1))
   generalize (eQ s k).getD (8*k / 26) 0=x at *
   generalize eu (eQ s k) (8*k / 26) (vv % 67108864)=l2 at *
   generalize (eQ s k).getD (8*k / 26+1) 0=y at *
   rw [← HAD.out,← HA.out,← HV.out] at HP
   by_cases h5:8*k / 26+1<5
   ·have h5':(8*(k:Int)) / 26+1<5:=by omega
    have HU2:=Lib.hid (HU.out.trans (if_pos h5))
    have Sn:=nQ.out h5
    have fn2:=Ik.out
    have aaE:=Lib.hid (qg y (vv / 67108864))
    have xm:=Lib.hid (HP.out.o5 (8*k / 26+1) ((y+vv / 67108864) % 18446744073709551616) (eQ s (k+1)) (by rw [HU2.out];unfold eu;rw [HN.out]))
    rw [← aaE.out,← Ij.out,← HV.out] at xm
    clear HU
    go_wp2_with fail
    exact ⟨⟨k+1,by go_num,by omega,xm.out⟩,by simp [intOf];omega⟩
   ·have h5':¬ (8*(k:Int)) / 26+1<5:=by omega
    have HU2:=Lib.hid (HU.out.trans (if_neg h5))
    rw [← HU2.out] at HP
    clear HU
    go_wp2_with fail
    exact ⟨⟨k+1,by go_num,by omega,HP.out⟩,by simp [intOf];omega⟩
  ·obtain rfl:k=s.length:=by omega
   have HP:=Lib.hid (HS.out.ak.setRow (aH (eQ s s.length)))
   have bx:=HS.out.boxed
   have b2:=HS.out.ak.boxed
   go_wp2_with (first
    | refine wpList_load_row rfl 324 _ rfl g1 rfl 324 (aH (eQ s s.length)) (0,0) _ bx Tryz.underlying324 rfl (dN HL.out) ?_
    | refine wpList_store_row rfl 324 _ _ rfl g0 (aH (eQ s s.length)) rfl rfl 324 _ b2 (dN HL.out) (jk gu HL.out) (jZ _) ?_)
   refine bodyPost_ret (results_cell_row rfl _ _ g0 324 (aH (eQ s s.length)) (0,0) _ rfl HP.out.boxed Tryz.underlying324 rfl (dN HL.out)) rfl ?_
   exact ⟨rfl,HP.out.drop.drop⟩
end
end
section
open Go.RowKit
section
variable {w0 w:World} {F0:List Nat} {L:List aT} {v:Value}
theorem SS (z:Nat):(((z / 67108864:Nat):Int) == 0)=decide (z / 67108864=0):=by
 by_cases h:z / 67108864=0 <;> simp [h]
 omega
theorem SV (n:List Nat) (hn:Limbs n) (S:Sp w0 F0 w L):Calls Tryz.prog 259 #[.agg (aH n)] w fun e w2=>e=.returned (.agg (aH (oN n)))∧Sp w0 F0 w2 L:=by
 have HN:=Lib.hid hn
 have bV:=Lib.hid ((S.box (aH n) 324).box (aH gV) 324)
 have hsz:∀ (w:World) (o:Obj),(w.alloc o).heap.size=w.heap.size+1:=fun _ o=>Array.size_push _
 simp only [hsz] at bV
 have Zx:Hid (oN n=if (bD (eu (fP (fP n 2) 2) 0 5) 4).getD 4 0 / 67108864=0 then fP (fP n 2) 2 else (bD (eu (fP (fP n 2) 2) 0 5) 4).set 4 ((bD (eu (fP (fP n 2) 2) 0 5) 4).getD 4 0 % 67108864)):=rfl
 clear S hn hsz
 go_enter Tryz.func259,Tryz.ntmps259
 go_upto_region 1 with (fail)
 have bX:Hid (Sp w0 F0 ((w.alloc (.cells (aH n) 324)).alloc (.cells #[.int .u64 0,.int .u64 0,.int .u64 0,.int .u64 0,.int .u64 0] 324)) _):=bV
 clear bV
 generalize ((w.alloc (.cells (aH n) 324)).alloc (.cells #[.int .u64 0,.int .u64 0,.int .u64 0,.int .u64 0,.int .u64 0] 324))=w1 at *
 generalize w.heap.size+1=g1 at *
 generalize w.heap.size=g0 at *
 have HS2:=Lib.hid bX.out.ak
 have bx:=HS2.out.boxed
 clear bX
 go_wp2_with (first
  | refine wpList_load_row rfl 324 _ rfl g0 rfl 324 (aH n) (0,0) _ bx Tryz.underlying324 rfl (dN HN.out) ?_
  | fail)
 refine (Eh n HN.out HS2.out).mono ?_
 rintro e w2 ⟨rfl,S⟩
 have Vz:=Lib.hid (eY HN.out 2)
 have bI:=Lib.hid S
 clear S HS2 bx
 go_wp2_with fail
 refine (Eh _ Vz.out bI.out).mono ?_
 rintro e w3 ⟨rfl,S⟩
 have PD:=Lib.hid (eY Vz.out 2)
 have gP:=Lib.hid S
 clear S bI Vz
 generalize fP (fP n 2) 2=l at *
 have b4:=gP.out.boxed
 have gB:=Lib.hid (gP.out.setRow (aH l))
 clear gP
 go_upto_region 2 with (first
  | refine wpList_store_row rfl 324 _ _ rfl g0 (aH l) rfl rfl 324 _ b4 (dN PD.out) (jk HN.out PD.out) (jZ _) ?_
  | fail)
 generalize w3.setRow g0 (aH l)=w4 at *
 clear b4
 have bx:=gB.out.boxed
 have b6:(w4.alloc (.cells #[.int .u64 0,.int .u64 0,.int .u64 0,.int .u64 0,.int .u64 0] 324)).heap[w4.heap.size]? = some (.cells (aH gV) 324 (0,0)):=(MapKept.heap_alloc w4 _).1
 have fG:Hid (Sp w0 F0 ((w4.alloc (.cells #[.int .u64 0,.int .u64 0,.int .u64 0,.int .u64 0,.int .u64 0] 324)).setRow w4.heap.size (aH l)) _):=Lib.hid ((gB.out.box (aH gV) 324).setRow (aH l))
 clear gB
 go_upto_region 3 with (first
  | refine wpList_load_row rfl 324 _ rfl g0 rfl 324 (aH l) (0,0) _ bx Tryz.underlying324 rfl (dN PD.out) ?_
  | refine wpList_store_row rfl 324 _ _ rfl w4.heap.size (aH l) rfl rfl 324 _ b6 (dN PD.out) (jk gu PD.out) (jZ _) ?_)
 generalize ((w4.alloc (.cells #[.int .u64 0,.int .u64 0,.int .u64 0,.int .u64 0,.int .u64 0] 324)).setRow w4.heap.size (aH l))=w5 at *
 generalize w4.heap.size=g2 at *
 clear bx b6
 have c0:=fG.out.si (i:=0) (by rw [PD.out.1];decide)
 have f0:=fG.out.free 0
 have HAD:=Lib.hid (qg (l.getD 0 0) 5)
 have jN:=Lib.hid (fG.out.o5 0 ((l.getD 0 0+5) % 18446744073709551616) (eu l 0 5) rfl)
 have HM:=Lib.hid (PD.out.eu 0 5)
 generalize l.getD 0 0=x at *
 generalize eu l 0 5=m at *
 clear fG
 rw [← HAD.out] at jN
 have tV:Hid (Sp w0 F0 (w5.setCell ⟨g2,0,none⟩ (.int .u64 (IntKind.u64.wrap ((x:Int)+5)))) _):=jN
 clear jN HAD
 go_wp2_with fail
 clear c0 f0
 generalize w5.setCell ⟨g2,0,none⟩ (.int .u64 (IntKind.u64.wrap ((x:Int)+5)))=w6 at *
 go_loopw [13] (fun i wr=>∃ k:Nat,i=.int .i64 k∧k≤4∧Sp w0 F0 wr (ae g2 (aH (bD m k)) 324::ae g0 (aH l) 324::ae g1 (aH gV) 324::L)) (fun i _=>4 - (intOf i).toNat)
 case atStart=>exact ⟨0,rfl,by decide,tV.out⟩
 case round =>
  clear tV
  obtain ⟨k,rfl,hk,S⟩:=hrel
  have HS:=Lib.hid S
  have HL:=Lib.hid (mU HM.out k)
  clear S
  by_cases hlt:k<4
  ·have hlt':(k:Int)<4:=by omega
   have HU:Hid (bD m (k+1)=(eu (bD m k) (k+1) ((bD m k).getD k 0 / 67108864)).set k ((eu (bD m k) (k+1) ((bD m k).getD k 0 / 67108864)).getD k 0 % 67108864)):=rfl
   have HG:Hid ((eu (bD m k) (k+1) ((bD m k).getD k 0 / 67108864)).getD k 0=(bD m k).getD k 0):=by
    unfold eu Hid
    simp [List.getD_eq_getElem?_getD,List.getElem?_set]
   rw [HG.out] at HU
   have xB:=Lib.hid (HL.out.getD k)
   have ck:=HS.out.si (i:=k) (by rw [HL.out.1];omega)
   have ck1:=HS.out.si (i:=k+1) (by rw [HL.out.1];omega)
   have fk:=HS.out.free k
   have fk1:=HS.out.free (k+1)
   have HP:=HS.out.o5 (k+1) (((bD m k).getD (k+1) 0+(bD m k).getD k 0 / 67108864) % 18446744073709551616) (eu (bD m k) (k+1) ((bD m k).getD k 0 / 67108864)) rfl
   have xm:=Lib.hid (HP.o5 k ((bD m k).getD k 0 % 67108864) _ HU.out.symm).drew
   clear HP HU HG
   have HAD:=Lib.hid (qg ((bD m k).getD (k+1) 0) ((bD m k).getD k 0 / 67108864))
   generalize (bD m k).getD (k+1) 0=y at *
   generalize (bD m k).getD k 0=x at *
   have Ij:=Lib.hid (A8 x)
   have HA:=Lib.hid (A9 x xB.out)
   rw [← HAD.out,← Ij.out,← HA.out] at xm
   go_wp2_with fail
   go_region
   all_goals
    go_wp2_with fail
    go_roundw
    case rel=>exact ⟨k+1,by go_num,by omega,xm.out⟩
    case measure=>simp [intOf];omega
  ·obtain rfl:k=4:=by omega
   have c4:=HS.out.si (i:=4) (by rw [HL.out.1];decide)
   have f4:=HS.out.free 4
   have xB:=Lib.hid (HL.out.getD 4)
   have Ij:=Lib.hid (A8 ((bD m 4).getD 4 0))
   have HZ:=Lib.hid (SS ((bD m 4).getD 4 0))
   have HA:=Lib.hid (A9 ((bD m 4).getD 4 0) xB.out)
   have HP:=Lib.hid (HS.out.o5 4 ((bD m 4).getD 4 0 % 67108864) _ rfl)
   by_cases hz:(bD m 4).getD 4 0 / 67108864=0
   ·have HW:=Lib.hid (Zx.out.trans (if_pos hz))
    have HR:=Lib.hid (HS.out.dJ.setRow (aH l))
    have bx:=HS.out.ak.boxed
    have b2:=HS.out.dJ.boxed
    have hzb:(((bD m 4).getD 4 0:Nat):Int) / 67108864=0:=by rw [Ij.out,hz];rfl
    clear Zx
    generalize (bD m 4).getD 4 0=z at *
    go_wp2_with (first
     | refine wpList_load_row rfl 324 _ rfl g0 rfl 324 (aH l) (0,0) _ bx Tryz.underlying324 rfl (dN PD.out) ?_
     | refine wpList_store_row rfl 324 _ _ rfl g1 (aH l) rfl rfl 324 _ b2 (dN PD.out) (jk gu PD.out) (jZ _) ?_)
    refine bodyPost_ret (results_cell_row rfl _ _ g1 324 (aH l) (0,0) _ rfl HR.out.boxed Tryz.underlying324 rfl (dN PD.out)) rfl ?_
    exact ⟨by rw [HW.out],HR.out.drop.drop.drop⟩
   ·have HW:=Lib.hid (Zx.out.trans (if_neg hz))
    have hzb:¬ (((bD m 4).getD 4 0:Nat):Int) / 67108864=0:=by rw [Ij.out];omega
    have SY:=Lib.hid (HL.out.set 4 ((bD m 4).getD 4 0 % 67108864) (Nat.lt_of_lt_of_le (Nat.mod_lt _ (by decide)) (by decide)))
    clear Zx
    generalize (bD m 4).set 4 ((bD m 4).getD 4 0 % 67108864)=q at *
    generalize (bD m 4).getD 4 0=z at *
    rw [← HA.out] at HP
    have HR:=Lib.hid (HP.out.dJ.setRow (aH q))
    have bx:=HP.out.boxed
    have b2:=HP.out.dJ.boxed
    go_wp2_with (first
     | refine wpList_load_row rfl 324 _ rfl g2 rfl 324 (aH q) (0,0) _ bx Tryz.underlying324 rfl (dN SY.out) ?_
     | refine wpList_store_row rfl 324 _ _ rfl g1 (aH q) rfl rfl 324 _ b2 (dN SY.out) (jk gu SY.out) (jZ _) ?_)
    refine bodyPost_ret (results_cell_row rfl _ _ g1 324 (aH q) (0,0) _ rfl HR.out.boxed Tryz.underlying324 rfl (dN SY.out)) rfl ?_
    exact ⟨by rw [HW.out],HR.out.drop.drop.drop⟩
def kG (l:List Nat) (k:Nat):Bs:=(List.range k).map (fun i=>UInt8.ofNat (yM l i % 256))++List.replicate (16 - k) 0
theorem sj (l:List Nat) (k:Nat) (h:k≤16):(kG l k).length=16:=by simp [kG];omega
theorem Ei (l:List Nat) (k:Nat) (h:k<16):(iA (kG l k)).setIfInBounds k (.int .u8 (((yM l k:Nat):Int) % 256))=iA (kG l (k+1)):=by
 have e1:List.replicate (16 - k) (0:UInt8)=0::List.replicate (16 - (k+1)) 0:=by
  rw [show 16 - k=(16 - (k+1))+1 by omega,List.replicate_succ]
 have:=Fw ((List.range k).map (fun i=>UInt8.ofNat (yM l i % 256))) 0 (UInt8.ofNat (yM l k % 256)) (List.replicate (16 - (k+1)) 0)
 rw [List.length_map,List.length_range] at this
 unfold kG
 rw [e1,Km,List.range_succ,List.map_append]
 unfold bv at this
 rw [this]
 simp
theorem VF (a b:Nat) (ha:a<18446744073709551616) (hb:b<18446744073709551616):bits .or .u64 (a:Int) (b:Int)=((a ||| b:Nat):Int):=u64_or_nat a b ha hb
theorem KU (a p:Nat):((a:Int) / 2 ^ p)=((a / 2 ^ p:Nat):Int):=by
 rw [Int.natCast_ediv,Int.natCast_pow]
 rfl
theorem Ta (a p:Nat):IntKind.u64.wrap ((a:Int)*2 ^ p)=((a*2 ^ p % 18446744073709551616:Nat):Int):=by
 have h2:((a*2 ^ p:Nat):Int)=(a:Int)*2 ^ p:=by rw [Int.natCast_mul,Int.natCast_pow];rfl
 rw [← h2,IntKind.wrap_u64]
 generalize a*2 ^ p=m
 omega
theorem Tc (n:List Nat) (hn:Limbs n) (S:Sp w0 F0 w L):Calls Tryz.prog 261 #[.agg (aH n)] w fun e w2=>e=.returned (.string ⟨(r9 n).toArray⟩)∧Sp w0 F0 w2 L:=by
 have HN:=Lib.hid hn
 have bV:=Lib.hid ((S.box (aH n) 324).box (iA (kG n 0)) 5)
 have hsz:∀ (w:World) (o:Obj),(w.alloc o).heap.size=w.heap.size+1:=fun _ o=>Array.size_push _
 simp only [hsz] at bV
 have hmk:=fun W=>run_make_row' (P:=Tryz.prog) 79 5 (.int .u8 0) 1 Tryz.underlying79 (by kernel_rfl) rfl .i64 .i64 16 (by omega) (by omega) W
 rw [tC] at hmk
 obtain ⟨A0,QW⟩:∃ A0,iA (List.replicate 16 0)=A0:=⟨_,rfl⟩
 have HE0:Hid (iA (kG n 0)=A0):=QW
 rw [QW] at hmk
 rw [HE0.out] at bV
 clear S hn hsz QW
 have hmk:∀ W,(Instr.makeSlice 79 (.int .i64 16) (.int .i64 16)).run Tryz.prog W=.ok (.slice (some ⟨W.heap.size,0,none⟩) 16 16) (W.alloc (.cells A0 5)):=hmk
 go_enter Tryz.func261,Tryz.ntmps261
 go_wp2_with fail
 generalize ((w.alloc (.cells (aH n) 324)).alloc (.cells A0 5))=w1 at *
 generalize w.heap.size+1=g1 at *
 generalize w.heap.size=g0 at *
 clear hmk
 go_loopw [12] (fun i wr=>∃ k:Nat,i=.int .i64 k∧k≤16∧Sp w0 F0 wr (ae g1 (iA (kG n k)) 5::ae g0 (aH n) 324::L)) (fun i _=>16 - (intOf i).toNat)
 case atStart=>exact ⟨0,rfl,Nat.zero_le _,by rw [HE0.out];exact bV.out⟩
 case round =>
  clear bV HE0
  obtain ⟨k,rfl,hk,S⟩:=hrel
  have HS:=Lib.hid S
  clear S
  by_cases hlt:k<16
  ·have hlt':(k:Int)<16:=by omega
   have hb5:8*k / 26<5:=by omega
   have cn:=HS.out.ak.si (i:=8*k / 26) (by rw [HN.out.1];exact hb5)
   have nQ:Hid (8*k / 26+1<5→wr.cell? ⟨g0,8*k / 26+1,none⟩=some (.int .u64 (n.getD (8*k / 26+1) 0))):=fun h=>HS.out.ak.si (by rw [HN.out.1];exact h)
   have co:wr.cell? ⟨g1,k,none⟩=some (bv ((kG n k)[k]'(by rw [sj n k hk];exact hlt))):=by
    rw [HS.out.cell,jH,List.getElem?_eq_getElem (by rw [sj n k hk];exact hlt)]
    rfl
   have fo:=HS.out.free k
   have HV:Hid (yM n k=if 8*k / 26+1<5 then n.getD (8*k / 26) 0 / 2 ^ (8*k % 26) ||| (n.getD (8*k / 26+1) 0*2 ^ (26 - 8*k % 26) % 18446744073709551616) else n.getD (8*k / 26) 0 / 2 ^ (8*k % 26)):=rfl
   have HST:=Lib.hid (Ei n k hlt)
   have HP:=HS.out.set (o:=k) (.int .u8 (((yM n k:Nat):Int) % 256))
   rw [HST.out] at HP
   have HP:=Lib.hid HP
   have HX:=Lib.hid (HN.out.getD (8*k / 26))
   generalize n.getD (8*k / 26) 0=x at *
   generalize n.getD (8*k / 26+1) 0=y at *
   generalize yM n k=z at *
   clear HST
   by_cases h5:8*k / 26+1<5
   ·have h5':(8*(k:Int)) / 26+1<5:=by omega
    have Sn:=nQ.out h5
    go_wp2_with fail
    have HB:Hid (bits .or .u64 ((x:Int) / 2 ^ (8*k % 26)) (IntKind.u64.wrap ((y:Int)*2 ^ (26 - 8*k % 26)))=(z:Int)):=by
     unfold Hid
     rw [KU,Ta,VF _ _ (Nat.lt_of_le_of_lt (Nat.div_le_self _ _) HX.out) (Nat.mod_lt _ (by decide)),HV.out,if_pos h5]
    rw [← HB.out] at HP
    exact ⟨⟨k+1,by go_num,by omega,HP.out⟩,by simp [intOf];omega⟩
   ·have h5':¬ (8*(k:Int)) / 26+1<5:=by omega
    go_wp2_with fail
    have HB:Hid ((x:Int) / 2 ^ (8*k % 26)=(z:Int)):=by
     unfold Hid
     rw [KU,HV.out,if_neg h5]
    rw [← HB.out] at HP
    exact ⟨⟨k+1,by go_num,by omega,HP.out⟩,by simp [intOf];omega⟩
  ·obtain rfl:k=16:=by omega
   have Ye:kG n 16=r9 n:=by simp [kG,r9]
   rw [Ye] at HS
   have hcv:=Lib.run_convert_whole (P:=Tryz.prog) wr 79 5 9 Tryz.underlying79 Tryz.underlying5 Tryz.underlying9 g1 0 ⟨(r9 n).toArray⟩ (fun i hi=>by
    have hi':i<(r9 n).length:=hi
    rw [Nat.zero_add,HS.out.cell,jH,List.getElem?_eq_getElem hi']
    rfl) 16
   have hz:(⟨(r9 n).toArray⟩:ByteArray).size=16:=rfl
   rw [hz] at hcv
   clear Ye hz
   go_wp2_with fail
   go_ret
   exact ⟨rfl,HS.out.drop.drop⟩
theorem VG (c:UInt8):bits .and .u8 (c.toNat:Int) 15=((c &&& 15).toNat:Int):=by
 have:=u8_and_nat c.toNat 15 c.toNat_lt (by decide)
 rw [UInt8.toNat_and]
 exact this
theorem Td (c:UInt8):bits .and .u8 (c.toNat:Int) 252=((c &&& 252).toNat:Int):=by
 have:=u8_and_nat c.toNat 252 c.toNat_lt (by decide)
 rw [UInt8.toNat_and]
 exact this
theorem Te (r:Bs) (hr:r.length=16) (S:Sp w0 F0 w L):Calls Tryz.prog 256 #[.string ⟨r.toArray⟩] w fun e w2=>e=.returned (.tuple #[.string ⟨(dI r 16).toArray⟩,.int .i64 0])∧Sp w0 F0 w2 L:=by
 have hcv:=run_bytes_of_string (P:=Tryz.prog) w 9 79 5 ⟨r.toArray⟩ Tryz.underlying9 Tryz.underlying79 Tryz.underlying5
 have HL:=Lib.hid hr
 have bV:Hid (Sp w0 F0 (w.alloc (.cells (bytesRow ⟨r.toArray⟩ (grownCap w r.length 0 5)) 5 ((bytesRow ⟨r.toArray⟩ (grownCap w r.length 0 5)).size,(bytesRow ⟨r.toArray⟩ (grownCap w r.length 0 5)).size+1))).drew (ui w.heap.size r::L)):=S.FH r (grownCap w r.length 0 5)
 unfold Hid at bV
 rw [hr] at bV
 have bV:=Lib.hid bV
 have hr':(r.length:Int)=16:=by omega
 clear S
 go_enter Tryz.func256,Tryz.ntmps256
 go_wp2_with fail
 generalize (w.alloc _).drew=w1 at *
 generalize w.heap.size=g at *
 generalize grownCap w 16 0 5=cap at *
 clear hcv hr hr'
 go_loopw [13] (fun i wr=>∃ k:Nat,i=.int .i64 k∧k≤16∧Sp w0 F0 wr (ui g (dI r k)::L)) (fun i _=>16 - (intOf i).toNat)
 case atStart=>exact ⟨0,rfl,Nat.zero_le _,bV.out⟩
 case round =>
  clear bV
  obtain ⟨k,rfl,hk,S⟩:=hrel
  have HS:=Lib.hid S
  clear S
  have vW:Hid ((dI r k).length=16):=by unfold Hid;rw [nH];exact HL.out
  by_cases hlt:k<16
  ·have hlt':(k:Int)<16:=by omega
   have hk2:k<(dI r k).length:=by rw [vW.out];exact hlt
   have ck:=HS.out.tH hk2
   have fk:=HS.out.Ct hk2
   have HG:Hid ((dI r k).getD k 0=(dI r k)[k]):=by unfold Hid;simp [List.getD_eq_getElem?_getD,List.getElem?_eq_getElem hk2]
   have HU:Hid (dI r (k+1)=(dI r k).set k (qf k ((dI r k).getD k 0))):=rfl
   rw [HG.out] at HU
   have HP:=HS.out.FI hk2 (qf k (dI r k)[k])
   rw [← HU.out] at HP
   have HP:=Lib.hid HP
   have HN:Hid (qf k (dI r k)[k]=(dI r k)[k]→Sp w0 F0 wr (ui g (dI r (k+1))::L)):=fun h=>by
    rw [HU.out,h,List.set_getElem_self]
    exact HS.out
   have aaG:=Lib.hid (VG (dI r k)[k])
   have Yf:=Lib.hid (Td (dI r k)[k])
   clear HG HU
   generalize (dI r k)[k]=c at *
   unfold bv at ck HP
   by_cases h3:k % 4=3
   ·have h3':(k:Int) % 4=3:=by omega
    have HC:Hid (qf k c=c &&& 15):=if_pos h3
    rw [HC.out,← aaG.out] at HP
    clear hk2
    go_wp2_with fail
    exact ⟨⟨k+1,by go_num,by omega,HP.out⟩,by simp [intOf];omega⟩
   ·have h3':¬ (k:Int) % 4=3:=by omega
    by_cases h0:k % 4=0∧0<k
    ·obtain ⟨h0a,h0b⟩:=h0
     have h0':(k:Int) % 4=0:=by omega
     have aeh:(0:Int)<k:=by omega
     have HC:Hid (qf k c=c &&& 252):=(if_neg h3).trans (if_pos ⟨h0a,h0b⟩)
     rw [HC.out,← Yf.out] at HP
     clear hk2
     go_wp2_with fail
     exact ⟨⟨k+1,by go_num,by omega,HP.out⟩,by simp [intOf];omega⟩
    ·have HC:Hid (qf k c=c):=(if_neg h3).trans (if_neg h0)
     have xm:=Lib.hid (HN.out HC.out)
     clear hk2 HP HN
     by_cases hk0:k=0
     ·subst hk0
      go_wp2_with fail
      exact ⟨⟨0+1,by go_num,by omega,xm.out⟩,by simp [intOf]⟩
     ·have h0':¬ (k:Int) % 4=0:=by omega
      go_wp2_with fail
      exact ⟨⟨k+1,by go_num,by omega,xm.out⟩,by simp [intOf];omega⟩
  ·obtain rfl:k=16:=by omega
   have hcv:=Lib.run_convert_whole (P:=Tryz.prog) wr 79 5 9 Tryz.underlying79 Tryz.underlying5 Tryz.underlying9 g 0 ⟨(dI r 16).toArray⟩ (fun i hi=>by
    have hi':i<(dI r 16).length:=hi
    rw [Nat.zero_add]
    exact HS.out.tH hi') cap
   have hz:(⟨(dI r 16).toArray⟩:ByteArray).size=16:=vW.out
   rw [hz] at hcv
   have HD:=Lib.hid HS.out.drop
   clear HS hz vW
   go_wp2
   go_ret2
   exact ⟨rfl,HD.out⟩
end
end
section
open Go.RowKit
section
variable {w0 w:World} {F0:List Nat} {L:List aT} {v:Value}
theorem uS {l:List Nat} (h:Limbs l):∃ a b c d e,l=[a,b,c,d,e]:=by
 obtain ⟨h,_⟩:=h
 match l,h with
 | [a,b,c,d,e],_=>exact ⟨a,b,c,d,e,rfl⟩
abbrev aV (p r0 r1 r2 r3 r4 s0 s1 s2 s3 s4 a0 a1 a2 a3 a4:Nat) (rest:Bs):aT :=
 ae p #[.int .u64 r0,.int .u64 r1,.int .u64 r2,.int .u64 r3,.int .u64 r4,.int .u64 s0,.int .u64 s1,.int .u64 s2,.int .u64 s3,.int .u64 s4,.int .u64 a0,.int .u64 a1,.int .u64 a2,.int .u64 a3,.int .u64 a4,.string ⟨rest.toArray⟩] 327
theorem Sp.VH {b:Nat} {T:TypeId} {a0 a1 a2 a3 a4:Value} (S:Sp w0 F0 w (ae b #[a0,a1,a2,a3,a4] T::L)) (u0 u1 u2 u3 u4:Value):Sp w0 F0 (((((w.setCell ⟨b,0,none⟩ u0).setCell ⟨b,1,none⟩ u1).setCell ⟨b,2,none⟩ u2).setCell ⟨b,3,none⟩ u3).setCell ⟨b,4,none⟩ u4) (ae b #[u0,u1,u2,u3,u4] T::L):=by
 have h:=((((S.set (o:=0) u0).set (o:=1) u1).set (o:=2) u2).set (o:=3) u3).set (o:=4) u4
 simp only [List.setIfInBounds_toArray,List.set_cons_zero,List.set_cons_succ] at h
 exact h
theorem PE (p r0 r1 r2 r3 r4 s0 s1 s2 s3 s4 a0 a1 a2 a3 a4:Nat) (rest:Bs) (a:List Nat) (s:Bs) (ha:Limbs a) (hr:Limbs [r0,r1,r2,r3,r4]) (hs:s.length≤16) (S:Sp w0 F0 w (aV p r0 r1 r2 r3 r4 s0 s1 s2 s3 s4 a0 a1 a2 a3 a4 rest::L)) :
  Calls Tryz.prog 258 #[.pointer (some ⟨p,0,none⟩),.agg (aH a),.string ⟨s.toArray⟩] w fun e w2=>e=.returned (.agg (aH (yN [r0,r1,r2,r3,r4] a s)))∧Sp w0 F0 w2 (aV p r0 r1 r2 r3 r4 s0 s1 s2 s3 s4 a0 a1 a2 a3 a4 rest::L):=by
 obtain ⟨x0,x1,x2,x3,x4,rfl⟩:=uS ha
 have HA:=Lib.hid ha
 have HR:=Lib.hid hr
 have hs':(s.length:Int)≤16:=by omega
 have bV:=Lib.hid ((S.box (aH [x0,x1,x2,x3,x4]) 324).box (aH gV) 324)
 have hsz:∀ (w:World) (o:Obj),(w.alloc o).heap.size=w.heap.size+1:=fun _ o=>Array.size_push _
 simp only [hsz] at bV
 have Ry:=Lib.hid (kF HA.out (eQ (s++[1]) (s.length+1)) 5)
 have R6:Hid ((s++[1]).length≤17):=by unfold Hid;simp;omega
 have IQ:Hid ((s++[1]).length=s.length+1):=by unfold Hid;simp
 clear S hsz ha hr
 go_enter Tryz.func258,Tryz.ntmps258
 go_upto_region 1 with (fail)
 have bX:Hid (Sp w0 F0 ((w.alloc (.cells #[.int .u64 x0,.int .u64 x1,.int .u64 x2,.int .u64 x3,.int .u64 x4] 324)).alloc (.cells #[.int .u64 0,.int .u64 0,.int .u64 0,.int .u64 0,.int .u64 0] 324)) (ae (w.heap.size+1) #[.int .u64 0,.int .u64 0,.int .u64 0,.int .u64 0,.int .u64 0] 324::ae w.heap.size #[.int .u64 x0,.int .u64 x1,.int .u64 x2,.int .u64 x3,.int .u64 x4] 324::aV p r0 r1 r2 r3 r4 s0 s1 s2 s3 s4 a0 a1 a2 a3 a4 rest::L)):=bV
 clear bV
 unfold aH
 simp only [List.map_cons,List.map_nil]
 generalize ((w.alloc (.cells #[.int .u64 x0,.int .u64 x1,.int .u64 x2,.int .u64 x3,.int .u64 x4] 324)).alloc (.cells #[.int .u64 0,.int .u64 0,.int .u64 0,.int .u64 0,.int .u64 0] 324))=w1 at *
 generalize w.heap.size+1=g1 at *
 generalize w.heap.size=g0 at *
 have hadd:=dZ s [1] (by simp [maxLen];omega)
 obtain ⟨z0,z1,z2,z3,z4,hz⟩:=uS (eY (lK (kY [x0,x1,x2,x3,x4] (eQ (s++[1]) (s.length+1)) 5) [r0,r1,r2,r3,r4] 5) 2)
 have HZ:Hid (yN [r0,r1,r2,r3,r4] [x0,x1,x2,x3,x4] s=[z0,z1,z2,z3,z4]):=hz
 have xq:=Lib.hid (fun (W:World) (S':Sp w0 F0 W (ae g1 #[.int .u64 0,.int .u64 0,.int .u64 0,.int .u64 0,.int .u64 0] 324::ae g0 #[.int .u64 x0,.int .u64 x1,.int .u64 x2,.int .u64 x3,.int .u64 x4] 324::aV p r0 r1 r2 r3 r4 s0 s1 s2 s3 s4 a0 a1 a2 a3 a4 rest::L))=>Jw (s++[1]) R6.out S')
 rw [IQ.out] at xq
 have nQ:=Lib.hid (fun (W:World) (S':Sp w0 F0 W (ae g1 #[.int .u64 0,.int .u64 0,.int .u64 0,.int .u64 0,.int .u64 0] 324::ae g0 #[.int .u64 x0,.int .u64 x1,.int .u64 x2,.int .u64 x3,.int .u64 x4] 324::aV p r0 r1 r2 r3 r4 s0 s1 s2 s3 s4 a0 a1 a2 a3 a4 rest::L))=>Pz [x0,x1,x2,x3,x4] (eQ (s++[1]) (s.length+1)) HA.out (il _ _) S')
 have WT:=Lib.hid (fun (W:World) (S':Sp w0 F0 W (ae g1 #[.int .u64 0,.int .u64 0,.int .u64 0,.int .u64 0,.int .u64 0] 324::ae g0 #[.int .u64 x0,.int .u64 x1,.int .u64 x2,.int .u64 x3,.int .u64 x4] 324::aV p r0 r1 r2 r3 r4 s0 s1 s2 s3 s4 a0 a1 a2 a3 a4 rest::L))=>SN (yL [x0,x1,x2,x3,x4] (eQ (s++[1]) (s.length+1))) [r0,r1,r2,r3,r4] Ry.out HR.out S')
 rw [show Jt (yL [x0,x1,x2,x3,x4] (eQ (s++[1]) (s.length+1))) [r0,r1,r2,r3,r4]=[z0,z1,z2,z3,z4] from hz] at WT
 clear hz Ry R6 IQ HA HR
 generalize eQ (s++[1]) (s.length+1)=rd at *
 generalize yL [x0,x1,x2,x3,x4] rd=pl at *
 refine aM [0,1,2,5,6,7,8,3,4,9,10] (fun c=>c == 3 || c == 4 || c == 9 || c == 10) (fun c=>c == 10) (T:=fun wx=>(∀ o,wx.cell? ⟨g0,o,none⟩=(#[.int .u64 x0,.int .u64 x1,.int .u64 x2,.int .u64 x3,.int .u64 x4])[o]?)∧(∀ o,wx.cell? ⟨p,o,none⟩=(#[.int .u64 r0,.int .u64 r1,.int .u64 r2,.int .u64 r3,.int .u64 r4,.int .u64 s0,.int .u64 s1,.int .u64 s2,.int .u64 s3,.int .u64 s4,.int .u64 a0,.int .u64 a1,.int .u64 a2,.int .u64 a3,.int .u64 a4,.string ⟨rest.toArray⟩])[o]?)) (S:=fun wx=>Sp w0 F0 wx (ae g1 #[.int .u64 0,.int .u64 0,.int .u64 0,.int .u64 0,.int .u64 0] 324::ae g0 #[.int .u64 x0,.int .u64 x1,.int .u64 x2,.int .u64 x3,.int .u64 x4] 324::aV p r0 r1 r2 r3 r4 s0 s1 s2 s3 s4 a0 a1 a2 a3 a4 rest::L)) (by kernel_rfl) (by kernel_rfl) (by kernel_rfl) bX.out.drew (fun x h=>⟨((Sp.pick [_,_] [1] (by decide) (h))).cell,((Sp.pick [_,_,_] [2] (by decide) (h))).cell⟩) ?_
 repeat
  refine Exists.intro _ (And.intro rfl (Or.inl (Exists.intro ?_ (And.intro (fun wS hS K hK=>?_) (And.intro ?_ ?_)))))
  rotate_left 1
  ·obtain ⟨t0,t1⟩:=hS
   first
    | (refine ah rfl ?_;simp only [Act.put,List.setIfInBounds_toArray,List.set_cons_zero,List.set_cons_succ];exact hK.out)
    | (refine ag rfl ?_;go_simp;exact hK.out)
  ·rfl
 refine bC.one rfl rfl rfl (fun wS hS R hR=>?_)
 go_simp
 go_at_call 257
 refine (xq.out wS hS).mono ?_
 rintro e w7 ⟨rfl,S7⟩
 refine hR.out _ _ rfl (fun wx=>(∀ o,wx.cell? ⟨g0,o,none⟩=(#[.int .u64 x0,.int .u64 x1,.int .u64 x2,.int .u64 x3,.int .u64 x4])[o]?)∧(∀ o,wx.cell? ⟨p,o,none⟩=(#[.int .u64 r0,.int .u64 r1,.int .u64 r2,.int .u64 r3,.int .u64 r4,.int .u64 s0,.int .u64 s1,.int .u64 s2,.int .u64 s3,.int .u64 s4,.int .u64 a0,.int .u64 a1,.int .u64 a2,.int .u64 a3,.int .u64 a4,.string ⟨rest.toArray⟩])[o]?)) (fun wx=>Sp w0 F0 wx (ae g1 #[.int .u64 0,.int .u64 0,.int .u64 0,.int .u64 0,.int .u64 0] 324::ae g0 #[.int .u64 x0,.int .u64 x1,.int .u64 x2,.int .u64 x3,.int .u64 x4] 324::aV p r0 r1 r2 r3 r4 s0 s1 s2 s3 s4 a0 a1 a2 a3 a4 rest::L)) S7 (fun x h=>⟨((Sp.pick [_,_] [1] (by decide) (h))).cell,((Sp.pick [_,_,_] [2] (by decide) (h))).cell⟩) (fun _ h=>h) ?_
 clear hR hS S7
 repeat
  refine Exists.intro _ (And.intro rfl (Or.inl (Exists.intro ?_ (And.intro (fun wS hS K hK=>?_) (And.intro ?_ ?_)))))
  rotate_left 1
  ·obtain ⟨t0,t1⟩:=hS
   first
    | (refine ah rfl ?_;simp only [Act.put,List.setIfInBounds_toArray,List.set_cons_zero,List.set_cons_succ];exact hK.out)
    | (refine ag rfl ?_;go_simp;exact hK.out)
  ·rfl
 refine bC.one rfl rfl rfl (fun wS hS R hR=>?_)
 go_simp
 go_at_call 260
 refine (nQ.out wS hS).mono ?_
 rintro e w7 ⟨rfl,S7⟩
 refine hR.out _ _ rfl (fun wx=>(∀ o,wx.cell? ⟨g0,o,none⟩=(#[.int .u64 x0,.int .u64 x1,.int .u64 x2,.int .u64 x3,.int .u64 x4])[o]?)∧(∀ o,wx.cell? ⟨p,o,none⟩=(#[.int .u64 r0,.int .u64 r1,.int .u64 r2,.int .u64 r3,.int .u64 r4,.int .u64 s0,.int .u64 s1,.int .u64 s2,.int .u64 s3,.int .u64 s4,.int .u64 a0,.int .u64 a1,.int .u64 a2,.int .u64 a3,.int .u64 a4,.string ⟨rest.toArray⟩])[o]?)) (fun wx=>Sp w0 F0 wx (ae g1 #[.int .u64 0,.int .u64 0,.int .u64 0,.int .u64 0,.int .u64 0] 324::ae g0 #[.int .u64 x0,.int .u64 x1,.int .u64 x2,.int .u64 x3,.int .u64 x4] 324::aV p r0 r1 r2 r3 r4 s0 s1 s2 s3 s4 a0 a1 a2 a3 a4 rest::L)) S7 (fun x h=>⟨((Sp.pick [_,_] [1] (by decide) (h))).cell,((Sp.pick [_,_,_] [2] (by decide) (h))).cell⟩) (fun _ h=>h) ?_
 clear hR hS S7
 repeat
  refine Exists.intro _ (And.intro rfl (Or.inl (Exists.intro ?_ (And.intro (fun wS hS K hK=>?_) (And.intro ?_ ?_)))))
  rotate_left 1
  ·obtain ⟨t0,t1⟩:=hS
   first
    | (refine ah rfl ?_;simp only [Act.put,List.setIfInBounds_toArray,List.set_cons_zero,List.set_cons_succ];exact hK.out)
    | (refine ag rfl ?_;go_simp;exact hK.out)
  ·rfl
 refine bC.one rfl rfl rfl (fun wS hS R hR=>?_)
 go_simp
 go_at_call 269
 refine (WT.out wS hS).mono ?_
 rintro e w7 ⟨rfl,S7⟩
 refine hR.out _ _ rfl (fun wx=>(∀ o,wx.cell? ⟨g0,o,none⟩=(#[.int .u64 x0,.int .u64 x1,.int .u64 x2,.int .u64 x3,.int .u64 x4])[o]?)∧(∀ o,wx.cell? ⟨p,o,none⟩=(#[.int .u64 r0,.int .u64 r1,.int .u64 r2,.int .u64 r3,.int .u64 r4,.int .u64 s0,.int .u64 s1,.int .u64 s2,.int .u64 s3,.int .u64 s4,.int .u64 a0,.int .u64 a1,.int .u64 a2,.int .u64 a3,.int .u64 a4,.string ⟨rest.toArray⟩])[o]?)) (fun wx=>Sp w0 F0 wx (ae g1 #[.int .u64 0,.int .u64 0,.int .u64 0,.int .u64 0,.int .u64 0] 324::ae g0 #[.int .u64 x0,.int .u64 x1,.int .u64 x2,.int .u64 x3,.int .u64 x4] 324::aV p r0 r1 r2 r3 r4 s0 s1 s2 s3 s4 a0 a1 a2 a3 a4 rest::L)) S7 (fun x h=>⟨((Sp.pick [_,_] [1] (by decide) (h))).cell,((Sp.pick [_,_,_] [2] (by decide) (h))).cell⟩) (fun _ h=>h) ?_
 clear hR hS S7
 repeat
  refine Exists.intro _ (And.intro rfl (Or.inl (Exists.intro ?_ (And.intro (fun wS hS K hK=>?_) (And.intro ?_ ?_)))))
  rotate_left 1
  ·obtain ⟨t0,t1⟩:=hS
   first
    | (refine ah rfl ?_;simp only [Act.put,List.setIfInBounds_toArray,List.set_cons_zero,List.set_cons_succ];exact hK.out)
    | (refine ag rfl ?_;go_simp;exact hK.out)
  ·rfl
 refine bC.two rfl rfl rfl rfl (fun wS hS R hR=>?_)
 have c1:=hS.cell
 have f1:=hS.free
 have HP:=Lib.hid (hS.VH (.int .u64 z0) (.int .u64 z1) (.int .u64 z2) (.int .u64 z3) (.int .u64 z4))
 simp only [aH,List.map_cons,List.map_nil]
 go_simp
 refine hR.out _ _ rfl (fun wx=>True) (fun wx=>Sp w0 F0 wx (ae g1 #[.int .u64 z0,.int .u64 z1,.int .u64 z2,.int .u64 z3,.int .u64 z4] 324::ae g0 #[.int .u64 x0,.int .u64 x1,.int .u64 x2,.int .u64 x3,.int .u64 x4] 324::aV p r0 r1 r2 r3 r4 s0 s1 s2 s3 s4 a0 a1 a2 a3 a4 rest::L)) HP.out (fun _ _=>trivial)  ?_
 clear hR
 repeat
  refine Exists.intro _ (And.intro rfl (Or.inl (Exists.intro ?_ (And.intro (fun wS hS K hK=>?_) (And.intro ?_ ?_)))))
  rotate_left 1
  ·have t0:=hS
   first
    | (refine ah rfl ?_;simp only [Act.put,List.setIfInBounds_toArray,List.set_cons_zero,List.set_cons_succ];exact hK.out)
    | (refine ag rfl ?_;go_simp;exact hK.out)
  ·rfl
 intro wE hE
 have aX:=Lib.hid hE
 clear hE
 go_wp2
 refine bodyPost_ret (results_cell_row rfl _ _ g1 324 #[.int .u64 z0,.int .u64 z1,.int .u64 z2,.int .u64 z3,.int .u64 z4] (0,0) _ rfl aX.out.boxed Tryz.underlying324 rfl (by kernel_rfl)) rfl ?_
 exact ⟨by rw [HZ.out];rfl,aX.out.drop.drop⟩
end
end
section
open Go.RowKit
section
variable {w0 w:World} {F0:List Nat} {L:List aT} {v:Value}
theorem Yg (key:Bs) (hk:key.length=32) (S:Sp w0 F0 w L):Calls Tryz.prog 238 #[.string ⟨key.toArray⟩] w fun e w2=>∃ p r0 r1 r2 r3 r4 s0 s1 s2 s3 s4,yO key=[r0,r1,r2,r3,r4]∧Gp key=[s0,s1,s2,s3,s4] ∧
  e=.returned (.tuple #[.pointer (some ⟨p,0,none⟩),.int .i64 0])∧Sp w0 F0 w2 (aV p r0 r1 r2 r3 r4 s0 s1 s2 s3 s4 0 0 0 0 0 []::L):=by
 have hc1:=iT key 16
 have hc2:=nC key 16 32 hk.symm
 have hk':(key.length:Int)=32:=by omega
 obtain ⟨r0,r1,r2,r3,r4,hr⟩:=uS (il (dI (key.take 16) 16) 16)
 obtain ⟨s0,s1,s2,s3,s4,hs⟩:=uS (il (key.drop 16) 16)
 have HT:Hid ((key.take 16).length=16):=by unfold Hid;simp;omega
 have HD:Hid ((key.drop 16).length=16):=by unfold Hid;simp;omega
 have Yh:Hid ((dI (key.take 16) 16).length=16):=by unfold Hid;rw [nH];exact HT.out
 have W9:Hid (yO key=[r0,r1,r2,r3,r4]):=hr
 have HPS:Hid (Gp key=[s0,s1,s2,s3,s4]):=hs
 have xq:=Lib.hid (fun (W:World) (S':Sp w0 F0 W L)=>Jw (dI (key.take 16) 16) (by rw [Yh.out];decide) S')
 have nQ:=Lib.hid (fun (W:World) (S':Sp w0 F0 W L)=>Jw (key.drop 16) (by rw [HD.out];decide) S')
 rw [Yh.out,hr] at xq
 rw [HD.out,hs] at nQ
 have xq:Hid (∀ (W:World) (S':Sp w0 F0 W L),Calls Tryz.prog 257 #[.string ⟨(dI (key.take 16) 16).toArray⟩] W fun e w2=>e=.returned (.agg #[.int .u64 r0,.int .u64 r1,.int .u64 r2,.int .u64 r3,.int .u64 r4])∧Sp w0 F0 w2 L):=xq
 have nQ:Hid (∀ (W:World) (S':Sp w0 F0 W L),Calls Tryz.prog 257 #[.string ⟨(key.drop 16).toArray⟩] W fun e w2=>e=.returned (.agg #[.int .u64 s0,.int .u64 s1,.int .u64 s2,.int .u64 s3,.int .u64 s4])∧Sp w0 F0 w2 L):=nQ
 have bV:=Lib.hid S
 clear hr hs S HD Yh
 generalize key.drop 16=kd at *
 go_enter Tryz.func238,Tryz.ntmps238
 go_wp2_with fail
 refine (Te (key.take 16) HT.out bV.out).mono ?_
 rintro e w2 ⟨rfl,S⟩
 have bX:=Lib.hid S
 clear S bV HT
 generalize dI (key.take 16) 16=kc at *
 generalize key.take 16=kt at *
 go_upto_region 6 with (fail)
 refine aM [0,2,3,1,4,5,6,7,8] (fun c=>c == 1 || c == 4 || c == 6) (fun c=>c == 6) (T:=fun wx=>True) (S:=fun wx=>Sp w0 F0 wx (L)) (by kernel_rfl) (by kernel_rfl) (by kernel_rfl) bX.out.drew (fun x h=>trivial) ?_
 repeat
  refine Exists.intro _ (And.intro rfl (Or.inl (Exists.intro ?_ (And.intro (fun wS hS K hK=>?_) (And.intro ?_ ?_)))))
  rotate_left 1
  ·have t0:=hS
   first
    | (refine ah rfl ?_;simp only [Act.put,List.setIfInBounds_toArray,List.set_cons_zero,List.set_cons_succ];exact hK.out)
    | (refine ag rfl ?_;go_simp;exact hK.out)
  ·rfl
 refine bC.one rfl rfl rfl (fun wS hS R hR=>?_)
 go_simp
 go_at_call 257
 refine (xq.out wS hS).mono ?_
 rintro e w7 ⟨rfl,S7⟩
 refine hR.out _ _ rfl (fun wx=>True) (fun wx=>Sp w0 F0 wx (L)) S7 (fun x h=>trivial) (fun _ h=>h) ?_
 clear hR hS S7
 repeat
  refine Exists.intro _ (And.intro rfl (Or.inl (Exists.intro ?_ (And.intro (fun wS hS K hK=>?_) (And.intro ?_ ?_)))))
  rotate_left 1
  ·have t0:=hS
   first
    | (refine ah rfl ?_;simp only [Act.put,List.setIfInBounds_toArray,List.set_cons_zero,List.set_cons_succ];exact hK.out)
    | (refine ag rfl ?_;go_simp;exact hK.out)
  ·rfl
 refine bC.one rfl rfl rfl (fun wS hS R hR=>?_)
 go_simp
 go_at_call 257
 refine (nQ.out wS hS).mono ?_
 rintro e w7 ⟨rfl,S7⟩
 refine hR.out _ _ rfl (fun wx=>True) (fun wx=>Sp w0 F0 wx (L)) S7 (fun x h=>trivial) (fun _ h=>h) ?_
 clear hR hS S7
 repeat
  refine Exists.intro _ (And.intro rfl (Or.inl (Exists.intro ?_ (And.intro (fun wS hS K hK=>?_) (And.intro ?_ ?_)))))
  rotate_left 1
  ·have t0:=hS
   first
    | (refine ah rfl ?_;simp only [Act.put,List.setIfInBounds_toArray,List.set_cons_zero,List.set_cons_succ];exact hK.out)
    | (refine ag rfl ?_;go_simp;exact hK.out)
  ·rfl
 refine bC.two rfl rfl rfl rfl (fun wS hS R hR=>?_)
 have HP:=Lib.hid (hS.box #[.int .u64 r0,.int .u64 r1,.int .u64 r2,.int .u64 r3,.int .u64 r4,.int .u64 s0,.int .u64 s1,.int .u64 s2,.int .u64 s3,.int .u64 s4,.int .u64 0,.int .u64 0,.int .u64 0,.int .u64 0,.int .u64 0,.string ⟨#[]⟩] 327)
 go_simp
 refine hR.out _ _ rfl (fun wx=>True) (fun wx=>Sp w0 F0 wx (aV wS.heap.size r0 r1 r2 r3 r4 s0 s1 s2 s3 s4 0 0 0 0 0 []::L)) HP.out (fun _ _=>trivial)  ?_
 clear hR
 repeat
  refine Exists.intro _ (And.intro rfl (Or.inl (Exists.intro ?_ (And.intro (fun wS hS K hK=>?_) (And.intro ?_ ?_)))))
  rotate_left 1
  ·have t0:=hS
   first
    | (refine ah rfl ?_;simp only [Act.put,List.setIfInBounds_toArray,List.set_cons_zero,List.set_cons_succ];exact hK.out)
    | (refine ag rfl ?_;go_simp;exact hK.out)
  ·rfl
 intro wE hE
 have aX:=Lib.hid hE
 clear hE
 go_wp2
 go_ret2
 exact ⟨_,r0,r1,r2,r3,r4,s0,s1,s2,s3,s4,W9.out,HPS.out,rfl,aX.out⟩
end
end
section
open Go.RowKit
section
variable {w0 w:World} {F0:List Nat} {L:List aT} {v:Value}
theorem lY (r a:List Nat) (s:Bs):Limbs (yN r a s):=eY (lK _ _ _) 2
theorem wF (r:List Nat):∀ (n:Nat) (a:List Nat) (s:Bs),Limbs a→Limbs (ji r n a s).1
 | 0,_,_,h=>h
 | n+1,a,s,h=>by
  unfold ji
  split
  ·exact wF r n _ _ (lY _ _ _)
  ·exact h
theorem yP (r:List Nat):∀ (n:Nat) (a:List Nat) (s:Bs),s.length / 16≤n→(ji r n a s).2.length<16
 | 0,_,s,h=>by
  show s.length<16
  omega
 | n+1,a,s,h=>by
  unfold ji
  split
  ·exact yP r n _ _ (by rw [List.length_drop];omega)
  ·show s.length<16
   omega
theorem Sp.Tf {p r0 r1 r2 r3 r4 s0 s1 s2 s3 s4 a0 a1 a2 a3 a4:Nat} {rest:Bs} (S:Sp w0 F0 w (aV p r0 r1 r2 r3 r4 s0 s1 s2 s3 s4 a0 a1 a2 a3 a4 rest::L)) (z0 z1 z2 z3 z4:Nat) :
  Sp w0 F0 (((((w.setCell ⟨p,10,none⟩ (.int .u64 z0)).setCell ⟨p,11,none⟩ (.int .u64 z1)).setCell ⟨p,12,none⟩ (.int .u64 z2)).setCell ⟨p,13,none⟩ (.int .u64 z3)).setCell ⟨p,14,none⟩ (.int .u64 z4)) (aV p r0 r1 r2 r3 r4 s0 s1 s2 s3 s4 z0 z1 z2 z3 z4 rest::L):=by
 have h:=((((S.set (o:=10) (.int .u64 z0)).set (o:=11) (.int .u64 z1)).set (o:=12) (.int .u64 z2)).set (o:=13) (.int .u64 z3)).set (o:=14) (.int .u64 z4)
 simp only [List.setIfInBounds_toArray,List.set_cons_zero,List.set_cons_succ] at h
 exact h
theorem Sp.Gq {p r0 r1 r2 r3 r4 s0 s1 s2 s3 s4 a0 a1 a2 a3 a4:Nat} {rest:Bs} (S:Sp w0 F0 w (aV p r0 r1 r2 r3 r4 s0 s1 s2 s3 s4 a0 a1 a2 a3 a4 rest::L)) (t:Bs) :
  Sp w0 F0 (w.setCell ⟨p,15,none⟩ (.string ⟨t.toArray⟩)) (aV p r0 r1 r2 r3 r4 s0 s1 s2 s3 s4 a0 a1 a2 a3 a4 t::L):=by
 have h:=S.set (o:=15) (.string ⟨t.toArray⟩)
 simp only [List.setIfInBounds_toArray,List.set_cons_zero,List.set_cons_succ] at h
 exact h
theorem Yi (p r0 r1 r2 r3 r4 s0 s1 s2 s3 s4:Nat) (t:Bs) (hr:Limbs [r0,r1,r2,r3,r4]) (ht:t.length≤1000000) (S:Sp w0 F0 w (aV p r0 r1 r2 r3 r4 s0 s1 s2 s3 s4 0 0 0 0 0 []::L)) :
  Calls Tryz.prog 239 #[.pointer (some ⟨p,0,none⟩),.string ⟨t.toArray⟩] w fun e w2=>∃ z0 z1 z2 z3 z4,(ji [r0,r1,r2,r3,r4] (t.length / 16) gV t).1=[z0,z1,z2,z3,z4]∧e=.returned (.tuple #[]) ∧
   Sp w0 F0 w2 (aV p r0 r1 r2 r3 r4 s0 s1 s2 s3 s4 z0 z1 z2 z3 z4 (ji [r0,r1,r2,r3,r4] (t.length / 16) gV t).2::L):=by
 have HR:=Lib.hid hr
 have HT:=Lib.hid ht
 have c0:=S.cell
 have f0:=S.free
 have hadd:=dZ [] t (by simp [maxLen];omega)
 have bV:=Lib.hid (S.Gq t)
 clear S hr ht
 go_enter Tryz.func239,Tryz.ntmps239
 go_wp2_with fail
 generalize w.setCell ⟨p,15,none⟩ (.string ⟨t.toArray⟩)=w1 at *
 clear c0 f0 hadd
 go_loopg [] (t.length / 16) (fun gg wr=>∃ (x0 x1 x2 x3 x4:Nat) (u:Bs),u.length / 16=gg∧u.length≤1000000∧Limbs [x0,x1,x2,x3,x4]∧ji [r0,r1,r2,r3,r4] gg [x0,x1,x2,x3,x4] u=ji [r0,r1,r2,r3,r4] (t.length / 16) gV t∧Sp w0 F0 wr (aV p r0 r1 r2 r3 r4 s0 s1 s2 s3 s4 x0 x1 x2 x3 x4 u::L))
 case atStart=>exact ⟨0,0,0,0,0,t,rfl,HT.out,gu,rfl,bV.out⟩
 case round =>
  clear bV
  obtain ⟨x0,x1,x2,x3,x4,u,hn,hu,hx,he,S⟩:=hrel
  have HX:=Lib.hid hx
  have HE:=Lib.hid he
  have HN:=Lib.hid hn
  have HS:=Lib.hid S
  have c:=S.cell
  clear S hx he hn
  by_cases hl:16≤u.length
  ·have hl':(16:Int)≤u.length:=by omega
   have hc1:=iT u 16
   obtain ⟨z0,z1,z2,z3,z4,hz⟩:=uS (lY [r0,r1,r2,r3,r4] [x0,x1,x2,x3,x4] (u.take 16))
   have HST:=Lib.hid (fun (W:World) (S':Sp w0 F0 W (aV p r0 r1 r2 r3 r4 s0 s1 s2 s3 s4 x0 x1 x2 x3 x4 u::L))=>PE p r0 r1 r2 r3 r4 s0 s1 s2 s3 s4 x0 x1 x2 x3 x4 u [x0,x1,x2,x3,x4] (u.take 16) HX.out HR.out (by simp;omega) S')
   rw [hz] at HST
   have HST:Hid (∀ (W:World) (S':Sp w0 F0 W (aV p r0 r1 r2 r3 r4 s0 s1 s2 s3 s4 x0 x1 x2 x3 x4 u::L)),Calls Tryz.prog 258 #[.pointer (some ⟨p,0,none⟩),.agg #[.int .u64 x0,.int .u64 x1,.int .u64 x2,.int .u64 x3,.int .u64 x4],.string ⟨(u.take 16).toArray⟩] W fun e w2=>e=.returned (.agg #[.int .u64 z0,.int .u64 z1,.int .u64 z2,.int .u64 z3,.int .u64 z4])∧Sp w0 F0 w2 (aV p r0 r1 r2 r3 r4 s0 s1 s2 s3 s4 x0 x1 x2 x3 x4 u::L)):=HST
   obtain ⟨gm,hgm⟩:∃ m,gk=m+1:=⟨gk - 1,by have:=HN.out;omega⟩
   have HG:=Lib.hid hgm
   have HE2:Hid (ji [r0,r1,r2,r3,r4] gm [z0,z1,z2,z3,z4] (u.drop 16)=ji [r0,r1,r2,r3,r4] (t.length / 16) gV t):=by
    have:=HE.out
    rw [hgm,ji,if_pos hl,hz] at this
    exact this
   have HZ:Hid (Limbs [z0,z1,z2,z3,z4]):=by
    have:=lY [r0,r1,r2,r3,r4] [x0,x1,x2,x3,x4] (u.take 16)
    rw [hz] at this
    exact this
   have nQ:=Lib.hid (nC u 16)
   clear hz hgm HE
   go_upto_region 2 with (fail)
   clear c
   generalize hkt:u.take 16=kt at *
   clear hkt
   refine aM [0,1,2,3,4,5,6,7,8,9,10,11,12,13,14] (fun c=>c == 11 || c == 14) (fun c=>c == 14) (T:=fun wx=>(∀ o,wx.cell? ⟨p,o,none⟩=(#[.int .u64 r0,.int .u64 r1,.int .u64 r2,.int .u64 r3,.int .u64 r4,.int .u64 s0,.int .u64 s1,.int .u64 s2,.int .u64 s3,.int .u64 s4,.int .u64 x0,.int .u64 x1,.int .u64 x2,.int .u64 x3,.int .u64 x4,.string ⟨u.toArray⟩])[o]?)) (S:=fun wx=>Sp w0 F0 wx (aV p r0 r1 r2 r3 r4 s0 s1 s2 s3 s4 x0 x1 x2 x3 x4 u::L)) (by kernel_rfl) (by kernel_rfl) (by kernel_rfl) HS.out.drew (fun x h=>h.cell) ?_
   repeat
    refine Exists.intro _ (And.intro rfl (Or.inl (Exists.intro ?_ (And.intro (fun wS hS K hK=>?_) (And.intro ?_ ?_)))))
    rotate_left 1
    ·have t0:=hS
     first
      | (refine ah rfl ?_;simp only [Act.put,List.setIfInBounds_toArray,List.set_cons_zero,List.set_cons_succ];exact hK.out)
      | (refine ag rfl ?_;go_simp;exact hK.out)
    ·rfl
   refine bC.one rfl rfl rfl (fun wS hS R hR=>?_)
   go_simp
   go_at_call 258
   refine (HST.out wS hS).mono ?_
   rintro e w7 ⟨rfl,S7⟩
   refine hR.out _ _ rfl (fun wx=>(∀ o,wx.cell? ⟨p,o,none⟩=(#[.int .u64 r0,.int .u64 r1,.int .u64 r2,.int .u64 r3,.int .u64 r4,.int .u64 s0,.int .u64 s1,.int .u64 s2,.int .u64 s3,.int .u64 s4,.int .u64 x0,.int .u64 x1,.int .u64 x2,.int .u64 x3,.int .u64 x4,.string ⟨u.toArray⟩])[o]?)) (fun wx=>Sp w0 F0 wx (aV p r0 r1 r2 r3 r4 s0 s1 s2 s3 s4 x0 x1 x2 x3 x4 u::L)) S7 (fun x h=>h.cell) (fun _ h=>h) ?_
   clear hR hS S7
   repeat
    refine Exists.intro _ (And.intro rfl (Or.inl (Exists.intro ?_ (And.intro (fun wS hS K hK=>?_) (And.intro ?_ ?_)))))
    rotate_left 1
    ·have t0:=hS
     first
      | (refine ah rfl ?_;simp only [Act.put,List.setIfInBounds_toArray,List.set_cons_zero,List.set_cons_succ];exact hK.out)
      | (refine ag rfl ?_;go_simp;exact hK.out)
    ·rfl
   refine bC.two rfl rfl rfl rfl (fun wS hS R hR=>?_)
   have c1:=hS.cell
   have f1:=hS.free
   have HP:=Lib.hid (hS.Tf z0 z1 z2 z3 z4)
   go_simp
   refine hR.out _ _ rfl (fun wx=>True) (fun wx=>Sp w0 F0 wx (aV p r0 r1 r2 r3 r4 s0 s1 s2 s3 s4 z0 z1 z2 z3 z4 u::L)) HP.out (fun _ _=>trivial)  ?_
   clear hR
   repeat
    refine Exists.intro _ (And.intro rfl (Or.inl (Exists.intro ?_ (And.intro (fun wS hS K hK=>?_) (And.intro ?_ ?_)))))
    rotate_left 1
    ·have t0:=hS
     first
      | (refine ah rfl ?_;simp only [Act.put,List.setIfInBounds_toArray,List.set_cons_zero,List.set_cons_succ];exact hK.out)
      | (refine ag rfl ?_;go_simp;exact hK.out)
    ·rfl
   intro wE hE
   have aX:=Lib.hid hE
   clear hE
   have c2:=aX.out.cell
   have f2:=aX.out.free
   have hc2:=nQ.out u.length rfl
   have HP:=Lib.hid (aX.out.Gq (u.drop 16))
   generalize hud:u.drop 16=ud at *
   have HUD:=Lib.hid hud
   clear hud aX
   go_wp2_with fail
   go_roundg gm
   case measure=>have:=HG.out;omega
   case rel=>exact ⟨z0,z1,z2,z3,z4,ud,by rw [← HUD.out,List.length_drop];have:=HG.out;have:=HN.out;omega,by rw [← HUD.out,List.length_drop];omega,HZ.out,HE2.out,HP.out⟩
  ·have hl':¬ (16:Int)≤u.length:=by omega
   obtain rfl:gk=0:=by have:=HN.out;omega
   go_wp2_with fail
   go_end0
   have h:(([x0,x1,x2,x3,x4],u):List Nat×Bs)=ji [r0,r1,r2,r3,r4] (t.length / 16) gV t:=HE.out
   rw [← h]
   exact ⟨x0,x1,x2,x3,x4,rfl,rfl,HS.out⟩
theorem VI (p r0 r1 r2 r3 r4 s0 s1 s2 s3 s4 x0 x1 x2 x3 x4:Nat) (rest:Bs) (hr:Limbs [r0,r1,r2,r3,r4]) (hs:Limbs [s0,s1,s2,s3,s4]) (hx:Limbs [x0,x1,x2,x3,x4]) (hl:rest.length<16) (S:Sp w0 F0 w (aV p r0 r1 r2 r3 r4 s0 s1 s2 s3 s4 x0 x1 x2 x3 x4 rest::L)) :
  Calls Tryz.prog 240 #[.pointer (some ⟨p,0,none⟩)] w fun e w2=>e=.returned (.string ⟨(SL [r0,r1,r2,r3,r4] [s0,s1,s2,s3,s4] [x0,x1,x2,x3,x4] rest).toArray⟩)∧Sp w0 F0 w2 L:=by
 have HR:=Lib.hid hr
 have NV:=Lib.hid hs
 have HL:=Lib.hid hl
 have c0:=S.cell
 have QY:Hid (SL [r0,r1,r2,r3,r4] [s0,s1,s2,s3,s4] [x0,x1,x2,x3,x4] rest=r9 (bD (yL (oN (if rest=[] then [x0,x1,x2,x3,x4] else yN [r0,r1,r2,r3,r4] [x0,x1,x2,x3,x4] rest)) [s0,s1,s2,s3,s4]) 4)):=rfl
 have HX:=Lib.hid hx
 have bX:Hid (Sp w0 F0 (w.alloc (.cells #[.int .u64 x0,.int .u64 x1,.int .u64 x2,.int .u64 x3,.int .u64 x4] 324)) _):=Lib.hid (S.box #[.int .u64 x0,.int .u64 x1,.int .u64 x2,.int .u64 x3,.int .u64 x4] 324)
 clear S hr hs hl hx
 go_enter Tryz.func240,Tryz.ntmps240
 go_upto_region 2 with (fail)
 generalize (w.alloc (.cells #[.int .u64 x0,.int .u64 x1,.int .u64 x2,.int .u64 x3,.int .u64 x4] 324))=w1 at *
 generalize w.heap.size=g0 at *
 clear c0
 have c1:=((Sp.pick [_,_] [1] (by decide) (bX.out))).cell
 go_upto_if 13 with (fail)
 clear c1
 go_cut [] (fun wx=>∃ y0 y1 y2 y3 y4:Nat,(if rest=[] then [x0,x1,x2,x3,x4] else yN [r0,r1,r2,r3,r4] [x0,x1,x2,x3,x4] rest)=[y0,y1,y2,y3,y4]∧Limbs [y0,y1,y2,y3,y4]∧Sp w0 F0 wx (ae g0 #[.int .u64 y0,.int .u64 y1,.int .u64 y2,.int .u64 y3,.int .u64 y4] 324::aV p r0 r1 r2 r3 r4 s0 s1 s2 s3 s4 x0 x1 x2 x3 x4 rest::L))
 case first =>
  by_cases hre:rest=[]
  ·subst hre
   go_wp2_with fail
   go_meet
   exact ⟨x0,x1,x2,x3,x4,by simp,HX.out,bX.out⟩
  ·have hne:(!rest.isEmpty)=true:=by cases rest with | nil=>exact absurd rfl hre | cons a b=>rfl
   rw [hne]
   obtain ⟨z0,z1,z2,z3,z4,hz⟩:=uS (lY [r0,r1,r2,r3,r4] [x0,x1,x2,x3,x4] rest)
   have HZ:Hid (Limbs [z0,z1,z2,z3,z4]):=by
    have:=lY [r0,r1,r2,r3,r4] [x0,x1,x2,x3,x4] rest
    rw [hz] at this
    exact this
   have HST:=Lib.hid (fun (W:World) (S':Sp w0 F0 W (aV p r0 r1 r2 r3 r4 s0 s1 s2 s3 s4 x0 x1 x2 x3 x4 rest::ae g0 #[.int .u64 x0,.int .u64 x1,.int .u64 x2,.int .u64 x3,.int .u64 x4] 324::L))=>PE p r0 r1 r2 r3 r4 s0 s1 s2 s3 s4 x0 x1 x2 x3 x4 rest [x0,x1,x2,x3,x4] rest HX.out HR.out (by have:=HL.out;omega) S')
   rw [hz] at HST
   have HST:Hid (∀ (W:World) (S':Sp w0 F0 W (aV p r0 r1 r2 r3 r4 s0 s1 s2 s3 s4 x0 x1 x2 x3 x4 rest::ae g0 #[.int .u64 x0,.int .u64 x1,.int .u64 x2,.int .u64 x3,.int .u64 x4] 324::L)),Calls Tryz.prog 258 #[.pointer (some ⟨p,0,none⟩),.agg #[.int .u64 x0,.int .u64 x1,.int .u64 x2,.int .u64 x3,.int .u64 x4],.string ⟨rest.toArray⟩] W fun e w2=>e=.returned (.agg #[.int .u64 z0,.int .u64 z1,.int .u64 z2,.int .u64 z3,.int .u64 z4])∧Sp w0 F0 w2 (aV p r0 r1 r2 r3 r4 s0 s1 s2 s3 s4 x0 x1 x2 x3 x4 rest::ae g0 #[.int .u64 x0,.int .u64 x1,.int .u64 x2,.int .u64 x3,.int .u64 x4] 324::L)):=HST
   have VJ:Hid ((if rest=[] then [x0,x1,x2,x3,x4] else yN [r0,r1,r2,r3,r4] [x0,x1,x2,x3,x4] rest)=[z0,z1,z2,z3,z4]):=by
    unfold Hid
    rw [if_neg hre,hz]
   clear hz hre
   go_upto_region 3 with (fail)
   refine aM [0,1,2,3,4,5,6,7] (fun c=>c == 6 || c == 7) (fun c=>c == 7) (T:=fun wx=>(∀ o,wx.cell? ⟨g0,o,none⟩=(#[.int .u64 x0,.int .u64 x1,.int .u64 x2,.int .u64 x3,.int .u64 x4])[o]?)∧(∀ o,wx.cell? ⟨p,o,none⟩=(#[.int .u64 r0,.int .u64 r1,.int .u64 r2,.int .u64 r3,.int .u64 r4,.int .u64 s0,.int .u64 s1,.int .u64 s2,.int .u64 s3,.int .u64 s4,.int .u64 x0,.int .u64 x1,.int .u64 x2,.int .u64 x3,.int .u64 x4,.string ⟨rest.toArray⟩])[o]?)) (S:=fun wx=>Sp w0 F0 wx (aV p r0 r1 r2 r3 r4 s0 s1 s2 s3 s4 x0 x1 x2 x3 x4 rest::ae g0 #[.int .u64 x0,.int .u64 x1,.int .u64 x2,.int .u64 x3,.int .u64 x4] 324::L)) (by kernel_rfl) (by kernel_rfl) (by kernel_rfl) bX.out.ak.drew (fun x h=>⟨((Sp.pick [_,_] [1] (by decide) (h))).cell,h.cell⟩) ?_
   repeat
    refine Exists.intro _ (And.intro rfl (Or.inl (Exists.intro ?_ (And.intro (fun wS hS K hK=>?_) (And.intro ?_ ?_)))))
    rotate_left 1
    ·obtain ⟨t0,t1⟩:=hS
     first
      | (refine ah rfl ?_;simp only [Act.put,List.setIfInBounds_toArray,List.set_cons_zero,List.set_cons_succ];exact hK.out)
      | (refine ag rfl ?_;go_simp;exact hK.out)
    ·rfl
   refine bC.one rfl rfl rfl (fun wS hS R hR=>?_)
   go_simp
   go_at_call 258
   refine (HST.out wS hS).mono ?_
   rintro e w7 ⟨rfl,S7⟩
   refine hR.out _ _ rfl (fun wx=>(∀ o,wx.cell? ⟨g0,o,none⟩=(#[.int .u64 x0,.int .u64 x1,.int .u64 x2,.int .u64 x3,.int .u64 x4])[o]?)∧(∀ o,wx.cell? ⟨p,o,none⟩=(#[.int .u64 r0,.int .u64 r1,.int .u64 r2,.int .u64 r3,.int .u64 r4,.int .u64 s0,.int .u64 s1,.int .u64 s2,.int .u64 s3,.int .u64 s4,.int .u64 x0,.int .u64 x1,.int .u64 x2,.int .u64 x3,.int .u64 x4,.string ⟨rest.toArray⟩])[o]?)) (fun wx=>Sp w0 F0 wx (aV p r0 r1 r2 r3 r4 s0 s1 s2 s3 s4 x0 x1 x2 x3 x4 rest::ae g0 #[.int .u64 x0,.int .u64 x1,.int .u64 x2,.int .u64 x3,.int .u64 x4] 324::L)) S7 (fun x h=>⟨((Sp.pick [_,_] [1] (by decide) (h))).cell,h.cell⟩) (fun _ h=>h) ?_
   clear hR hS S7
   repeat
    refine Exists.intro _ (And.intro rfl (Or.inl (Exists.intro ?_ (And.intro (fun wS hS K hK=>?_) (And.intro ?_ ?_)))))
    rotate_left 1
    ·obtain ⟨t0,t1⟩:=hS
     first
      | (refine ah rfl ?_;simp only [Act.put,List.setIfInBounds_toArray,List.set_cons_zero,List.set_cons_succ];exact hK.out)
      | (refine ag rfl ?_;go_simp;exact hK.out)
    ·rfl
   refine bC.two rfl rfl rfl rfl (fun wS hS R hR=>?_)
   have c1:=hS.ak.cell
   have f1:=hS.ak.free
   have HP:=Lib.hid (hS.ak.VH (.int .u64 z0) (.int .u64 z1) (.int .u64 z2) (.int .u64 z3) (.int .u64 z4))
   go_simp
   refine hR.out _ _ rfl (fun wx=>True) (fun wx=>Sp w0 F0 wx (ae g0 #[.int .u64 z0,.int .u64 z1,.int .u64 z2,.int .u64 z3,.int .u64 z4] 324::aV p r0 r1 r2 r3 r4 s0 s1 s2 s3 s4 x0 x1 x2 x3 x4 rest::L)) HP.out (fun _ _=>trivial)  ?_
   clear hR
   repeat
    refine Exists.intro _ (And.intro rfl (Or.inl (Exists.intro ?_ (And.intro (fun wS hS K hK=>?_) (And.intro ?_ ?_)))))
    rotate_left 1
    ·have t0:=hS
     first
      | (refine ah rfl ?_;simp only [Act.put,List.setIfInBounds_toArray,List.set_cons_zero,List.set_cons_succ];exact hK.out)
      | (refine ag rfl ?_;go_simp;exact hK.out)
    ·rfl
   intro wE hE
   have aX:=Lib.hid hE
   clear hE
   go_wp2_with fail
   go_meet
   exact ⟨z0,z1,z2,z3,z4,VJ.out,HZ.out,aX.out⟩
 case rest =>
  clear bX
  obtain ⟨y0,y1,y2,y3,y4,hif,hy,S⟩:=hcut
  rw [hif] at QY
  have HY:=Lib.hid hy
  have bX:=Lib.hid S
  clear S hif hy HX
  have Im:=Lib.hid (Eg HY.out)
  obtain ⟨z0,z1,z2,z3,z4,hz⟩:=uS (kF Im.out [s0,s1,s2,s3,s4] 5)
  have HZ:Hid (Limbs [z0,z1,z2,z3,z4]):=by
   have:=kF Im.out [s0,s1,s2,s3,s4] 5
   rw [hz] at this
   exact this
  have xq:=Lib.hid (fun (W:World) (S':Sp w0 F0 W (ae g0 #[.int .u64 y0,.int .u64 y1,.int .u64 y2,.int .u64 y3,.int .u64 y4] 324::aV p r0 r1 r2 r3 r4 s0 s1 s2 s3 s4 x0 x1 x2 x3 x4 rest::L))=>SV [y0,y1,y2,y3,y4] HY.out S')
  have xq:Hid (∀ (W:World) (S':Sp w0 F0 W (ae g0 #[.int .u64 y0,.int .u64 y1,.int .u64 y2,.int .u64 y3,.int .u64 y4] 324::aV p r0 r1 r2 r3 r4 s0 s1 s2 s3 s4 x0 x1 x2 x3 x4 rest::L)),Calls Tryz.prog 259 #[.agg #[.int .u64 y0,.int .u64 y1,.int .u64 y2,.int .u64 y3,.int .u64 y4]] W fun e w2=>e=.returned (.agg (aH (oN [y0,y1,y2,y3,y4])))∧Sp w0 F0 w2 (ae g0 #[.int .u64 y0,.int .u64 y1,.int .u64 y2,.int .u64 y3,.int .u64 y4] 324::aV p r0 r1 r2 r3 r4 s0 s1 s2 s3 s4 x0 x1 x2 x3 x4 rest::L)):=xq
  have nQ:=Lib.hid (fun (W:World) (S':Sp w0 F0 W (ae g0 #[.int .u64 y0,.int .u64 y1,.int .u64 y2,.int .u64 y3,.int .u64 y4] 324::aV p r0 r1 r2 r3 r4 s0 s1 s2 s3 s4 x0 x1 x2 x3 x4 rest::L))=>Pz (oN [y0,y1,y2,y3,y4]) [s0,s1,s2,s3,s4] Im.out NV.out S')
  unfold yL at nQ QY
  rw [hz] at nQ QY
  have nQ:Hid (∀ (W:World) (S':Sp w0 F0 W (ae g0 #[.int .u64 y0,.int .u64 y1,.int .u64 y2,.int .u64 y3,.int .u64 y4] 324::aV p r0 r1 r2 r3 r4 s0 s1 s2 s3 s4 x0 x1 x2 x3 x4 rest::L)),Calls Tryz.prog 260 #[.agg (aH (oN [y0,y1,y2,y3,y4])),.agg #[.int .u64 s0,.int .u64 s1,.int .u64 s2,.int .u64 s3,.int .u64 s4]] W fun e w2=>e=.returned (.agg #[.int .u64 z0,.int .u64 z1,.int .u64 z2,.int .u64 z3,.int .u64 z4])∧Sp w0 F0 w2 (ae g0 #[.int .u64 y0,.int .u64 y1,.int .u64 y2,.int .u64 y3,.int .u64 y4] 324::aV p r0 r1 r2 r3 r4 s0 s1 s2 s3 s4 x0 x1 x2 x3 x4 rest::L)):=nQ
  clear hz Im NV HR HL
  generalize oN [y0,y1,y2,y3,y4]=wh at *
  go_upto_region 4 with (fail)
  refine aM [0,2,3,4,5,1,6,7] (fun c=>c == 1 || c == 6 || c == 7) (fun c=>c == 7) (T:=fun wx=>(∀ o,wx.cell? ⟨g0,o,none⟩=(#[.int .u64 y0,.int .u64 y1,.int .u64 y2,.int .u64 y3,.int .u64 y4])[o]?)∧(∀ o,wx.cell? ⟨p,o,none⟩=(#[.int .u64 r0,.int .u64 r1,.int .u64 r2,.int .u64 r3,.int .u64 r4,.int .u64 s0,.int .u64 s1,.int .u64 s2,.int .u64 s3,.int .u64 s4,.int .u64 x0,.int .u64 x1,.int .u64 x2,.int .u64 x3,.int .u64 x4,.string ⟨rest.toArray⟩])[o]?)) (S:=fun wx=>Sp w0 F0 wx (ae g0 #[.int .u64 y0,.int .u64 y1,.int .u64 y2,.int .u64 y3,.int .u64 y4] 324::aV p r0 r1 r2 r3 r4 s0 s1 s2 s3 s4 x0 x1 x2 x3 x4 rest::L)) (by kernel_rfl) (by kernel_rfl) (by kernel_rfl) bX.out.drew (fun x h=>⟨h.cell,((Sp.pick [_,_] [1] (by decide) (h))).cell⟩) ?_
  repeat
   refine Exists.intro _ (And.intro rfl (Or.inl (Exists.intro ?_ (And.intro (fun wS hS K hK=>?_) (And.intro ?_ ?_)))))
   rotate_left 1
   ·obtain ⟨t0,t1⟩:=hS
    first
     | (refine ah rfl ?_;simp only [Act.put,List.setIfInBounds_toArray,List.set_cons_zero,List.set_cons_succ];exact hK.out)
     | (refine ag rfl ?_;go_simp;exact hK.out)
   ·rfl
  refine bC.one rfl rfl rfl (fun wS hS R hR=>?_)
  go_simp
  go_at_call 259
  refine (xq.out wS hS).mono ?_
  rintro e w7 ⟨rfl,S7⟩
  refine hR.out _ _ rfl (fun wx=>(∀ o,wx.cell? ⟨g0,o,none⟩=(#[.int .u64 y0,.int .u64 y1,.int .u64 y2,.int .u64 y3,.int .u64 y4])[o]?)∧(∀ o,wx.cell? ⟨p,o,none⟩=(#[.int .u64 r0,.int .u64 r1,.int .u64 r2,.int .u64 r3,.int .u64 r4,.int .u64 s0,.int .u64 s1,.int .u64 s2,.int .u64 s3,.int .u64 s4,.int .u64 x0,.int .u64 x1,.int .u64 x2,.int .u64 x3,.int .u64 x4,.string ⟨rest.toArray⟩])[o]?)) (fun wx=>Sp w0 F0 wx (ae g0 #[.int .u64 y0,.int .u64 y1,.int .u64 y2,.int .u64 y3,.int .u64 y4] 324::aV p r0 r1 r2 r3 r4 s0 s1 s2 s3 s4 x0 x1 x2 x3 x4 rest::L)) S7 (fun x h=>⟨h.cell,((Sp.pick [_,_] [1] (by decide) (h))).cell⟩) (fun _ h=>h) ?_
  clear hR hS S7
  repeat
   refine Exists.intro _ (And.intro rfl (Or.inl (Exists.intro ?_ (And.intro (fun wS hS K hK=>?_) (And.intro ?_ ?_)))))
   rotate_left 1
   ·obtain ⟨t0,t1⟩:=hS
    first
     | (refine ah rfl ?_;simp only [Act.put,List.setIfInBounds_toArray,List.set_cons_zero,List.set_cons_succ];exact hK.out)
     | (refine ag rfl ?_;go_simp;exact hK.out)
   ·rfl
  refine bC.one rfl rfl rfl (fun wS hS R hR=>?_)
  go_simp
  go_at_call 260
  refine (nQ.out wS hS).mono ?_
  rintro e w7 ⟨rfl,S7⟩
  refine hR.out _ _ rfl (fun wx=>(∀ o,wx.cell? ⟨g0,o,none⟩=(#[.int .u64 y0,.int .u64 y1,.int .u64 y2,.int .u64 y3,.int .u64 y4])[o]?)∧(∀ o,wx.cell? ⟨p,o,none⟩=(#[.int .u64 r0,.int .u64 r1,.int .u64 r2,.int .u64 r3,.int .u64 r4,.int .u64 s0,.int .u64 s1,.int .u64 s2,.int .u64 s3,.int .u64 s4,.int .u64 x0,.int .u64 x1,.int .u64 x2,.int .u64 x3,.int .u64 x4,.string ⟨rest.toArray⟩])[o]?)) (fun wx=>Sp w0 F0 wx (ae g0 #[.int .u64 y0,.int .u64 y1,.int .u64 y2,.int .u64 y3,.int .u64 y4] 324::aV p r0 r1 r2 r3 r4 s0 s1 s2 s3 s4 x0 x1 x2 x3 x4 rest::L)) S7 (fun x h=>⟨h.cell,((Sp.pick [_,_] [1] (by decide) (h))).cell⟩) (fun _ h=>h) ?_
  clear hR hS S7
  repeat
   refine Exists.intro _ (And.intro rfl (Or.inl (Exists.intro ?_ (And.intro (fun wS hS K hK=>?_) (And.intro ?_ ?_)))))
   rotate_left 1
   ·obtain ⟨t0,t1⟩:=hS
    first
     | (refine ah rfl ?_;simp only [Act.put,List.setIfInBounds_toArray,List.set_cons_zero,List.set_cons_succ];exact hK.out)
     | (refine ag rfl ?_;go_simp;exact hK.out)
   ·rfl
  refine bC.two rfl rfl rfl rfl (fun wS hS R hR=>?_)
  have c1:=hS.cell
  have f1:=hS.free
  have HP:=Lib.hid (hS.VH (.int .u64 z0) (.int .u64 z1) (.int .u64 z2) (.int .u64 z3) (.int .u64 z4))
  go_simp
  refine hR.out _ _ rfl (fun wx=>True) (fun wx=>Sp w0 F0 wx (ae g0 #[.int .u64 z0,.int .u64 z1,.int .u64 z2,.int .u64 z3,.int .u64 z4] 324::aV p r0 r1 r2 r3 r4 s0 s1 s2 s3 s4 x0 x1 x2 x3 x4 rest::L)) HP.out (fun _ _=>trivial)  ?_
  clear hR
  repeat
   refine Exists.intro _ (And.intro rfl (Or.inl (Exists.intro ?_ (And.intro (fun wS hS K hK=>?_) (And.intro ?_ ?_)))))
   rotate_left 1
   ·have t0:=hS
    first
     | (refine ah rfl ?_;simp only [Act.put,List.setIfInBounds_toArray,List.set_cons_zero,List.set_cons_succ];exact hK.out)
     | (refine ag rfl ?_;go_simp;exact hK.out)
   ·rfl
  intro wE hE
  have aX:=Lib.hid hE
  clear hE
  have HS2:Hid (Sp w0 F0 wE (ae g0 (aH [z0,z1,z2,z3,z4]) 324::L)):=Lib.hid ((Sp.pick [_,_] [0] (by decide) (aX.out)))
  clear aX xq nQ bX
  generalize [z0,z1,z2,z3,z4]=m at *
  go_wp2_with fail
  go_loopw [28] (fun i wr=>∃ k:Nat,i=.int .i64 k∧k≤4∧Sp w0 F0 wr (ae g0 (aH (bD m k)) 324::L)) (fun i _=>4 - (intOf i).toNat)
  case atStart=>exact ⟨0,rfl,by decide,HS2.out⟩
  case round =>
   clear HS2
   obtain ⟨k,rfl,hk,S⟩:=hrel
   have HS:=Lib.hid S
   have HL:=Lib.hid (mU HZ.out k)
   clear S
   by_cases hlt:k<4
   ·have hlt':(k:Int)<4:=by omega
    have HU:Hid (bD m (k+1)=(eu (bD m k) (k+1) ((bD m k).getD k 0 / 67108864)).set k ((eu (bD m k) (k+1) ((bD m k).getD k 0 / 67108864)).getD k 0 % 67108864)):=rfl
    have HG:Hid ((eu (bD m k) (k+1) ((bD m k).getD k 0 / 67108864)).getD k 0=(bD m k).getD k 0):=by
     unfold eu Hid
     simp [List.getD_eq_getElem?_getD,List.getElem?_set]
    rw [HG.out] at HU
    have xB:=Lib.hid (HL.out.getD k)
    have ck:=HS.out.si (i:=k) (by rw [HL.out.1];omega)
    have ck1:=HS.out.si (i:=k+1) (by rw [HL.out.1];omega)
    have fk:=HS.out.free k
    have fk1:=HS.out.free (k+1)
    have HP:=HS.out.o5 (k+1) (((bD m k).getD (k+1) 0+(bD m k).getD k 0 / 67108864) % 18446744073709551616) (eu (bD m k) (k+1) ((bD m k).getD k 0 / 67108864)) rfl
    have xm:=Lib.hid (HP.o5 k ((bD m k).getD k 0 % 67108864) _ HU.out.symm).drew
    clear HP HU HG
    have HAD:=Lib.hid (qg ((bD m k).getD (k+1) 0) ((bD m k).getD k 0 / 67108864))
    generalize (bD m k).getD (k+1) 0=y at *
    generalize (bD m k).getD k 0=x at *
    have Ij:=Lib.hid (A8 x)
    have HA:=Lib.hid (A9 x xB.out)
    rw [← HAD.out,← Ij.out,← HA.out] at xm
    go_wp2_with fail
    go_region
    all_goals
     go_wp2_with fail
     go_roundw
     case rel=>exact ⟨k+1,by go_num,by omega,xm.out⟩
     case measure=>simp [intOf];omega
   ·obtain rfl:k=4:=by omega
    have bx:=HS.out.boxed
    go_wp2_with (first
     | refine wpList_load_row rfl 324 _ rfl g0 rfl 324 (aH (bD m 4)) (0,0) _ bx Tryz.underlying324 rfl (dN HL.out) ?_
     | fail)
    refine (Tc _ HL.out HS.out).mono ?_
    rintro e w2 ⟨rfl,S⟩
    have NU:=Lib.hid S
    clear S HS bx
    go_wp2_with fail
    go_ret
    exact ⟨by rw [QY.out];rfl,NU.out.drop⟩
theorem Yj (key t:Bs) (hk:key.length=32) (ht:t.length≤1000000) (S:Sp w0 F0 w L):Calls Tryz.prog 221 #[.string ⟨key.toArray⟩,.string ⟨t.toArray⟩] w fun e w2=>e=.returned (.tuple #[.string ⟨(wD key t).toArray⟩,.int .i64 0])∧Sp w0 F0 w2 L:=by
 have bV:=Lib.hid S
 have HT:=Lib.hid ht
 have HK:=Lib.hid hk
 have KS:Hid (wD key t=SL (yO key) (Gp key) (ji (yO key) (t.length / 16) gV t).1 (ji (yO key) (t.length / 16) gV t).2):=rfl
 have HLR:Hid (Limbs (yO key)):=il _ _
 have SY:Hid (Limbs (Gp key)):=il _ _
 clear S ht hk
 go_enter Tryz.func221,Tryz.ntmps221
 go_wp2_with fail
 refine (Yg key HK.out bV.out).mono ?_
 rintro e w2 ⟨p,r0,r1,r2,r3,r4,s0,s1,s2,s3,s4,hr,hs,rfl,S⟩
 rw [hr] at KS HLR
 rw [hs] at KS SY
 have bX:=Lib.hid S
 have VK:=Lib.hid (wF [r0,r1,r2,r3,r4] (t.length / 16) gV t gu)
 have HAR:=Lib.hid (yP [r0,r1,r2,r3,r4] (t.length / 16) gV t (Nat.le_refl _))
 clear S bV hr hs
 go_wp2_with fail
 refine (Yi p r0 r1 r2 r3 r4 s0 s1 s2 s3 s4 t HLR.out HT.out bX.out).mono ?_
 rintro e w3 ⟨z0,z1,z2,z3,z4,hz,rfl,S⟩
 have HS2:=Lib.hid S
 rw [hz] at VK KS
 generalize (ji [r0,r1,r2,r3,r4] (t.length / 16) gV t).2=rest at *
 clear S bX hz
 go_wp2_with fail
 refine (VI p r0 r1 r2 r3 r4 s0 s1 s2 s3 s4 z0 z1 z2 z3 z4 rest HLR.out SY.out VK.out HAR.out HS2.out).mono ?_
 rintro e w4 ⟨rfl,S⟩
 have bI:=Lib.hid S
 clear S HS2
 go_wp2_with fail
 go_ret2
 exact ⟨by rw [KS.out];rfl,bI.out⟩
end
end
end Go.Proofs.YtangbdahnmomlaaGreatDoor
