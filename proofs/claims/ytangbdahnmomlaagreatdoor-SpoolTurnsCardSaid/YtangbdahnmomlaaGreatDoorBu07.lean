/- octet and pack: a number's bytes, and the number of bytes. Conditions: numbers below 2^64, lengths fit. octet: High. Conditions: lengths fit. -/
import Derived.BigQuiet
import Derived.BigRegion
import Derived.Deep.OwnRows
import Derived.Deep.QuietTactic
import Derived.Deep.RegionWith
import Derived.Laws.BitsAllLaws
import Derived.Laws.BitsLemmas
import Derived.Laws.IdiomStrings
import Derived.Laws.NewBlocks
import Derived.Test.YtangbdahnmomlaaGreatDoorBu00
import Derived.Test.YtangbdahnmomlaaGreatDoorBu01
import Derived.Test.YtangbdahnmomlaaGreatDoorChecked
set_option linter.unnecessarySimpa false
set_option linter.unusedSimpArgs false
set_option linter.unusedVariables false
set_option maxHeartbeats 2000000
set_option maxRecDepth 100000
namespace Go.Proofs.YtangbdahnmomlaaGreatDoor
section
open Go.RowKit Go.Maps
theorem LV (k m:Nat) (h:m≠0):lN (k+1) m=lN k (m / 256)+1:=by rw [lN,if_neg h]
theorem IJ (k:Nat):lN k 0=0:=by cases k <;> simp [lN]
theorem vJ (n:Nat) (w:World) (hn:n<18446744073709551616) :
  Calls Tryz.prog 133 #[.int .u64 n] w fun e w2=>e=.returned (.int .i64 (need n))∧w=w2:=by
 have HN:=Lib.hid hn
 clear hn
 go_enter Tryz.func133,Tryz.ntmps133
 go_wp2
 go_loop [0,3] (fun x k=>∃ m j:Nat,x=.int .u64 m∧k=.int .i64 j∧j≤8∧m<256 ^ (8 - j)∧lN (8 - j) m+j=need n) (fun x _=>(intOf x).toNat)
 case atStart=>exact ⟨n,0,rfl,rfl,by omega,by simpa using HN.out,rfl⟩
 case round =>
  obtain ⟨m,j,rfl,rfl,hj,hm,he⟩:=hrel
  have HM:=Lib.hid hm
  have HE:=Lib.hid he
  clear hm he
  by_cases h0:m=0
  ·subst h0
   go_wp2
   go_ret
   exact ⟨Kg (by have:=HE.out;rw [IJ] at this;omega),rfl⟩
  ·have hp:(0:Int)<m:=by omega
   have hj8:j<8:=by
    rcases Nat.lt_or_ge j 8 with h | h
    ·exact h
    ·obtain rfl:j=8:=by omega
     have:=HM.out
     simp at this
     omega
   have HE2:Hid (lN (8 - (j+1)) (m / 256)+(j+1)=need n):=by
    have:=HE.out
    obtain ⟨i,hi⟩:∃ i,8 - j=i+1:=⟨7 - j,by omega⟩
    rw [hi,LV _ _ h0] at this
    unfold Hid
    rw [show 8 - (j+1)=i by omega]
    omega
   have WQ:Hid (m / 256<256 ^ (8 - (j+1))):=by
    have:=HM.out
    obtain ⟨i,hi⟩:∃ i,8 - j=i+1:=⟨7 - j,by omega⟩
    rw [hi,Nat.pow_succ] at this
    unfold Hid
    rw [show 8 - (j+1)=i by omega]
    omega
   go_wp2
   go_round
   case rel=>exact ⟨m / 256,j+1,by go_num,by go_num,by omega,WQ.out,HE2.out⟩
   case measure=>simp [intOf];omega
theorem U1 (x:Nat) (c:UInt8) (hx:x<72057594037927936):bits .or .u64 (IntKind.u64.wrap ((x:Int)*256)) (IntKind.u64.wrap (c.toNat:Int))=((x*256+c.toNat:Nat):Int):=by
 have hc:=c.toNat_lt
 have e1:IntKind.u64.wrap ((x:Int)*256)=((x*256:Nat):Int):=by rw [IntKind.wrap_u64];omega
 have e2:IntKind.u64.wrap (c.toNat:Int)=(c.toNat:Int):=by rw [IntKind.wrap_u64];omega
 rw [e1,e2,u64_or_nat _ _ (by omega) (by omega)]
 have:=Nat.shiftLeft_add_eq_or_of_lt (i:=8) (b:=c.toNat) (by omega) x
 rw [Nat.shiftLeft_eq] at this
 rw [← this]
theorem LW (s:Bs) (k:Nat) (h:k<s.length):s.take (k+1)=s.take k++[s[k]]:=List.take_succ_eq_append_getElem h
theorem Ru {a b:Int} {v:Value} (h:a=b):Ending.returned (.tuple #[.int .u64 a,v])=Ending.returned (.tuple #[.int .u64 b,v]):=by rw [h]
theorem Ad (ba:ByteArray) (s:Bs) (w:World) (hs:s.length≤8) (HT:Hid (ba.data.toList=s)) :
  Calls Tryz.prog 132 #[.string ba] w fun e w2=>e=.returned (.tuple #[.int .u64 (iK s),.int .i64 0])∧w=w2:=by
 have HS:=Lib.hid hs
 have HZ:Hid (ba.size=s.length):=by rw [← HT.out];simp [Hid]
 have hsz:(ba.size:Int)≤8:=by have:=HZ.out;omega
 have HG:Hid (∀ k (h:k<ba.size) (h2:k<s.length),ba[k]=s[k]):=fun k h h2=>by
  have h3:=HT.out
  subst h3
  rfl
 clear hs
 go_enter Tryz.func132,Tryz.ntmps132
 go_wp2
 go_loop [4,11] (fun x i=>∃ k:Nat,k≤ba.size∧i=.int .i64 k∧x=.int .u64 (iK (s.take k))) (fun _ i=>ba.size - (intOf i).toNat)
 case atStart=>exact ⟨0,Nat.zero_le _,rfl,rfl⟩
 case round =>
  obtain ⟨k,hk,rfl,rfl⟩:=hrel
  by_cases hlt:k<ba.size
  ·have hk2:k<s.length:=by have:=HZ.out;omega
   have hf:=vz _ (s.take k) rfl
   have HF:Hid (iK (s.take k)<72057594037927936):=by
    have h1:(s.take k).length≤7:=by rw [List.length_take];have:=HS.out;omega
    have h3:256 ^ (s.take k).length≤256 ^ 7:=Nat.pow_le_pow_right (by omega) h1
    unfold Hid
    omega
   clear hf
   go_wp2
   go_round
   case rel =>
    refine ⟨k+1,by omega,by go_num,?_⟩
    rw [U1 _ _ HF.out,LW s k hk2,pg,HG.out k hlt hk2]
   case measure=>simp [intOf];omega
  ·go_wp2
   go_ret2
   exact ⟨Ru (by rw [List.take_of_length_le (by have:=HZ.out;omega)]),rfl⟩
theorem pQ (s:Bs) (w:World) (hs:s.length≤8) :
  Calls Tryz.prog 132 #[.string ⟨s.toArray⟩] w fun e w2=>e=.returned (.tuple #[.int .u64 (iK s),.int .i64 0])∧w=w2:=Ad ⟨s.toArray⟩ s w hs rfl
def dF (x:Nat):Nat→Bs
 | 0=>[]
 | n+1=>UInt8.ofNat (x % 256)::dF (x / 256) n
theorem dS:∀ (n x:Nat),(dF x n).length=n
 | 0,_=>rfl
 | n+1,x=>by simp [dF,dS n]
theorem Fv:∀ (n x:Nat),(dx x n).reverse=dF x n
 | 0,_=>rfl
 | n+1,x=>by simp [dx,dF,Fv n]
theorem Cm:∀ (k x:Nat),dF x (k+1)=dF x k++[UInt8.ofNat (x / 256 ^ k % 256)]
 | 0,x=>by simp [dF]
 | k+1,x=>by
  rw [dF,Cm k,dF,List.cons_append,Nat.div_div_eq_div_mul,Nat.pow_succ,Nat.mul_comm 256]
def iA (l:Bs):Array Value:=(l.map bv).toArray
theorem tC (n:Nat):madeCells #[.int .u8 0] n=iA (List.replicate n 0):=by
 apply Array.ext
 ·simp [madeCells,iA]
 ·intro i h1 h2
  simp [madeCells,iA,Nat.mod_one]
theorem Fw (l:Bs) (z c:UInt8) (r:Bs):(iA (l++z::r)).setIfInBounds l.length (bv c)=iA (l++c::r):=by
 simp [iA]
theorem jH (l:Bs) (k:Nat):(iA l)[k]? = l[k]?.map bv:=by simp [iA]
theorem Km (m:Nat):(m:Int) % 256=((UInt8.ofNat (m % 256)).toNat:Int):=by simp
theorem Cn (x n:Nat) (w:World) (hn:n≤64) :
  Calls Tryz.prog 149 #[.int .u64 x,.int .i64 n] w fun e w2=>e=.returned (.slice (some ⟨w.heap.size,0,none⟩) n n)∧w.alloc (.cells (iA (dF x n)) 5)=w2:=by
 have hmk:=fun W=>run_make_row' (P:=Tryz.prog) 79 5 (.int .u8 0) 1 Tryz.underlying79 (by kernel_rfl) rfl .i64 .i64 n (by omega) (by omega) W
 rw [tC] at hmk
 have h0:(0:Int)≤n:=by omega
 have h64:(n:Int)≤64:=by omega
 obtain ⟨A0,QW⟩:∃ A0,iA (List.replicate n 0)=A0:=⟨_,rfl⟩
 rw [QW] at hmk
 have ZZ:=Lib.hid QW
 clear QW
 go_enter Tryz.func149,Tryz.ntmps149
 go_wp2
 go_loopw [0,13] (fun y i wr=>∃ k m:Nat,k≤n∧i=.int .i64 k∧y=.int .u64 m∧m=x / 256 ^ k∧w.alloc (.cells (iA (dF x k++List.replicate (n - k) 0)) 5)=wr) (fun _ i _=>n - (intOf i).toNat)
 case atStart=>exact ⟨0,x,Nat.zero_le _,rfl,rfl,by simp,by rw [← ZZ.out];rfl⟩
 case round =>
  obtain ⟨k,m,hk,rfl,rfl,hm,rfl⟩:=hrel
  have HM:=Lib.hid hm
  clear hm
  by_cases hlt:k<n
  ·have e1:List.replicate (n - k) (0:UInt8)=0::List.replicate (n - (k+1)) 0:=by
    rw [show n - k=(n - (k+1))+1 by omega,List.replicate_succ]
   have hget:(iA (dF x k++List.replicate (n - k) 0))[k]? = some (.int .u8 0):=by
    rw [jH,e1];simp [dS]
   have U2:Hid ((iA (dF x k++List.replicate (n - k) 0)).setIfInBounds k (.int .u8 ((m:Int) % 256))=iA (dF x (k+1)++List.replicate (n - (k+1)) 0)):=by
    have:=Fw (dF x k) 0 (UInt8.ofNat (m % 256)) (List.replicate (n - (k+1)) 0)
    rw [dS] at this
    unfold Hid
    rw [Km,e1,this,Cm,HM.out]
    simp
   clear e1
   generalize iA (dF x k++List.replicate (n - k) 0)=A at *
   go_wp2
   go_roundw
   case rel=>exact ⟨k+1,m / 256,by omega,by go_num,by go_num,by rw [HM.out,Nat.pow_succ,Nat.div_div_eq_div_mul],by rw [U2.out]⟩
   case measure=>simp [intOf];omega
  ·obtain rfl:k=n:=by omega
   go_wp2
   go_ret
   exact ⟨rfl,by simp⟩
end
section
open Go.RowKit Go.Maps
def swapped (l:Bs) (k:Nat):Bs:=(List.range l.length).map fun i=>if i<k∨l.length - k≤i then l.getD (l.length - 1 - i) 0 else l.getD i 0
theorem iE (l:Bs) (k:Nat):(swapped l k).length=l.length:=by simp [swapped]
theorem jX (l:Bs) (k i:Nat) (h:i<l.length):(swapped l k)[i]? = some (if i<k∨l.length - k≤i then l.getD (l.length - 1 - i) 0 else l.getD i 0):=by
 simp [swapped,h]
theorem DD (l:Bs):swapped l 0=l:=by
 apply List.ext_getElem?
 intro i
 by_cases h:i<l.length
 ·rw [jX _ _ _ h,if_neg (by omega)]
  simp [h]
 ·rw [List.getElem?_eq_none (by rw [iE];omega),List.getElem?_eq_none (by omega)]
theorem DF (l:Bs):swapped l (l.length / 2)=l.reverse:=by
 apply List.ext_getElem?
 intro i
 by_cases h:i<l.length
 ·rw [jX _ _ _ h,List.getElem?_reverse h]
  split
  ·simp only [List.getD_eq_getElem?_getD];rw [List.getElem?_eq_getElem (by omega)];simp
  ·have:l.length - 1 - i=i:=by omega
   rw [this]
   simp [h]
 ·rw [List.getElem?_eq_none (by rw [iE];omega),List.getElem?_eq_none (by simp;omega)]
theorem DI (l:Bs) (k:Nat) (h:k<l.length / 2) :
  ((iA (swapped l k)).setIfInBounds k (bv (l.getD (l.length - 1 - k) 0))).setIfInBounds (l.length - 1 - k) (bv (l.getD k 0))=iA (swapped l (k+1)):=by
 apply Array.ext_getElem?
 intro i
 rw [Array.getElem?_setIfInBounds,Array.getElem?_setIfInBounds,jH,jH]
 simp only [Array.size_setIfInBounds]
 have hsz:(iA (swapped l k)).size=l.length:=by simp [iA,iE]
 rw [hsz]
 by_cases hi:i<l.length
 ·rw [jX _ _ _ hi,jX _ _ _ hi]
  by_cases h1:l.length - 1 - k=i
  ·rw [if_pos h1,if_pos (by omega),if_pos (by omega),show l.length - 1 - i=k by omega]
   rfl
  ·rw [if_neg h1]
   by_cases h2:k=i
   ·subst h2
    rw [if_pos rfl,if_pos hi,if_pos (by omega)]
    rfl
   ·rw [if_neg h2]
    by_cases h3:i<k∨l.length - k≤i
    ·rw [if_pos h3,if_pos (by omega)]
    ·rw [if_neg h3,if_neg (by omega)]
 ·rw [if_neg (by omega),if_neg (by omega),List.getElem?_eq_none (by rw [iE];omega),List.getElem?_eq_none (by rw [iE];omega)]
theorem nA (x n:Nat) (w:World) (hn:n≤64) :
  Calls Tryz.prog 111 #[.int .u64 x,.int .i64 n] w fun e w2=>e=.returned (.string ⟨(dx x n).toArray⟩)∧Ext [] w w2:=by
 have HN:=Lib.hid hn
 have ads:(n:Int)≤64:=by omega
 clear hn
 go_enter Tryz.func111,Tryz.ntmps111
 go_wp2_with fail
 refine (Cn x n w HN.out).mono ?_
 rintro e w1 ⟨rfl,rfl⟩
 have HL:=Lib.hid (dS n x)
 have HR:Hid ((dF x n).reverse=dx x n):=by rw [← Fv];simp [Hid]
 have HB:Hid ((w.alloc (.cells (iA (dF x n)) 5)).heap[w.heap.size]? = some (.cells (iA (dF x n)) 5 (0,0))):=heap_alloc_new _ _
 have HX:Hid (Ext [] w (w.alloc (.cells (iA (dF x n)) 5))):=(Ext.refl [] w).alloc _
 generalize w.alloc (.cells (iA (dF x n)) 5)=w1 at *
 generalize dF x n=l at *
 go_wp2
 go_loopw [13] (fun i wr=>∃ k:Nat,k≤n / 2∧i=.int .i64 k∧wr.heap[w.heap.size]? = some (.cells (iA (swapped l k)) 5 (0,0))∧Ext [] w wr) (fun i _=>n - (intOf i).toNat)
 case atStart=>exact ⟨0,Nat.zero_le _,rfl,by rw [DD];exact HB.out,HX.out⟩
 case round =>
  obtain ⟨k,hk,rfl,hb,hx⟩:=hrel
  have HB2:=Lib.hid hb
  have yu:=Lib.hid hx
  clear hb hx HB HX
  by_cases hlt:k<n / 2
  ·obtain ⟨j,hj⟩:∃ j:Nat,(n:Int) - 1 - k=j:=⟨n - 1 - k,by omega⟩
   have c1:wr.cell? ⟨w.heap.size,k,none⟩=some (bv (l.getD k 0)):=by
    rw [bM HB2.out,jH,jX _ _ _ (by have:=HL.out;omega),if_neg (by have:=HL.out;omega)];rfl
   have c2:wr.cell? ⟨w.heap.size,j,none⟩=some (bv (l.getD j 0)):=by
    rw [bM HB2.out,jH,jX _ _ _ (by have:=HL.out;omega),if_neg (by have:=HL.out;omega)];rfl
   have f:∀ i,wr.frozen? ⟨w.heap.size,i,none⟩=false:=fun i=>iR HB2.out
   have f1:=f k
   have f2:=f j
   have hkj:k≠j:=by omega
   have HJ:Hid (l.length - 1 - k=j):=by have:=HL.out;unfold Hid;omega
   have hjn:j<n:=by omega
   have hkn:k<n:=by omega
   have hjI:(j:Int)<n:=by omega
   have hkI:(k:Int)<n:=by omega
   have HB3:Hid (((wr.setCell ⟨w.heap.size,k,none⟩ (.int .u8 ↑(l[j]?.getD 0).toNat)).setCell ⟨w.heap.size,j,none⟩ (.int .u8 ↑(l[k]?.getD 0).toNat)).drew.heap[w.heap.size]? = some (.cells (iA (swapped l (k+1))) 5 (0,0))):=by
    have:=heap_setCell_same (o:=j) (heap_setCell_same (o:=k) HB2.out (.int .u8 ↑(l[j]?.getD 0).toNat)) (.int .u8 ↑(l[k]?.getD 0).toNat)
    have h2:=DI l k (by have:=HL.out;omega)
    rw [HJ.out,List.getD_eq_getElem?_getD,List.getD_eq_getElem?_getD] at h2
    rw [h2] at this
    exact this
   have Rv:Hid (Ext [] w ((wr.setCell ⟨w.heap.size,k,none⟩ (.int .u8 ↑(l[j]?.getD 0).toNat)).setCell ⟨w.heap.size,j,none⟩ (.int .u8 ↑(l[k]?.getD 0).toNat)).drew) :=
    ((yu.out.setCell (.inr (Nat.le_refl _)) _).setCell (.inr (Nat.le_refl _)) _).drew
   clear f
   go_wp2
   go_region
   generalize ((wr.setCell ⟨w.heap.size,k,none⟩ (.int .u8 ↑(l[j]?.getD 0).toNat)).setCell ⟨w.heap.size,j,none⟩ (.int .u8 ↑(l[k]?.getD 0).toNat)).drew=w3 at *
   clear c1 c2 f1 f2
   go_wp2
   go_roundw
   case rel=>exact ⟨k+1,by omega,by go_num,HB3.out,Rv.out⟩
   case measure=>simp [intOf];omega
  ·have hk2:k=n / 2:=by omega
   have hcv:=run_convert_bytes_back (P:=Tryz.prog) wr 79 9 5 ⟨w.heap.size,0,none⟩ n (swapped l k) Tryz.underlying79 Tryz.underlying5 Tryz.underlying9 (fun j hj=>by
    have:(⟨w.heap.size,0,none⟩:Addr).add j=⟨w.heap.size,j,none⟩:=by unfold Addr.add;split <;> simp_all
    rw [this,bM HB2.out,jH,List.getElem?_eq_getElem hj];rfl)
   have HE:Hid (swapped l k=dx x n):=by rw [← HR.out,hk2,← HL.out];exact DF l
   rw [iE,HL.out,HE.out] at hcv
   clear hk2
   go_wp2
   go_ret
   exact ⟨rfl,yu.out⟩
end
section
open Go.RowKit Go.Maps
theorem Ext.old {a w:World} (h:Ext [] a w):∀ b o,b<a.heap.size→w.cell? ⟨b,o,none⟩=a.cell? ⟨b,o,none⟩:=fun b o hb=>World.cell?_of_block (h.block b hb (by simp))
theorem Ae (W:World) (b:Nat) (c:UInt8) (h:W.cell? ⟨b,0,none⟩=some (.int .u8 (c.toNat:Int))):(convert 79 9 (.slice (some ⟨b,0,none⟩) 1 1)).run Tryz.prog W=.ok (.string ⟨[c].toArray⟩) W :=
 run_convert_bytes_back (P:=Tryz.prog) W 79 9 5 ⟨b,0,none⟩ 1 [c] Tryz.underlying79 Tryz.underlying5 Tryz.underlying9 (fun j hj=>by
  obtain rfl:j=0:=by simpa using hj
  exact h)
theorem dZ (a b:Bs) (h:a.length+b.length≤maxLen) (W:World):(Op.stringOp .add ⟨a.toArray⟩ ⟨b.toArray⟩).run Tryz.prog W=.ok (.string ⟨(a++b).toArray⟩) W:=by
 have:=run_string_add_sum (P:=Tryz.prog) W ⟨a.toArray⟩ ⟨b.toArray⟩ h
 rw [ByteArray.mk_append_mk] at this
 exact this
theorem rD (n:Nat) (w:World) (hn:n<18446744073709551616) :
  Calls Tryz.prog 141 #[.int .u64 n] w fun e w2=>e=.returned (.string ⟨(bJ n).toArray⟩)∧Ext [] w w2:=by
 have HN:=Lib.hid hn
 clear hn
 go_enter Tryz.func141,Tryz.ntmps141
 go_wp2_with fail
 refine (vJ n w HN.out).mono ?_
 rintro e w1 ⟨rfl,rfl⟩
 have Zc:need n≤8:=zo n
 have hk:(need n:Int)≤8:=by omega
 have HNB:Hid (bJ n=UInt8.ofNat (need n)::dx n (need n)):=rfl
 have hcv:∀ (W:World) (b:Nat),W.cell? ⟨b,0,none⟩=some (.int .u8 (need n:Int))→(convert 79 9 (.slice (some ⟨b,0,none⟩) 1 1)).run Tryz.prog W=.ok (.string ⟨[UInt8.ofNat (need n)].toArray⟩) W:=fun W b h=>Ae W b _ (by rw [h];congr 2;simp;omega)
 have hwr:IntKind.u8.wrap (need n:Int)=(need n:Int):=by rw [IntKind.wrap_u8];omega
 have hadd:=dZ [UInt8.ofNat (need n)] (dx n (need n)) (by rw [dE];simp [maxLen];omega)
 generalize need n=k at *
 go_wp2
 go_region_with (first | (go_at_call 111;refine (nA n k _ (by omega)).mono ?_;rintro e w2 ⟨rfl,hx⟩;have hcx:=hx.old))
 all_goals
  have HX:=Lib.hid hx
  clear hx hcx hcv hwr hadd
  go_wp2
  go_ret
  refine ⟨by rw [HNB.out];rfl,?_⟩
  first
   | exact ((Ext.refl [] w).drew).trans HX.out (by simp)
   | exact (((Ext.refl [] w).drew).trans HX.out (by simp)).alloc _
   | exact (((Ext.refl [] w).alloc _).drew).trans HX.out (by simp)
theorem pR (s:Bs) (w:World) (hs:s.length≤1000000000000) :
  Calls Tryz.prog 119 #[.string ⟨s.toArray⟩] w fun e w2=>e=.returned (.string ⟨(aN s).toArray⟩)∧Ext [] w w2:=by
 have HS:=Lib.hid hs
 have hb1:(s.length:Int)≤1000000000000:=by omega
 have hadd:=dZ (bJ s.length) s (by have:=aL s.length;simp [maxLen];omega)
 have HT:Hid (aN s=bJ s.length++s):=rfl
 clear hs
 go_enter Tryz.func119,Tryz.ntmps119
 go_wp2_with fail
 refine (rD s.length w (by have:=HS.out;omega)).mono ?_
 rintro e w1 ⟨rfl,hx⟩
 have HX:=Lib.hid hx
 clear hx
 generalize bJ s.length=nb at *
 go_wp2
 go_ret
 exact ⟨by rw [HT.out];rfl,HX.out⟩
end
section
open Go.RowKit Go.Maps
def iy (T:TypeId) (w:World) (b:Nat) (r:Rd):Prop:=w.heap[b]? = some (.cells #[.string ⟨r.s.toArray⟩,.bool r.bad] T (0,0))
theorem iy.ext {T:TypeId} {w w2:World} {b:Nat} {G:List Nat} {r:Rd} (h:iy T w b r) (hx:Ext G w w2) (hd:b∉G):iy T w2 b r:=hx.heap h hd
theorem iy.lt {T:TypeId} {w:World} {b:Nat} {r:Rd} (h:iy T w b r):b<w.heap.size:=jL h
theorem iy.cells {T:TypeId} {w:World} {b:Nat} {r:Rd} (h:iy T w b r):w.cell? ⟨b,0,none⟩=some (.string ⟨r.s.toArray⟩)∧w.cell? ⟨b,1,none⟩=some (.bool r.bad)∧w.frozen? ⟨b,0,none⟩=false∧w.frozen? ⟨b,1,none⟩=false :=
 ⟨by rw [bM h];rfl,by rw [bM h];rfl,iR h,iR h⟩
theorem iy.set {T:TypeId} {w:World} {b:Nat} {r:Rd} (h:iy T w b r) (s:Bs):iy T (w.setCell ⟨b,0,none⟩ (.string ⟨s.toArray⟩)) b ⟨s,r.bad⟩:=by
 unfold iy;rw [heap_setCell_same h];rfl
theorem iy.U3 {T:TypeId} {w:World} {b:Nat} {r:Rd} (h:iy T w b r) (x:Bool):iy T (w.setCell ⟨b,1,none⟩ (.bool x)) b ⟨r.s,x⟩:=by
 unfold iy;rw [heap_setCell_same h];rfl
theorem jS (T b:Nat) (r:Rd) (w:World) (h:iy T w b r) :
  Calls Tryz.prog 131 #[.pointer (some ⟨b,0,none⟩)] w fun e w2=>e=.returned (.tuple #[])∧iy T w2 b Rd.failed∧Ext [b] w w2:=by
 obtain ⟨c0,c1,f0,f1⟩:=h.cells
 have H1:Hid (iy T ((w.setCell ⟨b,0,none⟩ (.string ⟨#[]⟩)).setCell ⟨b,1,none⟩ (.bool true)) b Rd.failed):=(h.set []).U3 true
 have H2:Hid (Ext [b] w ((w.setCell ⟨b,0,none⟩ (.string ⟨#[]⟩)).setCell ⟨b,1,none⟩ (.bool true))):=((Ext.refl [b] w).setCell (by simp) _).setCell (by simp) _
 clear h
 go_enter Tryz.func131,Tryz.ntmps131
 go_wp2
 go_end0
 exact ⟨rfl,H1.out,H2.out⟩
theorem IK (T b:Nat) (r:Rd) (w:World) (h:iy T w b r) :
  Calls Tryz.prog 64 #[.pointer (some ⟨b,0,none⟩)] w fun e w2=>e=.returned (.int .i64 r.s.length)∧w=w2:=by
 obtain ⟨c0,c1,f0,f1⟩:=h.cells
 clear h
 go_enter Tryz.func64,Tryz.ntmps64
 go_wp2
 go_ret
 exact ⟨rfl,rfl⟩
theorem Af (T b:Nat) (r:Rd) (w:World) (h:iy T w b r) :
  Calls Tryz.prog 97 #[.pointer (some ⟨b,0,none⟩)] w fun e w2=>e=.returned (.int .i64 r.done)∧w=w2:=by
 obtain ⟨c0,c1,f0,f1⟩:=h.cells
 obtain ⟨s,bad⟩:=r
 clear h
 cases bad
 ·cases s
  ·dsimp only at c0 c1
   go_enter Tryz.func97,Tryz.ntmps97
   go_wp2
   go_ret
   exact ⟨rfl,rfl⟩
  ·rename_i c t
   dsimp only at c0 c1
   have h1:(ByteArray.mk (c::t).toArray).toList.isEmpty=false:=by rw [ByteArray.toList_eq];rfl
   have h2:(!(ByteArray.mk (c::t).toArray).toList.isEmpty)=true:=by rw [h1];rfl
   go_enter Tryz.func97,Tryz.ntmps97
   go_wp2
   all_goals go_ret
   all_goals exact ⟨rfl,rfl⟩
 ·dsimp only at c0 c1
  go_enter Tryz.func97,Tryz.ntmps97
  go_wp2
  go_ret
  exact ⟨rfl,rfl⟩
theorem iT (s:Bs) (n:Nat):(ByteArray.mk s.toArray).extract 0 n=⟨(s.take n).toArray⟩:=by
 apply ByteArray.ext
 simp [ByteArray.data_extract]
theorem nC (s:Bs) (n m:Nat) (h:m=s.length):(ByteArray.mk s.toArray).extract n m=⟨(s.drop n).toArray⟩:=by
 subst h
 apply ByteArray.ext
 simp only [ByteArray.data_extract]
 rw [List.extract_toArray,List.extract_eq_take_drop,List.take_of_length_le (by simp)]
theorem jT (T b:Nat) (r:Rd) (n:Nat) (w:World) (h:iy T w b r) (hs:r.s.length≤1000000000000) (_hn:n≤9223372036854775807) :
  Calls Tryz.prog 129 #[.pointer (some ⟨b,0,none⟩),.int .i64 n] w fun e w2=>e=.returned (.string ⟨(r.take n).1.toArray⟩)∧iy T w2 b (r.take n).2∧Ext [b] w w2:=by
 have H:=Lib.hid h
 obtain ⟨c0,c1,f0,f1⟩:=h.cells
 clear h
 have hs':(r.s.length:Int)≤1000000000000:=by omega
 by_cases hb:r.bad=true
 ·have e1:r.take n=([],Rd.failed):=by unfold Rd.take;simp [hb]
  rw [e1]
  rw [hb] at c1
  clear hb e1
  go_enter Tryz.func129,Tryz.ntmps129
  go_wp2_with (go_at_call 131;refine (jS T b r _ H.out).mono ?_;rintro e w2 ⟨rfl,h2,hx⟩;have H2:=Lib.hid h2;have HX:=Lib.hid hx;clear h2 hx)
  go_ret
  exact ⟨rfl,H2.out,HX.out⟩
 ·have hb:r.bad=false:=by simpa using hb
  rw [hb] at c1
  by_cases hl:r.s.length<n
  ·have e1:r.take n=([],Rd.failed):=by unfold Rd.take;simp [hl]
   rw [e1]
   have hl':(r.s.length:Int)<n:=by omega
   clear hb e1
   go_enter Tryz.func129,Tryz.ntmps129
   go_wp2_with (go_at_call 131;refine (jS T b r _ H.out).mono ?_;rintro e w2 ⟨rfl,h2,hx⟩;have H2:=Lib.hid h2;have HX:=Lib.hid hx;clear h2 hx)
   go_ret
   exact ⟨rfl,H2.out,HX.out⟩
  ·have e1:r.take n=(r.s.take n,⟨r.s.drop n,false⟩):=by unfold Rd.take;simp [hb,hl]
   have HD:Hid (iy T (w.setCell ⟨b,0,none⟩ (.string ⟨(r.s.drop n).toArray⟩)) b ⟨r.s.drop n,false⟩):=by have:=H.out.set (r.s.drop n);rw [hb] at this;exact this
   have HX:Hid (Ext [b] w (w.setCell ⟨b,0,none⟩ (.string ⟨(r.s.drop n).toArray⟩))):=(Ext.refl [b] w).setCell (by simp) _
   rw [e1]
   have hl':¬ (r.s.length:Int)<n:=by omega
   have adu:n≤r.s.length:=by omega
   clear hb e1 hl
   go_enter Tryz.func129,Tryz.ntmps129
   go_wp2
   go_ret
   rw [nC _ _ _ rfl]
   exact ⟨congrArg (fun x=>Ending.returned (.string x)) (iT r.s n),HD.out,HX.out⟩
theorem uL {P:Program} {f:FuncId} {args:Array Value} {w:World} {n:Nat} {v:Value}
  (h:Calls P f args (w.drewN n) fun e w'=>e=.returned v∧w.drewN n=w'):Calls P f args (w.drewN n) fun e w''=>e=.returned v∧∃ m,w''=w.drewN m :=
 h.mono fun _ _ ⟨he,hm⟩=>⟨he,n,hm.symm⟩
theorem DJ (c:UInt8) (w:World):(Instr.index 9 (.string ⟨#[c]⟩) (.int .i64 0)).run Tryz.prog w=.ok (.int .u8 (c.toNat:Int)) w:=by
 simp [go_sem]
 rfl
theorem Ag (c:UInt8):wrap64 (c.toNat:Int)=(c.toNat:Int):=by
 have:=c.toNat_lt
 unfold wrap64
 omega
theorem Ah (c:UInt8) (t:Bs) (most:Nat):Rd.num ⟨c::t,false⟩ most=if c.toNat≤8∧c.toNat≤t.length∧need (iK (t.take c.toNat))=c.toNat∧iK (t.take c.toNat)≤most then (iK (t.take c.toNat),⟨t.drop c.toNat,false⟩) else (0,Rd.failed):=rfl
theorem Ai (T b:Nat) (r:Rd) (most:Nat) (w:World) (h:iy T w b r) (hs:r.s.length≤1000000000000) (ht:r.take 1=([],Rd.failed)) :
  Calls Tryz.prog 96 #[.pointer (some ⟨b,0,none⟩),.int .u64 most] w fun e w2=>e=.returned (.int .u64 0)∧iy T w2 b Rd.failed∧Ext [b] w w2:=by
 have H:=Lib.hid h
 have HT:=Lib.hid ht
 clear h ht
 go_enter Tryz.func96,Tryz.ntmps96
 go_wp2_with fail
 refine (jT T b r 1 _ H.out hs (by decide)).mono ?_
 rw [HT.out]
 rintro e w1 ⟨rfl,h1,hx1⟩
 obtain ⟨c0,c1,f0,f1⟩:=h1.cells
 have H1:=Lib.hid h1
 have BJ:=Lib.hid hx1
 have c1':w1.cell? ⟨b,1,none⟩=some (.bool true):=c1
 clear h1 hx1 c0 c1 f0 f1
 go_wp2_with (go_at_call 131;refine (jS T b _ _ H1.out).mono ?_;rintro e w2 ⟨rfl,h2,hx⟩;have H2:=Lib.hid h2;have HX:=Lib.hid hx;clear h2 hx)
 go_ret
 exact ⟨rfl,H2.out,BJ.out.trans HX.out (by simp)⟩
theorem IL (T b:Nat) (c:UInt8) (t:Bs) (most:Nat) (w:World) (h:iy T w b ⟨c::t,false⟩) (hs:t.length+1≤1000000000000) (hc:8<c.toNat) :
  Calls Tryz.prog 96 #[.pointer (some ⟨b,0,none⟩),.int .u64 most] w fun e w2=>e=.returned (.int .u64 0)∧iy T w2 b Rd.failed∧Ext [b] w w2:=by
 have H:=Lib.hid h
 have hc':(8:Int)<c.toNat:=by omega
 have hc2:=c.toNat_lt
 have hix:=DJ c
 have hwc:=Ag c
 clear h
 go_enter Tryz.func96,Tryz.ntmps96
 go_wp2_with fail
 refine (jT T b ⟨c::t,false⟩ 1 _ H.out hs (by decide)).mono ?_
 rw [show Rd.take ⟨c::t,false⟩ 1=([c],⟨t,false⟩) by simp [Rd.take]]
 rintro e w1 ⟨rfl,h1,hx1⟩
 obtain ⟨c0,c1,f0,f1⟩:=h1.cells
 have H1:=Lib.hid h1
 have BJ:=Lib.hid hx1
 have c1':w1.cell? ⟨b,1,none⟩=some (.bool false):=c1
 clear h1 hx1 c0 c1 f0 f1
 go_wp2_with (go_at_call 131;refine (jS T b _ _ H1.out).mono ?_;rintro e w2 ⟨rfl,h2,hx⟩;have H2:=Lib.hid h2;have HX:=Lib.hid hx;clear h2 hx)
 go_ret
 exact ⟨rfl,H2.out,BJ.out.trans HX.out (by simp)⟩
theorem Fx (T b:Nat) (c:UInt8) (t:Bs) (most:Nat) (w:World) (h:iy T w b ⟨c::t,false⟩) (hs:t.length+1≤1000000000000) (hc:c.toNat≤8) (hl:t.length<c.toNat) :
  Calls Tryz.prog 96 #[.pointer (some ⟨b,0,none⟩),.int .u64 most] w fun e w2=>e=.returned (.int .u64 0)∧iy T w2 b Rd.failed∧Ext [b] w w2:=by
 have H:=Lib.hid h
 have HL:=Lib.hid hl
 have hc':(c.toNat:Int)≤8:=by omega
 have hc2:=c.toNat_lt
 have hix:=DJ c
 have hwc:=Ag c
 clear h hl
 go_enter Tryz.func96,Tryz.ntmps96
 go_wp2_with fail
 refine (jT T b ⟨c::t,false⟩ 1 _ H.out hs (by decide)).mono ?_
 rw [show Rd.take ⟨c::t,false⟩ 1=([c],⟨t,false⟩) by simp [Rd.take]]
 rintro e w1 ⟨rfl,h1,hx1⟩
 obtain ⟨c0,c1,f0,f1⟩:=h1.cells
 have H1:=Lib.hid h1
 have BJ:=Lib.hid hx1
 have c1':w1.cell? ⟨b,1,none⟩=some (.bool false):=c1
 clear h1 hx1 c0 c1 f0 f1
 go_wp2_with fail
 refine (jT T b ⟨t,false⟩ c.toNat _ H1.out (by simp only;omega) (by omega)).mono ?_
 rw [show Rd.take ⟨t,false⟩ c.toNat=([],Rd.failed) by simp [Rd.take,HL.out]]
 rintro e w2 ⟨rfl,h2,hx2⟩
 obtain ⟨c0,c1,f0,f1⟩:=h2.cells
 have H2:=Lib.hid h2
 have yu:=Lib.hid hx2
 have c2':w2.cell? ⟨b,1,none⟩=some (.bool true):=c1
 clear h2 hx2 c0 c1 f0 f1 c1'
 go_wp2_with fail
 refine (pQ [] _ (by decide)).mono ?_
 rintro e w3 ⟨rfl,rfl⟩
 go_wp2_with fail
 go_quiet (fail)
 go_wp2_with (go_at_call 131;refine (jS T b _ _ (H2.out.ext ((Ext.refl [] w2).drewN _) (by simp))).mono ?_;rintro e w3 ⟨rfl,h3,hx⟩;have H3:=Lib.hid h3;have HX:=Lib.hid hx;clear h3 hx)
 go_ret
 exact ⟨rfl,H3.out,((BJ.out.trans yu.out (by simp)).drewN _).trans HX.out (by simp)⟩
theorem IM (T b:Nat) (c:UInt8) (t:Bs) (most:Nat) (w:World) (h:iy T w b ⟨c::t,false⟩) (hs:t.length+1≤1000000000000) (hc:c.toNat≤8) (hl:c.toNat≤t.length) :
  Calls Tryz.prog 96 #[.pointer (some ⟨b,0,none⟩),.int .u64 most] w fun e w2=>e=.returned (.int .u64 (Rd.num ⟨c::t,false⟩ most).1)∧iy T w2 b (Rd.num ⟨c::t,false⟩ most).2∧Ext [b] w w2:=by
 have H:=Lib.hid h
 have HL:=Lib.hid hl
 have hc':(c.toNat:Int)≤8:=by omega
 have hix:=DJ c
 have hwc:=Ag c
 have Z0:=Lib.hid (Ah c t most)
 have HC:=Lib.hid hc
 clear h hl
 go_enter Tryz.func96,Tryz.ntmps96
 go_wp2_with fail
 refine (jT T b ⟨c::t,false⟩ 1 _ H.out hs (by decide)).mono ?_
 rw [show Rd.take ⟨c::t,false⟩ 1=([c],⟨t,false⟩) by simp [Rd.take]]
 rintro e w1 ⟨rfl,h1,hx1⟩
 obtain ⟨c0,c1,f0,f1⟩:=h1.cells
 have H1:=Lib.hid h1
 have BJ:=Lib.hid hx1
 have c1':w1.cell? ⟨b,1,none⟩=some (.bool false):=c1
 clear h1 hx1 c0 c1 f0 f1
 go_wp2_with fail
 refine (jT T b ⟨t,false⟩ c.toNat _ H1.out (by simp only;omega) (by omega)).mono ?_
 rw [show Rd.take ⟨t,false⟩ c.toNat=(t.take c.toNat,⟨t.drop c.toNat,false⟩) by have:=HL.out;simp [Rd.take];intro hh;omega]
 rintro e w2 ⟨rfl,h2,hx2⟩
 obtain ⟨c0,c1,f0,f1⟩:=h2.cells
 have H2:=Lib.hid h2
 have yu:=Lib.hid (BJ.out.trans hx2 (by simp))
 have c2':w2.cell? ⟨b,1,none⟩=some (.bool false):=c1
 have Z4:(t.take c.toNat).length≤8:=by rw [List.length_take];omega
 have HF:Hid (iK (t.take c.toNat)<18446744073709551616):=by
  have h2:=vz _ (t.take c.toNat) rfl
  have h3:256 ^ (t.take c.toNat).length≤256 ^ 8:=Nat.pow_le_pow_right (by omega) Z4
  unfold Hid
  omega
 have HF8:=Lib.hid Z4
 clear h2 hx2 c0 c1 f0 f1 c1' Z4
 go_wp2_with fail
 generalize t.take c.toNat=u at *
 generalize t.drop c.toNat=rest at *
 refine (pQ u _ HF8.out).mono ?_
 rintro e w3 ⟨rfl,rfl⟩
 generalize iK u=n at *
 by_cases hne:need n=c.toNat
 ·by_cases hle:n≤most
  ·have HV:Hid (Rd.num ⟨c::t,false⟩ most=(n,⟨rest,false⟩)):=by rw [Z0.out,if_pos ⟨HC.out,HL.out,hne,hle⟩];trivial
   have t1:((need n:Int) != (c.toNat:Int))=false:=by simp [hne]
   have t2:decide (most<n)=false:=by simp;omega
   have QX:=Lib.hid hne
   clear hne hle
   go_wp2_with fail
   go_quiet ((go_at_call 133;exact uL (vJ n _ HF.out)))
   go_wp2
   go_ret
   rw [HV.out]
   exact ⟨rfl,H2.out.ext ((Ext.refl [] w2).drewN _) (by simp),yu.out.drewN _⟩
  ·have HV:Hid (Rd.num ⟨c::t,false⟩ most=(0,Rd.failed)):=by rw [Z0.out,if_neg (fun h=>hle h.2.2.2)];trivial
   have t1:((need n:Int) != (c.toNat:Int))=false:=by simp [hne]
   have t2:decide (most<n)=true:=by simp;omega
   clear hne hle
   go_wp2_with fail
   go_quiet ((go_at_call 133;exact uL (vJ n _ HF.out)))
   go_wp2_with (go_at_call 131;refine (jS T b _ _ (H2.out.ext ((Ext.refl [] w2).drewN _) (by simp))).mono ?_;rintro e w3 ⟨rfl,h3,hx⟩;have H3:=Lib.hid h3;have HX:=Lib.hid hx;clear h3 hx)
   go_ret
   rw [HV.out]
   exact ⟨rfl,H3.out,(yu.out.drewN _).trans HX.out (by simp)⟩
 ·have HV:Hid (Rd.num ⟨c::t,false⟩ most=(0,Rd.failed)):=by rw [Z0.out,if_neg (fun h=>hne h.2.2.1)];trivial
  have t1:((need n:Int) != (c.toNat:Int))=true:=by simp;omega
  clear hne
  go_wp2_with fail
  go_quiet ((go_at_call 133;exact uL (vJ n _ HF.out)))
  go_wp2_with (go_at_call 131;refine (jS T b _ _ (H2.out.ext ((Ext.refl [] w2).drewN _) (by simp))).mono ?_;rintro e w3 ⟨rfl,h3,hx⟩;have H3:=Lib.hid h3;have HX:=Lib.hid hx;clear h3 hx)
  go_ret
  rw [HV.out]
  exact ⟨rfl,H3.out,(yu.out.drewN _).trans HX.out (by simp)⟩
theorem Co (T b:Nat) (r:Rd) (most:Nat) (w:World) (h:iy T w b r) (hs:r.s.length≤1000000000000) :
  Calls Tryz.prog 96 #[.pointer (some ⟨b,0,none⟩),.int .u64 most] w fun e w2=>e=.returned (.int .u64 (r.num most).1)∧iy T w2 b (r.num most).2∧Ext [b] w w2:=by
 obtain ⟨s,bad⟩:=r
 cases bad
 ·cases s with
  | nil=>exact Ai T b _ most w h hs rfl
  | cons c t =>
   by_cases hc:c.toNat≤8
   ·by_cases hl:c.toNat≤t.length
    ·exact IM T b c t most w h hs hc hl
    ·rw [Ah,if_neg (fun h=>hl h.2.1)]
     exact Fx T b c t most w h hs hc (by omega)
   ·rw [Ah,if_neg (fun h=>hc h.1)]
    exact IL T b c t most w h hs (by omega)
 ·exact Ai T b _ most w h hs rfl
theorem IP (T b:Nat) (r:Rd) (most:Nat) (w:World) (h:iy T w b r) (hs:r.s.length≤1000000000000) (hm:most≤1000000000000) :
  Calls Tryz.prog 92 #[.pointer (some ⟨b,0,none⟩),.int .i64 most] w fun e w2=>e=.returned (.string ⟨(r.text most).1.toArray⟩)∧iy T w2 b (r.text most).2∧Ext [b] w w2:=by
 have H:=Lib.hid h
 have h0:(0:Int)≤most:=by omega
 have h1:(most:Int)≤1000000000000:=by omega
 clear h
 go_enter Tryz.func92,Tryz.ntmps92
 go_wp2_with fail
 refine (Co T b r most _ H.out hs).mono ?_
 rintro e w1 ⟨rfl,h1,hx1⟩
 have hle:=jB r most
 have hlen:=jq r most
 have HT:Hid (r.text most=(r.num most).2.take (r.num most).1):=rfl
 generalize r.num most=q at *
 obtain ⟨n,r1⟩:=q
 have H1:=Lib.hid h1
 have BJ:=Lib.hid hx1
 have hn1:(n:Int)≤1000000000000:=by simp only at hle;omega
 have IQ:Hid (n≤1000000000000):=by simp only at hle;unfold Hid;omega
 have HLEN:Hid (r1.s.length≤1000000000000):=by simp only at hlen;unfold Hid;omega
 clear h1 hx1 hle hlen
 dsimp only
 go_wp2_with fail
 refine (jT T b r1 n _ H1.out HLEN.out (by have:=IQ.out;omega)).mono ?_
 rintro e w2 ⟨rfl,h2,hx2⟩
 have H2:=Lib.hid h2
 have yu:=Lib.hid hx2
 clear h2 hx2
 go_wp2
 go_ret
 rw [HT.out]
 exact ⟨rfl,H2.out,BJ.out.trans yu.out (by simp)⟩
theorem Kn (T b:Nat) (r:Rd) (most:Nat) (mi:Int) (w:World) (U4:mi=most) (h:iy T w b r) (hs:r.s.length≤1000000000000) (hm:most≤1000000000000) :
  Calls Tryz.prog 92 #[.pointer (some ⟨b,0,none⟩),.int .i64 mi] w fun e w2=>e=.returned (.string ⟨(r.text most).1.toArray⟩)∧iy T w2 b (r.text most).2∧Ext [b] w w2:=by
 subst U4
 exact IP T b r most w h hs hm
theorem Om (T b:Nat) (r:Rd) (most:Nat) (mi:Int) (w:World) (U4:mi=most) (h:iy T w b r) (hs:r.s.length≤1000000000000) :
  Calls Tryz.prog 96 #[.pointer (some ⟨b,0,none⟩),.int .u64 mi] w fun e w2=>e=.returned (.int .u64 (r.num most).1)∧iy T w2 b (r.num most).2∧Ext [b] w w2:=by
 subst U4
 exact Co T b r most w h hs
theorem Fy (s:Bs) (w:World) :
  Calls Tryz.prog 62 #[.string ⟨s.toArray⟩] w fun e w2=>e=.returned (.pointer (some ⟨w.heap.size,0,none⟩))∧iy 151 w2 w.heap.size ⟨s,false⟩∧Ext [] w w2∧w2.heap.size=w.heap.size+1:=by
 go_enter Tryz.func62,Tryz.ntmps62
 go_wp2
 go_ret
 exact ⟨rfl,heap_alloc_new _ _,(Ext.refl [] w).alloc _,by simp⟩
end
end Go.Proofs.YtangbdahnmomlaaGreatDoor
