/- sha, mac and the keys of domains and epochs, plainly; how they are reckoned. No program. sha: Right, First, table, schedule, Mix. Conditions: a -/
import Derived.BigQuiet
import Derived.Deep.DeepCutAuto
import Derived.Deep.QuietTactic
import Derived.Test.YtangbdahnmomlaaGreatDoorBu07
import Derived.Test.YtangbdahnmomlaaGreatDoorBu15
set_option linter.unnecessarySimpa false
set_option linter.unusedSimpArgs false
set_option linter.unusedVariables false
set_option maxHeartbeats 4000000
set_option maxRecDepth 100000
namespace Go.Proofs.YtangbdahnmomlaaGreatDoor
section
def aal (x:Nat):Nat:=iG x 25 ^^^ iG x 14 ^^^ (x / 8)
def aam (x:Nat):Nat:=iG x 15 ^^^ iG x 13 ^^^ (x / 1024)
def aan (x:Nat):Nat:=iG x 26 ^^^ iG x 21 ^^^ iG x 7
def aao (x:Nat):Nat:=iG x 30 ^^^ iG x 19 ^^^ iG x 10
def aap (e f g:Nat):Nat:=(e &&& f) ^^^ ((4294967295 - e) &&& g)
def XQ (a b c:Nat):Nat:=(a &&& b) ^^^ (a &&& c) ^^^ (b &&& c)
def AP:List Nat:=[
 0x428a2f98,0x71374491,0xb5c0fbcf,0xe9b5dba5,0x3956c25b,0x59f111f1,0x923f82a4,0xab1c5ed5,
 0xd807aa98,0x12835b01,0x243185be,0x550c7dc3,0x72be5d74,0x80deb1fe,0x9bdc06a7,0xc19bf174,
 0xe49b69c1,0xefbe4786,0x0fc19dc6,0x240ca1cc,0x2de92c6f,0x4a7484aa,0x5cb0a9dc,0x76f988da,
 0x983e5152,0xa831c66d,0xb00327c8,0xbf597fc7,0xc6e00bf3,0xd5a79147,0x06ca6351,0x14292967,
 0x27b70a85,0x2e1b2138,0x4d2c6dfc,0x53380d13,0x650a7354,0x766a0abb,0x81c2c92e,0x92722c85,
 0xa2bfe8a1,0xa81a664b,0xc24b8b70,0xc76c51a3,0xd192e819,0xd6990624,0xf40e3585,0x106aa070,
 0x19a4c116,0x1e376c08,0x2748774c,0x34b0bcb5,0x391c0cb3,0x4ed8aa4a,0x5b9cca4f,0x682e6ff3,
 0x748f82ee,0x78a5636f,0x84c87814,0x8cc70208,0x90befffa,0xa4506ceb,0xbef9a3f7,0xc67178f2]
structure S8 where
 a:Nat
 b:Nat
 c:Nat
 d:Nat
 e:Nat
 f:Nat
 g:Nat
 h:Nat
def S8.first:S8:=⟨0x6a09e667,0xbb67ae85,0x3c6ef372,0xa54ff53a,0x510e527f,0x9b05688c,0x1f83d9ab,0x5be0cd19⟩
def S8.p (v:S8) (k w:Nat):Nat:=add32 (add32 (add32 (add32 v.h (aan v.e)) (aap v.e v.f v.g)) k) w
def S8.q (v:S8):Nat:=add32 (aao v.a) (XQ v.a v.b v.c)
def S8.round (v:S8) (k w:Nat):S8:=⟨add32 (v.p k w) v.q,v.a,v.b,v.c,add32 v.d (v.p k w),v.e,v.f,v.g⟩
def S8.add (s v:S8):S8:=⟨add32 s.a v.a,add32 s.b v.b,add32 s.c v.c,add32 s.d v.d,add32 s.e v.e,add32 s.f v.f,add32 s.g v.g,add32 s.h v.h⟩
def D7 (w0 w1 w9 w14:Nat):Nat:=add32 (add32 (add32 w0 (aal w1)) w9) (aam w14)
def qW (m:Nat→Nat):Nat→Nat→Nat
 | 0,i=>m i
 | t+1,i=>if i<15 then qW m t (i+1) else D7 (qW m t 0) (qW m t 1) (qW m t 9) (qW m t 14)
def rU (m:Nat→Nat) (t:Nat):Nat:=qW m t 0
theorem nG (m:Nat→Nat):∀ (i t:Nat),i<16→qW m t i=rU m (t+i)
 | 0,_,_=>rfl
 | i+1,t,h=>by
  have h1:qW m (t+1) i=qW m t (i+1):=by rw [qW,if_pos (by omega)]
  rw [← h1,nG m i (t+1) (by omega)]
  congr 1
  omega
theorem FZ (m:Nat→Nat) (t:Nat) (h:t<16):rU m t=m t:=by
 have:=nG m t 0 h
 rw [Nat.zero_add] at this
 rw [← this,qW]
theorem CB (m:Nat→Nat) (t:Nat):rU m (t+16)=D7 (rU m t) (rU m (t+1)) (rU m (t+9)) (rU m (t+14)):=by
 have h:=nG m 15 (t+1) (by decide)
 rw [show t+1+15=t+16 by omega] at h
 rw [← h,qW,if_neg (by decide),nG m 0 t (by decide),nG m 1 t (by decide),nG m 9 t (by decide),nG m 14 t (by decide)]
 rfl
def gG (b:Bs) (t:Nat):Nat:=iK ((b.drop (4*t)).take 4) % 4294967296
def vX (m:Nat→Nat) (s:S8):Nat→S8
 | 0=>s
 | t+1=>(vX m s t).round (AP.getD t 0) (rU m t)
def vY (s:S8) (b:Bs):S8:=s.add (vX (gG b) s 64)
def kD:Nat→S8→Bs→S8×Bs
 | 0,s,t=>(s,t)
 | n+1,s,t=>if 64≤t.length then kD n (vY s (t.take 64)) (t.drop 64) else (s,t)
def jE (s:S8) (t:Bs):S8×Bs:=kD (t.length+1) s t
def vZ (n:Nat):Bs:=[128]++List.replicate ((119 - n % 64) % 64) 0++dx (8*n) 8
structure Sh where
 s:S8
 n:Nat
 rest:Bs
def Sh.new:Sh:=⟨S8.first,0,[]⟩
def Sh.add (x:Sh) (t:Bs):Sh:=⟨(jE x.s (x.rest++t)).1,x.n+t.length,(jE x.s (x.rest++t)).2⟩
def S8.out (v:S8):Bs:=dx v.a 4++dx v.b 4++dx v.c 4++dx v.d 4++dx v.e 4++dx v.f 4++dx v.g 4++dx v.h 4
def Sh.sum (x:Sh):Bs:=(jE x.s (x.rest++vZ x.n)).1.out
def O1 (t:Bs):Bs:=(Sh.new.add t).sum
def kW (key:Bs) (by_:UInt8):Bs:=List.zipWith (fun x y=>x ^^^ y) (key++List.replicate (64 - key.length) 0) (List.replicate 64 by_)
def xI (key text:Bs):Bs:=O1 (kW key 92++((Sh.new.add (kW key 54)).add text).sum)
def KI:Bs:=[112,111,115,116,104,111,114,110]
def D8 (d:Bs) (n:Nat):Bs:=dx d.length 2++d++dx n 8
def nR (ai d:Bs) (n:Nat):Bs:=(xI (xI KI ai) (D8 d n++[1])).take 32
def S8.fit (v:S8):Prop:=v.a<4294967296∧v.b<4294967296∧v.c<4294967296∧v.d<4294967296∧v.e<4294967296∧v.f<4294967296∧v.g<4294967296∧v.h<4294967296
theorem S8.Mt:S8.first.fit:=by unfold S8.fit S8.first;decide
theorem S8.Mv {v:S8} (h:v.fit) (k w:Nat):(v.round k w).fit:=⟨fM _ _,h.1,h.2.1,h.2.2.1,fM _ _,h.2.2.2.2.1,h.2.2.2.2.2.1,h.2.2.2.2.2.2.1⟩
theorem S8.RV (s v:S8):(s.add v).fit:=⟨fM _ _,fM _ _,fM _ _,fM _ _,fM _ _,fM _ _,fM _ _,fM _ _⟩
theorem CE (m:Nat→Nat) {s:S8} (h:s.fit):∀ t,(vX m s t).fit
 | 0=>h
 | t+1=>S8.Mv (CE m h t) _ _
theorem CF (s:S8) (b:Bs):(vY s b).fit:=S8.RV s _
theorem uQ:∀ (n:Nat) (s:S8) (t:Bs),s.fit→(kD n s t).1.fit
 | 0,_,_,h=>h
 | n+1,s,t,h=>by
  unfold kD
  split
  ·exact uQ n _ _ (CF _ _)
  ·exact h
theorem yH:∀ (n:Nat) (s:S8) (t:Bs),t.length<n→(kD n s t).2.length<64
 | 0,_,_,h=>absurd h (Nat.not_lt_zero _)
 | n+1,s,t,h=>by
  unfold kD
  split
  ·exact yH n _ _ (by rw [List.length_drop];omega)
  ·dsimp only;omega
theorem yI:∀ (n:Nat) (s:S8) (t:Bs),t.length<n→kD (n+1) s t=kD n s t
 | 0,_,_,h=>absurd h (Nat.not_lt_zero _)
 | n+1,s,t,h=>by
  rw [kD]
  conv=>rhs;rw [kD]
  split
  ·exact yI n _ _ (by rw [List.length_drop];omega)
  ·rfl
theorem F3 (s:S8) (t:Bs) (h:64≤t.length):jE s t=jE (vY s (t.take 64)) (t.drop 64):=by
 unfold jE
 have:∀ k n (s:S8) (t:Bs),t.length<n→kD (n+k) s t=kD n s t:=by
  intro k
  induction k with
  | zero=>intros;rfl
  | succ k ih=>intro n s t hn;rw [show n+(k+1)=(n+k)+1 by omega,yI _ _ _ (by omega),ih n s t hn]
 rw [kD,if_pos h]
 have e:=this 63 (t.length - 63) (vY s (t.take 64)) (t.drop 64) (by rw [List.length_drop];omega)
 rw [show t.length - 63+63=t.length by omega] at e
 rw [e]
 have e2:(t.drop 64).length+1=t.length - 63:=by rw [List.length_drop];omega
 rw [e2]
theorem F4 (s:S8) (t:Bs) (h:t.length<64):jE s t=(s,t):=by
 unfold jE
 rw [kD,if_neg (by omega)]
def Sh.ok (x:Sh):Prop:=x.s.fit∧x.rest.length<64
theorem Sh.D9:Sh.new.ok:=⟨S8.Mt,by decide⟩
theorem Sh.Jc {x:Sh} (h:x.ok) (t:Bs):(x.add t).ok:=⟨uQ _ _ _ h.1,yH _ _ _ (Nat.lt_succ_self _)⟩
theorem Sh.O3 (x:Sh) (t:Bs):(x.add t).n=x.n+t.length:=rfl
theorem S8.AQ (v:S8):v.out.length=32:=by simp [S8.out,dE]
theorem F5 (t:Bs):(O1 t).length=32:=S8.AQ _
theorem rV (k t:Bs):(xI k t).length=32:=F5 _
theorem oK (key:Bs) (b:UInt8) (h:key.length≤64):(kW key b).length=64:=by simp [kW];omega
theorem rW (m d:Bs) (n:Nat):(nR m d n).length=32:=by unfold nR;rw [List.length_take,rV];rfl
theorem wm (n:Nat):(vZ n).length≤72:=by simp [vZ,dE];omega
end
section
open Go.RowKit
abbrev S8.agg (v:S8):Value:=.agg #[.int .u32 v.a,.int .u32 v.b,.int .u32 v.c,.int .u32 v.d,.int .u32 v.e,.int .u32 v.f,.int .u32 v.g,.int .u32 v.h]
def S8.cells (v:S8):Array Value:=#[.int .u32 v.a,.int .u32 v.b,.int .u32 v.c,.int .u32 v.d,.int .u32 v.e,.int .u32 v.f,.int .u32 v.g,.int .u32 v.h]
section
variable {w0 w:World} {F0:List Nat} {L:List aT}
theorem rX (x n k:Nat) (hx:x<4294967296) (hn:1≤n) (hn2:n≤31) (hk:32 - n=k) (w:World):Calls Tryz.prog 274 #[.int .u32 x,.int .i64 n] w fun e w2=>e=.returned (.int .u32 (iG x k))∧w2=w:=by
 have hL:=vO x k hx (by omega) w
 have hn':(n:Int)≤31:=by omega
 have h1:(1:Int)≤n:=by omega
 have e1:IntKind.u64.wrap (n:Int)=n:=by rw [IntKind.wrap_u64];omega
 have e2:(n:Int).tmod 32=n:=by rw [Int.tmod_eq_emod_of_nonneg (by omega)];omega
 have e2b:(n:Int) % 32=n:=by omega
 have e3:(32:Int) - n=k:=by omega
 have e4:IntKind.i64.wrap (n:Int)=n:=by rw [IntKind.wrap_i64];omega
 have e5:IntKind.i64.wrap (k:Int)=k:=by rw [IntKind.wrap_i64];omega
 go_enter Tryz.func274,Tryz.ntmps274
 go_wp2_with fail
 refine hL.mono ?_
 rintro e w2 ⟨rfl,rfl⟩
 go_wp2_with fail
 go_ret
 exact ⟨rfl,rfl⟩
theorem RX (S:Sp w0 F0 w L):Calls Tryz.prog 249 #[] w fun e w2=>e=.returned S8.first.agg∧Sp w0 F0 w2 L:=by
 have bV:Hid (Sp w0 F0 (w.alloc (.cells #[.int .u32 0,.int .u32 0,.int .u32 0,.int .u32 0,.int .u32 0,.int .u32 0,.int .u32 0,.int .u32 0] 312)) (ae w.heap.size #[.int .u32 0,.int .u32 0,.int .u32 0,.int .u32 0,.int .u32 0,.int .u32 0,.int .u32 0,.int .u32 0] 312::L)):=S.box _ _
 clear S
 go_enter Tryz.func249,Tryz.ntmps249
 go_upto_region 1 with (fail)
 generalize w.alloc _=w1 at *
 generalize w.heap.size=g at *
 have b1:=bV.out.boxed
 have HP:=Lib.hid (bV.out.setRow S8.first.cells)
 clear bV
 go_wp2_with (first
  | refine eX rfl 312 _ rfl S8.first.cells (by kernel_rfl) ?_
  | refine wpList_store_row rfl 312 _ _ rfl g S8.first.cells rfl rfl 312 _ b1 (by kernel_rfl) (by kernel_rfl) (by kernel_rfl) ?_)
 refine bodyPost_ret (results_cell_row rfl _ _ g 312 S8.first.cells (0,0) _ rfl HP.out.boxed Tryz.underlying312 rfl (by kernel_rfl)) rfl ?_
 exact ⟨rfl,HP.out.drop⟩
theorem Vl:(Tryz.prog.info? 341).map (·.size)=some 64:=by kernel_rfl
theorem kX {c:Array Value} (h:c.size=64):(Tryz.prog.info? 341).map (·.size)=some c.size:=Vl.trans (by rw [h])
def gD:Array Value:=aG (List.replicate 64 0)
theorem RY (S:Sp w0 F0 w L):Calls Tryz.prog 273 #[] w fun e w2=>e=.returned (.agg (aG AP))∧Sp w0 F0 w2 L:=by
 have bV:=Lib.hid (S.box gD 341)
 clear S
 go_enter Tryz.func273,Tryz.ntmps273
 go_upto_region 1 with (fail)
 change Code.wp Tryz.prog _ _ _ (w.alloc (.cells gD 341))
 generalize w.alloc (.cells gD 341)=w1 at *
 generalize w.heap.size=g at *
 have b1:=bV.out.boxed
 have HP:=Lib.hid (bV.out.setRow (aG AP))
 have hz:(aG AP).size=64:=by rw [fO];decide
 have hz0:gD.size=64:=by unfold gD;rw [fO];decide
 clear bV
 go_wp2_with (first
  | refine eX rfl 341 _ rfl (aG AP) (by kernel_rfl) ?_
  | refine wpList_store_row rfl 341 _ _ rfl g (aG AP) rfl rfl 341 _ b1 (kX hz0) (by rw [hz,hz0]) (kV _) ?_)
 refine bodyPost_ret (results_cell_row rfl _ _ g 341 (aG AP) (0,0) _ rfl HP.out.boxed Tryz.underlying341 rfl (kX hz)) rfl ?_
 exact ⟨rfl,HP.out.drop⟩
def kJ (f:Nat→Nat) (k:Nat):List Nat:=(List.range 64).map fun t=>if t<k then f t else 0
theorem nY (f:Nat→Nat) (k:Nat):(kJ f k).length=64:=by simp [kJ]
theorem F6 (f:Nat→Nat) (k t:Nat) (h:t<64):(kJ f k).getD t 0=if t<k then f t else 0:=by simp [kJ,List.getD_eq_getElem?_getD,h]
theorem F7 (f:Nat→Nat) (k:Nat) (h:k<64):(kJ f k).set k (f k)=kJ f (k+1):=by
 apply List.ext_getElem?
 intro t
 unfold kJ
 rw [List.getElem?_set]
 by_cases ht:t<64
 ·simp only [List.getElem?_map,List.getElem?_range ht,List.length_map,List.length_range,Option.map_some]
  split
  ·subst_vars;simp [h]
  ·rename_i hne
   by_cases h1:t<k
   ·rw [if_pos h1,if_pos (by omega)]
   ·rw [if_neg h1,if_neg (by omega)]
 ·have h2:∀ g:Nat→Nat,((List.range 64).map g)[t]? = none:=fun g=>List.getElem?_eq_none (by simp;omega)
  rw [if_neg (by omega),h2,h2]
theorem Mw (f:Nat→Nat):kJ f 0=List.replicate 64 0:=by simp [kJ,List.map_const']
theorem Jd {f g:Nat→Nat} {k:Nat} (h:∀ t,t<k→f t=g t):kJ f k=kJ g k:=by
 unfold kJ
 refine List.map_congr_left fun t _=>?_
 split
 ·rename_i ht;exact h t ht
 ·rfl
theorem Mx (b:Bs) (t:Nat):gG b t<4294967296:=Nat.mod_lt _ (by decide)
theorem KJ (b:Bs):∀ t,rU (gG b) t<4294967296:=fun t=>by
 by_cases h:t<16
 ·rw [FZ _ _ h];exact Mx b t
 ·obtain ⟨k,rfl⟩:∃ k,t=k+16:=⟨t - 16,by omega⟩
  rw [CB]
  exact fM _ _
theorem O4 (A B C:Nat) (hA:A<4294967296) (hB:B<4294967296) (hC:C<4294967296):bits .xor .u32 (A:Int) (B:Int)=((A ^^^ B:Nat):Int)∧bits .xor .u32 ((A ^^^ B:Nat):Int) (C:Int)=((A ^^^ B ^^^ C:Nat):Int)∧A ^^^ B ^^^ C<4294967296 :=
 ⟨xG _ _ hA hB,xG _ _ (jI _ _ hA hB) hC,jI _ _ (jI _ _ hA hB) hC⟩
theorem Je (t:Bs) (ht:t.length=64) (S:Sp w0 F0 w L):Calls Tryz.prog 272 #[.string ⟨t.toArray⟩] w fun e w2=>e=.returned (.agg (aG (kJ (rU (gG t)) 64)))∧Sp w0 F0 w2 L:=by
 have HT:=Lib.hid ht
 have bV:=Lib.hid ((S.box gD 341).box gD 341)
 have hsz:∀ o:Obj,(w.alloc o).heap.size=w.heap.size+1:=fun o=>Array.size_push _
 rw [hsz] at bV
 have hlen:(t.length:Int)=64:=by omega
 clear S hsz ht
 go_enter Tryz.func272,Tryz.ntmps272
 go_wp2_with fail
 change Code.wp Tryz.prog _ _ _ ((w.alloc (.cells gD 341)).alloc (.cells gD 341))
 generalize (w.alloc (.cells gD 341)).alloc (.cells gD 341)=w3 at *
 generalize w.heap.size+1=g at *
 generalize w.heap.size=g0 at *
 have bX:Hid (Sp w0 F0 w3 (ae g (aG (kJ (gG t) 0)) 341::ae g0 gD 341::L)):=by unfold Hid;rw [Mw];exact bV.out
 clear bV
 go_loopw [12] (fun i wr=>∃ k:Nat,i=.int .i64 k∧k≤16∧Sp w0 F0 wr (ae g (aG (kJ (gG t) k)) 341::ae g0 gD 341::L)) (fun i _=>17 - (intOf i).toNat)
 case atStart=>exact ⟨0,rfl,Nat.zero_le _,bX.out⟩
 case round =>
  clear bX
  obtain ⟨k,rfl,hk,S⟩:=hrel
  have HS:=Lib.hid S
  clear S
  by_cases hlt:k<16
  ·have hlt':(k:Int)<16:=by omega
   have hcut:=KF t (4*k) (4*(k+1))
   have HD:Hid ((t.take (4*(k+1))).drop (4*k)=(t.drop (4*k)).take 4):=by unfold Hid;rw [List.drop_take,show 4*(k+1) - 4*k=4 by omega]
   rw [HD.out] at hcut
   have KH:Hid (((t.drop (4*k)).take 4).length≤8):=by unfold Hid;rw [List.length_take];omega
   have HF:=Lib.hid (fun w'=>pQ ((t.drop (4*k)).take 4) w' KH.out)
   have HU:Hid ((kJ (gG t) k).set k (iK ((t.drop (4*k)).take 4) % 4294967296)=kJ (gG t) (k+1)):=F7 (gG t) k (by omega)
   have vW:=Lib.hid (nY (gG t) k)
   clear HD KH
   generalize (t.drop (4*k)).take 4=tk at *
   generalize iK tk=fl at *
   go_wp2_with fail
   refine (HF.out _).mono ?_
   rintro e w4 ⟨rfl,rfl⟩
   have fk:=HS.out.free k
   have ck:=HS.out.uP (i:=k) (by rw [vW.out];omega)
   have HP:=HS.out.FX k (fl % 4294967296) _ HU.out
   rw [← KG] at HP
   have HP:=Lib.hid HP
   clear HS HF hcut HU
   go_wp2_with fail
   exact ⟨⟨k+1,by go_num,by omega,HP.out⟩,by simp [intOf];omega⟩
  ·have XR:Hid (k=16):=by unfold Hid;omega
   have hge:¬ (k:Int)<16:=by omega
   obtain ⟨k0,hk0⟩:∃ k0,k=k0:=⟨_,rfl⟩
   have HS2:Hid (Sp w0 F0 wr (ae g (aG (kJ (rU (gG t)) 16)) 341::ae g0 gD 341::L)):=by
    unfold Hid
    have HS:=HS.out
    rw [XR.out] at HS
    rw [Jd (g:=gG t) (fun i hi=>FZ _ _ hi)]
    exact HS
   have HW:=Lib.hid (KJ t)
   have HN:=Lib.hid (CB (gG t))
   obtain ⟨W,hW⟩:∃ W,rU (gG t)=W:=⟨_,rfl⟩
   rw [hW] at HS2 HW HN
   have HWE:=Lib.hid hW
   clear hW
   clear HS hlt hk hk0 XR
   obtain ⟨wo,rfl⟩:∃ wo:World,wo=wr:=⟨_,rfl⟩
   go_wp2_with fail
   go_loopw [7] (fun i wq=>∃ k:Nat,i=.int .i64 k∧16≤k∧k≤64∧Sp w0 F0 wq (ae g (aG (kJ W k)) 341::ae g0 gD 341::L)) (fun i _=>65 - (intOf i).toNat)
   case atStart=>exact ⟨16,rfl,Nat.le_refl _,by decide,HS2.out⟩
   case round =>
    clear HS2
    obtain ⟨k,rfl,hk1,hk2,S⟩:=hrel
    have HS:=Lib.hid S
    have vW:=Lib.hid (nY W k)
    clear S
    by_cases hlt:k<64
    ·have hlt':(k:Int)<64:=by omega
     have adK:(16:Int)≤k:=by omega
     obtain ⟨p,hk⟩:∃ p,p+16=k:=⟨k - 16,by omega⟩
     have m16:(k:Int) - 16=p:=by omega
     obtain ⟨p1,m15⟩:∃ q:Nat,(k:Int) - 15=q:=⟨p+1,by omega⟩
     obtain ⟨p9,m7⟩:∃ q:Nat,(k:Int) - 7=q:=⟨p+9,by omega⟩
     obtain ⟨Uq,m2⟩:∃ q:Nat,(k:Int) - 2=q:=⟨p+14,by omega⟩
     have i0:IntKind.i64.wrap (p:Int)=p:=by rw [IntKind.wrap_i64];omega
     have i1:IntKind.i64.wrap (p1:Int)=p1:=by rw [IntKind.wrap_i64];omega
     have i9:IntKind.i64.wrap (p9:Int)=p9:=by rw [IntKind.wrap_i64];omega
     have i14:IntKind.i64.wrap (Uq:Int)=Uq:=by rw [IntKind.wrap_i64];omega
     have b0:(p:Int)<64:=by omega
     have b1:(p1:Int)<64:=by omega
     have b9:(p9:Int)<64:=by omega
     have b14:(Uq:Int)<64:=by omega
     have HAT:Hid (∀ {w':World},Sp w0 F0 w' (ae g (aG (kJ W k)) 341::ae g0 gD 341::L)→∀ q,q<k→w'.cell? ⟨g,q,none⟩=some (.int .u32 (W q))):=fun {w'} S' q hq=>by
      rw [S'.uP (by rw [vW.out];omega),F6 _ _ _ (by omega),if_pos hq]
     have HV:Hid (W k=D7 (W p) (W p1) (W p9) (W Uq)):=by
      unfold Hid
      rw [← hk,HN.out p,show p+1=p1 by omega,show p+9=p9 by omega,show p+14=Uq by omega]
     have h0:=HW.out p
     have h1:=HW.out p1
     have h9:=HW.out p9
     have h14:=HW.out Uq
     have HU:Hid ((kJ W k).set k (W k)=kJ W (k+1)):=F7 W k (by omega)
     rw [HV.out] at HU
     have c1:=HAT.out HS.out p1 (by omega)
     have c14:=HAT.out HS.out Uq (by omega)
     have ZZ:=Lib.hid (fun (w':World) (S':Sp w0 F0 w' (ae g (aG (kJ W k)) 341::ae g0 gD 341::L))=>HAT.out S' p (by omega))
     have HA9:=Lib.hid (fun (w':World) (S':Sp w0 F0 w' (ae g (aG (kJ W k)) 341::ae g0 gD 341::L))=>HAT.out S' p9 (by omega))
     generalize W p1=x at *
     generalize W Uq=y at *
     generalize W p=u at *
     generalize W p9=z at *
     clear HAT HN HV HW
     go_wp2_with fail
     go_region
     all_goals
      have HS2:=Lib.hid HS.out.drew
      clear c1 c14 HS
      have HR1:=Lib.hid (fun w'=>rX x 7 25 h1 (by decide) (by decide) rfl w')
      have HR2:=Lib.hid (fun w'=>rX x 18 14 h1 (by decide) (by decide) rfl w')
      have HR3:=Lib.hid (fun w'=>rX y 17 15 h14 (by decide) (by decide) rfl w')
      have HR4:=Lib.hid (fun w'=>rX y 19 13 h14 (by decide) (by decide) rfl w')
      have hA:=pY x 25 h1
      have hB:=pY x 14 h1
      have hC:=pY y 15 h14
      have hD:=pY y 13 h14
      have HE:Hid (D7 u x z y=add32 (add32 (add32 u (iG x 25 ^^^ iG x 14 ^^^ x / 8)) z) (iG y 15 ^^^ iG y 13 ^^^ y / 1024)):=rfl
      rw [HE.out] at HU
      clear HE
      generalize iG x 25=A at *
      generalize iG x 14=B at *
      generalize iG y 15=C at *
      generalize iG y 13=D at *
      have hx8:(x:Int) / 8=((x / 8:Nat):Int):=by omega
      have hy8:(y:Int) / 1024=((y / 1024:Nat):Int):=by omega
      have hx9:x / 8<4294967296:=by omega
      have hy9:y / 1024<4294967296:=by omega
      generalize x / 8=xx at *
      generalize y / 1024=yy at *
      obtain ⟨e1,e2,e3⟩:=O4 A B xx hA hB hx9
      obtain ⟨e4,e5,e6⟩:=O4 C D yy hC hD hy9
      generalize A ^^^ B ^^^ xx=s0 at *
      generalize C ^^^ D ^^^ yy=s1 at *
      generalize A ^^^ B=ab at *
      generalize C ^^^ D=cd at *
      clear hA hB hC hD hx9 hy9
      go_wp2_with fail
      refine (HR1.out _).mono ?_
      rintro e w2 ⟨rfl,rfl⟩
      go_wp2_with fail
      refine (HR2.out _).mono ?_
      rintro e w2 ⟨rfl,rfl⟩
      go_wp2_with fail
      refine (HR3.out _).mono ?_
      rintro e w2 ⟨rfl,rfl⟩
      go_wp2_with fail
      refine (HR4.out _).mono ?_
      rintro e w2 ⟨rfl,rfl⟩
      clear HR1 HR2 HR3 HR4
      have c0:=ZZ.out _ HS2.out
      have c9:=HA9.out _ HS2.out
      have ck:=HS2.out.uP (i:=k) (by rw [vW.out];exact hlt)
      have fk:=HS2.out.free k
      have a1:=jV u s0
      have a2:=jV (add32 u s0) z
      have a3:=jV (add32 (add32 u s0) z) s1
      have HP:=Lib.hid ((HS2.out.FX k _ _ HU.out).drew)
      generalize add32 (add32 (add32 u s0) z) s1=v3 at *
      generalize add32 (add32 u s0) z=v2 at *
      generalize add32 u s0=v1 at *
      clear HS2 HU
      go_wp2_with fail
      go_region
      all_goals
       clear c0 c9 ck fk
       go_wp2_with fail
       go_roundw
       case rel=>exact ⟨k+1,by go_num,by omega,by omega,HP.out⟩
       case measure=>(simp [intOf];try omega)
    ·have MB:k=64:=by omega
     have ab':¬ (k:Int)<64:=by omega
     have hS:=HS.out
     rw [MB] at hS
     have HS:=Lib.hid hS
     have hL:=vW.out
     rw [MB] at hL
     have vW:=Lib.hid hL
     clear hS hL MB hlt hk1 hk2
     have bx:=HS.out.boxed
     have b2:=HS.out.ak.boxed
     have HP:=Lib.hid (HS.out.ak.setRow (aG (kJ W 64)))
     have hz:=vW.out
     have hz1:(aG (kJ W 64)).size=64:=by rw [fO,hz]
     have hz0:gD.size=64:=by unfold gD;rw [fO];decide
     obtain ⟨fin,hfin⟩:∃ fin,kJ W 64=fin:=⟨_,rfl⟩
     rw [hfin] at bx HP hz hz1
     have RZ:=Lib.hid hfin
     clear HW HN
     go_wp2_with (first
      | refine wpList_load_row rfl 341 _ rfl g rfl 341 (aG fin) (0,0) _ bx Tryz.underlying341 rfl (kX hz1) ?_
      | refine wpList_store_row rfl 341 _ _ rfl g0 (aG fin) rfl rfl 341 _ b2 (kX hz1) (by rw [hz1,hz0]) (kV _) ?_)
     refine bodyPost_ret (results_cell_row rfl _ _ g0 341 (aG fin) (0,0) _ rfl HP.out.boxed Tryz.underlying341 rfl (kX hz1)) rfl ?_
     exact ⟨by rw [HWE.out,RZ.out],HP.out.drop.drop⟩
end
end
end Go.Proofs.YtangbdahnmomlaaGreatDoor
