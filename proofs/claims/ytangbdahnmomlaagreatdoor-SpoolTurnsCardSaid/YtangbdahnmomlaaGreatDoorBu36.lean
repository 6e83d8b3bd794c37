/- slices.Sort of numbers of the kind uint64: breakPatterns. Conditions: the lengths fit. slices.Sort of numbers of the kind uint64: what a round of -/
import Derived.Shelf.SlSortCmp.Xorshift
import Derived.Test.YtangbdahnmomlaaGreatDoorBu03
import Derived.Test.YtangbdahnmomlaaGreatDoorBu34
import Derived.Test.YtangbdahnmomlaaGreatDoorBu35
import Derived.Test.YtangbdahnmomlaaGreatDoorXsh
set_option linter.unnecessarySimpa false
set_option linter.unusedSimpArgs false
set_option linter.unusedVariables false
set_option maxHeartbeats 4000000
set_option maxRecDepth 100000
namespace Go.Proofs.YtangbdahnmomlaaGreatDoor
section
open Go.RowKit Go.Sort
section
variable {w0 w:World} {F0:List Nat} {L:List aT} {g T cap:Nat} {d:Array Nat} {J:Array Value}
theorem CX {r len bl:Nat} (hb:bl=bitsLen len) (h8:8≤len) (hl:len≤1000000):r &&& (1 <<< bl - 1)<2*len:=by
 subst hb
 have h1:bitsLen len=Nat.log2 len+1:=by unfold bitsLen;rw [if_neg (by omega)]
 have h2:2 ^ Nat.log2 len≤len:=Nat.log2_self_le (by omega)
 rw [Nat.one_shiftLeft,Nat.and_two_pow_sub_one_eq_mod]
 have:=Nat.mod_lt r (show 2 ^ bitsLen len > 0 from Nat.two_pow_pos _)
 rw [h1,Nat.pow_succ] at this ⊢
 omega
def yY (len r:Nat):Nat:=if r &&& (1 <<< bitsLen len - 1)≥len then (r &&& (1 <<< bitsLen len - 1)) - len else r &&& (1 <<< bitsLen len - 1)
theorem Qd {len r:Nat} (h8:8≤len) (hl:len≤1000000):yY len r<len:=by
 unfold yY
 have:=CX (r:=r) rfl h8 hl
 split <;> omega
def Nn (a len:Nat) (st:Nat×Array Nat) (idx:Nat):Nat×Array Nat:=(xorNextN st.1,swp st.2 idx (a+yY len (xorNextN st.1)))
theorem Qe (a len:Nat) (r:UInt64) (D:Array Nat) (idx:Nat):((breakStep a len (1 <<< bitsLen len) (r,D) idx).1.toNat,(breakStep a len (1 <<< bitsLen len) (r,D) idx).2)=Nn a len (r.toNat,D) idx:=by
 unfold breakStep Nn yY
 simp only [xorNext_toNat]
def kN (a len:Nat) (d:Array Nat):Nat→Nat×Array Nat
 | 0=>(len,d)
 | k+1=>Nn a len (kN a len d k) (a+(len / 4)*2 - 1+k)
theorem Bn {a len:Nat} {st:UInt64×Array Nat} {X:Nat×Array Nat} (h:(st.1.toNat,st.2)=X) (idx:Nat):((breakStep a len (1 <<< bitsLen len) st idx).1.toNat,(breakStep a len (1 <<< bitsLen len) st idx).2)=Nn a len X idx:=by
 subst h
 exact Qe a len st.1 st.2 idx
theorem We {a b:Nat} {d:Array Nat} (h8:8≤b - a) (hl:b - a≤1000000):breakPatterns d a b=(kN a (b - a) d 3).2:=by
 unfold breakPatterns
 simp only
 rw [if_pos h8]
 generalize b - a=len at *
 have h0:(UInt64.ofNat len).toNat=len:=by rw [UInt64.toNat_ofNat'];omega
 simp only [kN]
 generalize a+len / 4*2 - 1=q
 have e1:=Bn (a:=a) (len:=len) (st:=(UInt64.ofNat len,d)) (X:=(len,d)) (by rw [h0]) q
 generalize breakStep a len (1 <<< bitsLen len) (UInt64.ofNat len,d) q=s1 at *
 have e2:=Bn (a:=a) (len:=len) e1 (q+1)
 generalize breakStep a len (1 <<< bitsLen len) s1 (q+1)=s2 at *
 have e3:=Bn (a:=a) (len:=len) e2 (q+2)
 generalize breakStep a len (1 <<< bitsLen len) s2 (q+2)=s3 at *
 rw [Nat.add_zero,← e3]
theorem GR (a len:Nat) (d:Array Nat) (hl:len≤1000000):∀ k,(kN a len d k).1<18446744073709551616
 | 0=>by show len<_;omega
 | k+1=>xorNextN_lt _ (GR a len d hl k)
theorem Bo (a len:Nat) (d:Array Nat):∀ k,(kN a len d k).2.size=d.size
 | 0=>rfl
 | k+1=>by rw [kN,Nn,swp_size,Bo a len d k]
theorem Qf {a b:Nat} {d:Array Nat}:(breakPatterns d a b).size=d.size:=by
 unfold breakPatterns
 simp only
 split
 ·simp only [breakStep,swp_size]
 ·rfl
theorem Qg (q X:Nat) (hX:X<18446744073709551616) (S:Sp w0 F0 w (ae q #[.int .u64 X] T::L)) :
  Calls Tryz.prog 200 #[.pointer (some ⟨q,0,none⟩)] w fun e w2=>e=.returned (.int .u64 (xorNextN X:Nat))∧Sp w0 F0 w2 (ae q #[.int .u64 (xorNextN X:Nat)] T::L) :=
 (AnyF.xorshift_Next Tryz.xsN q 0 X hX w (S.cell 0) (S.free 0)).mono fun _ _ ⟨he,hw⟩=>⟨he,by rw [hw];exact ((S.set (o:=0) (.int .u64 (xorNextN X:Nat))).drewN 3)⟩
theorem Qh (n:Nat) (hn:n≤1000000) (w:World):Calls Tryz.prog 199 #[.int .i64 n] w fun e w2=>e=.returned (.int .u64 ((1 <<< bitsLen n:Nat):Int))∧w2=w:=AnyF.nextPowerOfTwo Tryz.npT n (by omega) w
theorem Yw (x y:Nat) (hx:x<18446744073709551616) (hy:y<18446744073709551616):bits .and .u64 (x:Int) (y:Int)=((x &&& y:Nat):Int):=by
 have hlt:x &&& y<2 ^ 64:=Nat.and_lt_two_pow x hy
 unfold bits
 simp [IntKind.wrap,IntKind.signed,IntKind.bits]
 have e:(BitVec.ofNat 64 x &&& BitVec.ofNat 64 y).toNat=x &&& y:=by
  rw [BitVec.toNat_and,BitVec.toNat_ofNat,BitVec.toNat_ofNat,Nat.mod_eq_of_lt hx,Nat.mod_eq_of_lt hy]
 have e2:((BitVec.ofNat 64 x &&& BitVec.ofNat 64 y).toNat:Int)=((x &&& y:Nat):Int):=by rw [e]
 show ((BitVec.ofNat 64 x &&& BitVec.ofNat 64 y).toNat:Int) % 18446744073709551616=((x &&& y:Nat):Int)
 rw [e2]
 omega
theorem Wh (a b:Nat) (hab:a+8≤b) (hb:b≤d.size) (hn:d.size≤1000000) (S:Sp w0 F0 w (fB g T d J::L)) :
  Calls Tryz.prog 185 #[JI g d.size cap,.int .i64 a,.int .i64 b] w fun e w2=>e=.returned (.tuple #[])∧Sp w0 F0 w2 (fB g T (breakPatterns d a b) J::L):=by
 rw [We (by omega) (by omega)]
 have hn':(d.size:Int)≤1000000:=by omega
 obtain ⟨n,hnn⟩:∃ n,d.size=n:=⟨_,rfl⟩
 have HZ:Hid (∀ k,(kN a (b - a) d k).2.size=n):=fun k=>by rw [Bo,hnn]
 have HX:=Lib.hid (GR a (b - a) d (by omega))
 have HL:Hid (∀ r,yY (b - a) r<b - a):=fun r=>Qd (by omega) (by omega)
 have HB:Hid (∀ r,r &&& (1 <<< bitsLen (b - a) - 1)<2*(b - a)):=fun r=>CX rfl (by omega) (by omega)
 have Xg:Hid (∀ r,yY (b - a) r=if r &&& (1 <<< bitsLen (b - a) - 1)≥b - a then (r &&& (1 <<< bitsLen (b - a) - 1)) - (b - a) else r &&& (1 <<< bitsLen (b - a) - 1)):=fun r=>rfl
 rw [hnn] at hn' hb hn ⊢
 have hab':(a:Int)+8≤b:=by omega
 have hb':(b:Int)≤n:=by omega
 obtain ⟨len,hlen⟩:∃ len:Nat,(b:Int) - a=len:=⟨b - a,by omega⟩
 have IQ:Hid (b - a=len):=by unfold Hid;omega
 have hwl:=wrapN len (by omega)
 have WW:(8:Int)≤len:=by omega
 have hln:(len:Int)≤1000000:=by omega
 have hwu:IntKind.u64.wrap (len:Int)=len:=by rw [IntKind.wrap_u64];omega
 rw [IQ.out] at HZ HX HL HB Xg ⊢
 have HNP:=Lib.hid (Qh len (by omega))
 obtain ⟨pw,hpw⟩:∃ pw:Nat,1 <<< bitsLen len=pw:=⟨_,rfl⟩
 have hp1:1≤pw∧pw≤4294967296:=by
  have h1:bitsLen len=Nat.log2 len+1:=by unfold bitsLen;rw [if_neg (by omega)]
  have h2:2 ^ Nat.log2 len≤len:=Nat.log2_self_le (by omega)
  rw [← hpw,Nat.one_shiftLeft,h1,Nat.pow_succ]
  have:=Nat.two_pow_pos (Nat.log2 len)
  omega
 rw [hpw] at HNP HB Xg
 obtain ⟨q4,hq4⟩:∃ q4:Nat,a+len / 4*2 - 1=q4:=⟨_,rfl⟩
 have Zl:=Lib.hid hq4
 obtain ⟨l4,hl4⟩:∃ l4:Nat,len / 4=l4:=⟨_,rfl⟩
 rw [hl4] at hq4
 have hdiv:(len:Int).tdiv 4=l4:=by rw [Int.tdiv_eq_ediv_of_nonneg (by omega)];omega
 have UH:(len:Int) / 4=l4:=by omega
 have aba:(l4:Int)≤250000∧(2:Int)≤l4∧(l4:Int)*4≤len:=by omega
 obtain ⟨aa5,ae1,aa6⟩:=aba
 have hqI:(a:Int)+(l4:Int)*2 - 1=q4:=by omega
 have hqb:q4+2<b:=by omega
 have hpm:(pw:Int) - 1=((pw - 1:Nat):Int):=by omega
 have bV:Hid (Sp w0 F0 w (fB g T (kN a len d 0).2 J::L)):=S
 have HX0:Hid ((kN a len d 0).1=len):=rfl
 have bX:=Lib.hid (bV.out.box #[.int .u64 len] 271)
 have c1:=bX.out.cell
 clear S hnn hl4
 go_enter Tryz.func185,Tryz.ntmps185
 go_wp2_with fail
 generalize w.alloc (.cells #[.int .u64 len] 271)=w1 at *
 generalize w.heap.size=qx at *
 refine (HNP.out _).mono ?_
 rintro e w2 ⟨rfl,rfl⟩
 clear c1 HNP
 go_wp2_with fail
 go_loopw [9] (fun vi wr=>∃ k:Nat,vi=.int .i64 ((q4+k:Nat):Int)∧k≤3∧Sp w0 F0 wr (ae qx #[.int .u64 (kN a len d k).1] 271::fB g T (kN a len d k).2 J::L)) (fun vi _=>b+1 - (intOf vi).toNat)
 case atStart=>exact ⟨0,by go_num,by omega,by rw [HX0.out];exact bX.out⟩
 case round =>
  clear bX
  obtain ⟨k,rfl,hk,S⟩:=hrel
  have HS:=Lib.hid S
  clear S
  obtain ⟨i,hi⟩:∃ i:Nat,q4+k=i:=⟨_,rfl⟩
  rw [hi]
  by_cases hk3:k<3
  ·have hik:(i:Int)≤(q4:Int)+2:=by omega
   have hiI:(i:Int)<n:=by omega
   have HC:=Lib.hid (Qg qx (kN a len d k).1 (HX.out k) HS.out)
   have ZH:=HX.out (k+1)
   have HEq:Hid (kN a len d (k+1)=(xorNextN (kN a len d k).1,swp (kN a len d k).2 i (a+yY len (xorNextN (kN a len d k).1)))):=by
    unfold Hid
    rw [kN,Nn,Zl.out,hi]
   rw [HEq.out] at ZH
   dsimp only at ZH
   have ZI:=Lib.hid (HZ.out k)
   generalize kN a len d k=st at *
   obtain ⟨X,D⟩:=st
   dsimp only at *
   generalize xorNextN X=Y at *
   have HO:=Lib.hid (Xg.out Y)
   have hol:=HL.out Y
   have hob:=HB.out Y
   have hand:=Yw Y (pw - 1) ZH (by omega)
   obtain ⟨o,ho⟩:∃ o,yY len Y=o:=⟨_,rfl⟩
   obtain ⟨z,hz⟩:∃ z,Y &&& (pw - 1)=z:=⟨_,rfl⟩
   rw [ho] at HEq HO hol
   rw [hz] at HO hob hand
   clear ZH ho hz HL HB Xg HX
   have hwz:=wrapN z (by omega)
   have ae2:IntKind.u64.wrap ((pw - 1:Nat):Int)=((pw - 1:Nat):Int):=by rw [IntKind.wrap_u64];omega
   obtain ⟨p,hp⟩:∃ p:Nat,(a:Int)+o=(p:Int):=⟨a+o,by omega⟩
   have Hp:Hid (a+o=p):=by unfold Hid;omega
   rw [Hp.out] at HEq
   have hwp:=wrapN p (by omega)
   go_wp2_with fail
   refine HC.out.mono ?_
   rintro e w2 ⟨rfl,S⟩
   have AA:=Lib.hid S.ak
   clear S HC HS
   by_cases hzl:len≤z
   ·have hzI:(len:Int)≤z:=by omega
    have hzo:(z:Int) - len=o:=by have:=HO.out;rw [if_pos hzl] at this;omega
    have hwo:=wrapN o (by omega)
    clear hob HO
    obtain ⟨x,hx⟩:∃ x,D[i]! = x:=⟨_,rfl⟩
    have bY:Hid (i<D.size∧D[i]! = x):=⟨by rw [ZI.out];omega,hx⟩
    have hnx:(i:Int)<n:=by omega
    have cx:=AA.out.aO bY.out
    clear hx
    obtain ⟨y,hy⟩:∃ y,D[p]! = y:=⟨_,rfl⟩
    have eU:Hid (p<D.size∧D[p]! = y):=⟨by rw [ZI.out];omega,hy⟩
    have hny:(p:Int)<n:=by omega
    have cy:=AA.out.aO eU.out
    clear hy
    have cx:=AA.out.aO bY.out
    have cy:=AA.out.aO eU.out
    have fx:=AA.out.free i
    have fy:=AA.out.free p
    have gy:=AA.out.kZ (i:=i) (j:=p) (y:=y) bY.out.1 eU.out.1
    have HP:=Lib.hid (AA.out.qF (i:=i) (j:=p) bY.out.1 eU.out.1 bY.out.2 eU.out.2)
    clear AA
    go_wp2_with fail
    go_region
    all_goals
     clear cx cy fx fy gy
     go_wp2_with fail
     go_roundw
     case rel=>exact ⟨k+1,by rw [← hi];go_num,by omega,by rw [HEq.out];exact HP.out.ak⟩
     case measure=>(simp [intOf];try omega)
   ·have hzI:¬ (len:Int)≤z:=by omega
    obtain rfl:o=z:=by have:=HO.out;rw [if_neg hzl] at this;omega
    clear hob HO
    obtain ⟨x,hx⟩:∃ x,D[i]! = x:=⟨_,rfl⟩
    have bY:Hid (i<D.size∧D[i]! = x):=⟨by rw [ZI.out];omega,hx⟩
    have hnx:(i:Int)<n:=by omega
    have cx:=AA.out.aO bY.out
    clear hx
    obtain ⟨y,hy⟩:∃ y,D[p]! = y:=⟨_,rfl⟩
    have eU:Hid (p<D.size∧D[p]! = y):=⟨by rw [ZI.out];omega,hy⟩
    have hny:(p:Int)<n:=by omega
    have cy:=AA.out.aO eU.out
    clear hy
    have cx:=AA.out.aO bY.out
    have cy:=AA.out.aO eU.out
    have fx:=AA.out.free i
    have fy:=AA.out.free p
    have gy:=AA.out.kZ (i:=i) (j:=p) (y:=y) bY.out.1 eU.out.1
    have HP:=Lib.hid (AA.out.qF (i:=i) (j:=p) bY.out.1 eU.out.1 bY.out.2 eU.out.2)
    clear AA
    go_wp2_with fail
    go_region
    all_goals
     clear cx cy fx fy gy
     go_wp2_with fail
     go_roundw
     case rel=>exact ⟨k+1,by rw [← hi];go_num,by omega,by rw [HEq.out];exact HP.out.ak⟩
     case measure=>(simp [intOf];try omega)
  ·obtain rfl:k=3:=by omega
   have hik:¬ (i:Int)≤(a:Int)+(l4:Int)*2+1:=by omega
   go_wp2_with fail
   go_end0
   exact ⟨rfl,HS.out.drop⟩
end
end
section
open Go.RowKit Go.Sort
section
variable {w0 w:World} {F0:List Nat} {L:List aT} {g T cap:Nat} {d:Array Nat} {J:Array Value}
theorem Np {a b pv:Nat}:∀ (k i j:Nat) (D:Array Nat),j+2 - i≤k→D[a]! = pv→a+1≤i→i≤j+2→i≤b→j<b→(a+1≤(partEqLoop aC a i j D).1∧(partEqLoop aC a i j D).1≤b)∧(partEqLoop aC a i j D).2.size=D.size:=by
 intro k
 induction k with
 | zero =>
  intro i j D hk h hi hij hib hj
  rw [xN h (by omega)]
  have h1:=sH (p:=fun x => !aC pv x) (D:=D) (j:=j) _ i (Nat.le_refl _)
  generalize scanUp (fun x => !aC pv x) D j i=i2 at *
  have h2:=sI (p:=fun x=>aC pv x) (D:=D) (i:=i2) (by omega) j
  generalize scanDown (fun x=>aC pv x) D i2 j=j2 at *
  rw [if_pos (by omega)]
  dsimp only
  omega
 | succ k ih =>
  intro i j D hk h hi hij hib hj
  rw [xN h (by omega)]
  have h1:=sH (p:=fun x => !aC pv x) (D:=D) (j:=j) _ i (Nat.le_refl _)
  generalize scanUp (fun x => !aC pv x) D j i=i2 at *
  have h2:=sI (p:=fun x=>aC pv x) (D:=D) (i:=i2) (by omega) j
  generalize scanDown (fun x=>aC pv x) D i2 j=j2 at *
  split
  ·dsimp only
   omega
  ·have:=ih (i2+1) (j2 - 1) (swp D i2 j2) (by omega) (by rw [swp_get (by omega) (by omega)];exact h) (by omega) (by omega) (by omega) (by omega)
   rw [swp_size] at this
   exact this
theorem xP {a b q:Nat} {D:Array Nat} (h1:a≤q) (h2:q<b):(a<(partitionEqual aC D a b q).1∧(partitionEqual aC D a b q).1≤b)∧(partitionEqual aC D a b q).2.size=D.size:=by
 have:=Np (a:=a) (b:=b) (pv:=(swp D a q)[a]!) _ (a+1) (b - 1) (swp D a q) (Nat.le_refl _) rfl (by omega) (by omega) (by omega) (by omega)
 unfold partitionEqual
 rw [swp_size] at this
 omega
theorem GU {a b pv:Nat}:∀ (k i j:Nat) (D:Array Nat),j+2 - i≤k→D[a]! = pv→a+1≤i→i≤j+2→a≤j→j<b→(a≤(partLoop aC a i j D).1∧(partLoop aC a i j D).1<b)∧(partLoop aC a i j D).2.size=D.size:=by
 intro k
 induction k with
 | zero =>
  intro i j D hk h hi hij haj hj
  rw [partLoop_eq h (by omega)]
  have h1:=sH (p:=fun x=>aC x pv) (D:=D) (j:=j) _ i (Nat.le_refl _)
  generalize scanUp (fun x=>aC x pv) D j i=i2 at *
  have h2:=sI (p:=fun x => !aC x pv) (D:=D) (i:=i2) (by omega) j
  generalize scanDown (fun x => !aC x pv) D i2 j=j2 at *
  rw [if_pos (by omega)]
  dsimp only
  omega
 | succ k ih =>
  intro i j D hk h hi hij haj hj
  rw [partLoop_eq h (by omega)]
  have h1:=sH (p:=fun x=>aC x pv) (D:=D) (j:=j) _ i (Nat.le_refl _)
  generalize scanUp (fun x=>aC x pv) D j i=i2 at *
  have h2:=sI (p:=fun x => !aC x pv) (D:=D) (i:=i2) (by omega) j
  generalize scanDown (fun x => !aC x pv) D i2 j=j2 at *
  split
  ·dsimp only
   omega
  ·have:=ih (i2+1) (j2 - 1) (swp D i2 j2) (by omega) (by rw [swp_get (by omega) (by omega)];exact h) (by omega) (by omega) (by omega) (by omega)
   rw [swp_size] at this
   exact this
theorem EB {a b q:Nat} {D:Array Nat} (h1:a≤q) (h2:q<b):(a≤(partition aC D a b q).1∧(partition aC D a b q).1<b)∧(partition aC D a b q).2.2.size=D.size:=by
 rw [Lc (p:=(swp D a q)[a]!) rfl]
 have hs:=swp_size D a q
 generalize hD:swp D a q=E at *
 have h3:=sH (p:=fun x=>aC x E[a]!) (D:=E) (j:=b - 1) _ (a+1) (Nat.le_refl _)
 generalize scanUp (fun x=>aC x E[a]!) E (b - 1) (a+1)=i2 at *
 have h4:=sI (p:=fun x => !aC x E[a]!) (D:=E) (i:=i2) (by omega) (b - 1)
 generalize scanDown (fun x => !aC x E[a]!) E i2 (b - 1)=j2 at *
 split
 ·dsimp only
  rw [swp_size]
  omega
 ·have:=GU (a:=a) (b:=b) (pv:=E[a]!) _ (i2+1) (j2 - 1) (swp E i2 j2) (Nat.le_refl _) (swp_get (by omega) (by omega)) (by omega) (by omega) (by omega) (by omega)
  rw [swp_size] at this
  dsimp only
  rw [swp_size]
  omega
theorem Qi {a b:Nat} {D:Array Nat} (h:a<b):a≤(choosePivot aC D a b).1∧(choosePivot aC D a b).1<b:=choosePivot_holds aC D a b h
theorem wR (a b:Nat):∀ (s i:Nat) (D:Array Nat),(partialIns aC a b s i D).1.size=D.size
 | 0,_,_=>rfl
 | s+1,i,D=>by
  rw [Lb]
  split
  ·rfl
  ·split
   ·rfl
   ·rw [wR a b s]
    split <;> (try rw [EA b _ _ _ (Nat.le_refl _)]) <;> split <;> (try rw [Ez]) <;> rw [swp_size]
theorem rev_size:∀ (k i j:Nat) (D:Array Nat),j - i≤k→(reverseLoop i j D).size=D.size
 | 0,i,j,D,h=>by rw [Bl (by omega)]
 | k+1,i,j,D,h=>by
  by_cases hc:i<j
  ·rw [P8 hc,rev_size k _ _ _ (by omega),swp_size]
  ·rw [Bl hc]
structure gL where
 D:Array Nat
 a:Nat
 b:Nat
 l:Nat
 wb:Bool
 wp:Bool
def gL.D1 (s:gL):Array Nat:=if !s.wb then breakPatterns s.D s.a s.b else s.D
def gL.l1 (s:gL):Nat:=if !s.wb then s.l - 1 else s.l
def gL.c (s:gL):Nat×Hint:=choosePivot aC s.D1 s.a s.b
def gL.D2 (s:gL):Array Nat:=if s.c.2=.decreasing then reverseRange s.D1 s.a s.b else s.D1
def gL.pv (s:gL):Nat:=if s.c.2=.decreasing then (s.b - 1) - (s.c.1 - s.a) else s.c.1
def gL.hint (s:gL):Hint:=if s.c.2=.decreasing then .increasing else s.c.2
def gL.pi (s:gL):Array Nat×Bool:=if s.wb && s.wp && s.hint=.increasing then partialInsertionSort aC s.D2 s.a s.b else (s.D2,false)
def gL.run (s:gL):Array Nat:=pdq aC s.D s.a s.b s.l s.wb s.wp
theorem gL.small (s:gL) (h:s.b - s.a≤12):s.run=insertionSort aC s.D s.a s.b:=by unfold gL.run;rw [pdq,if_pos h]
theorem gL.heap (s:gL) (h:¬ s.b - s.a≤12) (hl:s.l=0):s.run=heapSort aC s.D s.a s.b:=by unfold gL.run;rw [pdq,if_neg h,if_pos hl]
def Qj (a b l1:Nat) (wb wp:Bool) (pi:Array Nat×Bool) (pv:Nat):Array Nat :=
 if pi.2 then pi.1 else
 if a > 0 && !aC pi.1[a - 1]! pi.1[pv]! then
  match partitionEqual aC pi.1 a b pv with
  | (mid,d4)=>if _h:a<mid∧mid≤b then pdq aC d4 mid b l1 wb wp else d4
 else
  match partition aC pi.1 a b pv with
  | (mid,al,d4) =>
   if _h:a≤mid∧mid<b then
    if mid - a<b - mid then
     pdq aC (pdq aC d4 a mid l1 true true) (mid+1) b l1 (decide (mid - a≥(b - a) / 8)) al
    else
     pdq aC (pdq aC d4 (mid+1) b l1 true true) a mid l1 (decide (b - mid≥(b - a) / 8)) al
   else d4
theorem gL.unf (s:gL) (h:¬ s.b - s.a≤12) (hl:¬ s.l=0):s.run=Qj s.a s.b s.l1 s.wb s.wp s.pi s.pv:=by
 unfold gL.run
 rw [pdq,if_neg h,if_neg hl]
 rfl
theorem gL.next (s:gL) (h:¬ s.b - s.a≤12) (hl:¬ s.l=0) (hp:s.a≤s.pv∧s.pv<s.b):s.run =
  if s.pi.2 then s.pi.1 else
  if s.a > 0 && !aC s.pi.1[s.a - 1]! s.pi.1[s.pv]! then
   gL.run ⟨(partitionEqual aC s.pi.1 s.a s.b s.pv).2,(partitionEqual aC s.pi.1 s.a s.b s.pv).1,s.b,s.l1,s.wb,s.wp⟩
  else
   if (partition aC s.pi.1 s.a s.b s.pv).1 - s.a<s.b - (partition aC s.pi.1 s.a s.b s.pv).1 then
    gL.run ⟨gL.run ⟨(partition aC s.pi.1 s.a s.b s.pv).2.2,s.a,(partition aC s.pi.1 s.a s.b s.pv).1,s.l1,true,true⟩,(partition aC s.pi.1 s.a s.b s.pv).1+1,s.b,s.l1,decide ((partition aC s.pi.1 s.a s.b s.pv).1 - s.a≥(s.b - s.a) / 8),(partition aC s.pi.1 s.a s.b s.pv).2.1⟩
   else
    gL.run ⟨gL.run ⟨(partition aC s.pi.1 s.a s.b s.pv).2.2,(partition aC s.pi.1 s.a s.b s.pv).1+1,s.b,s.l1,true,true⟩,s.a,(partition aC s.pi.1 s.a s.b s.pv).1,s.l1,decide (s.b - (partition aC s.pi.1 s.a s.b s.pv).1≥(s.b - s.a) / 8),(partition aC s.pi.1 s.a s.b s.pv).2.1⟩:=by
 have h1:=xP (D:=s.pi.1) hp.1 hp.2
 have h2:=EB (D:=s.pi.1) hp.1 hp.2
 obtain ⟨D,a,b,l,wb,wp⟩:=s
 have hu:=gL.unf ⟨D,a,b,l,wb,wp⟩ h hl
 rw [hu]
 generalize gL.pi ⟨D,a,b,l,wb,wp⟩=pi at *
 generalize gL.pv ⟨D,a,b,l,wb,wp⟩=pv at *
 generalize gL.l1 ⟨D,a,b,l,wb,wp⟩=l1 at *
 clear hu
 unfold Qj
 dsimp only at *
 split
 ·rfl
 ·split
  ·generalize partitionEqual aC pi.1 a b pv=r at *
   obtain ⟨mid,D4⟩:=r
   dsimp only at *
   rw [dif_pos ⟨h1.1.1,h1.1.2⟩]
   rfl
  ·generalize partition aC pi.1 a b pv=r at *
   obtain ⟨mid,al,D4⟩:=r
   dsimp only at *
   rw [dif_pos ⟨h2.1.1,h2.1.2⟩]
   rfl
theorem Bp (a:Nat):∀ (j:Nat) (D:Array Nat),(insInner aC a j D).size=D.size
 | 0,_=>rfl
 | j+1,D=>by
  rw [insInner]
  split
  ·rw [Bp a j,swp_size]
  ·rfl
theorem yZ (a b:Nat):∀ (k i:Nat) (D:Array Nat),b - i≤k→(insOuter aC a b i D).size=D.size
 | 0,i,D,h=>by rw [insOuter,if_neg (by omega)]
 | k+1,i,D,h=>by
  rw [insOuter]
  split
  ·rw [yZ a b k _ _ (by omega),Bp]
  ·rfl
theorem GV (D:Array Nat) (a b:Nat):(insertionSort aC D a b).size=D.size:=yZ a b _ _ _ (Nat.le_refl _)
theorem Ld (hi f:Nat):∀ (k:Nat) (D:Array Nat),(heapBuild aC hi f k D).size=D.size
 | 0,_=>rfl
 | k+1,D=>by rw [heapBuild,Ld hi f k,tN]
theorem Le (f:Nat):∀ (k:Nat) (D:Array Nat),(heapPop aC f k D).size=D.size
 | 0,_=>rfl
 | k+1,D=>by rw [heapPop,Le f k,tN,swp_size]
theorem Nq (D:Array Nat) (a b:Nat):(heapSort aC D a b).size=D.size:=by unfold heapSort;rw [Le,Ld]
theorem gL.EC (s:gL):s.D1.size=s.D.size:=by unfold gL.D1;split;exact Qf;rfl
theorem gL.ED (s:gL):s.D2.size=s.D.size:=by
 unfold gL.D2
 split
 ·unfold reverseRange
  rw [rev_size _ _ _ _ (Nat.le_refl _),s.EC]
 ·exact s.EC
theorem gL.wR (s:gL):s.pi.1.size=s.D.size:=by
 unfold gL.pi
 split
 ·unfold partialInsertionSort
  rw [Go.Proofs.YtangbdahnmomlaaGreatDoor.wR,s.ED]
 ·exact s.ED
theorem gL.UI (s:gL) (h:s.a<s.b):s.a≤s.pv∧s.pv<s.b:=by
 have:=Qi (D:=s.D1) h
 unfold gL.pv gL.c
 split <;> omega
theorem gL.GX:∀ (k:Nat) (s:gL),s.b - s.a≤k→(s.run).size=s.D.size:=by
 intro k
 induction k with
 | zero =>
  intro s hk
  rw [s.small (by omega),GV]
 | succ k ih =>
  intro s hk
  by_cases h1:s.b - s.a≤12
  ·rw [s.small h1,GV]
  by_cases h2:s.l=0
  ·rw [s.heap h1 h2,Nq]
  have hp:=s.UI (by omega)
  have h3:=xP (D:=s.pi.1) hp.1 hp.2
  have h4:=EB (D:=s.pi.1) hp.1 hp.2
  have h5:=s.wR
  rw [s.next h1 h2 hp]
  split
  ·exact h5
  ·split
   ·rw [ih _ (by dsimp only;omega)]
    dsimp only
    omega
   ·split
    ·rw [ih _ (by dsimp only;omega),ih _ (by dsimp only;omega)]
     dsimp only
     omega
    ·rw [ih _ (by dsimp only;omega),ih _ (by dsimp only;omega)]
     dsimp only
     omega
end
end
section
open Go.RowKit Go.Sort
section
variable {w0 w:World} {F0:List Nat} {L:List aT} {g T cap:Nat} {d:Array Nat} {J:Array Value}
theorem abd (n:Nat) (hn:n≤1000000):∀ (k:Nat) (D:Array Nat) (a b l:Nat) (w:World),b - a=k→a≤b→b≤n→D.size=n→l≤1000→Sp w0 F0 w (fB g T D J::L) →
  Calls Tryz.prog 148 #[JI g n cap,.int .i64 a,.int .i64 b,.int .i64 l] w fun e w2=>e=.returned (.tuple #[])∧Sp w0 F0 w2 (fB g T (gL.run ⟨D,a,b,l,true,true⟩) J::L):=by
 intro k
 induction k using Nat.strongRecOn with
 | _ k ih =>
 intro D a b l w hk hab hb hD hl S
 have IH:=Lib.hid ih
 have HS:=Lib.hid S
 have HD:=Lib.hid hD
 obtain ⟨R,hR⟩:∃ R,gL.run ⟨D,a,b,l,true,true⟩=R:=⟨_,rfl⟩
 rw [hR]
 have HR:=Lib.hid hR
 have hn':(n:Int)≤1000000:=by omega
 clear S hD hR ih
 go_enter Tryz.func148,Tryz.ntmps148
 go_wp2_with fail
 go_loopw [1,2,3,8,9] (fun va vb vl vwb vwp wr=>∃ (D:Array Nat) (a b l:Nat) (wb wp:Bool),va=.int .i64 a∧vb=.int .i64 b∧vl=.int .i64 l∧vwb=.bool wb∧vwp=.bool wp∧a≤b∧b≤n∧b - a≤k∧l≤1000∧D.size=n∧gL.run ⟨D,a,b,l,wb,wp⟩=R∧Sp w0 F0 wr (fB g T D J::L)) (fun va vb _ _ _ _=>(intOf vb).toNat - (intOf va).toNat)
 case atStart=>exact ⟨D,a,b,l,true,true,rfl,rfl,rfl,rfl,rfl,hab,hb,by omega,hl,HD.out,HR.out,HS.out⟩
 case round =>
  clear HS HR HD hk hab hb hl
  obtain ⟨D,a,b,l,wb,wp,rfl,rfl,rfl,rfl,rfl,hab,hb,hk,hl,hD,hR,S⟩:=hrel
  have HS:=Lib.hid S
  have HD:=Lib.hid hD
  have HR:=Lib.hid hR
  clear S hD hR
  obtain ⟨len,hlen⟩:∃ len:Nat,(b:Int) - a=len:=⟨b - a,by omega⟩
  have IQ:Hid (b - a=len):=by unfold Hid;omega
  have hwl:=wrapN len (by omega)
  have hbI:(b:Int)≤n:=by omega
  have ae7:(a:Int)≤b:=by omega
  have hlI:(l:Int)≤1000:=by omega
  obtain ⟨wo,rfl⟩:∃ wo:World,wo=wr:=⟨_,rfl⟩
  by_cases h12:len≤12
  ·have abe:(len:Int)≤12:=by omega
   have HW:Hid (insertionSort aC D a b=R):=by unfold Hid;rw [← HR.out,gL.small ⟨D,a,b,l,wb,wp⟩ (by dsimp only;omega)]
   have HC:=Lib.hid (aaW (cap:=cap) a b hab (by rw [HD.out];exact hb) (by rw [HD.out];exact hn) HS.out)
   rw [HD.out,HW.out] at HC
   clear HS
   go_wp2_with fail
   refine HC.out.mono ?_
   rintro e w2 ⟨rfl,S⟩
   have HS2:=Lib.hid S
   clear S HC
   go_wp2_with fail
   first | go_end0 | refine bodyPost_ret (results_none rfl _ _ _) rfl ?_
   exact ⟨rfl,HS2.out⟩
  have abe:¬ (len:Int)≤12:=by omega
  by_cases hl0:l=0
  ·subst hl0
   have HW:Hid (heapSort aC D a b=R):=by unfold Hid;rw [← HR.out,gL.heap ⟨D,a,b,0,wb,wp⟩ (by dsimp only;omega) rfl]
   have HC:=Lib.hid (Yq (cap:=cap) a b (by omega) (by rw [HD.out];exact hb) (by rw [HD.out];exact hn) HS.out)
   rw [HD.out,HW.out] at HC
   clear HS
   go_wp2_with fail
   refine HC.out.mono ?_
   rintro e w2 ⟨rfl,S⟩
   have HS2:=Lib.hid S
   clear S HC
   go_wp2_with fail
   first | go_end0 | refine bodyPost_ret (results_none rfl _ _ _) rfl ?_
   exact ⟨rfl,HS2.out⟩
  have ae8:¬ (l:Int)=0:=by omega
  have hpv:=gL.UI ⟨D,a,b,l,wb,wp⟩ (by dsimp only;omega)
  have HN:=Lib.hid (gL.next ⟨D,a,b,l,wb,wp⟩ (by dsimp only;omega) hl0 hpv)
  rw [HR.out] at HN
  have Aq:Hid (gL.D1 ⟨D,a,b,l,wb,wp⟩=if !wb then breakPatterns D a b else D):=rfl
  have Ry:Hid (gL.l1 ⟨D,a,b,l,wb,wp⟩=if !wb then l - 1 else l):=rfl
  have xm:Hid (gL.D2 ⟨D,a,b,l,wb,wp⟩=if (gL.c ⟨D,a,b,l,wb,wp⟩).2=.decreasing then reverseRange (gL.D1 ⟨D,a,b,l,wb,wp⟩) a b else gL.D1 ⟨D,a,b,l,wb,wp⟩):=rfl
  have Q0:Hid (gL.pv ⟨D,a,b,l,wb,wp⟩=if (gL.c ⟨D,a,b,l,wb,wp⟩).2=.decreasing then (b - 1) - ((gL.c ⟨D,a,b,l,wb,wp⟩).1 - a) else (gL.c ⟨D,a,b,l,wb,wp⟩).1):=rfl
  have Wi:Hid (gL.hint ⟨D,a,b,l,wb,wp⟩=if (gL.c ⟨D,a,b,l,wb,wp⟩).2=.decreasing then .increasing else (gL.c ⟨D,a,b,l,wb,wp⟩).2):=rfl
  have Tx:Hid (gL.pi ⟨D,a,b,l,wb,wp⟩=if wb && wp && decide (gL.hint ⟨D,a,b,l,wb,wp⟩=.increasing) then partialInsertionSort aC (gL.D2 ⟨D,a,b,l,wb,wp⟩) a b else (gL.D2 ⟨D,a,b,l,wb,wp⟩,false)):=rfl
  have HZ1:Hid ((gL.D1 ⟨D,a,b,l,wb,wp⟩).size=n):=(gL.EC _).trans HD.out
  have HZ2:Hid ((gL.D2 ⟨D,a,b,l,wb,wp⟩).size=n):=(gL.ED _).trans HD.out
  have UJ:Hid ((gL.pi ⟨D,a,b,l,wb,wp⟩).1.size=n):=(gL.wR _).trans HD.out
  have HCE:Hid (gL.c ⟨D,a,b,l,wb,wp⟩=choosePivot aC (gL.D1 ⟨D,a,b,l,wb,wp⟩) a b):=rfl
  dsimp only at HN hpv
  have Yx:=Qi (D:=gL.D1 ⟨D,a,b,l,wb,wp⟩) (a:=a) (b:=b) (by omega)
  rw [← HCE.out] at Yx
  generalize gL.pi ⟨D,a,b,l,wb,wp⟩=pi at *
  generalize gL.pv ⟨D,a,b,l,wb,wp⟩=pv at *
  generalize gL.hint ⟨D,a,b,l,wb,wp⟩=hint at *
  generalize gL.D2 ⟨D,a,b,l,wb,wp⟩=D2 at *
  generalize gL.c ⟨D,a,b,l,wb,wp⟩=c at *
  generalize gL.D1 ⟨D,a,b,l,wb,wp⟩=D1 at *
  generalize gL.l1 ⟨D,a,b,l,wb,wp⟩=l1 at *
  obtain ⟨cp,ch⟩:=c
  dsimp only at *
  obtain ⟨hpv1,hpv2⟩:=hpv
  obtain ⟨ac4,ac5⟩:=Yx
  have hl1:l1≤1000:=by have h:=Ry.out;split at h <;> omega
  clear HR
  go_upto_if 35 with (fail)
  go_cut [3] (fun v wx=>v=.int .i64 l1∧Sp w0 F0 wx (fB g T D1 J::L))
  case first =>
   cases wb with
   | true =>
    have h1:Hid (D1=D):=Aq.out
    have h2:l1=l:=Ry.out
    subst h2
    go_wp2_with fail
    go_meet
    exact ⟨rfl,by rw [h1.out];exact HS.out⟩
   | false =>
    have h1:Hid (D1=breakPatterns D a b):=Aq.out
    have h2:l1=l - 1:=Ry.out
    have h2I:(l:Int) - 1=l1:=by omega
    have ae':=wrapN l1 (by omega)
    have HC:=Lib.hid (Wh (cap:=cap) a b (by omega) (by rw [HD.out];exact hb) (by rw [HD.out];exact hn) HS.out)
    rw [HD.out,← h1.out] at HC
    clear h2 HS
    go_wp2_with fail
    refine HC.out.mono ?_
    rintro e w2 ⟨rfl,S⟩
    have HS2:=Lib.hid S
    clear S HC
    go_wp2_with fail
    go_meet
    exact ⟨rfl,HS2.out⟩
  case rest =>
   obtain ⟨rfl,S⟩:=hcut
   have HS2:=Lib.hid S
   clear S HS Aq Ry
   have HC:=Lib.hid (aa4 (cap:=cap) a b (by omega) (by rw [HZ1.out];exact hb) (by rw [HZ1.out];exact hn) HS2.out)
   rw [HZ1.out,← HCE.out] at HC
   clear HS2 HCE
   go_wp2_with fail
   refine HC.out.mono ?_
   rintro e w2 ⟨rfl,S⟩
   have bI:=Lib.hid S
   clear S HC
   dsimp only
   go_upto_if 50 with (fail)
   go_cut [11,12] (fun v u wx=>v=.int .i64 pv∧u=.int .i64 (CW hint)∧Sp w0 F0 wx (fB g T D2 J::L))
   case first =>
    cases ch with
    | decreasing =>
     have h1:Hid (D2=reverseRange D1 a b):=xm.out
     have h2:pv=(b - 1) - (cp - a):=Q0.out
     have h3:hint=.increasing:=Wi.out
     subst h3
     have HC:=Lib.hid (aaY (cap:=cap) a b (by omega) (by rw [HZ1.out];exact hb) (by rw [HZ1.out];exact hn) bI.out)
     rw [HZ1.out,← h1.out] at HC
     have h2I:(b:Int) - 1 - ((cp:Int) - a)=pv:=by omega
     have afa:(a:Int)≤cp:=by omega
     have afb:(cp:Int)<b:=by omega
     have afc:=wrapN pv (by omega)
     clear bI h2 xm Q0 Wi Tx
     dsimp only [CW]
     go_wp2_with fail
     refine HC.out.mono ?_
     rintro e w2 ⟨rfl,S⟩
     have gP:=Lib.hid S
     clear S HC
     go_wp2_with fail
     go_meet
     exact ⟨rfl,rfl,gP.out⟩
    | unknown =>
     have h1:Hid (D2=D1):=xm.out
     have h2:pv=cp:=Q0.out
     have h3:hint=.unknown:=Wi.out
     subst h2 h3
     clear xm Q0 Wi Tx
     dsimp only [CW]
     go_wp2_with fail
     go_meet
     exact ⟨rfl,rfl,by rw [h1.out];exact bI.out⟩
    | increasing =>
     have h1:Hid (D2=D1):=xm.out
     have h2:pv=cp:=Q0.out
     have h3:hint=.increasing:=Wi.out
     subst h2 h3
     clear xm Q0 Wi Tx
     dsimp only [CW]
     go_wp2_with fail
     go_meet
     exact ⟨rfl,rfl,by rw [h1.out];exact bI.out⟩
   case rest =>
    obtain ⟨rfl,rfl,S⟩:=hcut
    have gP:=Lib.hid S
    clear S bI xm Q0 Wi
    obtain ⟨cnd,hcnd⟩:∃ x,(wb && wp && decide (hint=.increasing))=x:=⟨_,rfl⟩
    rw [hcnd] at Tx
    have WY:=Lib.hid hcnd
    clear hcnd
    go_upto_region 15 with (fail)
    go_cut [68] (fun v wx=>v=.bool cnd∧Sp w0 F0 wx (fB g T D2 J::L))
    case first =>
     cases wb <;> cases wp <;> cases hint <;> dsimp only [CW]
     all_goals
      go_wp2_with fail
      go_meet
      exact ⟨by rw [← WY.out];rfl,gP.out⟩
    case rest =>
     obtain ⟨rfl,S⟩:=hcut
     have gB:=Lib.hid S
     clear S gP WY
     go_upto_if 68 with (fail)
     go_cut [10] (fun v wx=>v=.int .i64 len∧pi.2=false∧Sp w0 F0 wx (fB g T pi.1 J::L))
     case first =>
      cases cnd with
      | false =>
       have h1:pi=(D2,false):=Tx.out
       subst h1
       clear Tx
       go_wp2_with fail
       go_meet
       exact ⟨rfl,by simp,gB.out⟩
      | true =>
       have h1:Hid (pi=partialInsertionSort aC D2 a b):=Tx.out
       have HC:=Lib.hid (Qc (cap:=cap) a b (by omega) (by rw [HZ2.out];exact hb) (by rw [HZ2.out];exact hn) gB.out)
       rw [HZ2.out,← h1.out] at HC
       clear gB Tx h1
       obtain ⟨pi1,pi2⟩:=pi
       dsimp only at *
       cases pi2 with
       | false =>
        go_wp2_with fail
        refine HC.out.mono ?_
        rintro e w2 ⟨rfl,S⟩
        have fG:=Lib.hid S
        clear S HC
        go_wp2_with fail
        go_meet
        exact ⟨rfl,by simp,fG.out⟩
       | true =>
        have HW:Hid (R=pi1):=by unfold Hid;rw [HN.out,if_pos rfl]
        go_wp2_with fail
        refine HC.out.mono ?_
        rintro e w2 ⟨rfl,S⟩
        have fG:=Lib.hid S
        clear S HC
        go_wp2_with fail
        first | go_end0 | refine bodyPost_ret (results_none rfl _ _ _) rfl ?_
        exact ⟨rfl,by rw [HW.out];exact fG.out⟩
     case rest =>
      obtain ⟨rfl,hp2,S⟩:=hcut
      have fG:=Lib.hid S
      obtain ⟨D3,pi2⟩:=pi
      dsimp only at *
      subst hp2
      rw [if_neg (by decide)] at HN
      clear S gB Tx
      obtain ⟨Sn,Wj⟩:∃ x,(decide (a > 0) && !aC D3[a - 1]! D3[pv]!)=x:=⟨_,rfl⟩
      rw [Wj] at HN
      have nQ:=Lib.hid Wj
      clear Wj
      go_upto_region 17 with (fail)
      go_cut [87] (fun v wx=>v=.bool Sn∧Sp w0 F0 wx (fB g T D3 J::L))
      case first =>
       by_cases ha0:0<a
       ·have afe:(0:Int)<a:=by omega
        obtain ⟨m,hm⟩:∃ m:Nat,(a:Int) - 1=(m:Int):=⟨a - 1,by omega⟩
        have Hm:Hid (a - 1=m):=by unfold Hid;omega
        have V6:=wrapN m (by omega)
        obtain ⟨x,hx⟩:∃ x,D3[m]! = x:=⟨_,rfl⟩
        have bY:Hid (m<D3.size∧D3[m]! = x):=⟨by rw [UJ.out];omega,hx⟩
        have hnx:(m:Int)<n:=by omega
        have cx:=fG.out.aO bY.out
        clear hx
        obtain ⟨y,hy⟩:∃ y,D3[pv]! = y:=⟨_,rfl⟩
        have eU:Hid (pv<D3.size∧D3[pv]! = y):=⟨by rw [UJ.out];omega,hy⟩
        have hny:(pv:Int)<n:=by omega
        have cy:=fG.out.aO eU.out
        clear hy
        by_cases hxy:x<y
        ·have hd:=decide_eq_true hxy
         have HW:Hid (Sn=false):=by unfold Hid;rw [← nQ.out,Hm.out,bY.out.2,eU.out.2];simp [aC,hxy]
         clear nQ
         refine au (S:=fun wx=>Sp w0 F0 wx (fB g T D3 J::L)∧(wx.cell? ⟨g,m,none⟩=some (.int .u64 x))∧(wx.cell? ⟨g,pv,none⟩=some (.int .u64 y))) (by kernel_rfl) (by kernel_rfl) ⟨(fG.out).drew,cx,cy⟩ ?_
         repeat
          refine Exists.intro ?_ (And.intro (fun wS hS K hK=>?_) (And.intro ?_ ?_))
          rotate_left 1
          ·obtain ⟨hS1,hS2,eG⟩:=hS
           first
            | (refine ah rfl ?_;simp only [Act.put,List.setIfInBounds_toArray,List.set_cons_zero,List.set_cons_succ];exact hK.out _ ⟨hS1,hS2,eG⟩)
            | (refine ag rfl ?_;go_simp;exact hK.out _ ⟨hS1,hS2,eG⟩)
            | (refine ag rfl ?_;go_simp;go_at_call 189;refine (dX x y hS1).mono ?_;rw [hd];rintro e mZ ⟨rfl,bS⟩;exact hK.out _ ⟨bS,bS.aO bY.out,bS.aO eU.out⟩)
          ·rfl
         intro wE hE
         have aX:=Lib.hid hE.1
         clear hE
         clear cx cy hd
         go_wp2_with fail
         go_meet
         exact ⟨by rw [HW.out],aX.out⟩
        ·have hd:=decide_eq_false hxy
         have HW:Hid (Sn=true):=by unfold Hid;rw [← nQ.out,Hm.out,bY.out.2,eU.out.2];simp [aC,hxy,ha0]
         clear nQ
         refine au (S:=fun wx=>Sp w0 F0 wx (fB g T D3 J::L)∧(wx.cell? ⟨g,m,none⟩=some (.int .u64 x))∧(wx.cell? ⟨g,pv,none⟩=some (.int .u64 y))) (by kernel_rfl) (by kernel_rfl) ⟨(fG.out).drew,cx,cy⟩ ?_
         repeat
          refine Exists.intro ?_ (And.intro (fun wS hS K hK=>?_) (And.intro ?_ ?_))
          rotate_left 1
          ·obtain ⟨hS1,hS2,eG⟩:=hS
           first
            | (refine ah rfl ?_;simp only [Act.put,List.setIfInBounds_toArray,List.set_cons_zero,List.set_cons_succ];exact hK.out _ ⟨hS1,hS2,eG⟩)
            | (refine ag rfl ?_;go_simp;exact hK.out _ ⟨hS1,hS2,eG⟩)
            | (refine ag rfl ?_;go_simp;go_at_call 189;refine (dX x y hS1).mono ?_;rw [hd];rintro e mZ ⟨rfl,bS⟩;exact hK.out _ ⟨bS,bS.aO bY.out,bS.aO eU.out⟩)
          ·rfl
         intro wE hE
         have aX:=Lib.hid hE.1
         clear hE
         clear cx cy hd
         go_wp2_with fail
         go_meet
         exact ⟨by rw [HW.out],aX.out⟩
       ·obtain rfl:a=0:=by omega
        have HW:Hid (Sn=false):=by unfold Hid;rw [← nQ.out];rfl
        clear nQ
        refine au (S:=fun wx=>Sp w0 F0 wx (fB g T D3 J::L)) (by kernel_rfl) (by kernel_rfl) (fG.out).drew ?_
        repeat
         refine Exists.intro ?_ (And.intro (fun wS hS K hK=>?_) (And.intro ?_ ?_))
         rotate_left 1
         ·have hS1:=hS
          first
           | (refine ah rfl ?_;simp only [Act.put,List.setIfInBounds_toArray,List.set_cons_zero,List.set_cons_succ];exact hK.out _ hS1)
           | (refine ag rfl ?_;go_simp;exact hK.out _ hS1)
         ·rfl
        intro wE hE
        have aX:=Lib.hid hE
        clear hE
        go_wp2_with fail
        go_meet
        exact ⟨by rw [HW.out],aX.out⟩
      case rest =>
       obtain ⟨rfl,S⟩:=hcut
       have jN:=Lib.hid S
       clear S fG nQ
       cases Sn with
       | true =>
        rw [if_pos rfl] at HN
        have HC:=Lib.hid (Tv (cap:=cap) a b pv hpv1 hpv2 (by rw [UJ.out];exact hb) (by rw [UJ.out];exact hn) jN.out)
        have hin:=xP (D:=D3) hpv1 hpv2
        rw [UJ.out] at HC hin
        generalize partitionEqual aC D3 a b pv=r at *
        obtain ⟨mid,D4⟩:=r
        dsimp only at *
        obtain ⟨⟨hm1,hm2⟩,NQ⟩:=hin
        have H4:=Lib.hid NQ
        clear jN NQ
        go_wp2_with fail
        refine HC.out.mono ?_
        rintro e w8 ⟨rfl,S⟩
        have tV:=Lib.hid S
        clear S HC
        go_wp2_with fail
        go_roundw
        case rel=>exact ⟨D4,mid,b,l1,wb,wp,rfl,rfl,rfl,rfl,rfl,by omega,by omega,by omega,by omega,H4.out,HN.out.symm,tV.out⟩
        case measure=>(simp [intOf];try omega)
       | false =>
        rw [if_neg (by decide)] at HN
        have HC:=Lib.hid (Yu (cap:=cap) a b pv hpv1 hpv2 (by rw [UJ.out];exact hb) (by rw [UJ.out];exact hn) jN.out)
        have hin:=EB (D:=D3) hpv1 hpv2
        rw [UJ.out] at HC hin
        generalize partition aC D3 a b pv=r at *
        obtain ⟨mid,al,D4⟩:=r
        dsimp only at *
        obtain ⟨⟨hm1,hm2⟩,NQ⟩:=hin
        have H4:=Lib.hid NQ
        clear jN NQ
        go_wp2_with fail
        refine HC.out.mono ?_
        rintro e w8 ⟨rfl,S⟩
        have tV:=Lib.hid S
        clear S HC
        obtain ⟨q8,hq8⟩:∃ q8:Nat,(b - a) / 8=q8:=⟨_,rfl⟩
        rw [hq8] at HN
        rw [IQ.out] at hq8
        have hdiv:(len:Int).tdiv 8=q8:=by rw [Int.tdiv_eq_ediv_of_nonneg (by omega)];omega
        have UH:(len:Int) / 8=q8:=by omega
        have hwq:=wrapN q8 (by omega)
        have hmI:(mid:Int)<b:=by omega
        have aff:(a:Int)≤mid:=by omega
        obtain ⟨lf,hlf⟩:∃ lf:Nat,(mid:Int) - a=(lf:Int):=⟨mid - a,by omega⟩
        have Hlf:Hid (mid - a=lf):=by unfold Hid;omega
        have afh:=wrapN lf (by omega)
        obtain ⟨rt,hrt⟩:∃ rt:Nat,(b:Int) - mid=(rt:Int):=⟨b - mid,by omega⟩
        have Hrt:Hid (b - mid=rt):=by unfold Hid;omega
        have afj:=wrapN rt (by omega)
        obtain ⟨GY,ac7⟩:∃ GY:Nat,(mid:Int)+1=(GY:Int):=⟨mid+1,by omega⟩
        have Yy:Hid (mid+1=GY):=by unfold Hid;omega
        have abg:=wrapN GY (by omega)
        rw [Hlf.out,Hrt.out,Yy.out] at HN
        clear hq8
        by_cases hlr:lf<rt
        ·have abh:(lf:Int)<rt:=by omega
         rw [if_pos hlr] at HN
         have HZ9:Hid ((gL.run ⟨D4,a,mid,l1,true,true⟩).size=n):=(gL.GX _ _ (Nat.le_refl _)).trans H4.out
         have Yz:=Lib.hid (fun (w':World) (S':Sp w0 F0 w' (fB g T D4 J::L))=>IH.out (mid - a) (by omega) D4 a mid l1 w' rfl (by omega) (by omega) H4.out (by omega) S')
         go_wp2_with fail
         refine (Yz.out _ tV.out).mono ?_
         rintro e w9 ⟨rfl,S⟩
         have uj:=Lib.hid S
         clear S tV Yz
         go_wp2_with fail
         go_roundw
         case rel=>exact ⟨_,GY,b,l1,decide (lf≥q8),al,rfl,rfl,rfl,by simp,rfl,by omega,by omega,by omega,by omega,HZ9.out,HN.out.symm,uj.out⟩
         case measure=>(simp [intOf];try omega)
        ·have abh:¬ (lf:Int)<rt:=by omega
         rw [if_neg hlr] at HN
         have HZ9:Hid ((gL.run ⟨D4,GY,b,l1,true,true⟩).size=n):=(gL.GX _ _ (Nat.le_refl _)).trans H4.out
         have Yz:=Lib.hid (fun (w':World) (S':Sp w0 F0 w' (fB g T D4 J::L))=>IH.out (b - GY) (by omega) D4 GY b l1 w' rfl (by omega) (by omega) H4.out (by omega) S')
         go_wp2_with fail
         refine (Yz.out _ tV.out).mono ?_
         rintro e w9 ⟨rfl,S⟩
         have uj:=Lib.hid S
         clear S tV Yz
         go_wp2_with fail
         go_roundw
         case rel=>exact ⟨_,a,mid,l1,decide (rt≥q8),al,rfl,rfl,rfl,by simp,rfl,by omega,by omega,by omega,by omega,HZ9.out,HN.out.symm,uj.out⟩
         case measure=>(simp [intOf];try omega)
end
end
section
open Go.RowKit Go.Sort
def mK (l:List Nat):List Nat:=l.mergeSort (fun x y=>decide (x≤y))
theorem JK (D:Array Nat) (l:Nat):(gL.run ⟨D,0,D.size,l,true,true⟩).toList=mK D.toList:=by
 have h:=pdq_sorts aC K7 D 0 D.size l true true (Nat.zero_le _) (Nat.le_refl _) (.inl rfl)
 have:=sorted_unique_holds K7 (fun x y h1 h2=>by simp [aC] at h1 h2;omega) D (gL.run ⟨D,0,D.size,l,true,true⟩) h.1 h.2
 rw [this]
 unfold mK
 congr 1
 funext x y
 have h:(y<x)↔¬ (x≤y):=by omega
 by_cases hx:x≤y
 ·simp [aC,hx]
 ·simp [aC,hx,h.2 hx]
theorem GZ {l m:List Nat} (h:l.Perm m) (hm:m.Pairwise fun x y=>x≤y):mK l=m:=by
 refine List.Perm.eq_of_pairwise (le:=fun a b:Nat=>decide (a≤b)=true) (fun a b _ _ h1 h2=>?_) (List.pairwise_mergeSort (fun a b c h1 h2=>by simp at *;omega) (fun a b=>by simp;omega) l) ?_ ((List.mergeSort_perm _ _).trans h)
 ·simp at h1 h2
  omega
 ·simpa using hm
section
variable {w0 w:World} {F0:List Nat} {L:List aT} {g T cap:Nat} {J:Array Value}
theorem YA (l:List Nat) (hn:l.length≤1000000) (S:Sp w0 F0 w (fB g T l.toArray J::L)) :
  Calls Tryz.prog 108 #[JI g l.length cap] w fun e w2=>e=.returned (.tuple #[])∧Sp w0 F0 w2 (fB g T (mK l).toArray J::L):=by
 have HS:=Lib.hid S
 obtain ⟨n,hnn⟩:∃ n,l.length=n:=⟨_,rfl⟩
 have HB:=Lib.hid (Tryz.bits_Len n w (by omega) (by omega))
 rw [Int.toNat_natCast] at HB
 have hbl:Lib.bitLen n≤1000:=by
  have h:=bitLen_eq n (by omega)
  rw [h]
  exact Nat.le_trans ((bitsLen_le_iff n 62).2 (by omega)) (by decide)
 have HP:=Lib.hid (abd (cap:=cap) n (by omega) n l.toArray 0 n (Lib.bitLen n) w (by omega) (by omega) (by omega) (by simpa using hnn) hbl HS.out)
 have HR:Hid (gL.run ⟨l.toArray,0,n,Lib.bitLen n,true,true⟩=(mK l).toArray):=by
  have h:=JK l.toArray (Lib.bitLen n)
  unfold Hid
  rw [← hnn]
  have e:l.toArray.size=l.length:=by simp
  rw [e] at h
  rw [← Array.toArray_toList (xs:=gL.run ⟨l.toArray,0,l.length,Lib.bitLen l.length,true,true⟩),← hnn] at *
  rw [h]
 rw [HR.out] at HP
 rw [hnn]
 have hn':(n:Int)≤1000000:=by omega
 have hwu:IntKind.u64.wrap (n:Int)=n:=by rw [IntKind.wrap_u64];omega
 generalize Lib.bitLen n=bl at *
 clear S HS hbl hn hnn
 go_enter Tryz.func108,Tryz.ntmps108
 go_wp2_with fail
 refine HB.out.mono ?_
 rintro e w2 ⟨rfl,rfl⟩
 go_wp2_with fail
 refine HP.out.mono ?_
 rintro e w2 ⟨rfl,S⟩
 have HS2:=Lib.hid S
 clear S HP
 go_wp2_with fail
 go_end0
 exact ⟨rfl,HS2.out⟩
end
end
end Go.Proofs.YtangbdahnmomlaaGreatDoor
