/- slices.Sort of numbers of the kind uint64: heapSort. Conditions: the lengths fit. slices.Sort of numbers of the kind uint64: partitionEqual; the -/
import Derived.Test.YtangbdahnmomlaaGreatDoorBu33
set_option linter.unnecessarySimpa false
set_option linter.unusedSimpArgs false
set_option linter.unusedVariables false
set_option maxHeartbeats 4000000
set_option maxRecDepth 100000
namespace Go.Proofs.YtangbdahnmomlaaGreatDoor
section
open Go.RowKit Go.Sort
section
variable {w0 w:World} {F0:List Nat} {L:List aT} {g T cap:Nat} {d:Array Nat} {J:Array Value}
theorem uT (hi f:Nat):∀ (k r:Nat) (D:Array Nat),hi - r≤k→(siftDown aC hi f r D).size=D.size
 | k,r,D,hk=>by
  rw [siftDown]
  split
  ·rfl
  ·have:0<k:=by omega
   obtain ⟨k,rfl⟩:∃ j,k=j+1:=⟨k - 1,by omega⟩
   split
   ·split
    ·rfl
    ·split
     ·rw [uT hi f k _ _ (by omega),swp_size]
     ·rfl
   ·split
    ·rfl
    ·rw [uT hi f k _ _ (by omega),swp_size]
theorem tN (hi f r:Nat) (D:Array Nat):(siftDown aC hi f r D).size=D.size:=uT hi f _ r D (Nat.le_refl _)
theorem Yq (a b:Nat) (hab:a<b) (hb:b≤d.size) (hn:d.size≤1000000) (S:Sp w0 F0 w (fB g T d J::L)) :
  Calls Tryz.prog 184 #[JI g d.size cap,.int .i64 a,.int .i64 b] w fun e w2=>e=.returned (.tuple #[])∧Sp w0 F0 w2 (fB g T (heapSort aC d a b) J::L):=by
 have HS:=Lib.hid S
 obtain ⟨R,hR⟩:∃ R,heapSort aC d a b=R:=⟨_,rfl⟩
 rw [hR]
 obtain ⟨m1,hm1⟩:∃ m1:Nat,b - a=m1+1:=⟨b - a - 1,by omega⟩
 obtain ⟨m,hm⟩:∃ m:Nat,(b:Int) - a=(m:Int):=⟨b - a,by omega⟩
 have hmm:m=m1+1:=by omega
 have HM:Hid (b - a=m):=by unfold Hid;omega
 unfold heapSort at hR
 rw [HM.out] at hR
 obtain ⟨X,hX⟩:∃ X,heapBuild aC m a ((m - 1) / 2+1) d=X:=⟨_,rfl⟩
 rw [hX] at hR
 have HB:=Lib.hid hX
 have HR:=Lib.hid hR
 have hn':(d.size:Int)≤1000000:=by omega
 obtain ⟨n,hnn⟩:∃ n,d.size=n:=⟨_,rfl⟩
 rw [hnn] at hn' hb hn ⊢
 have hb':(b:Int)≤n:=by omega
 have ham:a+m≤n:=by omega
 have hm0:1≤m:=by omega
 have hm':(m:Int)≤n:=by omega
 have aeL:(1:Int)≤m:=by omega
 have V6:=wrapN m (by omega)
 have HN:=Lib.hid hnn
 clear S hnn hR hX hmm hm1
 go_enter Tryz.func184,Tryz.ntmps184
 go_wp2_with fail
 go_loopw [9] (fun vi wr=>∃ (k:Nat) (z:Int) (D:Array Nat),vi=.int .i64 z∧z=(k:Int) - 1∧k≤m∧D.size=n∧heapBuild aC m a k D=X∧Sp w0 F0 wr (fB g T D J::L)) (fun vi _=>(intOf vi+1).toNat)
 case atStart=>exact ⟨(m - 1) / 2+1,_,d,rfl,by omega,by omega,HN.out,HB.out,HS.out⟩
 case round =>
  clear HS HB
  obtain ⟨k,z,D,rfl,hz,hk,hD,hI,S⟩:=hrel
  have HS:=Lib.hid S
  have HI:=Lib.hid hI
  have HD:=Lib.hid hD
  have HZ:=Lib.hid hz
  clear S hI hD
  cases k with
  | succ k =>
   obtain rfl:z=(k:Int):=by omega
   have HC:=Lib.hid (UD (cap:=cap) k m a (by omega) (by rw [HD.out];exact ham) (by rw [HD.out];exact hn) HS.out)
   rw [HD.out] at HC
   have HO:Hid (heapBuild aC m a k (siftDown aC m a k D)=X):=HI.out
   have hk':(k:Int)≤n:=by omega
   clear hz HZ HI HS
   go_wp2_with fail
   refine HC.out.mono ?_
   rintro e w2 ⟨rfl,S⟩
   have HS:=Lib.hid S
   clear S HC
   go_wp2_with fail
   go_roundw
   case rel=>exact ⟨k,_,_,rfl,by go_num,by omega,by rw [tN];exact HD.out,HO.out,HS.out⟩
   case measure=>(simp [intOf];try omega)
  | zero =>
   obtain rfl:z = -1:=by omega
   have HX:Hid (D=X):=HI.out
   rw [← HX.out] at HR
   clear hz HZ HI HX hk
   go_wp2_with fail
   go_loopw [10] (fun vi wr=>∃ (k:Nat) (z:Int) (E:Array Nat),vi=.int .i64 z∧z=(k:Int) - 1∧k≤m∧E.size=n∧heapPop aC a k E=R∧Sp w0 F0 wr (fB g T E J::L)) (fun vi _=>(intOf vi+1).toNat)
   case atStart=>exact ⟨m,_,D,rfl,rfl,Nat.le_refl _,HD.out,HR.out,HS.out⟩
   case round =>
    clear HS HR HD
    obtain ⟨k,z,D,rfl,hz,hk,hD,hI,S⟩:=hrel
    have HS:=Lib.hid S
    have HI:=Lib.hid hI
    have HD:=Lib.hid hD
    have HZ:=Lib.hid hz
    clear S hI hD
    cases k with
    | succ k =>
     obtain rfl:z=(k:Int):=by omega
     have hk':(k:Int)≤n:=by omega
     clear hz HZ
     obtain ⟨p,hp⟩:∃ p:Nat,(a:Int)+k=(p:Int):=⟨a+k,by omega⟩
     have Hp:Hid (a+k=p):=by unfold Hid;omega
     have hwp:=wrapN p (by omega)
     obtain ⟨x,hx⟩:∃ x,D[a]! = x:=⟨_,rfl⟩
     have bY:Hid (a<D.size∧D[a]! = x):=⟨by rw [HD.out];omega,hx⟩
     have hnx:(a:Int)<n:=by omega
     have cx:=HS.out.aO bY.out
     clear hx
     obtain ⟨y,hy⟩:∃ y,D[p]! = y:=⟨_,rfl⟩
     have eU:Hid (p<D.size∧D[p]! = y):=⟨by rw [HD.out];omega,hy⟩
     have hny:(p:Int)<n:=by omega
     have cy:=HS.out.aO eU.out
     clear hy
     have cx:=HS.out.aO bY.out
     have cy:=HS.out.aO eU.out
     have fx:=HS.out.free a
     have fy:=HS.out.free p
     have gy:=HS.out.kZ (i:=a) (j:=p) (y:=y) bY.out.1 eU.out.1
     have HP:=Lib.hid (HS.out.qF (i:=a) (j:=p) bY.out.1 eU.out.1 bY.out.2 eU.out.2)
     have HO:Hid (heapPop aC a k (siftDown aC k a 0 (swp D a p))=R):=by unfold Hid;rw [← HI.out,← Hp.out];rfl
     have HE:Hid ((swp D a p).size=n):=by unfold Hid;rw [swp_size];exact HD.out
     have HC:Hid (∀ w',Sp w0 F0 w' (fB g T (swp D a p) J::L)→_):=Lib.hid (fun w' S'=>UD (w:=w') (cap:=cap) 0 k a (by omega) (by rw [HE.out];omega) (by rw [HE.out];exact hn) S')
     rw [HE.out] at HC
     clear HI HS
     go_wp2_with fail
     go_region
     all_goals
      clear cx cy fx fy
      go_wp2_with fail
      refine (HC.out _ HP.out).mono ?_
      rintro e w2 ⟨rfl,S⟩
      have HS:=Lib.hid S
      clear S HC HP
      go_wp2_with fail
      go_roundw
      case rel=>exact ⟨k,_,_,rfl,by go_num,by omega,by rw [tN];exact HE.out,HO.out,HS.out⟩
      case measure=>(simp [intOf];try omega)
    | zero =>
     obtain rfl:z = -1:=by omega
     have HX:Hid (D=R):=HI.out
     clear hz HZ hk
     go_wp2_with fail
     first | go_end0 | refine bodyPost_ret (results_none rfl _ _ _) rfl ?_
     exact ⟨rfl,by rw [← HX.out];exact HS.out⟩
end
end
section
open Go.RowKit Go.Sort
section
variable {w0 w:World} {F0:List Nat} {L:List aT} {g T cap:Nat} {d:Array Nat} {J:Array Value}
theorem K8 {p:Nat→Bool} {D:Array Nat} {j i:Nat} (h:i≤j) (hp:p D[i]! = true):scanUp p D j i=scanUp p D j (i+1):=by
 conv=>lhs;rw [scanUp]
 rw [if_pos (by simp [h,hp])]
theorem og {p:Nat→Bool} {D:Array Nat} {j i:Nat} (h:¬ (i≤j∧p D[i]! = true)):scanUp p D j i=i:=by
 rw [scanUp,if_neg (by simpa using h)]
theorem K9 {p:Nat→Bool} {D:Array Nat} {j i:Nat} (h0:1≤j) (h:i≤j) (hp:p D[j]! = true):scanDown p D i j=scanDown p D i (j - 1):=by
 obtain ⟨k,rfl⟩:∃ k,j=k+1:=⟨j - 1,by omega⟩
 rw [scanDown,if_pos (by simp [h,hp])]
 rfl
theorem qG {p:Nat→Bool} {D:Array Nat} {j i:Nat} (h:¬ (i≤j∧p D[j]! = true)):scanDown p D i j=j:=by
 cases j with
 | zero=>rfl
 | succ k=>rw [scanDown,if_neg (by simpa using h)]
theorem sH {p:Nat→Bool} {D:Array Nat} {j:Nat}:∀ (k i:Nat),j+1 - i≤k→i≤scanUp p D j i∧scanUp p D j i≤max i (j+1)
 | 0,i,hk=>by
  rw [og (fun h=>by omega)]
  omega
 | k+1,i,hk=>by
  by_cases hc:i≤j∧p D[i]! = true
  ·rw [K8 hc.1 hc.2]
   have:=sH (p:=p) (D:=D) (j:=j) k (i+1) (by omega)
   omega
  ·rw [og hc]
   omega
theorem sI {p:Nat→Bool} {D:Array Nat} {i:Nat} (h0:1≤i):∀ j,scanDown p D i j≤j∧min i (j+1)≤scanDown p D i j+1
 | 0=>by
  rw [scanDown]
  omega
 | j+1=>by
  by_cases hc:i≤j+1∧p D[j+1]! = true
  ·rw [K9 (by omega) hc.1 hc.2]
   have:=sI (p:=p) (D:=D) h0 j
   simp only [Nat.add_sub_cancel]
   omega
  ·rw [qG hc]
   omega
theorem swp_get {D:Array Nat} {i j a:Nat} (hi:a≠i) (hj:a≠j):(swp D i j)[a]! = D[a]!:=by
 unfold swp
 simp [Array.getElem!_eq_getD,Array.getD_eq_getD_getElem?,Array.getElem?_setIfInBounds,Ne.symm hi,Ne.symm hj]
theorem xN {a i j pv:Nat} {D:Array Nat} (h:D[a]! = pv) (hi:1≤i) :
  partEqLoop aC a i j D=if scanUp (fun x => !aC pv x) D j i > scanDown (fun x=>aC pv x) D (scanUp (fun x => !aC pv x) D j i) j then (scanUp (fun x => !aC pv x) D j i,D)
   else partEqLoop aC a (scanUp (fun x => !aC pv x) D j i+1) (scanDown (fun x=>aC pv x) D (scanUp (fun x => !aC pv x) D j i) j - 1) (swp D (scanUp (fun x => !aC pv x) D j i) (scanDown (fun x=>aC pv x) D (scanUp (fun x => !aC pv x) D j i) j)):=by
 rw [partEqLoop,h]
 have h1:=sH (p:=fun x => !aC pv x) (D:=D) (j:=j) _ i (Nat.le_refl _)
 generalize scanUp (fun x => !aC pv x) D j i=i2 at *
 have h2:=sI (p:=fun x=>aC pv x) (D:=D) (i:=i2) (by omega) j
 try simp only
 generalize scanDown (fun x=>aC pv x) D i2 j=j2 at *
 split
 ·rfl
 ·rw [dif_pos (by omega)]
theorem partLoop_eq {a i j pv:Nat} {D:Array Nat} (h:D[a]! = pv) (hi:1≤i) :
  partLoop aC a i j D=if scanUp (fun x=>aC x pv) D j i > scanDown (fun x => !aC x pv) D (scanUp (fun x=>aC x pv) D j i) j then (scanDown (fun x => !aC x pv) D (scanUp (fun x=>aC x pv) D j i) j,D)
   else partLoop aC a (scanUp (fun x=>aC x pv) D j i+1) (scanDown (fun x => !aC x pv) D (scanUp (fun x=>aC x pv) D j i) j - 1) (swp D (scanUp (fun x=>aC x pv) D j i) (scanDown (fun x => !aC x pv) D (scanUp (fun x=>aC x pv) D j i) j)):=by
 rw [partLoop,h]
 have h1:=sH (p:=fun x=>aC x pv) (D:=D) (j:=j) _ i (Nat.le_refl _)
 generalize scanUp (fun x=>aC x pv) D j i=i2 at *
 have h2:=sI (p:=fun x => !aC x pv) (D:=D) (i:=i2) (by omega) j
 try simp only
 generalize scanDown (fun x => !aC x pv) D i2 j=j2 at *
 split
 ·rfl
 ·rw [dif_pos (by omega)]
theorem Tv (a b q:Nat) (haq:a≤q) (hqb:q<b) (hb:b≤d.size) (hn:d.size≤1000000) (S:Sp w0 F0 w (fB g T d J::L)) :
  Calls Tryz.prog 190 #[JI g d.size cap,.int .i64 a,.int .i64 b,.int .i64 q] w fun e w2=>e=.returned (.int .i64 (partitionEqual aC d a b q).1)∧Sp w0 F0 w2 (fB g T (partitionEqual aC d a b q).2 J::L):=by
 have HS:=Lib.hid S
 have HI:Hid (partEqLoop aC a (a+1) (b - 1) (swp d a q)=partitionEqual aC d a b q):=rfl
 generalize partitionEqual aC d a b q=R at *
 have hn':(d.size:Int)≤1000000:=by omega
 obtain ⟨n,hnn⟩:∃ n,d.size=n:=⟨_,rfl⟩
 rw [hnn] at hn' hb hn ⊢
 have hb':(b:Int)≤n:=by omega
 have aa1:(a:Int)≤q:=by omega
 have aa2:(q:Int)<b:=by omega
 have HD:=Lib.hid hnn
 clear S hnn
 obtain ⟨x,hx⟩:∃ x,d[a]! = x:=⟨_,rfl⟩
 have bY:Hid (a<d.size∧d[a]! = x):=⟨by rw [HD.out];omega,hx⟩
 have hnx:(a:Int)<n:=by omega
 have cx:=HS.out.aO bY.out
 clear hx
 obtain ⟨y,hy⟩:∃ y,d[q]! = y:=⟨_,rfl⟩
 have eU:Hid (q<d.size∧d[q]! = y):=⟨by rw [HD.out];omega,hy⟩
 have hny:(q:Int)<n:=by omega
 have cy:=HS.out.aO eU.out
 clear hy
 have cx:=HS.out.aO bY.out
 have cy:=HS.out.aO eU.out
 have fx:=HS.out.free a
 have fy:=HS.out.free q
 have gy:=HS.out.kZ (i:=a) (j:=q) (y:=y) bY.out.1 eU.out.1
 have HP:=Lib.hid (HS.out.qF (i:=a) (j:=q) bY.out.1 eU.out.1 bY.out.2 eU.out.2)
 have HE:Hid ((swp d a q).size=n):=by unfold Hid;rw [swp_size];exact HD.out
 generalize swp d a q=d1 at *
 clear HS
 go_enter Tryz.func190,Tryz.ntmps190
 go_upto_region 1 with (fail)
 go_region
 all_goals
  clear cx cy fx fy gy bY eU
  obtain ⟨p,hp⟩:∃ p,d1[a]! = p:=⟨_,rfl⟩
  have Q0:=Lib.hid hp
  clear hp
  have hna:(a:Int)<n:=by omega
  go_wp2_with fail
  go_loopw [9,10] (fun vi vj wr=>∃ (i j:Nat) (D:Array Nat),vi=.int .i64 i∧vj=.int .i64 j∧a+1≤i∧i≤j+2∧j<b∧D.size=n∧D[a]! = p∧partEqLoop aC a i j D=R∧Sp w0 F0 wr (fB g T D J::L)) (fun vi vj _=>(intOf vj).toNat+2 - (intOf vi).toNat)
  case atStart=>exact ⟨a+1,b - 1,d1,by go_num,by go_num,by omega,by omega,by omega,HE.out,Q0.out,HI.out,HP.out⟩
  case round =>
   clear HP HI HE Q0
   obtain ⟨i,j,D,rfl,rfl,hi,hij,hj,hD,hp,hI,S⟩:=hrel
   have HS:=Lib.hid S
   have HD:=Lib.hid hD
   have uz:Hid (a<D.size∧D[a]! = p):=⟨by rw [hD];omega,hp⟩
   have HQ:=Lib.hid (xN (i:=i) (j:=j) hp (by omega))
   rw [hI] at HQ
   have hu:=sH (p:=(fun x => !aC p x)) (D:=D) (j:=j) _ i (Nat.le_refl _)
   obtain ⟨i2,hi2⟩:∃ i2,scanUp (fun x => !aC p x) D j i=i2:=⟨_,rfl⟩
   rw [hi2] at HQ hu
   have hv:=sI (p:=(fun x=>aC p x)) (D:=D) (i:=i2) (by omega) j
   obtain ⟨j2,hj2⟩:∃ j2,scanDown (fun x=>aC p x) D i2 j=j2:=⟨_,rfl⟩
   rw [hj2] at HQ hv
   have HU:=Lib.hid hi2
   have HV:=Lib.hid hj2
   clear S hD hp hI hi2 hj2
   have hij':(i:Int)≤(j:Int)+2:=by omega
   have hjb':(j:Int)<b:=by omega
   obtain ⟨wo,rfl⟩:∃ wo:World,wo=wr:=⟨_,rfl⟩
   go_upto_block 2 with (fail)
   go_cut [9] (fun vk wx=>vk=.int .i64 i2∧Sp w0 F0 wx (fB g T D J::L))
   case first =>
    go_wp2_with fail
    go_loopw [9] (fun vk wq=>∃ k:Nat,vk=.int .i64 k∧i≤k∧k≤j+2∧scanUp (fun x => !aC p x) D j k=i2∧Sp w0 F0 wq (fB g T D J::L)) (fun vk _=>j+3 - (intOf vk).toNat)
    case atStart=>exact ⟨i,rfl,by omega,by omega,HU.out,HS.out⟩
    case round =>
     obtain ⟨k,rfl,hk1,hk2,hU,S⟩:=hrel
     have jm:=Lib.hid S
     have xO:=Lib.hid hU
     clear S hU
     by_cases hc:k≤j
     ·have hc1:(k:Int)≤j:=by omega
      obtain ⟨x,hx⟩:∃ x,D[k]! = x:=⟨_,rfl⟩
      have bY:Hid (k<D.size∧D[k]! = x):=⟨by rw [HD.out];omega,hx⟩
      have hnx:(k:Int)<n:=by omega
      have cx:=jm.out.aO bY.out
      clear hx
      have cp:=jm.out.aO uz.out
      by_cases hxy:p<x
      ·have hd:=decide_eq_true hxy
       have HO:Hid (k=i2):=(og (i:=k) (fun h=>by have h2:=h.2;rw [bY.out.2] at h2;simp [aC] at h2;omega)).symm.trans xO.out
       go_wp2_with fail
       refine au (S:=fun wx=>Sp w0 F0 wx (fB g T D J::L)∧(wx.cell? ⟨g,k,none⟩=some (.int .u64 x))∧(wx.cell? ⟨g,a,none⟩=some (.int .u64 p))) (by kernel_rfl) (by kernel_rfl) ⟨(jm.out).drew,cx,cp⟩ ?_
       repeat
        refine Exists.intro ?_ (And.intro (fun wS hS K hK=>?_) (And.intro ?_ ?_))
        rotate_left 1
        ·obtain ⟨hS1,hS2,eG⟩:=hS
         first
          | (refine ah rfl ?_;simp only [Act.put,List.setIfInBounds_toArray,List.set_cons_zero,List.set_cons_succ];exact hK.out _ ⟨hS1,hS2,eG⟩)
          | (refine ag rfl ?_;go_simp;exact hK.out _ ⟨hS1,hS2,eG⟩)
          | (refine ag rfl ?_;go_simp;go_at_call 189;refine (dX p x hS1).mono ?_;rw [hd];rintro e mZ ⟨rfl,bS⟩;exact hK.out _ ⟨bS,bS.aO bY.out,bS.aO uz.out⟩)
        ·rfl
       intro wE hE
       have aX:=Lib.hid hE.1
       clear hE
       clear cx cp hd jm
       go_wp2_with fail
       go_meet
       exact ⟨by rw [HO.out],aX.out⟩
      ·have hd:=decide_eq_false hxy
       have HO:Hid (scanUp (fun x => !aC p x) D j (k+1)=i2):=(K8 (i:=k) (by omega) (by rw [bY.out.2];simpa [aC] using hxy)).symm.trans xO.out
       go_wp2_with fail
       refine au (S:=fun wx=>Sp w0 F0 wx (fB g T D J::L)∧(wx.cell? ⟨g,k,none⟩=some (.int .u64 x))∧(wx.cell? ⟨g,a,none⟩=some (.int .u64 p))) (by kernel_rfl) (by kernel_rfl) ⟨(jm.out).drew,cx,cp⟩ ?_
       repeat
        refine Exists.intro ?_ (And.intro (fun wS hS K hK=>?_) (And.intro ?_ ?_))
        rotate_left 1
        ·obtain ⟨hS1,hS2,eG⟩:=hS
         first
          | (refine ah rfl ?_;simp only [Act.put,List.setIfInBounds_toArray,List.set_cons_zero,List.set_cons_succ];exact hK.out _ ⟨hS1,hS2,eG⟩)
          | (refine ag rfl ?_;go_simp;exact hK.out _ ⟨hS1,hS2,eG⟩)
          | (refine ag rfl ?_;go_simp;go_at_call 189;refine (dX p x hS1).mono ?_;rw [hd];rintro e mZ ⟨rfl,bS⟩;exact hK.out _ ⟨bS,bS.aO bY.out,bS.aO uz.out⟩)
        ·rfl
       intro wE hE
       have aX:=Lib.hid hE.1
       clear hE
       clear cx cp hd jm
       go_wp2_with fail
       go_roundw
       case rel=>exact ⟨k+1,by go_num,by omega,by omega,HO.out,aX.out⟩
       case measure=>(simp [intOf];try omega)
     ·have hc1:¬ (k:Int)≤j:=by omega
      have HO:Hid (k=i2):=(og (i:=k) (fun h=>hc h.1)).symm.trans xO.out
      go_wp2_with fail
      refine au (S:=fun wx=>Sp w0 F0 wx (fB g T D J::L)) (by kernel_rfl) (by kernel_rfl) (jm.out).drew ?_
      repeat
       refine Exists.intro ?_ (And.intro (fun wS hS K hK=>?_) (And.intro ?_ ?_))
       rotate_left 1
       ·have hS1:=hS
        first
         | (refine ah rfl ?_;simp only [Act.put,List.setIfInBounds_toArray,List.set_cons_zero,List.set_cons_succ];exact hK.out _ hS1)
         | (refine ag rfl ?_;go_simp;exact hK.out _ hS1)
       ·rfl
      intro wE hE
      have aX:=Lib.hid hE
      clear hE
      go_wp2_with fail
      go_meet
      exact ⟨by rw [HO.out],aX.out⟩
   case rest =>
    obtain ⟨rfl,S⟩:=hcut
    have HS2:=Lib.hid S
    clear S HS HU
    have HU:=HV
    clear HV
    go_upto_block 4 with (fail)
    go_cut [10] (fun vk wx=>vk=.int .i64 j2∧Sp w0 F0 wx (fB g T D J::L))
    case first =>
     go_wp2_with fail
     go_loopw [10] (fun vk wq=>∃ k:Nat,vk=.int .i64 k∧k≤j∧i2≤k+2∧scanDown (fun x=>aC p x) D i2 k=j2∧Sp w0 F0 wq (fB g T D J::L)) (fun vk _=>(intOf vk).toNat)
     case atStart=>exact ⟨j,rfl,by omega,by omega,HU.out,HS2.out⟩
     case round =>
      obtain ⟨k,rfl,hk1,hk2,hU,S⟩:=hrel
      have jm:=Lib.hid S
      have xO:=Lib.hid hU
      clear S hU
      by_cases hc:i2≤k
      ·have hc1:(i2:Int)≤k:=by omega
       obtain ⟨x,hx⟩:∃ x,D[k]! = x:=⟨_,rfl⟩
       have bY:Hid (k<D.size∧D[k]! = x):=⟨by rw [HD.out];omega,hx⟩
       have hnx:(k:Int)<n:=by omega
       have cx:=jm.out.aO bY.out
       clear hx
       have cp:=jm.out.aO uz.out
       by_cases hxy:p<x
       ·have hd:=decide_eq_true hxy
        have HO:Hid (scanDown (fun x=>aC p x) D i2 (k - 1)=j2):=(K9 (j:=k) (by omega) (by omega) (by rw [bY.out.2];simpa [aC] using hxy)).symm.trans xO.out
        go_wp2_with fail
        refine au (S:=fun wx=>Sp w0 F0 wx (fB g T D J::L)∧(wx.cell? ⟨g,k,none⟩=some (.int .u64 x))∧(wx.cell? ⟨g,a,none⟩=some (.int .u64 p))) (by kernel_rfl) (by kernel_rfl) ⟨(jm.out).drew,cx,cp⟩ ?_
        repeat
         refine Exists.intro ?_ (And.intro (fun wS hS K hK=>?_) (And.intro ?_ ?_))
         rotate_left 1
         ·obtain ⟨hS1,hS2,eG⟩:=hS
          first
           | (refine ah rfl ?_;simp only [Act.put,List.setIfInBounds_toArray,List.set_cons_zero,List.set_cons_succ];exact hK.out _ ⟨hS1,hS2,eG⟩)
           | (refine ag rfl ?_;go_simp;exact hK.out _ ⟨hS1,hS2,eG⟩)
           | (refine ag rfl ?_;go_simp;go_at_call 189;refine (dX p x hS1).mono ?_;rw [hd];rintro e mZ ⟨rfl,bS⟩;exact hK.out _ ⟨bS,bS.aO bY.out,bS.aO uz.out⟩)
         ·rfl
        intro wE hE
        have aX:=Lib.hid hE.1
        clear hE
        clear cx cp hd jm
        go_wp2_with fail
        go_roundw
        case rel=>exact ⟨k - 1,by go_num,by omega,by omega,HO.out,aX.out⟩
        case measure=>(simp [intOf];try omega)
       ·have hd:=decide_eq_false hxy
        have HO:Hid (k=j2):=(qG (j:=k) (fun h=>by have h2:=h.2;rw [bY.out.2] at h2;simp [aC] at h2;omega)).symm.trans xO.out
        go_wp2_with fail
        refine au (S:=fun wx=>Sp w0 F0 wx (fB g T D J::L)∧(wx.cell? ⟨g,k,none⟩=some (.int .u64 x))∧(wx.cell? ⟨g,a,none⟩=some (.int .u64 p))) (by kernel_rfl) (by kernel_rfl) ⟨(jm.out).drew,cx,cp⟩ ?_
        repeat
         refine Exists.intro ?_ (And.intro (fun wS hS K hK=>?_) (And.intro ?_ ?_))
         rotate_left 1
         ·obtain ⟨hS1,hS2,eG⟩:=hS
          first
           | (refine ah rfl ?_;simp only [Act.put,List.setIfInBounds_toArray,List.set_cons_zero,List.set_cons_succ];exact hK.out _ ⟨hS1,hS2,eG⟩)
           | (refine ag rfl ?_;go_simp;exact hK.out _ ⟨hS1,hS2,eG⟩)
           | (refine ag rfl ?_;go_simp;go_at_call 189;refine (dX p x hS1).mono ?_;rw [hd];rintro e mZ ⟨rfl,bS⟩;exact hK.out _ ⟨bS,bS.aO bY.out,bS.aO uz.out⟩)
         ·rfl
        intro wE hE
        have aX:=Lib.hid hE.1
        clear hE
        clear cx cp hd jm
        go_wp2_with fail
        go_meet
        exact ⟨by rw [HO.out],aX.out⟩
      ·have hc1:¬ (i2:Int)≤k:=by omega
       have HO:Hid (k=j2):=(qG (j:=k) (fun h=>hc h.1)).symm.trans xO.out
       go_wp2_with fail
       refine au (S:=fun wx=>Sp w0 F0 wx (fB g T D J::L)) (by kernel_rfl) (by kernel_rfl) (jm.out).drew ?_
       repeat
        refine Exists.intro ?_ (And.intro (fun wS hS K hK=>?_) (And.intro ?_ ?_))
        rotate_left 1
        ·have hS1:=hS
         first
          | (refine ah rfl ?_;simp only [Act.put,List.setIfInBounds_toArray,List.set_cons_zero,List.set_cons_succ];exact hK.out _ hS1)
          | (refine ag rfl ?_;go_simp;exact hK.out _ hS1)
        ·rfl
       intro wE hE
       have aX:=Lib.hid hE
       clear hE
       go_wp2_with fail
       go_meet
       exact ⟨by rw [HO.out],aX.out⟩
    case rest =>
     obtain ⟨rfl,S⟩:=hcut
     have bI:=Lib.hid S
     clear S HS2 HU
     by_cases hgt:j2<i2
     ·have Qb:(j2:Int)<i2:=by omega
      have HO:Hid (R=(i2,D)):=by unfold Hid;rw [HQ.out,if_pos hgt]
      go_wp2_with fail
      go_ret
      rw [HO.out]
      exact ⟨rfl,bI.out⟩
     ·have Qb:¬ (j2:Int)<i2:=by omega
      have HO:Hid (partEqLoop aC a (i2+1) (j2 - 1) (swp D i2 j2)=R):=by unfold Hid;rw [HQ.out,if_neg hgt]
      obtain ⟨x,hx⟩:∃ x,D[i2]! = x:=⟨_,rfl⟩
      have bY:Hid (i2<D.size∧D[i2]! = x):=⟨by rw [HD.out];omega,hx⟩
      have hnx:(i2:Int)<n:=by omega
      have cx:=bI.out.aO bY.out
      clear hx
      obtain ⟨y,hy⟩:∃ y,D[j2]! = y:=⟨_,rfl⟩
      have eU:Hid (j2<D.size∧D[j2]! = y):=⟨by rw [HD.out];omega,hy⟩
      have hny:(j2:Int)<n:=by omega
      have cy:=bI.out.aO eU.out
      clear hy
      have cx:=bI.out.aO bY.out
      have cy:=bI.out.aO eU.out
      have fx:=bI.out.free i2
      have fy:=bI.out.free j2
      have gy:=bI.out.kZ (i:=i2) (j:=j2) (y:=y) bY.out.1 eU.out.1
      have HP:=Lib.hid (bI.out.qF (i:=i2) (j:=j2) bY.out.1 eU.out.1 bY.out.2 eU.out.2)
      have Xe:Hid ((swp D i2 j2)[a]! = p):=by unfold Hid;rw [swp_get (by omega) (by omega)];exact uz.out.2
      clear bI HQ
      go_wp2_with fail
      go_region
      all_goals
       clear cx cy fx fy gy
       go_wp2_with fail
       go_roundw
       case rel=>exact ⟨i2+1,j2 - 1,_,by go_num,by go_num,by omega,by omega,by omega,by rw [swp_size];exact HD.out,Xe.out,HO.out,HP.out⟩
       case measure=>(simp [intOf];try omega)
end
end
section
open Go.RowKit Go.Sort
section
variable {w0 w:World} {F0:List Nat} {L:List aT} {g T cap:Nat} {d:Array Nat} {J:Array Value}
theorem UE {D:Array Nat} {b i:Nat} (h:i<b) (hp:¬ D[i]! < D[i - 1]!):scanSorted aC D b i=scanSorted aC D b (i+1):=by
 conv=>lhs;rw [scanSorted]
 rw [if_pos (by simp [h,aC];omega)]
theorem zG {D:Array Nat} {b i:Nat} (h:¬ (i<b∧¬ D[i]! < D[i - 1]!)):scanSorted aC D b i=i:=by
 rw [scanSorted,if_neg (by simpa [aC] using h)]
theorem UF {D:Array Nat} {b:Nat}:∀ (k i:Nat),b - i≤k→i≤b→i≤scanSorted aC D b i∧scanSorted aC D b i≤b
 | 0,i,hk,h=>by
  rw [zG (fun h=>by omega)]
  omega
 | k+1,i,hk,h=>by
  by_cases hc:i<b∧¬ D[i]! < D[i - 1]!
  ·rw [UE hc.1 hc.2]
   have:=UF (D:=D) (b:=b) k (i+1) (by omega) (by omega)
   omega
  ·rw [zG hc]
   omega
theorem Yr {D:Array Nat} {j:Nat} (h:1≤j) (hp:D[j]! < D[j - 1]!):shiftDown aC j D=shiftDown aC (j - 1) (swp D j (j - 1)):=by
 obtain ⟨k,rfl⟩:∃ k,j=k+1:=⟨j - 1,by omega⟩
 rw [shiftDown,if_neg (by simpa [aC] using hp)]
 rfl
theorem La {D:Array Nat} {j:Nat} (hp:¬ (1≤j∧D[j]! < D[j - 1]!)):shiftDown aC j D=D:=by
 cases j with
 | zero=>rfl
 | succ k=>rw [shiftDown,if_pos (by simp [aC] at hp ⊢;omega)]
theorem Ez:∀ (j:Nat) (D:Array Nat),(shiftDown aC j D).size=D.size
 | 0,_=>rfl
 | j+1,D=>by
  rw [shiftDown]
  split
  ·rfl
  ·rw [Ez j,swp_size]
theorem UG {D:Array Nat} {b j:Nat} (h:j<b) (hp:D[j]! < D[j - 1]!):shiftUp aC b j D=shiftUp aC b (j+1) (swp D j (j - 1)):=by
 conv=>lhs;rw [shiftUp]
 rw [if_pos h,if_neg (by simpa [aC] using hp)]
theorem zH {D:Array Nat} {b j:Nat} (hp:¬ (j<b∧D[j]! < D[j - 1]!)):shiftUp aC b j D=D:=by
 rw [shiftUp]
 split
 ·rw [if_pos (by simp [aC];omega)]
 ·rfl
theorem EA (b:Nat):∀ (k j:Nat) (D:Array Nat),b - j≤k→(shiftUp aC b j D).size=D.size
 | 0,j,D,hk=>by rw [zH (fun h=>by omega)]
 | k+1,j,D,hk=>by
  by_cases h:j<b∧D[j]! < D[j - 1]!
  ·rw [UG h.1 h.2,EA b k _ _ (by omega),swp_size]
  ·rw [zH h]
theorem Lb (a b s i:Nat) (D:Array Nat):partialIns aC a b (s+1) i D =
  if scanSorted aC D b i=b then (D,true) else if b - a<50 then (D,false) else
   partialIns aC a b s (scanSorted aC D b i) (if b - scanSorted aC D b i≥2 then shiftUp aC b (scanSorted aC D b i+1) (if scanSorted aC D b i - a≥2 then shiftDown aC (scanSorted aC D b i - 1) (swp D (scanSorted aC D b i) (scanSorted aC D b i - 1)) else swp D (scanSorted aC D b i) (scanSorted aC D b i - 1))
    else (if scanSorted aC D b i - a≥2 then shiftDown aC (scanSorted aC D b i - 1) (swp D (scanSorted aC D b i) (scanSorted aC D b i - 1)) else swp D (scanSorted aC D b i) (scanSorted aC D b i - 1))):=rfl
theorem Qc (a b:Nat) (hab:a<b) (hb:b≤d.size) (hn:d.size≤1000000) (S:Sp w0 F0 w (fB g T d J::L)) :
  Calls Tryz.prog 188 #[JI g d.size cap,.int .i64 a,.int .i64 b] w fun e w2=>e=.returned (.bool (partialInsertionSort aC d a b).2)∧Sp w0 F0 w2 (fB g T (partialInsertionSort aC d a b).1 J::L):=by
 have HS:=Lib.hid S
 have HI:Hid (partialIns aC a b (5 - 0) (a+1) d=partialInsertionSort aC d a b):=rfl
 generalize partialInsertionSort aC d a b=R at *
 have hn':(d.size:Int)≤1000000:=by omega
 obtain ⟨n,hnn⟩:∃ n,d.size=n:=⟨_,rfl⟩
 rw [hnn] at hn' hb hn ⊢
 have hb':(b:Int)≤n:=by omega
 have hab':(a:Int)<b:=by omega
 have HD:=Lib.hid hnn
 obtain ⟨ba,hba⟩:∃ ba:Nat,(b:Int) - a=ba:=⟨b - a,by omega⟩
 have HBA:Hid (b - a=ba):=by unfold Hid;omega
 have aeM:=wrapN ba (by omega)
 clear S hnn
 go_enter Tryz.func188,Tryz.ntmps188
 go_wp2_with fail
 go_loopw [7,8] (fun vi vj wr=>∃ (i j:Nat) (D:Array Nat),vi=.int .i64 i∧vj=.int .i64 j∧a+1≤i∧i≤b∧j≤5∧D.size=n∧partialIns aC a b (5 - j) i D=R∧Sp w0 F0 wr (fB g T D J::L)) (fun vi vj _=>6 - (intOf vj).toNat)
 case atStart=>exact ⟨a+1,0,d,by go_num,rfl,by omega,by omega,by omega,HD.out,HI.out,HS.out⟩
 case round =>
  clear HS HI HD
  obtain ⟨i,j,D,rfl,rfl,hi,hib,hj,hD,hI,S⟩:=hrel
  have HS:=Lib.hid S
  have HD:=Lib.hid hD
  have HI:=Lib.hid hI
  clear S hD hI
  obtain ⟨wo,rfl⟩:∃ wo:World,wo=wr:=⟨_,rfl⟩
  by_cases hj5:j<5
  ·have aeO:(j:Int)<5:=by omega
   have HQ:=Lib.hid (Lb a b (5 - (j+1)) i D)
   rw [show 5 - (j+1)+1=5 - j by omega,HI.out] at HQ
   have hu:=UF (D:=D) (b:=b) _ i (Nat.le_refl _) hib
   obtain ⟨i2,hi2⟩:∃ i2,scanSorted aC D b i=i2:=⟨_,rfl⟩
   rw [hi2] at HQ hu
   have HU:=Lib.hid hi2
   have hiI:(i:Int)≤b:=by omega
   have aeQ:(1:Int)≤i:=by omega
   clear hi2 HI
   go_upto_block 2 with (fail)
   go_cut [7] (fun vk wx=>vk=.int .i64 i2∧Sp w0 F0 wx (fB g T D J::L))
   case first =>
    go_wp2_with fail
    go_loopw [7] (fun vk wq=>∃ k:Nat,vk=.int .i64 k∧i≤k∧k≤b∧scanSorted aC D b k=i2∧Sp w0 F0 wq (fB g T D J::L)) (fun vk _=>b+1 - (intOf vk).toNat)
    case atStart=>exact ⟨i,rfl,by omega,by omega,HU.out,HS.out⟩
    case round =>
     obtain ⟨k,rfl,hk1,hk2,hU,S⟩:=hrel
     have jm:=Lib.hid S
     have xO:=Lib.hid hU
     clear S hU
     obtain ⟨m,hm⟩:∃ m:Nat,(k:Int) - 1=(m:Int):=⟨k - 1,by omega⟩
     have Hm:Hid (k - 1=m):=by unfold Hid;omega
     have V6:=wrapN m (by omega)
     by_cases hc:k<b
     ·have hc1:(k:Int)<b:=by omega
      obtain ⟨x,hx⟩:∃ x,D[k]! = x:=⟨_,rfl⟩
      have bY:Hid (k<D.size∧D[k]! = x):=⟨by rw [HD.out];omega,hx⟩
      have hnx:(k:Int)<n:=by omega
      have cx:=jm.out.aO bY.out
      clear hx
      obtain ⟨y,hy⟩:∃ y,D[m]! = y:=⟨_,rfl⟩
      have eU:Hid (m<D.size∧D[m]! = y):=⟨by rw [HD.out];omega,hy⟩
      have hny:(m:Int)<n:=by omega
      have cy:=jm.out.aO eU.out
      clear hy
      by_cases hxy:x<y
      ·have hd:=decide_eq_true hxy
       have HO:Hid (k=i2):=(zG (i:=k) (fun h=>by have h2:=h.2;rw [Hm.out,bY.out.2,eU.out.2] at h2;omega)).symm.trans xO.out
       go_wp2_with fail
       refine au (S:=fun wx=>Sp w0 F0 wx (fB g T D J::L)∧(wx.cell? ⟨g,k,none⟩=some (.int .u64 x))∧(wx.cell? ⟨g,m,none⟩=some (.int .u64 y))) (by kernel_rfl) (by kernel_rfl) ⟨(jm.out).drew,cx,cy⟩ ?_
       repeat
        refine Exists.intro ?_ (And.intro (fun wS hS K hK=>?_) (And.intro ?_ ?_))
        rotate_left 1
        ·obtain ⟨hS1,hS2,eG⟩:=hS
         first
          | (refine ah rfl ?_;simp only [Act.put,List.setIfInBounds_toArray,List.set_cons_zero,List.set_cons_succ];exact hK.out _ ⟨hS1,hS2,eG⟩)
          | (refine ag rfl ?_;go_simp;exact hK.out _ ⟨hS1,hS2,eG⟩)
          | (refine ag rfl ?_;go_simp;go_at_call 189;refine (dX x y hS1).mono ?_;rw [hd];rintro e mZ ⟨rfl,bS⟩;exact hK.out _ ⟨bS,bS.aO bY.out,bS.aO eU.out⟩)
        ·rfl
       intro wE hE
       have aX:=Lib.hid hE.1
       clear hE
       clear cx cy hd jm
       go_wp2_with fail
       go_meet
       exact ⟨by rw [HO.out],aX.out⟩
      ·have hd:=decide_eq_false hxy
       have HO:Hid (scanSorted aC D b (k+1)=i2):=(UE (i:=k) hc (by rw [Hm.out,bY.out.2,eU.out.2];exact hxy)).symm.trans xO.out
       go_wp2_with fail
       refine au (S:=fun wx=>Sp w0 F0 wx (fB g T D J::L)∧(wx.cell? ⟨g,k,none⟩=some (.int .u64 x))∧(wx.cell? ⟨g,m,none⟩=some (.int .u64 y))) (by kernel_rfl) (by kernel_rfl) ⟨(jm.out).drew,cx,cy⟩ ?_
       repeat
        refine Exists.intro ?_ (And.intro (fun wS hS K hK=>?_) (And.intro ?_ ?_))
        rotate_left 1
        ·obtain ⟨hS1,hS2,eG⟩:=hS
         first
          | (refine ah rfl ?_;simp only [Act.put,List.setIfInBounds_toArray,List.set_cons_zero,List.set_cons_succ];exact hK.out _ ⟨hS1,hS2,eG⟩)
          | (refine ag rfl ?_;go_simp;exact hK.out _ ⟨hS1,hS2,eG⟩)
          | (refine ag rfl ?_;go_simp;go_at_call 189;refine (dX x y hS1).mono ?_;rw [hd];rintro e mZ ⟨rfl,bS⟩;exact hK.out _ ⟨bS,bS.aO bY.out,bS.aO eU.out⟩)
        ·rfl
       intro wE hE
       have aX:=Lib.hid hE.1
       clear hE
       clear cx cy hd jm
       go_wp2_with fail
       go_roundw
       case rel=>exact ⟨k+1,by go_num,by omega,by omega,HO.out,aX.out⟩
       case measure=>(simp [intOf];try omega)
     ·have hc1:¬ (k:Int)<b:=by omega
      have HO:Hid (k=i2):=(zG (i:=k) (fun h=>hc h.1)).symm.trans xO.out
      go_wp2_with fail
      refine au (S:=fun wx=>Sp w0 F0 wx (fB g T D J::L)) (by kernel_rfl) (by kernel_rfl) (jm.out).drew ?_
      repeat
       refine Exists.intro ?_ (And.intro (fun wS hS K hK=>?_) (And.intro ?_ ?_))
       rotate_left 1
       ·have hS1:=hS
        first
         | (refine ah rfl ?_;simp only [Act.put,List.setIfInBounds_toArray,List.set_cons_zero,List.set_cons_succ];exact hK.out _ hS1)
         | (refine ag rfl ?_;go_simp;exact hK.out _ hS1)
       ·rfl
      intro wE hE
      have aX:=Lib.hid hE
      clear hE
      go_wp2_with fail
      go_meet
      exact ⟨by rw [HO.out],aX.out⟩
   case rest =>
    obtain ⟨rfl,S⟩:=hcut
    have HS2:=Lib.hid S
    clear S HS HU
    have aeR:(i2:Int)≤b:=by omega
    by_cases Nl:i2=b
    ·have HO:Hid (R=(D,true)):=by unfold Hid;rw [HQ.out,if_pos Nl]
     subst Nl
     clear HQ
     go_wp2_with fail
     go_ret
     rw [HO.out]
     exact ⟨rfl,HS2.out⟩
    ·have ac0:¬ (i2:Int)=b:=by omega
     by_cases h50:ba<50
     ·have aa3:(ba:Int)<50:=by omega
      have HO:Hid (R=(D,false)):=by unfold Hid;rw [HQ.out,if_neg Nl,HBA.out,if_pos h50]
      clear HQ Nl
      go_wp2_with fail
      go_ret
      rw [HO.out]
      exact ⟨rfl,HS2.out⟩
     ·have aa3:¬ (ba:Int)<50:=by omega
      have zz:=Lib.hid HQ.out
      rw [if_neg Nl,HBA.out,if_neg h50] at zz
      clear HQ Nl
      obtain ⟨m,hm⟩:∃ m:Nat,(i2:Int) - 1=(m:Int):=⟨i2 - 1,by omega⟩
      have Hm:Hid (i2 - 1=m):=by unfold Hid;omega
      have V6:=wrapN m (by omega)
      obtain ⟨x,hx⟩:∃ x,D[i2]! = x:=⟨_,rfl⟩
      have bY:Hid (i2<D.size∧D[i2]! = x):=⟨by rw [HD.out];omega,hx⟩
      have hnx:(i2:Int)<n:=by omega
      have cx:=HS2.out.aO bY.out
      clear hx
      obtain ⟨y,hy⟩:∃ y,D[m]! = y:=⟨_,rfl⟩
      have eU:Hid (m<D.size∧D[m]! = y):=⟨by rw [HD.out];omega,hy⟩
      have hny:(m:Int)<n:=by omega
      have cy:=HS2.out.aO eU.out
      clear hy
      have cx:=HS2.out.aO bY.out
      have cy:=HS2.out.aO eU.out
      have fx:=HS2.out.free i2
      have fy:=HS2.out.free m
      have gy:=HS2.out.kZ (i:=i2) (j:=m) (y:=y) bY.out.1 eU.out.1
      have HP:=Lib.hid (HS2.out.qF (i:=i2) (j:=m) bY.out.1 eU.out.1 bY.out.2 eU.out.2)
      rw [Hm.out] at zz
      have Xf:Hid ((swp D i2 m).size=n):=by unfold Hid;rw [swp_size];exact HD.out
      generalize swp D i2 m=D1 at *
      obtain ⟨D2,hD2⟩:∃ D2,(if i2 - a≥2 then shiftDown aC m D1 else D1)=D2:=⟨_,rfl⟩
      rw [hD2] at zz
      have HT:=Lib.hid hD2
      have Tw:Hid (D2.size=n):=by unfold Hid;rw [← hD2];split;(rw [Ez];exact Xf.out);exact Xf.out
      obtain ⟨D3,hD3⟩:∃ D3,(if b - i2≥2 then shiftUp aC b (i2+1) D2 else D2)=D3:=⟨_,rfl⟩
      rw [hD3] at zz
      have HT3:=Lib.hid hD3
      have V8:Hid (D3.size=n):=by unfold Hid;rw [← hD3];split;(rw [EA b _ _ _ (Nat.le_refl _)];exact Tw.out);exact Tw.out
      clear hD2 hD3 HS2
      go_wp2_with fail
      go_region
      all_goals
       clear cx cy fx fy gy bY eU HD
       go_upto_if 61 with (fail)
       go_cut [9] (fun _ wx=>Sp w0 F0 wx (fB g T D2 J::L))
       case first =>
        by_cases hcd:i2 - a≥2
        ·have JJ:(2:Int)≤(i2:Int) - a:=by omega
         rw [decide_eq_true JJ]
         have HT2:Hid (shiftDown aC (m) D1=D2):=by unfold Hid;rw [← HT.out,if_pos hcd]
         go_wp2_with fail
         go_loopw [9] (fun vk wq=>∃ (k:Nat) (E:Array Nat),vk=.int .i64 k∧k≤i2∧E.size=n∧shiftDown aC k E=D2∧Sp w0 F0 wq (fB g T E J::L)) (fun vk _=>(intOf vk).toNat)
         case atStart=>exact ⟨m,D1,by go_num,by omega,Xf.out,HT2.out,HP.out⟩
         case round =>
          obtain ⟨k,E,rfl,hk1,hE,hT,S⟩:=hrel
          have jm:=Lib.hid S
          have FQ:=Lib.hid hT
          have V9:=Lib.hid hE
          clear S hT hE
          by_cases hc:1≤k
          ·have hc1:(1:Int)≤k:=by omega
           obtain ⟨m,hm⟩:∃ m:Nat,(k:Int) - 1=(m:Int):=⟨k - 1,by omega⟩
           have Hm:Hid (k - 1=m):=by unfold Hid;omega
           have V6:=wrapN m (by omega)
           obtain ⟨x,hx⟩:∃ x,E[k]! = x:=⟨_,rfl⟩
           have bY:Hid (k<E.size∧E[k]! = x):=⟨by rw [V9.out];omega,hx⟩
           have hnx:(k:Int)<n:=by omega
           have cx:=jm.out.aO bY.out
           clear hx
           obtain ⟨y,hy⟩:∃ y,E[m]! = y:=⟨_,rfl⟩
           have eU:Hid (m<E.size∧E[m]! = y):=⟨by rw [V9.out];omega,hy⟩
           have hny:(m:Int)<n:=by omega
           have cy:=jm.out.aO eU.out
           clear hy
           by_cases hxy:x<y
           ·have hd:=decide_eq_true hxy
            have HO:Hid (shiftDown aC m (swp E k m)=D2):=by
             have h:=Yr (D:=E) (j:=k) hc (by rw [Hm.out,bY.out.2,eU.out.2];exact hxy)
             rw [Hm.out] at h
             exact h.symm.trans FQ.out
            go_wp2_with fail
            refine au (S:=fun wx=>Sp w0 F0 wx (fB g T E J::L)∧(wx.cell? ⟨g,k,none⟩=some (.int .u64 x))∧(wx.cell? ⟨g,m,none⟩=some (.int .u64 y))) (by kernel_rfl) (by kernel_rfl) ⟨(jm.out).drew,cx,cy⟩ ?_
            repeat
             refine Exists.intro ?_ (And.intro (fun wS hS K hK=>?_) (And.intro ?_ ?_))
             rotate_left 1
             ·obtain ⟨hS1,hS2,eG⟩:=hS
              first
               | (refine ah rfl ?_;simp only [Act.put,List.setIfInBounds_toArray,List.set_cons_zero,List.set_cons_succ];exact hK.out _ ⟨hS1,hS2,eG⟩)
               | (refine ag rfl ?_;go_simp;exact hK.out _ ⟨hS1,hS2,eG⟩)
               | (refine ag rfl ?_;go_simp;go_at_call 189;refine (dX x y hS1).mono ?_;rw [hd];rintro e mZ ⟨rfl,bS⟩;exact hK.out _ ⟨bS,bS.aO bY.out,bS.aO eU.out⟩)
             ·rfl
            intro wE hE
            have aX:=Lib.hid hE.1
            clear hE
            clear cx cy hd jm
            have cx:=aX.out.aO bY.out
            have cy:=aX.out.aO eU.out
            have fx:=aX.out.free k
            have fy:=aX.out.free m
            have gy:=aX.out.kZ (i:=k) (j:=m) (y:=y) bY.out.1 eU.out.1
            have HP:=Lib.hid (aX.out.qF (i:=k) (j:=m) bY.out.1 eU.out.1 bY.out.2 eU.out.2)
            clear aX
            go_wp2_with fail
            go_region
            all_goals
             clear cx cy fx fy gy
             go_wp2_with fail
             go_roundw
             case rel=>exact ⟨m,_,by go_num,by omega,by rw [swp_size];exact V9.out,HO.out,HP.out⟩
             case measure=>(simp [intOf];try omega)
           ·have hd:=decide_eq_false hxy
            have HO:Hid (E=D2):=(La (j:=k) (fun h=>by have h2:=h.2;rw [Hm.out,bY.out.2,eU.out.2] at h2;omega)).symm.trans FQ.out
            go_wp2_with fail
            refine au (S:=fun wx=>Sp w0 F0 wx (fB g T E J::L)∧(wx.cell? ⟨g,k,none⟩=some (.int .u64 x))∧(wx.cell? ⟨g,m,none⟩=some (.int .u64 y))) (by kernel_rfl) (by kernel_rfl) ⟨(jm.out).drew,cx,cy⟩ ?_
            repeat
             refine Exists.intro ?_ (And.intro (fun wS hS K hK=>?_) (And.intro ?_ ?_))
             rotate_left 1
             ·obtain ⟨hS1,hS2,eG⟩:=hS
              first
               | (refine ah rfl ?_;simp only [Act.put,List.setIfInBounds_toArray,List.set_cons_zero,List.set_cons_succ];exact hK.out _ ⟨hS1,hS2,eG⟩)
               | (refine ag rfl ?_;go_simp;exact hK.out _ ⟨hS1,hS2,eG⟩)
               | (refine ag rfl ?_;go_simp;go_at_call 189;refine (dX x y hS1).mono ?_;rw [hd];rintro e mZ ⟨rfl,bS⟩;exact hK.out _ ⟨bS,bS.aO bY.out,bS.aO eU.out⟩)
             ·rfl
            intro wE hE
            have aX:=Lib.hid hE.1
            clear hE
            clear cx cy hd jm
            go_wp2_with fail
            go_meet
            rw [← HO.out]
            exact aX.out
          ·have hc1:¬ (1:Int)≤k:=by omega
           have HO:Hid (E=D2):=(La (j:=k) (fun h=>hc h.1)).symm.trans FQ.out
           go_wp2_with fail
           go_meet
           rw [← HO.out]
           exact jm.out
        ·have JJ:¬ (2:Int)≤(i2:Int) - a:=by omega
         rw [decide_eq_false JJ]
         have HT2:Hid (D1=D2):=by unfold Hid;rw [← HT.out,if_neg hcd]
         go_wp2_with fail
         go_meet
         rw [← HT2.out]
         exact HP.out
       case rest =>
        have S:=hcut
        clear hcut HT Xf
        have Zf:=Lib.hid S
        have Xf:=Tw
        have HT:=HT3
        clear S HP Tw HT3
        go_upto_if 98 with (fail)
        by_cases hcd:b - i2≥2
        ·have JJ:(2:Int)≤(b:Int) - i2:=by omega
         rw [decide_eq_true JJ]
         have HT2:Hid (shiftUp aC b (i2+1) D2=D3):=by unfold Hid;rw [← HT.out,if_pos hcd]
         go_wp2_with fail
         go_loopw [10] (fun vk wq=>∃ (k:Nat) (E:Array Nat),vk=.int .i64 k∧i2<k∧k≤b∧E.size=n∧shiftUp aC b k E=D3∧Sp w0 F0 wq (fB g T E J::L)) (fun vk _=>b+1 - (intOf vk).toNat)
         case atStart=>exact ⟨i2+1,D2,by go_num,by omega,by omega,Xf.out,HT2.out,Zf.out⟩
         case round =>
          obtain ⟨k,E,rfl,hk1,hk2,hE,hT,S⟩:=hrel
          have jm:=Lib.hid S
          have FQ:=Lib.hid hT
          have V9:=Lib.hid hE
          clear S hT hE
          by_cases hc:k<b
          ·have hc1:(k:Int)<b:=by omega
           obtain ⟨m,hm⟩:∃ m:Nat,(k:Int) - 1=(m:Int):=⟨k - 1,by omega⟩
           have Hm:Hid (k - 1=m):=by unfold Hid;omega
           have V6:=wrapN m (by omega)
           obtain ⟨x,hx⟩:∃ x,E[k]! = x:=⟨_,rfl⟩
           have bY:Hid (k<E.size∧E[k]! = x):=⟨by rw [V9.out];omega,hx⟩
           have hnx:(k:Int)<n:=by omega
           have cx:=jm.out.aO bY.out
           clear hx
           obtain ⟨y,hy⟩:∃ y,E[m]! = y:=⟨_,rfl⟩
           have eU:Hid (m<E.size∧E[m]! = y):=⟨by rw [V9.out];omega,hy⟩
           have hny:(m:Int)<n:=by omega
           have cy:=jm.out.aO eU.out
           clear hy
           by_cases hxy:x<y
           ·have hd:=decide_eq_true hxy
            have HO:Hid (shiftUp aC b (k+1) (swp E k m)=D3):=by
             have h:=UG (D:=E) (j:=k) hc (by rw [Hm.out,bY.out.2,eU.out.2];exact hxy)
             rw [Hm.out] at h
             exact h.symm.trans FQ.out
            go_wp2_with fail
            refine au (S:=fun wx=>Sp w0 F0 wx (fB g T E J::L)∧(wx.cell? ⟨g,k,none⟩=some (.int .u64 x))∧(wx.cell? ⟨g,m,none⟩=some (.int .u64 y))) (by kernel_rfl) (by kernel_rfl) ⟨(jm.out).drew,cx,cy⟩ ?_
            repeat
             refine Exists.intro ?_ (And.intro (fun wS hS K hK=>?_) (And.intro ?_ ?_))
             rotate_left 1
             ·obtain ⟨hS1,hS2,eG⟩:=hS
              first
               | (refine ah rfl ?_;simp only [Act.put,List.setIfInBounds_toArray,List.set_cons_zero,List.set_cons_succ];exact hK.out _ ⟨hS1,hS2,eG⟩)
               | (refine ag rfl ?_;go_simp;exact hK.out _ ⟨hS1,hS2,eG⟩)
               | (refine ag rfl ?_;go_simp;go_at_call 189;refine (dX x y hS1).mono ?_;rw [hd];rintro e mZ ⟨rfl,bS⟩;exact hK.out _ ⟨bS,bS.aO bY.out,bS.aO eU.out⟩)
             ·rfl
            intro wE hE
            have aX:=Lib.hid hE.1
            clear hE
            clear cx cy hd jm
            have cx:=aX.out.aO bY.out
            have cy:=aX.out.aO eU.out
            have fx:=aX.out.free k
            have fy:=aX.out.free m
            have gy:=aX.out.kZ (i:=k) (j:=m) (y:=y) bY.out.1 eU.out.1
            have HP:=Lib.hid (aX.out.qF (i:=k) (j:=m) bY.out.1 eU.out.1 bY.out.2 eU.out.2)
            clear aX
            go_wp2_with fail
            go_region
            all_goals
             clear cx cy fx fy gy
             go_wp2_with fail
             go_roundw
             case rel=>exact ⟨(k+1),_,by go_num,by omega,by omega,by rw [swp_size];exact V9.out,HO.out,HP.out⟩
             case measure=>(simp [intOf];try omega)
           ·have hd:=decide_eq_false hxy
            have HO:Hid (E=D3):=(zH (j:=k) (fun h=>by have h2:=h.2;rw [Hm.out,bY.out.2,eU.out.2] at h2;omega)).symm.trans FQ.out
            go_wp2_with fail
            refine au (S:=fun wx=>Sp w0 F0 wx (fB g T E J::L)∧(wx.cell? ⟨g,k,none⟩=some (.int .u64 x))∧(wx.cell? ⟨g,m,none⟩=some (.int .u64 y))) (by kernel_rfl) (by kernel_rfl) ⟨(jm.out).drew,cx,cy⟩ ?_
            repeat
             refine Exists.intro ?_ (And.intro (fun wS hS K hK=>?_) (And.intro ?_ ?_))
             rotate_left 1
             ·obtain ⟨hS1,hS2,eG⟩:=hS
              first
               | (refine ah rfl ?_;simp only [Act.put,List.setIfInBounds_toArray,List.set_cons_zero,List.set_cons_succ];exact hK.out _ ⟨hS1,hS2,eG⟩)
               | (refine ag rfl ?_;go_simp;exact hK.out _ ⟨hS1,hS2,eG⟩)
               | (refine ag rfl ?_;go_simp;go_at_call 189;refine (dX x y hS1).mono ?_;rw [hd];rintro e mZ ⟨rfl,bS⟩;exact hK.out _ ⟨bS,bS.aO bY.out,bS.aO eU.out⟩)
             ·rfl
            intro wE hE
            have aX:=Lib.hid hE.1
            clear hE
            clear cx cy hd jm
            go_wp2_with fail
            have hF:=aX.out
            rw [HO.out] at hF
            have HF:=Lib.hid hF
            clear hF
            clear aX
            go_roundw
            case rel=>exact ⟨i2,j+1,D3,rfl,by go_num,by omega,by omega,by omega,V8.out,zz.out.symm,HF.out⟩
            case measure=>(simp [intOf];try omega)
          ·have hc1:¬ (k:Int)<b:=by omega
           have HO:Hid (E=D3):=(zH (j:=k) (fun h=>hc h.1)).symm.trans FQ.out
           go_wp2_with fail
           have hF:=jm.out
           rw [HO.out] at hF
           have HF:=Lib.hid hF
           clear hF
           skip
           go_roundw
           case rel=>exact ⟨i2,j+1,D3,rfl,by go_num,by omega,by omega,by omega,V8.out,zz.out.symm,HF.out⟩
           case measure=>(simp [intOf];try omega)
        ·have JJ:¬ (2:Int)≤(b:Int) - i2:=by omega
         rw [decide_eq_false JJ]
         have HT2:Hid (D2=D3):=by unfold Hid;rw [← HT.out,if_neg hcd]
         go_wp2_with fail
         have hF:=Zf.out
         rw [HT2.out] at hF
         have HF:=Lib.hid hF
         clear hF
         skip
         go_roundw
         case rel=>exact ⟨i2,j+1,D3,rfl,by go_num,by omega,by omega,by omega,V8.out,zz.out.symm,HF.out⟩
         case measure=>(simp [intOf];try omega)
  ·obtain rfl:j=5:=by omega
   have HO:Hid (R=(D,false)):=HI.out.symm
   clear hj5
   go_wp2_with fail
   go_ret
   rw [HO.out]
   exact ⟨rfl,HS.out⟩
end
end
section
open Go.RowKit Go.Sort
section
variable {w0 w:World} {F0:List Nat} {L:List aT} {g T cap:Nat} {d:Array Nat} {J:Array Value}
def CW:Hint→Nat
 | .unknown=>0
 | .increasing=>1
 | .decreasing=>2
theorem sJ (d:Array Nat) (a s:Nat) (h:1≤a):(a - 1≤(medianAdjacent aC d a s).1∧(medianAdjacent aC d a s).1≤a+1)∧(medianAdjacent aC d a s).2≤s+3:=by
 have:=GM d (a - 1) a (a+1) s
 unfold medianAdjacent
 generalize median aC d (a - 1) a (a+1) s=r at *
 omega
def GQ (d:Array Nat) (a b:Nat):Nat×Nat :=
 if b - a≥50 then
  median aC d (medianAdjacent aC d (a+(b - a) / 4*1) 0).1 (medianAdjacent aC d (a+(b - a) / 4*2) (medianAdjacent aC d (a+(b - a) / 4*1) 0).2).1
   (medianAdjacent aC d (a+(b - a) / 4*3) (medianAdjacent aC d (a+(b - a) / 4*2) (medianAdjacent aC d (a+(b - a) / 4*1) 0).2).2).1
   (medianAdjacent aC d (a+(b - a) / 4*3) (medianAdjacent aC d (a+(b - a) / 4*2) (medianAdjacent aC d (a+(b - a) / 4*1) 0).2).2).2
 else median aC d (a+(b - a) / 4*1) (a+(b - a) / 4*2) (a+(b - a) / 4*3) 0
theorem Wd {d:Array Nat} {a b:Nat} (h:b - a≥8):choosePivot aC d a b=((GQ d a b).1,if (GQ d a b).2=0 then .increasing else if (GQ d a b).2=12 then .decreasing else .unknown):=by
 unfold choosePivot GQ
 simp only [if_pos h]
theorem aa4 (a b:Nat) (hab:a+8≤b) (hb:b≤d.size) (hn:d.size≤1000000) (S:Sp w0 F0 w (fB g T d J::L)) :
  Calls Tryz.prog 186 #[JI g d.size cap,.int .i64 a,.int .i64 b] w fun e w2=>e=.returned (.tuple #[.int .i64 (choosePivot aC d a b).1,.int .i64 (CW (choosePivot aC d a b).2)])∧Sp w0 F0 w2 (fB g T d J::L):=by
 have HV:=Lib.hid (Wd (d:=d) (a:=a) (b:=b) (by omega))
 generalize choosePivot aC d a b=R at *
 have HB:=Lib.hid hb
 have HN:=Lib.hid hn
 obtain ⟨len,hlen⟩:∃ len:Nat,(b:Int) - a=len:=⟨b - a,by omega⟩
 have IQ:Hid (b - a=len):=by unfold Hid;omega
 unfold GQ at HV
 rw [IQ.out] at HV
 have hn':(d.size:Int)≤1000000:=by omega
 have hb':(b:Int)≤d.size:=by omega
 have WW:(8:Int)≤len:=by omega
 have hln:(len:Int)≤1000000:=by omega
 have hwl:=wrapN len (by omega)
 obtain ⟨l4,hl4⟩:∃ l4:Nat,len / 4=l4:=⟨_,rfl⟩
 rw [hl4] at HV
 have hdiv:(len:Int).tdiv 4=l4:=by rw [Int.tdiv_eq_ediv_of_nonneg (by omega)];omega
 have UH:(len:Int) / 4=l4:=by omega
 have aa5:(l4:Int)≤250000:=by omega
 have aa6:(l4:Int)*4≤len:=by omega
 have aeS:=wrapN l4 (by omega)
 obtain ⟨i,hi⟩:∃ i:Nat,(a:Int)+(l4:Int)*1=(i:Int):=⟨a+l4*1,by omega⟩
 have Hi:Hid (a+l4*1=i):=by unfold Hid;omega
 have hwi:=wrapN i (by omega)
 obtain ⟨j,hj⟩:∃ j:Nat,(a:Int)+(l4:Int)*2=(j:Int):=⟨a+l4*2,by omega⟩
 have Hj:Hid (a+l4*2=j):=by unfold Hid;omega
 have hwj:=wrapN j (by omega)
 obtain ⟨k,hk⟩:∃ k:Nat,(a:Int)+(l4:Int)*3=(k:Int):=⟨a+l4*3,by omega⟩
 have Hk:Hid (a+l4*3=k):=by unfold Hid;omega
 have hwk:=wrapN k (by omega)
 have hi1:(a:Int)+(l4:Int)=i:=by omega
 rw [Hi.out,Hj.out,Hk.out] at HV
 have hkb:k<b:=by omega
 have hij:i≤j∧j≤k:=by omega
 have Uj:=Lib.hid (S.box #[.int .i64 0] 3)
 clear S
 go_enter Tryz.func186,Tryz.ntmps186
 by_cases h50:50≤len
 ·have aa7:(50:Int)≤len:=by omega
  rw [if_pos h50] at HV
  have aeT:12≤l4:=by omega
  have Yd:=Lib.hid (Ey (cap:=cap) i 0 (by omega) (by omega) hn (by omega) _ Uj.out)
  have H1:=Lib.hid (sJ d i 0 (by omega))
  generalize medianAdjacent aC d i 0=r1 at *
  obtain ⟨u1,s1⟩:=r1
  dsimp only at *
  have h1:=H1.out
  have WQ:Hid (∀ (w':World) (q:Nat),Sp w0 F0 w' (ae q #[.int .i64 s1] 3::fB g T d J::L)→_):=Lib.hid (fun w' q S'=>Ey (w:=w') (cap:=cap) j s1 (by omega) (by omega) hn (by omega) q S')
  have H2:=Lib.hid (sJ d j s1 (by omega))
  generalize medianAdjacent aC d j s1=r2 at *
  obtain ⟨u2,s2⟩:=r2
  dsimp only at *
  have h2:=H2.out
  have HM3:Hid (∀ (w':World) (q:Nat),Sp w0 F0 w' (ae q #[.int .i64 s2] 3::fB g T d J::L)→_):=Lib.hid (fun w' q S'=>Ey (w:=w') (cap:=cap) k s2 (by omega) (by omega) hn (by omega) q S')
  have H3:=Lib.hid (sJ d k s2 (by omega))
  generalize medianAdjacent aC d k s2=r3 at *
  obtain ⟨u3,s3⟩:=r3
  dsimp only at *
  have h3:=H3.out
  have Yt:Hid (∀ (w':World) (q:Nat),Sp w0 F0 w' (ae q #[.int .i64 s3] 3::fB g T d J::L)→_):=Lib.hid (fun w' q S'=>Ex (w:=w') (cap:=cap) u1 u2 u3 s3 (by omega) (by omega) (by omega) hn (by omega) q S')
  generalize median aC d u1 u2 u3 s3=r4 at *
  obtain ⟨p,s⟩:=r4
  dsimp only at *
  clear h1 h2 h3 H1 H2 H3
  go_wp2_with fail
  generalize w.alloc _=w1 at *
  generalize w.heap.size=q at *
  refine Yd.out.mono ?_
  rintro e w2 ⟨rfl,S⟩
  have HA:=Lib.hid (WQ.out _ _ S)
  clear S Uj Yd
  go_wp2_with fail
  refine HA.out.mono ?_
  rintro e w3 ⟨rfl,S⟩
  have HA2:=Lib.hid (HM3.out _ _ S)
  clear S HA
  go_wp2_with fail
  refine HA2.out.mono ?_
  rintro e w4 ⟨rfl,S⟩
  have HA3:=Lib.hid (Yt.out _ _ S)
  clear S HA2
  go_wp2_with fail
  refine HA3.out.mono ?_
  rintro e w5 ⟨rfl,S⟩
  have aX:=Lib.hid S
  clear S HA3 WQ HM3 Yt
  have cq:=aX.out.cell
  by_cases hs0:s=0
  ·subst hs0
   have HW:Hid (R=(p,Hint.increasing)):=by unfold Hid;rw [HV.out];rfl
   go_wp2_with fail
   go_ret2
   rw [HW.out]
   exact ⟨rfl,aX.out.drop⟩
  ·have aa8:¬ (s:Int)=0:=by omega
   by_cases hs1:s=12
   ·subst hs1
    have HW:Hid (R=(p,Hint.decreasing)):=by unfold Hid;rw [HV.out];rfl
    go_wp2_with fail
    go_ret2
    rw [HW.out]
    exact ⟨rfl,aX.out.drop⟩
   ·have aa9:¬ (s:Int)=12:=by omega
    have HW:Hid (R=(p,Hint.unknown)):=by unfold Hid;rw [HV.out,if_neg hs0,if_neg hs1]
    go_wp2_with fail
    go_ret2
    rw [HW.out]
    exact ⟨rfl,aX.out.drop⟩
 ·have aa7:¬ (50:Int)≤len:=by omega
  rw [if_neg h50] at HV
  have Yt:=Lib.hid (Ex (cap:=cap) i j k 0 (by omega) (by omega) (by omega) hn (by omega) _ Uj.out)
  generalize median aC d i j k 0=r4 at *
  obtain ⟨p,s⟩:=r4
  dsimp only at *
  go_wp2_with fail
  generalize w.alloc _=w1 at *
  generalize w.heap.size=q at *
  refine Yt.out.mono ?_
  rintro e w5 ⟨rfl,S⟩
  have aX:=Lib.hid S
  clear S Yt Uj
  have cq:=aX.out.cell
  by_cases hs0:s=0
  ·subst hs0
   have HW:Hid (R=(p,Hint.increasing)):=by unfold Hid;rw [HV.out];rfl
   go_wp2_with fail
   go_ret2
   rw [HW.out]
   exact ⟨rfl,aX.out.drop⟩
  ·have aa8:¬ (s:Int)=0:=by omega
   by_cases hs1:s=12
   ·subst hs1
    have HW:Hid (R=(p,Hint.decreasing)):=by unfold Hid;rw [HV.out];rfl
    go_wp2_with fail
    go_ret2
    rw [HW.out]
    exact ⟨rfl,aX.out.drop⟩
   ·have aa9:¬ (s:Int)=12:=by omega
    have HW:Hid (R=(p,Hint.unknown)):=by unfold Hid;rw [HV.out,if_neg hs0,if_neg hs1]
    go_wp2_with fail
    go_ret2
    rw [HW.out]
    exact ⟨rfl,aX.out.drop⟩
end
end
end Go.Proofs.YtangbdahnmomlaaGreatDoor
