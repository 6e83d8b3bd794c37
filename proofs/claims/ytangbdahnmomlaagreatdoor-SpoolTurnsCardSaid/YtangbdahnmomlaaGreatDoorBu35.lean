/- slices.Sort of numbers of the kind uint64: partition. Conditions: the lengths fit. -/
import Derived.Test.YtangbdahnmomlaaGreatDoorBu34
set_option linter.unnecessarySimpa false
set_option linter.unusedSimpArgs false
set_option linter.unusedVariables false
set_option maxHeartbeats 4000000
set_option maxRecDepth 100000
namespace Go.Proofs.YtangbdahnmomlaaGreatDoor
section
open Go.RowKit Go.Sort
section
variable {w0 w:World} {F0:List Nat} {L:List aT} {g T cap:Nat} {d:Array Nat} {J:Array Value}
theorem Lc {a b q p:Nat} {D:Array Nat} (h:(swp D a q)[a]! = p) :
  partition aC D a b q=if scanUp (fun x=>aC x p) (swp D a q) (b - 1) (a+1) > scanDown (fun x => !aC x p) (swp D a q) (scanUp (fun x=>aC x p) (swp D a q) (b - 1) (a+1)) (b - 1) then
    (scanDown (fun x => !aC x p) (swp D a q) (scanUp (fun x=>aC x p) (swp D a q) (b - 1) (a+1)) (b - 1),true,swp (swp D a q) (scanDown (fun x => !aC x p) (swp D a q) (scanUp (fun x=>aC x p) (swp D a q) (b - 1) (a+1)) (b - 1)) a)
   else
    ((partLoop aC a (scanUp (fun x => aC x p) (swp D a q) (b - 1) (a + 1) + 1) (scanDown (fun x => !aC x p) (swp D a q) (scanUp (fun x => aC x p) (swp D a q) (b - 1) (a + 1)) (b - 1) - 1) (swp (swp D a q) (scanUp (fun x => aC x p) (swp D a q) (b - 1) (a + 1)) (scanDown (fun x => !aC x p) (swp D a q) (scanUp (fun x => aC x p) (swp D a q) (b - 1) (a + 1)) (b - 1)))).1,false,
     swp (partLoop aC a (scanUp (fun x=>aC x p) (swp D a q) (b - 1) (a+1)+1) (scanDown (fun x => !aC x p) (swp D a q) (scanUp (fun x=>aC x p) (swp D a q) (b - 1) (a+1)) (b - 1) - 1) (swp (swp D a q) (scanUp (fun x=>aC x p) (swp D a q) (b - 1) (a+1)) (scanDown (fun x => !aC x p) (swp D a q) (scanUp (fun x=>aC x p) (swp D a q) (b - 1) (a+1)) (b - 1)))).2
      (partLoop aC a (scanUp (fun x=>aC x p) (swp D a q) (b - 1) (a+1)+1) (scanDown (fun x => !aC x p) (swp D a q) (scanUp (fun x=>aC x p) (swp D a q) (b - 1) (a+1)) (b - 1) - 1) (swp (swp D a q) (scanUp (fun x=>aC x p) (swp D a q) (b - 1) (a+1)) (scanDown (fun x => !aC x p) (swp D a q) (scanUp (fun x=>aC x p) (swp D a q) (b - 1) (a+1)) (b - 1)))).1 a):=by
 unfold partition
 simp only [h]
theorem Yu (a b q:Nat) (haq:a≤q) (hqb:q<b) (hb:b≤d.size) (hn:d.size≤1000000) (S:Sp w0 F0 w (fB g T d J::L)) :
  Calls Tryz.prog 191 #[JI g d.size cap,.int .i64 a,.int .i64 b,.int .i64 q] w fun e w2=>e=.returned (.tuple #[.int .i64 (partition aC d a b q).1,.bool (partition aC d a b q).2.1])∧Sp w0 F0 w2 (fB g T (partition aC d a b q).2.2 J::L):=by
 have HS:=Lib.hid S
 obtain ⟨p,hp⟩:∃ p,(swp d a q)[a]! = p:=⟨_,rfl⟩
 have HI:=Lib.hid (Lc (b:=b) hp)
 generalize partition aC d a b q=R at *
 have hn':(d.size:Int)≤1000000:=by omega
 obtain ⟨n,hnn⟩:∃ n,d.size=n:=⟨_,rfl⟩
 rw [hnn] at hn' hb hn ⊢
 have hb':(b:Int)≤n:=by omega
 have aa1:(a:Int)≤q:=by omega
 have aa2:(q:Int)<b:=by omega
 have HD:=Lib.hid hnn
 clear S hnn
 obtain ⟨x,hx⟩:∃ x,d[a]! = x:=⟨_,rfl⟩
 have bY:Hid (a<d.size∧d[a]! = x):=⟨by rw [HD.out];omega,hx⟩
 have hnx:(a:Int)<n:=by omega
 have cx:=HS.out.aO bY.out
 clear hx
 obtain ⟨y,hy⟩:∃ y,d[q]! = y:=⟨_,rfl⟩
 have eU:Hid (q<d.size∧d[q]! = y):=⟨by rw [HD.out];omega,hy⟩
 have hny:(q:Int)<n:=by omega
 have cy:=HS.out.aO eU.out
 clear hy
 have cx:=HS.out.aO bY.out
 have cy:=HS.out.aO eU.out
 have fx:=HS.out.free a
 have fy:=HS.out.free q
 have gy:=HS.out.kZ (i:=a) (j:=q) (y:=y) bY.out.1 eU.out.1
 have HP:=Lib.hid (HS.out.qF (i:=a) (j:=q) bY.out.1 eU.out.1 bY.out.2 eU.out.2)
 have HE:Hid ((swp d a q).size=n):=by unfold Hid;rw [swp_size];exact HD.out
 generalize swp d a q=d1 at *
 have Yv:Hid (a<d1.size∧d1[a]! = p):=⟨by rw [HE.out];omega,hp⟩
 clear HS hp
 obtain ⟨bb,hbb⟩:∃ bb:Nat,b - 1=bb:=⟨_,rfl⟩
 rw [hbb] at HI
 have hbI:(b:Int) - 1=bb:=by omega
 have hwb:=wrapN bb (by omega)
 obtain ⟨aa,haa⟩:∃ aa:Nat,a+1=aa:=⟨_,rfl⟩
 rw [haa] at HI
 have haI:(a:Int)+1=aa:=by omega
 have Za:=wrapN aa (by omega)
 have hu:=sH (p:=(fun x=>aC x p)) (D:=d1) (j:=bb) _ aa (Nat.le_refl _)
 obtain ⟨i1,hi1⟩:∃ i1,scanUp (fun x=>aC x p) d1 bb aa=i1:=⟨_,rfl⟩
 rw [hi1] at HI hu
 have hv:=sI (p:=(fun x => !aC x p)) (D:=d1) (i:=i1) (by omega) bb
 obtain ⟨j1,hj1⟩:∃ j1,scanDown (fun x => !aC x p) d1 i1 bb=j1:=⟨_,rfl⟩
 rw [hj1] at HI hv
 have HU:=Lib.hid hi1
 have HV:=Lib.hid hj1
 clear hi1 hj1
 go_enter Tryz.func191,Tryz.ntmps191
 go_upto_region 1 with (fail)
 go_region
 all_goals
  clear cx cy fx fy gy bY eU HD
  have HD:=HE
  have uz:=Yv
  clear HE Yv
  have hna:(a:Int)<n:=by omega
  have aeW:(bb:Int)<n:=by omega
  have hab':(aa:Int)≤bb+1:=by omega
  have hda:a<aa:=by omega
  go_upto_block 0 with (fail)
  go_cut [10] (fun vk wx=>vk=.int .i64 i1∧Sp w0 F0 wx (fB g T d1 J::L))
  case first =>
   go_wp2_with fail
   go_loopw [10] (fun vk wq=>∃ k:Nat,vk=.int .i64 k∧aa≤k∧k≤bb+2∧scanUp (fun x=>aC x p) d1 bb k=i1∧Sp w0 F0 wq (fB g T d1 J::L)) (fun vk _=>bb+3 - (intOf vk).toNat)
   case atStart=>exact ⟨aa,rfl,by omega,by omega,HU.out,HP.out⟩
   case round =>
    obtain ⟨k,rfl,hk1,hk2,hU,S⟩:=hrel
    have jm:=Lib.hid S
    have xO:=Lib.hid hU
    clear S hU
    by_cases hc:k≤bb
    ·have hc1:(k:Int)≤bb:=by omega
     obtain ⟨x,hx⟩:∃ x,d1[k]! = x:=⟨_,rfl⟩
     have bY:Hid (k<d1.size∧d1[k]! = x):=⟨by rw [HD.out];omega,hx⟩
     have hnx:(k:Int)<n:=by omega
     have cx:=jm.out.aO bY.out
     clear hx
     have cp:=jm.out.aO uz.out
     by_cases hxy:x<p
     ·have hd:=decide_eq_true hxy
      have HO:Hid (scanUp (fun x=>aC x p) d1 bb (k+1)=i1):=(K8 (i:=k) (by omega) (by rw [bY.out.2];simpa [aC] using hxy)).symm.trans xO.out
      go_wp2_with fail
      refine au (S:=fun wx=>Sp w0 F0 wx (fB g T d1 J::L)∧(wx.cell? ⟨g,k,none⟩=some (.int .u64 x))∧(wx.cell? ⟨g,a,none⟩=some (.int .u64 p))) (by kernel_rfl) (by kernel_rfl) ⟨(jm.out).drew,cx,cp⟩ ?_
      repeat
       refine Exists.intro ?_ (And.intro (fun wS hS K hK=>?_) (And.intro ?_ ?_))
       rotate_left 1
       ·obtain ⟨hS1,hS2,eG⟩:=hS
        first
         | (refine ah rfl ?_;simp only [Act.put,List.setIfInBounds_toArray,List.set_cons_zero,List.set_cons_succ];exact hK.out _ ⟨hS1,hS2,eG⟩)
         | (refine ag rfl ?_;go_simp;exact hK.out _ ⟨hS1,hS2,eG⟩)
         | (refine ag rfl ?_;go_simp;go_at_call 189;refine (dX x p hS1).mono ?_;rw [hd];rintro e mZ ⟨rfl,bS⟩;exact hK.out _ ⟨bS,bS.aO bY.out,bS.aO uz.out⟩)
       ·rfl
      intro wE hE
      have aX:=Lib.hid hE.1
      clear hE
      clear cx cp hd jm
      go_wp2_with fail
      go_roundw
      case rel=>exact ⟨k+1,by go_num,by omega,by omega,HO.out,aX.out⟩
      case measure=>(simp [intOf];try omega)
     ·have hd:=decide_eq_false hxy
      have HO:Hid (k=i1):=(og (i:=k) (fun h=>by have h2:=h.2;rw [bY.out.2] at h2;simp [aC] at h2;omega)).symm.trans xO.out
      go_wp2_with fail
      refine au (S:=fun wx=>Sp w0 F0 wx (fB g T d1 J::L)∧(wx.cell? ⟨g,k,none⟩=some (.int .u64 x))∧(wx.cell? ⟨g,a,none⟩=some (.int .u64 p))) (by kernel_rfl) (by kernel_rfl) ⟨(jm.out).drew,cx,cp⟩ ?_
      repeat
       refine Exists.intro ?_ (And.intro (fun wS hS K hK=>?_) (And.intro ?_ ?_))
       rotate_left 1
       ·obtain ⟨hS1,hS2,eG⟩:=hS
        first
         | (refine ah rfl ?_;simp only [Act.put,List.setIfInBounds_toArray,List.set_cons_zero,List.set_cons_succ];exact hK.out _ ⟨hS1,hS2,eG⟩)
         | (refine ag rfl ?_;go_simp;exact hK.out _ ⟨hS1,hS2,eG⟩)
         | (refine ag rfl ?_;go_simp;go_at_call 189;refine (dX x p hS1).mono ?_;rw [hd];rintro e mZ ⟨rfl,bS⟩;exact hK.out _ ⟨bS,bS.aO bY.out,bS.aO uz.out⟩)
       ·rfl
      intro wE hE
      have aX:=Lib.hid hE.1
      clear hE
      clear cx cp hd jm
      go_wp2_with fail
      go_meet
      exact ⟨by rw [HO.out],aX.out⟩
    ·have hc1:¬ (k:Int)≤bb:=by omega
     have HO:Hid (k=i1):=(og (i:=k) (fun h=>hc h.1)).symm.trans xO.out
     go_wp2_with fail
     refine au (S:=fun wx=>Sp w0 F0 wx (fB g T d1 J::L)) (by kernel_rfl) (by kernel_rfl) (jm.out).drew ?_
     repeat
      refine Exists.intro ?_ (And.intro (fun wS hS K hK=>?_) (And.intro ?_ ?_))
      rotate_left 1
      ·have hS1:=hS
       first
        | (refine ah rfl ?_;simp only [Act.put,List.setIfInBounds_toArray,List.set_cons_zero,List.set_cons_succ];exact hK.out _ hS1)
        | (refine ag rfl ?_;go_simp;exact hK.out _ hS1)
      ·rfl
     intro wE hE
     have aX:=Lib.hid hE
     clear hE
     go_wp2_with fail
     go_meet
     exact ⟨by rw [HO.out],aX.out⟩
  case rest =>
   obtain ⟨rfl,S⟩:=hcut
   have HS2:=Lib.hid S
   clear S HP HU
   have HU:=HV
   clear HV
   go_upto_block 2 with (fail)
   go_cut [11] (fun vk wx=>vk=.int .i64 j1∧Sp w0 F0 wx (fB g T d1 J::L))
   case first =>
    go_wp2_with fail
    go_loopw [11] (fun vk wq=>∃ k:Nat,vk=.int .i64 k∧k≤bb∧i1≤k+2∧scanDown (fun x => !aC x p) d1 i1 k=j1∧Sp w0 F0 wq (fB g T d1 J::L)) (fun vk _=>(intOf vk).toNat)
    case atStart=>exact ⟨bb,rfl,by omega,by omega,HU.out,HS2.out⟩
    case round =>
     obtain ⟨k,rfl,hk1,hk2,hU,S⟩:=hrel
     have jm:=Lib.hid S
     have xO:=Lib.hid hU
     clear S hU
     by_cases hc:i1≤k
     ·have hc1:(i1:Int)≤k:=by omega
      obtain ⟨x,hx⟩:∃ x,d1[k]! = x:=⟨_,rfl⟩
      have bY:Hid (k<d1.size∧d1[k]! = x):=⟨by rw [HD.out];omega,hx⟩
      have hnx:(k:Int)<n:=by omega
      have cx:=jm.out.aO bY.out
      clear hx
      have cp:=jm.out.aO uz.out
      by_cases hxy:x<p
      ·have hd:=decide_eq_true hxy
       have HO:Hid (k=j1):=(qG (j:=k) (fun h=>by have h2:=h.2;rw [bY.out.2] at h2;simp [aC] at h2;omega)).symm.trans xO.out
       go_wp2_with fail
       refine au (S:=fun wx=>Sp w0 F0 wx (fB g T d1 J::L)∧(wx.cell? ⟨g,k,none⟩=some (.int .u64 x))∧(wx.cell? ⟨g,a,none⟩=some (.int .u64 p))) (by kernel_rfl) (by kernel_rfl) ⟨(jm.out).drew,cx,cp⟩ ?_
       repeat
        refine Exists.intro ?_ (And.intro (fun wS hS K hK=>?_) (And.intro ?_ ?_))
        rotate_left 1
        ·obtain ⟨hS1,hS2,eG⟩:=hS
         first
          | (refine ah rfl ?_;simp only [Act.put,List.setIfInBounds_toArray,List.set_cons_zero,List.set_cons_succ];exact hK.out _ ⟨hS1,hS2,eG⟩)
          | (refine ag rfl ?_;go_simp;exact hK.out _ ⟨hS1,hS2,eG⟩)
          | (refine ag rfl ?_;go_simp;go_at_call 189;refine (dX x p hS1).mono ?_;rw [hd];rintro e mZ ⟨rfl,bS⟩;exact hK.out _ ⟨bS,bS.aO bY.out,bS.aO uz.out⟩)
        ·rfl
       intro wE hE
       have aX:=Lib.hid hE.1
       clear hE
       clear cx cp hd jm
       go_wp2_with fail
       go_meet
       exact ⟨by rw [HO.out],aX.out⟩
      ·have hd:=decide_eq_false hxy
       have HO:Hid (scanDown (fun x => !aC x p) d1 i1 (k - 1)=j1):=(K9 (j:=k) (by omega) (by omega) (by rw [bY.out.2];simpa [aC] using hxy)).symm.trans xO.out
       go_wp2_with fail
       refine au (S:=fun wx=>Sp w0 F0 wx (fB g T d1 J::L)∧(wx.cell? ⟨g,k,none⟩=some (.int .u64 x))∧(wx.cell? ⟨g,a,none⟩=some (.int .u64 p))) (by kernel_rfl) (by kernel_rfl) ⟨(jm.out).drew,cx,cp⟩ ?_
       repeat
        refine Exists.intro ?_ (And.intro (fun wS hS K hK=>?_) (And.intro ?_ ?_))
        rotate_left 1
        ·obtain ⟨hS1,hS2,eG⟩:=hS
         first
          | (refine ah rfl ?_;simp only [Act.put,List.setIfInBounds_toArray,List.set_cons_zero,List.set_cons_succ];exact hK.out _ ⟨hS1,hS2,eG⟩)
          | (refine ag rfl ?_;go_simp;exact hK.out _ ⟨hS1,hS2,eG⟩)
          | (refine ag rfl ?_;go_simp;go_at_call 189;refine (dX x p hS1).mono ?_;rw [hd];rintro e mZ ⟨rfl,bS⟩;exact hK.out _ ⟨bS,bS.aO bY.out,bS.aO uz.out⟩)
        ·rfl
       intro wE hE
       have aX:=Lib.hid hE.1
       clear hE
       clear cx cp hd jm
       go_wp2_with fail
       go_roundw
       case rel=>exact ⟨k - 1,by go_num,by omega,by omega,HO.out,aX.out⟩
       case measure=>(simp [intOf];try omega)
     ·have hc1:¬ (i1:Int)≤k:=by omega
      have HO:Hid (k=j1):=(qG (j:=k) (fun h=>hc h.1)).symm.trans xO.out
      go_wp2_with fail
      refine au (S:=fun wx=>Sp w0 F0 wx (fB g T d1 J::L)) (by kernel_rfl) (by kernel_rfl) (jm.out).drew ?_
      repeat
       refine Exists.intro ?_ (And.intro (fun wS hS K hK=>?_) (And.intro ?_ ?_))
       rotate_left 1
       ·have hS1:=hS
        first
         | (refine ah rfl ?_;simp only [Act.put,List.setIfInBounds_toArray,List.set_cons_zero,List.set_cons_succ];exact hK.out _ hS1)
         | (refine ag rfl ?_;go_simp;exact hK.out _ hS1)
       ·rfl
      intro wE hE
      have aX:=Lib.hid hE
      clear hE
      go_wp2_with fail
      go_meet
      exact ⟨by rw [HO.out],aX.out⟩
   case rest =>
    obtain ⟨rfl,S⟩:=hcut
    have bI:=Lib.hid S
    clear S HS2 HU
    have aeX:(j1:Int)<n:=by omega
    have aeY:(i1:Int)≤n:=by omega
    by_cases hgt:j1<i1
    ·have Qb:(j1:Int)<i1:=by omega
     have HO:Hid (R=(j1,true,swp d1 j1 a)):=by unfold Hid;rw [HI.out,if_pos hgt]
     obtain ⟨x,hx⟩:∃ x,d1[j1]! = x:=⟨_,rfl⟩
     have bY:Hid (j1<d1.size∧d1[j1]! = x):=⟨by rw [HD.out];omega,hx⟩
     have hnx:(j1:Int)<n:=by omega
     have cx:=bI.out.aO bY.out
     clear hx
     have cx:=bI.out.aO bY.out
     have cp:=bI.out.aO uz.out
     have fx:=bI.out.free j1
     have fp:=bI.out.free a
     have gp:=bI.out.kZ (i:=j1) (j:=a) (y:=p) bY.out.1 uz.out.1
     have HP:=Lib.hid (bI.out.qF (i:=j1) (j:=a) bY.out.1 uz.out.1 bY.out.2 uz.out.2)
     go_wp2_with fail
     go_region
     all_goals
      clear cx cp fx fp gp
      go_wp2_with fail
      go_ret2
      rw [HO.out]
      exact ⟨rfl,HP.out⟩
    ·have Qb:¬ (j1:Int)<i1:=by omega
     have HO:Hid (R=((partLoop aC a (i1+1) (j1 - 1) (swp d1 i1 j1)).1,false,swp (partLoop aC a (i1+1) (j1 - 1) (swp d1 i1 j1)).2 (partLoop aC a (i1+1) (j1 - 1) (swp d1 i1 j1)).1 a)):=by unfold Hid;rw [HI.out,if_neg hgt]
     obtain ⟨RR,hRR⟩:∃ RR,partLoop aC a (i1+1) (j1 - 1) (swp d1 i1 j1)=RR:=⟨_,rfl⟩
     rw [hRR] at HO
     have HRR:=Lib.hid hRR
     clear HI hRR
     obtain ⟨x,hx⟩:∃ x,d1[i1]! = x:=⟨_,rfl⟩
     have bY:Hid (i1<d1.size∧d1[i1]! = x):=⟨by rw [HD.out];omega,hx⟩
     have hnx:(i1:Int)<n:=by omega
     have cx:=bI.out.aO bY.out
     clear hx
     obtain ⟨y,hy⟩:∃ y,d1[j1]! = y:=⟨_,rfl⟩
     have eU:Hid (j1<d1.size∧d1[j1]! = y):=⟨by rw [HD.out];omega,hy⟩
     have hny:(j1:Int)<n:=by omega
     have cy:=bI.out.aO eU.out
     clear hy
     have cx:=bI.out.aO bY.out
     have cy:=bI.out.aO eU.out
     have fx:=bI.out.free i1
     have fy:=bI.out.free j1
     have gy:=bI.out.kZ (i:=i1) (j:=j1) (y:=y) bY.out.1 eU.out.1
     have HP:=Lib.hid (bI.out.qF (i:=i1) (j:=j1) bY.out.1 eU.out.1 bY.out.2 eU.out.2)
     have Xe:Hid ((swp d1 i1 j1)[a]! = p):=by unfold Hid;rw [swp_get (by omega) (by omega)];exact uz.out.2
     have HE:Hid ((swp d1 i1 j1).size=n):=by unfold Hid;rw [swp_size];exact HD.out
     clear bI HD uz
     go_wp2_with fail
     go_region
     all_goals
      clear cx cy fx fy gy bY eU
      generalize swp d1 i1 j1=d2 at *
      clear hbI haI
      go_wp2_with fail
      go_loopw [10,11] (fun vi vj wr=>∃ (i j:Nat) (D:Array Nat),vi=.int .i64 i∧vj=.int .i64 j∧a+1≤i∧i≤j+2∧a≤j∧j<b∧D.size=n∧D[a]! = p∧partLoop aC a i j D=RR∧Sp w0 F0 wr (fB g T D J::L)) (fun vi vj _=>(intOf vj).toNat+2 - (intOf vi).toNat)
      case atStart=>exact ⟨i1+1,j1 - 1,d2,by go_num,by go_num,by omega,by omega,by omega,by omega,HE.out,Xe.out,HRR.out,HP.out⟩
      case round =>
       clear HP HE Xe HRR hu hv
       obtain ⟨i,j,D,rfl,rfl,hi,hij,haj,hj,hD,hp,hI,S⟩:=hrel
       have HS:=Lib.hid S
       have HD:=Lib.hid hD
       have uz:Hid (a<D.size∧D[a]! = p):=⟨by rw [hD];omega,hp⟩
       have HQ:=Lib.hid (partLoop_eq (i:=i) (j:=j) hp (by omega))
       rw [hI] at HQ
       have hu:=sH (p:=(fun x=>aC x p)) (D:=D) (j:=j) _ i (Nat.le_refl _)
       obtain ⟨i2,hi2⟩:∃ i2,scanUp (fun x=>aC x p) D j i=i2:=⟨_,rfl⟩
       rw [hi2] at HQ hu
       have hv:=sI (p:=(fun x => !aC x p)) (D:=D) (i:=i2) (by omega) j
       obtain ⟨j2,hj2⟩:∃ j2,scanDown (fun x => !aC x p) D i2 j=j2:=⟨_,rfl⟩
       rw [hj2] at HQ hv
       have HU:=Lib.hid hi2
       have HV:=Lib.hid hj2
       clear S hD hp hI hi2 hj2
       have hij':(i:Int)≤(j:Int)+2:=by omega
       have hjb':(j:Int)<b:=by omega
       obtain ⟨wo,rfl⟩:∃ wo:World,wo=wr:=⟨_,rfl⟩
       go_upto_block 6 with (fail)
       go_cut [10] (fun vk wx=>vk=.int .i64 i2∧Sp w0 F0 wx (fB g T D J::L))
       case first =>
        go_wp2_with fail
        go_loopw [10] (fun vk wq=>∃ k:Nat,vk=.int .i64 k∧i≤k∧k≤j+2∧scanUp (fun x=>aC x p) D j k=i2∧Sp w0 F0 wq (fB g T D J::L)) (fun vk _=>j+3 - (intOf vk).toNat)
        case atStart=>exact ⟨i,rfl,by omega,by omega,HU.out,HS.out⟩
        case round =>
         obtain ⟨k,rfl,hk1,hk2,hU,S⟩:=hrel
         have jm:=Lib.hid S
         have xO:=Lib.hid hU
         clear S hU
         by_cases hc:k≤j
         ·have hc1:(k:Int)≤j:=by omega
          obtain ⟨x,hx⟩:∃ x,D[k]! = x:=⟨_,rfl⟩
          have bY:Hid (k<D.size∧D[k]! = x):=⟨by rw [HD.out];omega,hx⟩
          have hnx:(k:Int)<n:=by omega
          have cx:=jm.out.aO bY.out
          clear hx
          have cp:=jm.out.aO uz.out
          by_cases hxy:x<p
          ·have hd:=decide_eq_true hxy
           have HO:Hid (scanUp (fun x=>aC x p) D j (k+1)=i2):=(K8 (i:=k) (by omega) (by rw [bY.out.2];simpa [aC] using hxy)).symm.trans xO.out
           go_wp2_with fail
           refine au (S:=fun wx=>Sp w0 F0 wx (fB g T D J::L)∧(wx.cell? ⟨g,k,none⟩=some (.int .u64 x))∧(wx.cell? ⟨g,a,none⟩=some (.int .u64 p))) (by kernel_rfl) (by kernel_rfl) ⟨(jm.out).drew,cx,cp⟩ ?_
           repeat
            refine Exists.intro ?_ (And.intro (fun wS hS K hK=>?_) (And.intro ?_ ?_))
            rotate_left 1
            ·obtain ⟨hS1,hS2,eG⟩:=hS
             first
              | (refine ah rfl ?_;simp only [Act.put,List.setIfInBounds_toArray,List.set_cons_zero,List.set_cons_succ];exact hK.out _ ⟨hS1,hS2,eG⟩)
              | (refine ag rfl ?_;go_simp;exact hK.out _ ⟨hS1,hS2,eG⟩)
              | (refine ag rfl ?_;go_simp;go_at_call 189;refine (dX x p hS1).mono ?_;rw [hd];rintro e mZ ⟨rfl,bS⟩;exact hK.out _ ⟨bS,bS.aO bY.out,bS.aO uz.out⟩)
            ·rfl
           intro wE hE
           have aX:=Lib.hid hE.1
           clear hE
           clear cx cp hd jm
           go_wp2_with fail
           go_roundw
           case rel=>exact ⟨k+1,by go_num,by omega,by omega,HO.out,aX.out⟩
           case measure=>(simp [intOf];try omega)
          ·have hd:=decide_eq_false hxy
           have HO:Hid (k=i2):=(og (i:=k) (fun h=>by have h2:=h.2;rw [bY.out.2] at h2;simp [aC] at h2;omega)).symm.trans xO.out
           go_wp2_with fail
           refine au (S:=fun wx=>Sp w0 F0 wx (fB g T D J::L)∧(wx.cell? ⟨g,k,none⟩=some (.int .u64 x))∧(wx.cell? ⟨g,a,none⟩=some (.int .u64 p))) (by kernel_rfl) (by kernel_rfl) ⟨(jm.out).drew,cx,cp⟩ ?_
           repeat
            refine Exists.intro ?_ (And.intro (fun wS hS K hK=>?_) (And.intro ?_ ?_))
            rotate_left 1
            ·obtain ⟨hS1,hS2,eG⟩:=hS
             first
              | (refine ah rfl ?_;simp only [Act.put,List.setIfInBounds_toArray,List.set_cons_zero,List.set_cons_succ];exact hK.out _ ⟨hS1,hS2,eG⟩)
              | (refine ag rfl ?_;go_simp;exact hK.out _ ⟨hS1,hS2,eG⟩)
              | (refine ag rfl ?_;go_simp;go_at_call 189;refine (dX x p hS1).mono ?_;rw [hd];rintro e mZ ⟨rfl,bS⟩;exact hK.out _ ⟨bS,bS.aO bY.out,bS.aO uz.out⟩)
            ·rfl
           intro wE hE
           have aX:=Lib.hid hE.1
           clear hE
           clear cx cp hd jm
           go_wp2_with fail
           go_meet
           exact ⟨by rw [HO.out],aX.out⟩
         ·have hc1:¬ (k:Int)≤j:=by omega
          have HO:Hid (k=i2):=(og (i:=k) (fun h=>hc h.1)).symm.trans xO.out
          go_wp2_with fail
          refine au (S:=fun wx=>Sp w0 F0 wx (fB g T D J::L)) (by kernel_rfl) (by kernel_rfl) (jm.out).drew ?_
          repeat
           refine Exists.intro ?_ (And.intro (fun wS hS K hK=>?_) (And.intro ?_ ?_))
           rotate_left 1
           ·have hS1:=hS
            first
             | (refine ah rfl ?_;simp only [Act.put,List.setIfInBounds_toArray,List.set_cons_zero,List.set_cons_succ];exact hK.out _ hS1)
             | (refine ag rfl ?_;go_simp;exact hK.out _ hS1)
           ·rfl
          intro wE hE
          have aX:=Lib.hid hE
          clear hE
          go_wp2_with fail
          go_meet
          exact ⟨by rw [HO.out],aX.out⟩
       case rest =>
        obtain ⟨rfl,S⟩:=hcut
        have HS2:=Lib.hid S
        clear S HS HU
        have HU:=HV
        clear HV
        go_upto_block 8 with (fail)
        go_cut [11] (fun vk wx=>vk=.int .i64 j2∧Sp w0 F0 wx (fB g T D J::L))
        case first =>
         go_wp2_with fail
         go_loopw [11] (fun vk wq=>∃ k:Nat,vk=.int .i64 k∧k≤j∧i2≤k+2∧scanDown (fun x => !aC x p) D i2 k=j2∧Sp w0 F0 wq (fB g T D J::L)) (fun vk _=>(intOf vk).toNat)
         case atStart=>exact ⟨j,rfl,by omega,by omega,HU.out,HS2.out⟩
         case round =>
          obtain ⟨k,rfl,hk1,hk2,hU,S⟩:=hrel
          have jm:=Lib.hid S
          have xO:=Lib.hid hU
          clear S hU
          by_cases hc:i2≤k
          ·have hc1:(i2:Int)≤k:=by omega
           obtain ⟨x,hx⟩:∃ x,D[k]! = x:=⟨_,rfl⟩
           have bY:Hid (k<D.size∧D[k]! = x):=⟨by rw [HD.out];omega,hx⟩
           have hnx:(k:Int)<n:=by omega
           have cx:=jm.out.aO bY.out
           clear hx
           have cp:=jm.out.aO uz.out
           by_cases hxy:x<p
           ·have hd:=decide_eq_true hxy
            have HO:Hid (k=j2):=(qG (j:=k) (fun h=>by have h2:=h.2;rw [bY.out.2] at h2;simp [aC] at h2;omega)).symm.trans xO.out
            go_wp2_with fail
            refine au (S:=fun wx=>Sp w0 F0 wx (fB g T D J::L)∧(wx.cell? ⟨g,k,none⟩=some (.int .u64 x))∧(wx.cell? ⟨g,a,none⟩=some (.int .u64 p))) (by kernel_rfl) (by kernel_rfl) ⟨(jm.out).drew,cx,cp⟩ ?_
            repeat
             refine Exists.intro ?_ (And.intro (fun wS hS K hK=>?_) (And.intro ?_ ?_))
             rotate_left 1
             ·obtain ⟨hS1,hS2,eG⟩:=hS
              first
               | (refine ah rfl ?_;simp only [Act.put,List.setIfInBounds_toArray,List.set_cons_zero,List.set_cons_succ];exact hK.out _ ⟨hS1,hS2,eG⟩)
               | (refine ag rfl ?_;go_simp;exact hK.out _ ⟨hS1,hS2,eG⟩)
               | (refine ag rfl ?_;go_simp;go_at_call 189;refine (dX x p hS1).mono ?_;rw [hd];rintro e mZ ⟨rfl,bS⟩;exact hK.out _ ⟨bS,bS.aO bY.out,bS.aO uz.out⟩)
             ·rfl
            intro wE hE
            have aX:=Lib.hid hE.1
            clear hE
            clear cx cp hd jm
            go_wp2_with fail
            go_meet
            exact ⟨by rw [HO.out],aX.out⟩
           ·have hd:=decide_eq_false hxy
            have HO:Hid (scanDown (fun x => !aC x p) D i2 (k - 1)=j2):=(K9 (j:=k) (by omega) (by omega) (by rw [bY.out.2];simpa [aC] using hxy)).symm.trans xO.out
            go_wp2_with fail
            refine au (S:=fun wx=>Sp w0 F0 wx (fB g T D J::L)∧(wx.cell? ⟨g,k,none⟩=some (.int .u64 x))∧(wx.cell? ⟨g,a,none⟩=some (.int .u64 p))) (by kernel_rfl) (by kernel_rfl) ⟨(jm.out).drew,cx,cp⟩ ?_
            repeat
             refine Exists.intro ?_ (And.intro (fun wS hS K hK=>?_) (And.intro ?_ ?_))
             rotate_left 1
             ·obtain ⟨hS1,hS2,eG⟩:=hS
              first
               | (refine ah rfl ?_;simp only [Act.put,List.setIfInBounds_toArray,List.set_cons_zero,List.set_cons_succ];exact hK.out _ ⟨hS1,hS2,eG⟩)
               | (refine ag rfl ?_;go_simp;exact hK.out _ ⟨hS1,hS2,eG⟩)
               | (refine ag rfl ?_;go_simp;go_at_call 189;refine (dX x p hS1).mono ?_;rw [hd];rintro e mZ ⟨rfl,bS⟩;exact hK.out _ ⟨bS,bS.aO bY.out,bS.aO uz.out⟩)
             ·rfl
            intro wE hE
            have aX:=Lib.hid hE.1
            clear hE
            clear cx cp hd jm
            go_wp2_with fail
            go_roundw
            case rel=>exact ⟨k - 1,by go_num,by omega,by omega,HO.out,aX.out⟩
            case measure=>(simp [intOf];try omega)
          ·have hc1:¬ (i2:Int)≤k:=by omega
           have HO:Hid (k=j2):=(qG (j:=k) (fun h=>hc h.1)).symm.trans xO.out
           go_wp2_with fail
           refine au (S:=fun wx=>Sp w0 F0 wx (fB g T D J::L)) (by kernel_rfl) (by kernel_rfl) (jm.out).drew ?_
           repeat
            refine Exists.intro ?_ (And.intro (fun wS hS K hK=>?_) (And.intro ?_ ?_))
            rotate_left 1
            ·have hS1:=hS
             first
              | (refine ah rfl ?_;simp only [Act.put,List.setIfInBounds_toArray,List.set_cons_zero,List.set_cons_succ];exact hK.out _ hS1)
              | (refine ag rfl ?_;go_simp;exact hK.out _ hS1)
            ·rfl
           intro wE hE
           have aX:=Lib.hid hE
           clear hE
           go_wp2_with fail
           go_meet
           exact ⟨by rw [HO.out],aX.out⟩
        case rest =>
         obtain ⟨rfl,S⟩:=hcut
         have bI:=Lib.hid S
         clear S HS2 HU
         have aeZ:(j2:Int)<n:=by omega
         by_cases hgt:j2<i2
         ·have Qb:(j2:Int)<i2:=by omega
          have zz:Hid (RR=(j2,D)):=by unfold Hid;rw [HQ.out,if_pos hgt]
          rw [zz.out] at HO
          clear HQ zz
          obtain ⟨x,hx⟩:∃ x,D[j2]! = x:=⟨_,rfl⟩
          have bY:Hid (j2<D.size∧D[j2]! = x):=⟨by rw [HD.out];omega,hx⟩
          have hnx:(j2:Int)<n:=by omega
          have cx:=bI.out.aO bY.out
          clear hx
          have cx:=bI.out.aO bY.out
          have cp:=bI.out.aO uz.out
          have fx:=bI.out.free j2
          have fp:=bI.out.free a
          have gp:=bI.out.kZ (i:=j2) (j:=a) (y:=p) bY.out.1 uz.out.1
          have HP:=Lib.hid (bI.out.qF (i:=j2) (j:=a) bY.out.1 uz.out.1 bY.out.2 uz.out.2)
          go_wp2_with fail
          go_region
          all_goals
           clear cx cp fx fp gp
           go_wp2_with fail
           go_ret2
           rw [HO.out]
           exact ⟨rfl,HP.out⟩
         ·have Qb:¬ (j2:Int)<i2:=by omega
          have zz:Hid (partLoop aC a (i2+1) (j2 - 1) (swp D i2 j2)=RR):=by unfold Hid;rw [HQ.out,if_neg hgt]
          obtain ⟨x,hx⟩:∃ x,D[i2]! = x:=⟨_,rfl⟩
          have bY:Hid (i2<D.size∧D[i2]! = x):=⟨by rw [HD.out];omega,hx⟩
          have hnx:(i2:Int)<n:=by omega
          have cx:=bI.out.aO bY.out
          clear hx
          obtain ⟨y,hy⟩:∃ y,D[j2]! = y:=⟨_,rfl⟩
          have eU:Hid (j2<D.size∧D[j2]! = y):=⟨by rw [HD.out];omega,hy⟩
          have hny:(j2:Int)<n:=by omega
          have cy:=bI.out.aO eU.out
          clear hy
          have cx:=bI.out.aO bY.out
          have cy:=bI.out.aO eU.out
          have fx:=bI.out.free i2
          have fy:=bI.out.free j2
          have gy:=bI.out.kZ (i:=i2) (j:=j2) (y:=y) bY.out.1 eU.out.1
          have HP:=Lib.hid (bI.out.qF (i:=i2) (j:=j2) bY.out.1 eU.out.1 bY.out.2 eU.out.2)
          have Xe:Hid ((swp D i2 j2)[a]! = p):=by unfold Hid;rw [swp_get (by omega) (by omega)];exact uz.out.2
          clear bI HQ
          go_wp2_with fail
          go_region
          all_goals
           clear cx cy fx fy gy
           go_wp2_with fail
           go_roundw
           case rel=>exact ⟨i2+1,j2 - 1,_,by go_num,by go_num,by omega,by omega,by omega,by omega,by rw [swp_size];exact HD.out,Xe.out,zz.out,HP.out⟩
           case measure=>(simp [intOf];try omega)
end
end
end Go.Proofs.YtangbdahnmomlaaGreatDoor
