/- slices.Sort of numbers of the kind uint64: the row; cmp.Less; insertionSort, reverseRange. Conditions: the lengths fit. slices.Sort of numbers of -/
import Derived.BigQuiet
import Derived.Deep.DeepCutAuto
import Derived.Deep.QuietTactic
import Derived.Sort.AssemblyPlain
import Derived.Test.YtangbdahnmomlaaGreatDoorBu01
import Derived.Test.YtangbdahnmomlaaGreatDoorBu04
import Derived.Test.YtangbdahnmomlaaGreatDoorBu05
set_option linter.unnecessarySimpa false
set_option linter.unusedSimpArgs false
set_option linter.unusedVariables false
set_option maxHeartbeats 4000000
set_option maxRecDepth 100000
namespace Go.Proofs.YtangbdahnmomlaaGreatDoor
section
open Go.RowKit Go.Sort
def aC (x y:Nat):Bool:=decide (x<y)
theorem wrapN (k:Nat) (h:k≤1000000000):IntKind.i64.wrap (k:Int)=k:=by rw [IntKind.wrap_i64];omega
theorem K7:SWO aC:=⟨fun x=>by simp [aC],fun x y z h1 h2=>by simp [aC] at *;omega,fun x y z h1 h2=>by simp [aC] at *;omega⟩
def wQ (d:Array Nat) (J:Array Value):Array Value:=d.map (fun n:Nat=>Value.int .u64 n)++J
abbrev fB (g T:Nat) (d:Array Nat) (J:Array Value):aT:=ae g (wQ d J) T
abbrev JI (g n cap:Nat):Value:=.slice (some ⟨g,0,none⟩) n cap
theorem P7 (d:Array Nat) (J:Array Value) (i:Nat) (h:i<d.size):(wQ d J)[i]? = some (.int .u64 (d[i]! : Nat)):=by
 unfold wQ
 rw [Array.getElem?_append_left (by simpa using h),Array.getElem?_map,Array.getElem?_eq_getElem h,getElem!_pos d i h]
 rfl
theorem Bj (d:Array Nat) (J:Array Value) (i x:Nat) (h:i<d.size):(wQ d J).setIfInBounds i (.int .u64 x)=wQ (d.setIfInBounds i x) J:=by
 unfold wQ
 rw [Array.setIfInBounds_append_left (by simpa using h)]
 congr 1
 apply Array.ext_getElem?
 intro k
 rw [Array.getElem?_setIfInBounds,Array.getElem?_map,Array.getElem?_map,Array.getElem?_setIfInBounds]
 split
 ·subst_vars;simp [h]
 ·rfl
theorem swp_size (d:Array Nat) (i j:Nat):(swp d i j).size=d.size:=by simp [swp]
section
variable {w0 w:World} {F0:List Nat} {L:List aT} {g T cap:Nat} {d:Array Nat} {J:Array Value}
theorem Sp.ZE (S:Sp w0 F0 w (fB g T d J::L)) {i:Nat} (h:i<d.size):w.cell? ⟨g,i,none⟩=some (.int .u64 (d[i]! : Nat)):=by rw [S.cell,P7 d J i h]
theorem Sp.qF (S:Sp w0 F0 w (fB g T d J::L)) {i j x y:Nat} (hi:i<d.size) (hj:j<d.size) (hx:d[i]! = x) (hy:d[j]! = y) :
  Sp w0 F0 ((w.setCell ⟨g,i,none⟩ (.int .u64 y)).setCell ⟨g,j,none⟩ (.int .u64 x)).drew (fB g T (swp d i j) J::L):=by
 have h:=((S.set (o:=i) (.int .u64 y)).set (o:=j) (.int .u64 x)).drew
 rw [Bj _ _ _ _ hi,Bj _ _ _ _ (by simpa using hj)] at h
 unfold swp
 rw [hx,hy]
 exact h
theorem V5 (x:Nat) (w:World):Calls Tryz.prog 216 #[.int .u64 x] w fun e w2=>e=.returned (.bool false)∧w=w2:=by
 go_enter Tryz.func216,Tryz.ntmps216
 go_wp2
 go_ret
 exact ⟨by simp,rfl⟩
theorem Ym (x y:Nat) (w:World):Calls Tryz.prog 189 #[.int .u64 x,.int .u64 y] w fun e w2=>e=.returned (.bool (decide (x<y)))∧w=w2:=by
 go_enter Tryz.func189,Tryz.ntmps189
 go_wp2_with fail
 refine (V5 x w).mono ?_
 rintro e w2 ⟨rfl,rfl⟩
 go_wp2
 go_ret
 exact ⟨by simp,rfl⟩
theorem Sp.kZ (S:Sp w0 F0 w (fB g T d J::L)) {i j y:Nat} (hi:i<d.size) (hj:j<d.size):(w.setCell ⟨g,i,none⟩ (.int .u64 y)).cell? ⟨g,j,none⟩=some (.int .u64 ((d.setIfInBounds i y)[j]! : Nat)):=by
 have h:=S.set (o:=i) (.int .u64 y)
 rw [Bj _ _ _ _ hi] at h
 exact h.ZE (by simpa using hj)
theorem dX (x y:Nat) (S:Sp w0 F0 w L):Calls Tryz.prog 189 #[.int .u64 x,.int .u64 y] w fun e w2=>e=.returned (.bool (decide (x<y)))∧Sp w0 F0 w2 L:=(Ym x y w).mono fun _ _ ⟨he,hw⟩=>⟨he,hw ▸ S⟩
theorem Sp.aO (S:Sp w0 F0 w (fB g T d J::L)) {i x:Nat} (h:i<d.size∧d[i]! = x):w.cell? ⟨g,i,none⟩=some (.int .u64 x):=by rw [S.ZE h.1,h.2]
theorem insInner_go {a j:Nat} {E:Array Nat} (h:a<j) (hl:E[j]! < E[j - 1]!):insInner aC a j E=insInner aC a (j - 1) (swp E j (j - 1)):=by
 obtain ⟨k,rfl⟩:∃ k,j=k+1:=⟨j - 1,by omega⟩
 rw [insInner,if_pos]
 ·rfl
 ·simp only [Bool.and_eq_true,decide_eq_true_eq,aC]
  exact ⟨h,hl⟩
theorem insInner_stop {a j:Nat} {E:Array Nat} (h:¬ (a<j∧E[j]! < E[j - 1]!)):insInner aC a j E=E:=by
 cases j with
 | zero=>rfl
 | succ k =>
  rw [insInner,if_neg]
  simp only [Bool.and_eq_true,decide_eq_true_eq,aC]
  exact h
theorem aaW (a b:Nat) (hab:a≤b) (hb:b≤d.size) (hn:d.size≤1000000) (S:Sp w0 F0 w (fB g T d J::L)) :
  Calls Tryz.prog 183 #[JI g d.size cap,.int .i64 a,.int .i64 b] w fun e w2=>e=.returned (.tuple #[])∧Sp w0 F0 w2 (fB g T (insertionSort aC d a b) J::L):=by
 have HS:=Lib.hid S
 have HI:Hid (insOuter aC a b (a+1) d=insertionSort aC d a b):=rfl
 generalize insertionSort aC d a b=R at *
 have hn':(d.size:Int)≤1000000:=by omega
 have hb':(b:Int)≤d.size:=by omega
 have hab':(a:Int)≤b:=by omega
 obtain ⟨n,hnn⟩:∃ n,d.size=n:=⟨_,rfl⟩
 rw [hnn] at hn' hb' hb hn ⊢
 have HN:=Lib.hid hnn
 clear S hnn
 go_enter Tryz.func183,Tryz.ntmps183
 go_wp2_with fail
 go_loopw [6] (fun vi wr=>∃ (i:Nat) (D:Array Nat),vi=.int .i64 i∧a+1≤i∧i≤b+1∧D.size=n∧insOuter aC a b i D=R∧Sp w0 F0 wr (fB g T D J::L)) (fun vi _=>b+1 - (intOf vi).toNat)
 case atStart=>exact ⟨a+1,d,by go_num,by omega,by omega,HN.out,HI.out,HS.out⟩
 case round =>
  clear HS HI
  obtain ⟨i,D,rfl,hi1,hi2,hD,hI,S⟩:=hrel
  have HS:=Lib.hid S
  have HI:=Lib.hid hI
  have HD:=Lib.hid hD
  clear S hI hD
  by_cases hlt:i<b
  ·have hlt':(i:Int)<b:=by omega
   obtain ⟨wo,rfl⟩:∃ wo:World,wo=wr:=⟨_,rfl⟩
   go_wp2_with fail
   go_loopw [7] (fun vj wq=>∃ (j:Nat) (E:Array Nat),vj=.int .i64 j∧j≤i∧E.size=n∧insInner aC a j E=insInner aC a i D∧Sp w0 F0 wq (fB g T E J::L)) (fun vj _=>(intOf vj).toNat)
   case atStart=>exact ⟨i,D,rfl,Nat.le_refl _,HD.out,rfl,HS.out⟩
   case round =>
    clear HS
    obtain ⟨j,E,rfl,hj1,hE,hJ,S⟩:=hrel
    have HS:=Lib.hid S
    have HJ:=Lib.hid hJ
    have HE:=Lib.hid hE
    clear S hJ hE
    by_cases hja:a<j
    ·have aaX:(a:Int)<j:=by omega
     obtain ⟨k,hk⟩:∃ k:Nat,(j:Int) - 1=k:=⟨j - 1,by omega⟩
     have HK:Hid (j - 1=k):=by unfold Hid;omega
     have hwk:=wrapN k (by omega)
     obtain ⟨x,hx⟩:∃ x,E[j]! = x:=⟨_,rfl⟩
     obtain ⟨y,hy⟩:∃ y,E[k]! = y:=⟨_,rfl⟩
     have hjn:(j:Int)<n:=by omega
     have hkn:(k:Int)<n:=by omega
     have cj:=HS.out.ZE (i:=j) (by rw [HE.out];omega)
     have ck:=HS.out.ZE (i:=k) (by rw [HE.out];omega)
     have fj:=HS.out.free j
     have fk:=HS.out.free k
     have HP:=Lib.hid (HS.out.drew.qF (i:=j) (j:=k) (by rw [HE.out];omega) (by rw [HE.out];omega) hx hy)
     rw [hx] at cj
     rw [hy] at ck
     have HX:=Lib.hid hx
     have HY:=Lib.hid hy
     have ZF:Hid (j<E.size∧E[j]! = x):=⟨by rw [HE.out];omega,hx⟩
     have ZG:Hid (k<E.size∧E[k]! = y):=⟨by rw [HE.out];omega,hy⟩
     clear hx hy
     by_cases hxy:x<y
     ·have HG:Hid (insInner aC a k (swp E j k)=insInner aC a i D):=by
       have h:=insInner_go (E:=E) hja (by rw [HK.out,HX.out,HY.out];exact hxy)
       rw [HK.out] at h
       unfold Hid
       rw [← h]
       exact HJ.out
      have hd:=decide_eq_true hxy
      clear fj fk HP
      go_wp2_with fail
      refine au (S:=fun wx=>Sp w0 F0 wx (fB g T E J::L)∧(wx.cell? ⟨g,j,none⟩=some (.int .u64 x))∧(wx.cell? ⟨g,k,none⟩=some (.int .u64 y))) (by kernel_rfl) (by kernel_rfl) ⟨(HS.out).drew,cj,ck⟩ ?_
      repeat
       refine Exists.intro ?_ (And.intro (fun wS hS K hK=>?_) (And.intro ?_ ?_))
       rotate_left 1
       ·obtain ⟨hS1,hS2,eG⟩:=hS
        first
         | (refine ah rfl ?_;simp only [Act.put,List.setIfInBounds_toArray,List.set_cons_zero,List.set_cons_succ];exact hK.out _ ⟨hS1,hS2,eG⟩)
         | (refine ag rfl ?_;go_simp;exact hK.out _ ⟨hS1,hS2,eG⟩)
         | (refine ag rfl ?_;go_simp;go_at_call 189;refine (dX x y hS1).mono ?_;rw [hd];rintro e mZ ⟨rfl,bS⟩;exact hK.out _ ⟨bS,bS.aO ZF.out,bS.aO ZG.out⟩)
       ·rfl
      intro wE hE
      have aX:=Lib.hid hE.1
      clear hE
      have cj:=aX.out.aO ZF.out
      have ck:=aX.out.aO ZG.out
      have fj:=aX.out.free j
      have fk:=aX.out.free k
      have HP:=Lib.hid (aX.out.qF (i:=j) (j:=k) ZF.out.1 ZG.out.1 HX.out HY.out)
      clear aX
      go_wp2_with fail
      go_region
      all_goals
       clear cj ck fj fk
       go_wp2
       go_roundw
       case rel=>exact ⟨k,_,by go_num,by omega,by rw [swp_size];exact HE.out,HG.out,HP.out⟩
       case measure=>simp [intOf];omega
     ·have HG:Hid (E=insInner aC a i D):=by
       unfold Hid
       rw [← HJ.out,insInner_stop (by rw [HK.out,HX.out,HY.out];exact fun h=>hxy h.2)]
      have hd:=decide_eq_false hxy
      clear fj fk HP
      go_wp2_with fail
      refine au (S:=fun wx=>Sp w0 F0 wx (fB g T E J::L)∧(wx.cell? ⟨g,j,none⟩=some (.int .u64 x))∧(wx.cell? ⟨g,k,none⟩=some (.int .u64 y))) (by kernel_rfl) (by kernel_rfl) ⟨(HS.out).drew,cj,ck⟩ ?_
      repeat
       refine Exists.intro ?_ (And.intro (fun wS hS K hK=>?_) (And.intro ?_ ?_))
       rotate_left 1
       ·obtain ⟨hS1,hS2,eG⟩:=hS
        first
         | (refine ah rfl ?_;simp only [Act.put,List.setIfInBounds_toArray,List.set_cons_zero,List.set_cons_succ];exact hK.out _ ⟨hS1,hS2,eG⟩)
         | (refine ag rfl ?_;go_simp;exact hK.out _ ⟨hS1,hS2,eG⟩)
         | (refine ag rfl ?_;go_simp;go_at_call 189;refine (dX x y hS1).mono ?_;rw [hd];rintro e mZ ⟨rfl,bS⟩;exact hK.out _ ⟨bS,bS.aO ZF.out,bS.aO ZG.out⟩)
       ·rfl
      intro wE hE
      have aX:=Lib.hid hE.1
      clear hE
      have HO:Hid (insOuter aC a b (i+1) E=R):=by unfold Hid;rw [← HI.out,HG.out];conv=>rhs;rw [insOuter,if_pos hlt]
      clear cj ck hd
      go_wp2_with fail
      go_roundw
      case rel=>exact ⟨i+1,E,by go_num,by omega,by omega,HE.out,HO.out,aX.out⟩
      case measure=>simp [intOf];omega
    ·have aaX:¬ (a:Int)<j:=by omega
     have HG:Hid (E=insInner aC a i D):=by unfold Hid;rw [← HJ.out,insInner_stop (fun h=>hja h.1)]
     have HO:Hid (insOuter aC a b (i+1) E=R):=by unfold Hid;rw [← HI.out,HG.out];conv=>rhs;rw [insOuter,if_pos hlt]
     go_wp2_with fail
     refine au (S:=fun wx=>Sp w0 F0 wx (fB g T E J::L)) (by kernel_rfl) (by kernel_rfl) (HS.out).drew ?_
     repeat
      refine Exists.intro ?_ (And.intro (fun wS hS K hK=>?_) (And.intro ?_ ?_))
      rotate_left 1
      ·have hS1:=hS
       first
        | (refine ah rfl ?_;simp only [Act.put,List.setIfInBounds_toArray,List.set_cons_zero,List.set_cons_succ];exact hK.out _ hS1)
        | (refine ag rfl ?_;go_simp;exact hK.out _ hS1)
      ·rfl
     intro wE hE
     have aX:=Lib.hid hE
     clear hE
     go_wp2_with fail
     go_roundw
     case rel=>exact ⟨i+1,E,by go_num,by omega,by omega,HE.out,HO.out,aX.out⟩
     case measure=>simp [intOf];omega
  ·have hlt':¬ (i:Int)<b:=by omega
   have HO:Hid (D=R):=by unfold Hid;rw [← HI.out];conv=>rhs;rw [insOuter,if_neg hlt]
   go_wp2_with fail
   go_end0
   exact ⟨rfl,by rw [← HO.out];exact HS.out⟩
end
end
section
open Go.RowKit Go.Sort
section
variable {w0 w:World} {F0:List Nat} {L:List aT} {g T cap:Nat} {d:Array Nat} {J:Array Value}
theorem P8 {i j:Nat} {D:Array Nat} (h:i<j):reverseLoop i j D=reverseLoop (i+1) (j - 1) (swp D i j):=by rw [reverseLoop,if_pos h]
theorem Bl {i j:Nat} {D:Array Nat} (h:¬ i<j):reverseLoop i j D=D:=by rw [reverseLoop,if_neg h]
theorem aaY (a b:Nat) (hab:a<b) (hb:b≤d.size) (hn:d.size≤1000000) (S:Sp w0 F0 w (fB g T d J::L)) :
  Calls Tryz.prog 187 #[JI g d.size cap,.int .i64 a,.int .i64 b] w fun e w2=>e=.returned (.tuple #[])∧Sp w0 F0 w2 (fB g T (reverseRange d a b) J::L):=by
 have HS:=Lib.hid S
 have HI:Hid (reverseLoop a (b - 1) d=reverseRange d a b):=rfl
 generalize reverseRange d a b=R at *
 have hn':(d.size:Int)≤1000000:=by omega
 obtain ⟨n,hnn⟩:∃ n,d.size=n:=⟨_,rfl⟩
 rw [hnn] at hn' hb hn ⊢
 have hb':(b:Int)≤n:=by omega
 have HN:=Lib.hid hnn
 clear S hnn
 go_enter Tryz.func187,Tryz.ntmps187
 go_wp2_with fail
 go_loopw [6,7] (fun vi vj wr=>∃ (i j:Nat) (D:Array Nat),vi=.int .i64 i∧vj=.int .i64 j∧i≤b∧j<b∧D.size=n∧reverseLoop i j D=R∧Sp w0 F0 wr (fB g T D J::L)) (fun vi vj _=>(intOf vj).toNat)
 case atStart=>exact ⟨a,b - 1,d,rfl,by go_num,by omega,by omega,HN.out,HI.out,HS.out⟩
 case round =>
  clear HS HI
  obtain ⟨i,j,D,rfl,rfl,hi1,hj1,hD,hI,S⟩:=hrel
  have HS:=Lib.hid S
  have HI:=Lib.hid hI
  have HD:=Lib.hid hD
  clear S hI hD
  by_cases hlt:i<j
  ·have hlt':(i:Int)<j:=by omega
   obtain ⟨x,hx⟩:∃ x,D[i]! = x:=⟨_,rfl⟩
   have bY:Hid (i<D.size∧D[i]! = x):=⟨by rw [HD.out];omega,hx⟩
   have hnx:(i:Int)<n:=by omega
   have cx:=HS.out.aO bY.out
   clear hx
   obtain ⟨y,hy⟩:∃ y,D[j]! = y:=⟨_,rfl⟩
   have eU:Hid (j<D.size∧D[j]! = y):=⟨by rw [HD.out];omega,hy⟩
   have hny:(j:Int)<n:=by omega
   have cy:=HS.out.aO eU.out
   clear hy
   have cx:=HS.out.aO bY.out
   have cy:=HS.out.aO eU.out
   have fx:=HS.out.free i
   have fy:=HS.out.free j
   have HP:=Lib.hid (HS.out.qF (i:=i) (j:=j) bY.out.1 eU.out.1 bY.out.2 eU.out.2)
   have HO:Hid (reverseLoop (i+1) (j - 1) (swp D i j)=R):=by unfold Hid;rw [← HI.out,P8 hlt]
   clear HS HI
   go_wp2_with fail
   go_region
   all_goals
    clear cx cy fx fy
    go_wp2_with fail
    go_roundw
    case rel=>exact ⟨i+1,j - 1,_,by go_num,by go_num,by omega,by omega,by rw [swp_size];exact HD.out,HO.out,HP.out⟩
    case measure=>simp [intOf];omega
  ·have hlt':¬ (i:Int)<j:=by omega
   have HO:Hid (D=R):=by unfold Hid;rw [← HI.out,Bl hlt]
   go_wp2_with fail
   go_end0
   exact ⟨rfl,by rw [← HO.out];exact HS.out⟩
theorem Ew (a b s:Nat) (ha:a<d.size) (hb:b<d.size) (hn:d.size≤1000000) (hs:s≤1000) (q:Nat) (S:Sp w0 F0 w (ae q #[.int .i64 s] 3::fB g T d J::L)) :
  Calls Tryz.prog 231 #[JI g d.size cap,.int .i64 a,.int .i64 b,.pointer (some ⟨q,0,none⟩)] w fun e w2=>e=.returned (.tuple #[.int .i64 (order2 aC d a b s).1,.int .i64 (order2 aC d a b s).2.1])∧Sp w0 F0 w2 (ae q #[.int .i64 (order2 aC d a b s).2.2] 3::fB g T d J::L):=by
 have HS:=Lib.hid S
 have hn':(d.size:Int)≤1000000:=by omega
 obtain ⟨n,hnn⟩:∃ n,d.size=n:=⟨_,rfl⟩
 rw [hnn] at hn' hb ha hn ⊢
 have HD:=Lib.hid hnn
 have hs':(s:Int)≤1000:=by omega
 have HV:Hid (order2 aC d a b s=if aC d[b]! d[a]! then (b,a,s+1) else (a,b,s)):=rfl
 clear S hnn
 obtain ⟨x,hx⟩:∃ x,d[a]! = x:=⟨_,rfl⟩
 have bY:Hid (a<d.size∧d[a]! = x):=⟨by rw [HD.out];omega,hx⟩
 have hnx:(a:Int)<n:=by omega
 have cx:=HS.out.ak.aO bY.out
 clear hx
 obtain ⟨y,hy⟩:∃ y,d[b]! = y:=⟨_,rfl⟩
 have eU:Hid (b<d.size∧d[b]! = y):=⟨by rw [HD.out];omega,hy⟩
 have hny:(b:Int)<n:=by omega
 have cy:=HS.out.ak.aO eU.out
 clear hy
 rw [bY.out.2,eU.out.2] at HV
 generalize order2 aC d a b s=R at *
 go_enter Tryz.func231,Tryz.ntmps231
 go_upto_region 1 with (fail)
 by_cases hxy:y<x
 ·have hd:=decide_eq_true hxy
  have HW:Hid (R=(b,a,s+1)):=by unfold Hid;rw [HV.out,if_pos (by simpa [aC] using hxy)]
  refine au (S:=fun wx=>Sp w0 F0 wx (ae q #[.int .i64 s] 3::fB g T d J::L)∧(wx.cell? ⟨g,a,none⟩=some (.int .u64 x))∧(wx.cell? ⟨g,b,none⟩=some (.int .u64 y))) (by kernel_rfl) (by kernel_rfl) ⟨(HS.out).drew,cx,cy⟩ ?_
  repeat
   refine Exists.intro ?_ (And.intro (fun wS hS K hK=>?_) (And.intro ?_ ?_))
   rotate_left 1
   ·obtain ⟨hS1,hS2,eG⟩:=hS
    first
     | (refine ah rfl ?_;simp only [Act.put,List.setIfInBounds_toArray,List.set_cons_zero,List.set_cons_succ];exact hK.out _ ⟨hS1,hS2,eG⟩)
     | (refine ag rfl ?_;go_simp;exact hK.out _ ⟨hS1,hS2,eG⟩)
     | (refine ag rfl ?_;go_simp;go_at_call 189;refine (dX y x hS1).mono ?_;rw [hd];rintro e mZ ⟨rfl,bS⟩;exact hK.out _ ⟨bS,bS.ak.aO bY.out,bS.ak.aO eU.out⟩)
   ·rfl
  intro wE hE
  have aX:=Lib.hid hE.1
  clear hE
  have cq:=aX.out.cell 0
  have fq:=aX.out.free 0
  have HP:=Lib.hid (aX.out.set (o:=0) (.int .i64 (s+1)))
  clear HS aX
  go_wp2_with fail
  go_ret2
  rw [HW.out]
  exact ⟨rfl,HP.out⟩
 ·have hd:=decide_eq_false hxy
  have HW:Hid (R=(a,b,s)):=by unfold Hid;rw [HV.out,if_neg (by simpa [aC] using hxy)]
  refine au (S:=fun wx=>Sp w0 F0 wx (ae q #[.int .i64 s] 3::fB g T d J::L)∧(wx.cell? ⟨g,a,none⟩=some (.int .u64 x))∧(wx.cell? ⟨g,b,none⟩=some (.int .u64 y))) (by kernel_rfl) (by kernel_rfl) ⟨(HS.out).drew,cx,cy⟩ ?_
  repeat
   refine Exists.intro ?_ (And.intro (fun wS hS K hK=>?_) (And.intro ?_ ?_))
   rotate_left 1
   ·obtain ⟨hS1,hS2,eG⟩:=hS
    first
     | (refine ah rfl ?_;simp only [Act.put,List.setIfInBounds_toArray,List.set_cons_zero,List.set_cons_succ];exact hK.out _ ⟨hS1,hS2,eG⟩)
     | (refine ag rfl ?_;go_simp;exact hK.out _ ⟨hS1,hS2,eG⟩)
     | (refine ag rfl ?_;go_simp;go_at_call 189;refine (dX y x hS1).mono ?_;rw [hd];rintro e mZ ⟨rfl,bS⟩;exact hK.out _ ⟨bS,bS.ak.aO bY.out,bS.ak.aO eU.out⟩)
   ·rfl
  intro wE hE
  have aX:=Lib.hid hE.1
  clear hE
  clear HS
  go_wp2_with fail
  go_ret2
  rw [HW.out]
  exact ⟨rfl,aX.out⟩
theorem mh (d:Array Nat) (a b s:Nat):((order2 aC d a b s).1=a∧(order2 aC d a b s).2.1=b∨(order2 aC d a b s).1=b∧(order2 aC d a b s).2.1=a)∧(order2 aC d a b s).2.2≤s+1:=by
 unfold order2
 split <;> simp
theorem Ex (a b c s:Nat) (ha:a<d.size) (hb:b<d.size) (hc:c<d.size) (hn:d.size≤1000000) (hs:s≤900) (q:Nat) (S:Sp w0 F0 w (ae q #[.int .i64 s] 3::fB g T d J::L)) :
  Calls Tryz.prog 215 #[JI g d.size cap,.int .i64 a,.int .i64 b,.int .i64 c,.pointer (some ⟨q,0,none⟩)] w fun e w2=>e=.returned (.int .i64 (median aC d a b c s).1)∧Sp w0 F0 w2 (ae q #[.int .i64 (median aC d a b c s).2] 3::fB g T d J::L):=by
 have HA:=Lib.hid ha
 have HB:=Lib.hid hb
 have HC:=Lib.hid hc
 have HN:=Lib.hid hn
 have H1:=Lib.hid (mh d a b s)
 have Yn:=Lib.hid (Ew (cap:=cap) a b s ha hb hn (by omega) q S)
 have HV:Hid (median aC d a b c s=((order2 aC d (order2 aC d a b s).1 (order2 aC d (order2 aC d a b s).2.1 c (order2 aC d a b s).2.2).1 (order2 aC d (order2 aC d a b s).2.1 c (order2 aC d a b s).2.2).2.2).2.1,(order2 aC d (order2 aC d a b s).1 (order2 aC d (order2 aC d a b s).2.1 c (order2 aC d a b s).2.2).1 (order2 aC d (order2 aC d a b s).2.1 c (order2 aC d a b s).2.2).2.2).2.2)):=rfl
 generalize median aC d a b c s=R at *
 clear S ha hb hc hn
 generalize order2 aC d a b s=r1 at *
 obtain ⟨u1,v1,s1⟩:=r1
 dsimp only at *
 go_enter Tryz.func215,Tryz.ntmps215
 go_wp2_with fail
 refine Yn.out.mono ?_
 rintro e w2 ⟨rfl,S⟩
 have ZC:=Lib.hid (Ew (cap:=cap) v1 c s1 (by have:=H1.out;have:=HA.out;have:=HB.out;omega) HC.out HN.out (by have:=H1.out;omega) q S)
 have H2:=Lib.hid (mh d v1 c s1)
 clear S Yn
 generalize order2 aC d v1 c s1=r2 at *
 obtain ⟨u2,v2,s2⟩:=r2
 dsimp only at *
 go_wp2_with fail
 refine ZC.out.mono ?_
 rintro e w3 ⟨rfl,S⟩
 have HO3:=Lib.hid (Ew (cap:=cap) u1 u2 s2 (by have:=H1.out;have:=HA.out;have:=HB.out;omega) (by have:=H1.out;have:=H2.out;have:=HA.out;have:=HB.out;have:=HC.out;omega) HN.out (by have:=H1.out;have:=H2.out;omega) q S)
 clear S ZC
 generalize order2 aC d u1 u2 s2=r3 at *
 obtain ⟨u3,v3,s3⟩:=r3
 dsimp only at *
 go_wp2_with fail
 refine HO3.out.mono ?_
 rintro e w4 ⟨rfl,S⟩
 have gP:=Lib.hid S
 clear S HO3
 go_wp2_with fail
 go_ret
 rw [HV.out]
 exact ⟨rfl,gP.out⟩
theorem GM (d:Array Nat) (a b c s:Nat):((median aC d a b c s).1=a∨(median aC d a b c s).1=b∨(median aC d a b c s).1=c)∧(median aC d a b c s).2≤s+3:=by
 have h1:=mh d a b s
 have h2:=mh d (order2 aC d a b s).2.1 c (order2 aC d a b s).2.2
 have h3:=mh d (order2 aC d a b s).1 (order2 aC d (order2 aC d a b s).2.1 c (order2 aC d a b s).2.2).1 (order2 aC d (order2 aC d a b s).2.1 c (order2 aC d a b s).2.2).2.2
 unfold median
 dsimp only
 generalize order2 aC d (order2 aC d a b s).1 (order2 aC d (order2 aC d a b s).2.1 c (order2 aC d a b s).2.2).1 (order2 aC d (order2 aC d a b s).2.1 c (order2 aC d a b s).2.2).2.2=r3 at *
 generalize order2 aC d (order2 aC d a b s).2.1 c (order2 aC d a b s).2.2=r2 at *
 generalize order2 aC d a b s=r1 at *
 omega
theorem Ey (a s:Nat) (h0:1≤a) (ha:a+1<d.size) (hn:d.size≤1000000) (hs:s≤900) (q:Nat) (S:Sp w0 F0 w (ae q #[.int .i64 s] 3::fB g T d J::L)) :
  Calls Tryz.prog 214 #[JI g d.size cap,.int .i64 a,.pointer (some ⟨q,0,none⟩)] w fun e w2=>e=.returned (.int .i64 (medianAdjacent aC d a s).1)∧Sp w0 F0 w2 (ae q #[.int .i64 (medianAdjacent aC d a s).2] 3::fB g T d J::L):=by
 have HO:Hid (Calls Tryz.prog 215 #[JI g d.size cap,.int .i64 ((a - 1:Nat):Int),.int .i64 a,.int .i64 ((a+1:Nat):Int),.pointer (some ⟨q,0,none⟩)] w fun e w2=>e=.returned (.int .i64 (medianAdjacent aC d a s).1)∧Sp w0 F0 w2 (ae q #[.int .i64 (medianAdjacent aC d a s).2] 3::fB g T d J::L)):=Lib.hid (Ex (cap:=cap) (a - 1) a (a+1) s (by omega) (by omega) ha hn hs q S)
 generalize medianAdjacent aC d a s=R at *
 have hn':(d.size:Int)≤1000000:=by omega
 have ha':(a:Int)+1<d.size:=by omega
 obtain ⟨k,hk⟩:∃ k:Nat,(a:Int) - 1=(k:Int):=⟨a - 1,by omega⟩
 have Hk:Hid (a - 1=k):=by unfold Hid;omega
 have hwk:=wrapN k (by omega)
 obtain ⟨m,hm⟩:∃ m:Nat,(a:Int)+1=(m:Int):=⟨a+1,by omega⟩
 have Hm:Hid (a+1=m):=by unfold Hid;omega
 have V6:=wrapN m (by omega)
 rw [Hk.out,Hm.out] at HO
 clear S
 go_enter Tryz.func214,Tryz.ntmps214
 go_wp2_with fail
 refine HO.out.mono ?_
 rintro e w4 ⟨rfl,S⟩
 have gP:=Lib.hid S
 clear S HO
 go_wp2_with fail
 go_ret
 exact ⟨rfl,gP.out⟩
end
end
section
open Go.RowKit Go.Sort
section
variable {w0 w:World} {F0:List Nat} {L:List aT} {g T cap:Nat} {d:Array Nat} {J:Array Value}
theorem P9 {hi f r:Nat} {D:Array Nat} (h:hi≤2*r+1):siftDown aC hi f r D=D:=by rw [siftDown,dif_pos h]
theorem Qa {hi f r:Nat} {D:Array Nat} (h:¬ hi≤2*r+1) (h2:2*r+2<hi) (hl:D[f+(2*r+1)]! < D[f+(2*r+2)]!) :
  siftDown aC hi f r D=if D[f+r]! < D[f+(2*r+2)]! then siftDown aC hi f (2*r+2) (swp D (f+r) (f+(2*r+2))) else D:=by
 rw [siftDown,dif_neg h,if_pos]
 ·by_cases hx:D[f+r]! < D[f+(2*r+2)]!
  ·rw [if_neg (by simp [aC,hx]),dif_pos h2,if_pos hx]
  ·rw [if_pos (by simpa [aC] using hx),if_neg hx]
 ·simp only [Bool.and_eq_true,decide_eq_true_eq,aC]
  exact ⟨h2,hl⟩
theorem GN {hi f r:Nat} {D:Array Nat} (h:¬ hi≤2*r+1) (h2:¬ (2*r+2<hi∧D[f+(2*r+1)]! < D[f+(2*r+2)]!)) :
  siftDown aC hi f r D=if D[f+r]! < D[f+(2*r+1)]! then siftDown aC hi f (2*r+1) (swp D (f+r) (f+(2*r+1))) else D:=by
 rw [siftDown,dif_neg h,if_neg]
 ·by_cases hx:D[f+r]! < D[f+(2*r+1)]!
  ·rw [if_neg (by simp [aC,hx]),if_pos hx]
  ·rw [if_pos (by simpa [aC] using hx),if_neg hx]
 ·simp only [Bool.and_eq_true,decide_eq_true_eq,aC]
  exact h2
theorem UD (lo hi f:Nat) (hlo:lo≤1000000) (hf:f+hi≤d.size) (hn:d.size≤1000000) (S:Sp w0 F0 w (fB g T d J::L)) :
  Calls Tryz.prog 213 #[JI g d.size cap,.int .i64 lo,.int .i64 hi,.int .i64 f] w fun e w2=>e=.returned (.tuple #[])∧Sp w0 F0 w2 (fB g T (siftDown aC hi f lo d) J::L):=by
 have HS:=Lib.hid S
 obtain ⟨R,hR⟩:∃ R,siftDown aC hi f lo d=R:=⟨_,rfl⟩
 have HI:=Lib.hid hR
 rw [hR]
 have hn':(d.size:Int)≤1000000:=by omega
 obtain ⟨n,hnn⟩:∃ n,d.size=n:=⟨_,rfl⟩
 rw [hnn] at hn' hf hn ⊢
 have hf':(f:Int)+hi≤n:=by omega
 have aeH:(lo:Int)≤1000000:=by omega
 have HN:=Lib.hid hnn
 clear S hnn hR
 go_enter Tryz.func213,Tryz.ntmps213
 go_wp2_with fail
 go_loopw [8] (fun vr wr=>∃ (r:Nat) (D:Array Nat),vr=.int .i64 r∧r≤1000000∧D.size=n∧siftDown aC hi f r D=R∧Sp w0 F0 wr (fB g T D J::L)) (fun vr _=>3000000 - (intOf vr).toNat)
 case atStart=>exact ⟨lo,d,rfl,hlo,HN.out,HI.out,HS.out⟩
 case round =>
  clear HS HI
  obtain ⟨r,D,rfl,hr,hD,hI,S⟩:=hrel
  have HS:=Lib.hid S
  have HI:=Lib.hid hI
  have HD:=Lib.hid hD
  clear S hI hD
  have hr':(r:Int)≤1000000:=by omega
  have he1:IntKind.i64.wrap (2*(r:Int))=2*(r:Int):=by rw [IntKind.wrap_i64];omega
  have he2:IntKind.i64.wrap (2*(r:Int)+1)=2*(r:Int)+1:=by rw [IntKind.wrap_i64];omega
  obtain ⟨c,hc⟩:∃ c:Nat,2*(r:Int)+1=(c:Int):=⟨2*r+1,by omega⟩
  have Hc:Hid (2*r+1=c):=by unfold Hid;omega
  have hwc:=wrapN c (by omega)
  by_cases hce:hi≤c
  ·have aaZ:(hi:Int)≤c:=by omega
   have HO:Hid (D=R):=by unfold Hid;rw [← HI.out,P9 (by rw [Hc.out];exact hce)]
   go_wp2_with fail
   go_end0
   exact ⟨rfl,by rw [← HO.out];exact HS.out⟩
  ·have aaZ:¬ (hi:Int)≤c:=by omega
   obtain ⟨k,hk⟩:∃ k:Nat,(f:Int)+r=(k:Int):=⟨f+r,by omega⟩
   have Hk:Hid (f+r=k):=by unfold Hid;omega
   have hwk:=wrapN k (by omega)
   obtain ⟨c2,hc2⟩:∃ c2:Nat,(c:Int)+1=(c2:Int):=⟨c+1,by omega⟩
   have Hc2:Hid (c+1=c2):=by unfold Hid;omega
   have aeI:=wrapN c2 (by omega)
   obtain ⟨p,hp⟩:∃ p:Nat,(f:Int)+c=(p:Int):=⟨f+c,by omega⟩
   have Hp:Hid (f+c=p):=by unfold Hid;omega
   have hwp:=wrapN p (by omega)
   obtain ⟨p2,hp2⟩:∃ p2:Nat,(p:Int)+1=(p2:Int):=⟨p+1,by omega⟩
   have Hp2:Hid (p+1=p2):=by unfold Hid;omega
   have aeJ:=wrapN p2 (by omega)
   have nQ:Hid (2*r+2=c2):=by unfold Hid;omega
   have xm:Hid (f+c2=p2):=by unfold Hid;omega
   have HGE:Hid (¬ hi≤2*r+1):=by unfold Hid;omega
   by_cases hcl:c2<hi
   ·have hcl':(c2:Int)<hi:=by omega
    obtain ⟨y,hy⟩:∃ y,D[p]! = y:=⟨_,rfl⟩
    have eU:Hid (p<D.size∧D[p]! = y):=⟨by rw [HD.out];omega,hy⟩
    have hny:(p:Int)<n:=by omega
    have cy:=HS.out.aO eU.out
    clear hy
    obtain ⟨z,hz⟩:∃ z,D[p2]! = z:=⟨_,rfl⟩
    have Yo:Hid (p2<D.size∧D[p2]! = z):=⟨by rw [HD.out];omega,hz⟩
    have hnz:(p2:Int)<n:=by omega
    have cz:=HS.out.aO Yo.out
    clear hz
    by_cases Yp:y<z
    ·have hd:=decide_eq_true Yp
     have HG:Hid (siftDown aC hi f r D=if D[f+r]! < D[f+c2]! then siftDown aC hi f c2 (swp D (f+r) (f+c2)) else D):=by
      have h:=Qa (f:=f) (D:=D) HGE.out (by rw [nQ.out];exact hcl) (by rw [nQ.out,Hc.out,xm.out,Hp.out,eU.out.2,Yo.out.2];exact Yp)
      rw [nQ.out] at h
      exact h
     clear hd
     have hd:=decide_eq_true Yp
     go_wp2_with fail
     refine au (S:=fun wx=>Sp w0 F0 wx (fB g T D J::L)∧(wx.cell? ⟨g,p,none⟩=some (.int .u64 y))∧(wx.cell? ⟨g,p2,none⟩=some (.int .u64 z))) (by kernel_rfl) (by kernel_rfl) ⟨(HS.out).drew,cy,cz⟩ ?_
     repeat
      refine Exists.intro ?_ (And.intro (fun wS hS K hK=>?_) (And.intro ?_ ?_))
      rotate_left 1
      ·obtain ⟨hS1,hS2,eG⟩:=hS
       first
        | (refine ah rfl ?_;simp only [Act.put,List.setIfInBounds_toArray,List.set_cons_zero,List.set_cons_succ];exact hK.out _ ⟨hS1,hS2,eG⟩)
        | (refine ag rfl ?_;go_simp;exact hK.out _ ⟨hS1,hS2,eG⟩)
        | (refine ag rfl ?_;go_simp;go_at_call 189;refine (dX y z hS1).mono ?_;rw [hd];rintro e mZ ⟨rfl,bS⟩;exact hK.out _ ⟨bS,bS.aO eU.out,bS.aO Yo.out⟩)
      ·rfl
     intro wE hE
     have aX:=Lib.hid hE.1
     clear hE
     clear cy cz hd HS
     obtain ⟨m,hm⟩:∃ m:Nat,(f:Int)+c2=(m:Int):=⟨f+c2,by omega⟩
     have Hm:Hid (f+c2=m):=by unfold Hid;omega
     have V6:=wrapN m (by omega)
     obtain ⟨x,hx⟩:∃ x,D[k]! = x:=⟨_,rfl⟩
     have bY:Hid (k<D.size∧D[k]! = x):=⟨by rw [HD.out];omega,hx⟩
     have hnx:(k:Int)<n:=by omega
     have cx:=aX.out.aO bY.out
     clear hx
     obtain ⟨u,hu⟩:∃ u,D[m]! = u:=⟨_,rfl⟩
     have V7:Hid (m<D.size∧D[m]! = u):=⟨by rw [HD.out];omega,hu⟩
     have hnu:(m:Int)<n:=by omega
     have cu:=aX.out.aO V7.out
     clear hu
     have HG2:Hid (R=if x<u then siftDown aC hi f c2 (swp D k m) else D):=by
      unfold Hid
      rw [← HI.out,HG.out,Hk.out,Hm.out,bY.out.2,V7.out.2]
     clear HG
     by_cases hxu:x<u
     ·have hd:=decide_eq_true hxu
      have HO:Hid (siftDown aC hi f c2 (swp D k m)=R):=by unfold Hid;rw [HG2.out,if_pos hxu]
      go_wp2_with fail
      refine au (S:=fun wx=>Sp w0 F0 wx (fB g T D J::L)∧(wx.cell? ⟨g,k,none⟩=some (.int .u64 x))∧(wx.cell? ⟨g,m,none⟩=some (.int .u64 u))) (by kernel_rfl) (by kernel_rfl) ⟨(aX.out).drew,cx,cu⟩ ?_
      repeat
       refine Exists.intro ?_ (And.intro (fun wS hS K hK=>?_) (And.intro ?_ ?_))
       rotate_left 1
       ·obtain ⟨hS1,hS2,eG⟩:=hS
        first
         | (refine ah rfl ?_;simp only [Act.put,List.setIfInBounds_toArray,List.set_cons_zero,List.set_cons_succ];exact hK.out _ ⟨hS1,hS2,eG⟩)
         | (refine ag rfl ?_;go_simp;exact hK.out _ ⟨hS1,hS2,eG⟩)
         | (refine ag rfl ?_;go_simp;go_at_call 189;refine (dX x u hS1).mono ?_;rw [hd];rintro e mZ ⟨rfl,bS⟩;exact hK.out _ ⟨bS,bS.aO bY.out,bS.aO V7.out⟩)
       ·rfl
      intro wE hE
      have aX:=Lib.hid hE.1
      clear hE
      clear cx cu
      have cx:=aX.out.aO bY.out
      have cu:=aX.out.aO V7.out
      have fx:=aX.out.free k
      have fu:=aX.out.free m
      have HP:=Lib.hid (aX.out.qF (i:=k) (j:=m) bY.out.1 V7.out.1 bY.out.2 V7.out.2)
      clear aX
      go_wp2_with fail
      go_region
      all_goals
       clear cx cu fx fu
       go_wp2_with fail
       go_roundw
       case rel=>exact ⟨c2,_,by go_num,by omega,by rw [swp_size];exact HD.out,HO.out,HP.out⟩
       case measure=>simp [intOf];omega
     ·have hd:=decide_eq_false hxu
      have HO:Hid (D=R):=by unfold Hid;rw [HG2.out,if_neg hxu]
      go_wp2_with fail
      refine au (S:=fun wx=>Sp w0 F0 wx (fB g T D J::L)∧(wx.cell? ⟨g,k,none⟩=some (.int .u64 x))∧(wx.cell? ⟨g,m,none⟩=some (.int .u64 u))) (by kernel_rfl) (by kernel_rfl) ⟨(aX.out).drew,cx,cu⟩ ?_
      repeat
       refine Exists.intro ?_ (And.intro (fun wS hS K hK=>?_) (And.intro ?_ ?_))
       rotate_left 1
       ·obtain ⟨hS1,hS2,eG⟩:=hS
        first
         | (refine ah rfl ?_;simp only [Act.put,List.setIfInBounds_toArray,List.set_cons_zero,List.set_cons_succ];exact hK.out _ ⟨hS1,hS2,eG⟩)
         | (refine ag rfl ?_;go_simp;exact hK.out _ ⟨hS1,hS2,eG⟩)
         | (refine ag rfl ?_;go_simp;go_at_call 189;refine (dX x u hS1).mono ?_;rw [hd];rintro e mZ ⟨rfl,bS⟩;exact hK.out _ ⟨bS,bS.aO bY.out,bS.aO V7.out⟩)
       ·rfl
      intro wE hE
      have aX:=Lib.hid hE.1
      clear hE
      go_wp2_with fail
      first | go_end0 | refine bodyPost_ret (results_none rfl _ _ _) rfl ?_
      exact ⟨rfl,by rw [← HO.out];exact aX.out⟩
    ·have hd:=decide_eq_false Yp
     have HG:Hid (siftDown aC hi f r D=if D[f+r]! < D[f+c]! then siftDown aC hi f c (swp D (f+r) (f+c)) else D):=by
      have h:=GN (f:=f) (D:=D) HGE.out (by rw [nQ.out,Hc.out,xm.out,Hp.out,eU.out.2,Yo.out.2];exact fun h=>Yp h.2)
      rw [Hc.out] at h
      exact h
     go_wp2_with fail
     refine au (S:=fun wx=>Sp w0 F0 wx (fB g T D J::L)∧(wx.cell? ⟨g,p,none⟩=some (.int .u64 y))∧(wx.cell? ⟨g,p2,none⟩=some (.int .u64 z))) (by kernel_rfl) (by kernel_rfl) ⟨(HS.out).drew,cy,cz⟩ ?_
     repeat
      refine Exists.intro ?_ (And.intro (fun wS hS K hK=>?_) (And.intro ?_ ?_))
      rotate_left 1
      ·obtain ⟨hS1,hS2,eG⟩:=hS
       first
        | (refine ah rfl ?_;simp only [Act.put,List.setIfInBounds_toArray,List.set_cons_zero,List.set_cons_succ];exact hK.out _ ⟨hS1,hS2,eG⟩)
        | (refine ag rfl ?_;go_simp;exact hK.out _ ⟨hS1,hS2,eG⟩)
        | (refine ag rfl ?_;go_simp;go_at_call 189;refine (dX y z hS1).mono ?_;rw [hd];rintro e mZ ⟨rfl,bS⟩;exact hK.out _ ⟨bS,bS.aO eU.out,bS.aO Yo.out⟩)
      ·rfl
     intro wE hE
     have aX:=Lib.hid hE.1
     clear hE
     clear cy cz hd HS
     obtain ⟨x,hx⟩:∃ x,D[k]! = x:=⟨_,rfl⟩
     have bY:Hid (k<D.size∧D[k]! = x):=⟨by rw [HD.out];omega,hx⟩
     have hnx:(k:Int)<n:=by omega
     have cx:=aX.out.aO bY.out
     clear hx
     have cy:=aX.out.aO eU.out
     have HG2:Hid (R=if x<y then siftDown aC hi f c (swp D k p) else D):=by
      unfold Hid
      rw [← HI.out,HG.out,Hk.out,Hp.out,bY.out.2,eU.out.2]
     clear HG
     by_cases hxu:x<y
     ·have hd:=decide_eq_true hxu
      have HO:Hid (siftDown aC hi f c (swp D k p)=R):=by unfold Hid;rw [HG2.out,if_pos hxu]
      go_wp2_with fail
      refine au (S:=fun wx=>Sp w0 F0 wx (fB g T D J::L)∧(wx.cell? ⟨g,k,none⟩=some (.int .u64 x))∧(wx.cell? ⟨g,p,none⟩=some (.int .u64 y))) (by kernel_rfl) (by kernel_rfl) ⟨(aX.out).drew,cx,cy⟩ ?_
      repeat
       refine Exists.intro ?_ (And.intro (fun wS hS K hK=>?_) (And.intro ?_ ?_))
       rotate_left 1
       ·obtain ⟨hS1,hS2,eG⟩:=hS
        first
         | (refine ah rfl ?_;simp only [Act.put,List.setIfInBounds_toArray,List.set_cons_zero,List.set_cons_succ];exact hK.out _ ⟨hS1,hS2,eG⟩)
         | (refine ag rfl ?_;go_simp;exact hK.out _ ⟨hS1,hS2,eG⟩)
         | (refine ag rfl ?_;go_simp;go_at_call 189;refine (dX x y hS1).mono ?_;rw [hd];rintro e mZ ⟨rfl,bS⟩;exact hK.out _ ⟨bS,bS.aO bY.out,bS.aO eU.out⟩)
       ·rfl
      intro wE hE
      have aX:=Lib.hid hE.1
      clear hE
      clear cx cy
      have cx:=aX.out.aO bY.out
      have cy:=aX.out.aO eU.out
      have fx:=aX.out.free k
      have fy:=aX.out.free p
      have HP:=Lib.hid (aX.out.qF (i:=k) (j:=p) bY.out.1 eU.out.1 bY.out.2 eU.out.2)
      clear aX
      go_wp2_with fail
      go_region
      all_goals
       clear cx cy fx fy
       go_wp2_with fail
       go_roundw
       case rel=>exact ⟨c,_,by go_num,by omega,by rw [swp_size];exact HD.out,HO.out,HP.out⟩
       case measure=>simp [intOf];omega
     ·have hd:=decide_eq_false hxu
      have HO:Hid (D=R):=by unfold Hid;rw [HG2.out,if_neg hxu]
      go_wp2_with fail
      refine au (S:=fun wx=>Sp w0 F0 wx (fB g T D J::L)∧(wx.cell? ⟨g,k,none⟩=some (.int .u64 x))∧(wx.cell? ⟨g,p,none⟩=some (.int .u64 y))) (by kernel_rfl) (by kernel_rfl) ⟨(aX.out).drew,cx,cy⟩ ?_
      repeat
       refine Exists.intro ?_ (And.intro (fun wS hS K hK=>?_) (And.intro ?_ ?_))
       rotate_left 1
       ·obtain ⟨hS1,hS2,eG⟩:=hS
        first
         | (refine ah rfl ?_;simp only [Act.put,List.setIfInBounds_toArray,List.set_cons_zero,List.set_cons_succ];exact hK.out _ ⟨hS1,hS2,eG⟩)
         | (refine ag rfl ?_;go_simp;exact hK.out _ ⟨hS1,hS2,eG⟩)
         | (refine ag rfl ?_;go_simp;go_at_call 189;refine (dX x y hS1).mono ?_;rw [hd];rintro e mZ ⟨rfl,bS⟩;exact hK.out _ ⟨bS,bS.aO bY.out,bS.aO eU.out⟩)
       ·rfl
      intro wE hE
      have aX:=Lib.hid hE.1
      clear hE
      go_wp2_with fail
      first | go_end0 | refine bodyPost_ret (results_none rfl _ _ _) rfl ?_
      exact ⟨rfl,by rw [← HO.out];exact aX.out⟩
   ·have hcl':¬ (c2:Int)<hi:=by omega
    have HG:Hid (siftDown aC hi f r D=if D[f+r]! < D[f+c]! then siftDown aC hi f c (swp D (f+r) (f+c)) else D):=by
     have h:=GN (f:=f) (D:=D) HGE.out (by rw [nQ.out];exact fun h=>hcl h.1)
     rw [Hc.out] at h
     exact h
    go_wp2_with fail
    refine au (S:=fun wx=>Sp w0 F0 wx (fB g T D J::L)) (by kernel_rfl) (by kernel_rfl) (HS.out).drew ?_
    repeat
     refine Exists.intro ?_ (And.intro (fun wS hS K hK=>?_) (And.intro ?_ ?_))
     rotate_left 1
     ·have hS1:=hS
      first
       | (refine ah rfl ?_;simp only [Act.put,List.setIfInBounds_toArray,List.set_cons_zero,List.set_cons_succ];exact hK.out _ hS1)
       | (refine ag rfl ?_;go_simp;exact hK.out _ hS1)
     ·rfl
    intro wE hE
    have aX:=Lib.hid hE
    clear hE
    clear HS
    obtain ⟨x,hx⟩:∃ x,D[k]! = x:=⟨_,rfl⟩
    have bY:Hid (k<D.size∧D[k]! = x):=⟨by rw [HD.out];omega,hx⟩
    have hnx:(k:Int)<n:=by omega
    have cx:=aX.out.aO bY.out
    clear hx
    obtain ⟨y,hy⟩:∃ y,D[p]! = y:=⟨_,rfl⟩
    have eU:Hid (p<D.size∧D[p]! = y):=⟨by rw [HD.out];omega,hy⟩
    have hny:(p:Int)<n:=by omega
    have cy:=aX.out.aO eU.out
    clear hy
    have HG2:Hid (R=if x<y then siftDown aC hi f c (swp D k p) else D):=by
     unfold Hid
     rw [← HI.out,HG.out,Hk.out,Hp.out,bY.out.2,eU.out.2]
    clear HG
    by_cases hxu:x<y
    ·have hd:=decide_eq_true hxu
     have HO:Hid (siftDown aC hi f c (swp D k p)=R):=by unfold Hid;rw [HG2.out,if_pos hxu]
     go_wp2_with fail
     refine au (S:=fun wx=>Sp w0 F0 wx (fB g T D J::L)∧(wx.cell? ⟨g,k,none⟩=some (.int .u64 x))∧(wx.cell? ⟨g,p,none⟩=some (.int .u64 y))) (by kernel_rfl) (by kernel_rfl) ⟨(aX.out).drew,cx,cy⟩ ?_
     repeat
      refine Exists.intro ?_ (And.intro (fun wS hS K hK=>?_) (And.intro ?_ ?_))
      rotate_left 1
      ·obtain ⟨hS1,hS2,eG⟩:=hS
       first
        | (refine ah rfl ?_;simp only [Act.put,List.setIfInBounds_toArray,List.set_cons_zero,List.set_cons_succ];exact hK.out _ ⟨hS1,hS2,eG⟩)
        | (refine ag rfl ?_;go_simp;exact hK.out _ ⟨hS1,hS2,eG⟩)
        | (refine ag rfl ?_;go_simp;go_at_call 189;refine (dX x y hS1).mono ?_;rw [hd];rintro e mZ ⟨rfl,bS⟩;exact hK.out _ ⟨bS,bS.aO bY.out,bS.aO eU.out⟩)
      ·rfl
     intro wE hE
     have aX:=Lib.hid hE.1
     clear hE
     clear cx cy
     have cx:=aX.out.aO bY.out
     have cy:=aX.out.aO eU.out
     have fx:=aX.out.free k
     have fy:=aX.out.free p
     have HP:=Lib.hid (aX.out.qF (i:=k) (j:=p) bY.out.1 eU.out.1 bY.out.2 eU.out.2)
     clear aX
     go_wp2_with fail
     go_region
     all_goals
      clear cx cy fx fy
      go_wp2_with fail
      go_roundw
      case rel=>exact ⟨c,_,by go_num,by omega,by rw [swp_size];exact HD.out,HO.out,HP.out⟩
      case measure=>simp [intOf];omega
    ·have hd:=decide_eq_false hxu
     have HO:Hid (D=R):=by unfold Hid;rw [HG2.out,if_neg hxu]
     go_wp2_with fail
     refine au (S:=fun wx=>Sp w0 F0 wx (fB g T D J::L)∧(wx.cell? ⟨g,k,none⟩=some (.int .u64 x))∧(wx.cell? ⟨g,p,none⟩=some (.int .u64 y))) (by kernel_rfl) (by kernel_rfl) ⟨(aX.out).drew,cx,cy⟩ ?_
     repeat
      refine Exists.intro ?_ (And.intro (fun wS hS K hK=>?_) (And.intro ?_ ?_))
      rotate_left 1
      ·obtain ⟨hS1,hS2,eG⟩:=hS
       first
        | (refine ah rfl ?_;simp only [Act.put,List.setIfInBounds_toArray,List.set_cons_zero,List.set_cons_succ];exact hK.out _ ⟨hS1,hS2,eG⟩)
        | (refine ag rfl ?_;go_simp;exact hK.out _ ⟨hS1,hS2,eG⟩)
        | (refine ag rfl ?_;go_simp;go_at_call 189;refine (dX x y hS1).mono ?_;rw [hd];rintro e mZ ⟨rfl,bS⟩;exact hK.out _ ⟨bS,bS.aO bY.out,bS.aO eU.out⟩)
      ·rfl
     intro wE hE
     have aX:=Lib.hid hE.1
     clear hE
     go_wp2_with fail
     first | go_end0 | refine bodyPost_ret (results_none rfl _ _ _) rfl ?_
     exact ⟨rfl,by rw [← HO.out];exact aX.out⟩
end
end
end Go.Proofs.YtangbdahnmomlaaGreatDoor
