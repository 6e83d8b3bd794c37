/- What Go's own variables hold where strconv and strings are called, and worlds that have only grown. No condition. disk.May: which texts may be -/
import Derived.Deep.AppendLies
import Derived.Deep.Draws
import Derived.Lib.AppendIntMem
import Derived.Lib.ConvBytes
import Derived.Lib.ItoaMem
import Derived.Lib.LaidTab
import Derived.Lib.OwnBridge
import Derived.Lib.SmallJoins
import Derived.Sort.Grow
import Derived.Test.YtangbdahnmomlaaGreatDoorBu00
import Derived.Test.YtangbdahnmomlaaGreatDoorBu01
import Derived.Test.YtangbdahnmomlaaGreatDoorBu03
set_option linter.unnecessarySimpa false
set_option linter.unusedSimpArgs false
set_option linter.unusedVariables false
set_option maxHeartbeats 1000000
set_option maxRecDepth 100000
namespace Go.Proofs.YtangbdahnmomlaaGreatDoor
section
open Go.RowKit Go.Sort
def Grown (w w2:World):Prop:=∃ q os,w2=grow (w.drewN q) os
theorem Grown.refl (w:World):Grown w w:=⟨0,#[],by rw [grow_empty];rfl⟩
theorem Grown.ext {a b:World} (h:Grown a b):Ext [] a b:=by
 obtain ⟨q,os,rfl⟩:=h
 refine ⟨rfl,rfl,rfl,by simp [grow,World.drewN],fun k hk _=>?_⟩
 simp only [grow,World.drewN,Array.getElem?_append_left hk]
theorem Grown.iV {a b:World} (h:Ext [] a b) (hd:a.drawn≤b.drawn):Grown a b:=by
 refine ⟨b.drawn - a.drawn,b.heap.extract a.heap.size b.heap.size,?_⟩
 obtain ⟨heap,tape,drawn,os,output⟩:=b
 obtain ⟨h1,h2,h3,h4,h5⟩:=h
 dsimp only at *
 subst h1 h2 h3
 have e1:a.drawn+(drawn - a.drawn)=drawn:=by omega
 have e2:a.heap++heap.extract a.heap.size heap.size=heap:=by
  apply Array.ext_getElem?
  intro i
  by_cases hi:i<a.heap.size
  ·rw [Array.getElem?_append_left hi,h5 i hi (by simp)]
  ·rw [Array.getElem?_append_right (by omega),Array.getElem?_extract]
   by_cases hj:i<heap.size
   ·rw [if_pos (by omega)]
    congr 1
    omega
   ·rw [if_neg (by omega),Array.getElem?_eq_none (by omega)]
 unfold grow World.drewN
 rw [e1,e2]
theorem Grown.bytes (w:World) (e:TypeId) (s:ByteArray):Grown w (Lib.bytesWorld w e s):=by
 refine Grown.iV (Ext.of_below (Joins.below_bytesWorld _ w e s (Nat.le_refl _))) ?_
 unfold Lib.bytesWorld World.freeze
 rw [if_neg (by decide)]
 exact Nat.le_succ _
structure Env (w:World):Prop where
 tab:Lib.TabIs Tryz.prog w "internal/strconv.uint64pow10" .u64 Lib.pow10Tab
 max:∃ m,w.cell? ⟨1,0,none⟩=some (.int .i64 m)
theorem Ext.var {w w2:World} (hx:Ext [] w w2) {P:Program} {n:String} {cs:Array Value} (h:w.var? P n=some cs):w2.var? P n=some cs:=by
 unfold World.var? at h ⊢
 cases hg:P.globalNamed n with
 | none=>rw [hg] at h;cases h
 | some g =>
  rw [hg] at h
  simp only [Option.bind_some] at h ⊢
  cases hh:w.heap[g]? with
  | none=>rw [hh] at h;cases h
  | some o=>rw [hx.heap hh (by simp)];rw [hh] at h;exact h
theorem Ext.cellOf {w w2:World} (hx:Ext [] w w2) {p:Addr} {v:Value} (h:w.cell? p=some v):w2.cell? p=some v:=hx.cell h (by simp)
theorem Env.ext {w w2:World} (h:Env w) (hx:Ext [] w w2):Env w2:=by
 obtain ⟨m,hm⟩:=h.max
 exact ⟨hx.var h.tab,⟨m,hx.cellOf hm⟩⟩
theorem Env.sp {w w2:World} {L:List aT} (h:Env w) (S:Sp w [] w2 L):Env w2:=h.ext S.ext
end
section
open Go.RowKit Go.Maps
def zZ (c:UInt8):Bool:=c == 46 || c == 95 || c == 45 || c == 47
def iN (c:UInt8):Bool:=(97≤c && c≤122) || (48≤c && c≤57) || zZ c
def may (n:Bs):Bool:=n.all iN && !n.isEmpty && decide (n.length≤80)
theorem z8:∀ n:Fin 256,decide (0≤Lib.indexByte [46,95,45,47] (UInt8.ofNat n.val))=zZ (UInt8.ofNat n.val):=by decide +kernel
theorem Iz (c:UInt8):decide (0≤Lib.indexByte [46,95,45,47] c)=zZ c:=by
 have:=z8 ⟨c.toNat,c.toNat_lt⟩
 simpa using this
theorem Rq (c:UInt8) (w:World):Calls Tryz.prog 130 #[.string ⟨#[46,95,45,47]⟩,.int .u8 (c.toNat:Int)] w fun e w2=>∃ r,e=.returned (.int .i64 r)∧w=w2∧decide (0≤r)=zZ c:=by
 refine (Tryz.strings_IndexByte ⟨#[46,95,45,47]⟩ (c.toNat:Int) w).mono fun e w2 h=>⟨_,h.1,h.2.symm,?_⟩
 have:((c.toNat:Int).toNat).toUInt8=c:=by simp
 rw [this]
 exact Iz c
theorem IA {c:UInt8} (h1:(97:Int)≤c.toNat) (h2:¬ (122:Int)<c.toNat):iN c=true:=by
 simp only [iN,UInt8.le_iff_toNat_le,Bool.or_eq_true,Bool.and_eq_true,decide_eq_true_eq]
 exact .inl (.inl ⟨by simpa using by omega,by simpa using by omega⟩)
theorem IB {c:UInt8} (h1:(48:Int)≤c.toNat) (h2:¬ (57:Int)<c.toNat):iN c=true:=by
 simp only [iN,UInt8.le_iff_toNat_le,Bool.or_eq_true,Bool.and_eq_true,decide_eq_true_eq]
 exact .inl (.inr ⟨by simpa using by omega,by simpa using by omega⟩)
theorem yh {c:UInt8} (h1:¬ ((97:Int)≤c.toNat∧(c.toNat:Int)≤122)) (h2:¬ ((48:Int)≤c.toNat∧(c.toNat:Int)≤57)):iN c=zZ c:=by
 have e1:(decide (97≤c) && decide (c≤122))=false:=by
  rw [Bool.eq_false_iff];intro h;simp only [UInt8.le_iff_toNat_le,Bool.and_eq_true,decide_eq_true_eq] at h;simp at h;omega
 have e2:(decide (48≤c) && decide (c≤57))=false:=by
  rw [Bool.eq_false_iff];intro h;simp only [UInt8.le_iff_toNat_le,Bool.and_eq_true,decide_eq_true_eq] at h;simp at h;omega
 simp [iN,e1,e2]
theorem LM (s:ByteArray) (k:Nat) (h:k<s.size):s.data.toList.take (k+1)=s.data.toList.take k++[s[k]]:=by
 rw [List.take_succ_eq_append_getElem (by simpa using h)];rfl
theorem UY {s:ByteArray} {k:Nat} (h:k<s.size) (hc:iN s[k]=false):may s.data.toList=false:=by
 have:s.data.toList.all iN=false:=by
  rw [List.all_eq_false]
  exact ⟨s[k],by rw [show s[k]=s.data.toList[k]'(by simpa using h) from rfl];exact List.getElem_mem _,by simp [hc]⟩
 simp [may,this]
theorem LP (s:ByteArray) (w:World) (hs:s.size≤maxLen) :
  Calls Tryz.prog 94 #[.string s] w fun e w2=>e=.returned (.bool (may s.data.toList))∧w=w2:=by
 unfold maxLen at hs
 go_enter Tryz.func94,Tryz.ntmps94
 go_wp2
 go_loop [7] (fun i=>∃ k:Nat,k≤s.size∧i=.int .i64 k∧(s.data.toList.take k).all iN=true) (fun i=>s.size - (intOf i).toNat)
 case atStart=>exact ⟨0,Nat.zero_le _,rfl,rfl⟩
 case round =>
  obtain ⟨k,hk,rfl,hall⟩:=hrel
  have Fj:=Lib.hid hall
  clear hall
  by_cases hlt:k<s.size
  ·have next:Hid (iN s[k]=true→(s.data.toList.take (k+1)).all iN=true):=fun h=>by rw [LM s k hlt,List.all_append,Fj.out];simp [h]
   have stop:Hid (iN s[k]=false→may s.data.toList=false):=UY hlt
   go_wp2_with (go_at_call 130;refine (Rq _ _).mono ?_;rintro e w2 ⟨r,rfl,rfl,hr⟩;have HR:=Lib.hid hr;clear hr)
   all_goals first
    | (refine ⟨⟨k + 1,by omega,by go_num,next.out ?_⟩,by simp [intOf]; omega⟩
       first
       | exact IA ‹_› ‹_›
       | exact IB ‹_› ‹_›
       | (rw [yh (by omega) (by omega),← HR.out]
          simp only [Bool.not_eq_false',decide_eq_true_eq] at *
          omega))
    | (go_ret
       refine ⟨dw (stop.out ?_).symm,rfl⟩
       rw [yh (by omega) (by omega),← HR.out]
       simp only [Bool.not_eq_true',decide_eq_false_iff_not] at *
       omega)
  ·have hall:s.data.toList.all iN=true:=by
    have:=Fj.out
    rwa [List.take_of_length_le (by simp;omega)] at this
   have HA:Hid (may s.data.toList=(!s.toList.isEmpty && decide ((s.size:Int)≤80))):=by
    rw [ByteArray.toList_eq]
    simp only [may,hall,Bool.true_and]
    congr 1
    rw [decide_eq_decide]
    have:s.data.toList.length=s.size:=by simp
    omega
   clear hall
   go_wp2
   all_goals go_ret
   ·refine ⟨dw ?_,rfl⟩
    rw [HA.out]
    simp only [*]
    rfl
   ·exact ⟨dw HA.out.symm,rfl⟩
theorem sZ (n:Bs) (w:World) (hn:n.length≤maxLen):Calls Tryz.prog 94 #[.string ⟨n.toArray⟩] w fun e w2=>e=.returned (.bool (may n))∧w=w2:=LP ⟨n.toArray⟩ w hn
end
section
open Go.RowKit Go.Maps Go.Sort
abbrev Strs (w:World) (v:Value) (l:List Bs):Prop:=w.ownsRow 0 9 1 v l.length (l.map encStr)
theorem jd:∀ x y:Bs,bytesBefore x y=decide (x<y)
 | [],[]=>by simp [bytesBefore]
 | [],_::_=>by simp [bytesBefore]
 | _::_,[]=>by simp [bytesBefore]
 | a::r,b::s=>by
  simp only [bytesBefore,jd r s,List.cons_lt_cons_iff]
  rw [Bool.eq_iff_iff]
  simp
def uf (l:List Bs):List Bs:=l.mergeSort fun x y=>decide (x≤y)
theorem IC {l m:List Bs} (h:l.Perm m) (hm:m.Pairwise fun x y=>x≤y):uf l=m:=by
 have tr:∀ a b c:Bs,decide (a≤b)=true→decide (b≤c)=true→decide (a≤c)=true:=fun a b c h1 h2=>by
  simp only [decide_eq_true_eq] at *;exact List.le_trans h1 h2
 have tot:∀ a b:Bs,(decide (a≤b) || decide (b≤a))=true:=fun a b=>by
  simp only [Bool.or_eq_true,decide_eq_true_eq];exact List.le_total a b
 refine List.Perm.eq_of_pairwise (le:=fun a b:Bs=>decide (a≤b)=true) (fun a b _ _ h1 h2=>?_) (List.pairwise_mergeSort tr tot l) ?_ ((List.mergeSort_perm _ _).trans h)
 ·simp only [decide_eq_true_eq] at h1 h2
  exact List.le_antisymm h1 h2
 ·simpa using hm
theorem LQ (v:Value) (l:List Bs) (w:World) (h:Strs w v l) (hl:l.length<4611686018427387904) :
  Calls Tryz.prog 82 #[v] w fun r w2=>r=.returned (.tuple #[])∧Strs w2 v (uf l)∧Ext v.ownBlock.toList w w2:=by
 by_cases hv:v=.slice none 0 0
 ·subst hv
  have h0:l=[]:=by
   rcases h.2 with ⟨_,h1⟩ | ⟨g,cap,cur,he,_⟩
   ·exact List.eq_nil_of_length_eq_zero h1
   ·cases he
  subst h0
  refine (Tryz.slices_Sort_string_none none 0 w).mono fun r w2 h2=>?_
  obtain ⟨rfl,rfl⟩:=h2
  exact ⟨rfl,by simpa [uf] using h,Ext.refl _ _⟩
 ·obtain ⟨g,cap,rfl,_,hg,hn,hm,hz,hH⟩:=Lib.holds_of_ownsRow h hv
  refine (Tryz.slices_Sort_string g 0 cap l w hH hg hl).mono fun r w2 h2=>?_
  obtain ⟨rfl,n,os,rfl⟩:=h2
  have hlen:(uf l).length=l.length:=by simp [uf]
  have h3:=Lib.ownsRow_putRow (q:=n) h hlen (Nat.le_refl _)
  rw [List.take_of_length_le (by omega)] at h3
  refine ⟨rfl,?_,?_⟩
  ·have x1:Ext [] (putRow encStr (Sort.ahead w n) g 0 (uf l).toArray) (grow (putRow encStr (Sort.ahead w n) g 0 (uf l).toArray) os) :=
    ⟨rfl,rfl,rfl,by simp,fun k hk _=>heap_grow_old _ _ hk⟩
   have:=fF h3 x1 (by simp)
   rw [← hlen] at this
   show World.ownsRow _ 0 9 1 _ (uf l).length ((uf l).map encStr)
   rw [hlen] at this ⊢
   exact this
  ·refine ⟨rfl,rfl,rfl,by simp [Sort.ahead],fun k hk hn=>?_⟩
   rw [heap_grow_old _ _ (by simpa [Sort.ahead] using hk)]
   have hne:g≠k:=fun e=>hn (by simp [Value.ownBlock,e])
   simp only [putRow,mapBlock,Array.getElem?_modify,if_neg hne]
   rfl
end
section
open Go.RowKit Go.Maps Go.Sort
abbrev vE (e k:Nat) (v:Value) (n:Nat) (xs:List Value):aT where
 holds:=fun F w=>F=v.ownBlock.toList∧w.ownsRow 0 e k v n xs
 keeps:=fun h hx hd=>⟨h.1,fF h.2 hx fun j hj=>hd j (by rw [h.1];simp [hj])⟩
 inside:=fun h x hx=>by rw [h.1] at hx;exact (h.2.lt x (by simpa using hx)).2
section
variable {w0 w:World} {F0:List Nat} {L:List aT} {e k n b:Nat} {v:Value} {xs:List Value}
theorem Sp.Dv (S:Sp w0 F0 w L) (e k:Nat):Sp w0 F0 w (vE e k (.slice none 0 0) 0 []::L) :=
 S.gain (G:=[]) (Ext.refl [] w) ⟨rfl,by simp,.inl ⟨rfl,rfl⟩⟩ (by simp)
theorem Sp.row (S:Sp w0 F0 w (vE e k v n xs::L)):w.ownsRow 0 e k v n xs:=by
 obtain ⟨F,⟨_,h⟩,_⟩:=S.take
 exact h
theorem Sp.tq (t ty:TypeId) (c:Array Value) (z:Value) (bytes:Nat) (ZV:(Tryz.prog.info? e).map (fun i=>(i.zero,i.size,i.bytes))=some (some z,k,bytes)) (hzk:z.cells.size=k) (ht:Tryz.prog.underlying t=some (.slice e)) (hk:0<k) (hby:bytes≤1000)
  (hc:c.size=k) (hone:∀ u∈c.toList,u.oneCell'=true) (hn:n<10000000000) (S:Sp w0 F0 w (ae b c e::vE e k v n xs::L)) :
  ∃ g cap w2,(Builtin.append_ #[t,t] ty #[v,.slice (some ⟨b,0,none⟩) 1 1]).run Tryz.prog w=.ok (.slice (some ⟨g,0,none⟩) (n+1) cap) w2∧Sp w0 F0 w2 (ae b c e::vE e k (.slice (some ⟨g,0,none⟩) (n+1) cap) (n+1) (xs++c.toList)::L):=by
 obtain ⟨i0,hi0,hz0,hz1,hz2⟩:=info_parts ZV
 have hown:=S.ak.row
 have hb:=S.boxed
 obtain ⟨g,cap,w2,hr,ho,hg,hat,_⟩:=run_append_lies (P:=Tryz.prog) w t ty 0 e i0 z k bytes ht hi0 hz0 hz1 hz2 hzk hk v n xs hown ⟨b,0,none⟩ 1 1 c.toList (by simp [hc]) (World.news_of_block (fr:=(0,0)) hb) hone (by omega) (by unfold maxLen;omega)
  (by have:(n+1)*bytes≤10000000000*1000:=Nat.mul_le_mul (by omega) hby;omega) (Nat.zero_le _) _ rfl
 obtain ⟨F,⟨rfl,_⟩,hk3⟩:=S.ak.take
 refine ⟨g,cap,w2,hr,(hk3 w2 (vE e k (.slice (some ⟨g,0,none⟩) (n+1) cap) (n+1) (xs++c.toList)) [g] ⟨rfl,ho⟩ ⟨⟨hg.os,hg.tape,hg.output,hg.size,fun j hj hn=>hg.block j hj (fun e=>hn (by simp [← e]))⟩,fun x hx=>?_⟩).ak⟩
 simp only [List.mem_singleton] at hx
 subst hx
 rcases hat with h | h
 ·exact .inl (by simp [h])
 ·exact .inr (by omega)
theorem uF:∀ (xs:List (List Value)) (k i:Nat) (r:List Value),(∀ x∈xs,x.length=k)→xs[i]? = some r→∀ j,j<k→(xs.flatten)[i*k+j]? = r[j]?
 | [],_,_,_,_,h=>by simp at h
 | x::xs,k,0,r,hl,h=>fun j hj=>by
  simp only [List.getElem?_cons_zero,Option.some.injEq] at h
  subst h
  rw [List.flatten_cons,List.getElem?_append_left (by rw [hl x (by simp)];omega)]
  simp
 | x::xs,k,i+1,r,hl,h=>fun j hj=>by
  simp only [List.getElem?_cons_succ] at h
  have h1:=uF xs k i r (fun y hy=>hl y (by simp [hy])) h j hj
  rw [List.flatten_cons,List.getElem?_append_right (by rw [hl x (by simp),Nat.add_mul];omega),hl x (by simp),← h1]
  congr 1
  rw [Nat.add_mul]
  omega
theorem Sp.zt {rs:List (List Value)} {g cap:Nat} (S:Sp w0 F0 w (vE e k (.slice (some ⟨g,0,none⟩) n cap) n rs.flatten::L)) (hl:∀ x∈rs,x.length=k) {i:Nat} {r:List Value} (hr:rs[i]? = some r) {j:Nat} {u:Value} (hu:r[j]? = some u):w.cell? ⟨g,i*k+j,none⟩=some u:=by
 have hj:j<k:=by rw [← hl r (List.mem_of_getElem? hr)];exact (List.getElem?_eq_some_iff.1 hu).1
 have h:=S.row.cells (g:=g) rfl (i*k+j) u (by rw [uF rs k i r hl hr j hj,hu])
 have hadd:(⟨g,0,none⟩:Addr).add (i*k+j)=⟨g,i*k+j,none⟩:=by unfold Addr.add;split <;> simp_all
 rw [hadd] at h
 exact h
theorem Sp.jr (S:Sp w0 F0 w (vE e k v n xs::L)):(v=.slice none 0 0∧n=0)∨∃ g cap,v=.slice (some ⟨g,0,none⟩) n cap:=by
 rcases S.row.2 with ⟨h1,h2⟩ | ⟨g,cap,cur,h1,_⟩
 ·exact .inl ⟨h1,h2⟩
 ·exact .inr ⟨g,cap,h1⟩
theorem Sp.Kk (S:Sp w0 F0 w L) (e k n:Nat) (xs:List Value) (hx:xs.length=n*k) (hn:n≤maxLen):Sp w0 F0 (w.alloc (.cells xs.toArray e)) (vE e k (.slice (some ⟨w.heap.size,0,none⟩) n n) n xs::L) :=
 S.gain (G:=[w.heap.size]) ((Ext.refl [] w).alloc _) ⟨rfl,hx,.inr ⟨w.heap.size,n,xs.toArray,rfl,Nat.zero_le _,(MapKept.heap_alloc w _).1,Nat.le_refl _,hn,by simpa using hx,by rw [← hx];simp⟩⟩ (by simp)
theorem Og:(Tryz.prog.info? 9).map (fun i=>(i.zero,i.size,i.bytes))=some (some (.string ⟨#[]⟩),1,16):=by kernel_rfl
abbrev nz (v:Value) (l:List Bs):aT:=vE 9 1 v l.length (l.map encStr)
theorem Sp.Oh (S:Sp w0 F0 w L):Sp w0 F0 w (nz (.slice none 0 0) []::L):=S.Dv 9 1
theorem Sp.appendText (ty:TypeId) {l:List Bs} (x:Bs) (hn:l.length<10000000000) (S:Sp w0 F0 w (ae b #[.string ⟨x.toArray⟩] 9::nz v l::L)) :
  ∃ g cap w2,(Builtin.append_ #[23,23] ty #[v,.slice (some ⟨b,0,none⟩) 1 1]).run Tryz.prog w=.ok (.slice (some ⟨g,0,none⟩) (l.length+1) cap) w2∧Sp w0 F0 w2 (nz (.slice (some ⟨g,0,none⟩) (l.length+1) cap) (l++[x])::L):=by
 obtain ⟨g,cap,w2,h1,S2⟩:=Sp.tq 23 ty #[.string ⟨x.toArray⟩] _ 16 Og rfl Tryz.underlying23 (by decide) (by decide) rfl (by simp [Value.oneCell']) hn S
 refine ⟨g,cap,w2,h1,?_⟩
 have e1:(l++[x]).map encStr=l.map encStr++[.string ⟨x.toArray⟩]:=by simp [show ∀ l:Bs,encStr l=.string ⟨l.toArray⟩ from fun _=>rfl]
 have e2:(l++[x]).length=l.length+1:=by simp
 unfold nz
 rw [e1,e2]
 exact S2.drop
end
end
section
open Go.RowKit Go.Sort
theorem Oi (w:World) (o:Obj) (dk:Array UInt8) (n:Nat):∃ os,(putRow (fun (b:UInt8)=>Value.int .u8 (b.toNat:Int)) (w.alloc o) w.heap.size 0 dk).drewN n=grow (w.drewN n) os:=by
 rw [alloc_eq_grow]
 obtain ⟨os',_,e⟩:=putRow_grow_new (fun (b:UInt8)=>Value.int .u8 (b.toNat:Int)) w #[o] w.heap.size 0 dk (Nat.le_refl _)
 exact ⟨os',by rw [e];rfl⟩
theorem BP (u:Nat) (hu64:u<18446744073709551616) (w:World) (htab:Lib.TabIs Tryz.prog w "internal/strconv.uint64pow10" .u64 Lib.pow10Tab) :
  Calls Tryz.prog 87 #[.int .u64 u,.int .i64 10] w fun e w'=>e=.returned (.string ⟨(Lib.decDigits u).toArray⟩)∧Grown w w':=by
 by_cases hs:u<100
 ·go_enter Tryz.func87,Tryz.ntmps87
  go_wp2_with (go_at_call 123;refine (Tryz.internal_strconv_small u hs _).mono ?_;rintro e w' ⟨rfl,rfl⟩)
  go_ret
  exact ⟨rfl,Grown.refl _⟩
 ·have hu1:1≤u:=by omega
  have hnd20:Lib.nDigits u≤20:=by have:=Lib.numDigits_eq u hu1 hu64;split at this <;> omega
  have hal:(Tryz.prog).arrayLen 210=24:=by kernel_rfl
  have hsl1:∀ W,(Instr.sliceAt 210 (.pointer (some ⟨w.heap.size,0,none⟩)) none (some (.int .i64 (Lib.nDigits u:Int))) none).run Tryz.prog W=.ok (.slice (some ⟨w.heap.size,0,none⟩) (Lib.nDigits u) 24) W:=fun W=>by
   rw [run_sliceAt_array_h W 210 ⟨w.heap.size,0,none⟩ (by kernel_rfl) .i64 (Lib.nDigits u:Int) (by omega) (by rw [hal];omega)]
   rw [hal]
   rfl
  have hH0:=Lib.holds_zero0 w 210 (Lib.nDigits u) (by omega)
  have hfmt:=Tryz.internal_strconv_formatBase10 w.heap.size 0 24 u (Array.replicate (Lib.nDigits u) 0) (w.alloc (.cells Lib.zeros24 210)) hH0 (by rw [Array.size_replicate];exact Lib.lt_pow_nDigits u) hu64 (by rw [Array.size_replicate];omega)
  rw [Array.size_replicate] at hfmt
  have HH0:=Lib.hid hH0
  clear hH0 hal
  go_enter Tryz.func87,Tryz.ntmps87
  go_wp2_with (first
   | (go_at_call 124;refine (Tryz.internal_strconv_numDigits u hu1 hu64 _ (Lib.tabIs_alloc htab _)).mono ?_;rintro e w' ⟨rfl,rfl⟩))
  go_at_call 125
  refine hfmt.mono ?_
  rintro e w' ⟨rfl,k,v',dk,rfl,hF⟩
  have hcv:(convert 79 9 (.slice (some ⟨w.heap.size,0,none⟩) (Lib.nDigits u) 24)).run Tryz.prog ((putRow (fun (b:UInt8)=>Value.int .u8 (b.toNat:Int)) (w.alloc (.cells Lib.zeros24 210)) w.heap.size 0 dk).drewN k)=.ok (.string ⟨(Lib.decDigits u).toArray⟩) ((putRow (fun (b:UInt8)=>Value.int .u8 (b.toNat:Int)) (w.alloc (.cells Lib.zeros24 210)) w.heap.size 0 dk).drewN k):=by
   have h:=run_convert_bytes_back (P:=Tryz.prog) ((putRow (fun (b:UInt8)=>Value.int .u8 (b.toNat:Int)) (w.alloc (.cells Lib.zeros24 210)) w.heap.size 0 dk).drewN k) 79 9 5 ⟨w.heap.size,0,none⟩ 24 (Lib.decDigits u) Tryz.underlying79 Tryz.underlying5 Tryz.underlying9 (fun j hj=>by
    rw [Lib.row_is_numeral hF j hj,Lib.add_plain,World.cell?_drewN]
    exact cell?_putRow (fun (b:UInt8)=>Value.int .u8 (b.toNat:Int)) _ w.heap.size 0 _ dk HH0.out (by rw [hF.size,Array.size_replicate]) j (by rw [hF.size];rw [Lib.decDigits_length] at hj;exact hj))
   rw [Lib.decDigits_length] at h
   exact h
  go_wp2
  go_ret
  obtain ⟨os,eo⟩:=Oi w (.cells Lib.zeros24 210) dk k
  exact ⟨rfl,k,os,eo⟩
theorem uG (u:Nat) (hu64:u<18446744073709551616) (w:World) (E:Env w) :
  Calls Tryz.prog 57 #[.int .u64 u,.int .i64 10] w fun e w'=>e=.returned (.string ⟨(Lib.decDigits u).toArray⟩)∧Grown w w':=by
 have h:=BP u hu64 w E.tab
 clear E
 go_enter Tryz.func57,Tryz.ntmps57
 go_wp2_with fail
 refine h.mono ?_
 rintro e w' ⟨rfl,hg⟩
 have HG:=Lib.hid hg
 clear hg
 go_wp2
 go_ret
 exact ⟨rfl,HG.out⟩
end
end Go.Proofs.YtangbdahnmomlaaGreatDoor
