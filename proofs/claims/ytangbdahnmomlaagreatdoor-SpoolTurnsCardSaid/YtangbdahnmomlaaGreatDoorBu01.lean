/- Memory as a list of parts that lie apart: what a world holds, each part in blocks of its own, and how calls move it. No condition. pack, plainly: -/
import Derived.Test.YtangbdahnmomlaaGreatDoorBu00
set_option linter.unnecessarySimpa false
set_option linter.unusedSimpArgs false
set_option linter.unusedVariables false
namespace Go.Proofs.YtangbdahnmomlaaGreatDoor
section
open Go.RowKit
structure aT where
 holds:List Nat→World→Prop
 keeps:∀ {F:List Nat} {w w2:World} {G:List Nat},holds F w→Ext G w w2→(∀ x∈F,x∉G)→holds F w2
 inside:∀ {F:List Nat} {w:World},holds F w→∀ x∈F,x<w.heap.size
structure LD (w0:World) (F0:List Nat) (w:World) (M:List (aT×List Nat)):Prop where
 ext:Ext F0 w0 w
 all:∀ r∈M,r.1.holds r.2 w
 apart:M.Pairwise fun r s=>∀ x∈r.2,x∉s.2
 own:∀ r∈M,∀ x∈r.2,x∈F0∨w0.heap.size≤x
def Sp (w0:World) (F0:List Nat) (w:World) (L:List aT):Prop:=∃ M:List (aT×List Nat),M.map (·.1)=L∧LD w0 F0 w M
section
variable {w0 w w1 w2:World} {F0 F G:List Nat} {M N:List (aT×List Nat)} {L:List aT} {r s t u v:aT}
theorem LD.iq (h:LD w0 F0 w M) (hx:Ext [] w w2):LD w0 F0 w2 M :=
 ⟨h.ext.trans hx (by simp),fun r hr=>r.1.keeps (h.all r hr) hx (by simp),h.apart,h.own⟩
theorem LD.perm (h:LD w0 F0 w M) (hp:M.Perm N):LD w0 F0 w N :=
 ⟨h.ext,fun r hr=>h.all r (hp.symm.subset hr),(hp.pairwise_iff (fun {_ _} hab x hb ha=>hab x ha hb)).1 h.apart,fun r hr=>h.own r (hp.symm.subset hr)⟩
theorem LD.moved (h:LD w0 F0 w ((r,F)::M)) (m:cB F w w2 G) (hs:s.holds G w2):LD w0 F0 w2 ((s,G)::M):=by
 have hp:=List.pairwise_cons.1 h.apart
 have hown:=h.own (r,F) (by simp)
 have ZU:∀ q∈M,∀ x∈q.2,x∉F:=fun q hq x hx hr=>hp.1 q hq x hr hx
 refine ⟨h.ext.trans m.ext hown,?_,?_,?_⟩
 ·intro q hq
  rcases List.mem_cons.1 hq with rfl | hq
  ·exact hs
  ·exact q.1.keeps (h.all q (by simp [hq])) m.ext (ZU q hq)
 ·rw [List.pairwise_cons]
  refine ⟨fun q hq x hx Q9=>?_,hp.2⟩
  rcases m.new x hx with h1 | h1
  ·exact hp.1 q hq x h1 Q9
  ·have:=q.1.inside (h.all q (by simp [hq])) x Q9
   omega
 ·intro q hq x hx
  rcases List.mem_cons.1 hq with rfl | hq
  ·rcases m.new x hx with h1 | h1
   ·exact hown x h1
   ·have:=h.ext.size
    exact .inr (by omega)
  ·exact h.own q (by simp [hq]) x hx
theorem LD.gain (h:LD w0 F0 w M) (hx:Ext [] w w2) (hs:s.holds G w2) (hn:∀ x∈G,w.heap.size≤x):LD w0 F0 w2 ((s,G)::M):=by
 have h2:=h.iq hx
 refine ⟨h2.ext,?_,?_,?_⟩
 ·intro q hq
  rcases List.mem_cons.1 hq with rfl | hq
  ·exact hs
  ·exact h2.all q hq
 ·rw [List.pairwise_cons]
  exact ⟨fun q hq x hx Q9=>by have:=hn x hx;have:=q.1.inside (h.all q hq) x Q9;omega,h.apart⟩
 ·intro q hq x hx
  rcases List.mem_cons.1 hq with rfl | hq
  ·have:=hn x hx
   have:=h.ext.size
   exact .inr (by omega)
  ·exact h.own q hq x hx
theorem Sp.nil (w:World) (F0:List Nat):Sp w F0 w []:=⟨[],rfl,Ext.refl _ _,by simp,List.Pairwise.nil,by simp⟩
theorem Sp.iq (h:Sp w0 F0 w L) (hx:Ext [] w w2):Sp w0 F0 w2 L:=by
 obtain ⟨M,hM,h⟩:=h
 exact ⟨M,hM,h.iq hx⟩
theorem Sp.ext (h:Sp w0 F0 w L):Ext F0 w0 w:=by
 obtain ⟨M,hM,h⟩:=h
 exact h.ext
theorem Sp.drew (h:Sp w0 F0 w L):Sp w0 F0 w.drew L:=h.iq (Ext.refl [] w).drew
theorem Sp.drewN (h:Sp w0 F0 w L) (n:Nat):Sp w0 F0 (w.drewN n) L:=h.iq ((Ext.refl [] w).drewN n)
theorem Sp.new (h:Sp w0 F0 w L) (o:Obj):Sp w0 F0 (w.alloc o) L:=h.iq ((Ext.refl [] w).alloc o)
theorem Sp.take (h:Sp w0 F0 w (r::L)):∃ F,r.holds F w∧∀ (w2:World) (s:aT) (G:List Nat),s.holds G w2→cB F w w2 G→Sp w0 F0 w2 (s::L):=by
 obtain ⟨M,hM,h⟩:=h
 obtain ⟨a,M',rfl,rfl,rfl⟩:=List.map_eq_cons_iff.1 hM
 obtain ⟨r,F⟩:=a
 exact ⟨F,h.all (r,F) (by simp),fun w2 s G hs m=>⟨(s,G)::M',rfl,h.moved m hs⟩⟩
theorem Sp.gain (h:Sp w0 F0 w L) (hx:Ext [] w w2) (hs:s.holds G w2) (hn:∀ x∈G,w.heap.size≤x):Sp w0 F0 w2 (s::L):=by
 obtain ⟨M,rfl,h⟩:=h
 exact ⟨(s,G)::M,rfl,h.gain hx hs hn⟩
theorem Sp.drop (h:Sp w0 F0 w (r::L)):Sp w0 F0 w L:=by
 obtain ⟨M,hM,h⟩:=h
 obtain ⟨a,M',rfl,rfl,rfl⟩:=List.map_eq_cons_iff.1 hM
 exact ⟨M',rfl,h.ext,fun r hr=>h.all r (by simp [hr]),(List.pairwise_cons.1 h.apart).2,fun r hr=>h.own r (by simp [hr])⟩
theorem Sp.drops (K:List aT) (h:Sp w0 F0 w (K++L)):Sp w0 F0 w L:=by
 induction K with
 | nil=>exact h
 | cons a K ih=>exact ih h.drop
theorem Sp.ak (h:Sp w0 F0 w (r::s::L)):Sp w0 F0 w (s::r::L):=by
 obtain ⟨M,hM,h⟩:=h
 obtain ⟨a,M1,rfl,rfl,hM1⟩:=List.map_eq_cons_iff.1 hM
 obtain ⟨b,M2,rfl,rfl,rfl⟩:=List.map_eq_cons_iff.1 hM1
 exact ⟨b::a::M2,rfl,h.perm (List.Perm.swap ..)⟩
theorem Sp.under {K:List aT} (h:Sp w0 F0 w (r::L)) (hk:∀ {w0 w:World} {F0:List Nat},Sp w0 F0 w L→Sp w0 F0 w K):Sp w0 F0 w (r::K):=by
 obtain ⟨M,hM,h⟩:=h
 obtain ⟨a,M1,rfl,rfl,rfl⟩:=List.map_eq_cons_iff.1 hM
 have hp:=List.pairwise_cons.1 h.apart
 obtain ⟨M2,h2,h3⟩:=hk (w0:=w) (w:=w) (F0:=M1.flatMap (·.2)) ⟨M1,rfl,Ext.refl _ _,fun r hr=>h.all r (by simp [hr]),hp.2,fun r hr x hx=>.inl (List.mem_flatMap.2 ⟨r,hr,hx⟩)⟩
 have hin:∀ q∈M2,∀ x∈q.2,∃ p∈M1,x∈p.2:=fun q hq x hx=>by
  rcases h3.own q hq x hx with h | h
  ·exact List.mem_flatMap.1 h
  ·have:=q.1.inside (h3.all q hq) x hx
   omega
 refine ⟨a::M2,by simp [h2],h.ext,?_,?_,?_⟩
 ·intro q hq
  rcases List.mem_cons.1 hq with rfl | hq
  ·exact h.all _ (by simp)
  ·exact h3.all q hq
 ·rw [List.pairwise_cons]
  refine ⟨fun q hq x hx Q9=>?_,h3.apart⟩
  obtain ⟨p,hp1,hp2⟩:=hin q hq x Q9
  exact hp.1 p hp1 x hx hp2
 ·intro q hq x hx
  rcases List.mem_cons.1 hq with rfl | hq
  ·exact h.own _ (by simp) x hx
  ·obtain ⟨p,hp1,hp2⟩:=hin q hq x hx
   exact h.own p (by simp [hp1]) x hp2
theorem Sp.dJ (h:Sp w0 F0 w (r::s::t::L)):Sp w0 F0 w (t::r::s::L):=(h.under Sp.ak).ak
theorem Sp.nV (h:Sp w0 F0 w (r::s::t::u::L)):Sp w0 F0 w (u::r::s::t::L):=(h.under Sp.dJ).ak
abbrev aT.and (r s:aT):aT where
 holds:=fun F w=>∃ G H,r.holds G w∧s.holds H w∧(∀ x∈G,x∉H)∧F=G++H
 keeps:=by
  rintro F w w2 K ⟨G,H,h1,h2,h3,rfl⟩ hx hd
  exact ⟨G,H,r.keeps h1 hx (fun x hx=>hd x (by simp [hx])),s.keeps h2 hx (fun x hx=>hd x (by simp [hx])),h3,rfl⟩
 inside:=by
  rintro F w ⟨G,H,h1,h2,h3,rfl⟩ x hx
  rcases List.mem_append.1 hx with hx | hx
  ·exact r.inside h1 x hx
  ·exact s.inside h2 x hx
theorem Sp.part (h:Sp w0 F0 w (r.and s::L)):Sp w0 F0 w (r::s::L):=by
 obtain ⟨M,hM,h⟩:=h
 obtain ⟨⟨a,F⟩,M1,rfl,ha,rfl⟩:=List.map_eq_cons_iff.1 hM
 dsimp only at ha
 subst ha
 obtain ⟨G,H,h1,h2,h3,rfl⟩:=h.all _ (List.mem_cons_self ..)
 have hp:=List.pairwise_cons.1 h.apart
 refine ⟨(r,G)::(s,H)::M1,rfl,h.ext,?_,?_,?_⟩
 ·intro q hq
  simp only [List.mem_cons] at hq
  rcases hq with rfl | rfl | hq
  ·exact h1
  ·exact h2
  ·exact h.all q (by simp [hq])
 ·rw [List.pairwise_cons,List.pairwise_cons]
  refine ⟨fun q hq x hx=>?_,fun q hq x hx=>hp.1 q hq x (by simp [hx]),hp.2⟩
  rcases List.mem_cons.1 hq with rfl | hq
  ·exact h3 x hx
  ·exact hp.1 q hq x (by simp [hx])
 ·intro q hq x hx
  simp only [List.mem_cons] at hq
  rcases hq with rfl | rfl | hq
  ·exact h.own (_,G++H) (List.mem_cons_self ..) x (List.mem_append_left _ hx)
  ·exact h.own (_,G++H) (List.mem_cons_self ..) x (List.mem_append_right _ hx)
  ·exact h.own q (by simp [hq]) x hx
theorem Sp.glue (h:Sp w0 F0 w (r::s::L)):Sp w0 F0 w (r.and s::L):=by
 obtain ⟨M,hM,h⟩:=h
 obtain ⟨⟨a,F⟩,M1,rfl,ha,hM1⟩:=List.map_eq_cons_iff.1 hM
 obtain ⟨⟨b,G⟩,M2,rfl,hb,rfl⟩:=List.map_eq_cons_iff.1 hM1
 dsimp only at ha hb
 subst ha hb
 have hp:=List.pairwise_cons.1 h.apart
 have hp2:=List.pairwise_cons.1 hp.2
 refine ⟨(_,F++G)::M2,rfl,h.ext,?_,?_,?_⟩
 ·intro q hq
  rcases List.mem_cons.1 hq with rfl | hq
  ·exact ⟨F,G,h.all (a,F) (by simp),h.all (b,G) (by simp),hp.1 (b,G) (by simp),rfl⟩
  ·exact h.all q (by simp [hq])
 ·rw [List.pairwise_cons]
  refine ⟨fun q hq x hx Q9=>?_,hp2.2⟩
  rcases List.mem_append.1 hx with h1 | h1
  ·exact hp.1 q (by simp [hq]) x h1 Q9
  ·exact hp2.1 q hq x h1 Q9
 ·intro q hq x hx
  rcases List.mem_cons.1 hq with rfl | hq
  ·rcases List.mem_append.1 hx with h1 | h1
   ·exact h.own (a,F) (by simp) x h1
   ·exact h.own (b,G) (by simp) x h1
  ·exact h.own q (by simp [hq]) x hx
theorem Sp.pick (K:List aT) (I:List Nat) (hI:I.Nodup) (h:Sp w0 F0 w (K++L)):Sp w0 F0 w (I.filterMap (fun i=>K[i]?)++L):=by
 obtain ⟨M,hM,h⟩:=h
 obtain ⟨M1,M2,rfl,h1,rfl⟩:=List.map_eq_append_iff.1 hM
 have hmem:∀ q∈I.filterMap (fun i=>M1[i]?),q∈M1:=fun q hq=>by
  obtain ⟨i,_,hi⟩:=List.mem_filterMap.1 hq
  exact List.mem_of_getElem? hi
 refine ⟨I.filterMap (fun i=>M1[i]?)++M2,?_,h.ext,?_,?_,?_⟩
 ·rw [List.map_append,List.map_filterMap]
  congr 2
  funext i
  rw [← h1]
  simp
 ·intro q hq
  rcases List.mem_append.1 hq with hq | hq
  ·exact h.all q (by simp [hmem q hq])
  ·exact h.all q (by simp [hq])
 ·obtain ⟨p1,p2,p3⟩:=List.pairwise_append.1 h.apart
  refine List.pairwise_append.2 ⟨?_,p2,fun a ha b hb=>p3 a (hmem a ha) b hb⟩
  rw [List.pairwise_filterMap]
  refine hI.imp fun {i j} hij a ha b hb=>?_
  obtain ⟨hi,rfl⟩:=List.getElem?_eq_some_iff.1 ha
  obtain ⟨hj,rfl⟩:=List.getElem?_eq_some_iff.1 hb
  rcases Nat.lt_or_gt_of_ne hij with hlt | hlt
  ·exact List.pairwise_iff_getElem.1 p1 i j hi hj hlt
  ·exact fun x hx hx2=>List.pairwise_iff_getElem.1 p1 j i hj hi hlt x hx2 hx
 ·intro q hq
  rcases List.mem_append.1 hq with hq | hq
  ·exact h.own q (by simp [hmem q hq])
  ·exact h.own q (by simp [hq])
theorem Sp.as (h:Sp w0 F0 w (r::L)) (hs:∀ F,r.holds F w→s.holds F w):Sp w0 F0 w (s::L):=by
 obtain ⟨F,h1,h2⟩:=h.take
 exact h2 w s F (hs F h1) (cB.refl F w)
abbrev aT.ex {α:Type} (f:α→aT):aT where
 holds:=fun F w=>∃ a,(f a).holds F w
 keeps:=fun ⟨a,h⟩ hx hd=>⟨a,(f a).keeps h hx hd⟩
 inside:=fun ⟨a,h⟩=>(f a).inside h
theorem Sp.mD {α:Type} {f:α→aT} (h:Sp w0 F0 w (aT.ex f::L)):∃ a,Sp w0 F0 w (f a::L):=by
 obtain ⟨F,⟨a,h1⟩,h2⟩:=h.take
 exact ⟨a,h2 w (f a) F h1 (cB.refl F w)⟩
theorem Sp.jP {α:Type} {f:α→aT} (a:α) (h:Sp w0 F0 w (f a::L)):Sp w0 F0 w (aT.ex f::L):=h.as fun _ hF=>⟨a,hF⟩
abbrev ae (b:Nat) (c:Array Value) (T:TypeId):aT where
 holds:=fun F w=>F=[b]∧w.heap[b]? = some (.cells c T (0,0))
 keeps:=fun h hx hd=>⟨h.1,hx.heap h.2 (hd b (by simp [h.1]))⟩
 inside:=fun h x hx=>by rw [h.1] at hx;simp at hx;subst hx;exact jL h.2
theorem Sp.box (h:Sp w0 F0 w L) (c:Array Value) (T:TypeId):Sp w0 F0 (w.alloc (.cells c T)) (ae w.heap.size c T::L) :=
 h.gain (G:=[w.heap.size]) ((Ext.refl [] w).alloc _) ⟨rfl,(MapKept.heap_alloc w _).1⟩ (by simp)
theorem vw {b o:Nat} {c:Array Value} {T:TypeId} {fr:Nat×Nat} (h:w.heap[b]? = some (.cells c T fr)) (v:Value):(w.setCell ⟨b,o,none⟩ v).heap[b]? = some (.cells (c.setIfInBounds o v) T fr):=by
 simp only [World.setCell,Array.getElem?_modify,h]
 simp
theorem Sp.set {b o:Nat} {c:Array Value} {T:TypeId} (h:Sp w0 F0 w (ae b c T::L)) (v:Value):Sp w0 F0 (w.setCell ⟨b,o,none⟩ v) (ae b (c.setIfInBounds o v) T::L):=by
 obtain ⟨F,⟨rfl,h1⟩,h2⟩:=h.take
 exact h2 _ _ [b] ⟨rfl,vw h1 v⟩ (cB.iV ((Ext.refl _ w).setCell (by simp) v))
theorem Sp.boxed {b:Nat} {c:Array Value} {T:TypeId} (h:Sp w0 F0 w (ae b c T::L)):w.heap[b]? = some (.cells c T (0,0)):=by
 obtain ⟨F,⟨rfl,h1⟩,_⟩:=h.take
 exact h1
theorem Sp.cell {b:Nat} {c:Array Value} {T:TypeId} (h:Sp w0 F0 w (ae b c T::L)) (o:Nat):w.cell? ⟨b,o,none⟩=c[o]?:=by
 simp [World.cell?,h.boxed]
theorem Sp.free {b:Nat} {c:Array Value} {T:TypeId} (h:Sp w0 F0 w (ae b c T::L)) (o:Nat):w.frozen? ⟨b,o,none⟩=false:=by
 simp [World.frozen?,h.boxed]
theorem Sp.x8 {b:Nat} {c:Array Value} {T:TypeId} (h:Sp w0 F0 w (ae b c T::L)):b<w.heap.size:=jL h.boxed
end
end
section
def dx (x:Nat):Nat→Bs
 | 0=>[]
 | n+1=>dx (x / 256) n++[UInt8.ofNat (x % 256)]
def iK (s:Bs):Nat:=s.foldl (fun x c=>x*256+c.toNat) 0
def lN:Nat→Nat→Nat
 | 0,_=>0
 | k+1,n=>if n=0 then 0 else lN k (n / 256)+1
def need (n:Nat):Nat:=lN 8 n
def bJ (n:Nat):Bs:=UInt8.ofNat (need n)::dx n (need n)
def aN (s:Bs):Bs:=bJ s.length++s
theorem dE:∀ (n x:Nat),(dx x n).length=n
 | 0,_=>rfl
 | n+1,x=>by simp [dx,dE n]
theorem pg (s:Bs) (c:UInt8):iK (s++[c])=iK s*256+c.toNat:=by simp [iK]
theorem zO:∀ (n x:Nat),iK (dx x n)=x % 256 ^ n
 | 0,x=>by simp [dx,iK,Nat.mod_one]
 | n+1,x=>by
  rw [dx,pg,zO n]
  have h1:(UInt8.ofNat (x % 256)).toNat=x % 256:=by simp
  rw [h1,Nat.pow_succ,Nat.mul_comm (256 ^ n) 256,Nat.mod_mul]
  omega
theorem zP (s:Bs):s=[]∨∃ t c,s=t++[c]:=by
 rcases s.eq_nil_or_concat with h | ⟨t,c,h⟩
 ·exact .inl h
 ·exact .inr ⟨t,c,by simpa using h⟩
theorem vz:∀ (n:Nat) (s:Bs),s.length=n→iK s<256 ^ n
 | 0,s,h=>by rw [List.eq_nil_of_length_eq_zero h];decide
 | n+1,s,h=>by
  rcases zP s with rfl | ⟨t,c,rfl⟩
  ·simp at h
  ·have:=vz n t (by simpa using h)
   have hc:=c.toNat_lt
   rw [pg,Nat.pow_succ]
   omega
theorem zQ:∀ (n:Nat) (s:Bs),s.length=n→dx (iK s) n=s
 | 0,s,h=>by rw [List.eq_nil_of_length_eq_zero h];rfl
 | n+1,s,h=>by
  rcases zP s with rfl | ⟨t,c,rfl⟩
  ·simp at h
  ·have hc:=c.toNat_lt
   rw [pg,dx]
   have h1:(iK t*256+c.toNat) / 256=iK t:=by omega
   have h2:(iK t*256+c.toNat) % 256=c.toNat:=by omega
   rw [h1,h2,zQ n t (by simpa using h)]
   simp
theorem ES:∀ k n,lN k n≤k
 | 0,_=>Nat.le_refl _
 | k+1,n=>by
  unfold lN
  split
  ·omega
  ·have:=ES k (n / 256);omega
theorem zo (n:Nat):need n≤8:=ES 8 n
theorem ET:∀ k n,n<256 ^ k→n<256 ^ lN k n
 | 0,n,h=>by simpa [lN] using h
 | k+1,n,h=>by
  unfold lN
  split
  ·rename_i h0;subst h0;simp
  ·have h1:n / 256<256 ^ k:=by rw [Nat.pow_succ] at h;omega
   have:=ET k (n / 256) h1
   rw [Nat.pow_succ]
   omega
theorem Ra {n:Nat} (h:n<18446744073709551616):n<256 ^ need n:=ET 8 n (by simpa using h)
theorem Ce:∀ k n j,j<lN k n→256 ^ j≤n
 | 0,n,j,h=>by simp [lN] at h
 | k+1,n,j,h=>by
  unfold lN at h
  split at h
  ·omega
  ·rename_i h0
   cases j with
   | zero=>simp;omega
   | succ j =>
    have:=Ce k (n / 256) j (by omega)
    rw [Nat.pow_succ]
    omega
theorem kR {n j:Nat} (h:n<256 ^ j):need n≤j:=by
 rcases Nat.lt_or_ge j (need n) with hlt | hge
 ·have:=Ce 8 n j hlt;omega
 ·exact hge
theorem nW (n:Nat):(bJ n).length=need n+1:=by simp [bJ,dE]
theorem aL (n:Nat):(bJ n).length≤9:=by rw [nW];have:=zo n;omega
theorem jo (s:Bs):(aN s).length=need s.length+1+s.length:=by simp [aN,nW]
theorem aP (s:Bs):(aN s).length≤9+s.length:=by rw [jo];have:=zo s.length;omega
structure Rd where
 s:Bs
 bad:Bool
def Rd.failed:Rd:=⟨[],true⟩
def Rd.take (r:Rd) (n:Nat):Bs×Rd:=if r.bad || decide (r.s.length<n) then ([],Rd.failed) else (r.s.take n,⟨r.s.drop n,false⟩)
def Rd.num (r:Rd) (most:Nat):Nat×Rd :=
 match r.bad,r.s with
 | false,c::t=>if c.toNat≤8∧c.toNat≤t.length∧need (iK (t.take c.toNat))=c.toNat∧iK (t.take c.toNat)≤most then (iK (t.take c.toNat),⟨t.drop c.toNat,false⟩) else (0,Rd.failed)
 | _,_=>(0,Rd.failed)
def Rd.text (r:Rd) (most:Nat):Bs×Rd:=(r.num most).2.take (r.num most).1
def Rd.done (r:Rd):Int:=if r.bad then 2 else if r.s.isEmpty then 0 else 5
theorem gT (n most:Nat) (rest:Bs) (h:n<18446744073709551616) (hm:n≤most):Rd.num ⟨bJ n++rest,false⟩ most=(n,⟨rest,false⟩):=by
 have hn:=zo n
 have h1:(UInt8.ofNat (need n)).toNat=need n:=by simp;omega
 have hl:=dE (need n) n
 have h2:(dx n (need n)++rest).take (need n)=dx n (need n):=List.take_left' hl
 have h3:(dx n (need n)++rest).drop (need n)=rest:=List.drop_left' hl
 have h4:iK (dx n (need n))=n:=by rw [zO];exact Nat.mod_eq_of_lt (Ra h)
 unfold bJ
 rw [List.cons_append]
 generalize dx n (need n)++rest=t at *
 simp only [Rd.num,h1,h2,h3,h4]
 rw [if_pos ⟨hn,by rw [← hl,← h2,List.length_take];omega,trivial,hm⟩]
theorem iD (s:Bs) (most:Nat) (rest:Bs) (h:s.length<18446744073709551616) (hm:s.length≤most):Rd.text ⟨aN s++rest,false⟩ most=(s,⟨rest,false⟩):=by
 unfold Rd.text aN
 rw [List.append_assoc,gT _ _ _ h hm]
 have:¬ (s++rest).length<s.length:=by rw [List.length_append];omega
 simp only [Rd.take,Bool.false_or,decide_eq_true_eq,if_neg this,List.take_left,List.drop_left]
theorem jq (r:Rd) (most:Nat):(r.num most).2.s.length≤r.s.length∧((r.num most).2.bad=false→(r.num most).2.s.length<r.s.length):=by
 obtain ⟨s,b⟩:=r
 cases b <;> cases s
 ·simp [Rd.num,Rd.failed]
 ·rename_i c t
  simp only [Rd.num]
  split
  ·simp;omega
  ·simp [Rd.failed]
 all_goals simp [Rd.num,Rd.failed]
theorem take_len (r:Rd) (n:Nat):(r.take n).2.s.length≤r.s.length∧(r.take n).1.length≤r.s.length:=by
 unfold Rd.take
 split
 ·simp [Rd.failed]
 ·simp only [List.length_drop,List.length_take];omega
theorem Kh {r:Rd} {n:Nat} (h:(r.take n).2.bad=false):r.bad=false∧n≤r.s.length∧r.take n=(r.s.take n,⟨r.s.drop n,false⟩):=by
 unfold Rd.take at h ⊢
 split at h
 ·simp [Rd.failed] at h
 ·rename_i h1
  simp only [Bool.or_eq_true,decide_eq_true_eq,not_or] at h1
  refine ⟨by simpa using h1.1,by omega,by rw [if_neg (by simpa using h1)]⟩
theorem ic (r:Rd) (most:Nat):(r.text most).2.s.length≤r.s.length∧((r.text most).2.bad=false→(r.text most).2.s.length<r.s.length)∧(r.text most).1.length≤r.s.length:=by
 unfold Rd.text
 have h1:=jq r most
 have h2:=take_len (r.num most).2 (r.num most).1
 refine ⟨by omega,fun hb=>?_,by omega⟩
 have h3:=h1.2 (Kh hb).1
 omega
theorem jB (r:Rd) (most:Nat):(r.num most).1≤most:=by
 obtain ⟨s,b⟩:=r
 cases b <;> cases s
 ·simp [Rd.num]
 ·rename_i c t
  simp only [Rd.num]
  split
  ·rename_i h;exact h.2.2.2
  ·simp
 all_goals simp [Rd.num]
theorem zR (r:Rd) (most:Nat):(r.num most).1<18446744073709551616:=by
 obtain ⟨s,b⟩:=r
 cases b <;> cases s
 ·simp [Rd.num]
 ·rename_i c t
  simp only [Rd.num]
  split
  ·rename_i h
   have h1:(t.take c.toNat).length≤8:=by rw [List.length_take];omega
   have h2:=vz _ (t.take c.toNat) rfl
   have h3:256 ^ (t.take c.toNat).length≤256 ^ 8:=Nat.pow_le_pow_right (by omega) h1
   simp only
   omega
  ·simp
 all_goals simp [Rd.num]
theorem iL (r:Rd) (most:Nat):(r.text most).1.length≤most:=by
 unfold Rd.text
 have h:=jB r most
 unfold Rd.take
 split
 ·simp
 ·simp only [List.length_take];omega
theorem jQ {r:Rd} {most:Nat} (h:(r.num most).2.bad=false):r.bad=false∧r.s=bJ (r.num most).1++(r.num most).2.s:=by
 obtain ⟨s,b⟩:=r
 cases b <;> cases s
 ·simp [Rd.num,Rd.failed] at h
 ·rename_i c t
  simp only [Rd.num] at h ⊢
  split at h
  ·rename_i hc
   rw [if_pos hc]
   refine ⟨trivial,?_⟩
   have hl:(t.take c.toNat).length=c.toNat:=by rw [List.length_take];omega
   simp only [bJ,hc.2.2.1,zQ _ _ hl,List.cons_append,List.take_append_drop]
   simp
  ·simp [Rd.failed] at h
 all_goals simp [Rd.num,Rd.failed] at h
theorem lq {r:Rd} {most:Nat} (h:(r.text most).2.bad=false):r.bad=false∧r.s=aN (r.text most).1++(r.text most).2.s:=by
 unfold Rd.text at h ⊢
 obtain ⟨h1,h2,h3⟩:=Kh h
 obtain ⟨h4,h5⟩:=jQ h1
 refine ⟨h4,?_⟩
 rw [h3]
 simp only [aN,List.length_take]
 rw [Nat.min_eq_left h2,List.append_assoc,List.take_append_drop]
 exact h5
end
section
open Go.RowKit Go.Maps
open Go.WideMaps (keyOf_string_mk string_of_keyOf)
def ow (left:Lit→Bool) (F:Fs):Fs:=F.filter fun p=>left (.string p.1)
def iC (P:Program) (k e:TypeId) (w:World) (b r:Nat) (F L:Fs) (cnt:Nat):Prop :=
 ∃ left,w.ranges P k (plainElem P e) b r F.length F.data left cnt∧L=ow left F
theorem EU {F:Fs} {left:Lit→Bool} {x c:Bs} (hs:F.Pairwise fun p q=>p.1≠q.1) (hm:(x,c)∈F) (hl:left (.string x)=true) :
  (ow left F).Perm ((x,c)::ow (fun z=>left z && !z.sameKey (.string x)) F):=by
 induction F with
 | nil=>cases hm
 | cons y r ih =>
  rw [List.pairwise_cons] at hs
  rcases List.mem_cons.1 hm with rfl | hm
  ·have h1:ow (fun z=>left z && !z.sameKey (.string x)) ((x,c)::r)=ow left r:=by
    unfold ow
    rw [List.filter_cons]
    simp only [Lit.sameKey,beq_self_eq_true,Bool.not_true,Bool.and_false,Bool.false_eq_true,if_false]
    refine List.filter_congr fun p hp=>?_
    have:(p.1 == x)=false:=beq_eq_false_iff_ne.2 (fun e=>hs.1 p hp e.symm)
    simp [this]
   rw [h1]
   unfold ow
   rw [List.filter_cons]
   simp [hl]
  ·have hne:(y.1 == x)=false:=beq_eq_false_iff_ne.2 (fun e=>hs.1 _ hm e)
   have ih':=ih hs.2 hm
   unfold ow at *
   rw [List.filter_cons,List.filter_cons]
   by_cases hy:left (.string y.1)=true
   ·simp only [hy,Lit.sameKey,hne,Bool.not_false,Bool.and_self,if_true]
    exact (List.Perm.cons _ ih').trans (List.Perm.swap ..)
   ·simp only [hy,Bool.false_and]
    simpa using ih'
theorem uD:∀ l:Bs,bytesBefore l l=false
 | []=>rfl
 | a::l=>by simp [bytesBefore,uD l]
theorem Cf:∀ {F:Fs},(F.Pairwise fun p q=>bytesBefore p.1 q.1=true)→F.Pairwise fun p q=>p.1≠q.1
 | [],_=>List.Pairwise.nil
 | x::r,h=>by
  rw [List.pairwise_cons] at h ⊢
  exact ⟨fun p hp e=>(by have:=h.1 p hp;rw [e,uD] at this;exact Bool.noConfusion this),Cf h.2⟩
section
variable {P:Program} {t k e:TypeId} {w w2:World} {b r cnt:Nat} {F L:Fs}
theorem MapAt.range (h:MapAt P k e w b F) (hk:P.underlying k=some .string) (ht:P.underlying t=some (.map k e)) :
  ∃ w0 cnt,(Instr.range t (.map (some b))).run P w=.ok (.pointer (some ⟨w.heap.size,0,none⟩)) w0∧iC P k e w0 b w.heap.size F F cnt∧Ext [] w w0∧w0.heap.size=w.heap.size+1:=by
 obtain ⟨w0,hrun,r1,r2,r3⟩:=World.ownsMap.range h (string_keyed hk) ht
 refine ⟨w0,_,hrun,⟨_,r1,?_⟩,(Ext.refl [] w).grown r2 (by simp),r3⟩
 unfold ow
 rw [List.filter_eq_self.2]
 intro p hp
 rw [Fs.ni,Fs.has,List.any_eq_true]
 exact ⟨p,hp,by simp⟩
theorem iC.ext {G:List Nat} (h:iC P k e w b r F L cnt) (hx:Ext G w w2) (hb:b∉G) (hr:r∉G):iC P k e w2 b r F L cnt:=by
 obtain ⟨left,⟨es,clock,since,seen,c0,h1,h2,h3,h4,h5,rest⟩,hL⟩:=h
 exact ⟨left,⟨es,clock,since,seen,c0,hx.heap h1 hb,h2,h3,h4,hx.heap h5 hr,rest⟩,hL⟩
theorem iC.left_eq (h:iC P k e w b r F L cnt):w.rangeLeft b r=cnt:=by
 obtain ⟨left,h,_⟩:=h
 exact h.left_eq
theorem iC.owns (h:iC P k e w b r F L cnt):MapAt P k e w b F:=by
 obtain ⟨left,h,_⟩:=h
 exact h.owns
theorem iC.lt (h:iC P k e w b r F L cnt):r<w.heap.size:=by
 obtain ⟨left,h,_⟩:=h
 exact h.lt
theorem iC.next (h:iC P k e w b r F L cnt) (hk:P.underlying k=some .string) (he:P.underlying e=some .string) :
  (L=[]∧∀ ty,(Instr.next (.pointer (some ⟨r,0,none⟩)) false ty).run P w=.ok (.tuple #[.bool false]) w) ∨
  ∃ x c w1 L1 cnt1,L.Perm ((x,c)::L1)∧(x,c)∈F∧x.length≤maxLen∧c.length≤maxLen∧(∀ ty,(Instr.next (.pointer (some ⟨r,0,none⟩)) false ty).run P w=.ok (.tuple #[.bool true,.string ⟨x.toArray⟩,.string ⟨c.toArray⟩]) w1) ∧
   iC P k e w1 b r F L1 cnt1∧cnt1<cnt∧Ext [r] w w1∧w1.heap.size=w.heap.size∧(Instr.entry (.pointer (some ⟨r,0,none⟩))).run P w1=.ok (.tuple #[.string ⟨x.toArray⟩,.string ⟨c.toArray⟩]) w1:=by
 have hsort:=h.owns.sorted hk
 obtain ⟨left,h,rfl⟩:=h
 rcases h.next (string_keyed hk) 0 with ⟨h0,hl,hrun⟩ | ⟨key,v,kl,y,w1,cnt1,hkey,hlk,hv,hat,hrun,hrg,hlt,hgr,hsz,hen⟩
 ·exact .inl ⟨by unfold ow;simp [hl],fun _=>hrun⟩
 ·obtain ⟨s,rfl,rfl,hw1⟩:=string_of_keyOf hk hkey
  obtain ⟨c,rfl,rfl,hw2⟩:=plainElem_string_inv he hv
  have hm:(s.data.toList,c.data.toList)∈F:=by
   have h1:=hat (.lit (.bool true))
   simp only [Fs.data,DataW.atKey,List.find?_map] at h1
   have e1:((fun p:Lit×DataW Unit=>p.1.sameKey (Lit.string s.data.toList))∘tZ)=fun p=>p.1 == s.data.toList:=rfl
   rw [e1] at h1
   cases hf:F.find? (fun p=>p.1 == s.data.toList) with
   | none=>rw [hf] at h1;simp at h1
   | some p =>
    rw [hf] at h1
    have h2:(tZ p).2=.lit (.string c.data.toList):=h1
    have h3:=List.find?_some hf
    have h4:=List.mem_of_find?_eq_some hf
    simp only [tZ,DataW.lit.injEq,Lit.string.injEq] at h2
    simp only [beq_iff_eq] at h3
    rw [← h2,← h3]
    exact h4
  refine .inr ⟨s.data.toList,c.data.toList,w1,_,cnt1,EU (Cf hsort) hm hlk,hm,by simpa using hw1,by simpa using hw2,fun _=>hrun,⟨_,hrg,rfl⟩,hlt,(Ext.refl [r] w).grown hgr (by simp),hsz,hen⟩
end
end
end Go.Proofs.YtangbdahnmomlaaGreatDoor
