/- Maps whose keys are numbers of the kind uint64, with elements of any kind, as lists of pairs: what making, reading, writing, deleting and ranging -/
import Derived.BigQuiet
import Derived.Deep.QuietTactic
import Derived.IntWalk
import Derived.Test.YtangbdahnmomlaaGreatDoorBu04
import Derived.Test.YtangbdahnmomlaaGreatDoorBu05
import Derived.Test.YtangbdahnmomlaaGreatDoorBu06
import Derived.Test.YtangbdahnmomlaaGreatDoorBu09
import Derived.Test.YtangbdahnmomlaaGreatDoorBu12
set_option linter.unnecessarySimpa false
set_option linter.unusedSimpArgs false
set_option linter.unusedVariables false
set_option maxHeartbeats 4000000
set_option maxRecDepth 100000
namespace Go.Proofs.YtangbdahnmomlaaGreatDoor
section
open Go.RowKit Go.Maps
abbrev jD (n:Nat):Lit:=.int .u64 (n:Int)
theorem kU (a b:Nat):(jD a).sameKey (jD b)=(a == b):=by
 simp only [Lit.sameKey,true_and,Int.ofNat_inj]
 rfl
theorem yC (a b:Nat):(jD a).before (jD b)=decide (a<b):=by
 simp only [Lit.before,Int.ofNat_lt]
theorem Cu {H:Type} {V:Type} (k:Nat) (f:Nat×V→DataW H):((fun p:Lit×DataW H => !p.1.sameKey (jD k))∘fun p:Nat×V=>(jD p.1,f p))=fun p:Nat×V => !(p.1 == k):=by
 funext p
 simp only [Function.comp,kU]
theorem aab {P:Program} {k:TypeId} (hk:P.underlying k=some (.int .u64)) (n:Nat) (hn:n<18446744073709551616):keyOf P k (.int .u64 n)=some (jD n):=keyOf_int_mk hk (by simp [Lit.wf,IntKind.min,IntKind.max,IntKind.signed,IntKind.bits];omega)
theorem OG {P:Program} {k:TypeId} (hk:P.underlying k=some (.int .u64)) {v:Value} {l:Lit} (h:keyOf P k v=some l):∃ n:Nat,n<18446744073709551616∧v=.int .u64 n∧l=jD n:=by
 cases v <;> simp [keyOf,hk,mapKey] at h
 rename_i q n
 obtain ⟨⟨rfl,hw⟩,rfl⟩:=h
 simp [Lit.wf,IntKind.min,IntKind.max,IntKind.signed,IntKind.bits] at hw
 obtain ⟨m,rfl⟩:∃ m:Nat,n=m:=⟨n.toNat,by omega⟩
 exact ⟨m,by omega,rfl,rfl⟩
abbrev Mn (V:Type):=List (Nat×V)
section
variable {V:Type}
def Mn.ins (x:Nat×V):Mn V→Mn V
 | []=>[x]
 | y::r=>if decide (x.1<y.1) then x::y::r else y::Mn.ins x r
def Mn.del (F:Mn V) (k:Nat):Mn V:=F.filter fun p => !(p.1 == k)
def Mn.put (F:Mn V) (k:Nat) (v:V):Mn V:=Mn.ins (k,v) (F.del k)
def Mn.get (F:Mn V) (k:Nat):Option V:=(F.find? fun p=>p.1 == k).map (·.2)
def Mn.has (F:Mn V) (k:Nat):Bool:=F.any fun p=>p.1 == k
theorem Mn.has_eq (F:Mn V) (k:Nat):F.has k=(F.get k).isSome:=by
 unfold Mn.has Mn.get
 induction F with
 | nil=>rfl
 | cons y r ih =>
  by_cases h:(y.1 == k)=true
  ·simp [h]
  ·simp [h,ih]
theorem Mn.fI (y:Nat×V) (r:Mn V) (k:Nat):Mn.get (y::r) k=if y.1=k then some y.2 else Mn.get r k:=by
 unfold Mn.get
 by_cases h:y.1=k
 ·simp [h]
 ·simp [h,beq_eq_false_iff_ne.2 h]
theorem Mn.vH (x:Nat×V) (j:Nat):∀ F:Mn V,(∀ p∈F,p.1≠x.1)→(Mn.ins x F).get j=if x.1=j then some x.2 else F.get j
 | [],_=>by simp [Mn.ins,Mn.fI]
 | y::r,h=>by
  unfold Mn.ins
  split
  ·rw [Mn.fI]
  ·rw [Mn.fI,Mn.vH x j r (fun p hp=>h p (by simp [hp])),Mn.fI]
   have hy:=h y (by simp)
   by_cases h1:y.1=j
   ·have h2:¬ x.1=j:=fun e=>hy (h1.trans e.symm)
    simp [h1,h2]
   ·simp [h1]
theorem Mn.vI (F:Mn V) (k j:Nat):(F.del k).get j=if j=k then none else F.get j:=by
 induction F with
 | nil=>simp [Mn.del,Mn.get]
 | cons y r ih =>
  unfold Mn.del at *
  rw [List.filter_cons]
  by_cases hy:y.1=k
  ·simp only [hy,beq_self_eq_true,Bool.not_true,Bool.false_eq_true,if_false]
   rw [ih,Mn.fI]
   by_cases hj:j=k
   ·simp [hj]
   ·simp [hj,hy,Ne.symm hj]
  ·simp only [beq_eq_false_iff_ne.2 hy,Bool.not_false,if_true]
   rw [Mn.fI,ih,Mn.fI]
   by_cases hj:j=k
   ·simp [hj,hy]
   ·simp [hj]
theorem Mn.get_put (F:Mn V) (k:Nat) (v:V) (j:Nat):(F.put k v).get j=if k=j then some v else F.get j:=by
 unfold Mn.put
 rw [Mn.vH (k,v) j (F.del k) (fun p hp=>by simp [Mn.del] at hp;exact hp.2),Mn.vI]
 by_cases h:k=j
 ·simp [h]
 ·simp [h,Ne.symm h]
theorem Mn.jf (x:Nat×V):∀ F:Mn V,(Mn.ins x F).length=F.length+1
 | []=>rfl
 | y::r=>by
  unfold Mn.ins
  split
  ·rfl
  ·simp [Mn.jf x r]
theorem Mn.dB (F:Mn V) (k:Nat) (v:V):(F.put k v).length≤F.length+1:=by
 unfold Mn.put
 rw [Mn.jf]
 have:=List.length_filter_le (fun p:Nat×V => !(p.1 == k)) F
 unfold Mn.del
 omega
theorem Mn.nX {x p:Nat×V}:∀ {F:Mn V},p∈Mn.ins x F↔p=x∨p∈F
 | []=>by simp [Mn.ins]
 | y::r=>by
  unfold Mn.ins
  split
  ·simp
  ·simp only [List.mem_cons,Mn.nX (F:=r)]
   constructor
   ·rintro (h | h | h) <;> simp [h]
   ·rintro (h | h | h) <;> simp [h]
theorem Mn.tu {F:Mn V} {k:Nat} {v:V} {p:Nat×V}:p∈F.put k v↔p=(k,v)∨(p∈F∧p.1≠k):=by simp [Mn.put,Mn.nX,Mn.del]
def Mn.data (enc:V→Value) (F:Mn V):DataW Value:=.map (F.map fun p=>(jD p.1,DataW.held (enc p.2)))
variable (enc:V→Value)
theorem Mn.lM (x:Nat×V):∀ F:Mn V,(Mn.ins x F).map (fun p=>(jD p.1,DataW.held (enc p.2)))=DataW.insert (jD x.1,DataW.held (enc x.2)) (F.map fun p=>(jD p.1,DataW.held (enc p.2)))
 | []=>rfl
 | y::r=>by
  simp only [Mn.ins,List.map_cons,DataW.insert]
  rw [yC]
  split
  ·rfl
  ·rw [List.map_cons,Mn.lM x r]
theorem Mn.zM (F:Mn V) (k:Nat):(F.data enc).del (jD k)=(F.del k).data enc:=by
 simp only [Mn.data,DataW.del,Mn.del,List.filter_map]
 rw [Cu]
theorem Mn.ry (F:Mn V) (k:Nat) (v:V):(F.data enc).put (jD k) (.held (enc v))=(F.put k v).data enc:=by
 simp only [Mn.put,Mn.data,DataW.put,Mn.lM]
 congr 2
 simp only [Mn.del,List.filter_map]
 rw [Cu]
theorem Mn.ni (F:Mn V) (k:Nat):Maps.has (F.data enc) (jD k)=F.has k:=by
 simp only [Mn.data,Maps.has,Mn.has,List.any_map]
 congr 1
 funext p
 exact kU _ _
theorem Mn.mW (F:Mn V):Maps.size (F.data enc)=F.length:=by simp [Mn.data,Maps.size]
theorem Mn.nU (F:Mn V) (k:Nat) (z:Value):(F.data enc).atKey (jD k) (.held z)=.held (((F.get k).map enc).getD z):=by
 simp only [Mn.data,DataW.atKey,Mn.get,List.find?_map]
 have e:((fun p:Lit×DataW Value=>p.1.sameKey (jD k))∘fun p:Nat×V=>(jD p.1,DataW.held (enc p.2)))=fun p=>p.1 == k:=by funext p;exact kU _ _
 rw [e]
 cases F.find? fun p=>p.1 == k <;> rfl
end
def fD {V:Type} (P:Program) (k:TypeId) (enc:V→Value) (w:World) (b:Nat) (F:Mn V):Prop:=w.ownsMap P k fJ b F.length (F.data enc)
section
variable {V:Type} {enc:V→Value} {P:Program} {t k e:TypeId} {w w2:World} {b:Nat} {F:Mn V}
theorem fD.tight {n:Nat} (h:w.ownsMap P k fJ b n (F.data enc)):fD P k enc w b F:=by
 obtain ⟨es,clock,hb,Ft,hs,hD⟩:=h
 refine ⟨es,clock,hb,Ft,?_,hD⟩
 have h1:=congrArg Maps.size hD
 rw [Mn.mW] at h1
 simp only [Maps.size,length_sorted,List.length_map,Array.length_toList] at h1
 omega
theorem fD.lt (h:fD P k enc w b F):b<w.heap.size:=World.ownsMap.lt h
theorem fD.ext {G:List Nat} (h:fD P k enc w b F) (hx:Ext G w w2) (hb:b∉G):fD P k enc w2 b F:=by
 obtain ⟨es,clock,hh,rest⟩:=h
 exact ⟨es,clock,hx.heap hh hb,rest⟩
theorem fD.made (w:World):fD (V:=V) P k enc (w.alloc (.map #[] 0)) w.heap.size []:=World.ownsMap_made w P k fJ
theorem fD.sorted (h:fD P k enc w b F) (hk:Keyed P k):F.Pairwise fun p q=>p.1<q.1:=by
 obtain ⟨es,he,hp,_⟩:=World.ownsMap.canon h hk
 injection he with he
 rw [← he,List.pairwise_map] at hp
 exact hp.imp fun {p q} h=>by
  have:decide (p.1<q.1)=true:=by rw [← yC];exact h
  simpa using this
theorem fD.look (h:fD P k enc w b F) (hk:Keyed P k) (ht:P.underlying t=some (.map k e)) {z:Value} (hz:(zeroValue e).run P w=.ok z w)
  {key:Value} {x:Nat} (hx:keyOf P k key=some (jD x)):(Instr.lookup t (.map (some b)) key false).run P w=.ok (((F.get x).map enc).getD z) w:=by
 obtain ⟨v,ps,hrun,hv⟩:=World.ownsMap.lookup h hk ht hz (zd:=.held z) (zp:=[]) rfl hx
 rw [Mn.nU] at hv
 simp only [fJ,Option.some.injEq,Prod.mk.injEq,DataW.held.injEq] at hv
 rw [hrun,hv.1]
theorem fD.ou (h:fD P k enc w b F) (hk:Keyed P k) (ht:P.underlying t=some (.map k e)) {z:Value} (hz:(zeroValue e).run P w=.ok z w)
  {key:Value} {x:Nat} (hx:keyOf P k key=some (jD x)):(Instr.lookup t (.map (some b)) key true).run P w=.ok (.tuple #[((F.get x).map enc).getD z,.bool (F.has x)]) w:=by
 obtain ⟨v,ps,hrun,hv⟩:=World.ownsMap.look_ok h hk ht hz (zd:=.held z) (zp:=[]) rfl hx
 rw [Mn.nU] at hv
 simp only [fJ,Option.some.injEq,Prod.mk.injEq,DataW.held.injEq] at hv
 rw [Mn.ni] at hrun
 rw [hrun,hv.1]
theorem fD.update (h:fD P k enc w b F) (hk:Keyed P k) (ht:P.underlying t=some (.map k e)) (hn:F.length<maxLen)
  {key:Value} {x:Nat} (hx:keyOf P k key=some (jD x)) (v:V) :
  ∃ w2,(Instr.mapUpdate t (.map (some b)) key (enc v)).run P w=.ok () w2∧fD P k enc w2 b (F.put x v)∧Ext [b] w w2∧w2.heap.size=w.heap.size:=by
 obtain ⟨w2,hrun,h2,ht2⟩:=World.ownsMap.store h hk ht hn hx (val:=enc v) (d:=.held (enc v)) (ps:=[]) rfl
 simp only [Mn.ry] at h2
 exact ⟨w2,hrun,fD.tight h2,kP ht2⟩
end
def lI {V:Type} (left:Lit→Bool) (F:Mn V):Mn V:=F.filter fun p=>left (jD p.1)
def fK {V:Type} (P:Program) (k:TypeId) (enc:V→Value) (w:World) (b r:Nat) (F L:Mn V) (cnt:Nat):Prop :=
 ∃ left,w.ranges P k fJ b r F.length (F.data enc) left cnt∧L=lI left F
theorem DV {V:Type} {F:Mn V} {left:Lit→Bool} {x:Nat} {c:V} (hs:F.Pairwise fun p q=>p.1≠q.1) (hm:(x,c)∈F) (hl:left (jD x)=true) :
  (lI left F).Perm ((x,c)::lI (fun z=>left z && !z.sameKey (jD x)) F):=by
 induction F with
 | nil=>cases hm
 | cons y r ih =>
  rw [List.pairwise_cons] at hs
  rcases List.mem_cons.1 hm with rfl | hm
  ·have h1:lI (fun z=>left z && !z.sameKey (jD x)) ((x,c)::r)=lI left r:=by
    unfold lI
    rw [List.filter_cons]
    simp only [kU,beq_self_eq_true,Bool.not_true,Bool.and_false,Bool.false_eq_true,if_false]
    refine List.filter_congr fun p hp=>?_
    have:(p.1 == x)=false:=beq_eq_false_iff_ne.2 (fun e=>hs.1 p hp e.symm)
    simp [kU,this]
   rw [h1]
   unfold lI
   rw [List.filter_cons]
   simp [hl]
  ·have hne:(y.1 == x)=false:=beq_eq_false_iff_ne.2 (fun e=>hs.1 _ hm e)
   have ih':=ih hs.2 hm
   unfold lI at *
   rw [List.filter_cons,List.filter_cons]
   by_cases hy:left (jD y.1)=true
   ·have h2:(jD y.1).sameKey (jD x)=false:=(kU _ _).trans hne
    simp only [hy,h2,Bool.not_false,Bool.and_self,if_true]
    exact (List.Perm.cons _ ih').trans (List.Perm.swap ..)
   ·simp only [hy,Bool.false_and]
    simpa using ih'
theorem Av {V:Type} {F:Mn V} (h:F.Pairwise fun p q=>p.1<q.1):F.Pairwise fun p q=>p.1≠q.1:=h.imp fun h=>Nat.ne_of_lt h
section
variable {V:Type} {enc:V→Value} {P:Program} {t k e:TypeId} {w w2:World} {b r cnt:Nat} {F L:Mn V}
theorem fD.range (h:fD P k enc w b F) (hk:Keyed P k) (ht:P.underlying t=some (.map k e)) :
  ∃ w0 cnt,(Instr.range t (.map (some b))).run P w=.ok (.pointer (some ⟨w.heap.size,0,none⟩)) w0∧fK P k enc w0 b w.heap.size F F cnt∧Ext [] w w0∧w0.heap.size=w.heap.size+1:=by
 obtain ⟨w0,hrun,r1,r2,r3⟩:=World.ownsMap.range h hk ht
 refine ⟨w0,_,hrun,⟨_,r1,?_⟩,(Ext.refl [] w).grown r2 (by simp),r3⟩
 unfold lI
 rw [List.filter_eq_self.2]
 intro p hp
 rw [Mn.ni,Mn.has,List.any_eq_true]
 exact ⟨p,hp,by simp⟩
theorem fK.ext {G:List Nat} (h:fK P k enc w b r F L cnt) (hx:Ext G w w2) (hb:b∉G) (hr:r∉G):fK P k enc w2 b r F L cnt:=by
 obtain ⟨left,⟨es,clock,since,seen,c0,h1,h2,h3,h4,h5,rest⟩,hL⟩:=h
 exact ⟨left,⟨es,clock,since,seen,c0,hx.heap h1 hb,h2,h3,h4,hx.heap h5 hr,rest⟩,hL⟩
theorem fK.left_eq (h:fK P k enc w b r F L cnt):w.rangeLeft b r=cnt:=by
 obtain ⟨left,h,_⟩:=h
 exact h.left_eq
theorem fK.owns (h:fK P k enc w b r F L cnt):fD P k enc w b F:=by
 obtain ⟨left,h,_⟩:=h
 exact h.owns
theorem fK.lt (h:fK P k enc w b r F L cnt):r<w.heap.size:=by
 obtain ⟨left,h,_⟩:=h
 exact h.lt
theorem fK.next (h:fK P k enc w b r F L cnt) (hk:P.underlying k=some (.int .u64)) :
  (L=[]∧∀ ty,(Instr.next (.pointer (some ⟨r,0,none⟩)) false ty).run P w=.ok (.tuple #[.bool false]) w) ∨
  ∃ (x:Nat) (c:V) (w1:World) (L1:Mn V) (cnt1:Nat),L.Perm ((x,c)::L1)∧(x,c)∈F∧x<18446744073709551616∧(∀ ty,(Instr.next (.pointer (some ⟨r,0,none⟩)) false ty).run P w=.ok (.tuple #[.bool true,.int .u64 x,enc c]) w1) ∧
   fK P k enc w1 b r F L1 cnt1∧cnt1<cnt∧Ext [r] w w1∧w1.heap.size=w.heap.size∧(Instr.entry (.pointer (some ⟨r,0,none⟩))).run P w1=.ok (.tuple #[.int .u64 x,enc c]) w1:=by
 have hsort:=h.owns.sorted (int_keyed hk)
 obtain ⟨left,h,rfl⟩:=h
 rcases h.next (int_keyed hk) 0 with ⟨h0,hl,hrun⟩ | ⟨key,v,kl,y,w1,cnt1,hkey,hlk,hv,hat,hrun,hrg,hlt,hgr,hsz,hen⟩
 ·exact .inl ⟨by unfold lI;simp [hl],fun _=>hrun⟩
 ·obtain ⟨x,hx,rfl,rfl⟩:=OG hk hkey
  have hm:∃ c,(x,c)∈F∧v=enc c:=by
   have h1:=hat (.lit (.bool true))
   simp only [Mn.data,DataW.atKey,List.find?_map] at h1
   have e1:((fun p:Lit×DataW Value=>p.1.sameKey (jD x))∘fun p:Nat×V=>(jD p.1,DataW.held (enc p.2)))=fun p=>p.1 == x:=by funext p;exact kU _ _
   rw [e1] at h1
   simp only [fJ,Option.some.injEq] at hv
   subst hv
   cases hf:F.find? (fun p=>p.1 == x) with
   | none=>rw [hf] at h1;simp at h1
   | some p =>
    rw [hf] at h1
    simp only [Option.map_some,DataW.held.injEq] at h1
    have h3:=List.find?_some hf
    have h4:=List.mem_of_find?_eq_some hf
    simp only [beq_iff_eq] at h3
    exact ⟨p.2,by rw [← h3];exact h4,h1.symm⟩
  obtain ⟨c,hm,rfl⟩:=hm
  exact .inr ⟨x,c,w1,_,cnt1,DV (Av hsort) hm hlk,hm,hx,fun _=>hrun,⟨_,hrg,rfl⟩,hlt,(Ext.refl [r] w).grown hgr (by simp),hsz,hen⟩
end
abbrev aY {V:Type} (k:TypeId) (enc:V→Value) (b:Nat) (M:Mn V):aT where
 holds:=fun F w=>F=[b]∧fD Tryz.prog k enc w b M
 keeps:=fun h hx hd=>⟨h.1,h.2.ext hx (hd b (by simp [h.1]))⟩
 inside:=fun h x hx=>by rw [h.1] at hx;simp at hx;subst hx;exact h.2.lt
abbrev gX {V:Type} (k:TypeId) (enc:V→Value) (b r:Nat) (M L:Mn V) (cnt:Nat):aT where
 holds:=fun F w=>F=[b,r]∧fK Tryz.prog k enc w b r M L cnt
 keeps:=fun h hx hd=>⟨h.1,h.2.ext hx (hd b (by simp [h.1])) (hd r (by simp [h.1]))⟩
 inside:=fun h x hx=>by
  rw [h.1] at hx
  simp at hx
  rcases hx with rfl | rfl
  ·exact h.2.owns.lt
  ·exact h.2.lt
section
variable {V:Type} {enc:V→Value} {t k e b r cnt:Nat} {w0 w:World} {F0:List Nat} {L:List aT} {M N:Mn V}
theorem Sp.Aw (S:Sp w0 F0 w (aY k enc b M::L)):fD Tryz.prog k enc w b M:=by
 obtain ⟨F,⟨rfl,h⟩,_⟩:=S.take
 exact h
theorem Sp.FL (S:Sp w0 F0 w L) (k:TypeId) (enc:V→Value):Sp w0 F0 (w.alloc (.map #[] 0)) (aY k enc w.heap.size []::L) :=
 S.gain (G:=[w.heap.size]) ((Ext.refl [] w).alloc _) ⟨rfl,fD.made w⟩ (by simp)
theorem Sp.OH {M2:Mn V} {w2:World} (S:Sp w0 F0 w (aY k enc b M::L)) (h:fD Tryz.prog k enc w2 b M2) (hx:Ext [b] w w2):Sp w0 F0 w2 (aY k enc b M2::L):=by
 obtain ⟨F,⟨rfl,_⟩,h2⟩:=S.take
 exact h2 _ _ [b] ⟨rfl,h⟩ (cB.iV hx)
theorem Sp.Ky (S:Sp w0 F0 w (aY k enc b M::L)) (hk:Keyed Tryz.prog k) (ht:Tryz.prog.underlying t=some (.map k e)) (hn:M.length<maxLen) {key:Value} {x:Nat} (hx:keyOf Tryz.prog k key=some (jD x)) (v:V) :
  ∃ w2,(Instr.mapUpdate t (.map (some b)) key (enc v)).run Tryz.prog w=.ok () w2∧Sp w0 F0 w2 (aY k enc b (M.put x v)::L)∧w2.heap.size=w.heap.size:=by
 obtain ⟨w2,h1,h2,h3,h4⟩:=S.Aw.update hk ht hn hx v
 exact ⟨w2,h1,S.OH h2 h3,h4⟩
theorem Sp.RJ (S:Sp w0 F0 w (aY k enc b M::L)) (hk:Keyed Tryz.prog k) (ht:Tryz.prog.underlying t=some (.map k e)) {key:Value} {x:Nat} (hx:keyOf Tryz.prog k key=some (jD x)) :
  ∃ w2,(∀ ty,(Builtin.delete_ #[t,k] ty #[.map (some b),key]).run Tryz.prog w=.ok (.tuple #[]) w2)∧Sp w0 F0 w2 (aY k enc b (M.del x)::L)∧w2.heap.size=w.heap.size:=by
 obtain ⟨w2,h1,h2,h3⟩:=World.ownsMap.drop S.Aw hk ht hx 0
 rw [Mn.zM] at h2
 have h4:=kP h3
 exact ⟨w2,fun _=>h1,S.OH (fD.tight h2) h4.1,h4.2⟩
theorem Sp.Ay (S:Sp w0 F0 w (aY k enc b M::L)) (hk:Keyed Tryz.prog k) (ht:Tryz.prog.underlying t=some (.map k e)) :
  ∃ w1 cnt,(Instr.range t (.map (some b))).run Tryz.prog w=.ok (.pointer (some ⟨w.heap.size,0,none⟩)) w1∧Sp w0 F0 w1 (gX k enc b w.heap.size M M cnt::L):=by
 obtain ⟨w1,cnt,h1,h2,h3,h4⟩:=S.Aw.range hk ht
 obtain ⟨F,⟨rfl,h⟩,hk2⟩:=S.take
 exact ⟨w1,cnt,h1,hk2 w1 _ [b,w.heap.size] ⟨rfl,h2⟩ ⟨h3.mono (by simp),by simp⟩⟩
theorem Sp.uO (S:Sp w0 F0 w (gX k enc b r M N cnt::L)):fK Tryz.prog k enc w b r M N cnt:=by
 obtain ⟨F,⟨rfl,h⟩,_⟩:=S.take
 exact h
theorem Sp.OI {M2 N2:Mn V} {c2:Nat} {w2:World} (S:Sp w0 F0 w (gX k enc b r M N cnt::L)) (h:fK Tryz.prog k enc w2 b r M2 N2 c2) (hx:Ext [b,r] w w2):Sp w0 F0 w2 (gX k enc b r M2 N2 c2::L):=by
 obtain ⟨F,⟨rfl,_⟩,h2⟩:=S.take
 exact h2 _ _ [b,r] ⟨rfl,h⟩ (cB.iV hx)
theorem Sp.Mi (S:Sp w0 F0 w (gX k enc b r M N cnt::L)):Sp w0 F0 w (aY k enc b M::L):=by
 obtain ⟨F,⟨rfl,h⟩,h2⟩:=S.take
 exact h2 w _ [b] ⟨rfl,h.owns⟩ ⟨Ext.refl _ _,by simp⟩
theorem fK.apart {P:Program} (h:fK P k enc w b r M N cnt) (hk:Keyed P k):N.Pairwise fun p q=>p.1≠q.1:=by
 have:=Av (h.owns.sorted hk)
 obtain ⟨left,_,rfl⟩:=h
 exact this.filter _
theorem Sp.Az (S:Sp w0 F0 w (gX k enc b r M N cnt::L)) (hk:Tryz.prog.underlying k=some (.int .u64)) :
  (N=[]∧∀ ty,(Instr.next (.pointer (some ⟨r,0,none⟩)) false ty).run Tryz.prog w=.ok (.tuple #[.bool false]) w) ∨
  ∃ (x:Nat) (c:V) (w1:World) (N1:Mn V) (cnt1:Nat),N.Perm ((x,c)::N1)∧(x,c)∈M∧x<18446744073709551616∧(∀ ty,(Instr.next (.pointer (some ⟨r,0,none⟩)) false ty).run Tryz.prog w=.ok (.tuple #[.bool true,.int .u64 x,enc c]) w1) ∧
   Sp w0 F0 w1 (gX k enc b r M N1 cnt1::L)∧cnt1<cnt∧(∀ p∈N1,p.1≠x)∧(Instr.entry (.pointer (some ⟨r,0,none⟩))).run Tryz.prog w1=.ok (.tuple #[.int .u64 x,enc c]) w1:=by
 have hap:=S.uO.apart (int_keyed hk)
 rcases S.uO.next hk with ⟨h1,h2⟩ | ⟨x,c,w1,N1,cnt1,h1,h2,h3,h4,h5,h6,h7,h8,h9⟩
 ·exact .inl ⟨h1,h2⟩
 ·refine .inr ⟨x,c,w1,N1,cnt1,h1,h2,h3,h4,S.OI h5 (h7.mono (by simp)),h6,fun p hp=>?_,h9⟩
  have:=(h1.pairwise_iff (fun {_ _} h=>Ne.symm h)).1 hap
  rw [List.pairwise_cons] at this
  exact Ne.symm (this.1 p hp)
end
end
section
open Go.RowKit Go.Maps
theorem FM (x:dK) (w:World) (hk:x.key.length≤1000000) (hc:x.ceil<18446744073709551616) :
  Calls Tryz.prog 178 #[.agg #[.string ⟨x.key.toArray⟩,.int .u64 x.ceil]] w fun e w2=>e=.returned (.string ⟨x.text.toArray⟩)∧Ext [] w w2:=by
 have HT:Hid (x.text=aN (aN x.key++bJ x.ceil)):=rfl
 obtain ⟨key,ceil⟩:=x
 dsimp only at hk hc HT ⊢
 have HK:=Lib.hid hk
 have HC:=Lib.hid hc
 clear hk hc
 go_enter Tryz.func178,Tryz.ntmps178
 go_wp2_with fail
 have hB0:=Aj.fresh (w.alloc (.cells #[.string ⟨key.toArray⟩,.int .u64 ceil] 137)) 203
 have hX0:Ext [] w ((w.alloc (.cells #[.string ⟨key.toArray⟩,.int .u64 ceil] 137)).alloc (.cells #[.pointer none,.slice none 0 0] 203)):=((Ext.refl [] w).alloc _).alloc _
 have hr0:((w.alloc (.cells #[.string ⟨key.toArray⟩,.int .u64 ceil] 137)).alloc (.cells #[.pointer none,.slice none 0 0] 203)).heap[w.heap.size]? = some (.cells #[.string ⟨key.toArray⟩,.int .u64 ceil] 137 (0,0)):=((Ext.refl [] _).alloc _).heap (heap_alloc_new w _) (by simp)
 rw [show (w.alloc (.cells #[.string ⟨key.toArray⟩,.int .u64 ceil] 137)).heap.size=w.heap.size+1 by simp] at hB0
 refine (yw (w.heap.size+1) [w.heap.size+1] [] key _ hB0 (by decide) (by have:=HK.out;omega)).mono ?_
 rintro e w1 ⟨rfl,F1,hB1,m1⟩
 rw [List.nil_append] at hB1
 have HB1:=Lib.hid hB1
 have BJ:=Lib.hid (hX0.trans m1.ext (by simp))
 have hn1:w.heap.size∉F1:=fun h=>by
  rcases m1.new _ h with h | h
  ·simp at h
  ·simp at h;omega
 have hr1:=m1.ext.heap hr0 (by simp)
 have HR1:=Lib.hid hr1
 have Zg:Hid (∀ x∈F1,w.heap.size<x):=fun x hx=>by
  rcases m1.new x hx with h | h
  ·simp at h;omega
  ·simp at h;omega
 have c1:w1.cell? ⟨w.heap.size,1,none⟩=some (.int .u64 ceil):=by rw [bM hr1];rfl
 clear hB0 hX0 hr0 hB1 m1 hr1 hn1
 go_wp2_with fail
 refine (Al (w.heap.size+1) F1 (aN key) ceil _ HB1.out (by have:=aP key;have:=HK.out;simp;omega) HC.out).mono ?_
 rintro e w2 ⟨rfl,F2,hB2,m2⟩
 have HB2:=Lib.hid hB2
 have yu:=Lib.hid (BJ.out.trans m2.ext (fun x hx=>.inr (by have:=Zg.out x hx;omega)))
 have Ik:Hid (∀ x∈F2,w.heap.size≤x):=fun x hx=>by
  rcases m2.new x hx with h | h
  ·have:=Zg.out x h;omega
  ·have:=BJ.out.size;omega
 clear hB2 m2 c1
 go_wp2_with fail
 refine (oD 203 (w.heap.size+1) F2 (aN key++bJ ceil) _ HB2.out (by simp [aN,bJ])).mono ?_
 rintro e w3 ⟨rfl,hx3⟩
 have Rv:=Lib.hid (yu.out.trans hx3 (fun x hx=>.inr (Ik.out x hx)))
 clear hx3
 go_wp2_with fail
 refine (pR (aN key++bJ ceil) _ (by have:=aP key;have:=aL ceil;have:=HK.out;simp;omega)).mono ?_
 rintro e w4 ⟨rfl,hx4⟩
 have HX4:=Lib.hid (Rv.out.trans hx4 (by simp))
 clear hx4
 go_wp2
 go_ret
 exact ⟨by rw [HT.out];rfl,HX4.out⟩
end
section
open Go.RowKit Go.Maps
def cK (r:Rd):dK×Bool×Rd:=((iZ (r.text 600).1).1,(iZ (r.text 600).1).2 && !(r.text 600).1.isEmpty,(r.text 600).2)
abbrev dK.vals (x:dK):List Value:=[.string ⟨x.key.toArray⟩,.int .u64 x.ceil]
def ig:Nat→Bs→List dK×Bs
 | 0,s=>([],s)
 | f+1,s=>if (cK ⟨s,false⟩).2.1 then ((cK ⟨s,false⟩).1::(ig f (cK ⟨s,false⟩).2.2.s).1,(ig f (cK ⟨s,false⟩).2.2.s).2) else ([],s)
def fT (s:Bs):List dK:=(ig (s.length+1) s).1
def eO (s:Bs):Bs:=(ig (s.length+1) s).2
def qa (x:dK):Prop:=x.key.length≤300∧x.ceil≤1099511627776
theorem Mj {r:Rd} (h:r.done=0):r.bad=false∧r.s=[]:=by
 unfold Rd.done at h
 split at h
 ·cases h
 ·split at h
  ·rename_i h1 h2
   exact ⟨by simpa using h1,by simpa using h2⟩
  ·cases h
theorem mP {s:Bs} (h:(cK ⟨s,false⟩).2.1=true) :
  (cK ⟨s,false⟩).2.2.bad=false∧s=(cK ⟨s,false⟩).1.text++(cK ⟨s,false⟩).2.2.s∧(cK ⟨s,false⟩).2.2.s.length<s.length∧qa (cK ⟨s,false⟩).1:=by
 unfold cK at h ⊢
 simp only [Bool.and_eq_true,Bool.not_eq_true'] at h ⊢
 obtain ⟨h1,h2⟩:=h
 have hb:(Rd.text ⟨s,false⟩ 600).2.bad=false:=by
  cases hh:(Rd.text ⟨s,false⟩ 600).2.bad with
  | false=>rfl
  | true =>
   exfalso
   have ht:(Rd.text ⟨s,false⟩ 600).1=[]:=by
    unfold Rd.text Rd.take at hh ⊢
    split
    ·rfl
    ·rename_i hc
     rw [if_neg hc] at hh
     cases hh
   rw [ht] at h2
   cases h2
 obtain ⟨_,ea⟩:=lq hb
 have hl:=(ic ⟨s,false⟩ 600).2.1 hb
 generalize (Rd.text ⟨s,false⟩ 600).1=t at *
 unfold iZ at h1 ⊢
 simp only [decide_eq_true_eq] at h1 ⊢
 obtain ⟨b2,e2⟩:=Mj h1
 obtain ⟨b1,e1⟩:=jQ b2
 obtain ⟨b0,e0⟩:=lq b1
 have l1:=iL ⟨t,false⟩ 300
 have l2:=jB (Rd.text ⟨t,false⟩ 300).2 1099511627776
 dsimp only at *
 refine ⟨hb,?_,hl,l1,l2⟩
 rw [e2,List.append_nil] at e1
 rw [e1] at e0
 unfold dK.text
 rw [← e0]
 exact ea
theorem DW (f:Nat) (s:Bs) (h:s.length<f):ig (f+1) s=ig f s:=by
 induction f generalizing s with
 | zero=>omega
 | succ f ih =>
  conv=>lhs;rw [ig]
  conv=>rhs;rw [ig]
  split
  ·rename_i h1
   obtain ⟨_,_,h2,_⟩:=mP h1
   rw [ih _ (by omega)]
  ·rfl
theorem vP {s:Bs} (h:(cK ⟨s,false⟩).2.1=true):fT s=(cK ⟨s,false⟩).1::fT (cK ⟨s,false⟩).2.2.s∧eO s=eO (cK ⟨s,false⟩).2.2.s:=by
 obtain ⟨_,_,h2,_⟩:=mP h
 have h3:∀ f,(cK ⟨s,false⟩).2.2.s.length<f→ig f (cK ⟨s,false⟩).2.2.s=ig ((cK ⟨s,false⟩).2.2.s.length+1) (cK ⟨s,false⟩).2.2.s:=by
  intro f hf
  induction f with
  | zero=>omega
  | succ f ih =>
   by_cases hh:(cK ⟨s,false⟩).2.2.s.length<f
   ·rw [DW _ _ hh,ih hh]
   ·rw [show f=(cK ⟨s,false⟩).2.2.s.length by omega]
 unfold fT eO
 rw [ig,if_pos h,h3 _ h2]
 exact ⟨rfl,rfl⟩
theorem vQ {s:Bs} (h:(cK ⟨s,false⟩).2.1=false):fT s=[]∧eO s=s:=by
 unfold fT eO
 rw [ig,if_neg (by simp [h])]
 exact ⟨rfl,rfl⟩
section
variable {w0 w:World} {F0:List Nat} {L:List aT}
theorem OJ (n:Nat) (S:Sp w0 F0 w L) (hn:n<18446744073709551616):Calls Tryz.prog 144 #[.int .u64 n] w fun e w2=>e=.returned (.string ⟨(Ab n).toArray⟩)∧Sp w0 F0 w2 L :=
 (L6 n w hn).mono fun _ _ ⟨he,hx⟩=>⟨he,S.iq hx⟩
theorem OL (x:dK) (S:Sp w0 F0 w L) (hk:x.key.length≤1000000) (hc:x.ceil<18446744073709551616):Calls Tryz.prog 178 #[.agg #[.string ⟨x.key.toArray⟩,.int .u64 x.ceil]] w fun e w2=>e=.returned (.string ⟨x.text.toArray⟩)∧Sp w0 F0 w2 L :=
 (FM x w hk hc).mono fun _ _ ⟨he,hx⟩=>⟨he,S.iq hx⟩
theorem OM (s:Bs) (S:Sp w0 F0 w L) (hs:s.length≤1000000000):Calls Tryz.prog 93 #[.string ⟨s.toArray⟩] w fun e w2=>e=.returned (.tuple #[.agg #[.string ⟨(iZ s).1.key.toArray⟩,.int .u64 (iZ s).1.ceil],.bool (iZ s).2])∧Sp w0 F0 w2 L :=
 (FD s w hs).mono fun _ _ ⟨he,hx⟩=>⟨he,S.iq hx⟩
theorem OO (ci b:Nat) (r:Rd) (S:Sp w0 F0 w (ae ci #[.pointer (some ⟨b,0,none⟩)] 143::xC 151 b r::L)) (hs:r.s.length≤1000000000) :
  Calls Tryz.prog 91 #[.pointer (some ⟨ci,0,none⟩)] w fun e w2=>e=.returned (.tuple #[.agg #[.string ⟨(cK r).1.key.toArray⟩,.int .u64 (cK r).1.ceil],.bool (cK r).2.1])∧Sp w0 F0 w2 (ae ci #[.pointer (some ⟨b,0,none⟩)] 143::xC 151 b (cK r).2.2::L):=by
 have HR:Hid (cK r=((iZ (r.text 600).1).1,(iZ (r.text 600).1).2 && !(r.text 600).1.isEmpty,(r.text 600).2)):=rfl
 have HL:=Lib.hid hs
 have HT:=Lib.hid (ic r 600).2.2
 have S0:=S.box #[.string ⟨#[]⟩,.int .u64 0] 137
 have hlt:=S.x8
 have c0:=S.cell
 have bV:=Lib.hid S0.dJ
 clear S S0 hs
 go_enter Tryz.func91,Tryz.ntmps91
 go_wp2_with fail
 refine (lF 600 600 rfl bV.out (by have:=HL.out;omega) (by decide)).mono ?_
 generalize r.text 600=tr at *
 obtain ⟨t,r1⟩:=tr
 dsimp only at *
 rintro e w1 ⟨rfl,S⟩
 have bX:=Lib.hid S
 clear S bV
 go_wp2_with fail
 refine (OM t bX.out (by have:=HL.out;have:=HT.out;omega)).mono ?_
 generalize iZ t=rr at *
 obtain ⟨⟨key,ceil⟩,ok⟩:=rr
 dsimp only at *
 rintro e w2 ⟨rfl,S⟩
 have c1:=S.ak.cell
 have f1:=S.ak.free
 have l1:=S.ak.x8
 have SF:=((S.ak.set (o:=0) (.string ⟨key.toArray⟩)).set (o:=1) (.int .u64 ceil)).new (.cells #[.string ⟨key.toArray⟩,.int .u64 ceil] 137)
 have FN:Hid (∀ bb:Bool,cK r=(⟨key,ceil⟩,bb,r1)→Sp w0 F0 (((w2.setCell ⟨w.heap.size,0,none⟩ (.string ⟨key.toArray⟩)).setCell ⟨w.heap.size,1,none⟩ (.int .u64 ceil)).alloc (.cells #[.string ⟨key.toArray⟩,.int .u64 ceil] 137)) (ae ci #[.pointer (some ⟨b,0,none⟩)] 143::xC 151 b r1::L)):=fun bb _=>(Sp.pick [_,_,_] [2,1] (by decide) (SF))
 have hc3:∀ o,(((w2.setCell ⟨w.heap.size,0,none⟩ (.string ⟨key.toArray⟩)).setCell ⟨w.heap.size,1,none⟩ (.int .u64 ceil)).alloc (.cells #[.string ⟨key.toArray⟩,.int .u64 ceil] 137)).cell? ⟨w.heap.size,o,none⟩=#[.string ⟨key.toArray⟩,.int .u64 ceil][o]?:=SF.cell
 have WT:=Lib.hid hc3
 clear hc3 S SF bX
 have hcase:(ok=true∧∃ c t',t=c::t')∨(ok=true∧t=[])∨ok=false:=by
  cases ok
  ·exact .inr (.inr rfl)
  ·cases t with
   | nil=>exact .inr (.inl ⟨rfl,rfl⟩)
   | cons c t'=>exact .inl ⟨rfl,c,t',rfl⟩
 rcases hcase with ⟨rfl,c,t',rfl⟩ | ⟨rfl,rfl⟩ | rfl
 ·have h1:(ByteArray.mk (c::t').toArray).toList.isEmpty=false:=by rw [ByteArray.toList_eq];rfl
  have h2:(!(ByteArray.mk (c::t').toArray).toList.isEmpty)=true:=by rw [h1];rfl
  go_wp2
  have c3:=WT.out
  refine bodyPost_ret (v:=.tuple #[.agg #[.string ⟨key.toArray⟩,.int .u64 ceil],.bool true]) ?_ rfl ⟨by rw [HR.out] <;> rfl,by rw [HR.out];exact FN.out _ HR.out⟩
  simp [results,Tryz.results91,go_sem,c3]
 ·go_wp2
  have c3:=WT.out
  refine bodyPost_ret (v:=.tuple #[.agg #[.string ⟨key.toArray⟩,.int .u64 ceil],.bool false]) ?_ rfl ⟨by rw [HR.out] <;> rfl,by rw [HR.out];exact FN.out _ HR.out⟩
  simp [results,Tryz.results91,go_sem,c3]
 ·go_wp2
  have c3:=WT.out
  refine bodyPost_ret (v:=.tuple #[.agg #[.string ⟨key.toArray⟩,.int .u64 ceil],.bool false]) ?_ rfl ⟨by rw [HR.out] <;> rfl,by rw [HR.out];exact FN.out _ HR.out⟩
  simp [results,Tryz.results91,go_sem,c3]
theorem RL:(Tryz.prog.info? 137).map (fun i=>(i.zero,i.size,i.bytes))=some (some (.agg #[.string ⟨#[]⟩,.int .u64 0]),2,24):=by kernel_rfl
abbrev rJ (v:Value) (l:List dK):aT:=vE 137 2 v l.length (l.map dK.vals).flatten
theorem OP (s:Bs) (S:Sp w0 F0 w L) (hs:s.length≤1000000000) :
  Calls Tryz.prog 60 #[.string ⟨s.toArray⟩] w fun e w2=>∃ v,e=.returned (.tuple #[v,.int .i64 ((s.length:Int) - (eO s).length)])∧Sp w0 F0 w2 (rJ v (fT s)::L):=by
 have HL:=Lib.hid hs
 have hs':(s.length:Int)≤1000000000:=by omega
 have bV:=Lib.hid S
 clear S hs
 go_enter Tryz.func60,Tryz.ntmps60
 go_wp2_with fail
 refine (yx bV.out s).mono ?_
 rintro e w1 ⟨b,rfl,S1⟩
 have S2:=(S1.box #[.pointer (some ⟨b,0,none⟩)] 143).Dv 137 2
 have HS2:=Lib.hid S2.dJ.dJ
 clear S1 S2 bV
 go_wp2_with fail
 generalize w1.alloc (.cells #[.pointer (some ⟨b,0,none⟩)] 143)=w2 at *
 generalize w1.heap.size=ci at *
 go_loopw [4,6] (fun v DX wr=>∃ (dn:List dK) (r:Bs),fT s=dn++fT r∧eO s=eO r∧DX=.int .i64 ((s.length:Int) - r.length)∧r.length+dn.length≤s.length∧Sp w0 F0 wr (ae ci #[.pointer (some ⟨b,0,none⟩)] 143::xC 151 b ⟨r,false⟩::rJ v dn::L)) (fun _ v _=>s.length - (intOf v).toNat)
 case atStart=>exact ⟨[],s,rfl,rfl,by simp,by simp,HS2.out⟩
 case round =>
  obtain ⟨dn,r,h1,h2,rfl,h4,S3⟩:=hrel
  have H1:=Lib.hid h1
  have H2:=Lib.hid h2
  have H4:=Lib.hid h4
  have bI:=Lib.hid S3
  clear h1 h2 h4 S3 HS2
  go_wp2_with fail
  refine (OO ci b ⟨r,false⟩ bI.out (by have:=HL.out;have:=H4.out;dsimp only;omega)).mono ?_
  have HQ:=Lib.hid (@mP r)
  have OQ:=Lib.hid (@vP r)
  have zz:=Lib.hid (@vQ r)
  generalize cK ⟨r,false⟩=q at *
  obtain ⟨⟨key,ceil⟩,ok,r2⟩:=q
  dsimp only at *
  rintro e w4 ⟨rfl,S⟩
  have S4:=(S.box #[.string ⟨key.toArray⟩,.int .u64 ceil] 137).box #[.string ⟨key.toArray⟩,.int .u64 ceil] 137
  simp only [World.size_alloc] at S4
  cases ok with
  | false =>
   obtain ⟨g1,g2⟩:=zz.out rfl
   have HR1:Hid (fT s=dn):=by rw [H1.out,g1];simp [Hid]
   have HR2:Hid (eO s=r):=by rw [H2.out,g2];trivial
   have gB:=Lib.hid ((S.new (.cells #[.string ⟨key.toArray⟩,.int .u64 ceil] 137)))
   clear S S4 bI g1 g2 HQ OQ zz H1 H2
   have hu:∃ v0,v0=u4:=⟨_,rfl⟩
   go_wp2
   go_ret2
   refine ⟨u4,?_,?_⟩
   ·rw [HR2.out];rfl
   ·rw [HR1.out];exact (Sp.pick [_,_,_] [2] (by decide) (gB.out))
  | true =>
   obtain ⟨g1,g2,g3,g4⟩:=HQ.out rfl
   obtain ⟨g7,g8⟩:=OQ.out rfl
   obtain ⟨r2,bad⟩:=r2
   dsimp only at *
   subst g1
   obtain ⟨g,cap,w6,hrun,S6⟩:=Sp.tq (e:=137) (k:=2) 130 130 #[.string ⟨key.toArray⟩,.int .u64 ceil] _ 24 RL rfl Tryz.underlying130 (by decide) (by decide) rfl (by simp [Value.oneCell']) (by have:=H4.out;have:=HL.out;omega) ((Sp.pick [_,_,_,_,_] [0,4,1,2,3] (by decide) (S4)))
   have e1:(dn.map dK.vals).flatten++[.string ⟨key.toArray⟩,.int .u64 ceil]=((dn++[(⟨key,ceil⟩:dK)]).map dK.vals).flatten:=by simp
   have hl1:dn.length+1=(dn++[(⟨key,ceil⟩:dK)]).length:=by simp
   have S7:Sp w0 F0 w6 (ae ci #[.pointer (some ⟨b,0,none⟩)] 143::xC 151 b ⟨r2,false⟩::rJ (.slice (some ⟨g,0,none⟩) (dn.length+1) cap) (dn++[⟨key,ceil⟩])::L):=by
    unfold rJ
    rw [← hl1,← e1]
    exact (Sp.pick [_,_,_,_,_] [3,4,1] (by decide) (S6))
   have jN:=Lib.hid S7
   have pV:=Lib.hid hrun
   have c7:=S7.cell
   have h1:fT s=(dn++[(⟨key,ceil⟩:dK)])++fT r2:=by rw [H1.out,g7];simp
   have h2:eO s=eO r2:=by rw [H2.out,g8]
   have H1:=Lib.hid h1
   have H2:=Lib.hid h2
   have XJ:Hid (r2.length+(dn++[(⟨key,ceil⟩:dK)]).length≤s.length):=by have:=H4.out;simp only [List.length_append,List.length_cons,List.length_nil,Hid];omega
   have hr2:(r2.length:Int)≤s.length:=by have:=H4.out;omega
   have H3:Hid (r2.length<r.length∧r.length≤s.length):=⟨g3,by have:=H4.out;omega⟩
   clear g2 g3 g4 g7 g8 HQ OQ zz S S4 S6 S7 h1 h2 hrun e1 hl1 bI
   go_wp2_with (first | (at_builtin;refine wpList_append_run (by rfl) (by rfl) (by rfl) (by rfl) pV.out ?_) | (go_at_call 64;refine (zw jN.out.ak).mono ?_;rintro e w2 ⟨rfl,rfl⟩))
   go_roundw
   case rel=>exact ⟨_,r2,H1.out,H2.out,rfl,XJ.out,jN.out⟩
   case measure=>have:=H3.out;simp [intOf];omega
end
end
section
open Go.RowKit Go.Maps
open Go.WideMaps (keyOf_string_mk)
abbrev xE (c:pO):Value:=.agg #[.int .u64 c.c,.int .u64 c.ceil]
def bK (M:Mp pO) (k:Bs):pO:=(M.get k).getD ⟨0,0⟩
def dm:Bs:=[108,101,100,103,101,114]
abbrev dP (p d step most:Nat) (M:Mp pO):aT:=aT.ex fun m:Nat=>(ae p #[.pointer (some ⟨d,0,none⟩),.int .u64 step,.int .u64 most,.map (some m)] 135).and (mG 9 xE m M)
theorem zA (x:Bs) (hx:x.length≤maxLen):keyOf Tryz.prog 9 (.string ⟨x.toArray⟩)=some (.string x):=keyOf_string_mk Tryz.underlying9 (s:=⟨x.toArray⟩) hx
theorem tJ:Keyed Tryz.prog 9:=string_keyed Tryz.underlying9
theorem Kz (w:World):(zeroValue 139).run Tryz.prog w=.ok (xE ⟨0,0⟩) w:=by kernel_rfl
theorem Mk (a b:Int) (w:World):(Instr.field 139 (.agg #[.int .u64 a,.int .u64 b]) 0).run Tryz.prog w=.ok (.int .u64 a) w:=by
 simp [Instr.field,run_underlying Tryz.underlying139,part,asAgg,go_sem]
theorem OT (M:Mp pO) (k:Bs):((M.get k).map xE).getD (xE ⟨0,0⟩)=.agg #[.int .u64 (bK M k).c,.int .u64 (bK M k).ceil]:=by unfold bK;cases M.get k <;> rfl
section
variable {w0 w:World} {F0:List Nat} {L:List aT} {p d step most:Nat} {M:Mp pO}
theorem yD (x:Bs) (S:Sp w0 F0 w (dP p d step most M::L)) (hx:x.length≤maxLen) :
  Calls Tryz.prog 106 #[.pointer (some ⟨p,0,none⟩),.string ⟨x.toArray⟩] w fun e w2=>e=.returned (.int .u64 (bK M x).c)∧w=w2:=by
 obtain ⟨m,S1⟩:=S.mD
 have hl:=((Sp.pick [_,_] [1] (by decide) (S1.part))).map.look (t:=133) tJ Tryz.underlying133 (Kz _) (zA x hx)
 rw [OT] at hl
 have c:=S1.part.cell
 generalize bK M x=y at *
 obtain ⟨a,b⟩:=y
 clear S S1 hx
 dsimp only at *
 have hf:=Mk
 go_enter Tryz.func106,Tryz.ntmps106
 go_wp2
 go_ret
 exact ⟨rfl,rfl⟩
theorem Cv (x:Bs) (S:Sp w0 F0 w (dP p d step most M::L)) (hx:x.length≤maxLen) :
  Calls Tryz.prog 142 #[.pointer (some ⟨p,0,none⟩),.string ⟨x.toArray⟩] w fun e w2=>e=.returned (.bool (decide (most≤(bK M x).c)))∧Sp w0 F0 w2 (dP p d step most M::L):=by
 obtain ⟨m,S1⟩:=S.mD
 have HS:=Lib.hid S1.part
 have HX:=Lib.hid hx
 clear S S1 hx
 have HC:Hid (∀ {w},Sp w0 F0 w (ae p #[.pointer (some ⟨d,0,none⟩),.int .u64 step,.int .u64 most,.map (some m)] 135::mG 9 xE m M::L)→Calls Tryz.prog 106 #[.pointer (some ⟨p,0,none⟩),.string ⟨x.toArray⟩] w fun e w2=>e=.returned (.int .u64 (bK M x).c)∧Sp w0 F0 w2 (ae p #[.pointer (some ⟨d,0,none⟩),.int .u64 step,.int .u64 most,.map (some m)] 135::mG 9 xE m M::L)):=fun {w} S=>by
  refine (yD (p:=p) (d:=d) (step:=step) (most:=most) (M:=M) x (S.glue.jP m) HX.out).mono ?_
  rintro e w2 ⟨rfl,rfl⟩
  exact ⟨rfl,S⟩
 go_enter Tryz.func142,Tryz.ntmps142
 go_wp2_with fail
 refine au (S:=fun wx=>Sp w0 F0 wx (ae p #[.pointer (some ⟨d,0,none⟩),.int .u64 step,.int .u64 most,.map (some m)] 135::mG 9 xE m M::L)∧(∀ o,wx.cell? ⟨p,o,none⟩=(#[.pointer (some ⟨d,0,none⟩),.int .u64 step,.int .u64 most,.map (some m)])[o]?)) (by kernel_rfl) (by kernel_rfl) ⟨(HS.out).drew,(Sp.pick [_,_] [0] (by decide) ((HS.out).drew)).cell⟩ ?_
 repeat
  refine Exists.intro ?_ (And.intro (fun wS hS K hK=>?_) (And.intro ?_ ?_))
  rotate_left 1
  ·obtain ⟨hS1,hS2⟩:=hS
   first
    | (refine ah rfl ?_;simp only [Act.put,List.setIfInBounds_toArray,List.set_cons_zero,List.set_cons_succ];exact hK.out _ ⟨hS1,hS2⟩)
    | (refine ag rfl ?_;go_simp;exact hK.out _ ⟨hS1,hS2⟩)
    | (refine ag rfl ?_;go_simp;go_at_call 106;refine (HC.out hS1).mono ?_;rintro e mZ ⟨rfl,bS⟩;exact hK.out _ ⟨bS,(Sp.pick [_,_] [0] (by decide) (bS)).cell⟩)
  ·rfl
 intro wE hE
 have aX:=Lib.hid hE.1
 clear hE
 go_wp2
 go_ret
 exact ⟨dw (by first | rfl | (rw [Bool.eq_iff_iff];simp)),aX.out.glue.jP m⟩
def gF (D:Dk) (key:Bs) (ceil:Nat):Dk×Int :=
 if (D.append dm (dK.text ⟨key,ceil⟩)).2≠0 then D.append dm (dK.text ⟨key,ceil⟩) else (D.append dm (dK.text ⟨key,ceil⟩)).1.sync
theorem kz (x:dK):x.text.length≤x.key.length+27:=by
 unfold dK.text
 have h1:=aP (aN x.key++bJ x.ceil)
 have h2:=aP x.key
 have h3:=aL x.ceil
 simp only [List.length_append] at h1
 omega
theorem FO (x:Bs) (n k:Nat) (D:Dk) (S:Sp w0 F0 w (dP p d step most M::aF d D::L)) (hx:x.length≤1000000) (hn:n<18446744073709551616) (hD:D.Roomy k) (hk:k≤800000000) :
  Calls Tryz.prog 143 #[.pointer (some ⟨p,0,none⟩),.string ⟨x.toArray⟩,.int .u64 n] w fun e w2=>e=.returned (.int .i64 (gF D x n).2)∧Sp w0 F0 w2 (dP p d step most M::aF d (gF D x n).1::L):=by
 obtain ⟨m,S1⟩:=S.mD
 have HS:=Lib.hid S1.part
 have HX:=Lib.hid hx
 have HN:=Lib.hid hn
 have HA:Hid (D.Small∧(D.append dm (dK.text ⟨x,n⟩)).1.Small):=by
  have h1:=hD.append dm (dK.text ⟨x,n⟩)
  have h2:=kz ⟨x,n⟩
  dsimp only at h2
  exact ⟨hD.small (by omega),h1.small (by omega)⟩
 have HR:Hid (gF D x n=_):=Lib.hid (gF.eq_1 D x n)
 have c0:=S1.part.cell
 clear S S1 hx hn hD hk
 go_enter Tryz.func143,Tryz.ntmps143
 go_wp2_with fail
 go_cut [7] (fun v wx=>v=.int .i64 (D.append dm (dK.text ⟨x,n⟩)).2∧Sp w0 F0 wx (ae p #[.pointer (some ⟨d,0,none⟩),.int .u64 step,.int .u64 most,.map (some m)] 135::mG 9 xE m M::aF d (D.append dm (dK.text ⟨x,n⟩)).1::L))
 case first =>
  go_region_with (first | (go_at_call 178;refine (OL ⟨x,n⟩ HS.out.drew HX.out HN.out).mono ?_;rintro e w2 ⟨rfl,S5⟩;have c5:=S5.cell;have gB:=Lib.hid S5;clear S5) | (go_at_call 78;refine (zx dm (dK.text ⟨x,n⟩) gB.out.dJ HA.out.1 (by decide) (by have:=kz ⟨x,n⟩;have:=HX.out;dsimp only at *;omega)).mono ?_;rintro e w3 ⟨rfl,S6⟩;have fG:=Lib.hid (Sp.pick [_,_,_] [1,2,0] (by decide) (S6));clear S6))
  all_goals
   clear c0 c5
   go_wp2_with fail
   go_meet
   exact ⟨rfl,fG.out⟩
 case rest =>
  obtain ⟨rfl,S7⟩:=hcut
  have c7:=S7.cell
  have jN:=Lib.hid S7
  have HA1:=Lib.hid HA.out.2
  clear HS c0 S7 HA
  generalize D.append dm (dK.text ⟨x,n⟩)=A at *
  obtain ⟨D1,e1⟩:=A
  dsimp only at *
  by_cases he:e1=0
  ·subst he
   go_wp2_with (go_at_call 46;refine (yz jN.out.dJ HA1.out).mono ?_;rintro e w6 ⟨rfl,S8⟩;have tV:=Lib.hid S8;clear S8)
   go_ret
   rw [HR.out,if_neg (by simp)]
   exact ⟨rfl,((Sp.pick [_,_,_] [1,2,0] (by decide) (tV.out))).glue.jP m⟩
  ·have t1:(e1 != 0)=true:=by simpa using he
   have HE:=Lib.hid he
   clear he
   go_wp2
   go_ret
   rw [HR.out,if_pos HE.out]
   exact ⟨rfl,jN.out.glue.jP m⟩
end
end
section
open Go.RowKit Go.Maps
def aQ (D:Dk) (M:Mp pO) (step most:Nat) (x:Bs):Dk×Mp pO×Bs×Int :=
 if 300<x.length then (D,M,[],5)
 else if most≤(bK M x).c then (D,M,[],21)
 else if (bK M x).c=(bK M x).ceil then
  if (gF D x (min ((bK M x).ceil+step) most)).2≠0 then ((gF D x (min ((bK M x).ceil+step) most)).1,M,[],(gF D x (min ((bK M x).ceil+step) most)).2)
  else ((gF D x (min ((bK M x).ceil+step) most)).1,M.put x ⟨(bK M x).c+1,min ((bK M x).ceil+step) most⟩,Ab (bK M x).c,0)
 else (D,M.put x ⟨(bK M x).c+1,(bK M x).ceil⟩,Ab (bK M x).c,0)
def Cw (M:Mp pO):Prop:=M.length≤1000000∧∀ p∈M,p.2.c≤p.2.ceil∧p.2.ceil≤1099511627776
theorem Cw.of {M:Mp pO} (h:Cw M) (x:Bs):(bK M x).c≤(bK M x).ceil∧(bK M x).ceil≤1099511627776:=by
 unfold bK Mp.get
 cases hf:M.find? fun p=>p.1 == x with
 | none=>simp
 | some p=>exact h.2 p (List.mem_of_find?_eq_some hf)
section
variable {w0 w:World} {F0:List Nat} {L:List aT} {p d step most:Nat} {M:Mp pO}
theorem Ml (x:Bs) (k:Nat) (D:Dk) (S:Sp w0 F0 w (dP p d step most M::aF d D::L)) (hx:x.length≤1000000) (hM:Cw M) (hstep:step≤1000) (Cx:most≤1099511627776) (hD:D.Roomy k) (hk:k≤800000000) :
  Calls Tryz.prog 105 #[.pointer (some ⟨p,0,none⟩),.string ⟨x.toArray⟩] w fun e w2=>e=.returned (.tuple #[.string ⟨(aQ D M step most x).2.2.1.toArray⟩,.int .i64 (aQ D M step most x).2.2.2])∧Sp w0 F0 w2 (dP p d step most (aQ D M step most x).2.1::aF d (aQ D M step most x).1::L):=by
 have HS:=Lib.hid S
 have HX:=Lib.hid hx
 have HM:=Lib.hid hM
 have HD:=Lib.hid hD
 have HK:=Lib.hid hk
 have hb:=hM.of x
 have hx':(x.length:Int)≤1000000:=by omega
 have Zh:Hid (x.length≤maxLen):=by unfold Hid maxLen;omega
 have HN:Hid (aQ D M step most x=_):=Lib.hid (aQ.eq_1 D M step most x)
 have HGC:=Lib.hid (OT M x)
 generalize hs:bK M x=y at *
 have HE:=Lib.hid hs
 clear hs
 obtain ⟨a,b⟩:=y
 dsimp only at *
 obtain ⟨hab,XK⟩:=hb
 clear S hM hD hk hx
 by_cases h300:300<x.length
 ·have XL:(300:Int)<x.length:=by omega
  have HV:Hid (aQ D M step most x=(D,M,[],5)):=by rw [HN.out,if_pos h300];trivial
  clear HN h300
  go_enter Tryz.func105,Tryz.ntmps105
  go_wp2
  go_ret2
  rw [HV.out]
  exact ⟨rfl,HS.out⟩
 have XL:(x.length:Int)≤300:=by omega
 rw [if_neg h300] at HN
 clear h300
 by_cases hsp:most≤a
 ·have HV:Hid (aQ D M step most x=(D,M,[],21)):=by rw [HN.out,if_pos hsp];trivial
  have Zi:decide (most≤a)=true:=by simpa using hsp
  clear HN hsp
  go_enter Tryz.func105,Tryz.ntmps105
  go_wp2_with fail
  refine (Cv x HS.out Zh.out).mono ?_
  rw [HE.out]
  dsimp only
  rw [Zi]
  rintro e w1 ⟨rfl,S1⟩
  have bX:=Lib.hid S1
  clear S1
  go_wp2
  go_ret2
  rw [HV.out]
  exact ⟨rfl,bX.out⟩
 rw [if_neg hsp] at HN
 have Zi:decide (most≤a)=false:=by simpa using hsp
 have AA:=Lib.hid hsp
 clear hsp
 go_enter Tryz.func105,Tryz.ntmps105
 go_wp2_with fail
 refine (Cv x HS.out Zh.out).mono ?_
 rw [HE.out]
 dsimp only
 rw [Zi]
 rintro e w1 ⟨rfl,S1⟩
 obtain ⟨m,S2⟩:=S1.mD
 have hl:=((Sp.pick [_,_] [1] (by decide) (S2.part))).map.look (t:=133) tJ Tryz.underlying133 (Kz _) (zA x Zh.out)
 rw [HGC.out] at hl
 have c2:=S2.part.cell
 have l2:=S2.part.x8
 have HS2:=Lib.hid S2.part
 have HAB:Hid (a≤b∧b≤1099511627776∧a<most∧step≤1000∧most≤1099511627776):=⟨hab,XK,by have:=AA.out;omega,hstep,Cx⟩
 have i1:(a:Int)≤1099511627776:=by omega
 have i2:(b:Int)≤1099511627776:=by omega
 have i3:(step:Int)≤1000:=by omega
 have i4:(most:Int)≤1099511627776:=by omega
 clear S1 S2 HS hab XK hstep Cx Zi
 have FN:Hid (∀ (m:Nat) (c:Nat) (D2:Dk) (wz:World),c<18446744073709551616→Sp w0 F0 wz (ae w1.heap.size #[.int .u64 ((a:Int)+1),.int .u64 c] 139::ae p #[.pointer (some ⟨d,0,none⟩),.int .u64 step,.int .u64 most,.map (some m)] 135::mG 9 xE m M::aF d D2::L) →
   ∃ w5,(Instr.mapUpdate 133 (.map (some m)) (.string ⟨x.toArray⟩) (.agg #[.int .u64 ((a:Int)+1),.int .u64 c])).run Tryz.prog wz.drew=.ok () w5∧Sp w0 F0 w5 (dP p d step most (M.put x ⟨a+1,c⟩)::aF d D2::L)):=fun m c D2 wz hc S=>by
  obtain ⟨w5,hrun,S5,_⟩:=((Sp.pick [_,_,_,_] [2,1,3] (by decide) (S))).drew.xD (t:=133) tJ Tryz.underlying133 (by have:=HM.out.1;unfold maxLen;omega) (zA x Zh.out) ⟨a+1,c⟩
  exact ⟨w5,hrun,S5.ak.glue.jP m⟩
 by_cases hcc:a=b
 ·subst hcc
  rw [if_pos rfl] at HN
  have bI:=Lib.hid (HS2.out.box #[.int .u64 a,.int .u64 a] 139)
  have em:min ((a:Int)+step) (most:Int)=((min (a+step) most:Nat):Int):=by omega
  have ew:IntKind.u64.wrap ((a:Int)+step)=(a:Int)+step:=by rw [IntKind.wrap_u64];omega
  have XM:Hid (min (a+step) most<18446744073709551616):=by unfold Hid;omega
  have tcc:((a:Int) == (a:Int))=true:=by simp
  go_upto_region 7 with (fail)
  generalize w1.alloc (.cells #[.int .u64 a,.int .u64 a] 139)=w3 at *
  generalize w1.heap.size=q3 at *
  clear c2 l2 hl
  refine au (S:=fun wx=>Sp w0 F0 wx (ae q3 #[.int .u64 a,.int .u64 a] 139::ae p #[.pointer (some ⟨d,0,none⟩),.int .u64 step,.int .u64 most,.map (some m)] 135::mG 9 xE m M::aF d D::L)∧(∀ o,wx.cell? ⟨q3,o,none⟩=(#[.int .u64 a,.int .u64 a])[o]?)∧(∀ o,wx.cell? ⟨p,o,none⟩=(#[.pointer (some ⟨d,0,none⟩),.int .u64 step,.int .u64 most,.map (some m)])[o]?)) (by kernel_rfl) (by kernel_rfl) ⟨(bI.out).drew,(Sp.pick [_,_,_,_] [0] (by decide) ((bI.out).drew)).cell,(Sp.pick [_,_,_,_] [1] (by decide) ((bI.out).drew)).cell⟩ ?_
  repeat
   refine Exists.intro ?_ (And.intro (fun wS hS K hK=>?_) (And.intro ?_ ?_))
   rotate_left 1
   ·obtain ⟨hS1,hS2,eG⟩:=hS
    first
     | (refine ah rfl ?_;simp only [Act.put,List.setIfInBounds_toArray,List.set_cons_zero,List.set_cons_succ];exact hK.out _ ⟨hS1,hS2,eG⟩)
     | (refine ag rfl ?_;go_simp;exact hK.out _ ⟨hS1,hS2,eG⟩)
   ·rfl
  intro wE hE
  have aX:=Lib.hid hE.1
  clear hE
  have gP:=Lib.hid (((Sp.pick [_,_,_,_] [1,2,3,0] (by decide) (aX.out))).glue.jP (f:=fun m:Nat=>(ae p #[.pointer (some ⟨d,0,none⟩),.int .u64 step,.int .u64 most,.map (some m)] 135).and (mG 9 xE m M)) m)
  clear aX bI HS2 ew
  go_wp2_with fail
  first | rw [em] | skip
  refine (FO x (min (a+step) most) k D gP.out HX.out XM.out HD.out HK.out).mono ?_
  generalize min (a+step) most=c at *
  generalize gF D x c=R at *
  obtain ⟨D2,ec⟩:=R
  dsimp only at *
  rintro e w4 ⟨rfl,S⟩
  clear gP em
  by_cases he:ec=0
  ·subst he
   rw [if_neg (by simp)] at HN
   obtain ⟨m2,S5⟩:=S.mD
   have S6:=(Sp.pick [_,_,_,_] [3,0,1,2] (by decide) (S5.part))
   have c6:=S6.cell
   have f6:=S6.free
   have p6:=S6.ak.cell
   have S7:=(S6.set (o:=1) (.int .u64 c)).set (o:=0) (.int .u64 ((a:Int)+1))
   have p7:=S7.ak.cell
   obtain ⟨w5,hrun,S8⟩:=FN.out m2 c D2 _ XM.out S7
   have tV:=Lib.hid S8
   have c7:=S7.cell
   have HC7:=Lib.hid c7
   have HP7:=Lib.hid p7
   have pV:=Lib.hid hrun
   clear S S5 S6 S7 S8 FN c7 p7 hrun
   go_wp2_with fail
   clear c6 f6 p6
   generalize (w4.setCell ⟨q3,1,none⟩ (.int .u64 c)).setCell ⟨q3,0,none⟩ (.int .u64 ((a:Int)+1))=wz at *
   have c7:∀ o,wz.cell? ⟨q3,o,none⟩=#[.int .u64 ((a:Int)+1),.int .u64 c][o]?:=HC7.out
   have p7:=HP7.out
   have hrun:=pV.out
   clear HC7 HP7 pV
   go_region
   all_goals
    clear hrun c7 p7
    go_wp2_with (go_at_call 144;refine (OJ a tV.out (by have:=HAB.out;omega)).mono ?_;rintro e w6 ⟨rfl,S6⟩;have fG:=Lib.hid S6;clear S6)
    go_ret2
    rw [HN.out]
    exact ⟨rfl,(Sp.pick [_,_] [0,1] (by decide) (fG.out))⟩
  ·have t1:(ec != 0)=true:=by simpa using he
   have HE2:=Lib.hid he
   have gB:=Lib.hid S
   clear he S
   rw [if_pos HE2.out] at HN
   go_wp2
   go_ret2
   rw [HN.out]
   exact ⟨rfl,(Sp.pick [_,_,_] [0,1] (by decide) (gB.out))⟩
 ·have tcc:((a:Int) == (b:Int))=false:=by simp;omega
  rw [if_neg hcc] at HN
  have S3:=HS2.out.box #[.int .u64 ((a:Int)+1),.int .u64 b] 139
  have c3:=S3.cell
  obtain ⟨w5,hrun,S5⟩:=FN.out m b D _ (by have:=HAB.out;omega) S3
  have gB:=Lib.hid S5
  clear hcc S3 S5 FN
  go_wp2_with fail
  go_region
  all_goals
   clear hrun hl c2 c3
   go_wp2_with (go_at_call 144;refine (OJ a gB.out (by have:=HAB.out;omega)).mono ?_;rintro e w6 ⟨rfl,S6⟩;have fG:=Lib.hid S6;clear S6)
   go_ret2
   rw [HN.out]
   exact ⟨rfl,fG.out⟩
end
end
section
open Go.RowKit Go.Maps
def bG (l:List dK):Mp pO:=l.foldl (fun M p=>M.put p.key ⟨p.ceil,p.ceil⟩) []
def bN (D:Dk):Bs:=(D.now.get dm).getD []
def aR (D:Dk):Dk×Option (Mp pO)×Int :=
 if D.now.has dm=true∧eO (bN D)=[] then (D,some (bG (fT (bN D))),0)
 else if (D.write dm ((bN D).take ((bN D).length - (eO (bN D)).length))).2≠0 then ((D.write dm ((bN D).take ((bN D).length - (eO (bN D)).length))).1,none,(D.write dm ((bN D).take ((bN D).length - (eO (bN D)).length))).2)
 else if (D.write dm ((bN D).take ((bN D).length - (eO (bN D)).length))).1.sync.2≠0 then ((D.write dm ((bN D).take ((bN D).length - (eO (bN D)).length))).1.sync.1,none,(D.write dm ((bN D).take ((bN D).length - (eO (bN D)).length))).1.sync.2)
 else ((D.write dm ((bN D).take ((bN D).length - (eO (bN D)).length))).1.sync.1,some (bG (fT (bN D))),0)
def KA (w0:World) (F0:List Nat) (L:List aT) (d step most:Nat) (R:Dk×Option (Mp pO)×Int) (e:Ending) (w2:World):Prop :=
 match R.2.1 with
 | none=>e=.returned (.tuple #[.pointer none,.int .i64 R.2.2])∧Sp w0 F0 w2 (aF d R.1::L)
 | some M=>∃ p,e=.returned (.tuple #[.pointer (some ⟨p,0,none⟩),.int .i64 R.2.2])∧Sp w0 F0 w2 (dP p d step most M::aF d R.1::L)
theorem vR (l:List dK) (x:dK):bG (l++[x])=(bG l).put x.key ⟨x.ceil,x.ceil⟩:=by simp [bG]
theorem rM (l:List dK):(bG l).length≤l.length:=by
 have:∀ (l:List dK) (M:Mp pO),(l.foldl (fun M p=>M.put p.key ⟨p.ceil,p.ceil⟩) M).length≤M.length+l.length:=by
  intro l
  induction l with
  | nil=>intro M;simp
  | cons x l ih =>
   intro M
   have h1:=ih (M.put x.key ⟨x.ceil,x.ceil⟩)
   have h2:=Mp.dB M x.key (⟨x.ceil,x.ceil⟩:pO)
   simp only [List.foldl_cons,List.length_cons]
   omega
 have:=this l []
 simpa [bG] using this
theorem rO:∀ (f:Nat) (s:Bs),(ig f s).2.length+(ig f s).1.length≤s.length∧∀ x∈(ig f s).1,qa x
 | 0,s=>by simp [ig]
 | f+1,s=>by
  rw [ig]
  split
  ·rename_i h
   obtain ⟨_,_,h2,h3⟩:=mP h
   have ih:=rO f (cK ⟨s,false⟩).2.2.s
   refine ⟨by simp only [List.length_cons];omega,fun x hx=>?_⟩
   rcases List.mem_cons.1 hx with rfl | hx
   ·exact h3
   ·exact ih.2 x hx
  ·simp
section
variable {w0 w:World} {F0:List Nat} {L:List aT} {d:Nat}
theorem FP (step most:Nat) (S:Sp w0 F0 w L) (h:step<1∨1000<step∨1099511627776<most):Calls Tryz.prog 34 #[.pointer (some ⟨d,0,none⟩),.int .u64 step,.int .u64 most] w fun e w2=>e=.returned (.tuple #[.pointer none,.int .i64 1])∧Sp w0 F0 w2 L:=by
 have HS:=Lib.hid S
 clear S
 by_cases h1:step<1
 ·go_enter Tryz.func34,Tryz.ntmps34
  go_wp2
  go_ret2
  exact ⟨rfl,HS.out⟩
 ·by_cases h2:1000<step
  ·have h1':(1:Int)≤step:=by omega
   have h2':(1000:Int)<step:=by omega
   clear h h1 h2
   go_enter Tryz.func34,Tryz.ntmps34
   go_wp2
   all_goals (go_ret2;exact ⟨rfl,HS.out⟩)
  ·have h3:(1099511627776:Int)<most:=by omega
   have h1':(1:Int)≤step:=by omega
   have h2':(step:Int)≤1000:=by omega
   clear h h1 h2
   go_enter Tryz.func34,Tryz.ntmps34
   go_wp2
   all_goals (go_ret2;exact ⟨rfl,HS.out⟩)
theorem OU (step most k:Nat) (D:Dk) (S:Sp w0 F0 w (aF d D::L)) (h1:1≤step) (h2:step≤1000) (h3:most≤1099511627776) (hD:D.Roomy k) (hk:k≤400000000) :
  Calls Tryz.prog 34 #[.pointer (some ⟨d,0,none⟩),.int .u64 step,.int .u64 most] w fun e w2=>KA w0 F0 L d step most (aR D) e w2:=by
 have HO:Hid (aR D=_):=Lib.hid (aR.eq_1 D)
 have HF:Hid (bN D=(D.now.get dm).getD []):=rfl
 have hl:(bN D).length≤k:=hD.file dm
 have HL:Hid ((bN D).length≤400000000):=Nat.le_trans hl hk
 have HW:Hid (D.Small∧∀ x:Bs,x.length≤400000000→(D.write dm x).1.Small) :=
  ⟨hD.small (by omega),fun x hx=>(hD.write dm x).small (by omega)⟩
 have HS:=Lib.hid S
 have i1:(1:Int)≤step:=by omega
 have i2:(step:Int)≤1000:=by omega
 have i3:(most:Int)≤1099511627776:=by omega
 have hmm:=@run_makeMap Tryz.prog
 clear S hD hk hl h1 h2 h3
 go_enter Tryz.func34,Tryz.ntmps34
 go_wp2_with fail
 refine (Ku dm HS.out (by decide)).mono ?_
 rw [← HF.out]
 rintro e w2 ⟨rfl,rfl⟩
 generalize bN D=s at *
 obtain ⟨ec,Il⟩:∃ c:Int,(if D.now.has dm then 0 else 10)=c:=⟨_,rfl⟩
 rw [Il]
 have Ul:Hid ((D.now.has dm=true∧ec=0)∨(D.now.has dm=false∧ec=10)):=by
  cases hh:D.now.has dm <;> simp [hh] at Il <;> simp [Il.symm,Hid]
 clear Il
 go_wp2_with fail
 refine (OP s HS.out (by have:=HL.out;omega)).mono ?_
 rintro e w3 ⟨rv,rfl,S3⟩
 have hrl:=rO (s.length+1) s
 have HRL:Hid ((eO s).length+(fT s).length≤s.length):=hrl.1
 have aad:Hid (∀ x∈fT s,qa x):=hrl.2
 have hr1:((eO s).length:Int)≤s.length:=by have:=hrl.1;unfold eO;omega
 have hs4:(s.length:Int)≤400000000:=by have:=HL.out;omega
 generalize fT s=rows at *
 generalize eO s=rest at *
 have bI:=Lib.hid S3
 clear S3 HS hrl
 obtain ⟨bad,hbad⟩:∃ bad:Bool,bad = !decide (D.now.has dm=true∧rest=[]):=⟨_,rfl⟩
 go_upto_region 5 with (fail)
 go_cut [48] (fun v wx=>v=.bool bad∧Sp w0 F0 wx (rJ rv rows::aF d D::L))
 case first =>
  rcases Ul.out with ⟨hh,rfl⟩ | ⟨hh,rfl⟩
  ·by_cases hrest:rest=[]
   ·have hb0:bad=false:=by rw [hbad,hh,hrest];rfl
    have hge:¬ ((s.length:Int) - (rest.length:Int)<s.length):=by rw [hrest];simp
    clear hrest
    go_wp2_with fail
    go_meet
    exact ⟨by rw [hb0],bI.out⟩
   ·have hb0:bad=true:=by rw [hbad];simp [hrest]
    have hlt:((s.length:Int) - (rest.length:Int)<s.length):=by have:=List.length_pos_iff.2 hrest;omega
    clear hrest
    go_wp2_with fail
    go_meet
    exact ⟨by rw [hb0],bI.out⟩
  ·have hb0:bad=true:=by rw [hbad,hh];simp
   go_wp2_with fail
   go_meet
   exact ⟨by rw [hb0],bI.out⟩
 case rest =>
  obtain ⟨rfl,S4⟩:=hcut
  have gP:=Lib.hid S4
  clear S4 bI
  have HC:=Lib.hid (iT s (s.length - rest.length))
  have Im:Hid ((s.take (s.length - rest.length)).length≤400000000):=by have:=HL.out;rw [List.length_take];unfold Hid;omega
  go_upto_if 48 with (fail)
  go_cut [] (fun wx=>∃ D2,aR D=(D2,some (bG rows),0)∧Sp w0 F0 wx (rJ rv rows::aF d D2::L))
  case first =>
   cases bad with
   | false =>
    have hgood:D.now.has dm=true∧rest=[]:=by
     by_cases h:D.now.has dm=true∧rest=[]
     ·exact h
     ·rw [decide_eq_false h] at hbad;cases hbad
    have HV:Hid (aR D=(D,some (bG rows),0)):=by rw [HO.out,if_pos hgood];trivial
    clear hbad hgood hr1
    go_wp2_with fail
    go_meet
    exact ⟨D,HV.out,gP.out⟩
   | true =>
    have hno:¬ (D.now.has dm=true∧rest=[]):=fun h=>by rw [decide_eq_true h] at hbad;cases hbad
    rw [if_neg hno] at HO
    clear hno hbad
    go_wp2_with fail
    rw [HC.out]
    refine (DT dm _ gP.out.ak HW.out.1 (by decide) (by have:=Im.out;omega)).mono ?_
    have HW1:=Lib.hid (HW.out.2 _ Im.out)
    generalize D.write dm (s.take (s.length - rest.length))=A at *
    obtain ⟨D1,e1⟩:=A
    dsimp only at *
    rintro e w5 ⟨rfl,S6⟩
    have fG:=Lib.hid S6
    clear S6 gP
    by_cases he1:e1=0
    ·subst he1
     rw [if_neg (by simp)] at HO
     go_wp2_with fail
     refine (yz fG.out HW1.out).mono ?_
     generalize D1.sync=B at *
     obtain ⟨D2,e2⟩:=B
     dsimp only at *
     rintro e w6 ⟨rfl,S7⟩
     have jN:=Lib.hid S7
     clear S7 fG
     by_cases he2:e2=0
     ·subst he2
      rw [if_neg (by simp)] at HO
      go_wp2_with fail
      go_meet
      exact ⟨D2,HO.out,jN.out.ak⟩
     ·have t2:(e2 != 0)=true:=by simpa using he2
      have HV:Hid (aR D=(D2,none,e2)):=by rw [HO.out,if_pos he2];trivial
      clear he2 HO
      go_wp2
      go_ret2
      rw [HV.out]
      exact ⟨rfl,(Sp.pick [_,_] [0] (by decide) (jN.out))⟩
    ·have t1:(e1 != 0)=true:=by simpa using he1
     have HV:Hid (aR D=(D1,none,e1)):=by rw [HO.out,if_pos he1];trivial
     clear he1 HO
     go_wp2
     go_ret2
     rw [HV.out]
     exact ⟨rfl,(Sp.pick [_,_] [0] (by decide) (fG.out))⟩
  case rest =>
   obtain ⟨D2,hV,S5⟩:=hcut
   have HV:=Lib.hid hV
   have gB:=Lib.hid S5
   obtain ⟨ra,XN,rfl⟩:∃ a cap,rv=.slice a rows.length cap:=by
    rcases S5.jr with ⟨rfl,h0⟩ | ⟨g,cap,rfl⟩
    ·exact ⟨none,0,by rw [h0]⟩
    ·exact ⟨_,_,rfl⟩
   have aae:Hid (∀ {wz:World} {i:Nat} {x:dK} {K:List aT},Sp w0 F0 wz (rJ (.slice ra rows.length XN) rows::K)→rows[i]? = some x→∃ g,ra=some ⟨g,0,none⟩∧wz.cell? ⟨g,i*2,none⟩=some (.string ⟨x.key.toArray⟩)∧wz.cell? ⟨g,i*2+1,none⟩=some (.int .u64 x.ceil)):=fun {wz i x K} S hx=>by
    rcases S.jr with ⟨h,h0⟩ | ⟨g,cap,h⟩
    ·have:rows=[]:=List.eq_nil_of_length_eq_zero h0
     rw [this] at hx
     cases hx
    ·simp only [Value.slice.injEq,true_and] at h
     obtain ⟨rfl,rfl⟩:=h
     have hm:(rows.map dK.vals)[i]? = some x.vals:=by simp [hx]
     have hl2:∀ y∈rows.map dK.vals,y.length=2:=by
      intro y hy
      obtain ⟨z,_,rfl⟩:=List.mem_map.1 hy
      rfl
     exact ⟨g,rfl,S.zt hl2 hm (j:=0) rfl,S.zt hl2 hm (j:=1) rfl⟩
   have hrn:(rows.length:Int)≤400000000:=by have:=HRL.out;have:=HL.out;omega
   clear hV S5 gP HO hbad
   go_wp2_with fail
   have S6:=(gB.out.zu 9 xE).box #[.pointer (some ⟨d,0,none⟩),.int .u64 step,.int .u64 most,.map (some wc.heap.size)] 135
   simp only [World.size_alloc] at S6
   have fG:=Lib.hid S6
   clear S6 gB hmm
   generalize (wc.alloc (.map #[] 0)).alloc (.cells #[.pointer (some ⟨d,0,none⟩),.int .u64 step,.int .u64 most,.map (some wc.heap.size)] 135)=w6 at *
   generalize wc.heap.size+1=p at *
   generalize wc.heap.size=m at *
   go_loopw [70] (fun v wr=>∃ j:Nat,v=.int .i64 j∧j≤rows.length∧Sp w0 F0 wr (ae p #[.pointer (some ⟨d,0,none⟩),.int .u64 step,.int .u64 most,.map (some m)] 135::mG 9 xE m (bG (rows.take j))::rJ (.slice ra rows.length XN) rows::aF d D2::L)) (fun v _=>rows.length - (intOf v).toNat)
   case atStart=>exact ⟨0,rfl,by omega,fG.out⟩
   case round =>
    obtain ⟨j,rfl,hj,S7⟩:=hrel
    have jN:=Lib.hid S7
    clear S7 fG
    by_cases hlt:j<rows.length
    ·have hlt':(j:Int)<rows.length:=by omega
     obtain ⟨x,hx⟩:∃ x,rows[j]? = some x:=⟨_,List.getElem?_eq_getElem hlt⟩
     obtain ⟨g,rfl,c0,c1⟩:=aae.out ((Sp.pick [_,_,_] [2,0,1] (by decide) (jN.out))) hx
     have FQ:Hid (rows.take (j+1)=rows.take j++[x]):=by
      obtain ⟨_,h⟩:=List.getElem?_eq_some_iff.1 hx
      unfold Hid
      rw [List.take_succ_eq_append_getElem hlt,h]
     obtain ⟨key,ceil⟩:=x
     dsimp only at *
     have hkl:key.length≤maxLen:=by
      have:=(aad.out _ (List.mem_of_getElem? hx)).1
      unfold maxLen
      dsimp only at this
      omega
     have S8:=jN.out.box #[.string ⟨key.toArray⟩,.int .u64 ceil] 137
     have c8:=S8.cell
     have p8:=S8.ak.cell
     obtain ⟨w9,hrun,S9,_⟩:=((Sp.pick [_,_,_,_,_] [2,1,3,4] (by decide) (S8))).drew.xD (t:=133) tJ Tryz.underlying133 (by have:=rM (rows.take j);have:=HRL.out;have:=HL.out;rw [List.length_take] at *;unfold maxLen;omega) (zA key hkl) ⟨ceil,ceil⟩
     rw [← vR (rows.take j) ⟨key,ceil⟩,← FQ.out] at S9
     have uj:=Lib.hid S9.ak
     have pV:=Lib.hid hrun
     have HC8:=Lib.hid c8
     have HP8:=Lib.hid p8
     clear hx S8 S9 hrun c8 p8 hkl jN
     go_wp2_with fail
     clear c0 c1
     generalize wr.alloc (.cells #[.string ⟨key.toArray⟩,.int .u64 ceil] 137)=wz at *
     generalize wr.heap.size=q at *
     have c8:=HC8.out
     have p8:=HP8.out
     have hrun:=pV.out
     clear HC8 HP8 pV
     go_region
     all_goals
      clear hrun c8 p8
      go_wp2_with fail
      go_roundw
      case rel=>exact ⟨j+1,by go_num,by omega,uj.out⟩
      case measure=>simp [intOf];omega
    ·have ht:rows.take j=rows:=List.take_of_length_le (by omega)
     have HT:=Lib.hid ht
     clear ht
     go_wp2
     go_ret2
     rw [HV.out]
     rw [HT.out] at jN
     exact ⟨p,rfl,((Sp.pick [_,_,_,_] [0,1,3] (by decide) (jN.out))).glue.jP m⟩
end
end
end Go.Proofs.YtangbdahnmomlaaGreatDoor
