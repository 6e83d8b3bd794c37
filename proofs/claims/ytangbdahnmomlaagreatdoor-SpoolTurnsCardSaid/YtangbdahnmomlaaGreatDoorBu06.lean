/- Maps whose keys read as strings, with elements of any kind, as lists of pairs: what making, reading, writing and ranging over them comes to. No -/
import Derived.Laws.Tables
import Derived.OrdersHeld
import Derived.Test.YtangbdahnmomlaaGreatDoorBu01
import Derived.Test.YtangbdahnmomlaaGreatDoorBu05
set_option linter.unnecessarySimpa false
set_option linter.unusedSimpArgs false
set_option linter.unusedVariables false
namespace Go.Proofs.YtangbdahnmomlaaGreatDoor
section
open Go.RowKit Go.Maps
open Go.WideMaps (keyOf_string_mk string_of_keyOf)
abbrev Mp (V:Type):=List (Bs×V)
section
variable {V:Type}
def Mp.ins (x:Bs×V):Mp V→Mp V
 | []=>[x]
 | y::r=>if bytesBefore x.1 y.1 then x::y::r else y::Mp.ins x r
def Mp.del (F:Mp V) (k:Bs):Mp V:=F.filter fun p => !(p.1 == k)
def Mp.put (F:Mp V) (k:Bs) (v:V):Mp V:=Mp.ins (k,v) (F.del k)
def Mp.get (F:Mp V) (k:Bs):Option V:=(F.find? fun p=>p.1 == k).map (·.2)
def Mp.has (F:Mp V) (k:Bs):Bool:=F.any fun p=>p.1 == k
theorem Mp.has_eq (F:Mp V) (k:Bs):F.has k=(F.get k).isSome:=by
 unfold Mp.has Mp.get
 induction F with
 | nil=>rfl
 | cons y r ih =>
  by_cases h:(y.1 == k)=true
  ·simp [h]
  ·simp [h,ih]
theorem Mp.fI (y:Bs×V) (r:Mp V) (k:Bs):Mp.get (y::r) k=if y.1=k then some y.2 else Mp.get r k:=by
 unfold Mp.get
 by_cases h:y.1=k
 ·simp [h]
 ·simp [h,beq_eq_false_iff_ne.2 h]
theorem Mp.vH (x:Bs×V) (j:Bs):∀ F:Mp V,(∀ p∈F,p.1≠x.1)→(Mp.ins x F).get j=if x.1=j then some x.2 else F.get j
 | [],_=>by simp [Mp.ins,Mp.fI]
 | y::r,h=>by
  unfold Mp.ins
  split
  ·rw [Mp.fI]
  ·rw [Mp.fI,Mp.vH x j r (fun p hp=>h p (by simp [hp])),Mp.fI]
   have hy:=h y (by simp)
   by_cases h1:y.1=j
   ·have h2:¬ x.1=j:=fun e=>hy (h1.trans e.symm)
    simp [h1,h2]
   ·simp [h1]
theorem Mp.vI (F:Mp V) (k j:Bs):(F.del k).get j=if j=k then none else F.get j:=by
 induction F with
 | nil=>simp [Mp.del,Mp.get]
 | cons y r ih =>
  unfold Mp.del at *
  rw [List.filter_cons]
  by_cases hy:y.1=k
  ·simp only [hy,beq_self_eq_true,Bool.not_true,Bool.false_eq_true,if_false]
   rw [ih,Mp.fI]
   by_cases hj:j=k
   ·simp [hj]
   ·simp [hj,hy,Ne.symm hj]
  ·simp only [beq_eq_false_iff_ne.2 hy,Bool.not_false,if_true]
   rw [Mp.fI,ih,Mp.fI]
   by_cases hj:j=k
   ·simp [hj,hy]
   ·simp [hj]
theorem Mp.get_put (F:Mp V) (k:Bs) (v:V) (j:Bs):(F.put k v).get j=if k=j then some v else F.get j:=by
 unfold Mp.put
 rw [Mp.vH (k,v) j (F.del k) (fun p hp=>by simp [Mp.del] at hp;exact hp.2),Mp.vI]
 by_cases h:k=j
 ·simp [h]
 ·simp [h,Ne.symm h]
theorem Mp.jf (x:Bs×V):∀ F:Mp V,(Mp.ins x F).length=F.length+1
 | []=>rfl
 | y::r=>by
  unfold Mp.ins
  split
  ·rfl
  ·simp [Mp.jf x r]
theorem Mp.dB (F:Mp V) (k:Bs) (v:V):(F.put k v).length≤F.length+1:=by
 unfold Mp.put
 rw [Mp.jf]
 have:=List.length_filter_le (fun p:Bs×V => !(p.1 == k)) F
 unfold Mp.del
 omega
theorem Mp.nX {x p:Bs×V}:∀ {F:Mp V},p∈Mp.ins x F↔p=x∨p∈F
 | []=>by simp [Mp.ins]
 | y::r=>by
  unfold Mp.ins
  split
  ·simp
  ·simp only [List.mem_cons,Mp.nX (F:=r)]
   constructor
   ·rintro (h | h | h) <;> simp [h]
   ·rintro (h | h | h) <;> simp [h]
theorem Mp.tu {F:Mp V} {k:Bs} {v:V} {p:Bs×V}:p∈F.put k v↔p=(k,v)∨(p∈F∧p.1≠k):=by simp [Mp.put,Mp.nX,Mp.del]
def Mp.data (enc:V→Value) (F:Mp V):DataW Value:=.map (F.map fun p=>(Lit.string p.1,DataW.held (enc p.2)))
variable (enc:V→Value)
theorem Mp.lM (x:Bs×V):∀ F:Mp V,(Mp.ins x F).map (fun p=>(Lit.string p.1,DataW.held (enc p.2)))=DataW.insert (Lit.string x.1,DataW.held (enc x.2)) (F.map fun p=>(Lit.string p.1,DataW.held (enc p.2)))
 | []=>rfl
 | y::r=>by
  simp only [Mp.ins,List.map_cons,DataW.insert]
  have:(Lit.string x.1).before (Lit.string y.1)=bytesBefore x.1 y.1:=rfl
  rw [this]
  split
  ·rfl
  ·rw [List.map_cons,Mp.lM x r]
theorem Mp.ry (F:Mp V) (k:Bs) (v:V):(F.data enc).put (.string k) (.held (enc v))=(F.put k v).data enc:=by
 simp only [Mp.put,Mp.data,DataW.put,Mp.lM]
 congr 2
 simp only [Mp.del,List.filter_map]
 rfl
theorem Mp.ni (F:Mp V) (k:Bs):Maps.has (F.data enc) (.string k)=F.has k:=by
 simp only [Mp.data,Maps.has,Mp.has,List.any_map]
 rfl
theorem Mp.mW (F:Mp V):Maps.size (F.data enc)=F.length:=by simp [Mp.data,Maps.size]
theorem Mp.nU (F:Mp V) (k:Bs) (z:Value):(F.data enc).atKey (.string k) (.held z)=.held (((F.get k).map enc).getD z):=by
 simp only [Mp.data,DataW.atKey,Mp.get,List.find?_map]
 have e:((fun p:Lit×DataW Value=>p.1.sameKey (Lit.string k))∘fun p:Bs×V=>(Lit.string p.1,DataW.held (enc p.2)))=fun p=>p.1 == k:=rfl
 rw [e]
 cases F.find? fun p=>p.1 == k <;> rfl
end
def fJ (v:Value):Option (DataW Value×List MemPlace):=some (.held v,[])
def MapOf {V:Type} (P:Program) (k:TypeId) (enc:V→Value) (w:World) (b:Nat) (F:Mp V):Prop:=w.ownsMap P k fJ b F.length (F.data enc)
section
variable {V:Type} {enc:V→Value} {P:Program} {t k e:TypeId} {w w2:World} {b:Nat} {F:Mp V}
theorem MapOf.tight {n:Nat} (h:w.ownsMap P k fJ b n (F.data enc)):MapOf P k enc w b F:=by
 obtain ⟨es,clock,hb,Ft,hs,hD⟩:=h
 refine ⟨es,clock,hb,Ft,?_,hD⟩
 have h1:=congrArg Maps.size hD
 rw [Mp.mW] at h1
 simp only [Maps.size,length_sorted,List.length_map,Array.length_toList] at h1
 omega
theorem MapOf.lt (h:MapOf P k enc w b F):b<w.heap.size:=World.ownsMap.lt h
theorem MapOf.ext {G:List Nat} (h:MapOf P k enc w b F) (hx:Ext G w w2) (hb:b∉G):MapOf P k enc w2 b F:=by
 obtain ⟨es,clock,hh,rest⟩:=h
 exact ⟨es,clock,hx.heap hh hb,rest⟩
theorem MapOf.made (w:World):MapOf (V:=V) P k enc (w.alloc (.map #[] 0)) w.heap.size []:=World.ownsMap_made w P k fJ
theorem MapOf.look (h:MapOf P k enc w b F) (hk:Keyed P k) (ht:P.underlying t=some (.map k e)) {z:Value} (hz:(zeroValue e).run P w=.ok z w)
  {key:Value} {x:Bs} (hx:keyOf P k key=some (.string x)):(Instr.lookup t (.map (some b)) key false).run P w=.ok (((F.get x).map enc).getD z) w:=by
 obtain ⟨v,ps,hrun,hv⟩:=World.ownsMap.lookup h hk ht hz (zd:=.held z) (zp:=[]) rfl hx
 rw [Mp.nU] at hv
 simp only [fJ,Option.some.injEq,Prod.mk.injEq,DataW.held.injEq] at hv
 rw [hrun,hv.1]
theorem MapOf.ou (h:MapOf P k enc w b F) (hk:Keyed P k) (ht:P.underlying t=some (.map k e)) {z:Value} (hz:(zeroValue e).run P w=.ok z w)
  {key:Value} {x:Bs} (hx:keyOf P k key=some (.string x)):(Instr.lookup t (.map (some b)) key true).run P w=.ok (.tuple #[((F.get x).map enc).getD z,.bool (F.has x)]) w:=by
 obtain ⟨v,ps,hrun,hv⟩:=World.ownsMap.look_ok h hk ht hz (zd:=.held z) (zp:=[]) rfl hx
 rw [Mp.nU] at hv
 simp only [fJ,Option.some.injEq,Prod.mk.injEq,DataW.held.injEq] at hv
 rw [Mp.ni] at hrun
 rw [hrun,hv.1]
theorem MapOf.update (h:MapOf P k enc w b F) (hk:Keyed P k) (ht:P.underlying t=some (.map k e)) (hn:F.length<maxLen)
  {key:Value} {x:Bs} (hx:keyOf P k key=some (.string x)) (v:V) :
  ∃ w2,(Instr.mapUpdate t (.map (some b)) key (enc v)).run P w=.ok () w2∧MapOf P k enc w2 b (F.put x v)∧Ext [b] w w2∧w2.heap.size=w.heap.size:=by
 obtain ⟨w2,hrun,h2,ht2⟩:=World.ownsMap.store h hk ht hn hx (val:=enc v) (d:=.held (enc v)) (ps:=[]) rfl
 simp only [Mp.ry] at h2
 exact ⟨w2,hrun,MapOf.tight h2,kP ht2⟩
end
theorem Ck {V:Type}:∀ {F:Mp V},(F.Pairwise fun p q=>bytesBefore p.1 q.1=true)→F.Pairwise fun p q=>p.1≠q.1
 | [],_=>List.Pairwise.nil
 | x::r,h=>by
  rw [List.pairwise_cons] at h ⊢
  exact ⟨fun p hp e=>(by have:=h.1 p hp;rw [e,uD] at this;exact Bool.noConfusion this),Ck h.2⟩
end
section
structure dK where
 key:Bs
 ceil:Nat
def dK.text (x:dK):Bs:=aN (aN x.key++bJ x.ceil)
def iZ (s:Bs):dK×Bool :=
 let a:=Rd.text ⟨s,false⟩ 300
 let b:=a.2.num 1099511627776
 (⟨a.1,b.1⟩,decide (b.2.done=0))
def Ab (n:Nat):Bs:=[0,0,0,0]++dx n 8
structure pO where
 c:Nat
 ceil:Nat
end
section
open Go.RowKit
section
variable {w0 w:World} {F0:List Nat} {L:List aT} {v:Value}
theorem Ext.setRow {F:List Nat} {w w2:World} (h:Ext F w w2) {g:Nat} (hg:g∈F∨w.heap.size≤g) (c:Array Value):Ext F w (w2.setRow g c) :=
 ⟨h.1,h.2,h.3,by simpa using h.4,fun k hk Xy=>by rw [setRow_other w2 g k c (fun e=>by subst e;rcases hg with hg | hg;exact Xy hg;omega)];exact h.5 k hk Xy⟩
theorem Sp.setRow {b:Nat} {c:Array Value} {T:TypeId} (h:Sp w0 F0 w (ae b c T::L)) (c':Array Value):Sp w0 F0 (w.setRow b c') (ae b c' T::L):=by
 obtain ⟨F,⟨rfl,h1⟩,h2⟩:=h.take
 exact h2 _ _ [b] ⟨rfl,setRow_heap w b c c' T (0,0) h1⟩ (cB.iV ((Ext.refl _ w).setRow (by simp) c'))
theorem eX {P:Program} {ops:Array Oper} {rest:List Oper} {o:Oper} {a:Act} {w:World} {Q:Exit→Act→World→Prop} (hg:o.guard=none) (t:TypeId) (parts:Array (Nat×Operand)) (ho:o.op=.build t parts) (cells:Array Value)
  (hc:P.built t (parts.map fun (i,x)=>(i,a.eval x)).toList=some cells) (h:wpList P ops Q rest (a.put o.dst (.agg cells)) w):wpList P ops Q (o::rest) a w :=
 wpList_build hg t parts ho (by rw [hc];rfl) (by rw [hc];exact h)
theorem Calls.Zb {Pg:Program} {f:FuncId} {args:Array Value} {P:Ending→Prop} (h:Calls Pg f args w fun e w2=>P e∧Ext [] w w2) (S:Sp w0 F0 w L):Calls Pg f args w fun e w2=>P e∧Sp w0 F0 w2 L :=
 h.mono fun _ _ ⟨he,hx⟩=>⟨he,S.iq hx⟩
end
end
section
open Go.RowKit
section
variable {P:Program} {ops:Array Oper} {Q:Exit→Act→World→Prop}
def Ac (ops:Array Oper):Bool:=(List.range ops.size).all fun i=>match ops[i]? with | none=>true | some o=>o.after.all fun e => !Region.binds .any e || decide (e.on<i)
theorem ym (h:Ac ops=true) {i:Nat} {o:Oper} (ho:ops[i]? = some o):∀ e∈o.after,Region.binds .any e=true→e.on<i:=by
 intro e he hb
 unfold Ac at h
 have hi:i<ops.size:=(Array.getElem?_eq_some_iff.1 ho).1
 have h1:=(List.all_eq_true.1 h) i (List.mem_range.2 hi)
 rw [ho] at h1
 simp only at h1
 have h2:=(Array.all_eq_true_iff_forall_mem.1 h1) e he
 rw [hb] at h2
 simpa using h2
theorem LU (hb:Ac ops=true) (I:(Nat→Bool)→Act→World→Prop)
  (hs:∀ (l:Nat→Bool) (a:Act) (w:World) (i:Nat) (o:Oper),I l a w→ops[i]? = some o→l i=false→(∀ e∈o.after,Region.binds .any e=true→l e.on=true)→Region.wanted o (yielded ops a.tmps)=true∧o.wp P a w (I fun j=>l j || j == i) Q)
  (he:∀ (l:Nat→Bool) (a:Act) (w:World),(∀ i,i<ops.size→l i=true)→I l a w→Q .normal a w) :
  ∀ (fuel:Nat) (listed:Array Bool) (a:Act) (w:World),listed.size=ops.size→(List.range ops.size).countP (fun i => !listed.getD i true)=fuel→I (fun j=>listed.getD j false) a w→wpAny P .any ops Q fuel listed a w:=by
 have hnil:∀ listed:Array Bool,listed.size=ops.size→Region.ready .any ops listed=[]→∀ i,i<ops.size→listed.getD i false=true:=by
  intro listed hsz hr i
  induction i using Nat.strongRecOn with
  | _ i ih =>
   intro hi
   cases hc:listed.getD i false with
   | true=>rfl
   | false =>
    exfalso
    have:i∈Region.ready .any ops listed:=mem_ready.2 ⟨hi,by rw [getD_lt (by omega)];exact hc,ops[i],Array.getElem?_eq_getElem hi,fun e he hb2=>by
     have hlt:=ym hb (Array.getElem?_eq_getElem hi) e he hb2
     exact ih e.on hlt (by omega)⟩
    rw [hr] at this
    cases this
 intro fuel
 induction fuel with
 | zero =>
  intro listed a w hsz hcnt hI
  have hl:∀ i,i<ops.size→listed.getD i false=true:=fun i hi=>by
   have:=List.countP_eq_zero.1 hcnt i (List.mem_range.2 hi)
   rw [getD_lt (by omega)] at this
   simpa using this
  refine ⟨?_,he _ a w hl hI⟩
  cases hr:Region.ready .any ops listed with
  | nil=>rfl
  | cons i r =>
   have:=mem_ready.1 (show i∈Region.ready .any ops listed by rw [hr];simp)
   rw [getD_lt (by omega),hl i this.1] at this
   cases this.2.1
 | succ fuel ih =>
  intro listed a w hsz hcnt hI
  refine ⟨fun hr=>he _ a w (hnil listed hsz hr) hI,fun i hi=>?_⟩
  obtain ⟨hin,hun,o,ho,hpre⟩:=mem_ready.1 hi
  have hun':listed.getD i false=false:=by rw [← getD_lt (by omega)];exact hun
  obtain ⟨hw,hk⟩:=hs _ a w i o hI ho hun' hpre
  unfold wpOp
  rw [ho]
  simp only [hw,if_true]
  refine .inl (Oper.wp_mono (fun a2 w2 h2=>?_) hk)
  refine ih _ a2 w2 (by simpa using hsz) ?_ ?_
  ·have:=lS (p:=fun j => !listed.getD j true) (q:=fun j => !(listed.setIfInBounds i true).getD j true) (i:=i) (by simp [hun]) (by
    simp only [Array.getD_eq_getD_getElem?,Array.getElem?_setIfInBounds_self_of_lt (show i<listed.size by omega)];rfl) (fun j hj=>by
    simp only [Array.getD_eq_getD_getElem?,Array.getElem?_setIfInBounds_ne (Ne.symm hj)]) (List.nodup_range (n:=ops.size)) (List.mem_range.2 hin)
   omega
  ·have e:(fun j=>(listed.setIfInBounds i true).getD j false)=fun j=>listed.getD j false || j == i:=by
    funext j
    exact je _ _ _ (by omega)
   rw [e]
   exact h2
theorem uJ {S:World→Prop} (hb:Ac ops=true) (I:(Nat→Bool)→Act→World→Prop)
  (hs:∀ (l:Nat→Bool) (a:Act) (w:World) (i:Nat) (o:Oper),I l a w→ops[i]? = some o→l i=false→(∀ e∈o.after,Region.binds .any e=true→l e.on=true)→Region.wanted o (yielded ops a.tmps)=true∧o.wp P a w (fun a2 w2=>S w2∧I (fun j=>l j || j == i) a2 w2) Q)
  (he:∀ (l:Nat→Bool) (a:Act) (w:World),(∀ i,i<ops.size→l i=true)→I l a w→Q .normal a w) :
  ∀ (fuel:Nat) (listed:Array Bool) (a:Act) (w:World),listed.size=ops.size→(List.range ops.size).countP (fun i => !listed.getD i true)=fuel→I (fun j=>listed.getD j false) a w→wpAnyH P .any ops Q S fuel listed a w:=by
 have hnil:∀ listed:Array Bool,listed.size=ops.size→Region.ready .any ops listed=[]→∀ i,i<ops.size→listed.getD i false=true:=by
  intro listed hsz hr i
  induction i using Nat.strongRecOn with
  | _ i ih =>
   intro hi
   cases hc:listed.getD i false with
   | true=>rfl
   | false =>
    exfalso
    have:i∈Region.ready .any ops listed:=mem_ready.2 ⟨hi,by rw [getD_lt (by omega)];exact hc,ops[i],Array.getElem?_eq_getElem hi,fun e he hb2=>by
     have hlt:=ym hb (Array.getElem?_eq_getElem hi) e he hb2
     exact ih e.on hlt (by omega)⟩
    rw [hr] at this
    cases this
 intro fuel
 induction fuel with
 | zero =>
  intro listed a w hsz hcnt hI
  have hl:∀ i,i<ops.size→listed.getD i false=true:=fun i hi=>by
   have:=List.countP_eq_zero.1 hcnt i (List.mem_range.2 hi)
   rw [getD_lt (by omega)] at this
   simpa using this
  refine ⟨?_,he _ a w hl hI⟩
  cases hr:Region.ready .any ops listed with
  | nil=>rfl
  | cons i r =>
   have:=mem_ready.1 (show i∈Region.ready .any ops listed by rw [hr];simp)
   rw [getD_lt (by omega),hl i this.1] at this
   cases this.2.1
 | succ fuel ih =>
  intro listed a w hsz hcnt hI
  refine ⟨fun hr=>he _ a w (hnil listed hsz hr) hI,fun i hi=>?_⟩
  obtain ⟨hin,hun,o,ho,hpre⟩:=mem_ready.1 hi
  have hun':listed.getD i false=false:=by rw [← getD_lt (by omega)];exact hun
  obtain ⟨hw,hk⟩:=hs _ a w i o hI ho hun' hpre
  unfold wpOp
  rw [ho]
  simp only [hw,if_true]
  refine .inl (Oper.wp_mono (fun a2 w2 h2=>⟨h2.1,?_⟩) hk)
  refine ih _ a2 w2 (by simpa using hsz) ?_ ?_
  ·have:=lS (p:=fun j => !listed.getD j true) (q:=fun j => !(listed.setIfInBounds i true).getD j true) (i:=i) (by simp [hun]) (by
    simp only [Array.getD_eq_getD_getElem?,Array.getElem?_setIfInBounds_self_of_lt (show i<listed.size by omega)];rfl) (fun j hj=>by
    simp only [Array.getD_eq_getD_getElem?,Array.getElem?_setIfInBounds_ne (Ne.symm hj)]) (List.nodup_range (n:=ops.size)) (List.mem_range.2 hin)
   omega
  ·have e:(fun j=>(listed.setIfInBounds i true).getD j false)=fun j=>listed.getD j false || j == i:=by
    funext j
    exact je _ _ _ (by omega)
   rw [e]
   exact h2.2
theorem uK {S:World→Prop} {fuel:Nat} {listed:Array Bool} {a:Act} {w:World} (h:∀ a0,a=a0→wpAnyH P .any ops Q S fuel listed a0 w):wpAnyH P .any ops Q S fuel listed a w:=h a rfl
theorem aI {S:World→Prop} {i:Nat} (d:Tmp) {oi:Oper} {v:Value} {fuel:Nat} {listed:Array Bool} {a:Act} {w:World} (hi:ops[i]? = some oi) (hd:oi.dst=some d)
  (hs:Region.noSelect ops=true) (hf:Region.free .any ops listed i=true) (hr:(Region.ready .any ops listed).contains i=true)
  (hQ:∀ c a w,Q (.panic c) (a.put (some d) v) w→Q (.panic c) a w) (hy:YieldsIf P ops S oi v a) (hS:S w)
  (h:wpAnyH P .any ops Q S fuel (listed.setIfInBounds i true) (a.put (some d) v) w):wpAnyH P .any ops Q S (fuel+1) listed a w :=
 wpAnyH_take hi hs hf hr (by rw [hd];exact hQ) hy hS (by rw [hd];exact h)
theorem fV (a:Act) (t:Tmp) (u v:Value):(a.put (some t) u).put (some t) v=a.put (some t) v:=by
 simp [Act.put]
theorem bA (a:Act) (s t:Tmp) (u v:Value) (h:s≠t):(a.put (some s) u).put (some t) v=(a.put (some t) v).put (some s) u:=by
 simp only [Act.put]
 congr 1
 exact Array.setIfInBounds_comm _ _ h
theorem fZ (a:Act) (t:Tmp) (h:t<a.tmps.size):a.put (some t) (a.tmps.getD t undef)=a:=by
 cases a with
 | mk tm df =>
  simp only [Act.put]
  congr 1
  apply Array.ext
  ·simp
  ·intro i h1 h2
   rw [Array.getElem_setIfInBounds]
   split
   ·rename_i e
    subst e
    simp [Array.getD,h2]
   ·rfl
theorem dM (a:Act) (t:Tmp) (v:Value) (h:t<a.tmps.size):(a.put (some t) v).eval (.tmp t)=v:=by
 have h':t<a.tmps.size:=h
 simp [Act.put,Act.eval,Array.getD,h']
theorem az (a:Act) (s t:Tmp) (v:Value) (h:s≠t):(a.put (some s) v).eval (.tmp t)=a.eval (.tmp t):=by
 show (a.tmps.setIfInBounds s v).getD t undef=a.tmps.getD t undef
 rw [Array.getD_eq_getD_getElem?,Array.getD_eq_getD_getElem?,Array.getElem?_setIfInBounds_ne h]
theorem kK (a:Act) (t:Option Tmp) (v:Value):(a.put t v).tmps.size=a.tmps.size:=by
 cases t <;> simp [Act.put]
theorem aj {l:Nat→Bool} {i y:Nat} (h:l y=true):(l y || y == i)=true:=by rw [h];rfl
theorem av {l:Nat→Bool} {i x:Nat} (hx:(x == i)=false) (h:(l x || x == i)=true):l x=true:=by rw [hx,Bool.or_false] at h;exact h
theorem kr {l:Nat→Bool} {i x y:Nat} {A:Nat→Prop} {M:List aT} (F:Bool→Nat→List aT) (hx:(x == i)=false) (hy:(y == i)=false) (h:(l x=true∧∃ g,A g∧M=F (l y) g)∨(l x=false∧M=[])):((l x || x == i)=true∧∃ g,A g∧M=F (l y || y == i) g)∨((l x || x == i)=false∧M=[]):=by
 rw [hx,hy,Bool.or_false,Bool.or_false]
 exact h
theorem BQ {id:Nat} {a:Act} {w:World} (hm:P.follows .mixedOrders=true) (hb:Ac ops=true) (I:(Nat→Bool)→Act→World→Prop) (h0:I (fun _=>false) a w.drew)
  (hs:∀ (l:Nat→Bool) (a:Act) (w:World) (i:Nat) (o:Oper),I l a w→ops[i]? = some o→l i=false→(∀ e∈o.after,Region.binds .any e=true→l e.on=true)→Region.wanted o (yielded ops a.tmps)=true∧o.wp P a w (I fun j=>l j || j == i) Q)
  (he:∀ (l:Nat→Bool) (a:Act) (w:World),(∀ i,i<ops.size→l i=true)→I l a w→Q .normal a w):(Code.region id ops true).wp P Q a w:=by
 refine wp_region_any hm (LU hb I hs he ops.size (Array.replicate ops.size false) a w.drew (by simp) ?_ ?_)
 ·rw [List.countP_eq_length.2]
  ·simp
  ·intro j hj
   have:=List.mem_range.1 hj
   simp [Array.getD_eq_getD_getElem?,this]
 ·have e:(fun j=>(Array.replicate ops.size false).getD j false)=fun _=>false:=by
   funext j
   simp only [Array.getD_eq_getD_getElem?,Array.getElem?_replicate]
   split <;> rfl
  rw [e]
  exact h0
end
end
end Go.Proofs.YtangbdahnmomlaaGreatDoor
