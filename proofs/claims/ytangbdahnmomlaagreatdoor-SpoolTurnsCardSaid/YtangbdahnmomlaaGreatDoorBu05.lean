/- A region whose order is drawn, walked in the text's order: each operation yields the same in every world that meets S, and leaves a world that -/
import Derived.Lib.Hide
import Derived.WalkKit
set_option linter.unnecessarySimpa false
set_option linter.unusedSimpArgs false
set_option linter.unusedVariables false
namespace Go.Proofs.YtangbdahnmomlaaGreatDoor
section
open Go.RowKit
section
variable {P:Program} {ops:Array Oper} {S:World→Prop} {Q:Exit→Act→World→Prop}
def Rs:Exit→Act→World→Prop:=fun _ _ _=>False
def yj (P:Program) (ops:Array Oper) (S:World→Prop) (o:Oper) (a a1:Act):Prop :=
 ∀ w,S w→∀ K:Act→World→Prop,Hid (∀ w',S w'→K a1 w')→if Region.wanted o (yielded ops a.tmps)=true then o.wp P a w K Rs else K (a.put o.dst undef) w
def Fp (P:Program) (ops:Array Oper) (S:World→Prop) (Q:Exit→Act→World→Prop):List Oper→Act→Prop
 | [],a=>∀ w,S w→Q .normal a w
 | o::rest,a=>∃ a1,yj P ops S o a a1∧a1.defers=a.defers∧Fp P ops S Q rest a1
def IE (ops:Array Oper):Bool :=
 Region.noSelect ops &&
 (List.range ops.size).all fun i=>match ops[i]? with
  | none=>true
  | some o=>o.after.all (fun e => !Region.binds .any e || decide (e.on<i)) &&
   (List.range ops.size).all fun j=>match ops[j]? with
    | none=>true
    | some u=>match u.dst with
     | none=>true
     | some t=>(i == j || o.dst != some t) &&
      (!(o.looksAt ops).contains t || (decide (j<i) && o.after.toList.any (fun e=>Region.binds .any e && e.on == j)) || (decide (i<j) && u.after.toList.any (fun e=>Region.binds .any e && e.on == i)))
theorem vF {a b:Act} {d:Option Tmp} {u v:Value} (hs:b.tmps.size=a.tmps.size) (h:a.put d u=a.put d v):b.put d u=b.put d v:=by
 cases d with
 | none=>rfl
 | some d =>
  simp only [Act.put,Act.mk.injEq,and_true] at h ⊢
  by_cases hd:d<a.tmps.size
  ·have h1:=congrArg (·[d]?) h
   simp only [Array.getElem?_setIfInBounds_self_of_lt hd,Option.some.injEq] at h1
   rw [h1]
  ·have e:∀ x,b.tmps.setIfInBounds d x=b.tmps:=fun x=>by
    unfold Array.setIfInBounds
    rw [dif_neg (by rw [hs];exact hd)]
   rw [e,e]
theorem put_defers (a:Act) (d:Option Tmp) (v:Value):(a.put d v).defers=a.defers:=by cases d <;> rfl
theorem Oj (a:Act) (d:Option Tmp) (v:Value):(a.put d v).tmps.size=a.tmps.size:=by cases d <;> simp [Act.put]
theorem yj.value {o:Oper} {a a1:Act} (h:yj P ops S o a a1) (hd:a1.defers=a.defers) {w:World} (hw:S w):∃ v,a1=a.put o.dst v:=by
 have h1:=h w hw (fun a' _=>a'=a1) (fun _ _=>rfl)
 split at h1
 ·unfold Oper.wp at h1
  generalize (execOp a.eval o).run P w=r at h1
  cases r with
  | ok n w' =>
   cases n <;> simp only [Oper.upon] at h1
   case value u=>exact ⟨u,h1.symm⟩
   case skip=>exact ⟨_,h1.symm⟩
   case defer d =>
    rw [← h1,put_defers] at hd
    simp at hd
   case enter f args =>
    obtain ⟨e,w2,fr,hr,_⟩:=h1 []
    cases e with
    | returned u=>exact ⟨u,hr.symm⟩
    | panicked c=>exact hr.elim
    | outgrown=>obtain ⟨_,_,hq⟩:=hr;exact hq.elim
   case row r args =>
    obtain ⟨v,w2,hr,_⟩:=h1 default []
    exact ⟨v,hr.symm⟩
  | halt x w'=>cases x <;> simp only [Oper.upon] at h1 <;> exact h1.elim
 ·exact ⟨undef,h1.symm⟩
theorem yj.at {o:Oper} {a b:Act} {v:Value} {i:Nat} (h:yj P ops S o a (a.put o.dst v)) (hi:ops[i]? = some o) (hns:∀ cs b,o.op≠.select cs b) (hs:b.tmps.size=a.tmps.size)
  (hev:∀ x∈o.op.operands,b.eval x=a.eval x) (Za:Region.wanted o (yielded ops b.tmps)=Region.wanted o (yielded ops a.tmps)) {w:World} (hw:S w) {K:Act→World→Prop}
  (hK:∀ w',S w'→K (b.put o.dst v) w'):wpOp P ops Q i K b w:=by
 have h1:=h w hw (fun a' w'=>a'=a.put o.dst v∧S w') (fun w' hw'=>⟨rfl,hw'⟩)
 unfold wpOp
 simp only [hi,Za]
 by_cases hwt:Region.wanted o (yielded ops a.tmps)=true
 ·rw [if_pos hwt] at h1
  rw [if_pos hwt]
  left
  unfold Oper.wp at h1 ⊢
  rw [execOp_congr o hns hev]
  generalize (execOp a.eval o).run P w=r at h1
  cases r with
  | ok n w' =>
   cases n <;> simp only [Oper.upon] at h1 ⊢
   case value u=>rw [vF hs h1.1];exact hK _ h1.2
   case skip=>rw [vF hs h1.1];exact hK _ h1.2
   case defer d =>
    have:=congrArg Act.defers h1.1
    rw [put_defers,put_defers] at this
    simp at this
   case enter f args =>
    refine Calls.mono h1 fun e w2 he=>?_
    cases e with
    | returned u =>
     have he2:a.put o.dst u=a.put o.dst v∧S w2:=he
     show K (b.put o.dst u) w2
     rw [vF hs he2.1]
     exact hK _ he2.2
    | panicked c=>exact he.elim
    | outgrown=>obtain ⟨_,_,hq⟩:=he;exact hq.elim
   case row r args=>exact Rows.mono h1 fun u w2 he=>by rw [vF hs he.1];exact hK _ he.2
  | halt x w'=>cases x <;> simp only [Oper.upon] at h1 ⊢ <;> exact h1.elim
 ·rw [if_neg hwt] at h1
  rw [if_neg hwt]
  rw [vF hs h1.1]
  exact hK _ h1.2
structure Matches (ops:Array Oper) (vs:Nat→Value) (a:Act) (T:Nat→Bool) (f:Act):Prop where
 defers:f.defers=a.defers
 size:f.tmps.size=a.tmps.size
 done:∀ t j o,T j=true→ops[j]? = some o→o.dst=some t→t<a.tmps.size→f.tmps[t]? = some (vs j)
 left:∀ t,(∀ j o,T j=true→ops[j]? = some o→o.dst≠some t)→f.tmps[t]? = a.tmps[t]?
theorem Matches.start (vs:Nat→Value) (a:Act):Matches ops vs a (fun _=>false) a:=⟨rfl,rfl,(by simp),fun _ _=>rfl⟩
theorem Matches.put {vs:Nat→Value} {a f:Act} {T U:Nat→Bool} {i:Nat} {o:Oper} (h:Matches ops vs a T f) (hi:ops[i]? = some o) (hU:∀ j,U j=(T j || j == i))
  (hd:∀ j u t,j≠i→ops[j]? = some u→u.dst=some t→o.dst≠some t):Matches ops vs a U (f.put o.dst (vs i)):=by
 refine ⟨by rw [put_defers,h.defers],by rw [Oj,h.size],?_,?_⟩
 ·intro t j u hj hu hut ht
  rw [hU] at hj
  by_cases hji:j=i
  ·subst hji
   rw [hi] at hu
   cases hu
   rw [hut]
   simp only [Act.put]
   rw [Array.getElem?_setIfInBounds_self_of_lt (by rw [h.size];exact ht)]
  ·have hT:T j=true:=by simpa [hji] using hj
   have hne:=hd j u t hji hu hut
   have h1:=h.done t j u hT hu hut ht
   cases hod:o.dst with
   | none=>exact h1
   | some d =>
    have:d≠t:=fun e=>hne (by rw [hod,e])
    simp only [Act.put]
    rw [Array.getElem?_setIfInBounds_ne this]
    exact h1
 ·intro t ht
  have h1:=h.left t (fun j u hj hu=>ht j u (by rw [hU,hj];rfl) hu)
  have hne:=ht i o (by rw [hU];simp) hi
  cases hod:o.dst with
  | none=>exact h1
  | some d =>
   have:d≠t:=fun e=>hne (by rw [hod,e])
   simp only [Act.put]
   rw [Array.getElem?_setIfInBounds_ne this]
   exact h1
theorem Matches.agree {vs:Nat→Value} {a f g:Act} {T U:Nat→Bool} (h:Matches ops vs a T f) (k:Matches ops vs a U g) {t:Tmp} (ht:∀ j o,ops[j]? = some o→o.dst=some t→T j=U j):f.tmps[t]? = g.tmps[t]?:=by
 by_cases hlt:t<a.tmps.size
 ·by_cases hex:∃ j o,T j=true∧ops[j]? = some o∧o.dst=some t
  ·obtain ⟨j,o,h1,h2,h3⟩:=hex
   rw [h.done t j o h1 h2 h3 hlt,k.done t j o (by rw [← ht j o h2 h3];exact h1) h2 h3 hlt]
  ·rw [h.left t (fun j o h1 h2 h3=>hex ⟨j,o,h1,h2,h3⟩),k.left t (fun j o h1 h2 h3=>hex ⟨j,o,by rw [ht j o h2 h3];exact h1,h2,h3⟩)]
 ·rw [Array.getElem?_eq_none (Nat.le_of_not_lt (by rw [h.size];exact hlt)),Array.getElem?_eq_none (Nat.le_of_not_lt (by rw [k.size];exact hlt))]
theorem Matches.eq {vs:Nat→Value} {a f g:Act} {T:Nat→Bool} (h:Matches ops vs a T f) (k:Matches ops vs a T g):f=g:=by
 obtain ⟨ft,fd⟩:=f
 obtain ⟨gt,gd⟩:=g
 have e1:fd=gd:=h.defers.trans k.defers.symm
 have e2:ft=gt:=by
  apply Array.ext_getElem?
  intro t
  exact h.agree k (fun _ _ _ _=>rfl)
 rw [e1,e2]
theorem lS {p q:Nat→Bool} {i:Nat} (hp:p i=true) (hq:q i=false) (he:∀ j,j≠i→q j=p j):∀ {l:List Nat},l.Nodup→i∈l→l.countP p=l.countP q+1
 | [],_,h=>by cases h
 | x::l,hn,h=>by
  rw [List.nodup_cons] at hn
  rw [List.countP_cons,List.countP_cons]
  by_cases hx:x=i
  ·subst hx
   have:l.countP p=l.countP q:=List.countP_congr fun j hj=>by rw [he j (fun e=>hn.1 (e ▸ hj))]
   rw [if_pos hp,if_neg (by simp [hq]),this]
  ·have h1:=lS hp hq he hn.2 ((List.mem_cons.1 h).resolve_left (fun e=>hx e.symm))
   rw [he x hx,h1]
   omega
def Closed (ops:Array Oper) (listed:Array Bool):Prop:=∀ (j:Nat) (o:Oper),ops[j]? = some o→listed.getD j false=true→∀ e∈o.after,Region.binds .any e=true→listed.getD e.on false=true
theorem je (l:Array Bool) (i j:Nat) (hi:i<l.size):(l.setIfInBounds i true).getD j false=(l.getD j false || j == i):=by
 simp only [Array.getD_eq_getD_getElem?]
 by_cases h:i=j
 ·subst h
  rw [Array.getElem?_setIfInBounds_self_of_lt hi]
  simp
 ·rw [Array.getElem?_setIfInBounds_ne h]
  have:(j == i)=false:=by simpa using Ne.symm h
  simp [this]
theorem getD_lt {l:Array Bool} {j:Nat} (h:j<l.size):l.getD j true=l.getD j false:=by
 simp only [Array.getD_eq_getD_getElem?,Array.getElem?_eq_getElem h]
 rfl
theorem mem_ready {listed:Array Bool} {i:Nat}:i∈Region.ready .any ops listed↔i<ops.size∧listed.getD i true=false∧∃ o,ops[i]? = some o∧∀ e∈o.after,Region.binds .any e=true→listed.getD e.on false=true:=by
 unfold Region.ready
 rw [List.mem_filter,List.mem_range,Bool.and_eq_true,Bool.not_eq_true']
 refine and_congr_right fun hi=>and_congr_right fun _=>?_
 rw [Array.getElem?_eq_getElem hi]
 simp only [Option.map_some,Option.getD_some,Array.all_eq_true_iff_forall_mem,Bool.or_eq_true,Bool.not_eq_true',Option.some.injEq,exists_eq_left']
 refine forall_congr' fun e=>forall_congr' fun _=>?_
 cases Region.binds .any e <;> simp
structure IG (ops:Array Oper):Prop where
 back:∀ (i:Nat) (o:Oper),ops[i]? = some o→∀ e∈o.after,Region.binds .any e=true→e.on<i
 one:∀ (i j:Nat) (o u:Oper) (t:Tmp),j≠i→ops[i]? = some o→ops[j]? = some u→u.dst=some t→o.dst≠some t
 looks:∀ (i j:Nat) (o u:Oper) (t:Tmp),ops[i]? = some o→ops[j]? = some u→u.dst=some t→t∈o.looksAt ops→(j<i∧∃ e∈o.after,Region.binds .any e=true∧e.on=j)∨(i<j∧∃ e∈u.after,Region.binds .any e=true∧e.on=i)
 Kl:Region.noSelect ops=true
theorem Fq (h:IE ops=true):IG ops:=by
 unfold IE at h
 rw [Bool.and_eq_true,List.all_eq_true] at h
 obtain ⟨h0,h⟩:=h
 have hi:∀ (i:Nat) (o:Oper),ops[i]? = some o→_:=fun i o ho=>by
  have:=h i (List.mem_range.2 (Array.getElem?_eq_some_iff.1 ho).1)
  rw [ho] at this
  simp only [Bool.and_eq_true,List.all_eq_true] at this
  exact this
 have hj:∀ (i j:Nat) (o u:Oper) (t:Tmp),ops[i]? = some o→ops[j]? = some u→u.dst=some t→_:=fun i j o u t ho hu ht=>by
  have:=(hi i o ho).2 j (List.mem_range.2 (Array.getElem?_eq_some_iff.1 hu).1)
  simp only [hu,ht,Bool.and_eq_true,Bool.or_eq_true,beq_iff_eq,bne_iff_ne,Bool.not_eq_true',decide_eq_true_eq,List.any_eq_true,Array.mem_toList_iff] at this
  exact this
 refine ⟨fun i o ho e he hb=>?_,fun i j o u t hji ho hu ht=>?_,fun i j o u t ho hu ht hl=>?_,h0⟩
 ·have:=(hi i o ho).1
  rw [Array.all_eq_true_iff_forall_mem] at this
  have:=this e he
  simpa [hb] using this
 ·exact (hj i j o u t ho hu ht).1.resolve_left (fun e=>hji e.symm)
 ·rcases (hj i j o u t ho hu ht).2 with (h1 | h1) | h1
  ·simp at h1
   exact absurd hl h1
  ·obtain ⟨a,e,he,hb,hon⟩:=h1
   exact .inl ⟨a,e,he,hb,hon⟩
  ·obtain ⟨a,e,he,hb,hon⟩:=h1
   exact .inr ⟨a,e,he,hb,hon⟩
theorem Fp.parts:∀ {L:List Oper} {a:Act},Fp P ops S Q L a→(∃ w,S w)→∃ vs:List Value,vs.length=L.length ∧
  (∀ i (o:Oper),L[i]? = some o→∃ v,vs[i]? = some v∧yj P ops S o (((L.take i).zip vs).foldl (fun a p=>a.put p.1.dst p.2) a) ((((L.take i).zip vs).foldl (fun a p=>a.put p.1.dst p.2) a).put o.dst v)) ∧
  ∀ w,S w→Q .normal ((L.zip vs).foldl (fun a p=>a.put p.1.dst p.2) a) w
 | [],a,h,_=>⟨[],rfl,by simp,h⟩
 | o::L,a,⟨a1,h1,hd,h2⟩,hw=>by
  obtain ⟨w,hw'⟩:=hw
  obtain ⟨v,rfl⟩:=h1.value hd hw'
  obtain ⟨vs,e1,e2,e3⟩:=Fp.parts h2 ⟨w,hw'⟩
  refine ⟨v::vs,by simp [e1],fun i u hu=>?_,e3⟩
  cases i with
  | zero =>
   simp only [List.getElem?_cons_zero,Option.some.injEq] at hu
   subst hu
   exact ⟨v,rfl,h1⟩
  | succ i =>
   simp only [List.getElem?_cons_succ] at hu
   obtain ⟨x,hx,hs⟩:=e2 i u hu
   exact ⟨x,by simpa using hx,hs⟩
theorem pK {o:Oper} {f g:Act} (h:∀ t∈o.looksAt ops,f.tmps[t]? = g.tmps[t]?):Region.wanted o (yielded ops f.tmps)=Region.wanted o (yielded ops g.tmps):=by
 unfold Region.wanted
 cases hg:o.guard with
 | none=>rfl
 | some gw =>
  obtain ⟨g0,want⟩:=gw
  simp only
  have:yielded ops f.tmps g0=yielded ops g.tmps g0:=by
   unfold yielded
   cases ht:(ops[g0]?).bind (·.dst) with
   | none=>rfl
   | some t=>simp only [Option.bind_some];rw [h t (by simp [Oper.looksAt,hg,ht])]
  rw [this]
theorem uH {o:Oper} {f g:Act} (h:∀ t∈o.looksAt ops,f.tmps[t]? = g.tmps[t]?):∀ x∈o.op.operands,f.eval x=g.eval x:=by
 intro x hx
 cases x with
 | tmp t =>
  have:=h t (List.mem_append_left _ (List.mem_filterMap.2 ⟨.tmp t,by simpa using hx,rfl⟩))
  simp only [Act.eval,Array.getD_eq_getD_getElem?,this]
 | _=>rfl
theorem II (hok:IG ops) {a:Act} {vs:List Value}
  (hstep:∀ i (o:Oper),ops[i]? = some o→∃ v,vs[i]? = some v∧∃ f,Matches ops (fun j=>vs.getD j undef) a (fun j=>decide (j<i)) f∧yj P ops S o f (f.put o.dst v))
  (hend:∃ f,Matches ops (fun j=>vs.getD j undef) a (fun j=>decide (j<ops.size)) f∧∀ w,S w→Q .normal f w) :
  ∀ (fuel:Nat) (listed:Array Bool) (f:Act) (w:World),listed.size=ops.size→Closed ops listed→(List.range ops.size).countP (fun i => !listed.getD i true)=fuel →
   Matches ops (fun j=>vs.getD j undef) a (fun j=>listed.getD j false) f→S w→wpAny P .any ops Q fuel listed f w:=by
 have hall:∀ (listed:Array Bool) (f:Act) (w:World),listed.size=ops.size→(∀ i,i<ops.size→listed.getD i false=true)→Matches ops (fun j=>vs.getD j undef) a (fun j=>listed.getD j false) f→S w→Q .normal f w:=by
  intro listed f w hsz hl hm hw
  obtain ⟨g,hg,hq⟩:=hend
  have:f=g:=by
   refine Matches.eq hm ⟨hg.defers,hg.size,fun t j o hj=>hg.done t j o ?_,fun t ht=>hg.left t fun j o hj ho=>ht j o ?_ ho⟩
   ·by_cases hjn:j<ops.size
    ·simpa using hjn
    ·simp only [Array.getD_eq_getD_getElem?,Array.getElem?_eq_none (show listed.size≤j by omega)] at hj
     cases hj
   ·exact hl j (by simpa using hj)
  rw [this]
  exact hq w hw
 have hnil:∀ listed:Array Bool,listed.size=ops.size→Region.ready .any ops listed=[]→∀ i,i<ops.size→listed.getD i false=true:=by
  intro listed hsz hr i
  induction i using Nat.strongRecOn with
  | _ i ih =>
   intro hi
   cases hc:listed.getD i false with
   | true=>rfl
   | false =>
    exfalso
    have:i∈Region.ready .any ops listed:=mem_ready.2 ⟨hi,by rw [getD_lt (by omega)];exact hc,ops[i],Array.getElem?_eq_getElem hi,fun e he hb=>by
     have:=hok.back i ops[i] (Array.getElem?_eq_getElem hi) e he hb
     exact ih e.on this (by omega)⟩
    rw [hr] at this
    cases this
 intro fuel
 induction fuel with
 | zero =>
  intro listed f w hsz hcl hcnt hm hw
  have hl:∀ i,i<ops.size→listed.getD i false=true:=fun i hi=>by
   have:=List.countP_eq_zero.1 hcnt i (List.mem_range.2 hi)
   rw [getD_lt (by omega)] at this
   simpa using this
  refine ⟨?_,hall listed f w hsz hl hm hw⟩
  cases hr:Region.ready .any ops listed with
  | nil=>rfl
  | cons i r =>
   have:=mem_ready.1 (show i∈Region.ready .any ops listed by rw [hr];simp)
   rw [getD_lt (by omega),hl i this.1] at this
   cases this.2.1
 | succ fuel ih =>
  intro listed f w hsz hcl hcnt hm hw
  refine ⟨fun hr=>hall listed f w hsz (hnil listed hsz hr) hm hw,fun i hi=>?_⟩
  obtain ⟨hlt,hun,o,ho,hpre⟩:=mem_ready.1 hi
  have hun':listed.getD i false=false:=by rw [← getD_lt (by omega)];exact hun
  obtain ⟨v,hv,g,hg,hst⟩:=hstep i o ho
  have hvd:vs.getD i undef=v:=by rw [List.getD_eq_getElem?_getD,hv];rfl
  have uI:∀ t∈o.looksAt ops,f.tmps[t]? = g.tmps[t]?:=fun t ht=>hm.agree hg fun j u hu hut=>by
   rcases hok.looks i j o u t ho hu hut ht with ⟨hji,e,he,hb,rfl⟩ | ⟨hij,e,he,hb,rfl⟩
   ·rw [hpre e he hb];simpa using hji
   ·have:listed.getD j false=false:=by
     cases hc:listed.getD j false with
     | false=>rfl
     | true=>have:=hcl j u hu hc e he hb;rw [hun'] at this;cases this
    rw [this]
    simp
    omega
  have hgs:f.tmps.size=g.tmps.size:=hm.size.trans hg.size.symm
  refine hst.at ho (Region.noSelect_spec hok.Kl i o · · ho) hgs (uH uI) (pK uI) hw fun w' hw'=>?_
  refine ih (listed.setIfInBounds i true) (f.put o.dst v) w' (by simpa using hsz) ?_ ?_ ?_ hw'
  ·intro j u hu hj e he hb
   rw [je _ _ _ (by omega)] at hj ⊢
   by_cases hji:j=i
   ·subst hji
    rw [ho] at hu
    cases hu
    rw [hpre e he hb]
    rfl
   ·have:listed.getD j false=true:=by simpa [hji] using hj
    rw [hcl j u hu this e he hb]
    rfl
  ·have:=lS (p:=fun j => !listed.getD j true) (q:=fun j => !(listed.setIfInBounds i true).getD j true) (i:=i) (by simp [hun]) (by
    simp only [Array.getD_eq_getD_getElem?,Array.getElem?_setIfInBounds_self_of_lt (show i<listed.size by omega)];rfl) (fun j hj=>by
    simp only [Array.getD_eq_getD_getElem?,Array.getElem?_setIfInBounds_ne (Ne.symm hj)]) (List.nodup_range (n:=ops.size)) (List.mem_range.2 hlt)
   omega
  ·rw [← hvd]
   exact hm.put ho (fun j=>je _ _ _ (by omega)) (fun j u t hji hu hut=>hok.one i j o u t hji ho hu hut)
theorem Fu:∀ (L:List Oper) (o:Oper) (vs:List Value),L.length<vs.length→(L++[o]).zip vs=L.zip vs++[(o,vs.getD L.length undef)]
 | [],o,[],h=>by simp at h
 | [],o,v::vs,_=>by simp
 | x::L,o,[],h=>by simp at h
 | x::L,o,v::vs,h=>by
  have:=Fu L o vs (by simpa using h)
  simp only [List.cons_append,List.zip_cons_cons,this,List.length_cons]
  rfl
theorem ug (hok:IG ops) {a:Act} {vs:List Value} (hlen:vs.length=ops.size):∀ i,i≤ops.size→Matches ops (fun j=>vs.getD j undef) a (fun j=>decide (j<i)) (((ops.toList.take i).zip vs).foldl (fun a p=>a.put p.1.dst p.2) a):=by
 intro i
 induction i with
 | zero=>intro _;simpa using Matches.start _ a
 | succ i ih =>
  intro hi
  have hlt:i<ops.size:=by omega
  have h1:=ih (by omega)
  have e1:ops.toList.take (i+1)=ops.toList.take i++[ops[i]]:=by
   rw [List.take_succ_eq_append_getElem (by simpa using hlt)]
   simp
  have e2:(ops.toList.take i++[ops[i]]).zip vs=(ops.toList.take i).zip vs++[(ops[i],vs.getD i undef)]:=by
   have h2:=Fu (ops.toList.take i) ops[i] vs (by simp;omega)
   have h3:(ops.toList.take i).length=i:=by simp;omega
   rw [h3] at h2
   exact h2
  rw [e1,e2,List.foldl_append]
  exact h1.put (i:=i) (o:=ops[i]) (Array.getElem?_eq_getElem hlt) (fun j=>by rw [Bool.eq_iff_iff];simp;omega) (fun j u t hji hu hut=>hok.one i j ops[i] u t hji (Array.getElem?_eq_getElem hlt) hu hut)
theorem au {id:Nat} {a:Act} {w:World} (hm:P.follows .mixedOrders=true) (hok:IE ops=true) (hS:S w.drew) (h:Fp P ops S Q ops.toList a):(Code.region id ops true).wp P Q a w:=by
 have hk:=Fq hok
 obtain ⟨vs,e1,e2,e3⟩:=h.parts ⟨_,hS⟩
 have hlen:vs.length=ops.size:=by simpa using e1
 refine wp_region_any hm (II (a:=a) (vs:=vs) hk (fun i o ho=>?_) ?_ ops.size (Array.replicate ops.size false) a w.drew (by simp) ?_ ?_ ?_ hS)
 ·have hi:i<ops.size:=(Array.getElem?_eq_some_iff.1 ho).1
  obtain ⟨v,hv,hs⟩:=e2 i o (by simpa using ho)
  exact ⟨v,hv,_,ug hk hlen i (by omega),hs⟩
 ·have:=ug (a:=a) hk hlen ops.size (Nat.le_refl _)
  rw [List.take_of_length_le (by simp)] at this
  exact ⟨_,this,e3⟩
 ·intro j o ho hj
  simp only [Array.getD_eq_getD_getElem?,Array.getElem?_replicate] at hj
  split at hj <;> cases hj
 ·rw [List.countP_eq_length.2]
  ·simp
  ·intro i hi
   have:=List.mem_range.1 hi
   simp [Array.getD_eq_getD_getElem?,this]
 ·have:(fun j=>(Array.replicate ops.size false).getD j false)=fun _=>false:=by
   funext j
   simp [Array.getD_eq_getD_getElem?,Array.getElem?_replicate]
   split <;> rfl
  rw [this]
  exact Matches.start _ a
theorem ag {b:Bool} {p q:Prop} (h:b=true) (hp:p):if b=true then p else q:=by rw [if_pos h];exact hp
theorem ah {b:Bool} {p q:Prop} (h:b=false) (hq:q):if b=true then p else q:=by rw [if_neg (by simp [h])];exact hq
end
end
section
open Go.RowKit
section
variable {P:Program} {ops:Array Oper} {Q:Exit→Act→World→Prop}
def rC (P:Program) (ops:Array Oper) (S:World→Prop) (o:Oper) (a a1:Act):Prop :=
 ∀ w,S w→∀ K:Act→World→Prop,Hid (K a1 w)→if Region.wanted o (yielded ops a.tmps)=true then o.wp P a w K Rs else K (a.put o.dst undef) w
theorem rC.one {S:World→Prop} {o:Oper} {a a1:Act} (h:rC P ops S o a a1) {w:World} (hw:S w):yj P ops (fun x=>x=w) o a a1 :=
 fun x hx K hK=>by subst hx;exact h x hw K (hK.out x rfl)
theorem rC.mono {S S2:World→Prop} {o:Oper} {a a1:Act} (h:rC P ops S o a a1) (hs:∀ x,S2 x→S x):rC P ops S2 o a a1:=fun w hw=>h w (hs w hw)
def Dw (ops:Array Oper) (ord:List Nat) (cl:Nat→Bool):Bool :=
 Region.noSelect ops && ((List.range ord.length).all fun p=>match ord[p]? with | some i=>decide (i<ops.size) && ord.idxOf i == p | none=>false) &&
 (List.range ops.size).all fun i=>ord[ord.idxOf i]? == some i && match ops[i]? with
  | none=>true
  | some o=>o.after.all (fun e => !Region.binds .any e || decide (ord.idxOf e.on<ord.idxOf i)) &&
   ((List.range ops.size).all fun c => !cl c || !decide (ord.idxOf c<ord.idxOf i) || o.after.toList.any fun e=>Region.binds .any e && decide (ord.idxOf c≤ord.idxOf e.on)) &&
   (List.range ops.size).all fun j=>match ops[j]? with
    | none=>true
    | some u=>match u.dst with
     | none=>true
     | some t=>(i == j || o.dst != some t) &&
      (!(o.looksAt ops).contains t || (decide (ord.idxOf j<ord.idxOf i) && o.after.toList.any (fun e=>Region.binds .any e && e.on == j)) || (decide (ord.idxOf i<ord.idxOf j) && u.after.toList.any (fun e=>Region.binds .any e && e.on == i)))
structure Dx (ops:Array Oper) (ord:List Nat) (cl:Nat→Bool):Prop where
 place:∀ p i,ord[p]? = some i→i<ops.size∧ord.idxOf i=p
 perm:∀ i,i<ops.size→ord[ord.idxOf i]? = some i
 back:∀ (i:Nat) (o:Oper),ops[i]? = some o→∀ e∈o.after,Region.binds .any e=true→ord.idxOf e.on<ord.idxOf i
 call:∀ (i c:Nat) (o:Oper),ops[i]? = some o→c<ops.size→cl c=true→ord.idxOf c<ord.idxOf i→∃ e∈o.after,Region.binds .any e=true∧ord.idxOf c≤ord.idxOf e.on
 one:∀ (i j:Nat) (o u:Oper) (t:Tmp),j≠i→ops[i]? = some o→ops[j]? = some u→u.dst=some t→o.dst≠some t
 looks:∀ (i j:Nat) (o u:Oper) (t:Tmp),ops[i]? = some o→ops[j]? = some u→u.dst=some t→t∈o.looksAt ops→(ord.idxOf j<ord.idxOf i∧∃ e∈o.after,Region.binds .any e=true∧e.on=j)∨(ord.idxOf i<ord.idxOf j∧∃ e∈u.after,Region.binds .any e=true∧e.on=i)
 Kl:Region.noSelect ops=true
theorem Dy {ord:List Nat} {cl:Nat→Bool} (h:Dw ops ord cl=true):Dx ops ord cl:=by
 unfold Dw at h
 rw [Bool.and_eq_true,Bool.and_eq_true,List.all_eq_true,List.all_eq_true] at h
 obtain ⟨⟨h0,hl0⟩,h⟩:=h
 have hl:∀ p i,ord[p]? = some i→i<ops.size∧ord.idxOf i=p:=fun p i hp=>by
  have:=hl0 p (List.mem_range.2 (List.getElem?_eq_some_iff.1 hp).1)
  rw [hp] at this
  simpa using this
 have hp:∀ i,i<ops.size→ord[ord.idxOf i]? = some i:=fun i hi=>by
  have:=h i (List.mem_range.2 hi)
  rw [Bool.and_eq_true,beq_iff_eq] at this
  exact this.1
 have hi:∀ (i:Nat) (o:Oper),ops[i]? = some o→_:=fun i o ho=>by
  have:=h i (List.mem_range.2 (Array.getElem?_eq_some_iff.1 ho).1)
  rw [Bool.and_eq_true] at this
  have:=this.2
  rw [ho] at this
  simp only [Bool.and_eq_true,List.all_eq_true] at this
  exact this
 have hj:∀ (i j:Nat) (o u:Oper) (t:Tmp),ops[i]? = some o→ops[j]? = some u→u.dst=some t→_:=fun i j o u t ho hu ht=>by
  have:=(hi i o ho).2 j (List.mem_range.2 (Array.getElem?_eq_some_iff.1 hu).1)
  simp only [hu,ht,Bool.and_eq_true,Bool.or_eq_true,beq_iff_eq,bne_iff_ne,Bool.not_eq_true',decide_eq_true_eq,List.any_eq_true,Array.mem_toList_iff] at this
  exact this
 refine ⟨hl,hp,fun i o ho e he hb=>?_,fun i c o ho hc hcl hlt=>?_,fun i j o u t hji ho hu ht=>?_,fun i j o u t ho hu ht hl=>?_,h0⟩
 ·have:=(hi i o ho).1.1
  rw [Array.all_eq_true_iff_forall_mem] at this
  have:=this e he
  simpa [hb] using this
 ·have:=(hi i o ho).1.2 c (List.mem_range.2 hc)
  simp only [hcl,hlt,Bool.not_true,Bool.false_or,decide_true,List.any_eq_true,Array.mem_toList_iff,Bool.and_eq_true,decide_eq_true_eq] at this
  obtain ⟨e,he,hb,hle⟩:=this
  exact ⟨e,he,hb,hle⟩
 ·exact (hj i j o u t ho hu ht).1.resolve_left (fun e=>hji e.symm)
 ·rcases (hj i j o u t ho hu ht).2 with (h1 | h1) | h1
  ·simp at h1
   exact absurd hl h1
  ·obtain ⟨a,e,he,hb,hon⟩:=h1
   exact .inl ⟨a,e,he,hb,hon⟩
  ·obtain ⟨a,e,he,hb,hon⟩:=h1
   exact .inr ⟨a,e,he,hb,hon⟩
theorem Rt {o:Oper} {a b:Act} {i:Nat} {R K:Act→World→Prop} (hi:ops[i]? = some o) (hns:∀ cs b,o.op≠.select cs b)
  (hev:∀ x∈o.op.operands,b.eval x=a.eval x) (Za:Region.wanted o (yielded ops b.tmps)=true) {w:World} (h1:o.wp P a w R Rs) (hd:∀ a2 w2,R a2 w2→a2.defers=a.defers)
  (hK:∀ v w',R (a.put o.dst v) w'→K (b.put o.dst v) w'):wpOp P ops Q i K b w:=by
 unfold wpOp
 simp only [hi,Za]
 left
 unfold Oper.wp at h1 ⊢
 rw [execOp_congr o hns hev]
 generalize (execOp a.eval o).run P w=r at h1
 cases r with
 | ok n w' =>
  cases n <;> simp only [Oper.upon] at h1 ⊢
  case value u=>exact hK _ _ h1
  case skip=>exact hK _ _ h1
  case defer d =>
   have:=hd _ _ h1
   rw [put_defers] at this
   simp at this
  case enter f args =>
   refine Calls.mono h1 fun e w2 he=>?_
   cases e with
   | returned u=>exact hK _ _ he
   | panicked c=>exact he.elim
   | outgrown=>obtain ⟨_,_,hq⟩:=he;exact hq.elim
  case row r args=>exact Rows.mono h1 fun u w2 he=>hK _ _ he
 | halt x w'=>cases x <;> simp only [Oper.upon] at h1 ⊢ <;> exact h1.elim
theorem Matches.congr {vs us:Nat→Value} {a f:Act} {T U:Nat→Bool} (h:Matches ops vs a T f) (hT:∀ j,U j=T j) (hv:∀ j,T j=true→us j=vs j):Matches ops us a U f :=
 ⟨h.defers,h.size,fun t j o hj ho ht hlt=>by rw [hT] at hj;rw [hv j hj];exact h.done t j o hj ho ht hlt,fun t ht=>h.left t fun j o hj ho=>ht j o (by rw [hT];exact hj) ho⟩
theorem Matches.weak {vs:Nat→Value} {a f:Act} {T U:Nat→Bool} (h:Matches ops vs a T f) (hT:∀ j,j<ops.size→U j=T j):Matches ops vs a U f :=
 ⟨h.defers,h.size,fun t j o hj ho ht hlt=>h.done t j o (by rw [← hT j (Array.getElem?_eq_some_iff.1 ho).1];exact hj) ho ht hlt,fun t ht=>h.left t fun j o hj ho=>ht j o (by rw [hT j (Array.getElem?_eq_some_iff.1 ho).1];exact hj) ho⟩
end
end
section
open Go.RowKit
section
variable {P:Program} {ops:Array Oper} {Q:Exit→Act→World→Prop}
def Dz (o:Oper):Bool:=o.guard.isNone && (match o.op with | .move _=>true | _=>false)
theorem rC.still {S S2:World→Prop} {o:Oper} {a a1:Act} (h:rC P ops S o a a1) (hs:Dz o=true) (hne:∃ w,S w):rC P ops S2 o a a1:=by
 obtain ⟨w,hw⟩:=hne
 obtain ⟨d,op,ty,pos,af,gd⟩:=o
 unfold Dz at hs
 rw [Bool.and_eq_true] at hs
 obtain ⟨hg,ho⟩:=hs
 cases gd with
 | some x=>cases hg
 | none =>
  cases op with
  | move x =>
   have h1:=h w hw (fun a' _=>a'=a1) rfl
   intro w2 _ K hK
   rw [if_pos (show Region.wanted ⟨d,.move x,ty,pos,af,none⟩ (yielded ops a.tmps)=true from rfl)] at h1 ⊢
   have e:a.put d (a.eval x)=a1:=h1
   subst e
   exact hK
  | _=>cases ho
def reach (ops:Array Oper):Nat→List Nat→List Nat
 | 0,l=>l
 | n+1,l=>reach ops n (l++(l.flatMap fun i=>match ops[i]? with | some o=>(o.after.toList.filter fun e=>Region.binds .any e).map (·.on) | none=>[])).eraseDups
theorem vG {listed:Array Bool} {i:Nat} {o:Oper} (ho:ops[i]? = some o) (hcl:Closed ops listed) (hpre:∀ e∈o.after,Region.binds .any e=true→listed.getD e.on false=true) :
  ∀ (n:Nat) (l:List Nat),(∀ x∈l,x=i∨listed.getD x false=true)→∀ x∈reach ops n l,x=i∨listed.getD x false=true
 | 0,_,h,x,hx=>h x hx
 | n+1,l,h,x,hx=>by
  refine vG ho hcl hpre n _ (fun y hy=>?_) x hx
  rw [List.mem_eraseDups,List.mem_append] at hy
  rcases hy with hy | hy
  ·exact h y hy
  ·obtain ⟨j,hj,hy⟩:=List.mem_flatMap.1 hy
   cases hu:ops[j]? with
   | none=>rw [hu] at hy;cases hy
   | some u =>
    rw [hu] at hy
    obtain ⟨e,he,rfl⟩:=List.mem_map.1 hy
    obtain ⟨he,hb⟩:=List.mem_filter.1 he
    rcases h j hj with rfl | hl
    ·rw [ho] at hu
     cases hu
     exact .inr (hpre e (Array.mem_toList_iff.1 he) hb)
    ·exact .inr (hcl j u hu hl e (Array.mem_toList_iff.1 he) hb)
def settled (ops:Array Oper) (ord:List Nat) (i:Nat):Bool :=
 (List.range ops.size).all fun j => !decide (ord.idxOf j<ord.idxOf i) || (reach ops ops.size [i]).contains j || (match ops[j]? with | some o=>Dz o | none=>true)
def Aa (ops:Array Oper) (ord:List Nat) (st:Nat→Bool):Bool:=(List.range ops.size).all fun i => !st i || settled ops ord i
def bC (P:Program) (ops:Array Oper) (Q:Exit→Act→World→Prop) (cl st:Nat→Bool):List Nat→(World→Prop)→(World→Prop)→Act→Prop
 | [],_,S,a=>∀ w,S w→Q .normal a w
 | i::r,T,S,a=>∃ o,ops[i]? = some o ∧
   ((∃ a1,rC P ops T o a a1 ∧ a1.defers = a.defers ∧ bC P ops Q cl st r T S a1) ∨
    (cl i=true∧Region.wanted o (yielded ops a.tmps)=true∧∀ w,S w→o.wp P a w (fun a2 w2=>a2.defers=a.defers∧∃ T2 S2:World→Prop,S2 w2∧(∀ x,S2 x→T2 x)∧((∀ x,T2 x→T x)∨st i=true)∧bC P ops Q cl st r T2 S2 a2) Rs))
theorem bC.one {cl st:Nat→Bool} {T S:World→Prop} {i:Nat} {r:List Nat} {a:Act} {o:Oper} (ho:ops[i]? = some o) (hc:cl i=true) (hw:Region.wanted o (yielded ops a.tmps)=true)
  (h:∀ w,S w→∀ R:Act→World→Prop,Hid (∀ a2 w2,a2.defers=a.defers→∀ T2 S2:World→Prop,S2 w2→(∀ x,S2 x→T2 x)→(∀ x,T2 x→T x)→bC P ops Q cl st r T2 S2 a2→R a2 w2)→o.wp P a w R Rs):bC P ops Q cl st (i::r) T S a :=
 ⟨o,ho,.inr ⟨hc,hw,fun w hS=>h w hS _ (Lib.hid fun _ _ h1 T2 S2 h2 h3 h4 h5=>⟨h1,T2,S2,h2,h3,.inl h4,h5⟩)⟩⟩
theorem bC.two {cl st:Nat→Bool} {T S:World→Prop} {i:Nat} {r:List Nat} {a:Act} {o:Oper} (ho:ops[i]? = some o) (hc:cl i=true) (hst:st i=true) (hw:Region.wanted o (yielded ops a.tmps)=true)
  (h:∀ w,S w→∀ R:Act→World→Prop,Hid (∀ a2 w2,a2.defers=a.defers→∀ T2 S2:World→Prop,S2 w2→(∀ x,S2 x→T2 x)→bC P ops Q cl st r T2 S2 a2→R a2 w2)→o.wp P a w R Rs):bC P ops Q cl st (i::r) T S a :=
 ⟨o,ho,.inr ⟨hc,hw,fun w hS=>h w hS _ (Lib.hid fun _ _ h1 T2 S2 h2 h3 h5=>⟨h1,T2,S2,h2,h3,.inr hst,h5⟩)⟩⟩
structure UZ (P:Program) (ops:Array Oper) (Q:Exit→Act→World→Prop) (ord:List Nat) (cl st:Nat→Bool) (a:Act) (T S:World→Prop) (p:Nat) (vs:Nat→Value) (K:Nat):Prop where
 le:K≤ord.length
 step:∀ (i:Nat) (o:Oper),ops[i]? = some o→p≤ord.idxOf i→ord.idxOf i<K→∃ g,Matches ops vs a (fun j=>decide (ord.idxOf j<ord.idxOf i)) g∧rC P ops T o g (g.put o.dst (vs i))
 stop:∃ g,Matches ops vs a (fun j=>decide (ord.idxOf j<K)) g ∧
  ((K = ord.length ∧ ∀ w,S w → Q .normal g w) ∨
   ∃ c o r,ord.drop K=c::r∧ops[c]? = some o∧cl c=true∧Region.wanted o (yielded ops g.tmps)=true∧∀ w,S w→o.wp P g w (fun a2 w2=>a2.defers=g.defers∧∃ T2 S2:World→Prop,S2 w2∧(∀ x,S2 x→T2 x)∧((∀ x,T2 x→T x)∨st c=true)∧bC P ops Q cl st r T2 S2 a2) Rs)
theorem pM {ord:List Nat} {cl st:Nat→Bool} (hok:Dx ops ord cl) {a0:Act} {T S:World→Prop} (hS:∃ w,T w):∀ (r:List Nat) (p:Nat) (a:Act) (vs:Nat→Value),ord.drop p=r→p≤ord.length→Matches ops vs a0 (fun j=>decide (ord.idxOf j<p)) a→bC P ops Q cl st r T S a →
  ∃ us K,p≤K∧(∀ j,ord.idxOf j<p→us j=vs j)∧UZ P ops Q ord cl st a0 T S p us K
 | [],p,a,vs,hr,hp,hm,h=>by
  have:ord.length≤p:=List.drop_eq_nil_iff.1 hr
  exact ⟨vs,p,Nat.le_refl _,fun _ _=>rfl,hp,fun i o _ h1 h2=>by omega,a,hm,.inl ⟨by omega,h⟩⟩
 | i::r,p,a,vs,hr,hp,hm,h=>by
  have hlt:p<ord.length:=by
   rcases Nat.lt_or_ge p ord.length with h | h
   ·exact h
   ·rw [List.drop_eq_nil_iff.2 h] at hr;cases hr
  have hpi:ord[p]? = some i:=by
   have:=congrArg (·[0]?) hr
   simpa using this
  have hr1:ord.drop (p+1)=r:=by
   rw [← List.drop_drop (i:=1) (j:=p)] <;> simp [hr]
  obtain ⟨o,ho,h⟩:=h
  have hin:i<ops.size:=(Array.getElem?_eq_some_iff.1 ho).1
  have hidx:ord.idxOf i=p:=(hok.place p i hpi).2
  have hnd:∀ j,ord.idxOf j=p→j=i:=fun j e=>by
   have h1:ord.idxOf j<ord.length:=by omega
   have h2:ord[ord.idxOf j]'h1=j:=List.getElem_idxOf h1
   have h3:ord[ord.idxOf j]? = some j:=by rw [List.getElem?_eq_getElem h1,h2]
   rw [e,hpi] at h3
   exact (Option.some.inj h3).symm
  rcases h with ⟨a1,hs,hd,h1⟩ | ⟨hc,hw,hcall⟩
  ·obtain ⟨w,hw⟩:=hS
   obtain ⟨v,rfl⟩:=(hs.one hw).value hd rfl
   let vs1:Nat→Value:=fun j=>if j=i then v else vs j
   have hv1:vs1 i=v:=if_pos rfl
   have hm0:Matches ops vs1 a0 (fun j=>decide (ord.idxOf j<p)) a:=hm.congr (fun _=>rfl) fun j hj=>by
    have:j≠i:=fun e=>by subst e;rw [hidx] at hj;simp at hj
    exact if_neg this
   have hm1:Matches ops vs1 a0 (fun j=>decide (ord.idxOf j<p+1)) (a.put o.dst v):=by
    have:=hm0.put (i:=i) (o:=o) ho (U:=fun j=>decide (ord.idxOf j<p+1)) (fun j=>by
     rw [Bool.eq_iff_iff,Bool.or_eq_true,decide_eq_true_eq,decide_eq_true_eq,beq_iff_eq]
     constructor
     ·intro hj
      rcases Nat.lt_or_ge (ord.idxOf j) p with h | h
      ·exact .inl h
      ·exact .inr (hnd j (by omega))
     ·rintro (hj | rfl)
      ·omega
      ·omega) (fun j u t hji hu hut=>hok.one i j o u t hji ho hu hut)
    rw [hv1] at this
    exact this
   obtain ⟨us,K,hK,hag,hk⟩:=pM hok ⟨w,hw⟩ r (p+1) (a.put o.dst v) vs1 hr1 hlt hm1 h1
   refine ⟨us,K,by omega,fun j hj=>(hag j (by omega)).trans (if_neg fun e=>by subst e;omega),hk.le,fun j u hu h1 h2=>?_,hk.stop⟩
   by_cases hj:ord.idxOf j=p
   ·have:=hnd j hj
    subst this
    rw [ho] at hu
    cases hu
    refine ⟨a,hm.congr (fun t=>by rw [hidx]) fun t ht=>?_,by rw [hag j (by omega),hv1];exact hs⟩
    have ht':ord.idxOf t<p:=by simpa using ht
    exact (hag t (by omega)).trans (if_neg fun e=>by subst e;omega)
   ·exact hk.step j u hu (by omega) h2
  ·exact ⟨vs,p,Nat.le_refl _,fun _ _=>rfl,hp,fun j u _ h1 h2=>by omega,a,hm,.inr ⟨i,o,r,hr,ho,hc,hw,hcall⟩⟩
theorem DC {ord:List Nat} {cl st:Nat→Bool} (hok:Dx ops ord cl) (hsa:Aa ops ord st=true) {a0:Act} :
  ∀ (fuel:Nat) (listed:Array Bool) (f:Act) (w:World) (T S:World→Prop) (vs:Nat→Value) (K:Nat),(∀ x,S x→T x)→listed.size=ops.size→Closed ops listed→(List.range ops.size).countP (fun i => !listed.getD i true)=fuel →
   Matches ops vs a0 (fun j=>listed.getD j false) f→S w→(∀ j,j<ops.size→listed.getD j false=true→ord.idxOf j<K) →
   (∀ (i:Nat) (o:Oper),ops[i]? = some o→listed.getD i false=false→ord.idxOf i<K→∃ g,Matches ops vs a0 (fun j=>decide (ord.idxOf j<ord.idxOf i)) g∧rC P ops T o g (g.put o.dst (vs i))) →
   (∃ g,Matches ops vs a0 (fun j=>decide (ord.idxOf j<K)) g ∧
    ((K = ord.length ∧ ∀ w,S w → Q .normal g w) ∨
     ∃ c o r,ord.drop K=c::r∧ops[c]? = some o∧cl c=true∧Region.wanted o (yielded ops g.tmps)=true∧∀ w,S w→o.wp P g w (fun a2 w2=>a2.defers=g.defers∧∃ T2 S2:World→Prop,S2 w2∧(∀ x,S2 x→T2 x)∧((∀ x,T2 x→T x)∨st c=true)∧bC P ops Q cl st r T2 S2 a2) Rs)) →
   wpAny P .any ops Q fuel listed f w:=by
 have hlt:∀ i,i<ops.size→ord.idxOf i<ord.length:=fun i hi=>(List.getElem?_eq_some_iff.1 (hok.perm i hi)).1
 have Ol:∀ {K c r},ord.drop K=c::r→K<ord.length∧c<ops.size∧ord.idxOf c=K:=fun {K c r} h=>by
  have h1:ord[K]? = some c:=by have:=congrArg (·[0]?) h;simpa using this
  exact ⟨(List.getElem?_eq_some_iff.1 h1).1,hok.place K c h1⟩
 have hall:∀ (listed:Array Bool) (f:Act) (w:World) (T S:World→Prop) (vs:Nat→Value) (K:Nat),(∀ i,i<ops.size→listed.getD i false=true)→Matches ops vs a0 (fun j=>listed.getD j false) f→S w→(∀ j,j<ops.size→listed.getD j false=true→ord.idxOf j<K) →
   (∃ g,Matches ops vs a0 (fun j=>decide (ord.idxOf j<K)) g ∧
    ((K = ord.length ∧ ∀ w,S w → Q .normal g w) ∨
     ∃ c o r,ord.drop K=c::r∧ops[c]? = some o∧cl c=true∧Region.wanted o (yielded ops g.tmps)=true∧∀ w,S w→o.wp P g w (fun a2 w2=>a2.defers=g.defers∧∃ T2 S2:World→Prop,S2 w2∧(∀ x,S2 x→T2 x)∧((∀ x,T2 x→T x)∨st c=true)∧bC P ops Q cl st r T2 S2 a2) Rs))→Q .normal f w:=by
  intro listed f w T S vs K hl hm hw hlk hstop
  obtain ⟨g,hg,⟨rfl,hq⟩ | ⟨c,o,r,hd,_⟩⟩:=hstop
  ·have:f=g:=hm.eq (hg.weak fun j hj=>by rw [hl j hj];simpa using hlt j hj)
   rw [this]
   exact hq w hw
  ·obtain ⟨_,h2,h3⟩:=Ol hd
   have:=hlk c h2 (hl c h2)
   omega
 have hnil:∀ listed:Array Bool,listed.size=ops.size→Region.ready .any ops listed=[]→∀ m i,i<ops.size→ord.idxOf i=m→listed.getD i false=true:=by
  intro listed hsz hr m
  induction m using Nat.strongRecOn with
  | _ m ih =>
   intro i hi him
   cases hc:listed.getD i false with
   | true=>rfl
   | false =>
    exfalso
    have:i∈Region.ready .any ops listed:=mem_ready.2 ⟨hi,by rw [getD_lt (by omega)];exact hc,ops[i],Array.getElem?_eq_getElem hi,fun e he hb=>by
     have hbk:=hok.back i ops[i] (Array.getElem?_eq_getElem hi) e he hb
     have hel:ord.idxOf e.on<ord.length:=by have:=hlt i hi;omega
     have hen:e.on<ops.size:=(hok.place (ord.idxOf e.on) e.on (by rw [List.getElem?_eq_getElem hel,List.getElem_idxOf hel])).1
     exact ih (ord.idxOf e.on) (by omega) e.on hen rfl⟩
    rw [hr] at this
    cases this
 intro fuel
 induction fuel with
 | zero =>
  intro listed f w T S vs K hST hsz hcl hcnt hm hw hlk hstep hstop
  have hl:∀ i,i<ops.size→listed.getD i false=true:=fun i hi=>by
   have:=List.countP_eq_zero.1 hcnt i (List.mem_range.2 hi)
   rw [getD_lt (by omega)] at this
   simpa using this
  refine ⟨?_,hall listed f w T S vs K hl hm hw hlk hstop⟩
  cases hr:Region.ready .any ops listed with
  | nil=>rfl
  | cons i r =>
   have:=mem_ready.1 (show i∈Region.ready .any ops listed by rw [hr];simp)
   rw [getD_lt (by omega),hl i this.1] at this
   cases this.2.1
 | succ fuel ih =>
  intro listed f w T S vs K hST hsz hcl hcnt hm hw hlk hstep hstop
  refine ⟨fun hr=>hall listed f w T S vs K (fun i hi=>hnil listed hsz hr _ i hi rfl) hm hw hlk hstop,fun i hi=>?_⟩
  obtain ⟨hin,hun,o,ho,hpre⟩:=mem_ready.1 hi
  have hun':listed.getD i false=false:=by rw [← getD_lt (by omega)];exact hun
  have Xw:Closed ops (listed.setIfInBounds i true):=by
   intro j u hu hj e he hb
   rw [je _ _ _ (by omega)] at hj ⊢
   by_cases hji:j=i
   ·subst hji
    rw [ho] at hu
    cases hu
    rw [hpre e he hb]
    rfl
   ·have:listed.getD j false=true:=by simpa [hji] using hj
    rw [hcl j u hu this e he hb]
    rfl
  have Ue:(List.range ops.size).countP (fun j => !(listed.setIfInBounds i true).getD j true)=fuel:=by
   have:=lS (p:=fun j => !listed.getD j true) (q:=fun j => !(listed.setIfInBounds i true).getD j true) (i:=i) (by simp [hun]) (by
    simp only [Array.getD_eq_getD_getElem?,Array.getElem?_setIfInBounds_self_of_lt (show i<listed.size by omega)];rfl) (fun j hj=>by
    simp only [Array.getD_eq_getD_getElem?,Array.getElem?_setIfInBounds_ne (Ne.symm hj)]) (List.nodup_range (n:=ops.size)) (List.mem_range.2 hin)
   omega
  have uI:∀ g,Matches ops vs a0 (fun j=>decide (ord.idxOf j<ord.idxOf i)) g→∀ t∈o.looksAt ops,f.tmps[t]? = g.tmps[t]?:=fun g hg t ht=>hm.agree hg fun j u hu hut=>by
   rcases hok.looks i j o u t ho hu hut ht with ⟨hji,e,he,hb,rfl⟩ | ⟨hij,e,he,hb,rfl⟩
   ·rw [hpre e he hb];simpa using hji
   ·have:listed.getD j false=false:=by
     cases hc:listed.getD j false with
     | false=>rfl
     | true=>have:=hcl j u hu hc e he hb;rw [hun'] at this;cases this
    rw [this]
    simp
    omega
  rcases Nat.lt_or_ge (ord.idxOf i) K with hiK | hiK
  ·obtain ⟨g,hg,hst⟩:=hstep i o ho hun' hiK
   have hgs:f.tmps.size=g.tmps.size:=hm.size.trans hg.size.symm
   refine (hst.one (hST w hw)).at ho (Region.noSelect_spec hok.Kl i o · · ho) hgs (uH (uI g hg)) (pK (uI g hg)) rfl fun w' hw'=>?_
   subst hw'
   refine ih (listed.setIfInBounds i true) (f.put o.dst (vs i)) w' T S vs K hST (by simpa using hsz) Xw Ue ?_ hw (fun j hj hjl=>?_) (fun j u hu hjl ZW=>?_) hstop
   ·exact hm.put ho (fun j=>je _ _ _ (by omega)) (fun j u t hji hu hut=>hok.one i j o u t hji ho hu hut)
   ·rw [je _ _ _ (by omega),Bool.or_eq_true,beq_iff_eq] at hjl
    rcases hjl with hjl | rfl
    ·exact hlk j hj hjl
    ·exact hiK
   ·rw [je _ _ _ (by omega),Bool.or_eq_false_iff] at hjl
    exact hstep j u hu hjl.1 ZW
  ·obtain ⟨g,hg,⟨rfl,_⟩ | ⟨c,oc,r,hd,hoc,hcc,hwc,hcall⟩⟩:=hstop
   ·have:=hlt i hin
    omega
   ·obtain ⟨hKl,hcn,hcK⟩:=Ol hd
    have hic:i=c:=by
     rcases Nat.eq_or_lt_of_le hiK with e | h
     ·have h1:=hok.perm i hin
      have h2:=hok.perm c hcn
      rw [← e] at h1
      rw [hcK,h1] at h2
      exact Option.some.inj h2
     ·exfalso
      obtain ⟨e,he,hb,hle⟩:=hok.call i c o ho hcn hcc (by omega)
      have hel:ord.idxOf e.on<ord.length:=by have:=hok.back i o ho e he hb;have:=hlt i hin;omega
      have hen:e.on<ops.size:=(hok.place (ord.idxOf e.on) e.on (by rw [List.getElem?_eq_getElem hel,List.getElem_idxOf hel])).1
      have:=hlk e.on hen (hpre e he hb)
      omega
    subst hic
    rw [ho] at hoc
    cases hoc
    have hg':Matches ops vs a0 (fun j=>decide (ord.idxOf j<ord.idxOf i)) g:=hg.congr (fun j=>by rw [hcK]) fun _ _=>rfl
    have hwf:Region.wanted o (yielded ops f.tmps)=true:=(pK (uI g hg')).trans hwc
    have hr1:ord.drop (K+1)=r:=by rw [← List.drop_drop (i:=1) (j:=K)] <;> simp [hd]
    refine Rt ho (Region.noSelect_spec hok.Kl i o · · ho) (uH (uI g hg')) hwf (hcall w hw) (fun _ _ h=>h.1) fun v w' hR=>?_
    obtain ⟨_,T2,S2,hS2,Xx,U0,hch⟩:=hR
    let vs1:Nat→Value:=fun j=>if j=i then v else vs j
    have hv1:vs1 i=v:=if_pos rfl
    have hne:∀ j,ord.idxOf j<K→vs1 j=vs j:=fun j hj=>if_neg fun e=>by subst e;omega
    have hgm:Matches ops vs1 a0 (fun j=>decide (ord.idxOf j<K+1)) (g.put o.dst v):=by
     have h0:Matches ops vs1 a0 (fun j=>decide (ord.idxOf j<K)) g:=hg.congr (fun _=>rfl) fun j hj=>hne j (by simpa using hj)
     have:=h0.put (i:=i) (o:=o) ho (U:=fun j=>decide (ord.idxOf j<K+1)) (fun j=>by
      rw [Bool.eq_iff_iff,Bool.or_eq_true,decide_eq_true_eq,decide_eq_true_eq,beq_iff_eq]
      constructor
      ·intro hj
       rcases Nat.lt_or_ge (ord.idxOf j) K with h | h
       ·exact .inl h
       ·have e:ord.idxOf j=K:=by omega
        have h1:ord.idxOf j<ord.length:=by omega
        have h2:ord[ord.idxOf j]? = some j:=by rw [List.getElem?_eq_getElem h1,List.getElem_idxOf h1]
        have h3:=hok.perm i hin
        rw [hcK] at h3
        rw [e,h3] at h2
        exact .inr (Option.some.inj h2).symm
      ·rintro (hj | rfl)
       ·omega
       ·omega) (fun j u t hji hu hut=>hok.one i j o u t hji ho hu hut)
     rw [hv1] at this
     exact this
    obtain ⟨us,K2,hK2,hag,hk⟩:=pM hok ⟨w',Xx _ hS2⟩ r (K+1) (g.put o.dst v) vs1 hr1 hKl hgm hch
    have ZX:∀ j,ord.idxOf j<K→us j=vs j:=fun j hj=>(hag j (by omega)).trans (hne j hj)
    have ZY:us i=v:=(hag i (by omega)).trans hv1
    refine ih (listed.setIfInBounds i true) (f.put o.dst v) w' T2 S2 us K2 Xx (by simpa using hsz) Xw Ue ?_ hS2 (fun j hj hjl=>?_) (fun j u hu hjl ZW=>?_) hk.stop
    ·have h0:Matches ops us a0 (fun j=>listed.getD j false) f:=by
      refine ⟨hm.defers,hm.size,fun t j u hj hu ht hlt2=>?_,hm.left⟩
      rw [ZX j (hlk j (Array.getElem?_eq_some_iff.1 hu).1 hj)]
      exact hm.done t j u hj hu ht hlt2
     have:=h0.put (i:=i) (o:=o) ho (U:=fun j=>(listed.setIfInBounds i true).getD j false) (fun j=>je _ _ _ (by omega)) (fun j u t hji hu hut=>hok.one i j o u t hji ho hu hut)
     rw [ZY] at this
     exact this
    ·rw [je _ _ _ (by omega),Bool.or_eq_true,beq_iff_eq] at hjl
     rcases hjl with hjl | rfl
     ·have:=hlk j hj hjl;omega
     ·omega
    ·rw [je _ _ _ (by omega),Bool.or_eq_false_iff] at hjl
     rcases Nat.lt_or_ge (ord.idxOf j) K with h | h
     ·obtain ⟨g2,h1,h2⟩:=hstep j u hu hjl.1 h
      exact ⟨g2, h1.congr (fun _ => rfl) (fun t ht => ZX t (by have : ord.idxOf t < ord.idxOf j := by simpa using ht
                                                               omega)),by
       rw [ZX j h]
       rcases U0 with U0 | hsi
       ·exact h2.mono U0
       ·have hj1:=(Array.getElem?_eq_some_iff.1 hu).1
        have hs1:=List.all_eq_true.1 hsa i (List.mem_range.2 hin)
        rw [hsi,Bool.not_true,Bool.false_or] at hs1
        have hs2:=List.all_eq_true.1 hs1 j (List.mem_range.2 hj1)
        have hlt2:ord.idxOf j<ord.idxOf i:=by omega
        rw [decide_eq_true hlt2,Bool.not_true,Bool.false_or,Bool.or_eq_true,hu] at hs2
        rcases hs2 with hs2 | hs2
        ·exfalso
         rw [List.contains_iff_mem] at hs2
         rcases vG ho hcl hpre ops.size [i] (fun x hx=>.inl (List.mem_singleton.1 hx)) j hs2 with rfl | h9
         ·omega
         ·rw [hjl.1] at h9;cases h9
        ·exact h2.still hs2 ⟨w,hST w hw⟩⟩
     ·have hji:ord.idxOf j≠K:=fun e=>by
       have h1:=hok.perm j (Array.getElem?_eq_some_iff.1 hu).1
       have h3:=hok.perm i hin
       rw [hcK] at h3
       rw [e,h3] at h1
       have:=Option.some.inj h1
       subst this
       simp at hjl
      exact hk.step j u hu (by omega) ZW
theorem aM (ord:List Nat) (cl st:Nat→Bool) {T S:World→Prop} {id:Nat} {a:Act} {w:World} (hm:P.follows .mixedOrders=true) (hok:Dw ops ord cl=true) (hsa:Aa ops ord st=true) (hS:S w.drew) (hST:∀ x,S x→T x) (h:bC P ops Q cl st ord T S a):(Code.region id ops true).wp P Q a w:=by
 have hk:=Dy hok
 obtain ⟨us,K,_,_,hkn⟩:=pM hk ⟨_,hST _ hS⟩ ord 0 a (fun _=>undef) rfl (Nat.zero_le _) ((Matches.start _ a).congr (fun _=>by simp) fun _ _=>rfl) h
 refine wp_region_any hm (DC (a0:=a) hk hsa ops.size (Array.replicate ops.size false) a w.drew T S us K hST (by simp) ?_ ?_ ?_ hS ?_ ?_ hkn.stop)
 ·intro j o ho hj
  simp only [Array.getD_eq_getD_getElem?,Array.getElem?_replicate] at hj
  split at hj <;> cases hj
 ·rw [List.countP_eq_length.2]
  ·simp
  ·intro i hi
   have:=List.mem_range.1 hi
   simp [Array.getD_eq_getD_getElem?,this]
 ·have:(fun j=>(Array.replicate ops.size false).getD j false)=fun _=>false:=by
   funext j
   simp [Array.getD_eq_getD_getElem?,Array.getElem?_replicate]
   split <;> rfl
  rw [this]
  exact Matches.start _ a
 ·intro j _ hj
  simp only [Array.getD_eq_getD_getElem?,Array.getElem?_replicate] at hj
  split at hj <;> cases hj
 ·exact fun i o ho _ h2=>hkn.step i o ho (Nat.zero_le _) h2
end
end
end Go.Proofs.YtangbdahnmomlaaGreatDoor
