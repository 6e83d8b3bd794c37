/- A region whose order is drawn, walked in the text's order: each operation yields the same in every world that meets S, and leaves a world that meets S. No condition. -/
import Derived.Lib.Hide
import Derived.WalkKit
set_option linter.unnecessarySimpa false
set_option linter.unusedSimpArgs false
set_option linter.unusedVariables false
namespace Go.Proofs.YtangbdahnmomlaaGreatDoor
section
open Go.RowKit
section
variable {P : Program} {ops : Array Oper} {S : World → Prop} {Q : Exit → Act → World → Prop}
def noQ : Exit → Act → World → Prop:=fun _ _ _ => False
def StepH (P : Program) (ops : Array Oper) (S : World → Prop) (o : Oper) (a a1 : Act) : Prop :=
  ∀ w,S w → ∀ K : Act → World → Prop,Hid (∀ w',S w' → K a1 w') → if Region.wanted o (yielded ops a.tmps) = true then o.wp P a w K noQ else K (a.put o.dst undef) w
def TextH (P : Program) (ops : Array Oper) (S : World → Prop) (Q : Exit → Act → World → Prop) : List Oper → Act → Prop
  | [],a => ∀ w,S w → Q .normal a w
  | o :: rest,a => ∃ a1,StepH P ops S o a a1 ∧ a1.defers = a.defers ∧ TextH P ops S Q rest a1
def textOk (ops : Array Oper) : Bool :=
  Region.noSelect ops &&
  (List.range ops.size).all fun i => match ops[i]? with
    | none => true
    | some o => o.after.all (fun e => !Region.binds .any e || decide (e.on < i)) &&
      (List.range ops.size).all fun j => match ops[j]? with
        | none => true
        | some u => match u.dst with
          | none => true
          | some t => (i == j || o.dst != some t) &&
            (!(o.looksAt ops).contains t || (decide (j < i) && o.after.toList.any (fun e => Region.binds .any e && e.on == j)) || (decide (i < j) && u.after.toList.any (fun e => Region.binds .any e && e.on == i)))
theorem put_inj {a b : Act} {d : Option Tmp} {u v : Value} (hs : b.tmps.size = a.tmps.size) (h : a.put d u = a.put d v) : b.put d u = b.put d v:=by
  cases d with
  | none => rfl
  | some d =>
    simp only [Act.put,Act.mk.injEq,and_true] at h ⊢
    by_cases hd : d < a.tmps.size
    · have h1:=congrArg (·[d]?) h
      simp only [Array.getElem?_setIfInBounds_self_of_lt hd,Option.some.injEq] at h1
      rw [h1]
    · have e : ∀ x,b.tmps.setIfInBounds d x = b.tmps:=fun x => by
        unfold Array.setIfInBounds
        rw [dif_neg (by rw [hs]; exact hd)]
      rw [e,e]
theorem put_defers (a : Act) (d : Option Tmp) (v : Value) : (a.put d v).defers = a.defers:=by cases d <;> rfl
theorem put_size (a : Act) (d : Option Tmp) (v : Value) : (a.put d v).tmps.size = a.tmps.size:=by cases d <;> simp [Act.put]
theorem StepH.value {o : Oper} {a a1 : Act} (h : StepH P ops S o a a1) (hd : a1.defers = a.defers) {w : World} (hw : S w) : ∃ v,a1 = a.put o.dst v:=by
  have h1:=h w hw (fun a' _ => a' = a1) (fun _ _ => rfl)
  split at h1
  · unfold Oper.wp at h1
    generalize (execOp a.eval o).run P w = r at h1
    cases r with
    | ok n w' =>
      cases n <;> simp only [Oper.upon] at h1
      case value u => exact ⟨u,h1.symm⟩
      case skip => exact ⟨_,h1.symm⟩
      case defer d =>
        rw [← h1,put_defers] at hd
        simp at hd
      case enter f args =>
        obtain ⟨e,w2,fr,hr,_⟩:=h1 []
        cases e with
        | returned u => exact ⟨u,hr.symm⟩
        | panicked c => exact hr.elim
        | outgrown => obtain ⟨_,_,hq⟩:=hr; exact hq.elim
      case row r args =>
        obtain ⟨v,w2,hr,_⟩:=h1 default []
        exact ⟨v,hr.symm⟩
    | halt x w' => cases x <;> simp only [Oper.upon] at h1 <;> exact h1.elim
  · exact ⟨undef,h1.symm⟩
theorem StepH.at {o : Oper} {a b : Act} {v : Value} {i : Nat} (h : StepH P ops S o a (a.put o.dst v)) (hi : ops[i]? = some o) (hns : ∀ cs b,o.op ≠ .select cs b) (hs : b.tmps.size = a.tmps.size)
    (hev : ∀ x ∈ o.op.operands,b.eval x = a.eval x) (hwa : Region.wanted o (yielded ops b.tmps) = Region.wanted o (yielded ops a.tmps)) {w : World} (hw : S w) {K : Act → World → Prop}
    (hK : ∀ w',S w' → K (b.put o.dst v) w') : wpOp P ops Q i K b w:=by
  have h1:=h w hw (fun a' w' => a' = a.put o.dst v ∧ S w') (fun w' hw' => ⟨rfl,hw'⟩)
  unfold wpOp
  simp only [hi,hwa]
  by_cases hwt : Region.wanted o (yielded ops a.tmps) = true
  · rw [if_pos hwt] at h1
    rw [if_pos hwt]
    left
    unfold Oper.wp at h1 ⊢
    rw [execOp_congr o hns hev]
    generalize (execOp a.eval o).run P w = r at h1
    cases r with
    | ok n w' =>
      cases n <;> simp only [Oper.upon] at h1 ⊢
      case value u => rw [put_inj hs h1.1]; exact hK _ h1.2
      case skip => rw [put_inj hs h1.1]; exact hK _ h1.2
      case defer d =>
        have:=congrArg Act.defers h1.1
        rw [put_defers,put_defers] at this
        simp at this
      case enter f args =>
        refine Calls.mono h1 fun e w2 he => ?_
        cases e with
        | returned u =>
          have he2 : a.put o.dst u = a.put o.dst v ∧ S w2:=he
          show K (b.put o.dst u) w2
          rw [put_inj hs he2.1]
          exact hK _ he2.2
        | panicked c => exact he.elim
        | outgrown => obtain ⟨_,_,hq⟩:=he; exact hq.elim
      case row r args => exact Rows.mono h1 fun u w2 he => by rw [put_inj hs he.1]; exact hK _ he.2
    | halt x w' => cases x <;> simp only [Oper.upon] at h1 ⊢ <;> exact h1.elim
  · rw [if_neg hwt] at h1
    rw [if_neg hwt]
    rw [put_inj hs h1.1]
    exact hK _ h1.2
structure Matches (ops : Array Oper) (vs : Nat → Value) (a : Act) (T : Nat → Bool) (f : Act) : Prop where
  defers : f.defers = a.defers
  size : f.tmps.size = a.tmps.size
  done : ∀ t j o,T j = true → ops[j]? = some o → o.dst = some t → t < a.tmps.size → f.tmps[t]? = some (vs j)
  left : ∀ t,(∀ j o,T j = true → ops[j]? = some o → o.dst ≠ some t) → f.tmps[t]? = a.tmps[t]?
theorem Matches.start (vs : Nat → Value) (a : Act) : Matches ops vs a (fun _ => false) a:=⟨rfl,rfl,(by simp),fun _ _ => rfl⟩
theorem Matches.put {vs : Nat → Value} {a f : Act} {T U : Nat → Bool} {i : Nat} {o : Oper} (h : Matches ops vs a T f) (hi : ops[i]? = some o) (hU : ∀ j,U j = (T j || j == i))
    (hd : ∀ j u t,j ≠ i → ops[j]? = some u → u.dst = some t → o.dst ≠ some t) : Matches ops vs a U (f.put o.dst (vs i)):=by
  refine ⟨by rw [put_defers,h.defers],by rw [put_size,h.size],?_,?_⟩
  · intro t j u hj hu hut ht
    rw [hU] at hj
    by_cases hji : j = i
    · subst hji
      rw [hi] at hu
      cases hu
      rw [hut]
      simp only [Act.put]
      rw [Array.getElem?_setIfInBounds_self_of_lt (by rw [h.size]; exact ht)]
    · have hT : T j = true:=by simpa [hji] using hj
      have hne:=hd j u t hji hu hut
      have h1:=h.done t j u hT hu hut ht
      cases hod : o.dst with
      | none => exact h1
      | some d =>
        have : d ≠ t:=fun e => hne (by rw [hod,e])
        simp only [Act.put]
        rw [Array.getElem?_setIfInBounds_ne this]
        exact h1
  · intro t ht
    have h1:=h.left t (fun j u hj hu => ht j u (by rw [hU,hj]; rfl) hu)
    have hne:=ht i o (by rw [hU]; simp) hi
    cases hod : o.dst with
    | none => exact h1
    | some d =>
      have : d ≠ t:=fun e => hne (by rw [hod,e])
      simp only [Act.put]
      rw [Array.getElem?_setIfInBounds_ne this]
      exact h1
theorem Matches.agree {vs : Nat → Value} {a f g : Act} {T U : Nat → Bool} (h : Matches ops vs a T f) (k : Matches ops vs a U g) {t : Tmp} (ht : ∀ j o,ops[j]? = some o → o.dst = some t → T j = U j) : f.tmps[t]? = g.tmps[t]?:=by
  by_cases hlt : t < a.tmps.size
  · by_cases hex : ∃ j o,T j = true ∧ ops[j]? = some o ∧ o.dst = some t
    · obtain ⟨j,o,h1,h2,h3⟩:=hex
      rw [h.done t j o h1 h2 h3 hlt,k.done t j o (by rw [← ht j o h2 h3]; exact h1) h2 h3 hlt]
    · rw [h.left t (fun j o h1 h2 h3 => hex ⟨j,o,h1,h2,h3⟩),k.left t (fun j o h1 h2 h3 => hex ⟨j,o,by rw [ht j o h2 h3]; exact h1,h2,h3⟩)]
  · rw [Array.getElem?_eq_none (Nat.le_of_not_lt (by rw [h.size]; exact hlt)),Array.getElem?_eq_none (Nat.le_of_not_lt (by rw [k.size]; exact hlt))]
theorem Matches.eq {vs : Nat → Value} {a f g : Act} {T : Nat → Bool} (h : Matches ops vs a T f) (k : Matches ops vs a T g) : f = g:=by
  obtain ⟨ft,fd⟩:=f
  obtain ⟨gt,gd⟩:=g
  have e1 : fd = gd:=h.defers.trans k.defers.symm
  have e2 : ft = gt:=by
    apply Array.ext_getElem?
    intro t
    exact h.agree k (fun _ _ _ _ => rfl)
  rw [e1,e2]
theorem countP_drop {p q : Nat → Bool} {i : Nat} (hp : p i = true) (hq : q i = false) (he : ∀ j,j ≠ i → q j = p j) : ∀ {l : List Nat},l.Nodup → i ∈ l → l.countP p = l.countP q + 1
  | [],_,h => by cases h
  | x :: l,hn,h => by
    rw [List.nodup_cons] at hn
    rw [List.countP_cons,List.countP_cons]
    by_cases hx : x = i
    · subst hx
      have : l.countP p = l.countP q:=List.countP_congr fun j hj => by rw [he j (fun e => hn.1 (e ▸ hj))]
      rw [if_pos hp,if_neg (by simp [hq]),this]
    · have h1:=countP_drop hp hq he hn.2 ((List.mem_cons.1 h).resolve_left (fun e => hx e.symm))
      rw [he x hx,h1]
      omega
def Closed (ops : Array Oper) (listed : Array Bool) : Prop:=∀ (j : Nat) (o : Oper),ops[j]? = some o → listed.getD j false = true → ∀ e ∈ o.after,Region.binds .any e = true → listed.getD e.on false = true
theorem getD_set (l : Array Bool) (i j : Nat) (hi : i < l.size) : (l.setIfInBounds i true).getD j false = (l.getD j false || j == i):=by
  simp only [Array.getD_eq_getD_getElem?]
  by_cases h : i = j
  · subst h
    rw [Array.getElem?_setIfInBounds_self_of_lt hi]
    simp
  · rw [Array.getElem?_setIfInBounds_ne h]
    have : (j == i) = false:=by simpa using Ne.symm h
    simp [this]
theorem getD_lt {l : Array Bool} {j : Nat} (h : j < l.size) : l.getD j true = l.getD j false:=by
  simp only [Array.getD_eq_getD_getElem?,Array.getElem?_eq_getElem h]
  rfl
theorem mem_ready {listed : Array Bool} {i : Nat} : i ∈ Region.ready .any ops listed ↔ i < ops.size ∧ listed.getD i true = false ∧ ∃ o,ops[i]? = some o ∧ ∀ e ∈ o.after,Region.binds .any e = true → listed.getD e.on false = true:=by
  unfold Region.ready
  rw [List.mem_filter,List.mem_range,Bool.and_eq_true,Bool.not_eq_true']
  refine and_congr_right fun hi => and_congr_right fun _ => ?_
  rw [Array.getElem?_eq_getElem hi]
  simp only [Option.map_some,Option.getD_some,Array.all_eq_true_iff_forall_mem,Bool.or_eq_true,Bool.not_eq_true',Option.some.injEq,exists_eq_left']
  refine forall_congr' fun e => forall_congr' fun _ => ?_
  cases Region.binds .any e <;> simp
structure TextOk (ops : Array Oper) : Prop where
  back : ∀ (i : Nat) (o : Oper),ops[i]? = some o → ∀ e ∈ o.after,Region.binds .any e = true → e.on < i
  one : ∀ (i j : Nat) (o u : Oper) (t : Tmp),j ≠ i → ops[i]? = some o → ops[j]? = some u → u.dst = some t → o.dst ≠ some t
  looks : ∀ (i j : Nat) (o u : Oper) (t : Tmp),ops[i]? = some o → ops[j]? = some u → u.dst = some t → t ∈ o.looksAt ops → (j < i ∧ ∃ e ∈ o.after,Region.binds .any e = true ∧ e.on = j) ∨ (i < j ∧ ∃ e ∈ u.after,Region.binds .any e = true ∧ e.on = i)
  nosel : Region.noSelect ops = true
theorem textOk_spec (h : textOk ops = true) : TextOk ops:=by
  unfold textOk at h
  rw [Bool.and_eq_true,List.all_eq_true] at h
  obtain ⟨h0,h⟩:=h
  have hi : ∀ (i : Nat) (o : Oper),ops[i]? = some o → _:=fun i o ho => by
    have:=h i (List.mem_range.2 (Array.getElem?_eq_some_iff.1 ho).1)
    rw [ho] at this
    simp only [Bool.and_eq_true,List.all_eq_true] at this
    exact this
  have hj : ∀ (i j : Nat) (o u : Oper) (t : Tmp),ops[i]? = some o → ops[j]? = some u → u.dst = some t → _:=fun i j o u t ho hu ht => by
    have:=(hi i o ho).2 j (List.mem_range.2 (Array.getElem?_eq_some_iff.1 hu).1)
    simp only [hu,ht,Bool.and_eq_true,Bool.or_eq_true,beq_iff_eq,bne_iff_ne,Bool.not_eq_true',decide_eq_true_eq,List.any_eq_true,Array.mem_toList_iff] at this
    exact this
  refine ⟨fun i o ho e he hb => ?_,fun i j o u t hji ho hu ht => ?_,fun i j o u t ho hu ht hl => ?_,h0⟩
  · have:=(hi i o ho).1
    rw [Array.all_eq_true_iff_forall_mem] at this
    have:=this e he
    simpa [hb] using this
  · exact (hj i j o u t ho hu ht).1.resolve_left (fun e => hji e.symm)
  · rcases (hj i j o u t ho hu ht).2 with (h1 | h1) | h1
    · simp at h1
      exact absurd hl h1
    · obtain ⟨a,e,he,hb,hon⟩:=h1
      exact .inl ⟨a,e,he,hb,hon⟩
    · obtain ⟨a,e,he,hb,hon⟩:=h1
      exact .inr ⟨a,e,he,hb,hon⟩
theorem TextH.parts : ∀ {L : List Oper} {a : Act},TextH P ops S Q L a → (∃ w,S w) → ∃ vs : List Value,vs.length = L.length ∧
    (∀ i (o : Oper),L[i]? = some o → ∃ v,vs[i]? = some v ∧ StepH P ops S o (((L.take i).zip vs).foldl (fun a p => a.put p.1.dst p.2) a) ((((L.take i).zip vs).foldl (fun a p => a.put p.1.dst p.2) a).put o.dst v)) ∧
    ∀ w,S w → Q .normal ((L.zip vs).foldl (fun a p => a.put p.1.dst p.2) a) w
  | [],a,h,_ => ⟨[],rfl,by simp,h⟩
  | o :: L,a,⟨a1,h1,hd,h2⟩,hw => by
    obtain ⟨w,hw'⟩:=hw
    obtain ⟨v,rfl⟩:=h1.value hd hw'
    obtain ⟨vs,e1,e2,e3⟩:=TextH.parts h2 ⟨w,hw'⟩
    refine ⟨v :: vs,by simp [e1],fun i u hu => ?_,e3⟩
    cases i with
    | zero =>
      simp only [List.getElem?_cons_zero,Option.some.injEq] at hu
      subst hu
      exact ⟨v,rfl,h1⟩
    | succ i =>
      simp only [List.getElem?_cons_succ] at hu
      obtain ⟨x,hx,hs⟩:=e2 i u hu
      exact ⟨x,by simpa using hx,hs⟩
theorem wanted_agree {o : Oper} {f g : Act} (h : ∀ t ∈ o.looksAt ops,f.tmps[t]? = g.tmps[t]?) : Region.wanted o (yielded ops f.tmps) = Region.wanted o (yielded ops g.tmps):=by
  unfold Region.wanted
  cases hg : o.guard with
  | none => rfl
  | some gw =>
    obtain ⟨g0,want⟩:=gw
    simp only
    have : yielded ops f.tmps g0 = yielded ops g.tmps g0:=by
      unfold yielded
      cases ht : (ops[g0]?).bind (·.dst) with
      | none => rfl
      | some t => simp only [Option.bind_some]; rw [h t (by simp [Oper.looksAt,hg,ht])]
    rw [this]
theorem eval_agree {o : Oper} {f g : Act} (h : ∀ t ∈ o.looksAt ops,f.tmps[t]? = g.tmps[t]?) : ∀ x ∈ o.op.operands,f.eval x = g.eval x:=by
  intro x hx
  cases x with
  | tmp t =>
    have:=h t (List.mem_append_left _ (List.mem_filterMap.2 ⟨.tmp t,by simpa using hx,rfl⟩))
    simp only [Act.eval,Array.getD_eq_getD_getElem?,this]
  | _ => rfl
theorem wpAny_text (hok : TextOk ops) {a : Act} {vs : List Value}
    (hstep : ∀ i (o : Oper),ops[i]? = some o → ∃ v,vs[i]? = some v ∧ ∃ f,Matches ops (fun j => vs.getD j undef) a (fun j => decide (j < i)) f ∧ StepH P ops S o f (f.put o.dst v))
    (hend : ∃ f,Matches ops (fun j => vs.getD j undef) a (fun j => decide (j < ops.size)) f ∧ ∀ w,S w → Q .normal f w) :
    ∀ (fuel : Nat) (listed : Array Bool) (f : Act) (w : World),listed.size = ops.size → Closed ops listed → (List.range ops.size).countP (fun i => !listed.getD i true) = fuel →
      Matches ops (fun j => vs.getD j undef) a (fun j => listed.getD j false) f → S w → wpAny P .any ops Q fuel listed f w:=by
  have hall : ∀ (listed : Array Bool) (f : Act) (w : World),listed.size = ops.size → (∀ i,i < ops.size → listed.getD i false = true) → Matches ops (fun j => vs.getD j undef) a (fun j => listed.getD j false) f → S w → Q .normal f w:=by
    intro listed f w hsz hl hm hw
    obtain ⟨g,hg,hq⟩:=hend
    have : f = g:=by
      refine Matches.eq hm ⟨hg.defers,hg.size,fun t j o hj => hg.done t j o ?_,fun t ht => hg.left t fun j o hj ho => ht j o ?_ ho⟩
      · by_cases hjn : j < ops.size
        · simpa using hjn
        · simp only [Array.getD_eq_getD_getElem?,Array.getElem?_eq_none (show listed.size ≤ j by omega)] at hj
          cases hj
      · exact hl j (by simpa using hj)
    rw [this]
    exact hq w hw
  have hnil : ∀ listed : Array Bool,listed.size = ops.size → Region.ready .any ops listed = [] → ∀ i,i < ops.size → listed.getD i false = true:=by
    intro listed hsz hr i
    induction i using Nat.strongRecOn with
    | _ i ih =>
      intro hi
      cases hc : listed.getD i false with
      | true => rfl
      | false =>
        exfalso
        have : i ∈ Region.ready .any ops listed:=mem_ready.2 ⟨hi,by rw [getD_lt (by omega)]; exact hc,ops[i],Array.getElem?_eq_getElem hi,fun e he hb => by
          have:=hok.back i ops[i] (Array.getElem?_eq_getElem hi) e he hb
          exact ih e.on this (by omega)⟩
        rw [hr] at this
        cases this
  intro fuel
  induction fuel with
  | zero =>
    intro listed f w hsz hcl hcnt hm hw
    have hl : ∀ i,i < ops.size → listed.getD i false = true:=fun i hi => by
      have:=List.countP_eq_zero.1 hcnt i (List.mem_range.2 hi)
      rw [getD_lt (by omega)] at this
      simpa using this
    refine ⟨?_,hall listed f w hsz hl hm hw⟩
    cases hr : Region.ready .any ops listed with
    | nil => rfl
    | cons i r =>
      have:=mem_ready.1 (show i ∈ Region.ready .any ops listed by rw [hr]; simp)
      rw [getD_lt (by omega),hl i this.1] at this
      cases this.2.1
  | succ fuel ih =>
    intro listed f w hsz hcl hcnt hm hw
    refine ⟨fun hr => hall listed f w hsz (hnil listed hsz hr) hm hw,fun i hi => ?_⟩
    obtain ⟨hlt,hun,o,ho,hpre⟩:=mem_ready.1 hi
    have hun' : listed.getD i false = false:=by rw [← getD_lt (by omega)]; exact hun
    obtain ⟨v,hv,g,hg,hst⟩:=hstep i o ho
    have hvd : vs.getD i undef = v:=by rw [List.getD_eq_getElem?_getD,hv]; rfl
    have hagree : ∀ t ∈ o.looksAt ops,f.tmps[t]? = g.tmps[t]?:=fun t ht => hm.agree hg fun j u hu hut => by
      rcases hok.looks i j o u t ho hu hut ht with ⟨hji,e,he,hb,rfl⟩ | ⟨hij,e,he,hb,rfl⟩
      · rw [hpre e he hb]; simpa using hji
      · have : listed.getD j false = false:=by
          cases hc : listed.getD j false with
          | false => rfl
          | true => have:=hcl j u hu hc e he hb; rw [hun'] at this; cases this
        rw [this]
        simp
        omega
    have hgs : f.tmps.size = g.tmps.size:=hm.size.trans hg.size.symm
    refine hst.at ho (Region.noSelect_spec hok.nosel i o · · ho) hgs (eval_agree hagree) (wanted_agree hagree) hw fun w' hw' => ?_
    refine ih (listed.setIfInBounds i true) (f.put o.dst v) w' (by simpa using hsz) ?_ ?_ ?_ hw'
    · intro j u hu hj e he hb
      rw [getD_set _ _ _ (by omega)] at hj ⊢
      by_cases hji : j = i
      · subst hji
        rw [ho] at hu
        cases hu
        rw [hpre e he hb]
        rfl
      · have : listed.getD j false = true:=by simpa [hji] using hj
        rw [hcl j u hu this e he hb]
        rfl
    · have:=countP_drop (p:=fun j => !listed.getD j true) (q:=fun j => !(listed.setIfInBounds i true).getD j true) (i:=i) (by simp [hun]) (by
        simp only [Array.getD_eq_getD_getElem?,Array.getElem?_setIfInBounds_self_of_lt (show i < listed.size by omega)]; rfl) (fun j hj => by
        simp only [Array.getD_eq_getD_getElem?,Array.getElem?_setIfInBounds_ne (Ne.symm hj)]) (List.nodup_range (n:=ops.size)) (List.mem_range.2 hlt)
      omega
    · rw [← hvd]
      exact hm.put ho (fun j => getD_set _ _ _ (by omega)) (fun j u t hji hu hut => hok.one i j o u t hji ho hu hut)
theorem zip_snoc : ∀ (L : List Oper) (o : Oper) (vs : List Value),L.length < vs.length → (L ++ [o]).zip vs = L.zip vs ++ [(o,vs.getD L.length undef)]
  | [],o,[],h => by simp at h
  | [],o,v :: vs,_ => by simp
  | x :: L,o,[],h => by simp at h
  | x :: L,o,v :: vs,h => by
    have:=zip_snoc L o vs (by simpa using h)
    simp only [List.cons_append,List.zip_cons_cons,this,List.length_cons]
    rfl
theorem foldl_matches (hok : TextOk ops) {a : Act} {vs : List Value} (hlen : vs.length = ops.size) : ∀ i,i ≤ ops.size → Matches ops (fun j => vs.getD j undef) a (fun j => decide (j < i)) (((ops.toList.take i).zip vs).foldl (fun a p => a.put p.1.dst p.2) a):=by
  intro i
  induction i with
  | zero => intro _; simpa using Matches.start _ a
  | succ i ih =>
    intro hi
    have hlt : i < ops.size:=by omega
    have h1:=ih (by omega)
    have e1 : ops.toList.take (i + 1) = ops.toList.take i ++ [ops[i]]:=by
      rw [List.take_succ_eq_append_getElem (by simpa using hlt)]
      simp
    have e2 : (ops.toList.take i ++ [ops[i]]).zip vs = (ops.toList.take i).zip vs ++ [(ops[i],vs.getD i undef)]:=by
      have h2:=zip_snoc (ops.toList.take i) ops[i] vs (by simp; omega)
      have h3 : (ops.toList.take i).length = i:=by simp; omega
      rw [h3] at h2
      exact h2
    rw [e1,e2,List.foldl_append]
    exact h1.put (i:=i) (o:=ops[i]) (Array.getElem?_eq_getElem hlt) (fun j => by rw [Bool.eq_iff_iff]; simp; omega) (fun j u t hji hu hut => hok.one i j ops[i] u t hji (Array.getElem?_eq_getElem hlt) hu hut)
theorem wp_region_text {id : Nat} {a : Act} {w : World} (hm : P.follows .mixedOrders = true) (hok : textOk ops = true) (hS : S w.drew) (h : TextH P ops S Q ops.toList a) : (Code.region id ops true).wp P Q a w:=by
  have hk:=textOk_spec hok
  obtain ⟨vs,e1,e2,e3⟩:=h.parts ⟨_,hS⟩
  have hlen : vs.length = ops.size:=by simpa using e1
  refine wp_region_any hm (wpAny_text (a:=a) (vs:=vs) hk (fun i o ho => ?_) ?_ ops.size (Array.replicate ops.size false) a w.drew (by simp) ?_ ?_ ?_ hS)
  · have hi : i < ops.size:=(Array.getElem?_eq_some_iff.1 ho).1
    obtain ⟨v,hv,hs⟩:=e2 i o (by simpa using ho)
    exact ⟨v,hv,_,foldl_matches hk hlen i (by omega),hs⟩
  · have:=foldl_matches (a:=a) hk hlen ops.size (Nat.le_refl _)
    rw [List.take_of_length_le (by simp)] at this
    exact ⟨_,this,e3⟩
  · intro j o ho hj
    simp only [Array.getD_eq_getD_getElem?,Array.getElem?_replicate] at hj
    split at hj <;> cases hj
  · rw [List.countP_eq_length.2]
    · simp
    · intro i hi
      have:=List.mem_range.1 hi
      simp [Array.getD_eq_getD_getElem?,this]
  · have : (fun j => (Array.replicate ops.size false).getD j false) = fun _ => false:=by
      funext j
      simp [Array.getD_eq_getD_getElem?,Array.getElem?_replicate]
      split <;> rfl
    rw [this]
    exact Matches.start _ a
theorem if_wanted {b : Bool} {p q : Prop} (h : b = true) (hp : p) : if b = true then p else q:=by rw [if_pos h]; exact hp
theorem if_unwanted {b : Bool} {p q : Prop} (h : b = false) (hq : q) : if b = true then p else q:=by rw [if_neg (by simp [h])]; exact hq
end
end
end Go.Proofs.YtangbdahnmomlaaGreatDoor
