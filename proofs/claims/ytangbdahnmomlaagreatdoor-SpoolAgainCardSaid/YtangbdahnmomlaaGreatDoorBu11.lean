/- A region whose order is drawn, in which what touches the world stands in a line (calls, new blocks, appends, stores), and all else only reads what stays. No condition. -/
import Derived.Test.YtangbdahnmomlaaGreatDoorBu10
set_option linter.unnecessarySimpa false
set_option linter.unusedSimpArgs false
set_option linter.unusedVariables false
namespace Go.Proofs.YtangbdahnmomlaaGreatDoor
section
open Go.RowKit
section
variable {P : Program} {ops : Array Oper} {Q : Exit → Act → World → Prop}
def stillOp (o : Oper) : Bool:=o.guard.isNone && (match o.op with | .move _ => true | _ => false)
theorem StepP.still {S S2 : World → Prop} {o : Oper} {a a1 : Act} (h : StepP P ops S o a a1) (hs : stillOp o = true) (hne : ∃ w,S w) : StepP P ops S2 o a a1:=by
  obtain ⟨w,hw⟩:=hne
  obtain ⟨d,op,ty,pos,af,gd⟩:=o
  unfold stillOp at hs
  rw [Bool.and_eq_true] at hs
  obtain ⟨hg,ho⟩:=hs
  cases gd with
  | some x => cases hg
  | none =>
    cases op with
    | move x =>
      have h1:=h w hw (fun a' _ => a' = a1) rfl
      intro w2 _ K hK
      rw [if_pos (show Region.wanted ⟨d,.move x,ty,pos,af,none⟩ (yielded ops a.tmps) = true from rfl)] at h1 ⊢
      have e : a.put d (a.eval x) = a1:=h1
      subst e
      exact hK
    | _ => cases ho
def reach (ops : Array Oper) : Nat → List Nat → List Nat
  | 0,l => l
  | n + 1,l => reach ops n (l ++ (l.flatMap fun i => match ops[i]? with | some o => (o.after.toList.filter fun e => Region.binds .any e).map (·.on) | none => [])).eraseDups
theorem reach_listed {listed : Array Bool} {i : Nat} {o : Oper} (ho : ops[i]? = some o) (hcl : Closed ops listed) (hpre : ∀ e ∈ o.after,Region.binds .any e = true → listed.getD e.on false = true) :
    ∀ (n : Nat) (l : List Nat),(∀ x ∈ l,x = i ∨ listed.getD x false = true) → ∀ x ∈ reach ops n l,x = i ∨ listed.getD x false = true
  | 0,_,h,x,hx => h x hx
  | n + 1,l,h,x,hx => by
    refine reach_listed ho hcl hpre n _ (fun y hy => ?_) x hx
    rw [List.mem_eraseDups,List.mem_append] at hy
    rcases hy with hy | hy
    · exact h y hy
    · obtain ⟨j,hj,hy⟩:=List.mem_flatMap.1 hy
      cases hu : ops[j]? with
      | none => rw [hu] at hy; cases hy
      | some u =>
        rw [hu] at hy
        obtain ⟨e,he,rfl⟩:=List.mem_map.1 hy
        obtain ⟨he,hb⟩:=List.mem_filter.1 he
        rcases h j hj with rfl | hl
        · rw [ho] at hu
          cases hu
          exact .inr (hpre e (Array.mem_toList_iff.1 he) hb)
        · exact .inr (hcl j u hu hl e (Array.mem_toList_iff.1 he) hb)
def settled (ops : Array Oper) (ord : List Nat) (i : Nat) : Bool :=
  (List.range ops.size).all fun j => !decide (ord.idxOf j < ord.idxOf i) || (reach ops ops.size [i]).contains j || (match ops[j]? with | some o => stillOp o | none => true)
def settledAll (ops : Array Oper) (ord : List Nat) (st : Nat → Bool) : Bool:=(List.range ops.size).all fun i => !st i || settled ops ord i
def ChainG (P : Program) (ops : Array Oper) (Q : Exit → Act → World → Prop) (cl st : Nat → Bool) : List Nat → (World → Prop) → (World → Prop) → Act → Prop
  | [],_,S,a => ∀ w,S w → Q .normal a w
  | i :: r,T,S,a => ∃ o,ops[i]? = some o ∧
      ((∃ a1,StepP P ops T o a a1 ∧ a1.defers = a.defers ∧ ChainG P ops Q cl st r T S a1) ∨
       (cl i = true ∧ Region.wanted o (yielded ops a.tmps) = true ∧ ∀ w,S w → o.wp P a w (fun a2 w2 => a2.defers = a.defers ∧ ∃ T2 S2 : World → Prop,S2 w2 ∧ (∀ x,S2 x → T2 x) ∧ ((∀ x,T2 x → T x) ∨ st i = true) ∧ ChainG P ops Q cl st r T2 S2 a2) noQ))
theorem ChainG.one {cl st : Nat → Bool} {T S : World → Prop} {i : Nat} {r : List Nat} {a : Act} {o : Oper} (ho : ops[i]? = some o) (hc : cl i = true) (hw : Region.wanted o (yielded ops a.tmps) = true)
    (h : ∀ w,S w → ∀ R : Act → World → Prop,Hid (∀ a2 w2,a2.defers = a.defers → ∀ T2 S2 : World → Prop,S2 w2 → (∀ x,S2 x → T2 x) → (∀ x,T2 x → T x) → ChainG P ops Q cl st r T2 S2 a2 → R a2 w2) → o.wp P a w R noQ) : ChainG P ops Q cl st (i :: r) T S a :=
  ⟨o,ho,.inr ⟨hc,hw,fun w hS => h w hS _ (Lib.hid fun _ _ h1 T2 S2 h2 h3 h4 h5 => ⟨h1,T2,S2,h2,h3,.inl h4,h5⟩)⟩⟩
theorem ChainG.two {cl st : Nat → Bool} {T S : World → Prop} {i : Nat} {r : List Nat} {a : Act} {o : Oper} (ho : ops[i]? = some o) (hc : cl i = true) (hst : st i = true) (hw : Region.wanted o (yielded ops a.tmps) = true)
    (h : ∀ w,S w → ∀ R : Act → World → Prop,Hid (∀ a2 w2,a2.defers = a.defers → ∀ T2 S2 : World → Prop,S2 w2 → (∀ x,S2 x → T2 x) → ChainG P ops Q cl st r T2 S2 a2 → R a2 w2) → o.wp P a w R noQ) : ChainG P ops Q cl st (i :: r) T S a :=
  ⟨o,ho,.inr ⟨hc,hw,fun w hS => h w hS _ (Lib.hid fun _ _ h1 T2 S2 h2 h3 h5 => ⟨h1,T2,S2,h2,h3,.inr hst,h5⟩)⟩⟩
structure KnownG (P : Program) (ops : Array Oper) (Q : Exit → Act → World → Prop) (ord : List Nat) (cl st : Nat → Bool) (a : Act) (T S : World → Prop) (p : Nat) (vs : Nat → Value) (K : Nat) : Prop where
  le : K ≤ ord.length
  step : ∀ (i : Nat) (o : Oper),ops[i]? = some o → p ≤ ord.idxOf i → ord.idxOf i < K → ∃ g,Matches ops vs a (fun j => decide (ord.idxOf j < ord.idxOf i)) g ∧ StepP P ops T o g (g.put o.dst (vs i))
  stop : ∃ g,Matches ops vs a (fun j => decide (ord.idxOf j < K)) g ∧
    ((K = ord.length ∧ ∀ w,S w → Q .normal g w) ∨
     ∃ c o r,ord.drop K = c :: r ∧ ops[c]? = some o ∧ cl c = true ∧ Region.wanted o (yielded ops g.tmps) = true ∧ ∀ w,S w → o.wp P g w (fun a2 w2 => a2.defers = g.defers ∧ ∃ T2 S2 : World → Prop,S2 w2 ∧ (∀ x,S2 x → T2 x) ∧ ((∀ x,T2 x → T x) ∨ st c = true) ∧ ChainG P ops Q cl st r T2 S2 a2) noQ)
theorem chain_knownG {ord : List Nat} {cl st : Nat → Bool} (hok : ChainOk ops ord cl) {a0 : Act} {T S : World → Prop} (hS : ∃ w,T w) : ∀ (r : List Nat) (p : Nat) (a : Act) (vs : Nat → Value),ord.drop p = r → p ≤ ord.length → Matches ops vs a0 (fun j => decide (ord.idxOf j < p)) a → ChainG P ops Q cl st r T S a →
    ∃ us K,p ≤ K ∧ (∀ j,ord.idxOf j < p → us j = vs j) ∧ KnownG P ops Q ord cl st a0 T S p us K
  | [],p,a,vs,hr,hp,hm,h => by
    have : ord.length ≤ p:=List.drop_eq_nil_iff.1 hr
    exact ⟨vs,p,Nat.le_refl _,fun _ _ => rfl,hp,fun i o _ h1 h2 => by omega,a,hm,.inl ⟨by omega,h⟩⟩
  | i :: r,p,a,vs,hr,hp,hm,h => by
    have hlt : p < ord.length:=by
      rcases Nat.lt_or_ge p ord.length with h | h
      · exact h
      · rw [List.drop_eq_nil_iff.2 h] at hr; cases hr
    have hpi : ord[p]? = some i:=by
      have:=congrArg (·[0]?) hr
      simpa using this
    have hr1 : ord.drop (p + 1) = r:=by
      rw [← List.drop_drop (i:=1) (j:=p)] <;> simp [hr]
    obtain ⟨o,ho,h⟩:=h
    have hin : i < ops.size:=(Array.getElem?_eq_some_iff.1 ho).1
    have hidx : ord.idxOf i = p:=(hok.place p i hpi).2
    have hnd : ∀ j,ord.idxOf j = p → j = i:=fun j e => by
      have h1 : ord.idxOf j < ord.length:=by omega
      have h2 : ord[ord.idxOf j]'h1 = j:=List.getElem_idxOf h1
      have h3 : ord[ord.idxOf j]? = some j:=by rw [List.getElem?_eq_getElem h1,h2]
      rw [e,hpi] at h3
      exact (Option.some.inj h3).symm
    rcases h with ⟨a1,hs,hd,h1⟩ | ⟨hc,hw,hcall⟩
    · obtain ⟨w,hw⟩:=hS
      obtain ⟨v,rfl⟩:=(hs.one hw).value hd rfl
      let vs1 : Nat → Value:=fun j => if j = i then v else vs j
      have hv1 : vs1 i = v:=if_pos rfl
      have hm0 : Matches ops vs1 a0 (fun j => decide (ord.idxOf j < p)) a:=hm.congr (fun _ => rfl) fun j hj => by
        have : j ≠ i:=fun e => by subst e; rw [hidx] at hj; simp at hj
        exact if_neg this
      have hm1 : Matches ops vs1 a0 (fun j => decide (ord.idxOf j < p + 1)) (a.put o.dst v):=by
        have:=hm0.put (i:=i) (o:=o) ho (U:=fun j => decide (ord.idxOf j < p + 1)) (fun j => by
          rw [Bool.eq_iff_iff,Bool.or_eq_true,decide_eq_true_eq,decide_eq_true_eq,beq_iff_eq]
          constructor
          · intro hj
            rcases Nat.lt_or_ge (ord.idxOf j) p with h | h
            · exact .inl h
            · exact .inr (hnd j (by omega))
          · rintro (hj | rfl)
            · omega
            · omega) (fun j u t hji hu hut => hok.one i j o u t hji ho hu hut)
        rw [hv1] at this
        exact this
      obtain ⟨us,K,hK,hag,hk⟩:=chain_knownG hok ⟨w,hw⟩ r (p + 1) (a.put o.dst v) vs1 hr1 hlt hm1 h1
      refine ⟨us,K,by omega,fun j hj => (hag j (by omega)).trans (if_neg fun e => by subst e; omega),hk.le,fun j u hu h1 h2 => ?_,hk.stop⟩
      by_cases hj : ord.idxOf j = p
      · have:=hnd j hj
        subst this
        rw [ho] at hu
        cases hu
        refine ⟨a,hm.congr (fun t => by rw [hidx]) fun t ht => ?_,by rw [hag j (by omega),hv1]; exact hs⟩
        have ht' : ord.idxOf t < p:=by simpa using ht
        exact (hag t (by omega)).trans (if_neg fun e => by subst e; omega)
      · exact hk.step j u hu (by omega) h2
    · exact ⟨vs,p,Nat.le_refl _,fun _ _ => rfl,hp,fun j u _ h1 h2 => by omega,a,hm,.inr ⟨i,o,r,hr,ho,hc,hw,hcall⟩⟩
theorem wpAny_chainG {ord : List Nat} {cl st : Nat → Bool} (hok : ChainOk ops ord cl) (hsa : settledAll ops ord st = true) {a0 : Act} :
    ∀ (fuel : Nat) (listed : Array Bool) (f : Act) (w : World) (T S : World → Prop) (vs : Nat → Value) (K : Nat),(∀ x,S x → T x) → listed.size = ops.size → Closed ops listed → (List.range ops.size).countP (fun i => !listed.getD i true) = fuel →
      Matches ops vs a0 (fun j => listed.getD j false) f → S w → (∀ j,j < ops.size → listed.getD j false = true → ord.idxOf j < K) →
      (∀ (i : Nat) (o : Oper),ops[i]? = some o → listed.getD i false = false → ord.idxOf i < K → ∃ g,Matches ops vs a0 (fun j => decide (ord.idxOf j < ord.idxOf i)) g ∧ StepP P ops T o g (g.put o.dst (vs i))) →
      (∃ g,Matches ops vs a0 (fun j => decide (ord.idxOf j < K)) g ∧
        ((K = ord.length ∧ ∀ w,S w → Q .normal g w) ∨
         ∃ c o r,ord.drop K = c :: r ∧ ops[c]? = some o ∧ cl c = true ∧ Region.wanted o (yielded ops g.tmps) = true ∧ ∀ w,S w → o.wp P g w (fun a2 w2 => a2.defers = g.defers ∧ ∃ T2 S2 : World → Prop,S2 w2 ∧ (∀ x,S2 x → T2 x) ∧ ((∀ x,T2 x → T x) ∨ st c = true) ∧ ChainG P ops Q cl st r T2 S2 a2) noQ)) →
      wpAny P .any ops Q fuel listed f w:=by
  have hlt : ∀ i,i < ops.size → ord.idxOf i < ord.length:=fun i hi => (List.getElem?_eq_some_iff.1 (hok.perm i hi)).1
  have hplace : ∀ {K c r},ord.drop K = c :: r → K < ord.length ∧ c < ops.size ∧ ord.idxOf c = K:=fun {K c r} h => by
    have h1 : ord[K]? = some c:=by have:=congrArg (·[0]?) h; simpa using this
    exact ⟨(List.getElem?_eq_some_iff.1 h1).1,hok.place K c h1⟩
  have hall : ∀ (listed : Array Bool) (f : Act) (w : World) (T S : World → Prop) (vs : Nat → Value) (K : Nat),(∀ i,i < ops.size → listed.getD i false = true) → Matches ops vs a0 (fun j => listed.getD j false) f → S w → (∀ j,j < ops.size → listed.getD j false = true → ord.idxOf j < K) →
      (∃ g,Matches ops vs a0 (fun j => decide (ord.idxOf j < K)) g ∧
        ((K = ord.length ∧ ∀ w,S w → Q .normal g w) ∨
         ∃ c o r,ord.drop K = c :: r ∧ ops[c]? = some o ∧ cl c = true ∧ Region.wanted o (yielded ops g.tmps) = true ∧ ∀ w,S w → o.wp P g w (fun a2 w2 => a2.defers = g.defers ∧ ∃ T2 S2 : World → Prop,S2 w2 ∧ (∀ x,S2 x → T2 x) ∧ ((∀ x,T2 x → T x) ∨ st c = true) ∧ ChainG P ops Q cl st r T2 S2 a2) noQ)) → Q .normal f w:=by
    intro listed f w T S vs K hl hm hw hlk hstop
    obtain ⟨g,hg,⟨rfl,hq⟩ | ⟨c,o,r,hd,_⟩⟩:=hstop
    · have : f = g:=hm.eq (hg.weak fun j hj => by rw [hl j hj]; simpa using hlt j hj)
      rw [this]
      exact hq w hw
    · obtain ⟨_,h2,h3⟩:=hplace hd
      have:=hlk c h2 (hl c h2)
      omega
  have hnil : ∀ listed : Array Bool,listed.size = ops.size → Region.ready .any ops listed = [] → ∀ m i,i < ops.size → ord.idxOf i = m → listed.getD i false = true:=by
    intro listed hsz hr m
    induction m using Nat.strongRecOn with
    | _ m ih =>
      intro i hi him
      cases hc : listed.getD i false with
      | true => rfl
      | false =>
        exfalso
        have : i ∈ Region.ready .any ops listed:=mem_ready.2 ⟨hi,by rw [getD_lt (by omega)]; exact hc,ops[i],Array.getElem?_eq_getElem hi,fun e he hb => by
          have hbk:=hok.back i ops[i] (Array.getElem?_eq_getElem hi) e he hb
          have hel : ord.idxOf e.on < ord.length:=by have:=hlt i hi; omega
          have hen : e.on < ops.size:=(hok.place (ord.idxOf e.on) e.on (by rw [List.getElem?_eq_getElem hel,List.getElem_idxOf hel])).1
          exact ih (ord.idxOf e.on) (by omega) e.on hen rfl⟩
        rw [hr] at this
        cases this
  intro fuel
  induction fuel with
  | zero =>
    intro listed f w T S vs K hST hsz hcl hcnt hm hw hlk hstep hstop
    have hl : ∀ i,i < ops.size → listed.getD i false = true:=fun i hi => by
      have:=List.countP_eq_zero.1 hcnt i (List.mem_range.2 hi)
      rw [getD_lt (by omega)] at this
      simpa using this
    refine ⟨?_,hall listed f w T S vs K hl hm hw hlk hstop⟩
    cases hr : Region.ready .any ops listed with
    | nil => rfl
    | cons i r =>
      have:=mem_ready.1 (show i ∈ Region.ready .any ops listed by rw [hr]; simp)
      rw [getD_lt (by omega),hl i this.1] at this
      cases this.2.1
  | succ fuel ih =>
    intro listed f w T S vs K hST hsz hcl hcnt hm hw hlk hstep hstop
    refine ⟨fun hr => hall listed f w T S vs K (fun i hi => hnil listed hsz hr _ i hi rfl) hm hw hlk hstop,fun i hi => ?_⟩
    obtain ⟨hin,hun,o,ho,hpre⟩:=mem_ready.1 hi
    have hun' : listed.getD i false = false:=by rw [← getD_lt (by omega)]; exact hun
    have hcl2 : Closed ops (listed.setIfInBounds i true):=by
      intro j u hu hj e he hb
      rw [getD_set _ _ _ (by omega)] at hj ⊢
      by_cases hji : j = i
      · subst hji
        rw [ho] at hu
        cases hu
        rw [hpre e he hb]
        rfl
      · have : listed.getD j false = true:=by simpa [hji] using hj
        rw [hcl j u hu this e he hb]
        rfl
    have hcnt2 : (List.range ops.size).countP (fun j => !(listed.setIfInBounds i true).getD j true) = fuel:=by
      have:=countP_drop (p:=fun j => !listed.getD j true) (q:=fun j => !(listed.setIfInBounds i true).getD j true) (i:=i) (by simp [hun]) (by
        simp only [Array.getD_eq_getD_getElem?,Array.getElem?_setIfInBounds_self_of_lt (show i < listed.size by omega)]; rfl) (fun j hj => by
        simp only [Array.getD_eq_getD_getElem?,Array.getElem?_setIfInBounds_ne (Ne.symm hj)]) (List.nodup_range (n:=ops.size)) (List.mem_range.2 hin)
      omega
    have hagree : ∀ g,Matches ops vs a0 (fun j => decide (ord.idxOf j < ord.idxOf i)) g → ∀ t ∈ o.looksAt ops,f.tmps[t]? = g.tmps[t]?:=fun g hg t ht => hm.agree hg fun j u hu hut => by
      rcases hok.looks i j o u t ho hu hut ht with ⟨hji,e,he,hb,rfl⟩ | ⟨hij,e,he,hb,rfl⟩
      · rw [hpre e he hb]; simpa using hji
      · have : listed.getD j false = false:=by
          cases hc : listed.getD j false with
          | false => rfl
          | true => have:=hcl j u hu hc e he hb; rw [hun'] at this; cases this
        rw [this]
        simp
        omega
    rcases Nat.lt_or_ge (ord.idxOf i) K with hiK | hiK
    · obtain ⟨g,hg,hst⟩:=hstep i o ho hun' hiK
      have hgs : f.tmps.size = g.tmps.size:=hm.size.trans hg.size.symm
      refine (hst.one (hST w hw)).at ho (Region.noSelect_spec hok.nosel i o · · ho) hgs (eval_agree (hagree g hg)) (wanted_agree (hagree g hg)) rfl fun w' hw' => ?_
      subst hw'
      refine ih (listed.setIfInBounds i true) (f.put o.dst (vs i)) w' T S vs K hST (by simpa using hsz) hcl2 hcnt2 ?_ hw (fun j hj hjl => ?_) (fun j u hu hjl hjK => ?_) hstop
      · exact hm.put ho (fun j => getD_set _ _ _ (by omega)) (fun j u t hji hu hut => hok.one i j o u t hji ho hu hut)
      · rw [getD_set _ _ _ (by omega),Bool.or_eq_true,beq_iff_eq] at hjl
        rcases hjl with hjl | rfl
        · exact hlk j hj hjl
        · exact hiK
      · rw [getD_set _ _ _ (by omega),Bool.or_eq_false_iff] at hjl
        exact hstep j u hu hjl.1 hjK
    · obtain ⟨g,hg,⟨rfl,_⟩ | ⟨c,oc,r,hd,hoc,hcc,hwc,hcall⟩⟩:=hstop
      · have:=hlt i hin
        omega
      · obtain ⟨hKl,hcn,hcK⟩:=hplace hd
        have hic : i = c:=by
          rcases Nat.eq_or_lt_of_le hiK with e | h
          · have h1:=hok.perm i hin
            have h2:=hok.perm c hcn
            rw [← e] at h1
            rw [hcK,h1] at h2
            exact Option.some.inj h2
          · exfalso
            obtain ⟨e,he,hb,hle⟩:=hok.call i c o ho hcn hcc (by omega)
            have hel : ord.idxOf e.on < ord.length:=by have:=hok.back i o ho e he hb; have:=hlt i hin; omega
            have hen : e.on < ops.size:=(hok.place (ord.idxOf e.on) e.on (by rw [List.getElem?_eq_getElem hel,List.getElem_idxOf hel])).1
            have:=hlk e.on hen (hpre e he hb)
            omega
        subst hic
        rw [ho] at hoc
        cases hoc
        have hg' : Matches ops vs a0 (fun j => decide (ord.idxOf j < ord.idxOf i)) g:=hg.congr (fun j => by rw [hcK]) fun _ _ => rfl
        have hwf : Region.wanted o (yielded ops f.tmps) = true:=(wanted_agree (hagree g hg')).trans hwc
        have hr1 : ord.drop (K + 1) = r:=by rw [← List.drop_drop (i:=1) (j:=K)] <;> simp [hd]
        refine call_at ho (Region.noSelect_spec hok.nosel i o · · ho) (eval_agree (hagree g hg')) hwf (hcall w hw) (fun _ _ h => h.1) fun v w' hR => ?_
        obtain ⟨_,T2,S2,hS2,hS2T,hT2T,hch⟩:=hR
        let vs1 : Nat → Value:=fun j => if j = i then v else vs j
        have hv1 : vs1 i = v:=if_pos rfl
        have hne : ∀ j,ord.idxOf j < K → vs1 j = vs j:=fun j hj => if_neg fun e => by subst e; omega
        have hgm : Matches ops vs1 a0 (fun j => decide (ord.idxOf j < K + 1)) (g.put o.dst v):=by
          have h0 : Matches ops vs1 a0 (fun j => decide (ord.idxOf j < K)) g:=hg.congr (fun _ => rfl) fun j hj => hne j (by simpa using hj)
          have:=h0.put (i:=i) (o:=o) ho (U:=fun j => decide (ord.idxOf j < K + 1)) (fun j => by
            rw [Bool.eq_iff_iff,Bool.or_eq_true,decide_eq_true_eq,decide_eq_true_eq,beq_iff_eq]
            constructor
            · intro hj
              rcases Nat.lt_or_ge (ord.idxOf j) K with h | h
              · exact .inl h
              · have e : ord.idxOf j = K:=by omega
                have h1 : ord.idxOf j < ord.length:=by omega
                have h2 : ord[ord.idxOf j]? = some j:=by rw [List.getElem?_eq_getElem h1,List.getElem_idxOf h1]
                have h3:=hok.perm i hin
                rw [hcK] at h3
                rw [e,h3] at h2
                exact .inr (Option.some.inj h2).symm
            · rintro (hj | rfl)
              · omega
              · omega) (fun j u t hji hu hut => hok.one i j o u t hji ho hu hut)
          rw [hv1] at this
          exact this
        obtain ⟨us,K2,hK2,hag,hk⟩:=chain_knownG hok ⟨w',hS2T _ hS2⟩ r (K + 1) (g.put o.dst v) vs1 hr1 hKl hgm hch
        have hus : ∀ j,ord.idxOf j < K → us j = vs j:=fun j hj => (hag j (by omega)).trans (hne j hj)
        have husi : us i = v:=(hag i (by omega)).trans hv1
        refine ih (listed.setIfInBounds i true) (f.put o.dst v) w' T2 S2 us K2 hS2T (by simpa using hsz) hcl2 hcnt2 ?_ hS2 (fun j hj hjl => ?_) (fun j u hu hjl hjK => ?_) hk.stop
        · have h0 : Matches ops us a0 (fun j => listed.getD j false) f:=by
            refine ⟨hm.defers,hm.size,fun t j u hj hu ht hlt2 => ?_,hm.left⟩
            rw [hus j (hlk j (Array.getElem?_eq_some_iff.1 hu).1 hj)]
            exact hm.done t j u hj hu ht hlt2
          have:=h0.put (i:=i) (o:=o) ho (U:=fun j => (listed.setIfInBounds i true).getD j false) (fun j => getD_set _ _ _ (by omega)) (fun j u t hji hu hut => hok.one i j o u t hji ho hu hut)
          rw [husi] at this
          exact this
        · rw [getD_set _ _ _ (by omega),Bool.or_eq_true,beq_iff_eq] at hjl
          rcases hjl with hjl | rfl
          · have:=hlk j hj hjl; omega
          · omega
        · rw [getD_set _ _ _ (by omega),Bool.or_eq_false_iff] at hjl
          rcases Nat.lt_or_ge (ord.idxOf j) K with h | h
          · obtain ⟨g2,h1,h2⟩:=hstep j u hu hjl.1 h
            exact ⟨g2, h1.congr (fun _ => rfl) (fun t ht => hus t (by have : ord.idxOf t < ord.idxOf j := by simpa using ht
                                                                      omega)),by
              rw [hus j h]
              rcases hT2T with hT2T | hsi
              · exact h2.mono hT2T
              · have hj1:=(Array.getElem?_eq_some_iff.1 hu).1
                have hs1:=List.all_eq_true.1 hsa i (List.mem_range.2 hin)
                rw [hsi,Bool.not_true,Bool.false_or] at hs1
                have hs2:=List.all_eq_true.1 hs1 j (List.mem_range.2 hj1)
                have hlt2 : ord.idxOf j < ord.idxOf i:=by omega
                rw [decide_eq_true hlt2,Bool.not_true,Bool.false_or,Bool.or_eq_true,hu] at hs2
                rcases hs2 with hs2 | hs2
                · exfalso
                  rw [List.contains_iff_mem] at hs2
                  rcases reach_listed ho hcl hpre ops.size [i] (fun x hx => .inl (List.mem_singleton.1 hx)) j hs2 with rfl | h9
                  · omega
                  · rw [hjl.1] at h9; cases h9
                · exact h2.still hs2 ⟨w,hST w hw⟩⟩
          · have hji : ord.idxOf j ≠ K:=fun e => by
              have h1:=hok.perm j (Array.getElem?_eq_some_iff.1 hu).1
              have h3:=hok.perm i hin
              rw [hcK] at h3
              rw [e,h3] at h1
              have:=Option.some.inj h1
              subst this
              simp at hjl
            exact hk.step j u hu (by omega) hjK
theorem wp_region_chainG (ord : List Nat) (cl st : Nat → Bool) {T S : World → Prop} {id : Nat} {a : Act} {w : World} (hm : P.follows .mixedOrders = true) (hok : chainOk ops ord cl = true) (hsa : settledAll ops ord st = true) (hS : S w.drew) (hST : ∀ x,S x → T x) (h : ChainG P ops Q cl st ord T S a) : (Code.region id ops true).wp P Q a w:=by
  have hk:=chainOk_spec hok
  obtain ⟨us,K,_,_,hkn⟩:=chain_knownG hk ⟨_,hST _ hS⟩ ord 0 a (fun _ => undef) rfl (Nat.zero_le _) ((Matches.start _ a).congr (fun _ => by simp) fun _ _ => rfl) h
  refine wp_region_any hm (wpAny_chainG (a0:=a) hk hsa ops.size (Array.replicate ops.size false) a w.drew T S us K hST (by simp) ?_ ?_ ?_ hS ?_ ?_ hkn.stop)
  · intro j o ho hj
    simp only [Array.getD_eq_getD_getElem?,Array.getElem?_replicate] at hj
    split at hj <;> cases hj
  · rw [List.countP_eq_length.2]
    · simp
    · intro i hi
      have:=List.mem_range.1 hi
      simp [Array.getD_eq_getD_getElem?,this]
  · have : (fun j => (Array.replicate ops.size false).getD j false) = fun _ => false:=by
      funext j
      simp [Array.getD_eq_getD_getElem?,Array.getElem?_replicate]
      split <;> rfl
    rw [this]
    exact Matches.start _ a
  · intro j _ hj
    simp only [Array.getD_eq_getD_getElem?,Array.getElem?_replicate] at hj
    split at hj <;> cases hj
  · exact fun i o ho _ h2 => hkn.step i o ho (Nat.zero_le _) h2
end
end
end Go.Proofs.YtangbdahnmomlaaGreatDoor
