/- A region whose order is drawn and that holds calls in a line: whatever is not a call leaves the world as it is, and what is not bound behind a call is laid ahead of it. No condition. -/
import Derived.Test.YtcffickkipicbaaGreatDoorReg
set_option linter.unusedSimpArgs false
set_option linter.unusedVariables false
set_option linter.unnecessarySimpa false
namespace Go.Proofs.YtcffickkipicbaaGreatDoor
open Go.RowKit

section
variable {P : Program} {ops : Array Oper} {Q : Exit → Act → World → Prop}
/-- In every world that meets S the operation leads from a to a1, and leaves the world. -/
def StepP (P : Program) (ops : Array Oper) (S : World → Prop) (o : Oper) (a a1 : Act) : Prop :=
  ∀ w, S w → ∀ K : Act → World → Prop, Hid (K a1 w) → if Region.wanted o (yielded ops a.tmps) = true then o.wp P a w K noQ else K (a.put o.dst undef) w
theorem StepP.one {S : World → Prop} {o : Oper} {a a1 : Act} (h : StepP P ops S o a a1) {w : World} (hw : S w) : StepH P ops (fun x => x = w) o a a1 :=
  fun x hx K hK => by subst hx; exact h x hw K (hK.out x rfl)
theorem StepP.mono {S S2 : World → Prop} {o : Oper} {a a1 : Act} (h : StepP P ops S o a a1) (hs : ∀ x, S2 x → S x) : StepP P ops S2 o a a1 := fun w hw => h w (hs w hw)
def ChainH (P : Program) (ops : Array Oper) (Q : Exit → Act → World → Prop) (cl : Nat → Bool) : List Nat → (World → Prop) → Act → Prop
  | [], S, a => ∀ w, S w → Q .normal a w
  | i :: r, S, a => ∃ o, ops[i]? = some o ∧
      ((∃ a1, StepP P ops S o a a1 ∧ a1.defers = a.defers ∧ ChainH P ops Q cl r S a1) ∨
       (cl i = true ∧ Region.wanted o (yielded ops a.tmps) = true ∧ ∀ w, S w → o.wp P a w (fun a2 w2 => a2.defers = a.defers ∧ ∃ S2 : World → Prop, S2 w2 ∧ (∀ x, S2 x → S x) ∧ ChainH P ops Q cl r S2 a2) noQ))

theorem ChainH.callStep {cl : Nat → Bool} {S : World → Prop} {i : Nat} {r : List Nat} {a : Act} {o : Oper} (ho : ops[i]? = some o) (hc : cl i = true) (hw : Region.wanted o (yielded ops a.tmps) = true)
    (h : ∀ w, S w → ∀ R : Act → World → Prop, Hid (∀ a2 w2, a2.defers = a.defers → ∀ S2 : World → Prop, S2 w2 → (∀ x, S2 x → S x) → ChainH P ops Q cl r S2 a2 → R a2 w2) → o.wp P a w R noQ) : ChainH P ops Q cl (i :: r) S a :=
  ⟨o, ho, .inr ⟨hc, hw, fun w hS => h w hS _ (Lib.hid fun _ _ h1 S2 h2 h3 h4 => ⟨h1, S2, h2, h3, h4⟩)⟩⟩

/-- What must hold of the edges, ord being the order in which the proof walks. -/
def chainOk (ops : Array Oper) (ord : List Nat) (cl : Nat → Bool) : Bool :=
  Region.noSelect ops && ((List.range ord.length).all fun p => match ord[p]? with | some i => decide (i < ops.size) && ord.idxOf i == p | none => false) &&
  (List.range ops.size).all fun i => ord[ord.idxOf i]? == some i && match ops[i]? with
    | none => true
    | some o => o.after.all (fun e => !Region.binds .any e || decide (ord.idxOf e.on < ord.idxOf i)) &&
      ((List.range ops.size).all fun c => !cl c || !decide (ord.idxOf c < ord.idxOf i) || o.after.toList.any fun e => Region.binds .any e && decide (ord.idxOf c ≤ ord.idxOf e.on)) &&
      (List.range ops.size).all fun j => match ops[j]? with
        | none => true
        | some u => match u.dst with
          | none => true
          | some t => (i == j || o.dst != some t) &&
            (!(o.looksAt ops).contains t || (decide (ord.idxOf j < ord.idxOf i) && o.after.toList.any (fun e => Region.binds .any e && e.on == j)) || (decide (ord.idxOf i < ord.idxOf j) && u.after.toList.any (fun e => Region.binds .any e && e.on == i)))
structure ChainOk (ops : Array Oper) (ord : List Nat) (cl : Nat → Bool) : Prop where
  place : ∀ p i, ord[p]? = some i → i < ops.size ∧ ord.idxOf i = p
  perm : ∀ i, i < ops.size → ord[ord.idxOf i]? = some i
  back : ∀ (i : Nat) (o : Oper), ops[i]? = some o → ∀ e ∈ o.after, Region.binds .any e = true → ord.idxOf e.on < ord.idxOf i
  call : ∀ (i c : Nat) (o : Oper), ops[i]? = some o → c < ops.size → cl c = true → ord.idxOf c < ord.idxOf i → ∃ e ∈ o.after, Region.binds .any e = true ∧ ord.idxOf c ≤ ord.idxOf e.on
  one : ∀ (i j : Nat) (o u : Oper) (t : Tmp), j ≠ i → ops[i]? = some o → ops[j]? = some u → u.dst = some t → o.dst ≠ some t
  looks : ∀ (i j : Nat) (o u : Oper) (t : Tmp), ops[i]? = some o → ops[j]? = some u → u.dst = some t → t ∈ o.looksAt ops → (ord.idxOf j < ord.idxOf i ∧ ∃ e ∈ o.after, Region.binds .any e = true ∧ e.on = j) ∨ (ord.idxOf i < ord.idxOf j ∧ ∃ e ∈ u.after, Region.binds .any e = true ∧ e.on = i)
  nosel : Region.noSelect ops = true
theorem chainOk_spec {ord : List Nat} {cl : Nat → Bool} (h : chainOk ops ord cl = true) : ChainOk ops ord cl := by
  unfold chainOk at h
  rw [Bool.and_eq_true, Bool.and_eq_true, List.all_eq_true, List.all_eq_true] at h
  obtain ⟨⟨h0, hl0⟩, h⟩ := h
  have hl : ∀ p i, ord[p]? = some i → i < ops.size ∧ ord.idxOf i = p := fun p i hp => by
    have := hl0 p (List.mem_range.2 (List.getElem?_eq_some_iff.1 hp).1)
    rw [hp] at this
    simpa using this
  have hp : ∀ i, i < ops.size → ord[ord.idxOf i]? = some i := fun i hi => by
    have := h i (List.mem_range.2 hi)
    rw [Bool.and_eq_true, beq_iff_eq] at this
    exact this.1
  have hi : ∀ (i : Nat) (o : Oper), ops[i]? = some o → _ := fun i o ho => by
    have := h i (List.mem_range.2 (Array.getElem?_eq_some_iff.1 ho).1)
    rw [Bool.and_eq_true] at this
    have := this.2
    rw [ho] at this
    simp only [Bool.and_eq_true, List.all_eq_true] at this
    exact this
  have hj : ∀ (i j : Nat) (o u : Oper) (t : Tmp), ops[i]? = some o → ops[j]? = some u → u.dst = some t → _ := fun i j o u t ho hu ht => by
    have := (hi i o ho).2 j (List.mem_range.2 (Array.getElem?_eq_some_iff.1 hu).1)
    simp only [hu, ht, Bool.and_eq_true, Bool.or_eq_true, beq_iff_eq, bne_iff_ne, Bool.not_eq_true', decide_eq_true_eq, List.any_eq_true, Array.mem_toList_iff] at this
    exact this
  refine ⟨hl, hp, fun i o ho e he hb => ?_, fun i c o ho hc hcl hlt => ?_, fun i j o u t hji ho hu ht => ?_, fun i j o u t ho hu ht hl => ?_, h0⟩
  · have := (hi i o ho).1.1
    rw [Array.all_eq_true_iff_forall_mem] at this
    have := this e he
    simpa [hb] using this
  · have := (hi i o ho).1.2 c (List.mem_range.2 hc)
    simp only [hcl, hlt, Bool.not_true, Bool.false_or, decide_true, List.any_eq_true, Array.mem_toList_iff, Bool.and_eq_true, decide_eq_true_eq] at this
    obtain ⟨e, he, hb, hle⟩ := this
    exact ⟨e, he, hb, hle⟩
  · exact (hj i j o u t ho hu ht).1.resolve_left (fun e => hji e.symm)
  · rcases (hj i j o u t ho hu ht).2 with (h1 | h1) | h1
    · simp at h1
      exact absurd hl h1
    · obtain ⟨a, e, he, hb, hon⟩ := h1
      exact .inl ⟨a, e, he, hb, hon⟩
    · obtain ⟨a, e, he, hb, hon⟩ := h1
      exact .inr ⟨a, e, he, hb, hon⟩
theorem call_at {o : Oper} {a b : Act} {i : Nat} {R K : Act → World → Prop} (hi : ops[i]? = some o) (hns : ∀ cs b, o.op ≠ .select cs b)
    (hev : ∀ x ∈ o.op.operands, b.eval x = a.eval x) (hwa : Region.wanted o (yielded ops b.tmps) = true) {w : World} (h1 : o.wp P a w R noQ) (hd : ∀ a2 w2, R a2 w2 → a2.defers = a.defers)
    (hK : ∀ v w', R (a.put o.dst v) w' → K (b.put o.dst v) w') : wpOp P ops Q i K b w := by
  unfold wpOp
  simp only [hi, hwa]
  left
  unfold Oper.wp at h1 ⊢
  rw [execOp_congr o hns hev]
  generalize (execOp a.eval o).run P w = r at h1
  cases r with
  | ok n w' =>
    cases n <;> simp only [Oper.upon] at h1 ⊢
    case value u => exact hK _ _ h1
    case skip => exact hK _ _ h1
    case defer d =>
      have := hd _ _ h1
      rw [put_defers] at this
      simp at this
    case enter f args =>
      refine Calls.mono h1 fun e w2 he => ?_
      cases e with
      | returned u => exact hK _ _ he
      | panicked c => exact he.elim
      | outgrown => obtain ⟨_, _, hq⟩ := he; exact hq.elim
    case row r args => exact Rows.mono h1 fun u w2 he => hK _ _ he
  | halt x w' => cases x <;> simp only [Oper.upon] at h1 ⊢ <;> exact h1.elim
theorem Matches.congr {vs us : Nat → Value} {a f : Act} {T U : Nat → Bool} (h : Matches ops vs a T f) (hT : ∀ j, U j = T j) (hv : ∀ j, T j = true → us j = vs j) : Matches ops us a U f :=
  ⟨h.defers, h.size, fun t j o hj ho ht hlt => by rw [hT] at hj; rw [hv j hj]; exact h.done t j o hj ho ht hlt, fun t ht => h.left t fun j o hj ho => ht j o (by rw [hT]; exact hj) ho⟩
/-- What is known up to position K of the order: the values, and what comes there. -/
structure Known (P : Program) (ops : Array Oper) (Q : Exit → Act → World → Prop) (ord : List Nat) (cl : Nat → Bool) (a : Act) (S : World → Prop) (p : Nat) (vs : Nat → Value) (K : Nat) : Prop where
  le : K ≤ ord.length
  step : ∀ (i : Nat) (o : Oper), ops[i]? = some o → p ≤ ord.idxOf i → ord.idxOf i < K → ∃ g, Matches ops vs a (fun j => decide (ord.idxOf j < ord.idxOf i)) g ∧ StepP P ops S o g (g.put o.dst (vs i))
  stop : ∃ g, Matches ops vs a (fun j => decide (ord.idxOf j < K)) g ∧
    ((K = ord.length ∧ ∀ w, S w → Q .normal g w) ∨
     ∃ c o r, ord.drop K = c :: r ∧ ops[c]? = some o ∧ cl c = true ∧ Region.wanted o (yielded ops g.tmps) = true ∧ ∀ w, S w → o.wp P g w (fun a2 w2 => a2.defers = g.defers ∧ ∃ S2 : World → Prop, S2 w2 ∧ (∀ x, S2 x → S x) ∧ ChainH P ops Q cl r S2 a2) noQ)
theorem chain_known {ord : List Nat} {cl : Nat → Bool} (hok : ChainOk ops ord cl) {a0 : Act} {S : World → Prop} (hS : ∃ w, S w) : ∀ (r : List Nat) (p : Nat) (a : Act) (vs : Nat → Value), ord.drop p = r → p ≤ ord.length → Matches ops vs a0 (fun j => decide (ord.idxOf j < p)) a → ChainH P ops Q cl r S a →
    ∃ us K, p ≤ K ∧ (∀ j, ord.idxOf j < p → us j = vs j) ∧ Known P ops Q ord cl a0 S p us K
  | [], p, a, vs, hr, hp, hm, h => by
    have : ord.length ≤ p := List.drop_eq_nil_iff.1 hr
    exact ⟨vs, p, Nat.le_refl _, fun _ _ => rfl, hp, fun i o _ h1 h2 => by omega, a, hm, .inl ⟨by omega, h⟩⟩
  | i :: r, p, a, vs, hr, hp, hm, h => by
    have hlt : p < ord.length := by
      rcases Nat.lt_or_ge p ord.length with h | h
      · exact h
      · rw [List.drop_eq_nil_iff.2 h] at hr; cases hr
    have hpi : ord[p]? = some i := by
      have := congrArg (·[0]?) hr
      simpa using this
    have hr1 : ord.drop (p + 1) = r := by
      rw [← List.drop_drop (i := 1) (j := p)] <;> simp [hr]
    obtain ⟨o, ho, h⟩ := h
    have hin : i < ops.size := (Array.getElem?_eq_some_iff.1 ho).1
    have hidx : ord.idxOf i = p := (hok.place p i hpi).2
    have hnd : ∀ j, ord.idxOf j = p → j = i := fun j e => by
      have h1 : ord.idxOf j < ord.length := by omega
      have h2 : ord[ord.idxOf j]'h1 = j := List.getElem_idxOf h1
      have h3 : ord[ord.idxOf j]? = some j := by rw [List.getElem?_eq_getElem h1, h2]
      rw [e, hpi] at h3
      exact (Option.some.inj h3).symm
    rcases h with ⟨a1, hs, hd, h1⟩ | ⟨hc, hw, hcall⟩
    · obtain ⟨w, hw⟩ := hS
      obtain ⟨v, rfl⟩ := (hs.one hw).value hd rfl
      let vs1 : Nat → Value := fun j => if j = i then v else vs j
      have hv1 : vs1 i = v := if_pos rfl
      have hm0 : Matches ops vs1 a0 (fun j => decide (ord.idxOf j < p)) a := hm.congr (fun _ => rfl) fun j hj => by
        have : j ≠ i := fun e => by subst e; rw [hidx] at hj; simp at hj
        exact if_neg this
      have hm1 : Matches ops vs1 a0 (fun j => decide (ord.idxOf j < p + 1)) (a.put o.dst v) := by
        have := hm0.put (i := i) (o := o) ho (U := fun j => decide (ord.idxOf j < p + 1)) (fun j => by
          rw [Bool.eq_iff_iff, Bool.or_eq_true, decide_eq_true_eq, decide_eq_true_eq, beq_iff_eq]
          constructor
          · intro hj
            rcases Nat.lt_or_ge (ord.idxOf j) p with h | h
            · exact .inl h
            · exact .inr (hnd j (by omega))
          · rintro (hj | rfl)
            · omega
            · omega) (fun j u t hji hu hut => hok.one i j o u t hji ho hu hut)
        rw [hv1] at this
        exact this
      obtain ⟨us, K, hK, hag, hk⟩ := chain_known hok ⟨w, hw⟩ r (p + 1) (a.put o.dst v) vs1 hr1 hlt hm1 h1
      refine ⟨us, K, by omega, fun j hj => (hag j (by omega)).trans (if_neg fun e => by subst e; omega), hk.le, fun j u hu h1 h2 => ?_, hk.stop⟩
      by_cases hj : ord.idxOf j = p
      · have := hnd j hj
        subst this
        rw [ho] at hu
        cases hu
        refine ⟨a, hm.congr (fun t => by rw [hidx]) fun t ht => ?_, by rw [hag j (by omega), hv1]; exact hs⟩
        have ht' : ord.idxOf t < p := by simpa using ht
        exact (hag t (by omega)).trans (if_neg fun e => by subst e; omega)
      · exact hk.step j u hu (by omega) h2
    · exact ⟨vs, p, Nat.le_refl _, fun _ _ => rfl, hp, fun j u _ h1 h2 => by omega, a, hm, .inr ⟨i, o, r, hr, ho, hc, hw, hcall⟩⟩
theorem Matches.weak {vs : Nat → Value} {a f : Act} {T U : Nat → Bool} (h : Matches ops vs a T f) (hT : ∀ j, j < ops.size → U j = T j) : Matches ops vs a U f :=
  ⟨h.defers, h.size, fun t j o hj ho ht hlt => h.done t j o (by rw [← hT j (Array.getElem?_eq_some_iff.1 ho).1]; exact hj) ho ht hlt, fun t ht => h.left t fun j o hj ho => ht j o (by rw [hT j (Array.getElem?_eq_some_iff.1 ho).1]; exact hj) ho⟩
theorem wpAny_chain {ord : List Nat} {cl : Nat → Bool} (hok : ChainOk ops ord cl) {a0 : Act} :
    ∀ (fuel : Nat) (listed : Array Bool) (f : Act) (w : World) (S : World → Prop) (vs : Nat → Value) (K : Nat), listed.size = ops.size → Closed ops listed → (List.range ops.size).countP (fun i => !listed.getD i true) = fuel →
      Matches ops vs a0 (fun j => listed.getD j false) f → S w → (∀ j, j < ops.size → listed.getD j false = true → ord.idxOf j < K) →
      (∀ (i : Nat) (o : Oper), ops[i]? = some o → listed.getD i false = false → ord.idxOf i < K → ∃ g, Matches ops vs a0 (fun j => decide (ord.idxOf j < ord.idxOf i)) g ∧ StepP P ops S o g (g.put o.dst (vs i))) →
      (∃ g, Matches ops vs a0 (fun j => decide (ord.idxOf j < K)) g ∧
        ((K = ord.length ∧ ∀ w, S w → Q .normal g w) ∨
         ∃ c o r, ord.drop K = c :: r ∧ ops[c]? = some o ∧ cl c = true ∧ Region.wanted o (yielded ops g.tmps) = true ∧ ∀ w, S w → o.wp P g w (fun a2 w2 => a2.defers = g.defers ∧ ∃ S2 : World → Prop, S2 w2 ∧ (∀ x, S2 x → S x) ∧ ChainH P ops Q cl r S2 a2) noQ)) →
      wpAny P .any ops Q fuel listed f w := by
  have hlt : ∀ i, i < ops.size → ord.idxOf i < ord.length := fun i hi => (List.getElem?_eq_some_iff.1 (hok.perm i hi)).1
  have hplace : ∀ {K c r}, ord.drop K = c :: r → K < ord.length ∧ c < ops.size ∧ ord.idxOf c = K := fun {K c r} h => by
    have h1 : ord[K]? = some c := by have := congrArg (·[0]?) h; simpa using this
    exact ⟨(List.getElem?_eq_some_iff.1 h1).1, hok.place K c h1⟩
  have hall : ∀ (listed : Array Bool) (f : Act) (w : World) (S : World → Prop) (vs : Nat → Value) (K : Nat), (∀ i, i < ops.size → listed.getD i false = true) → Matches ops vs a0 (fun j => listed.getD j false) f → S w → (∀ j, j < ops.size → listed.getD j false = true → ord.idxOf j < K) →
      (∃ g, Matches ops vs a0 (fun j => decide (ord.idxOf j < K)) g ∧
        ((K = ord.length ∧ ∀ w, S w → Q .normal g w) ∨
         ∃ c o r, ord.drop K = c :: r ∧ ops[c]? = some o ∧ cl c = true ∧ Region.wanted o (yielded ops g.tmps) = true ∧ ∀ w, S w → o.wp P g w (fun a2 w2 => a2.defers = g.defers ∧ ∃ S2 : World → Prop, S2 w2 ∧ (∀ x, S2 x → S x) ∧ ChainH P ops Q cl r S2 a2) noQ)) → Q .normal f w := by
    intro listed f w S vs K hl hm hw hlk hstop
    obtain ⟨g, hg, ⟨rfl, hq⟩ | ⟨c, o, r, hd, _⟩⟩ := hstop
    · have : f = g := hm.eq (hg.weak fun j hj => by rw [hl j hj]; simpa using hlt j hj)
      rw [this]
      exact hq w hw
    · obtain ⟨_, h2, h3⟩ := hplace hd
      have := hlk c h2 (hl c h2)
      omega
  have hnil : ∀ listed : Array Bool, listed.size = ops.size → Region.ready .any ops listed = [] → ∀ m i, i < ops.size → ord.idxOf i = m → listed.getD i false = true := by
    intro listed hsz hr m
    induction m using Nat.strongRecOn with
    | _ m ih =>
      intro i hi him
      cases hc : listed.getD i false with
      | true => rfl
      | false =>
        exfalso
        have : i ∈ Region.ready .any ops listed := mem_ready.2 ⟨hi, by rw [getD_lt (by omega)]; exact hc, ops[i], Array.getElem?_eq_getElem hi, fun e he hb => by
          have hbk := hok.back i ops[i] (Array.getElem?_eq_getElem hi) e he hb
          have hel : ord.idxOf e.on < ord.length := by have := hlt i hi; omega
          have hen : e.on < ops.size := (hok.place (ord.idxOf e.on) e.on (by rw [List.getElem?_eq_getElem hel, List.getElem_idxOf hel])).1
          exact ih (ord.idxOf e.on) (by omega) e.on hen rfl⟩
        rw [hr] at this
        cases this
  intro fuel
  induction fuel with
  | zero =>
    intro listed f w S vs K hsz hcl hcnt hm hw hlk hstep hstop
    have hl : ∀ i, i < ops.size → listed.getD i false = true := fun i hi => by
      have := List.countP_eq_zero.1 hcnt i (List.mem_range.2 hi)
      rw [getD_lt (by omega)] at this
      simpa using this
    refine ⟨?_, hall listed f w S vs K hl hm hw hlk hstop⟩
    cases hr : Region.ready .any ops listed with
    | nil => rfl
    | cons i r =>
      have := mem_ready.1 (show i ∈ Region.ready .any ops listed by rw [hr]; simp)
      rw [getD_lt (by omega), hl i this.1] at this
      cases this.2.1
  | succ fuel ih =>
    intro listed f w S vs K hsz hcl hcnt hm hw hlk hstep hstop
    refine ⟨fun hr => hall listed f w S vs K (fun i hi => hnil listed hsz hr _ i hi rfl) hm hw hlk hstop, fun i hi => ?_⟩
    obtain ⟨hin, hun, o, ho, hpre⟩ := mem_ready.1 hi
    have hun' : listed.getD i false = false := by rw [← getD_lt (by omega)]; exact hun
    have hcl2 : Closed ops (listed.setIfInBounds i true) := by
      intro j u hu hj e he hb
      rw [getD_set _ _ _ (by omega)] at hj ⊢
      by_cases hji : j = i
      · subst hji
        rw [ho] at hu
        cases hu
        rw [hpre e he hb]
        rfl
      · have : listed.getD j false = true := by simpa [hji] using hj
        rw [hcl j u hu this e he hb]
        rfl
    have hcnt2 : (List.range ops.size).countP (fun j => !(listed.setIfInBounds i true).getD j true) = fuel := by
      have := countP_drop (p := fun j => !listed.getD j true) (q := fun j => !(listed.setIfInBounds i true).getD j true) (i := i) (by simp [hun]) (by
        simp only [Array.getD_eq_getD_getElem?, Array.getElem?_setIfInBounds_self_of_lt (show i < listed.size by omega)]; rfl) (fun j hj => by
        simp only [Array.getD_eq_getD_getElem?, Array.getElem?_setIfInBounds_ne (Ne.symm hj)]) (List.nodup_range (n := ops.size)) (List.mem_range.2 hin)
      omega
    have hagree : ∀ g, Matches ops vs a0 (fun j => decide (ord.idxOf j < ord.idxOf i)) g → ∀ t ∈ o.looksAt ops, f.tmps[t]? = g.tmps[t]? := fun g hg t ht => hm.agree hg fun j u hu hut => by
      rcases hok.looks i j o u t ho hu hut ht with ⟨hji, e, he, hb, rfl⟩ | ⟨hij, e, he, hb, rfl⟩
      · rw [hpre e he hb]; simpa using hji
      · have : listed.getD j false = false := by
          cases hc : listed.getD j false with
          | false => rfl
          | true => have := hcl j u hu hc e he hb; rw [hun'] at this; cases this
        rw [this]
        simp
        omega
    rcases Nat.lt_or_ge (ord.idxOf i) K with hiK | hiK
    · obtain ⟨g, hg, hst⟩ := hstep i o ho hun' hiK
      have hgs : f.tmps.size = g.tmps.size := hm.size.trans hg.size.symm
      refine (hst.one hw).at ho (Region.noSelect_spec hok.nosel i o · · ho) hgs (eval_agree (hagree g hg)) (wanted_agree (hagree g hg)) rfl fun w' hw' => ?_
      subst hw'
      refine ih (listed.setIfInBounds i true) (f.put o.dst (vs i)) w' S vs K (by simpa using hsz) hcl2 hcnt2 ?_ hw (fun j hj hjl => ?_) (fun j u hu hjl hjK => ?_) hstop
      · exact hm.put ho (fun j => getD_set _ _ _ (by omega)) (fun j u t hji hu hut => hok.one i j o u t hji ho hu hut)
      · rw [getD_set _ _ _ (by omega), Bool.or_eq_true, beq_iff_eq] at hjl
        rcases hjl with hjl | rfl
        · exact hlk j hj hjl
        · exact hiK
      · rw [getD_set _ _ _ (by omega), Bool.or_eq_false_iff] at hjl
        exact hstep j u hu hjl.1 hjK
    · obtain ⟨g, hg, ⟨rfl, _⟩ | ⟨c, oc, r, hd, hoc, hcc, hwc, hcall⟩⟩ := hstop
      · have := hlt i hin
        omega
      · obtain ⟨hKl, hcn, hcK⟩ := hplace hd
        have hic : i = c := by
          rcases Nat.eq_or_lt_of_le hiK with e | h
          · have h1 := hok.perm i hin
            have h2 := hok.perm c hcn
            rw [← e] at h1
            rw [hcK, h1] at h2
            exact Option.some.inj h2
          · exfalso
            obtain ⟨e, he, hb, hle⟩ := hok.call i c o ho hcn hcc (by omega)
            have hel : ord.idxOf e.on < ord.length := by have := hok.back i o ho e he hb; have := hlt i hin; omega
            have hen : e.on < ops.size := (hok.place (ord.idxOf e.on) e.on (by rw [List.getElem?_eq_getElem hel, List.getElem_idxOf hel])).1
            have := hlk e.on hen (hpre e he hb)
            omega
        subst hic
        rw [ho] at hoc
        cases hoc
        have hg' : Matches ops vs a0 (fun j => decide (ord.idxOf j < ord.idxOf i)) g := hg.congr (fun j => by rw [hcK]) fun _ _ => rfl
        have hwf : Region.wanted o (yielded ops f.tmps) = true := (wanted_agree (hagree g hg')).trans hwc
        have hr1 : ord.drop (K + 1) = r := by rw [← List.drop_drop (i := 1) (j := K)] <;> simp [hd]
        refine call_at ho (Region.noSelect_spec hok.nosel i o · · ho) (eval_agree (hagree g hg')) hwf (hcall w hw) (fun _ _ h => h.1) fun v w' hR => ?_
        obtain ⟨_, S2, hS2, hS2S, hch⟩ := hR
        let vs1 : Nat → Value := fun j => if j = i then v else vs j
        have hv1 : vs1 i = v := if_pos rfl
        have hne : ∀ j, ord.idxOf j < K → vs1 j = vs j := fun j hj => if_neg fun e => by subst e; omega
        have hgm : Matches ops vs1 a0 (fun j => decide (ord.idxOf j < K + 1)) (g.put o.dst v) := by
          have h0 : Matches ops vs1 a0 (fun j => decide (ord.idxOf j < K)) g := hg.congr (fun _ => rfl) fun j hj => hne j (by simpa using hj)
          have := h0.put (i := i) (o := o) ho (U := fun j => decide (ord.idxOf j < K + 1)) (fun j => by
            rw [Bool.eq_iff_iff, Bool.or_eq_true, decide_eq_true_eq, decide_eq_true_eq, beq_iff_eq]
            constructor
            · intro hj
              rcases Nat.lt_or_ge (ord.idxOf j) K with h | h
              · exact .inl h
              · have e : ord.idxOf j = K := by omega
                have h1 : ord.idxOf j < ord.length := by omega
                have h2 : ord[ord.idxOf j]? = some j := by rw [List.getElem?_eq_getElem h1, List.getElem_idxOf h1]
                have h3 := hok.perm i hin
                rw [hcK] at h3
                rw [e, h3] at h2
                exact .inr (Option.some.inj h2).symm
            · rintro (hj | rfl)
              · omega
              · omega) (fun j u t hji hu hut => hok.one i j o u t hji ho hu hut)
          rw [hv1] at this
          exact this
        obtain ⟨us, K2, hK2, hag, hk⟩ := chain_known hok ⟨w', hS2⟩ r (K + 1) (g.put o.dst v) vs1 hr1 hKl hgm hch
        have hus : ∀ j, ord.idxOf j < K → us j = vs j := fun j hj => (hag j (by omega)).trans (hne j hj)
        have husi : us i = v := (hag i (by omega)).trans hv1
        refine ih (listed.setIfInBounds i true) (f.put o.dst v) w' S2 us K2 (by simpa using hsz) hcl2 hcnt2 ?_ hS2 (fun j hj hjl => ?_) (fun j u hu hjl hjK => ?_) hk.stop
        · have h0 : Matches ops us a0 (fun j => listed.getD j false) f := by
            refine ⟨hm.defers, hm.size, fun t j u hj hu ht hlt2 => ?_, hm.left⟩
            rw [hus j (hlk j (Array.getElem?_eq_some_iff.1 hu).1 hj)]
            exact hm.done t j u hj hu ht hlt2
          have := h0.put (i := i) (o := o) ho (U := fun j => (listed.setIfInBounds i true).getD j false) (fun j => getD_set _ _ _ (by omega)) (fun j u t hji hu hut => hok.one i j o u t hji ho hu hut)
          rw [husi] at this
          exact this
        · rw [getD_set _ _ _ (by omega), Bool.or_eq_true, beq_iff_eq] at hjl
          rcases hjl with hjl | rfl
          · have := hlk j hj hjl; omega
          · omega
        · rw [getD_set _ _ _ (by omega), Bool.or_eq_false_iff] at hjl
          rcases Nat.lt_or_ge (ord.idxOf j) K with h | h
          · obtain ⟨g2, h1, h2⟩ := hstep j u hu hjl.1 h
            exact ⟨g2, h1.congr (fun _ => rfl) (fun t ht => hus t (by have : ord.idxOf t < ord.idxOf j := by simpa using ht
                                                                      omega)), by rw [hus j h]; exact h2.mono hS2S⟩
          · have hji : ord.idxOf j ≠ K := fun e => by
              have h1 := hok.perm j (Array.getElem?_eq_some_iff.1 hu).1
              have h3 := hok.perm i hin
              rw [hcK] at h3
              rw [e, h3] at h1
              have := Option.some.inj h1
              subst this
              simp at hjl
            exact hk.step j u hu (by omega) hjK
/-- THE LAW: a region whose order is drawn and that holds calls in a line. -/
theorem wp_region_chain (ord : List Nat) (cl : Nat → Bool) {S : World → Prop} {id : Nat} {a : Act} {w : World} (hm : P.follows .mixedOrders = true) (hok : chainOk ops ord cl = true) (hS : S w.drew) (h : ChainH P ops Q cl ord S a) : (Code.region id ops true).wp P Q a w := by
  have hk := chainOk_spec hok
  obtain ⟨us, K, _, _, hkn⟩ := chain_known hk ⟨_, hS⟩ ord 0 a (fun _ => undef) rfl (Nat.zero_le _) ((Matches.start _ a).congr (fun _ => by simp) fun _ _ => rfl) h
  refine wp_region_any hm (wpAny_chain (a0 := a) hk ops.size (Array.replicate ops.size false) a w.drew S us K (by simp) ?_ ?_ ?_ hS ?_ ?_ hkn.stop)
  · intro j o ho hj
    simp only [Array.getD_eq_getD_getElem?, Array.getElem?_replicate] at hj
    split at hj <;> cases hj
  · rw [List.countP_eq_length.2]
    · simp
    · intro i hi
      have := List.mem_range.1 hi
      simp [Array.getD_eq_getD_getElem?, this]
  · have : (fun j => (Array.replicate ops.size false).getD j false) = fun _ => false := by
      funext j
      simp [Array.getD_eq_getD_getElem?, Array.getElem?_replicate]
      split <;> rfl
    rw [this]
    exact Matches.start _ a
  · intro j _ hj
    simp only [Array.getD_eq_getD_getElem?, Array.getElem?_replicate] at hj
    split at hj <;> cases hj
  · exact fun i o ho _ h2 => hkn.step i o ho (Nat.zero_le _) h2
end
end Go.Proofs.YtcffickkipicbaaGreatDoor
