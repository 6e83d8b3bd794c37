/- Arrays: a whole row stored, loaded, built. No condition. A region whose order is drawn, walked by what holds behind any part of its operations: one step for each operation, in whatever order. No condition. -/
import Derived.Test.YtcffickkipicbaaGreatDoorSp
import Derived.Laws.Tables
import Derived.Test.YtcffickkipicbaaGreatDoorReg
import Derived.OrdersHeld
/-! Arr -/
set_option linter.unusedSimpArgs false
set_option linter.unusedVariables false
set_option linter.unnecessarySimpa false
namespace Go.Proofs.YtcffickkipicbaaGreatDoor
open Go.RowKit

section
variable {w0 w : World} {F0 : List Nat} {L : List Res} {v : Value}
theorem Ext.setRow {F : List Nat} {w w2 : World} (h : Ext F w w2) {g : Nat} (hg : g ∈ F ∨ w.heap.size ≤ g) (c : Array Value) : Ext F w (w2.setRow g c) :=
  ⟨h.1, h.2, h.3, by simpa using h.4, fun k hk hkF => by rw [setRow_other w2 g k c (fun e => by subst e; rcases hg with hg | hg; exact hkF hg; omega)]; exact h.5 k hk hkF⟩
theorem Sp.setRow {b : Nat} {c : Array Value} {T : TypeId} (h : Sp w0 F0 w (boxR b c T :: L)) (c' : Array Value) : Sp w0 F0 (w.setRow b c') (boxR b c' T :: L) := by
  obtain ⟨F, ⟨rfl, h1⟩, h2⟩ := h.take
  exact h2 _ _ [b] ⟨rfl, setRow_heap w b c c' T (0, 0) h1⟩ (Moved.of_ext ((Ext.refl _ w).setRow (by simp) c'))
theorem wpList_built {P : Program} {ops : Array Oper} {rest : List Oper} {o : Oper} {a : Act} {w : World} {Q : Exit → Act → World → Prop} (hg : o.guard = none) (t : TypeId) (parts : Array (Nat × Operand)) (ho : o.op = .build t parts) (cells : Array Value)
    (hc : P.built t (parts.map fun (i, x) => (i, a.eval x)).toList = some cells) (h : wpList P ops Q rest (a.put o.dst (.agg cells)) w) : wpList P ops Q (o :: rest) a w :=
  wpList_build hg t parts ho (by rw [hc]; rfl) (by rw [hc]; exact h)
theorem Calls.spA {Pg : Program} {f : FuncId} {args : Array Value} {P : Ending → Prop} (h : Calls Pg f args w fun e w2 => P e ∧ Ext [] w w2) (S : Sp w0 F0 w L) : Calls Pg f args w fun e w2 => P e ∧ Sp w0 F0 w2 L :=
  h.mono fun _ _ ⟨he, hx⟩ => ⟨he, S.ext0 hx⟩
end
end Go.Proofs.YtcffickkipicbaaGreatDoor

/-! Inv -/
namespace Go.Proofs.YtcffickkipicbaaGreatDoor
open Go.RowKit

section
variable {P : Program} {ops : Array Oper} {Q : Exit → Act → World → Prop}
def backOk (ops : Array Oper) : Bool := (List.range ops.size).all fun i => match ops[i]? with | none => true | some o => o.after.all fun e => !Region.binds .any e || decide (e.on < i)
theorem backOk_spec (h : backOk ops = true) {i : Nat} {o : Oper} (ho : ops[i]? = some o) : ∀ e ∈ o.after, Region.binds .any e = true → e.on < i := by
  intro e he hb
  unfold backOk at h
  have hi : i < ops.size := (Array.getElem?_eq_some_iff.1 ho).1
  have h1 := (List.all_eq_true.1 h) i (List.mem_range.2 hi)
  rw [ho] at h1
  simp only at h1
  have h2 := (Array.all_eq_true_iff_forall_mem.1 h1) e he
  rw [hb] at h2
  simpa using h2
theorem wpAny_inv (hb : backOk ops = true) (I : (Nat → Bool) → Act → World → Prop)
    (hs : ∀ (l : Nat → Bool) (a : Act) (w : World) (i : Nat) (o : Oper), I l a w → ops[i]? = some o → l i = false → (∀ e ∈ o.after, Region.binds .any e = true → l e.on = true) → Region.wanted o (yielded ops a.tmps) = true ∧ o.wp P a w (I fun j => l j || j == i) Q)
    (he : ∀ (l : Nat → Bool) (a : Act) (w : World), (∀ i, i < ops.size → l i = true) → I l a w → Q .normal a w) :
    ∀ (fuel : Nat) (listed : Array Bool) (a : Act) (w : World), listed.size = ops.size → (List.range ops.size).countP (fun i => !listed.getD i true) = fuel → I (fun j => listed.getD j false) a w → wpAny P .any ops Q fuel listed a w := by
  have hnil : ∀ listed : Array Bool, listed.size = ops.size → Region.ready .any ops listed = [] → ∀ i, i < ops.size → listed.getD i false = true := by
    intro listed hsz hr i
    induction i using Nat.strongRecOn with
    | _ i ih =>
      intro hi
      cases hc : listed.getD i false with
      | true => rfl
      | false =>
        exfalso
        have : i ∈ Region.ready .any ops listed := mem_ready.2 ⟨hi, by rw [getD_lt (by omega)]; exact hc, ops[i], Array.getElem?_eq_getElem hi, fun e he hb2 => by
          have hlt := backOk_spec hb (Array.getElem?_eq_getElem hi) e he hb2
          exact ih e.on hlt (by omega)⟩
        rw [hr] at this
        cases this
  intro fuel
  induction fuel with
  | zero =>
    intro listed a w hsz hcnt hI
    have hl : ∀ i, i < ops.size → listed.getD i false = true := fun i hi => by
      have := List.countP_eq_zero.1 hcnt i (List.mem_range.2 hi)
      rw [getD_lt (by omega)] at this
      simpa using this
    refine ⟨?_, he _ a w hl hI⟩
    cases hr : Region.ready .any ops listed with
    | nil => rfl
    | cons i r =>
      have := mem_ready.1 (show i ∈ Region.ready .any ops listed by rw [hr]; simp)
      rw [getD_lt (by omega), hl i this.1] at this
      cases this.2.1
  | succ fuel ih =>
    intro listed a w hsz hcnt hI
    refine ⟨fun hr => he _ a w (hnil listed hsz hr) hI, fun i hi => ?_⟩
    obtain ⟨hin, hun, o, ho, hpre⟩ := mem_ready.1 hi
    have hun' : listed.getD i false = false := by rw [← getD_lt (by omega)]; exact hun
    obtain ⟨hw, hk⟩ := hs _ a w i o hI ho hun' hpre
    unfold wpOp
    rw [ho]
    simp only [hw, if_true]
    refine .inl (Oper.wp_mono (fun a2 w2 h2 => ?_) hk)
    refine ih _ a2 w2 (by simpa using hsz) ?_ ?_
    · have := countP_drop (p := fun j => !listed.getD j true) (q := fun j => !(listed.setIfInBounds i true).getD j true) (i := i) (by simp [hun]) (by
        simp only [Array.getD_eq_getD_getElem?, Array.getElem?_setIfInBounds_self_of_lt (show i < listed.size by omega)]; rfl) (fun j hj => by
        simp only [Array.getD_eq_getD_getElem?, Array.getElem?_setIfInBounds_ne (Ne.symm hj)]) (List.nodup_range (n := ops.size)) (List.mem_range.2 hin)
      omega
    · have e : (fun j => (listed.setIfInBounds i true).getD j false) = fun j => listed.getD j false || j == i := by
        funext j
        exact getD_set _ _ _ (by omega)
      rw [e]
      exact h2
/-- The same, behind what was taken first. -/
theorem wpAnyH_inv {S : World → Prop} (hb : backOk ops = true) (I : (Nat → Bool) → Act → World → Prop)
    (hs : ∀ (l : Nat → Bool) (a : Act) (w : World) (i : Nat) (o : Oper), I l a w → ops[i]? = some o → l i = false → (∀ e ∈ o.after, Region.binds .any e = true → l e.on = true) → Region.wanted o (yielded ops a.tmps) = true ∧ o.wp P a w (fun a2 w2 => S w2 ∧ I (fun j => l j || j == i) a2 w2) Q)
    (he : ∀ (l : Nat → Bool) (a : Act) (w : World), (∀ i, i < ops.size → l i = true) → I l a w → Q .normal a w) :
    ∀ (fuel : Nat) (listed : Array Bool) (a : Act) (w : World), listed.size = ops.size → (List.range ops.size).countP (fun i => !listed.getD i true) = fuel → I (fun j => listed.getD j false) a w → wpAnyH P .any ops Q S fuel listed a w := by
  have hnil : ∀ listed : Array Bool, listed.size = ops.size → Region.ready .any ops listed = [] → ∀ i, i < ops.size → listed.getD i false = true := by
    intro listed hsz hr i
    induction i using Nat.strongRecOn with
    | _ i ih =>
      intro hi
      cases hc : listed.getD i false with
      | true => rfl
      | false =>
        exfalso
        have : i ∈ Region.ready .any ops listed := mem_ready.2 ⟨hi, by rw [getD_lt (by omega)]; exact hc, ops[i], Array.getElem?_eq_getElem hi, fun e he hb2 => by
          have hlt := backOk_spec hb (Array.getElem?_eq_getElem hi) e he hb2
          exact ih e.on hlt (by omega)⟩
        rw [hr] at this
        cases this
  intro fuel
  induction fuel with
  | zero =>
    intro listed a w hsz hcnt hI
    have hl : ∀ i, i < ops.size → listed.getD i false = true := fun i hi => by
      have := List.countP_eq_zero.1 hcnt i (List.mem_range.2 hi)
      rw [getD_lt (by omega)] at this
      simpa using this
    refine ⟨?_, he _ a w hl hI⟩
    cases hr : Region.ready .any ops listed with
    | nil => rfl
    | cons i r =>
      have := mem_ready.1 (show i ∈ Region.ready .any ops listed by rw [hr]; simp)
      rw [getD_lt (by omega), hl i this.1] at this
      cases this.2.1
  | succ fuel ih =>
    intro listed a w hsz hcnt hI
    refine ⟨fun hr => he _ a w (hnil listed hsz hr) hI, fun i hi => ?_⟩
    obtain ⟨hin, hun, o, ho, hpre⟩ := mem_ready.1 hi
    have hun' : listed.getD i false = false := by rw [← getD_lt (by omega)]; exact hun
    obtain ⟨hw, hk⟩ := hs _ a w i o hI ho hun' hpre
    unfold wpOp
    rw [ho]
    simp only [hw, if_true]
    refine .inl (Oper.wp_mono (fun a2 w2 h2 => ⟨h2.1, ?_⟩) hk)
    refine ih _ a2 w2 (by simpa using hsz) ?_ ?_
    · have := countP_drop (p := fun j => !listed.getD j true) (q := fun j => !(listed.setIfInBounds i true).getD j true) (i := i) (by simp [hun]) (by
        simp only [Array.getD_eq_getD_getElem?, Array.getElem?_setIfInBounds_self_of_lt (show i < listed.size by omega)]; rfl) (fun j hj => by
        simp only [Array.getD_eq_getD_getElem?, Array.getElem?_setIfInBounds_ne (Ne.symm hj)]) (List.nodup_range (n := ops.size)) (List.mem_range.2 hin)
      omega
    · have e : (fun j => (listed.setIfInBounds i true).getD j false) = fun j => listed.getD j false || j == i := by
        funext j
        exact getD_set _ _ _ (by omega)
      rw [e]
      exact h2.2
theorem wpAnyH_gen {S : World → Prop} {fuel : Nat} {listed : Array Bool} {a : Act} {w : World} (h : ∀ a0, a = a0 → wpAnyH P .any ops Q S fuel listed a0 w) : wpAnyH P .any ops Q S fuel listed a w := h a rfl
/-- Take number i first, whose value goes into slot d. -/
theorem wpAnyH_takeD {S : World → Prop} {i : Nat} (d : Tmp) {oi : Oper} {v : Value} {fuel : Nat} {listed : Array Bool} {a : Act} {w : World} (hi : ops[i]? = some oi) (hd : oi.dst = some d)
    (hs : Region.noSelect ops = true) (hf : Region.free .any ops listed i = true) (hr : (Region.ready .any ops listed).contains i = true)
    (hQ : ∀ c a w, Q (.panic c) (a.put (some d) v) w → Q (.panic c) a w) (hy : YieldsIf P ops S oi v a) (hS : S w)
    (h : wpAnyH P .any ops Q S fuel (listed.setIfInBounds i true) (a.put (some d) v) w) : wpAnyH P .any ops Q S (fuel + 1) listed a w :=
  wpAnyH_take hi hs hf hr (by rw [hd]; exact hQ) hy hS (by rw [hd]; exact h)
/-! slots, put one behind the other -/
theorem put_over (a : Act) (t : Tmp) (u v : Value) : (a.put (some t) u).put (some t) v = a.put (some t) v := by
  simp [Act.put]
theorem put_turn (a : Act) (s t : Tmp) (u v : Value) (h : s ≠ t) : (a.put (some s) u).put (some t) v = (a.put (some t) v).put (some s) u := by
  simp only [Act.put]
  congr 1
  exact Array.setIfInBounds_comm _ _ h
theorem put_back (a : Act) (t : Tmp) (h : t < a.tmps.size) : a.put (some t) (a.tmps.getD t undef) = a := by
  cases a with
  | mk tm df =>
    simp only [Act.put]
    congr 1
    apply Array.ext
    · simp
    · intro i h1 h2
      rw [Array.getElem_setIfInBounds]
      split
      · rename_i e
        subst e
        simp [Array.getD, h2]
      · rfl
theorem evalP_same (a : Act) (t : Tmp) (v : Value) (h : t < a.tmps.size) : (a.put (some t) v).eval (.tmp t) = v := by
  have h' : t < a.tmps.size := h
  simp [Act.put, Act.eval, Array.getD, h']
theorem evalP_ne (a : Act) (s t : Tmp) (v : Value) (h : s ≠ t) : (a.put (some s) v).eval (.tmp t) = a.eval (.tmp t) := by
  show (a.tmps.setIfInBounds s v).getD t undef = a.tmps.getD t undef
  rw [Array.getD_eq_getD_getElem?, Array.getD_eq_getD_getElem?, Array.getElem?_setIfInBounds_ne h]
theorem sizeP (a : Act) (t : Option Tmp) (v : Value) : (a.put t v).tmps.size = a.tmps.size := by
  cases t <;> simp [Act.put]
/-! flags, one more set -/
theorem flag_up {l : Nat → Bool} {i y : Nat} (h : l y = true) : (l y || y == i) = true := by rw [h]; rfl
theorem flag_dn {l : Nat → Bool} {i x : Nat} (hx : (x == i) = false) (h : (l x || x == i) = true) : l x = true := by rw [hx, Bool.or_false] at h; exact h
theorem flag_or {l : Nat → Bool} {i x : Nat} {A B : Prop} (hx : (x == i) = false) (h : (l x = true ∧ A) ∨ (l x = false ∧ B)) : ((l x || x == i) = true ∧ A) ∨ ((l x || x == i) = false ∧ B) := by rw [hx, Bool.or_false]; exact h
theorem flag_box {l : Nat → Bool} {i x y : Nat} {A : Nat → Prop} {M : List Res} (F : Bool → Nat → List Res) (hx : (x == i) = false) (hy : (y == i) = false) (h : (l x = true ∧ ∃ g, A g ∧ M = F (l y) g) ∨ (l x = false ∧ M = [])) : ((l x || x == i) = true ∧ ∃ g, A g ∧ M = F (l y || y == i) g) ∨ ((l x || x == i) = false ∧ M = []) := by
  rw [hx, hy, Bool.or_false, Bool.or_false]
  exact h
theorem wp_region_inv {id : Nat} {a : Act} {w : World} (hm : P.follows .mixedOrders = true) (hb : backOk ops = true) (I : (Nat → Bool) → Act → World → Prop) (h0 : I (fun _ => false) a w.drew)
    (hs : ∀ (l : Nat → Bool) (a : Act) (w : World) (i : Nat) (o : Oper), I l a w → ops[i]? = some o → l i = false → (∀ e ∈ o.after, Region.binds .any e = true → l e.on = true) → Region.wanted o (yielded ops a.tmps) = true ∧ o.wp P a w (I fun j => l j || j == i) Q)
    (he : ∀ (l : Nat → Bool) (a : Act) (w : World), (∀ i, i < ops.size → l i = true) → I l a w → Q .normal a w) : (Code.region id ops true).wp P Q a w := by
  refine wp_region_any hm (wpAny_inv hb I hs he ops.size (Array.replicate ops.size false) a w.drew (by simp) ?_ ?_)
  · rw [List.countP_eq_length.2]
    · simp
    · intro j hj
      have := List.mem_range.1 hj
      simp [Array.getD_eq_getD_getElem?, this]
  · have e : (fun j => (Array.replicate ops.size false).getD j false) = fun _ => false := by
      funext j
      simp only [Array.getD_eq_getD_getElem?, Array.getElem?_replicate]
      split <;> rfl
    rw [e]
    exact h0
end
end Go.Proofs.YtcffickkipicbaaGreatDoor
