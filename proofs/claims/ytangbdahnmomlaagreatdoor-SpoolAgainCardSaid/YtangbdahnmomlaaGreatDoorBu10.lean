/- entry, plainly: buckets, names, and what an ideal box' file is opened to. No program. A region whose order is drawn and that holds calls in a line: whatever is not a call leaves the world as it is, and what is not bound behind a call is laid ahead of it. No condition. A range over a function, in parts of memory: the loop's record and the block of deferred calls are parts like others. No condition. -/
import Derived.RangeFuncBound
import Derived.RangeFuncNested
import Derived.Test.YtangbdahnmomlaaGreatDoorBu01
import Derived.Test.YtangbdahnmomlaaGreatDoorBu02
import Derived.Test.YtangbdahnmomlaaGreatDoorBu05
import Derived.Test.YtangbdahnmomlaaGreatDoorBu07
set_option linter.unnecessarySimpa false
set_option linter.unusedSimpArgs false
set_option linter.unusedVariables false
namespace Go.Proofs.YtangbdahnmomlaaGreatDoor
section
open Go.Maps
abbrev Sealed3:=Bs × Bs × Bs
def nonceE (n : Nat) : Bs:=zeros 4 ++ highB n 8
theorem zeros_length (n : Nat) : (zeros n).length = n:=List.length_replicate
theorem nonceE_length (n : Nat) : (nonceE n).length = 12:=by unfold nonceE zeros; rw [List.length_append,highB_length]; rfl
def enSplit (s : Bs) : En × Bs × Bs × Int :=
  let q:=Rd.text ⟨s,false⟩ 4000
  if (enRead 300 q.1).2 = 0 then ((enRead 300 q.1).1,q.1,q.2.s,0) else (En.zero,[],[],2)
theorem enRead_ok {s : Bs} (h : (enRead 300 s).2 = 0) : enMay (enRead 300 s).1 = true ∧ s = headB (enRead 300 s).1:=by
  unfold enRead at h ⊢
  split at h
  · rename_i h1
    rw [if_pos h1]
    exact (enRead_iff 300 (by omega) (by omega) s _).1 ⟨h1.1,h1.2,rfl⟩
  · simp at h
theorem headB_ne (e : En) : headB e ≠ []:=by unfold headB numB; simp
theorem rcB_len {x : Rcp} (h : x.1.1.length ≤ 64 ∧ x.1.2.length ≤ 255 ∧ 0 ≤ x.2 ∧ x.2 ≤ 2) : (rcB x).length ≤ 400:=by
  unfold rcB
  have h1:=textB_length_le x.1.1
  have h2:=textB_length_le x.1.2
  have h3:=numB_length_le x.2.toNat
  simp only [List.length_append]
  omega
theorem rcsB_len : ∀ l : List Rcp,(∀ x ∈ l,x.1.1.length ≤ 64 ∧ x.1.2.length ≤ 255 ∧ 0 ≤ x.2 ∧ x.2 ≤ 2) → (l.flatMap rcB).length ≤ 400 * l.length
  | [],_ => by simp
  | x :: l,h => by
    have h1:=rcB_len (h x (by simp))
    have h2:=rcsB_len l (fun y hy => h y (by simp [hy]))
    rw [List.flatMap_cons,List.length_append,List.length_cons]
    omega
theorem text_len2 {s : Bs} (h : s.length ≤ 255) : (textB s).length ≤ 257:=by
  rw [textB_length]
  have : need s.length ≤ 1:=need_le_of (by omega)
  omega
theorem num_len6 {n : Nat} (h : n ≤ 1099511627776) : (numB n).length ≤ 7:=by
  rw [numB_length]
  have : need n ≤ 6:=need_le_of (by omega)
  omega
theorem num_len1 {n : Nat} (h : n ≤ 255) : (numB n).length ≤ 2:=by
  rw [numB_length]
  have : need n ≤ 1:=need_le_of (by omega)
  omega
theorem rcB_len2 {x : Rcp} (h : x.1.1.length ≤ 64 ∧ x.1.2.length ≤ 255 ∧ 0 ≤ x.2 ∧ x.2 ≤ 2) : (rcB x).length ≤ 325:=by
  unfold rcB
  have h1 : (textB x.1.1).length ≤ 66:=by
    rw [textB_length]
    have : need x.1.1.length ≤ 1:=need_le_of (by omega)
    omega
  have h2:=text_len2 h.2.1
  have h3:=num_len1 (n:=x.2.toNat) (by omega)
  simp only [List.length_append]
  omega
theorem rcsB_len2 : ∀ l : List Rcp,(∀ x ∈ l,x.1.1.length ≤ 64 ∧ x.1.2.length ≤ 255 ∧ 0 ≤ x.2 ∧ x.2 ≤ 2) → (l.flatMap rcB).length ≤ 325 * l.length
  | [],_ => by simp
  | x :: l,h => by
    have h1:=rcB_len2 (h x (by simp))
    have h2:=rcsB_len2 l (fun y hy => h y (by simp [hy]))
    rw [List.flatMap_cons,List.length_append,List.length_cons]
    omega
theorem headB_len {e : En} (h : e.Parts) : (headB e).length ≤ 4000:=by
  unfold headB
  have h1:=num_len6 h.id.2
  have h2:=text_len2 h.dom
  have h3:=num_len6 h.ep.2
  have h4:=num_len6 h.cnt
  have h5 : (textB e.frm.1).length ≤ 66:=by
    rw [textB_length]
    have : need e.frm.1.length ≤ 1:=need_le_of (by have:=h.frm.1; omega)
    have:=h.frm.1
    omega
  have h6:=text_len2 h.frm.2
  have h7:=num_len1 (n:=e.rcs.length) (by have:=h.rcs.2; omega)
  have h8:=rcsB_len2 e.rcs h.each
  have h9:=num_len6 h.born
  have h10:=num_len6 h.nxt
  have h11:=num_len1 (n:=e.tries.toNat) (by have:=h.tries; omega)
  have h12:=h.rcs.2
  simp only [List.length_append]
  omega
theorem split_file (e : En) (h : enMay e = true) (s : Bs) : enSplit (textB (headB e) ++ s) = (e,headB e,s,0):=by
  have hl:=headB_len (enMay_parts h)
  unfold enSplit
  rw [text_back (headB e) 4000 s (by omega) hl]
  dsimp only
  rw [enRead_head 300 (by omega) (by omega) e h,if_pos rfl]
theorem split_ok {s : Bs} (h : (enSplit s).2.2.2 = 0) : enMay (enSplit s).1 = true ∧ (enSplit s).2.1 = headB (enSplit s).1 ∧ s = textB (headB (enSplit s).1) ++ (enSplit s).2.2.1:=by
  unfold enSplit at h ⊢
  dsimp only at h ⊢
  split at h
  · rename_i h1
    rw [if_pos h1]
    dsimp only
    obtain ⟨h2,h3⟩:=enRead_ok h1
    refine ⟨h2,h3,?_⟩
    cases hb : (Rd.text ⟨s,false⟩ 4000).2.bad with
    | false =>
      have h4:=(text_ok hb).2
      rw [← h3]
      exact h4
    | true =>
      exfalso
      have h5 : (Rd.text ⟨s,false⟩ 4000).1 = []:=by
        revert hb
        unfold Rd.text Rd.take
        split
        · intro _; rfl
        · intro hb; exact absurd hb (by simp)
      rw [h5] at h3
      exact headB_ne _ h3.symm
  · simp at h
theorem split_no {s : Bs} (h : (enSplit s).2.2.2 ≠ 0) : enSplit s = (En.zero,[],[],2):=by
  unfold enSplit at h ⊢
  dsimp only at h ⊢
  split at h
  · exact absurd rfl h
  · rename_i h1; rw [if_neg h1]
variable (U : Bs → Bs → Bs)
def bxOpen (T : Mp Sealed3) (key nonce data bytes : Bs) : Bs × Int :=
  if key.length = 32 ∧ nonce.length = 12 ∧ data.length ≤ 4096 ∧ 16 ≤ bytes.length ∧ bytes.length ≤ 16400 then
    match T.get (U key nonce) with
    | none => ([],20)
    | some x => if x.1 = data ∧ x.2.2 = bytes then (x.2.1,0) else ([],20)
  else ([],5)
def bxSeal (T : Mp Sealed3) (draws key nonce data text : Bs) : (Bs × Int) × Bs × Mp Sealed3 :=
  if key.length = 32 ∧ nonce.length = 12 ∧ data.length ≤ 4096 ∧ text.length ≤ 16384 then
    match T.get (U key nonce) with
    | some x => if x.1 = data ∧ x.2.1 = text then ((x.2.2,0),draws,T) else (([],11),draws,T)
    | none => if draws.length < text.length + 16 then (([],21),draws,T) else ((draws.take (text.length + 16),0),draws.drop (text.length + 16),T.put (U key nonce) (data,text,draws.take (text.length + 16)))
  else (([],5),draws,T)
theorem bxOpen_ok {T : Mp Sealed3} {key nonce data bytes : Bs} (h : (bxOpen U T key nonce data bytes).2 = 0) : ∃ x,T.get (U key nonce) = some x ∧ x.1 = data ∧ x.2.2 = bytes:=by
  unfold bxOpen at h
  split at h
  · cases hg : T.get (U key nonce) with
    | none => rw [hg] at h; simp at h
    | some x =>
      rw [hg] at h
      dsimp only at h
      split at h
      · rename_i h1
        exact ⟨x,rfl,h1⟩
      · simp at h
  · simp at h
end
section
open Go.RowKit
section
variable {P : Program} {ops : Array Oper} {Q : Exit → Act → World → Prop}
def StepP (P : Program) (ops : Array Oper) (S : World → Prop) (o : Oper) (a a1 : Act) : Prop :=
  ∀ w,S w → ∀ K : Act → World → Prop,Hid (K a1 w) → if Region.wanted o (yielded ops a.tmps) = true then o.wp P a w K noQ else K (a.put o.dst undef) w
theorem StepP.one {S : World → Prop} {o : Oper} {a a1 : Act} (h : StepP P ops S o a a1) {w : World} (hw : S w) : StepH P ops (fun x => x = w) o a a1 :=
  fun x hx K hK => by subst hx; exact h x hw K (hK.out x rfl)
theorem StepP.mono {S S2 : World → Prop} {o : Oper} {a a1 : Act} (h : StepP P ops S o a a1) (hs : ∀ x,S2 x → S x) : StepP P ops S2 o a a1:=fun w hw => h w (hs w hw)
def chainOk (ops : Array Oper) (ord : List Nat) (cl : Nat → Bool) : Bool :=
  Region.noSelect ops && ((List.range ord.length).all fun p => match ord[p]? with | some i => decide (i < ops.size) && ord.idxOf i == p | none => false) &&
  (List.range ops.size).all fun i => ord[ord.idxOf i]? == some i && match ops[i]? with
    | none => true
    | some o => o.after.all (fun e => !Region.binds .any e || decide (ord.idxOf e.on < ord.idxOf i)) &&
      ((List.range ops.size).all fun c => !cl c || !decide (ord.idxOf c < ord.idxOf i) || o.after.toList.any fun e => Region.binds .any e && decide (ord.idxOf c ≤ ord.idxOf e.on)) &&
      (List.range ops.size).all fun j => match ops[j]? with
        | none => true
        | some u => match u.dst with
          | none => true
          | some t => (i == j || o.dst != some t) &&
            (!(o.looksAt ops).contains t || (decide (ord.idxOf j < ord.idxOf i) && o.after.toList.any (fun e => Region.binds .any e && e.on == j)) || (decide (ord.idxOf i < ord.idxOf j) && u.after.toList.any (fun e => Region.binds .any e && e.on == i)))
structure ChainOk (ops : Array Oper) (ord : List Nat) (cl : Nat → Bool) : Prop where
  place : ∀ p i,ord[p]? = some i → i < ops.size ∧ ord.idxOf i = p
  perm : ∀ i,i < ops.size → ord[ord.idxOf i]? = some i
  back : ∀ (i : Nat) (o : Oper),ops[i]? = some o → ∀ e ∈ o.after,Region.binds .any e = true → ord.idxOf e.on < ord.idxOf i
  call : ∀ (i c : Nat) (o : Oper),ops[i]? = some o → c < ops.size → cl c = true → ord.idxOf c < ord.idxOf i → ∃ e ∈ o.after,Region.binds .any e = true ∧ ord.idxOf c ≤ ord.idxOf e.on
  one : ∀ (i j : Nat) (o u : Oper) (t : Tmp),j ≠ i → ops[i]? = some o → ops[j]? = some u → u.dst = some t → o.dst ≠ some t
  looks : ∀ (i j : Nat) (o u : Oper) (t : Tmp),ops[i]? = some o → ops[j]? = some u → u.dst = some t → t ∈ o.looksAt ops → (ord.idxOf j < ord.idxOf i ∧ ∃ e ∈ o.after,Region.binds .any e = true ∧ e.on = j) ∨ (ord.idxOf i < ord.idxOf j ∧ ∃ e ∈ u.after,Region.binds .any e = true ∧ e.on = i)
  nosel : Region.noSelect ops = true
theorem chainOk_spec {ord : List Nat} {cl : Nat → Bool} (h : chainOk ops ord cl = true) : ChainOk ops ord cl:=by
  unfold chainOk at h
  rw [Bool.and_eq_true,Bool.and_eq_true,List.all_eq_true,List.all_eq_true] at h
  obtain ⟨⟨h0,hl0⟩,h⟩:=h
  have hl : ∀ p i,ord[p]? = some i → i < ops.size ∧ ord.idxOf i = p:=fun p i hp => by
    have:=hl0 p (List.mem_range.2 (List.getElem?_eq_some_iff.1 hp).1)
    rw [hp] at this
    simpa using this
  have hp : ∀ i,i < ops.size → ord[ord.idxOf i]? = some i:=fun i hi => by
    have:=h i (List.mem_range.2 hi)
    rw [Bool.and_eq_true,beq_iff_eq] at this
    exact this.1
  have hi : ∀ (i : Nat) (o : Oper),ops[i]? = some o → _:=fun i o ho => by
    have:=h i (List.mem_range.2 (Array.getElem?_eq_some_iff.1 ho).1)
    rw [Bool.and_eq_true] at this
    have:=this.2
    rw [ho] at this
    simp only [Bool.and_eq_true,List.all_eq_true] at this
    exact this
  have hj : ∀ (i j : Nat) (o u : Oper) (t : Tmp),ops[i]? = some o → ops[j]? = some u → u.dst = some t → _:=fun i j o u t ho hu ht => by
    have:=(hi i o ho).2 j (List.mem_range.2 (Array.getElem?_eq_some_iff.1 hu).1)
    simp only [hu,ht,Bool.and_eq_true,Bool.or_eq_true,beq_iff_eq,bne_iff_ne,Bool.not_eq_true',decide_eq_true_eq,List.any_eq_true,Array.mem_toList_iff] at this
    exact this
  refine ⟨hl,hp,fun i o ho e he hb => ?_,fun i c o ho hc hcl hlt => ?_,fun i j o u t hji ho hu ht => ?_,fun i j o u t ho hu ht hl => ?_,h0⟩
  · have:=(hi i o ho).1.1
    rw [Array.all_eq_true_iff_forall_mem] at this
    have:=this e he
    simpa [hb] using this
  · have:=(hi i o ho).1.2 c (List.mem_range.2 hc)
    simp only [hcl,hlt,Bool.not_true,Bool.false_or,decide_true,List.any_eq_true,Array.mem_toList_iff,Bool.and_eq_true,decide_eq_true_eq] at this
    obtain ⟨e,he,hb,hle⟩:=this
    exact ⟨e,he,hb,hle⟩
  · exact (hj i j o u t ho hu ht).1.resolve_left (fun e => hji e.symm)
  · rcases (hj i j o u t ho hu ht).2 with (h1 | h1) | h1
    · simp at h1
      exact absurd hl h1
    · obtain ⟨a,e,he,hb,hon⟩:=h1
      exact .inl ⟨a,e,he,hb,hon⟩
    · obtain ⟨a,e,he,hb,hon⟩:=h1
      exact .inr ⟨a,e,he,hb,hon⟩
theorem call_at {o : Oper} {a b : Act} {i : Nat} {R K : Act → World → Prop} (hi : ops[i]? = some o) (hns : ∀ cs b,o.op ≠ .select cs b)
    (hev : ∀ x ∈ o.op.operands,b.eval x = a.eval x) (hwa : Region.wanted o (yielded ops b.tmps) = true) {w : World} (h1 : o.wp P a w R noQ) (hd : ∀ a2 w2,R a2 w2 → a2.defers = a.defers)
    (hK : ∀ v w',R (a.put o.dst v) w' → K (b.put o.dst v) w') : wpOp P ops Q i K b w:=by
  unfold wpOp
  simp only [hi,hwa]
  left
  unfold Oper.wp at h1 ⊢
  rw [execOp_congr o hns hev]
  generalize (execOp a.eval o).run P w = r at h1
  cases r with
  | ok n w' =>
    cases n <;> simp only [Oper.upon] at h1 ⊢
    case value u => exact hK _ _ h1
    case skip => exact hK _ _ h1
    case defer d =>
      have:=hd _ _ h1
      rw [put_defers] at this
      simp at this
    case enter f args =>
      refine Calls.mono h1 fun e w2 he => ?_
      cases e with
      | returned u => exact hK _ _ he
      | panicked c => exact he.elim
      | outgrown => obtain ⟨_,_,hq⟩:=he; exact hq.elim
    case row r args => exact Rows.mono h1 fun u w2 he => hK _ _ he
  | halt x w' => cases x <;> simp only [Oper.upon] at h1 ⊢ <;> exact h1.elim
theorem Matches.congr {vs us : Nat → Value} {a f : Act} {T U : Nat → Bool} (h : Matches ops vs a T f) (hT : ∀ j,U j = T j) (hv : ∀ j,T j = true → us j = vs j) : Matches ops us a U f :=
  ⟨h.defers,h.size,fun t j o hj ho ht hlt => by rw [hT] at hj; rw [hv j hj]; exact h.done t j o hj ho ht hlt,fun t ht => h.left t fun j o hj ho => ht j o (by rw [hT]; exact hj) ho⟩
theorem Matches.weak {vs : Nat → Value} {a f : Act} {T U : Nat → Bool} (h : Matches ops vs a T f) (hT : ∀ j,j < ops.size → U j = T j) : Matches ops vs a U f :=
  ⟨h.defers,h.size,fun t j o hj ho ht hlt => h.done t j o (by rw [← hT j (Array.getElem?_eq_some_iff.1 ho).1]; exact hj) ho ht hlt,fun t ht => h.left t fun j o hj ho => ht j o (by rw [hT j (Array.getElem?_eq_some_iff.1 ho).1]; exact hj) ho⟩
end
end
section
open Go.RowKit
abbrev objR (b : Nat) (o : Obj) : Res where
  holds:=fun F w => F = [b] ∧ w.heap[b]? = some o
  keeps:=fun h hx hd => ⟨h.1,hx.heap h.2 (hd b (by simp [h.1]))⟩
  inside:=fun h x hx => by rw [h.1] at hx; simp at hx; subst hx; exact heap_lt h.2
section
variable {w0 w w1 w2 : World} {F0 : List Nat} {L K : List Res}
theorem Ext.putObj {F : List Nat} {w w2 : World} (h : Ext F w w2) {g : Nat} (hg : g ∈ F ∨ w.heap.size ≤ g) (o : Obj) : Ext F w (w2.putObj g o) :=
  ⟨h.1,h.2,h.3,by simpa using h.4,fun k hk hkF => by rw [World.putObj_heap_other (fun e => by subst e; rcases hg with hg | hg; exact hkF hg; omega)]; exact h.5 k hk hkF⟩
theorem Sp.objNew (S : Sp w0 F0 w L) (o : Obj) : Sp w0 F0 (w.alloc o) (objR w.heap.size o :: L) :=
  S.gain (G:=[w.heap.size]) ((Ext.refl [] w).alloc _) ⟨rfl,World.alloc_heap_new w o⟩ (by simp)
theorem Sp.objAt {b : Nat} {o : Obj} (S : Sp w0 F0 w (objR b o :: L)) : w.heap[b]? = some o:=by
  obtain ⟨F,⟨rfl,h⟩,_⟩:=S.take
  exact h
theorem Sp.objPut {b : Nat} {o : Obj} (S : Sp w0 F0 w (objR b o :: L)) (o2 : Obj) : Sp w0 F0 (w.putObj b o2) (objR b o2 :: L):=by
  obtain ⟨F,⟨rfl,h⟩,h2⟩:=S.take
  exact h2 _ _ [b] ⟨rfl,World.putObj_heap_same (heap_lt h)⟩ (Moved.of_ext ((Ext.refl _ w).putObj (by simp) o2))
theorem perm_lift {α β : Type} {f : α → β} {l l2 : List β} (h : l.Perm l2) : ∀ {m : List α},m.map f = l → ∃ m2,m.Perm m2 ∧ m2.map f = l2:=by
  induction h with
  | nil => intro m hm; exact ⟨m,.refl _,hm⟩
  | cons x _ ih =>
    intro m hm
    obtain ⟨a,m',rfl,rfl,rfl⟩:=List.map_eq_cons_iff.1 hm
    obtain ⟨m2,h1,h2⟩:=ih rfl
    exact ⟨a :: m2,h1.cons a,by simp [h2]⟩
  | swap x y l =>
    intro m hm
    obtain ⟨a,m',rfl,rfl,hm'⟩:=List.map_eq_cons_iff.1 hm
    obtain ⟨b,m'',rfl,rfl,rfl⟩:=List.map_eq_cons_iff.1 hm'
    exact ⟨b :: a :: m'',List.Perm.swap ..,rfl⟩
  | trans _ _ ih1 ih2 =>
    intro m hm
    obtain ⟨m2,h1,h2⟩:=ih1 hm
    obtain ⟨m3,h3,h4⟩:=ih2 h2
    exact ⟨m3,h1.trans h3,h4⟩
theorem Sp.perm (S : Sp w0 F0 w L) (h : L.Perm K) : Sp w0 F0 w K:=by
  obtain ⟨M,hM,hS⟩:=S
  obtain ⟨M2,h1,h2⟩:=perm_lift h hM
  exact ⟨M2,h2,hS.perm h1⟩
theorem Sp.front {A B : List Res} {r : Res} (S : Sp w0 F0 w (A ++ r :: B)) : Sp w0 F0 w (r :: (A ++ B)):=S.perm List.perm_middle
theorem Sp.unfront {A B : List Res} {r : Res} (S : Sp w0 F0 w (r :: (A ++ B))) : Sp w0 F0 w (A ++ r :: B):=S.perm List.perm_middle.symm
end
section
variable {P : Program} {F : Fence} {n : Nat}
def IterS {α : Type} (F : Fence) (n : Nat) (P : Program) (g : Nat) (lb : Array Value) (encs : α → Array Value) (w0 : World) (F0 : List Nat) (A : List α → List Res) (K0 : List Res) (Y : List α → Prop) (T : List α → Prop) : Prop :=
  ∀ (l : Nat) (K1 : List Res) (X : World → Prop) (W : World),Sp w0 F0 W (A [] ++ (K0 ++ K1)) →
    (∀ (pre : List α) (x : α) (K : List Res) (W1 : World),Y (pre ++ [x]) → Sp w0 F0 W1 (A pre ++ (K ++ K1)) → YieldAt F (n - 1) P l (encs x) W1 fun e W' =>
      (e = .returned (.bool true) ∧ Sp w0 F0 W' (A (pre ++ [x]) ++ (K ++ K1))) ∨ (e = .returned (.bool false) ∧ X W')) →
    CallsIn F n P g (#[.func (.yield l) #[] #[]] ++ lb) W fun e W' => (∃ v,e = .returned v) ∧ ((∃ xs,T xs ∧ Sp w0 F0 W' (A xs ++ (K0 ++ K1))) ∨ X W')
def roundS {α β : Type} (w0 : World) (F0 : List Nat) (A : List α → List Res) (B : Code → β → List Res) (q : Code → β → Prop) (xs : List α) (K : List Res) : Exit → Act → World → Prop
  | .normal,_,W => Sp w0 F0 W (A xs ++ K)
  | .ret,_,W => ∃ y,q .ret y ∧ Sp w0 F0 W (B .ret y ++ K)
  | .exit id,_,W => ∃ y,q (.exit id) y ∧ Sp w0 F0 W (B (.exit id) y ++ K)
  | .goto t,_,W => ∃ y,q (.goto t) y ∧ Sp w0 F0 W (B (.goto t) y ++ K)
  | .panic _,_,_ => False
  | .outgrown,_,_ => False
theorem wpIn_rangeFunc_sp {α β : Type} {g : Operand} {ps : Array Tmp} {assign body : Code} {Q : Exit → Act → World → Prop} {a : Act} {w w0 : World} {F0 : List Nat}
    (hro : F.round = none) (h1 : 1 ≤ n) {gf : Nat} {lb : Array Value} (hg : a.eval g = .func (.func gf) #[] lb) (hFg : F.fn gf) (eg : ∀ args w,(callFunc gf args).run P w = .ok (.enter gf args) w)
    {encs : α → Array Value} (hps : ∀ x,(encs x).size = ps.size) {A : List α → List Res} {K0 : List Res} {Y T : List α → Prop} (hseq : IterS F (n - 1) P gf lb encs w0 F0 A K0 Y T)
    (B : Code → β → List Res) (q : Code → β → Prop) (S : Sp w0 F0 w (A [] ++ K0)) (a₁ : α → Act)
    (hassign : ∀ (l : Nat) (x : α) (W : World) (K : Act → World → Prop),K (a₁ x) W →
      assign.wpIn (F.inRound l) (n - 1 - 1) P (Exit.then K (fun _ _ _ => False)) { tmps:=(ps.zip (encs x)).foldl (fun t (p,v) => t.setIfInBounds p v) a.tmps,defers:=[] } W)
    (hbody : ∀ (l : Nat) (pre : List α) (x : α) (K : List Res) (W : World),Y (pre ++ [x]) → Sp w0 F0 W (A pre ++ K) → body.wpIn (F.inRound l) (n - 1 - 1) P (roundS w0 F0 A B q (pre ++ [x]) K) (a₁ x) W)
    (hdone : ∀ (D : Nat) (xs : List α) (K : List Res) (W : World),T xs → Sp w0 F0 W (objR D (.deferred (some [])) :: (A xs ++ (K0 ++ K))) → Q .normal { a with defers:={ target:=.collected D,args:=#[] } :: a.defers } W)
    (hstop : ∀ (D : Nat) (c : Code) (y : β) (K : List Res) (W : World),q c y → Sp w0 F0 W (objR D (.deferred (some [])) :: (B c y ++ K)) → c.wpIn F n P Q { a with defers:={ target:=.collected D,args:=#[] } :: a.defers } W) :
    (Code.rangeFunc g ps assign body).wpIn F n P Q a w:=by
  refine wpIn_rangeFunc ?_
  intro fn hfn
  rw [hro]
  obtain ⟨rec,hrec⟩ : ∃ rec : LoopState → Option Code → Loop,rec = fun st pe => { state:=st,pending:=pe,fn,tmps:=a.tmps,params:=ps,assign,body,defers:=w.heap.size }:=⟨_,rfl⟩
  obtain ⟨D,hD⟩ : ∃ D,D = w.heap.size:=⟨_,rfl⟩
  obtain ⟨l,hl⟩ : ∃ l,l = w.heap.size + 1:=⟨_,rfl⟩
  obtain ⟨W1,hW1⟩ : ∃ W1,(w.alloc (.deferred (some []))).alloc (.loop (rec .ready none)) = W1:=⟨_,rfl⟩
  have S1 : Sp w0 F0 W1 (A [] ++ (K0 ++ [objR l (.loop (rec .ready none)),objR D (.deferred (some []))])):=by
    have h:=(S.objNew (.deferred (some []))).objNew (.loop (rec .ready none))
    rw [World.size_alloc,hW1,← hl,← hD] at h
    exact h.perm (by
      rw [← List.append_assoc]
      exact List.perm_append_comm (l₁:=[objR l (.loop (rec .ready none)),objR D (.deferred (some []))]) (l₂:=A [] ++ K0))
  refine ⟨l,[{ target:=.collected D,args:=#[] }],W1,{ target:=.fn (.func gf) lb,args:=#[.func (.yield l) #[] #[]] },W1,gf,
    #[.func (.yield l) #[] #[]] ++ lb,W1,?_,?_,?_,?_,fun _ => h1,?_⟩
  · rw [← hW1,hrec,hD,hl]; exact run_enterLoop_outer _ _ _ _ _
  · simp only [resolve,hg]
    simp [go_sem]
  · intro f' hf'; simp [Target.leads] at hf'; subst hf'; exact hFg
  · simp [invoke,go_sem,eg]
  · have toF : ∀ {o : Obj} {A' K' : List Res} {W : World},Sp w0 F0 W (A' ++ (K' ++ [objR l o,objR D (.deferred (some []))])) → Sp w0 F0 W (objR l o :: ((A' ++ K') ++ [objR D (.deferred (some []))])):=fun h => by
      rw [← List.append_assoc] at h
      exact h.front
    have ofF : ∀ {o : Obj} {A' K' : List Res} {W : World},Sp w0 F0 W (objR l o :: ((A' ++ K') ++ [objR D (.deferred (some []))])) → Sp w0 F0 W (A' ++ (K' ++ [objR l o,objR D (.deferred (some []))])):=fun h => by
      have:=h.unfront
      rw [List.append_assoc] at this
      exact this
    have toD : ∀ (o : Obj) (A' K' : List Res) (W : World),Sp w0 F0 W (objR l o :: ((A' ++ K') ++ [objR D (.deferred (some []))])) → Sp w0 F0 W (objR D (.deferred (some [])) :: (A' ++ (K' ++ [objR l o]))):=fun o A' K' W h =>
      h.perm (by
        refine ((List.perm_append_comm (l₁:=A' ++ K') (l₂:=[objR D (.deferred (some []))])).cons _).trans ?_
        refine (List.Perm.swap (objR D (.deferred (some []))) (objR l o) (A' ++ K')).trans ?_
        refine ((List.perm_append_comm (l₁:=[objR l o]) (l₂:=A' ++ K')).cons _).trans ?_
        rw [List.append_assoc])
    refine (hseq l [objR l (.loop (rec .ready none)),objR D (.deferred (some []))]
      (fun W => ∃ c y K,q c y ∧ Sp w0 F0 W (B c y ++ (K ++ [objR l (.loop (rec .done (some c))),objR D (.deferred (some []))]))) W1 S1 ?_).mono ?_
    ·
      intro pre x K W hy hS
      have hT:=toF hS
      have hlo:=hT.objAt
      have hyd:=run_yield (P:=P) (args:=encs x) hlo (by rw [hrec]; exact hps x)
      rw [hrec] at hyd
      refine ⟨fn,_,assign,body,hyd,roundIn_of_wpIn hfn (hassign _ x W _ ⟨_,run_beginRound hlo (by rw [hrec]),?_⟩)⟩
      have hB:=ofF (hT.objPut (.loop { rec .ready none with state:=.busy }))
      refine wpIn_mono (hbody _ pre x _ _ hy hB) ?_
      have fin : ∀ (jump : Option Code) (W3 : World) (A' : List Res),Sp w0 F0 W3 (A' ++ (K ++ [objR l (.loop { rec .ready none with state:=.busy }),objR D (.deferred (some []))])) →
          (Instr.endRound l jump).run P W3 = .ok (.bool jump.isNone) (W3.putObj l (.loop (rec (if jump.isNone then .ready else .done) jump))) ∧
          Sp w0 F0 (W3.putObj l (.loop (rec (if jump.isNone then .ready else .done) jump))) (A' ++ (K ++ [objR l (.loop (rec (if jump.isNone then .ready else .done) jump)),objR D (.deferred (some []))])):=fun jump W3 A' h3 => by
        have hT3:=toF h3
        have:=run_endRound (P:=P) jump hT3.objAt
        rw [hrec] at this ⊢
        exact ⟨this,ofF (hT3.objPut _)⟩
      rintro e a3 W3 hp
      cases e with
      | normal =>
        obtain ⟨hr,h4⟩:=fin none W3 _ hp
        exact ⟨_,_,hr,.inl ⟨rfl,h4⟩⟩
      | ret =>
        obtain ⟨y,hq,h3⟩:=hp
        obtain ⟨hr,h4⟩:=fin (some .ret) W3 _ h3
        exact ⟨_,_,hr,.inr ⟨rfl,.ret,y,K,hq,h4⟩⟩
      | exit id =>
        obtain ⟨y,hq,h3⟩:=hp
        obtain ⟨hr,h4⟩:=fin (some (.exit id)) W3 _ h3
        exact ⟨_,_,hr,.inr ⟨rfl,.exit id,y,K,hq,h4⟩⟩
      | goto t =>
        obtain ⟨y,hq,h3⟩:=hp
        obtain ⟨hr,h4⟩:=fin (some (.goto t)) W3 _ h3
        exact ⟨_,_,hr,.inr ⟨rfl,.goto t,y,K,hq,h4⟩⟩
      | panic ch => exact hp.elim
      | outgrown => exact hp.elim
    ·
      rintro e W2 ⟨⟨v,rfl⟩,(⟨xs,hT,h3⟩ | ⟨c,y,K,hq,h3⟩)⟩
      · have hF:=toF h3
        exact ⟨none,_,by have:=run_endLoop (P:=P) hF.objAt (by rw [hrec]; simp); rw [hrec] at this; exact this,hdone D xs [objR l (.loop { rec .ready none with state:=.exhausted })] _ hT (by have:=toD _ _ _ _ (hF.objPut (.loop { rec .ready none with state:=.exhausted })); rw [hrec] at this ⊢; exact this)⟩
      · have hF:=toF h3
        exact ⟨some c,_,by have:=run_endLoop (P:=P) hF.objAt (by rw [hrec]; simp); rw [hrec] at this; exact this,hstop D c y (K ++ [objR l (.loop { rec .done (some c) with state:=.exhausted })]) _ hq (by have:=toD _ _ _ _ (hF.objPut (.loop { rec .done (some c) with state:=.exhausted })); rw [hrec] at this ⊢; exact this)⟩
end
end
end Go.Proofs.YtangbdahnmomlaaGreatDoor
