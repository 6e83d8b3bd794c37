/- Maps whose keys are numbers of the kind uint64, with elements of any kind, as lists of pairs: what making, reading, writing, deleting and ranging over them comes to; as parts of memory. No condition but that the lengths fit. ledger: a row's bytes (text), and the row that bytes are (read). Conditions: the lengths fit. ledger: the rows of bytes (Rows). Conditions: the lengths fit. -/
import Derived.Test.YtangbdahnmomlaaGreatDoorBu04
import Derived.Test.YtangbdahnmomlaaGreatDoorBu07
import Derived.Test.YtangbdahnmomlaaGreatDoorBu08
import Derived.Test.YtangbdahnmomlaaGreatDoorBu14
set_option linter.unnecessarySimpa false
set_option linter.unusedSimpArgs false
set_option linter.unusedVariables false
set_option maxHeartbeats 2000000
set_option maxRecDepth 100000
namespace Go.Proofs.YtangbdahnmomlaaGreatDoor
section
open Go.RowKit Go.Maps
abbrev litN (n : Nat) : Lit:=.int .u64 (n : Int)
theorem litN_same (a b : Nat) : (litN a).sameKey (litN b) = (a == b):=by
  simp only [Lit.sameKey,true_and,Int.ofNat_inj]
  rfl
theorem litN_before (a b : Nat) : (litN a).before (litN b) = decide (a < b):=by
  simp only [Lit.before,Int.ofNat_lt]
theorem sameN_fun {H : Type} {V : Type} (k : Nat) (f : Nat × V → DataW H) : ((fun p : Lit × DataW H => !p.1.sameKey (litN k)) ∘ fun p : Nat × V => (litN p.1,f p)) = fun p : Nat × V => !(p.1 == k):=by
  funext p
  simp only [Function.comp,litN_same]
theorem keyN {P : Program} {k : TypeId} (hk : P.underlying k = some (.int .u64)) (n : Nat) (hn : n < 18446744073709551616) : keyOf P k (.int .u64 n) = some (litN n):=keyOf_int_mk hk (by simp [Lit.wf,IntKind.min,IntKind.max,IntKind.signed,IntKind.bits]; omega)
theorem keyN_inv {P : Program} {k : TypeId} (hk : P.underlying k = some (.int .u64)) {v : Value} {l : Lit} (h : keyOf P k v = some l) : ∃ n : Nat,n < 18446744073709551616 ∧ v = .int .u64 n ∧ l = litN n:=by
  cases v <;> simp [keyOf,hk,mapKey] at h
  rename_i q n
  obtain ⟨⟨rfl,hw⟩,rfl⟩:=h
  simp [Lit.wf,IntKind.min,IntKind.max,IntKind.signed,IntKind.bits] at hw
  obtain ⟨m,rfl⟩ : ∃ m : Nat,n = m:=⟨n.toNat,by omega⟩
  exact ⟨m,by omega,rfl,rfl⟩
abbrev Mn (V : Type):=List (Nat × V)
section
variable {V : Type}
def Mn.ins (x : Nat × V) : Mn V → Mn V
  | [] => [x]
  | y :: r => if decide (x.1 < y.1) then x :: y :: r else y :: Mn.ins x r
def Mn.del (F : Mn V) (k : Nat) : Mn V:=F.filter fun p => !(p.1 == k)
def Mn.put (F : Mn V) (k : Nat) (v : V) : Mn V:=Mn.ins (k,v) (F.del k)
def Mn.get (F : Mn V) (k : Nat) : Option V:=(F.find? fun p => p.1 == k).map (·.2)
def Mn.has (F : Mn V) (k : Nat) : Bool:=F.any fun p => p.1 == k
theorem Mn.has_eq (F : Mn V) (k : Nat) : F.has k = (F.get k).isSome:=by
  unfold Mn.has Mn.get
  induction F with
  | nil => rfl
  | cons y r ih =>
    by_cases h : (y.1 == k) = true
    · simp [h]
    · simp [h,ih]
theorem Mn.get_cons (y : Nat × V) (r : Mn V) (k : Nat) : Mn.get (y :: r) k = if y.1 = k then some y.2 else Mn.get r k:=by
  unfold Mn.get
  by_cases h : y.1 = k
  · simp [h]
  · simp [h,beq_eq_false_iff_ne.2 h]
theorem Mn.get_ins (x : Nat × V) (j : Nat) : ∀ F : Mn V,(∀ p ∈ F,p.1 ≠ x.1) → (Mn.ins x F).get j = if x.1 = j then some x.2 else F.get j
  | [],_ => by simp [Mn.ins,Mn.get_cons]
  | y :: r,h => by
    unfold Mn.ins
    split
    · rw [Mn.get_cons]
    · rw [Mn.get_cons,Mn.get_ins x j r (fun p hp => h p (by simp [hp])),Mn.get_cons]
      have hy:=h y (by simp)
      by_cases h1 : y.1 = j
      · have h2 : ¬ x.1 = j:=fun e => hy (h1.trans e.symm)
        simp [h1,h2]
      · simp [h1]
theorem Mn.get_del (F : Mn V) (k j : Nat) : (F.del k).get j = if j = k then none else F.get j:=by
  induction F with
  | nil => simp [Mn.del,Mn.get]
  | cons y r ih =>
    unfold Mn.del at *
    rw [List.filter_cons]
    by_cases hy : y.1 = k
    · simp only [hy,beq_self_eq_true,Bool.not_true,Bool.false_eq_true,if_false]
      rw [ih,Mn.get_cons]
      by_cases hj : j = k
      · simp [hj]
      · simp [hj,hy,Ne.symm hj]
    · simp only [beq_eq_false_iff_ne.2 hy,Bool.not_false,if_true]
      rw [Mn.get_cons,ih,Mn.get_cons]
      by_cases hj : j = k
      · simp [hj,hy]
      · simp [hj]
theorem Mn.get_put (F : Mn V) (k : Nat) (v : V) (j : Nat) : (F.put k v).get j = if k = j then some v else F.get j:=by
  unfold Mn.put
  rw [Mn.get_ins (k,v) j (F.del k) (fun p hp => by simp [Mn.del] at hp; exact hp.2),Mn.get_del]
  by_cases h : k = j
  · simp [h]
  · simp [h,Ne.symm h]
theorem Mn.length_ins (x : Nat × V) : ∀ F : Mn V,(Mn.ins x F).length = F.length + 1
  | [] => rfl
  | y :: r => by
    unfold Mn.ins
    split
    · rfl
    · simp [Mn.length_ins x r]
theorem Mn.length_put_le (F : Mn V) (k : Nat) (v : V) : (F.put k v).length ≤ F.length + 1:=by
  unfold Mn.put
  rw [Mn.length_ins]
  have:=List.length_filter_le (fun p : Nat × V => !(p.1 == k)) F
  unfold Mn.del
  omega
theorem Mn.mem_ins {x p : Nat × V} : ∀ {F : Mn V},p ∈ Mn.ins x F ↔ p = x ∨ p ∈ F
  | [] => by simp [Mn.ins]
  | y :: r => by
    unfold Mn.ins
    split
    · simp
    · simp only [List.mem_cons,Mn.mem_ins (F:=r)]
      constructor
      · rintro (h | h | h) <;> simp [h]
      · rintro (h | h | h) <;> simp [h]
theorem Mn.mem_put {F : Mn V} {k : Nat} {v : V} {p : Nat × V} : p ∈ F.put k v ↔ p = (k,v) ∨ (p ∈ F ∧ p.1 ≠ k):=by simp [Mn.put,Mn.mem_ins,Mn.del]
def Mn.data (enc : V → Value) (F : Mn V) : DataW Value:=.map (F.map fun p => (litN p.1,DataW.held (enc p.2)))
variable (enc : V → Value)
theorem Mn.data_ins (x : Nat × V) : ∀ F : Mn V,(Mn.ins x F).map (fun p => (litN p.1,DataW.held (enc p.2))) = DataW.insert (litN x.1,DataW.held (enc x.2)) (F.map fun p => (litN p.1,DataW.held (enc p.2)))
  | [] => rfl
  | y :: r => by
    simp only [Mn.ins,List.map_cons,DataW.insert]
    rw [litN_before]
    split
    · rfl
    · rw [List.map_cons,Mn.data_ins x r]
theorem Mn.data_del (F : Mn V) (k : Nat) : (F.data enc).del (litN k) = (F.del k).data enc:=by
  simp only [Mn.data,DataW.del,Mn.del,List.filter_map]
  rw [sameN_fun]
theorem Mn.data_put (F : Mn V) (k : Nat) (v : V) : (F.data enc).put (litN k) (.held (enc v)) = (F.put k v).data enc:=by
  simp only [Mn.put,Mn.data,DataW.put,Mn.data_ins]
  congr 2
  simp only [Mn.del,List.filter_map]
  rw [sameN_fun]
theorem Mn.data_has (F : Mn V) (k : Nat) : Maps.has (F.data enc) (litN k) = F.has k:=by
  simp only [Mn.data,Maps.has,Mn.has,List.any_map]
  congr 1
  funext p
  exact litN_same _ _
theorem Mn.data_size (F : Mn V) : Maps.size (F.data enc) = F.length:=by simp [Mn.data,Maps.size]
theorem Mn.data_at (F : Mn V) (k : Nat) (z : Value) : (F.data enc).atKey (litN k) (.held z) = .held (((F.get k).map enc).getD z):=by
  simp only [Mn.data,DataW.atKey,Mn.get,List.find?_map]
  have e : ((fun p : Lit × DataW Value => p.1.sameKey (litN k)) ∘ fun p : Nat × V => (litN p.1,DataW.held (enc p.2))) = fun p => p.1 == k:=by funext p; exact litN_same _ _
  rw [e]
  cases F.find? fun p => p.1 == k <;> rfl
end
def MapOfN {V : Type} (P : Program) (k : TypeId) (enc : V → Value) (w : World) (b : Nat) (F : Mn V) : Prop:=w.ownsMap P k heldElem b F.length (F.data enc)
section
variable {V : Type} {enc : V → Value} {P : Program} {t k e : TypeId} {w w2 : World} {b : Nat} {F : Mn V}
theorem MapOfN.tight {n : Nat} (h : w.ownsMap P k heldElem b n (F.data enc)) : MapOfN P k enc w b F:=by
  obtain ⟨es,clock,hb,Ft,hs,hD⟩:=h
  refine ⟨es,clock,hb,Ft,?_,hD⟩
  have h1:=congrArg Maps.size hD
  rw [Mn.data_size] at h1
  simp only [Maps.size,length_sorted,List.length_map,Array.length_toList] at h1
  omega
theorem MapOfN.lt (h : MapOfN P k enc w b F) : b < w.heap.size:=World.ownsMap.lt h
theorem MapOfN.ext {G : List Nat} (h : MapOfN P k enc w b F) (hx : Ext G w w2) (hb : b ∉ G) : MapOfN P k enc w2 b F:=by
  obtain ⟨es,clock,hh,rest⟩:=h
  exact ⟨es,clock,hx.heap hh hb,rest⟩
theorem MapOfN.made (w : World) : MapOfN (V:=V) P k enc (w.alloc (.map #[] 0)) w.heap.size []:=World.ownsMap_made w P k heldElem
theorem MapOfN.sorted (h : MapOfN P k enc w b F) (hk : Keyed P k) : F.Pairwise fun p q => p.1 < q.1:=by
  obtain ⟨es,he,hp,_⟩:=World.ownsMap.canon h hk
  injection he with he
  rw [← he,List.pairwise_map] at hp
  exact hp.imp fun {p q} h => by
    have : decide (p.1 < q.1) = true:=by rw [← litN_before]; exact h
    simpa using this
theorem MapOfN.look (h : MapOfN P k enc w b F) (hk : Keyed P k) (ht : P.underlying t = some (.map k e)) {z : Value} (hz : (zeroValue e).run P w = .ok z w)
    {key : Value} {x : Nat} (hx : keyOf P k key = some (litN x)) : (Instr.lookup t (.map (some b)) key false).run P w = .ok (((F.get x).map enc).getD z) w:=by
  obtain ⟨v,ps,hrun,hv⟩:=World.ownsMap.lookup h hk ht hz (zd:=.held z) (zp:=[]) rfl hx
  rw [Mn.data_at] at hv
  simp only [heldElem,Option.some.injEq,Prod.mk.injEq,DataW.held.injEq] at hv
  rw [hrun,hv.1]
theorem MapOfN.lookOk (h : MapOfN P k enc w b F) (hk : Keyed P k) (ht : P.underlying t = some (.map k e)) {z : Value} (hz : (zeroValue e).run P w = .ok z w)
    {key : Value} {x : Nat} (hx : keyOf P k key = some (litN x)) : (Instr.lookup t (.map (some b)) key true).run P w = .ok (.tuple #[((F.get x).map enc).getD z,.bool (F.has x)]) w:=by
  obtain ⟨v,ps,hrun,hv⟩:=World.ownsMap.look_ok h hk ht hz (zd:=.held z) (zp:=[]) rfl hx
  rw [Mn.data_at] at hv
  simp only [heldElem,Option.some.injEq,Prod.mk.injEq,DataW.held.injEq] at hv
  rw [Mn.data_has] at hrun
  rw [hrun,hv.1]
theorem MapOfN.update (h : MapOfN P k enc w b F) (hk : Keyed P k) (ht : P.underlying t = some (.map k e)) (hn : F.length < maxLen)
    {key : Value} {x : Nat} (hx : keyOf P k key = some (litN x)) (v : V) :
    ∃ w2,(Instr.mapUpdate t (.map (some b)) key (enc v)).run P w = .ok () w2 ∧ MapOfN P k enc w2 b (F.put x v) ∧ Ext [b] w w2 ∧ w2.heap.size = w.heap.size:=by
  obtain ⟨w2,hrun,h2,ht2⟩:=World.ownsMap.store h hk ht hn hx (val:=enc v) (d:=.held (enc v)) (ps:=[]) rfl
  simp only [Mn.data_put] at h2
  exact ⟨w2,hrun,MapOfN.tight h2,turned_ext ht2⟩
end
def leftInN {V : Type} (left : Lit → Bool) (F : Mn V) : Mn V:=F.filter fun p => left (litN p.1)
def RangeOfN {V : Type} (P : Program) (k : TypeId) (enc : V → Value) (w : World) (b r : Nat) (F L : Mn V) (cnt : Nat) : Prop :=
  ∃ left,w.ranges P k heldElem b r F.length (F.data enc) left cnt ∧ L = leftInN left F
theorem leftInN_step {V : Type} {F : Mn V} {left : Lit → Bool} {x : Nat} {c : V} (hs : F.Pairwise fun p q => p.1 ≠ q.1) (hm : (x,c) ∈ F) (hl : left (litN x) = true) :
    (leftInN left F).Perm ((x,c) :: leftInN (fun z => left z && !z.sameKey (litN x)) F):=by
  induction F with
  | nil => cases hm
  | cons y r ih =>
    rw [List.pairwise_cons] at hs
    rcases List.mem_cons.1 hm with rfl | hm
    · have h1 : leftInN (fun z => left z && !z.sameKey (litN x)) ((x,c) :: r) = leftInN left r:=by
        unfold leftInN
        rw [List.filter_cons]
        simp only [litN_same,beq_self_eq_true,Bool.not_true,Bool.and_false,Bool.false_eq_true,if_false]
        refine List.filter_congr fun p hp => ?_
        have : (p.1 == x) = false:=beq_eq_false_iff_ne.2 (fun e => hs.1 p hp e.symm)
        simp [litN_same,this]
      rw [h1]
      unfold leftInN
      rw [List.filter_cons]
      simp [hl]
    · have hne : (y.1 == x) = false:=beq_eq_false_iff_ne.2 (fun e => hs.1 _ hm e)
      have ih':=ih hs.2 hm
      unfold leftInN at *
      rw [List.filter_cons,List.filter_cons]
      by_cases hy : left (litN y.1) = true
      · have h2 : (litN y.1).sameKey (litN x) = false:=(litN_same _ _).trans hne
        simp only [hy,h2,Bool.not_false,Bool.and_self,if_true]
        exact (List.Perm.cons _ ih').trans (List.Perm.swap ..)
      · simp only [hy,Bool.false_and]
        simpa using ih'
theorem risingN_ne {V : Type} {F : Mn V} (h : F.Pairwise fun p q => p.1 < q.1) : F.Pairwise fun p q => p.1 ≠ q.1:=h.imp fun h => Nat.ne_of_lt h
section
variable {V : Type} {enc : V → Value} {P : Program} {t k e : TypeId} {w w2 : World} {b r cnt : Nat} {F L : Mn V}
theorem MapOfN.range (h : MapOfN P k enc w b F) (hk : Keyed P k) (ht : P.underlying t = some (.map k e)) :
    ∃ w0 cnt,(Instr.range t (.map (some b))).run P w = .ok (.pointer (some ⟨w.heap.size,0,none⟩)) w0 ∧ RangeOfN P k enc w0 b w.heap.size F F cnt ∧ Ext [] w w0 ∧ w0.heap.size = w.heap.size + 1:=by
  obtain ⟨w0,hrun,r1,r2,r3⟩:=World.ownsMap.range h hk ht
  refine ⟨w0,_,hrun,⟨_,r1,?_⟩,(Ext.refl [] w).grown r2 (by simp),r3⟩
  unfold leftInN
  rw [List.filter_eq_self.2]
  intro p hp
  rw [Mn.data_has,Mn.has,List.any_eq_true]
  exact ⟨p,hp,by simp⟩
theorem RangeOfN.ext {G : List Nat} (h : RangeOfN P k enc w b r F L cnt) (hx : Ext G w w2) (hb : b ∉ G) (hr : r ∉ G) : RangeOfN P k enc w2 b r F L cnt:=by
  obtain ⟨left,⟨es,clock,since,seen,c0,h1,h2,h3,h4,h5,rest⟩,hL⟩:=h
  exact ⟨left,⟨es,clock,since,seen,c0,hx.heap h1 hb,h2,h3,h4,hx.heap h5 hr,rest⟩,hL⟩
theorem RangeOfN.left_eq (h : RangeOfN P k enc w b r F L cnt) : w.rangeLeft b r = cnt:=by
  obtain ⟨left,h,_⟩:=h
  exact h.left_eq
theorem RangeOfN.owns (h : RangeOfN P k enc w b r F L cnt) : MapOfN P k enc w b F:=by
  obtain ⟨left,h,_⟩:=h
  exact h.owns
theorem RangeOfN.lt (h : RangeOfN P k enc w b r F L cnt) : r < w.heap.size:=by
  obtain ⟨left,h,_⟩:=h
  exact h.lt
theorem RangeOfN.next (h : RangeOfN P k enc w b r F L cnt) (hk : P.underlying k = some (.int .u64)) :
    (L = [] ∧ ∀ ty,(Instr.next (.pointer (some ⟨r,0,none⟩)) false ty).run P w = .ok (.tuple #[.bool false]) w) ∨
    ∃ (x : Nat) (c : V) (w1 : World) (L1 : Mn V) (cnt1 : Nat),L.Perm ((x,c) :: L1) ∧ (x,c) ∈ F ∧ x < 18446744073709551616 ∧ (∀ ty,(Instr.next (.pointer (some ⟨r,0,none⟩)) false ty).run P w = .ok (.tuple #[.bool true,.int .u64 x,enc c]) w1) ∧
      RangeOfN P k enc w1 b r F L1 cnt1 ∧ cnt1 < cnt ∧ Ext [r] w w1 ∧ w1.heap.size = w.heap.size ∧ (Instr.entry (.pointer (some ⟨r,0,none⟩))).run P w1 = .ok (.tuple #[.int .u64 x,enc c]) w1:=by
  have hsort:=h.owns.sorted (int_keyed hk)
  obtain ⟨left,h,rfl⟩:=h
  rcases h.next (int_keyed hk) 0 with ⟨h0,hl,hrun⟩ | ⟨key,v,kl,y,w1,cnt1,hkey,hlk,hv,hat,hrun,hrg,hlt,hgr,hsz,hen⟩
  · exact .inl ⟨by unfold leftInN; simp [hl],fun _ => hrun⟩
  · obtain ⟨x,hx,rfl,rfl⟩:=keyN_inv hk hkey
    have hm : ∃ c,(x,c) ∈ F ∧ v = enc c:=by
      have h1:=hat (.lit (.bool true))
      simp only [Mn.data,DataW.atKey,List.find?_map] at h1
      have e1 : ((fun p : Lit × DataW Value => p.1.sameKey (litN x)) ∘ fun p : Nat × V => (litN p.1,DataW.held (enc p.2))) = fun p => p.1 == x:=by funext p; exact litN_same _ _
      rw [e1] at h1
      simp only [heldElem,Option.some.injEq] at hv
      subst hv
      cases hf : F.find? (fun p => p.1 == x) with
      | none => rw [hf] at h1; simp at h1
      | some p =>
        rw [hf] at h1
        simp only [Option.map_some,DataW.held.injEq] at h1
        have h3:=List.find?_some hf
        have h4:=List.mem_of_find?_eq_some hf
        simp only [beq_iff_eq] at h3
        exact ⟨p.2,by rw [← h3]; exact h4,h1.symm⟩
    obtain ⟨c,hm,rfl⟩:=hm
    exact .inr ⟨x,c,w1,_,cnt1,leftInN_step (risingN_ne hsort) hm hlk,hm,hx,fun _ => hrun,⟨_,hrg,rfl⟩,hlt,(Ext.refl [r] w).grown hgr (by simp),hsz,hen⟩
end
abbrev mapNR {V : Type} (k : TypeId) (enc : V → Value) (b : Nat) (M : Mn V) : Res where
  holds:=fun F w => F = [b] ∧ MapOfN Tryz.prog k enc w b M
  keeps:=fun h hx hd => ⟨h.1,h.2.ext hx (hd b (by simp [h.1]))⟩
  inside:=fun h x hx => by rw [h.1] at hx; simp at hx; subst hx; exact h.2.lt
abbrev rangeNR {V : Type} (k : TypeId) (enc : V → Value) (b r : Nat) (M L : Mn V) (cnt : Nat) : Res where
  holds:=fun F w => F = [b,r] ∧ RangeOfN Tryz.prog k enc w b r M L cnt
  keeps:=fun h hx hd => ⟨h.1,h.2.ext hx (hd b (by simp [h.1])) (hd r (by simp [h.1]))⟩
  inside:=fun h x hx => by
    rw [h.1] at hx
    simp at hx
    rcases hx with rfl | rfl
    · exact h.2.owns.lt
    · exact h.2.lt
section
variable {V : Type} {enc : V → Value} {t k e b r cnt : Nat} {w0 w : World} {F0 : List Nat} {L : List Res} {M N : Mn V}
theorem Sp.mapN (S : Sp w0 F0 w (mapNR k enc b M :: L)) : MapOfN Tryz.prog k enc w b M:=by
  obtain ⟨F,⟨rfl,h⟩,_⟩:=S.take
  exact h
theorem Sp.mapNMade (S : Sp w0 F0 w L) (k : TypeId) (enc : V → Value) : Sp w0 F0 (w.alloc (.map #[] 0)) (mapNR k enc w.heap.size [] :: L) :=
  S.gain (G:=[w.heap.size]) ((Ext.refl [] w).alloc _) ⟨rfl,MapOfN.made w⟩ (by simp)
theorem Sp.mapNTo {M2 : Mn V} {w2 : World} (S : Sp w0 F0 w (mapNR k enc b M :: L)) (h : MapOfN Tryz.prog k enc w2 b M2) (hx : Ext [b] w w2) : Sp w0 F0 w2 (mapNR k enc b M2 :: L):=by
  obtain ⟨F,⟨rfl,_⟩,h2⟩:=S.take
  exact h2 _ _ [b] ⟨rfl,h⟩ (Moved.of_ext hx)
theorem Sp.mapNPut (S : Sp w0 F0 w (mapNR k enc b M :: L)) (hk : Keyed Tryz.prog k) (ht : Tryz.prog.underlying t = some (.map k e)) (hn : M.length < maxLen) {key : Value} {x : Nat} (hx : keyOf Tryz.prog k key = some (litN x)) (v : V) :
    ∃ w2,(Instr.mapUpdate t (.map (some b)) key (enc v)).run Tryz.prog w = .ok () w2 ∧ Sp w0 F0 w2 (mapNR k enc b (M.put x v) :: L) ∧ w2.heap.size = w.heap.size:=by
  obtain ⟨w2,h1,h2,h3,h4⟩:=S.mapN.update hk ht hn hx v
  exact ⟨w2,h1,S.mapNTo h2 h3,h4⟩
theorem Sp.mapNDel (S : Sp w0 F0 w (mapNR k enc b M :: L)) (hk : Keyed Tryz.prog k) (ht : Tryz.prog.underlying t = some (.map k e)) {key : Value} {x : Nat} (hx : keyOf Tryz.prog k key = some (litN x)) :
    ∃ w2,(∀ ty,(Builtin.delete_ #[t,k] ty #[.map (some b),key]).run Tryz.prog w = .ok (.tuple #[]) w2) ∧ Sp w0 F0 w2 (mapNR k enc b (M.del x) :: L) ∧ w2.heap.size = w.heap.size:=by
  obtain ⟨w2,h1,h2,h3⟩:=World.ownsMap.drop S.mapN hk ht hx 0
  rw [Mn.data_del] at h2
  have h4:=turned_ext h3
  exact ⟨w2,fun _ => h1,S.mapNTo (MapOfN.tight h2) h4.1,h4.2⟩
theorem Sp.rangeNMade (S : Sp w0 F0 w (mapNR k enc b M :: L)) (hk : Keyed Tryz.prog k) (ht : Tryz.prog.underlying t = some (.map k e)) :
    ∃ w1 cnt,(Instr.range t (.map (some b))).run Tryz.prog w = .ok (.pointer (some ⟨w.heap.size,0,none⟩)) w1 ∧ Sp w0 F0 w1 (rangeNR k enc b w.heap.size M M cnt :: L):=by
  obtain ⟨w1,cnt,h1,h2,h3,h4⟩:=S.mapN.range hk ht
  obtain ⟨F,⟨rfl,h⟩,hk2⟩:=S.take
  exact ⟨w1,cnt,h1,hk2 w1 _ [b,w.heap.size] ⟨rfl,h2⟩ ⟨h3.mono (by simp),by simp⟩⟩
theorem Sp.rangeN (S : Sp w0 F0 w (rangeNR k enc b r M N cnt :: L)) : RangeOfN Tryz.prog k enc w b r M N cnt:=by
  obtain ⟨F,⟨rfl,h⟩,_⟩:=S.take
  exact h
theorem Sp.rangeNTo {M2 N2 : Mn V} {c2 : Nat} {w2 : World} (S : Sp w0 F0 w (rangeNR k enc b r M N cnt :: L)) (h : RangeOfN Tryz.prog k enc w2 b r M2 N2 c2) (hx : Ext [b,r] w w2) : Sp w0 F0 w2 (rangeNR k enc b r M2 N2 c2 :: L):=by
  obtain ⟨F,⟨rfl,_⟩,h2⟩:=S.take
  exact h2 _ _ [b,r] ⟨rfl,h⟩ (Moved.of_ext hx)
theorem Sp.rangeNEnd (S : Sp w0 F0 w (rangeNR k enc b r M N cnt :: L)) : Sp w0 F0 w (mapNR k enc b M :: L):=by
  obtain ⟨F,⟨rfl,h⟩,h2⟩:=S.take
  exact h2 w _ [b] ⟨rfl,h.owns⟩ ⟨Ext.refl _ _,by simp⟩
theorem RangeOfN.apart {P : Program} (h : RangeOfN P k enc w b r M N cnt) (hk : Keyed P k) : N.Pairwise fun p q => p.1 ≠ q.1:=by
  have:=risingN_ne (h.owns.sorted hk)
  obtain ⟨left,_,rfl⟩:=h
  exact this.filter _
theorem Sp.rangeNNext (S : Sp w0 F0 w (rangeNR k enc b r M N cnt :: L)) (hk : Tryz.prog.underlying k = some (.int .u64)) :
    (N = [] ∧ ∀ ty,(Instr.next (.pointer (some ⟨r,0,none⟩)) false ty).run Tryz.prog w = .ok (.tuple #[.bool false]) w) ∨
    ∃ (x : Nat) (c : V) (w1 : World) (N1 : Mn V) (cnt1 : Nat),N.Perm ((x,c) :: N1) ∧ (x,c) ∈ M ∧ x < 18446744073709551616 ∧ (∀ ty,(Instr.next (.pointer (some ⟨r,0,none⟩)) false ty).run Tryz.prog w = .ok (.tuple #[.bool true,.int .u64 x,enc c]) w1) ∧
      Sp w0 F0 w1 (rangeNR k enc b r M N1 cnt1 :: L) ∧ cnt1 < cnt ∧ (∀ p ∈ N1,p.1 ≠ x) ∧ (Instr.entry (.pointer (some ⟨r,0,none⟩))).run Tryz.prog w1 = .ok (.tuple #[.int .u64 x,enc c]) w1:=by
  have hap:=S.rangeN.apart (int_keyed hk)
  rcases S.rangeN.next hk with ⟨h1,h2⟩ | ⟨x,c,w1,N1,cnt1,h1,h2,h3,h4,h5,h6,h7,h8,h9⟩
  · exact .inl ⟨h1,h2⟩
  · refine .inr ⟨x,c,w1,N1,cnt1,h1,h2,h3,h4,S.rangeNTo h5 (h7.mono (by simp)),h6,fun p hp => ?_,h9⟩
    have:=(h1.pairwise_iff (fun {_ _} h => Ne.symm h)).1 hap
    rw [List.pairwise_cons] at this
    exact Ne.symm (this.1 p hp)
end
end
section
open Go.RowKit Go.Maps
theorem rowText_any (x : LRow) (w : World) (hk : x.key.length ≤ 1000000) (hc : x.ceil < 18446744073709551616) :
    Calls Tryz.prog 178 #[.agg #[.string ⟨x.key.toArray⟩,.int .u64 x.ceil]] w fun e w2 => e = .returned (.string ⟨x.text.toArray⟩) ∧ Ext [] w w2:=by
  have HT : Hid (x.text = textB (textB x.key ++ numB x.ceil)):=rfl
  obtain ⟨key,ceil⟩:=x
  dsimp only at hk hc HT ⊢
  have HK:=Lib.hid hk
  have HC:=Lib.hid hc
  clear hk hc
  go_enter Tryz.func178,Tryz.ntmps178
  go_wp2_with fail
  have hB0:=Bld.fresh (w.alloc (.cells #[.string ⟨key.toArray⟩,.int .u64 ceil] 137)) 203
  have hX0 : Ext [] w ((w.alloc (.cells #[.string ⟨key.toArray⟩,.int .u64 ceil] 137)).alloc (.cells #[.pointer none,.slice none 0 0] 203)):=((Ext.refl [] w).alloc _).alloc _
  have hr0 : ((w.alloc (.cells #[.string ⟨key.toArray⟩,.int .u64 ceil] 137)).alloc (.cells #[.pointer none,.slice none 0 0] 203)).heap[w.heap.size]? = some (.cells #[.string ⟨key.toArray⟩,.int .u64 ceil] 137 (0,0)):=((Ext.refl [] _).alloc _).heap (heap_alloc_new w _) (by simp)
  rw [show (w.alloc (.cells #[.string ⟨key.toArray⟩,.int .u64 ceil] 137)).heap.size = w.heap.size + 1 by simp] at hB0
  refine (outText_any (w.heap.size + 1) [w.heap.size + 1] [] key _ hB0 (by decide) (by have:=HK.out; omega)).mono ?_
  rintro e w1 ⟨rfl,F1,hB1,m1⟩
  rw [List.nil_append] at hB1
  have HB1:=Lib.hid hB1
  have HX1:=Lib.hid (hX0.trans m1.ext (by simp))
  have hn1 : w.heap.size ∉ F1:=fun h => by
    rcases m1.new _ h with h | h
    · simp at h
    · simp at h; omega
  have hr1:=m1.ext.heap hr0 (by simp)
  have HR1:=Lib.hid hr1
  have HF1 : Hid (∀ x ∈ F1,w.heap.size < x):=fun x hx => by
    rcases m1.new x hx with h | h
    · simp at h; omega
    · simp at h; omega
  have c1 : w1.cell? ⟨w.heap.size,1,none⟩ = some (.int .u64 ceil):=by rw [box_cell hr1]; rfl
  clear hB0 hX0 hr0 hB1 m1 hr1 hn1
  go_wp2_with fail
  refine (outNum_any (w.heap.size + 1) F1 (textB key) ceil _ HB1.out (by have:=textB_length_le key; have:=HK.out; simp; omega) HC.out).mono ?_
  rintro e w2 ⟨rfl,F2,hB2,m2⟩
  have HB2:=Lib.hid hB2
  have HX2:=Lib.hid (HX1.out.trans m2.ext (fun x hx => .inr (by have:=HF1.out x hx; omega)))
  have HF2 : Hid (∀ x ∈ F2,w.heap.size ≤ x):=fun x hx => by
    rcases m2.new x hx with h | h
    · have:=HF1.out x h; omega
    · have:=HX1.out.size; omega
  clear hB2 m2 c1
  go_wp2_with fail
  refine (bldString_any 203 (w.heap.size + 1) F2 (textB key ++ numB ceil) _ HB2.out (by simp [textB,numB])).mono ?_
  rintro e w3 ⟨rfl,hx3⟩
  have HX3:=Lib.hid (HX2.out.trans hx3 (fun x hx => .inr (HF2.out x hx)))
  clear hx3
  go_wp2_with fail
  refine (packText_any (textB key ++ numB ceil) _ (by have:=textB_length_le key; have:=numB_length_le ceil; have:=HK.out; simp; omega)).mono ?_
  rintro e w4 ⟨rfl,hx4⟩
  have HX4:=Lib.hid (HX3.out.trans hx4 (by simp))
  clear hx4
  go_wp2
  go_ret
  exact ⟨by rw [HT.out]; rfl,HX4.out⟩
end
section
open Go.RowKit Go.Maps
def rowNext (r : Rd) : LRow × Bool × Rd:=((readRow (r.text 600).1).1,(readRow (r.text 600).1).2 && !(r.text 600).1.isEmpty,(r.text 600).2)
abbrev LRow.vals (x : LRow) : List Value:=[.string ⟨x.key.toArray⟩,.int .u64 x.ceil]
def ledScan : Nat → Bs → List LRow × Bs
  | 0,s => ([],s)
  | f + 1,s => if (rowNext ⟨s,false⟩).2.1 then ((rowNext ⟨s,false⟩).1 :: (ledScan f (rowNext ⟨s,false⟩).2.2.s).1,(ledScan f (rowNext ⟨s,false⟩).2.2.s).2) else ([],s)
def ledRows (s : Bs) : List LRow:=(ledScan (s.length + 1) s).1
def ledRest (s : Bs) : Bs:=(ledScan (s.length + 1) s).2
def lrowOk (x : LRow) : Prop:=x.key.length ≤ 300 ∧ x.ceil ≤ 1099511627776
theorem ldone_bad {r : Rd} (h : r.done = 0) : r.bad = false ∧ r.s = []:=by
  unfold Rd.done at h
  split at h
  · cases h
  · split at h
    · rename_i h1 h2
      exact ⟨by simpa using h1,by simpa using h2⟩
    · cases h
theorem rowNext_spec {s : Bs} (h : (rowNext ⟨s,false⟩).2.1 = true) :
    (rowNext ⟨s,false⟩).2.2.bad = false ∧ s = (rowNext ⟨s,false⟩).1.text ++ (rowNext ⟨s,false⟩).2.2.s ∧ (rowNext ⟨s,false⟩).2.2.s.length < s.length ∧ lrowOk (rowNext ⟨s,false⟩).1:=by
  unfold rowNext at h ⊢
  simp only [Bool.and_eq_true,Bool.not_eq_true'] at h ⊢
  obtain ⟨h1,h2⟩:=h
  have hb : (Rd.text ⟨s,false⟩ 600).2.bad = false:=by
    cases hh : (Rd.text ⟨s,false⟩ 600).2.bad with
    | false => rfl
    | true =>
      exfalso
      have ht : (Rd.text ⟨s,false⟩ 600).1 = []:=by
        unfold Rd.text Rd.take at hh ⊢
        split
        · rfl
        · rename_i hc
          rw [if_neg hc] at hh
          cases hh
      rw [ht] at h2
      cases h2
  obtain ⟨_,ea⟩:=text_ok hb
  have hl:=(text_len ⟨s,false⟩ 600).2.1 hb
  generalize (Rd.text ⟨s,false⟩ 600).1 = t at *
  unfold readRow at h1 ⊢
  simp only [decide_eq_true_eq] at h1 ⊢
  obtain ⟨b2,e2⟩:=ldone_bad h1
  obtain ⟨b1,e1⟩:=num_ok b2
  obtain ⟨b0,e0⟩:=text_ok b1
  have l1:=text_fst_le ⟨t,false⟩ 300
  have l2:=num_le (Rd.text ⟨t,false⟩ 300).2 1099511627776
  dsimp only at *
  refine ⟨hb,?_,hl,l1,l2⟩
  rw [e2,List.append_nil] at e1
  rw [e1] at e0
  unfold LRow.text
  rw [← e0]
  exact ea
theorem ledScan_succ (f : Nat) (s : Bs) (h : s.length < f) : ledScan (f + 1) s = ledScan f s:=by
  induction f generalizing s with
  | zero => omega
  | succ f ih =>
    conv => lhs; rw [ledScan]
    conv => rhs; rw [ledScan]
    split
    · rename_i h1
      obtain ⟨_,_,h2,_⟩:=rowNext_spec h1
      rw [ih _ (by omega)]
    · rfl
theorem ledScan_step {s : Bs} (h : (rowNext ⟨s,false⟩).2.1 = true) : ledRows s = (rowNext ⟨s,false⟩).1 :: ledRows (rowNext ⟨s,false⟩).2.2.s ∧ ledRest s = ledRest (rowNext ⟨s,false⟩).2.2.s:=by
  obtain ⟨_,_,h2,_⟩:=rowNext_spec h
  have h3 : ∀ f,(rowNext ⟨s,false⟩).2.2.s.length < f → ledScan f (rowNext ⟨s,false⟩).2.2.s = ledScan ((rowNext ⟨s,false⟩).2.2.s.length + 1) (rowNext ⟨s,false⟩).2.2.s:=by
    intro f hf
    induction f with
    | zero => omega
    | succ f ih =>
      by_cases hh : (rowNext ⟨s,false⟩).2.2.s.length < f
      · rw [ledScan_succ _ _ hh,ih hh]
      · rw [show f = (rowNext ⟨s,false⟩).2.2.s.length by omega]
  unfold ledRows ledRest
  rw [ledScan,if_pos h,h3 _ h2]
  exact ⟨rfl,rfl⟩
theorem ledScan_stop {s : Bs} (h : (rowNext ⟨s,false⟩).2.1 = false) : ledRows s = [] ∧ ledRest s = s:=by
  unfold ledRows ledRest
  rw [ledScan,if_neg (by simp [h])]
  exact ⟨rfl,rfl⟩
section
variable {w0 w : World} {F0 : List Nat} {L : List Res}
theorem nonceS (n : Nat) (S : Sp w0 F0 w L) (hn : n < 18446744073709551616) : Calls Tryz.prog 144 #[.int .u64 n] w fun e w2 => e = .returned (.string ⟨(nonceB n).toArray⟩) ∧ Sp w0 F0 w2 L :=
  (nonce_any n w hn).mono fun _ _ ⟨he,hx⟩ => ⟨he,S.ext0 hx⟩
theorem rowTextS (x : LRow) (S : Sp w0 F0 w L) (hk : x.key.length ≤ 1000000) (hc : x.ceil < 18446744073709551616) : Calls Tryz.prog 178 #[.agg #[.string ⟨x.key.toArray⟩,.int .u64 x.ceil]] w fun e w2 => e = .returned (.string ⟨x.text.toArray⟩) ∧ Sp w0 F0 w2 L :=
  (rowText_any x w hk hc).mono fun _ _ ⟨he,hx⟩ => ⟨he,S.ext0 hx⟩
theorem ledReadS (s : Bs) (S : Sp w0 F0 w L) (hs : s.length ≤ 1000000000) : Calls Tryz.prog 93 #[.string ⟨s.toArray⟩] w fun e w2 => e = .returned (.tuple #[.agg #[.string ⟨(readRow s).1.key.toArray⟩,.int .u64 (readRow s).1.ceil],.bool (readRow s).2]) ∧ Sp w0 F0 w2 L :=
  (ledRead_any s w hs).mono fun _ _ ⟨he,hx⟩ => ⟨he,S.ext0 hx⟩
theorem ledNextS (ci b : Nat) (r : Rd) (S : Sp w0 F0 w (boxR ci #[.pointer (some ⟨b,0,none⟩)] 143 :: rdR 151 b r :: L)) (hs : r.s.length ≤ 1000000000) :
    Calls Tryz.prog 91 #[.pointer (some ⟨ci,0,none⟩)] w fun e w2 => e = .returned (.tuple #[.agg #[.string ⟨(rowNext r).1.key.toArray⟩,.int .u64 (rowNext r).1.ceil],.bool (rowNext r).2.1]) ∧ Sp w0 F0 w2 (boxR ci #[.pointer (some ⟨b,0,none⟩)] 143 :: rdR 151 b (rowNext r).2.2 :: L):=by
  have HR : Hid (rowNext r = ((readRow (r.text 600).1).1,(readRow (r.text 600).1).2 && !(r.text 600).1.isEmpty,(r.text 600).2)):=rfl
  have HL:=Lib.hid hs
  have HT:=Lib.hid (text_len r 600).2.2
  have S0:=S.box #[.string ⟨#[]⟩,.int .u64 0] 137
  have hlt:=S.boxlt
  have c0:=S.cell
  have HS0:=Lib.hid S0.pull2
  clear S S0 hs
  go_enter Tryz.func91,Tryz.ntmps91
  go_wp2_with fail
  refine (rdTextS 600 600 rfl HS0.out (by have:=HL.out; omega) (by decide)).mono ?_
  generalize r.text 600 = tr at *
  obtain ⟨t,r1⟩:=tr
  dsimp only at *
  rintro e w1 ⟨rfl,S⟩
  have HS1:=Lib.hid S
  clear S HS0
  go_wp2_with fail
  refine (ledReadS t HS1.out (by have:=HL.out; have:=HT.out; omega)).mono ?_
  generalize readRow t = rr at *
  obtain ⟨⟨key,ceil⟩,ok⟩:=rr
  dsimp only at *
  rintro e w2 ⟨rfl,S⟩
  have c1:=S.pull1.cell
  have f1:=S.pull1.free
  have l1:=S.pull1.boxlt
  have SF:=((S.pull1.set (o:=0) (.string ⟨key.toArray⟩)).set (o:=1) (.int .u64 ceil)).new (.cells #[.string ⟨key.toArray⟩,.int .u64 ceil] 137)
  have HFIN : Hid (∀ bb : Bool,rowNext r = (⟨key,ceil⟩,bb,r1) → Sp w0 F0 (((w2.setCell ⟨w.heap.size,0,none⟩ (.string ⟨key.toArray⟩)).setCell ⟨w.heap.size,1,none⟩ (.int .u64 ceil)).alloc (.cells #[.string ⟨key.toArray⟩,.int .u64 ceil] 137)) (boxR ci #[.pointer (some ⟨b,0,none⟩)] 143 :: rdR 151 b r1 :: L)):=fun bb _ => (Sp.pick [_,_,_] [2,1] (by decide) (SF))
  have hc3 : ∀ o,(((w2.setCell ⟨w.heap.size,0,none⟩ (.string ⟨key.toArray⟩)).setCell ⟨w.heap.size,1,none⟩ (.int .u64 ceil)).alloc (.cells #[.string ⟨key.toArray⟩,.int .u64 ceil] 137)).cell? ⟨w.heap.size,o,none⟩ = #[.string ⟨key.toArray⟩,.int .u64 ceil][o]?:=SF.cell
  have HC3:=Lib.hid hc3
  clear hc3 S SF HS1
  have hcase : (ok = true ∧ ∃ c t',t = c :: t') ∨ (ok = true ∧ t = []) ∨ ok = false:=by
    cases ok
    · exact .inr (.inr rfl)
    · cases t with
      | nil => exact .inr (.inl ⟨rfl,rfl⟩)
      | cons c t' => exact .inl ⟨rfl,c,t',rfl⟩
  rcases hcase with ⟨rfl,c,t',rfl⟩ | ⟨rfl,rfl⟩ | rfl
  · have h1 : (ByteArray.mk (c :: t').toArray).toList.isEmpty = false:=by rw [ByteArray.toList_eq]; rfl
    have h2 : (!(ByteArray.mk (c :: t').toArray).toList.isEmpty) = true:=by rw [h1]; rfl
    go_wp2
    have c3:=HC3.out
    refine bodyPost_ret (v:=.tuple #[.agg #[.string ⟨key.toArray⟩,.int .u64 ceil],.bool true]) ?_ rfl ⟨by rw [HR.out] <;> rfl,by rw [HR.out]; exact HFIN.out _ HR.out⟩
    simp [results,Tryz.results91,go_sem,c3]
  · go_wp2
    have c3:=HC3.out
    refine bodyPost_ret (v:=.tuple #[.agg #[.string ⟨key.toArray⟩,.int .u64 ceil],.bool false]) ?_ rfl ⟨by rw [HR.out] <;> rfl,by rw [HR.out]; exact HFIN.out _ HR.out⟩
    simp [results,Tryz.results91,go_sem,c3]
  · go_wp2
    have c3:=HC3.out
    refine bodyPost_ret (v:=.tuple #[.agg #[.string ⟨key.toArray⟩,.int .u64 ceil],.bool false]) ?_ rfl ⟨by rw [HR.out] <;> rfl,by rw [HR.out]; exact HFIN.out _ HR.out⟩
    simp [results,Tryz.results91,go_sem,c3]
theorem infoRow : (Tryz.prog.info? 137).map (fun i => (i.zero,i.size,i.bytes)) = some (some (.agg #[.string ⟨#[]⟩,.int .u64 0]),2,24):=by kernel_rfl
abbrev lrowsR (v : Value) (l : List LRow) : Res:=rowR 137 2 v l.length (l.map LRow.vals).flatten
theorem ledRowsS (s : Bs) (S : Sp w0 F0 w L) (hs : s.length ≤ 1000000000) :
    Calls Tryz.prog 60 #[.string ⟨s.toArray⟩] w fun e w2 => ∃ v,e = .returned (.tuple #[v,.int .i64 ((s.length : Int) - (ledRest s).length)]) ∧ Sp w0 F0 w2 (lrowsR v (ledRows s) :: L):=by
  have HL:=Lib.hid hs
  have hs' : (s.length : Int) ≤ 1000000000:=by omega
  have HS0:=Lib.hid S
  clear S hs
  go_enter Tryz.func60,Tryz.ntmps60
  go_wp2_with fail
  refine (fromS HS0.out s).mono ?_
  rintro e w1 ⟨b,rfl,S1⟩
  have S2:=(S1.box #[.pointer (some ⟨b,0,none⟩)] 143).rowNil 137 2
  have HS2:=Lib.hid S2.pull2.pull2
  clear S1 S2 HS0
  go_wp2_with fail
  generalize w1.alloc (.cells #[.pointer (some ⟨b,0,none⟩)] 143) = w2 at *
  generalize w1.heap.size = ci at *
  go_loopw [4,6] (fun v at0 wr => ∃ (dn : List LRow) (r : Bs),ledRows s = dn ++ ledRows r ∧ ledRest s = ledRest r ∧ at0 = .int .i64 ((s.length : Int) - r.length) ∧ r.length + dn.length ≤ s.length ∧ Sp w0 F0 wr (boxR ci #[.pointer (some ⟨b,0,none⟩)] 143 :: rdR 151 b ⟨r,false⟩ :: lrowsR v dn :: L)) (fun _ v _ => s.length - (intOf v).toNat)
  case atStart => exact ⟨[],s,rfl,rfl,by simp,by simp,HS2.out⟩
  case round =>
    obtain ⟨dn,r,h1,h2,rfl,h4,S3⟩:=hrel
    have H1:=Lib.hid h1
    have H2:=Lib.hid h2
    have H4:=Lib.hid h4
    have HS3:=Lib.hid S3
    clear h1 h2 h4 S3 HS2
    go_wp2_with fail
    refine (ledNextS ci b ⟨r,false⟩ HS3.out (by have:=HL.out; have:=H4.out; dsimp only; omega)).mono ?_
    have HQ:=Lib.hid (@rowNext_spec r)
    have HQ1:=Lib.hid (@ledScan_step r)
    have HQ2:=Lib.hid (@ledScan_stop r)
    generalize rowNext ⟨r,false⟩ = q at *
    obtain ⟨⟨key,ceil⟩,ok,r2⟩:=q
    dsimp only at *
    rintro e w4 ⟨rfl,S⟩
    have S4:=(S.box #[.string ⟨key.toArray⟩,.int .u64 ceil] 137).box #[.string ⟨key.toArray⟩,.int .u64 ceil] 137
    simp only [World.size_alloc] at S4
    cases ok with
    | false =>
      obtain ⟨g1,g2⟩:=HQ2.out rfl
      have HR1 : Hid (ledRows s = dn):=by rw [H1.out,g1]; simp [Hid]
      have HR2 : Hid (ledRest s = r):=by rw [H2.out,g2]; trivial
      have HS5:=Lib.hid ((S.new (.cells #[.string ⟨key.toArray⟩,.int .u64 ceil] 137)))
      clear S S4 HS3 g1 g2 HQ HQ1 HQ2 H1 H2
      have hu : ∃ v0,v0 = u4:=⟨_,rfl⟩
      go_wp2
      go_ret2
      refine ⟨u4,?_,?_⟩
      · rw [HR2.out]; rfl
      · rw [HR1.out]; exact (Sp.pick [_,_,_] [2] (by decide) (HS5.out))
    | true =>
      obtain ⟨g1,g2,g3,g4⟩:=HQ.out rfl
      obtain ⟨g7,g8⟩:=HQ1.out rfl
      obtain ⟨r2,bad⟩:=r2
      dsimp only at *
      subst g1
      obtain ⟨g,cap,w6,hrun,S6⟩:=Sp.appendOne (e:=137) (k:=2) 130 130 #[.string ⟨key.toArray⟩,.int .u64 ceil] _ 24 infoRow rfl Tryz.underlying130 (by decide) (by decide) rfl (by simp [Value.oneCell']) (by have:=H4.out; have:=HL.out; omega) ((Sp.pick [_,_,_,_,_] [0,4,1,2,3] (by decide) (S4)))
      have e1 : (dn.map LRow.vals).flatten ++ [.string ⟨key.toArray⟩,.int .u64 ceil] = ((dn ++ [(⟨key,ceil⟩ : LRow)]).map LRow.vals).flatten:=by simp
      have hl1 : dn.length + 1 = (dn ++ [(⟨key,ceil⟩ : LRow)]).length:=by simp
      have S7 : Sp w0 F0 w6 (boxR ci #[.pointer (some ⟨b,0,none⟩)] 143 :: rdR 151 b ⟨r2,false⟩ :: lrowsR (.slice (some ⟨g,0,none⟩) (dn.length + 1) cap) (dn ++ [⟨key,ceil⟩]) :: L):=by
        unfold lrowsR
        rw [← hl1,← e1]
        exact (Sp.pick [_,_,_,_,_] [3,4,1] (by decide) (S6))
      have HS7:=Lib.hid S7
      have HRUN:=Lib.hid hrun
      have c7:=S7.cell
      have h1 : ledRows s = (dn ++ [(⟨key,ceil⟩ : LRow)]) ++ ledRows r2:=by rw [H1.out,g7]; simp
      have h2 : ledRest s = ledRest r2:=by rw [H2.out,g8]
      have H1:=Lib.hid h1
      have H2:=Lib.hid h2
      have H4' : Hid (r2.length + (dn ++ [(⟨key,ceil⟩ : LRow)]).length ≤ s.length):=by have:=H4.out; simp only [List.length_append,List.length_cons,List.length_nil,Hid]; omega
      have hr2 : (r2.length : Int) ≤ s.length:=by have:=H4.out; omega
      have H3 : Hid (r2.length < r.length ∧ r.length ≤ s.length):=⟨g3,by have:=H4.out; omega⟩
      clear g2 g3 g4 g7 g8 HQ HQ1 HQ2 S S4 S6 S7 h1 h2 hrun e1 hl1 HS3
      go_wp2_with (first | (at_builtin; refine wpList_append_run (by rfl) (by rfl) (by rfl) (by rfl) HRUN.out ?_) | (go_at_call 64; refine (rdLeftS HS7.out.pull1).mono ?_; rintro e w2 ⟨rfl,rfl⟩))
      go_roundw
      case rel => exact ⟨_,r2,H1.out,H2.out,rfl,H4'.out,HS7.out⟩
      case measure => have:=H3.out; simp [intOf]; omega
end
end
end Go.Proofs.YtangbdahnmomlaaGreatDoor
