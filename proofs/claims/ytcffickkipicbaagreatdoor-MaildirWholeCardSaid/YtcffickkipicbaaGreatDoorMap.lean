/- Maps whose keys read as strings, with elements of any kind, as lists of pairs: what making, reading, writing and ranging over them comes to. No condition but that keys are no longer than strings may be. -/
import Derived.Test.YtcffickkipicbaaGreatDoorRange
set_option linter.unusedSimpArgs false
set_option linter.unusedVariables false
set_option linter.unnecessarySimpa false
namespace Go.Proofs.YtcffickkipicbaaGreatDoor
open Go.RowKit Go.Maps
open Go.WideMaps (keyOf_string_mk string_of_keyOf)

abbrev Mp (V : Type) := List (Bs × V)
section
variable {V : Type}
def Mp.ins (x : Bs × V) : Mp V → Mp V
  | [] => [x]
  | y :: r => if bytesBefore x.1 y.1 then x :: y :: r else y :: Mp.ins x r
def Mp.del (F : Mp V) (k : Bs) : Mp V := F.filter fun p => !(p.1 == k)
def Mp.put (F : Mp V) (k : Bs) (v : V) : Mp V := Mp.ins (k, v) (F.del k)
def Mp.get (F : Mp V) (k : Bs) : Option V := (F.find? fun p => p.1 == k).map (·.2)
def Mp.has (F : Mp V) (k : Bs) : Bool := F.any fun p => p.1 == k

theorem Mp.has_eq (F : Mp V) (k : Bs) : F.has k = (F.get k).isSome := by
  unfold Mp.has Mp.get
  induction F with
  | nil => rfl
  | cons y r ih =>
    by_cases h : (y.1 == k) = true
    · simp [h]
    · simp [h, ih]
theorem Mp.get_cons (y : Bs × V) (r : Mp V) (k : Bs) : Mp.get (y :: r) k = if y.1 = k then some y.2 else Mp.get r k := by
  unfold Mp.get
  by_cases h : y.1 = k
  · simp [h]
  · simp [h, beq_eq_false_iff_ne.2 h]
theorem Mp.get_ins (x : Bs × V) (j : Bs) : ∀ F : Mp V, (∀ p ∈ F, p.1 ≠ x.1) → (Mp.ins x F).get j = if x.1 = j then some x.2 else F.get j
  | [], _ => by simp [Mp.ins, Mp.get_cons]
  | y :: r, h => by
    unfold Mp.ins
    split
    · rw [Mp.get_cons]
    · rw [Mp.get_cons, Mp.get_ins x j r (fun p hp => h p (by simp [hp])), Mp.get_cons]
      have hy := h y (by simp)
      by_cases h1 : y.1 = j
      · have h2 : ¬ x.1 = j := fun e => hy (h1.trans e.symm)
        simp [h1, h2]
      · simp [h1]
theorem Mp.get_del (F : Mp V) (k j : Bs) : (F.del k).get j = if j = k then none else F.get j := by
  induction F with
  | nil => simp [Mp.del, Mp.get]
  | cons y r ih =>
    unfold Mp.del at *
    rw [List.filter_cons]
    by_cases hy : y.1 = k
    · simp only [hy, beq_self_eq_true, Bool.not_true, Bool.false_eq_true, if_false]
      rw [ih, Mp.get_cons]
      by_cases hj : j = k
      · simp [hj]
      · simp [hj, hy, Ne.symm hj]
    · simp only [beq_eq_false_iff_ne.2 hy, Bool.not_false, if_true]
      rw [Mp.get_cons, ih, Mp.get_cons]
      by_cases hj : j = k
      · simp [hj, hy]
      · simp [hj]
theorem Mp.get_put (F : Mp V) (k : Bs) (v : V) (j : Bs) : (F.put k v).get j = if k = j then some v else F.get j := by
  unfold Mp.put
  rw [Mp.get_ins (k, v) j (F.del k) (fun p hp => by simp [Mp.del] at hp; exact hp.2), Mp.get_del]
  by_cases h : k = j
  · simp [h]
  · simp [h, Ne.symm h]
theorem Mp.has_put (F : Mp V) (k : Bs) (v : V) (j : Bs) : (F.put k v).has j = (decide (k = j) || F.has j) := by
  rw [Mp.has_eq, Mp.has_eq, Mp.get_put]
  by_cases h : k = j <;> simp [h]
theorem Mp.length_ins (x : Bs × V) : ∀ F : Mp V, (Mp.ins x F).length = F.length + 1
  | [] => rfl
  | y :: r => by
    unfold Mp.ins
    split
    · rfl
    · simp [Mp.length_ins x r]
theorem Mp.length_put_le (F : Mp V) (k : Bs) (v : V) : (F.put k v).length ≤ F.length + 1 := by
  unfold Mp.put
  rw [Mp.length_ins]
  have := List.length_filter_le (fun p : Bs × V => !(p.1 == k)) F
  unfold Mp.del
  omega
theorem Mp.mem_ins {x p : Bs × V} : ∀ {F : Mp V}, p ∈ Mp.ins x F ↔ p = x ∨ p ∈ F
  | [] => by simp [Mp.ins]
  | y :: r => by
    unfold Mp.ins
    split
    · simp
    · simp only [List.mem_cons, Mp.mem_ins (F := r)]
      constructor
      · rintro (h | h | h) <;> simp [h]
      · rintro (h | h | h) <;> simp [h]
theorem Mp.mem_put {F : Mp V} {k : Bs} {v : V} {p : Bs × V} : p ∈ F.put k v ↔ p = (k, v) ∨ (p ∈ F ∧ p.1 ≠ k) := by simp [Mp.put, Mp.mem_ins, Mp.del]

def Mp.data (enc : V → Value) (F : Mp V) : DataW Value := .map (F.map fun p => (Lit.string p.1, DataW.held (enc p.2)))
variable (enc : V → Value)
theorem Mp.data_ins (x : Bs × V) : ∀ F : Mp V, (Mp.ins x F).map (fun p => (Lit.string p.1, DataW.held (enc p.2))) = DataW.insert (Lit.string x.1, DataW.held (enc x.2)) (F.map fun p => (Lit.string p.1, DataW.held (enc p.2)))
  | [] => rfl
  | y :: r => by
    simp only [Mp.ins, List.map_cons, DataW.insert]
    have : (Lit.string x.1).before (Lit.string y.1) = bytesBefore x.1 y.1 := rfl
    rw [this]
    split
    · rfl
    · rw [List.map_cons, Mp.data_ins x r]
theorem Mp.data_del (F : Mp V) (k : Bs) : (F.data enc).del (.string k) = (F.del k).data enc := by
  simp only [Mp.data, DataW.del, Mp.del, List.filter_map]
  rfl
theorem Mp.data_put (F : Mp V) (k : Bs) (v : V) : (F.data enc).put (.string k) (.held (enc v)) = (F.put k v).data enc := by
  simp only [Mp.put, Mp.data, DataW.put, Mp.data_ins]
  congr 2
  simp only [Mp.del, List.filter_map]
  rfl
theorem Mp.data_has (F : Mp V) (k : Bs) : Maps.has (F.data enc) (.string k) = F.has k := by
  simp only [Mp.data, Maps.has, Mp.has, List.any_map]
  rfl
theorem Mp.data_size (F : Mp V) : Maps.size (F.data enc) = F.length := by simp [Mp.data, Maps.size]
theorem Mp.data_at (F : Mp V) (k : Bs) (z : Value) : (F.data enc).atKey (.string k) (.held z) = .held (((F.get k).map enc).getD z) := by
  simp only [Mp.data, DataW.atKey, Mp.get, List.find?_map]
  have e : ((fun p : Lit × DataW Value => p.1.sameKey (Lit.string k)) ∘ fun p : Bs × V => (Lit.string p.1, DataW.held (enc p.2))) = fun p => p.1 == k := rfl
  rw [e]
  cases F.find? fun p => p.1 == k <;> rfl
end

def heldElem (v : Value) : Option (DataW Value × List MemPlace) := some (.held v, [])
/-- Block b of w is a map that holds F: k the keys' type, enc what an element is in memory. -/
def MapOf {V : Type} (P : Program) (k : TypeId) (enc : V → Value) (w : World) (b : Nat) (F : Mp V) : Prop := w.ownsMap P k heldElem b F.length (F.data enc)

section
variable {V : Type} {enc : V → Value} {P : Program} {t k e : TypeId} {w w2 : World} {b : Nat} {F : Mp V}
theorem MapOf.tight {n : Nat} (h : w.ownsMap P k heldElem b n (F.data enc)) : MapOf P k enc w b F := by
  obtain ⟨es, clock, hb, Ft, hs, hD⟩ := h
  refine ⟨es, clock, hb, Ft, ?_, hD⟩
  have h1 := congrArg Maps.size hD
  rw [Mp.data_size] at h1
  simp only [Maps.size, length_sorted, List.length_map, Array.length_toList] at h1
  omega
theorem MapOf.lt (h : MapOf P k enc w b F) : b < w.heap.size := World.ownsMap.lt h
theorem MapOf.ext {G : List Nat} (h : MapOf P k enc w b F) (hx : Ext G w w2) (hb : b ∉ G) : MapOf P k enc w2 b F := by
  obtain ⟨es, clock, hh, rest⟩ := h
  exact ⟨es, clock, hx.heap hh hb, rest⟩
theorem MapOf.made (w : World) : MapOf (V := V) P k enc (w.alloc (.map #[] 0)) w.heap.size [] := World.ownsMap_made w P k heldElem
theorem MapOf.sorted (h : MapOf P k enc w b F) (hk : Keyed P k) : F.Pairwise fun p q => bytesBefore p.1 q.1 = true := by
  obtain ⟨es, he, hp, _⟩ := World.ownsMap.canon h hk
  injection he with he
  rw [← he, List.pairwise_map] at hp
  exact hp
theorem MapOf.look (h : MapOf P k enc w b F) (hk : Keyed P k) (ht : P.underlying t = some (.map k e)) {z : Value} (hz : (zeroValue e).run P w = .ok z w)
    {key : Value} {x : Bs} (hx : keyOf P k key = some (.string x)) : (Instr.lookup t (.map (some b)) key false).run P w = .ok (((F.get x).map enc).getD z) w := by
  obtain ⟨v, ps, hrun, hv⟩ := World.ownsMap.lookup h hk ht hz (zd := .held z) (zp := []) rfl hx
  rw [Mp.data_at] at hv
  simp only [heldElem, Option.some.injEq, Prod.mk.injEq, DataW.held.injEq] at hv
  rw [hrun, hv.1]
theorem MapOf.lookOk (h : MapOf P k enc w b F) (hk : Keyed P k) (ht : P.underlying t = some (.map k e)) {z : Value} (hz : (zeroValue e).run P w = .ok z w)
    {key : Value} {x : Bs} (hx : keyOf P k key = some (.string x)) : (Instr.lookup t (.map (some b)) key true).run P w = .ok (.tuple #[((F.get x).map enc).getD z, .bool (F.has x)]) w := by
  obtain ⟨v, ps, hrun, hv⟩ := World.ownsMap.look_ok h hk ht hz (zd := .held z) (zp := []) rfl hx
  rw [Mp.data_at] at hv
  simp only [heldElem, Option.some.injEq, Prod.mk.injEq, DataW.held.injEq] at hv
  rw [Mp.data_has] at hrun
  rw [hrun, hv.1]
theorem MapOf.len (h : MapOf P k enc w b F) (ht : P.underlying t = some (.map k e)) (ty : TypeId) : (Builtin.len_ #[t] ty #[.map (some b)]).run P w = .ok (.int .i64 F.length) w := by
  rw [World.ownsMap.len h ht ty, Mp.data_size]
theorem MapOf.update (h : MapOf P k enc w b F) (hk : Keyed P k) (ht : P.underlying t = some (.map k e)) (hn : F.length < maxLen)
    {key : Value} {x : Bs} (hx : keyOf P k key = some (.string x)) (v : V) :
    ∃ w2, (Instr.mapUpdate t (.map (some b)) key (enc v)).run P w = .ok () w2 ∧ MapOf P k enc w2 b (F.put x v) ∧ Ext [b] w w2 ∧ w2.heap.size = w.heap.size := by
  obtain ⟨w2, hrun, h2, ht2⟩ := World.ownsMap.store h hk ht hn hx (val := enc v) (d := .held (enc v)) (ps := []) rfl
  simp only [Mp.data_put] at h2
  exact ⟨w2, hrun, MapOf.tight h2, turned_ext ht2⟩
end

/-! ### ranging -/
def leftIn {V : Type} (left : Lit → Bool) (F : Mp V) : Mp V := F.filter fun p => left (.string p.1)
/-- Block r is the iterator of a loop over the map in block b, which holds F; what is left to come is L. -/
def RangeOf {V : Type} (P : Program) (k : TypeId) (enc : V → Value) (w : World) (b r : Nat) (F L : Mp V) (cnt : Nat) : Prop :=
  ∃ left, w.ranges P k heldElem b r F.length (F.data enc) left cnt ∧ L = leftIn left F

theorem leftIn_step {V : Type} {F : Mp V} {left : Lit → Bool} {x : Bs} {c : V} (hs : F.Pairwise fun p q => p.1 ≠ q.1) (hm : (x, c) ∈ F) (hl : left (.string x) = true) :
    (leftIn left F).Perm ((x, c) :: leftIn (fun z => left z && !z.sameKey (.string x)) F) := by
  induction F with
  | nil => cases hm
  | cons y r ih =>
    rw [List.pairwise_cons] at hs
    rcases List.mem_cons.1 hm with rfl | hm
    · have h1 : leftIn (fun z => left z && !z.sameKey (.string x)) ((x, c) :: r) = leftIn left r := by
        unfold leftIn
        rw [List.filter_cons]
        simp only [Lit.sameKey, beq_self_eq_true, Bool.not_true, Bool.and_false, Bool.false_eq_true, if_false]
        refine List.filter_congr fun p hp => ?_
        have : (p.1 == x) = false := beq_eq_false_iff_ne.2 (fun e => hs.1 p hp e.symm)
        simp [this]
      rw [h1]
      unfold leftIn
      rw [List.filter_cons]
      simp [hl]
    · have hne : (y.1 == x) = false := beq_eq_false_iff_ne.2 (fun e => hs.1 _ hm e)
      have ih' := ih hs.2 hm
      unfold leftIn at *
      rw [List.filter_cons, List.filter_cons]
      by_cases hy : left (.string y.1) = true
      · simp only [hy, Lit.sameKey, hne, Bool.not_false, Bool.and_self, if_true]
        exact (List.Perm.cons _ ih').trans (List.Perm.swap ..)
      · simp only [hy, Bool.false_and]
        simpa using ih'
theorem rising_ne {V : Type} : ∀ {F : Mp V}, (F.Pairwise fun p q => bytesBefore p.1 q.1 = true) → F.Pairwise fun p q => p.1 ≠ q.1
  | [], _ => List.Pairwise.nil
  | x :: r, h => by
    rw [List.pairwise_cons] at h ⊢
    exact ⟨fun p hp e => (by have := h.1 p hp; rw [e, before_irr] at this; exact Bool.noConfusion this), rising_ne h.2⟩

section
variable {V : Type} {enc : V → Value} {P : Program} {t k e : TypeId} {w w2 : World} {b r cnt : Nat} {F L : Mp V}
theorem MapOf.range (h : MapOf P k enc w b F) (hk : Keyed P k) (ht : P.underlying t = some (.map k e)) :
    ∃ w0 cnt, (Instr.range t (.map (some b))).run P w = .ok (.pointer (some ⟨w.heap.size, 0, none⟩)) w0 ∧ RangeOf P k enc w0 b w.heap.size F F cnt ∧ Ext [] w w0 ∧ w0.heap.size = w.heap.size + 1 := by
  obtain ⟨w0, hrun, r1, r2, r3⟩ := World.ownsMap.range h hk ht
  refine ⟨w0, _, hrun, ⟨_, r1, ?_⟩, (Ext.refl [] w).grown r2 (by simp), r3⟩
  unfold leftIn
  rw [List.filter_eq_self.2]
  intro p hp
  rw [Mp.data_has, Mp.has, List.any_eq_true]
  exact ⟨p, hp, by simp⟩
theorem RangeOf.ext {G : List Nat} (h : RangeOf P k enc w b r F L cnt) (hx : Ext G w w2) (hb : b ∉ G) (hr : r ∉ G) : RangeOf P k enc w2 b r F L cnt := by
  obtain ⟨left, ⟨es, clock, since, seen, c0, h1, h2, h3, h4, h5, rest⟩, hL⟩ := h
  exact ⟨left, ⟨es, clock, since, seen, c0, hx.heap h1 hb, h2, h3, h4, hx.heap h5 hr, rest⟩, hL⟩
theorem RangeOf.left_eq (h : RangeOf P k enc w b r F L cnt) : w.rangeLeft b r = cnt := by
  obtain ⟨left, h, _⟩ := h
  exact h.left_eq
theorem RangeOf.owns (h : RangeOf P k enc w b r F L cnt) : MapOf P k enc w b F := by
  obtain ⟨left, h, _⟩ := h
  exact h.owns
theorem RangeOf.lt (h : RangeOf P k enc w b r F L cnt) : r < w.heap.size := by
  obtain ⟨left, h, _⟩ := h
  exact h.lt
theorem RangeOf.ne (h : RangeOf P k enc w b r F L cnt) : r ≠ b := by
  obtain ⟨left, h, _⟩ := h
  exact h.ne
theorem RangeOf.next (h : RangeOf P k enc w b r F L cnt) (hk : P.underlying k = some .string) :
    (L = [] ∧ ∀ ty, (Instr.next (.pointer (some ⟨r, 0, none⟩)) false ty).run P w = .ok (.tuple #[.bool false]) w) ∨
    ∃ x c w1 L1 cnt1, L.Perm ((x, c) :: L1) ∧ (x, c) ∈ F ∧ x.length ≤ maxLen ∧ (∀ ty, (Instr.next (.pointer (some ⟨r, 0, none⟩)) false ty).run P w = .ok (.tuple #[.bool true, .string ⟨x.toArray⟩, enc c]) w1) ∧
      RangeOf P k enc w1 b r F L1 cnt1 ∧ cnt1 < cnt ∧ Ext [r] w w1 ∧ w1.heap.size = w.heap.size ∧ (Instr.entry (.pointer (some ⟨r, 0, none⟩))).run P w1 = .ok (.tuple #[.string ⟨x.toArray⟩, enc c]) w1 := by
  have hsort := h.owns.sorted (string_keyed hk)
  obtain ⟨left, h, rfl⟩ := h
  rcases h.next (string_keyed hk) 0 with ⟨h0, hl, hrun⟩ | ⟨key, v, kl, y, w1, cnt1, hkey, hlk, hv, hat, hrun, hrg, hlt, hgr, hsz, hen⟩
  · exact .inl ⟨by unfold leftIn; simp [hl], fun _ => hrun⟩
  · obtain ⟨s, rfl, rfl, hw1⟩ := string_of_keyOf hk hkey
    have hm : ∃ c, (s.data.toList, c) ∈ F ∧ v = enc c := by
      have h1 := hat (.lit (.bool true))
      simp only [Mp.data, DataW.atKey, List.find?_map] at h1
      have e1 : ((fun p : Lit × DataW Value => p.1.sameKey (Lit.string s.data.toList)) ∘ fun p : Bs × V => (Lit.string p.1, DataW.held (enc p.2))) = fun p => p.1 == s.data.toList := rfl
      rw [e1] at h1
      simp only [heldElem, Option.some.injEq] at hv
      subst hv
      cases hf : F.find? (fun p => p.1 == s.data.toList) with
      | none => rw [hf] at h1; simp at h1
      | some p =>
        rw [hf] at h1
        simp only [Option.map_some, DataW.held.injEq] at h1
        have h3 := List.find?_some hf
        have h4 := List.mem_of_find?_eq_some hf
        simp only [beq_iff_eq] at h3
        exact ⟨p.2, by rw [← h3]; exact h4, h1.symm⟩
    obtain ⟨c, hm, rfl⟩ := hm
    refine .inr ⟨s.data.toList, c, w1, _, cnt1, leftIn_step (rising_ne hsort) hm hlk, hm, by simpa using hw1, fun _ => hrun, ⟨_, hrg, rfl⟩, hlt, (Ext.refl [r] w).grown hgr (by simp), hsz, hen⟩
end
end Go.Proofs.YtcffickkipicbaaGreatDoor
