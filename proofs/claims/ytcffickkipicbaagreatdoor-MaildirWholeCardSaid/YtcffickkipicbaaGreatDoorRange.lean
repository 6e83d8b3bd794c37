/- Ranging over a map from strings to strings: what is left to come, as a list. No condition. -/
import Derived.Test.YtcffickkipicbaaGreatDoorBase
set_option linter.unusedSimpArgs false
set_option linter.unusedVariables false
set_option linter.unnecessarySimpa false
namespace Go.Proofs.YtcffickkipicbaaGreatDoor
open Go.RowKit Go.Maps
open Go.WideMaps (keyOf_string_mk string_of_keyOf)

def leftOn (left : Lit → Bool) (F : Fs) : Fs := F.filter fun p => left (.string p.1)

/-- Block r is the iterator of a loop over the map in block b, which holds F; what is left to come is L. -/
def RangeAt (P : Program) (k e : TypeId) (w : World) (b r : Nat) (F L : Fs) (cnt : Nat) : Prop :=
  ∃ left, w.ranges P k (plainElem P e) b r F.length F.data left cnt ∧ L = leftOn left F

theorem filter_step {F : Fs} {left : Lit → Bool} {x c : Bs} (hs : F.Pairwise fun p q => p.1 ≠ q.1) (hm : (x, c) ∈ F) (hl : left (.string x) = true) :
    (leftOn left F).Perm ((x, c) :: leftOn (fun z => left z && !z.sameKey (.string x)) F) := by
  induction F with
  | nil => cases hm
  | cons y r ih =>
    rw [List.pairwise_cons] at hs
    rcases List.mem_cons.1 hm with rfl | hm
    · have h1 : leftOn (fun z => left z && !z.sameKey (.string x)) ((x, c) :: r) = leftOn left r := by
        unfold leftOn
        rw [List.filter_cons]
        simp only [Lit.sameKey, beq_self_eq_true, Bool.not_true, Bool.and_false, Bool.false_eq_true, if_false]
        refine List.filter_congr fun p hp => ?_
        have : (p.1 == x) = false := beq_eq_false_iff_ne.2 (fun e => hs.1 p hp e.symm)
        simp [this]
      rw [h1]
      unfold leftOn
      rw [List.filter_cons]
      simp [hl]
    · have hne : (y.1 == x) = false := beq_eq_false_iff_ne.2 (fun e => hs.1 _ hm e)
      have ih' := ih hs.2 hm
      unfold leftOn at *
      rw [List.filter_cons, List.filter_cons]
      by_cases hy : left (.string y.1) = true
      · simp only [hy, Lit.sameKey, hne, Bool.not_false, Bool.and_self, if_true]
        exact (List.Perm.cons _ ih').trans (List.Perm.swap ..)
      · simp only [hy, Bool.false_and]
        simpa using ih'

theorem before_irr : ∀ l : Bs, bytesBefore l l = false
  | [] => rfl
  | a :: l => by simp [bytesBefore, before_irr l]
theorem sorted_ne : ∀ {F : Fs}, (F.Pairwise fun p q => bytesBefore p.1 q.1 = true) → F.Pairwise fun p q => p.1 ≠ q.1
  | [], _ => List.Pairwise.nil
  | x :: r, h => by
    rw [List.pairwise_cons] at h ⊢
    exact ⟨fun p hp e => (by have := h.1 p hp; rw [e, before_irr] at this; exact Bool.noConfusion this), sorted_ne h.2⟩

section
variable {P : Program} {t k e : TypeId} {w w2 : World} {b r cnt : Nat} {F L : Fs}
theorem MapAt.range (h : MapAt P k e w b F) (hk : P.underlying k = some .string) (ht : P.underlying t = some (.map k e)) :
    ∃ w0 cnt, (Instr.range t (.map (some b))).run P w = .ok (.pointer (some ⟨w.heap.size, 0, none⟩)) w0 ∧ RangeAt P k e w0 b w.heap.size F F cnt ∧ Ext [] w w0 ∧ w0.heap.size = w.heap.size + 1 := by
  obtain ⟨w0, hrun, r1, r2, r3⟩ := World.ownsMap.range h (string_keyed hk) ht
  refine ⟨w0, _, hrun, ⟨_, r1, ?_⟩, (Ext.refl [] w).grown r2 (by simp), r3⟩
  unfold leftOn
  rw [List.filter_eq_self.2]
  intro p hp
  rw [Fs.data_has, Fs.has, List.any_eq_true]
  exact ⟨p, hp, by simp⟩
theorem RangeAt.ext {G : List Nat} (h : RangeAt P k e w b r F L cnt) (hx : Ext G w w2) (hb : b ∉ G) (hr : r ∉ G) : RangeAt P k e w2 b r F L cnt := by
  obtain ⟨left, ⟨es, clock, since, seen, c0, h1, h2, h3, h4, h5, rest⟩, hL⟩ := h
  exact ⟨left, ⟨es, clock, since, seen, c0, hx.heap h1 hb, h2, h3, h4, hx.heap h5 hr, rest⟩, hL⟩
theorem RangeAt.left_eq (h : RangeAt P k e w b r F L cnt) : w.rangeLeft b r = cnt := by
  obtain ⟨left, h, _⟩ := h
  exact h.left_eq
theorem RangeAt.owns (h : RangeAt P k e w b r F L cnt) : MapAt P k e w b F := by
  obtain ⟨left, h, _⟩ := h
  exact h.owns
theorem RangeAt.lt (h : RangeAt P k e w b r F L cnt) : r < w.heap.size := by
  obtain ⟨left, h, _⟩ := h
  exact h.lt
theorem RangeAt.ne (h : RangeAt P k e w b r F L cnt) : r ≠ b := by
  obtain ⟨left, h, _⟩ := h
  exact h.ne
theorem RangeAt.next (h : RangeAt P k e w b r F L cnt) (hk : P.underlying k = some .string) (he : P.underlying e = some .string) :
    (L = [] ∧ ∀ ty, (Instr.next (.pointer (some ⟨r, 0, none⟩)) false ty).run P w = .ok (.tuple #[.bool false]) w) ∨
    ∃ x c w1 L1 cnt1, L.Perm ((x, c) :: L1) ∧ (x, c) ∈ F ∧ x.length ≤ maxLen ∧ c.length ≤ maxLen ∧ (∀ ty, (Instr.next (.pointer (some ⟨r, 0, none⟩)) false ty).run P w = .ok (.tuple #[.bool true, .string ⟨x.toArray⟩, .string ⟨c.toArray⟩]) w1) ∧
      RangeAt P k e w1 b r F L1 cnt1 ∧ cnt1 < cnt ∧ Ext [r] w w1 ∧ w1.heap.size = w.heap.size ∧ (Instr.entry (.pointer (some ⟨r, 0, none⟩))).run P w1 = .ok (.tuple #[.string ⟨x.toArray⟩, .string ⟨c.toArray⟩]) w1 := by
  have hsort := h.owns.sorted hk
  obtain ⟨left, h, rfl⟩ := h
  rcases h.next (string_keyed hk) 0 with ⟨h0, hl, hrun⟩ | ⟨key, v, kl, y, w1, cnt1, hkey, hlk, hv, hat, hrun, hrg, hlt, hgr, hsz, hen⟩
  · exact .inl ⟨by unfold leftOn; simp [hl], fun _ => hrun⟩
  · obtain ⟨s, rfl, rfl, hw1⟩ := string_of_keyOf hk hkey
    obtain ⟨c, rfl, rfl, hw2⟩ := plainElem_string_inv he hv
    have hm : (s.data.toList, c.data.toList) ∈ F := by
      have h1 := hat (.lit (.bool true))
      simp only [Fs.data, DataW.atKey, List.find?_map] at h1
      have e1 : ((fun p : Lit × DataW Unit => p.1.sameKey (Lit.string s.data.toList)) ∘ pairD) = fun p => p.1 == s.data.toList := rfl
      rw [e1] at h1
      cases hf : F.find? (fun p => p.1 == s.data.toList) with
      | none => rw [hf] at h1; simp at h1
      | some p =>
        rw [hf] at h1
        have h2 : (pairD p).2 = .lit (.string c.data.toList) := h1
        have h3 := List.find?_some hf
        have h4 := List.mem_of_find?_eq_some hf
        simp only [pairD, DataW.lit.injEq, Lit.string.injEq] at h2
        simp only [beq_iff_eq] at h3
        rw [← h2, ← h3]
        exact h4
    refine .inr ⟨s.data.toList, c.data.toList, w1, _, cnt1, filter_step (sorted_ne hsort) hm hlk, hm, by simpa using hw1, by simpa using hw2, fun _ => hrun, ⟨_, hrg, rfl⟩, hlt, (Ext.refl [r] w).grown hgr (by simp), hsz, hen⟩
end
end Go.Proofs.YtcffickkipicbaaGreatDoor
