/- plan, plainly: a table of rules by their domains. No program. -/
import Derived.Test.YtapenolbbofjkaaGreatDoorSvP
import Derived.Test.YtapenolbbofjkaaGreatDoorMap
set_option linter.unusedSimpArgs false
set_option linter.unusedVariables false
set_option linter.unnecessarySimpa false
namespace Go.Proofs.YtapenolbbofjkaaGreatDoor

def rlTab (l : List Rl) : Mp Rl := l.foldl (fun M r => M.put r.1 r) []
theorem rlTab_snoc (l : List Rl) (r : Rl) : rlTab (l ++ [r]) = (rlTab l).put r.1 r := by unfold rlTab; rw [List.foldl_append]; rfl
theorem put_len {V : Type} (M : Mp V) (k : Bs) (v : V) (h : M.has k = false) : (M.put k v).length = M.length + 1 := by
  unfold Mp.put
  rw [Mp.length_ins]
  congr 1
  unfold Mp.has at h
  unfold Mp.del
  rw [List.filter_eq_self.2]
  intro p hp
  rw [List.any_eq_false] at h
  have := h p hp
  simpa using this
theorem tab_spec : ∀ (l : List Rl) (M : Mp Rl), (l.foldl (fun M r => M.put r.1 r) M).length ≤ M.length + l.length ∧
    ((l.foldl (fun M r => M.put r.1 r) M).length = M.length + l.length ↔ ((l.map (·.1)).Nodup ∧ ∀ r ∈ l, M.has r.1 = false))
  | [], M => by simp
  | r :: l, M => by
    obtain ⟨h1, h2⟩ := tab_spec l (M.put r.1 r)
    rw [List.foldl_cons]
    cases hh : M.has r.1 with
    | true =>
      have hle : (M.put r.1 r).length ≤ M.length := by
        unfold Mp.put
        rw [Mp.length_ins]
        have : (M.del r.1).length < M.length := by
          unfold Mp.has at hh
          unfold Mp.del
          obtain ⟨p, hp, he⟩ := List.any_eq_true.1 hh
          exact List.length_filter_lt_length_iff_exists.2 ⟨p, hp, by simpa using he⟩
        omega
      simp only [List.length_cons]
      refine ⟨by omega, ⟨fun h => by omega, fun h => ?_⟩⟩
      have := h.2 r (by simp)
      rw [hh] at this
      cases this
    | false =>
      have hl := put_len M r.1 r hh
      simp only [List.length_cons]
      refine ⟨by omega, ?_⟩
      rw [show M.length + (l.length + 1) = (M.put r.1 r).length + l.length by omega, h2]
      constructor
      · rintro ⟨h3, h4⟩
        refine ⟨?_, ?_⟩
        · rw [List.map_cons, List.nodup_cons]
          refine ⟨fun hm => ?_, h3⟩
          obtain ⟨s, hs, he⟩ := List.mem_map.1 hm
          have := h4 s hs
          rw [Mp.has_put, he] at this
          simp at this
        · intro s hs
          rcases List.mem_cons.1 hs with rfl | hs
          · exact hh
          · have := h4 s hs
            rw [Mp.has_put] at this
            simp only [Bool.or_eq_false_iff] at this
            exact this.2
      · rintro ⟨h3, h4⟩
        rw [List.map_cons, List.nodup_cons] at h3
        refine ⟨h3.2, fun s hs => ?_⟩
        rw [Mp.has_put, h4 s (by simp [hs])]
        simp only [Bool.or_false, decide_eq_false_iff_not]
        intro he
        exact h3.1 (List.mem_map.2 ⟨s, hs, he.symm⟩)
theorem tab_len (l : List Rl) : (rlTab l).length ≤ l.length := by
  have := (tab_spec l []).1
  unfold rlTab
  simpa using this
theorem tab_nodup (l : List Rl) : ((rlTab l).length = l.length) ↔ (l.map (·.1)).Nodup := by
  have := (tab_spec l []).2
  unfold rlTab
  rw [show ([] : Mp Rl).length + l.length = l.length by simp] at this
  rw [this]
  exact ⟨fun h => h.1, fun h => ⟨h, fun r _ => rfl⟩⟩
theorem tab_mem : ∀ (l : List Rl) (M : Mp Rl), (∀ p ∈ M, p.1 = p.2.1) → ∀ p ∈ l.foldl (fun M r => M.put r.1 r) M, p.1 = p.2.1 ∧ (p ∈ M ∨ p.2 ∈ l)
  | [], M, h, p, hp => ⟨h p hp, .inl hp⟩
  | r :: l, M, h, p, hp => by
    rw [List.foldl_cons] at hp
    have h2 : ∀ p ∈ M.put r.1 r, p.1 = p.2.1 := fun q hq => by
      rw [Mp.mem_put] at hq
      rcases hq with rfl | ⟨hq, _⟩
      · rfl
      · exact h q hq
    obtain ⟨h3, h4⟩ := tab_mem l (M.put r.1 r) h2 p hp
    refine ⟨h3, ?_⟩
    rcases h4 with h4 | h4
    · rw [Mp.mem_put] at h4
      rcases h4 with rfl | ⟨h4, _⟩
      · exact .inr (by simp)
      · exact .inl h4
    · exact .inr (by simp [h4])
theorem tab_in {l : List Rl} {p : Bs × Rl} (h : p ∈ rlTab l) : p.2 ∈ l := by
  rcases (tab_mem l [] (by simp) p h).2 with h | h
  · cases h
  · exact h
theorem tab_get : ∀ (l : List Rl) (M : Mp Rl) (d : Bs), (l.map (·.1)).Nodup → (l.foldl (fun M r => M.put r.1 r) M).get d = match rlFind l d with | some r => some r | none => M.get d
  | [], M, d, _ => rfl
  | r :: l, M, d, h => by
    rw [List.map_cons, List.nodup_cons] at h
    rw [List.foldl_cons, tab_get l _ d h.2]
    unfold rlFind
    rw [List.find?_cons]
    by_cases hd : r.1 = d
    · have hb : (r.1 == d) = true := by simpa using hd
      have hn : l.find? (fun r => r.1 == d) = none := by
        rw [List.find?_eq_none]
        intro s hs he
        exact h.1 (List.mem_map.2 ⟨s, hs, by simp at he; rw [he, hd]⟩)
      rw [hn, hb]
      dsimp only
      rw [Mp.get_put, if_pos hd]
    · have hb : (r.1 == d) = false := by simpa using hd
      rw [hb]
      dsimp only
      cases l.find? (fun r => r.1 == d) with
      | some x => rfl
      | none =>
        dsimp only
        rw [Mp.get_put, if_neg hd]
theorem tab_find {l : List Rl} (h : (l.map (·.1)).Nodup) (d : Bs) : (rlTab l).get d = rlFind l d := by
  unfold rlTab
  rw [tab_get l [] d h]
  cases rlFind l d <;> rfl
theorem tab_all {l : List Rl} (h : (l.map (·.1)).Nodup) (hm : ∀ p ∈ rlTab l, rlMay p.2 = true) : l.all rlMay = true := by
  rw [List.all_eq_true]
  intro r hr
  have hf : rlFind l r.1 ≠ none := by
    unfold rlFind
    rw [ne_eq, List.find?_eq_none]
    intro h2
    exact h2 r hr (by simp)
  have hg := tab_find h r.1
  cases hx : rlFind l r.1 with
  | none => exact absurd hx hf
  | some s =>
    rw [hx] at hg
    -- the one found is r: keys are each once
    have hs : s ∈ l ∧ s.1 = r.1 := ⟨List.mem_of_find?_eq_some hx, by simpa using List.find?_some hx⟩
    have hsr : s = r := by
      have h3 : ∀ (l : List Rl), (l.map (·.1)).Nodup → s ∈ l → r ∈ l → s.1 = r.1 → s = r := by
        intro l
        induction l with
        | nil => intro _ h; cases h
        | cons a l ih =>
          intro hn h4 h5 he
          rw [List.map_cons, List.nodup_cons] at hn
          rcases List.mem_cons.1 h4 with e4 | h6
          · rcases List.mem_cons.1 h5 with e5 | h7
            · rw [e4, e5]
            · exact (hn.1 (List.mem_map.2 ⟨r, h7, by rw [← he, e4]⟩)).elim
          · rcases List.mem_cons.1 h5 with e5 | h7
            · exact (hn.1 (List.mem_map.2 ⟨s, h6, by rw [he, e5]⟩)).elim
            · exact ih hn.2 h6 h7 he
      exact h3 l h hs.1 hr hs.2
    subst hsr
    unfold Mp.get at hg
    cases hq : (rlTab l).find? (fun p => p.1 == s.1) with
    | none => rw [hq] at hg; cases hg
    | some p =>
      rw [hq] at hg
      simp only [Option.map_some, Option.some.injEq] at hg
      have := hm p (List.mem_of_find?_eq_some hq)
      rw [hg] at this
      exact this
/-- What stands behind the first dot, as strings.Cut tells it. -/
theorem index_one (c d : UInt8) (r : Bs) : Lib.index (c :: r) [d] = if c = d then 0 else if Lib.index r [d] == -1 then -1 else Lib.index r [d] + 1 := by
  rw [Lib.index]
  by_cases h : c = d
  · subst h
    simp [List.isPrefixOf]
  · have : (d == c) = false := by simpa using fun e => h e.symm
    simp [List.isPrefixOf, this, h]
theorem dot_cut (s : Bs) : (Lib.cut s [46]).2 = match dotR s with | some r => (r, true) | none => ([], false) := by
  induction s with
  | nil => rfl
  | cons c r ih =>
    have hi := index_one c 46 r
    have hg := Lib.index_ge r [46]
    unfold Lib.cut at ih ⊢
    unfold dotR
    by_cases hc : c = 46
    · subst hc
      rw [if_pos rfl] at hi
      rw [hi, if_pos rfl]
      simp
    · rw [if_neg hc] at hi
      rw [if_neg hc]
      by_cases hm : Lib.index r [46] = -1
      · have e : Lib.index (c :: r) [46] = -1 := by rw [hi, hm]; rfl
        rw [e]
        rw [hm] at ih
        exact ih
      · have e : Lib.index (c :: r) [46] = Lib.index r [46] + 1 := by rw [hi, if_neg (by simpa using hm)]
        have this : (Lib.index r [46] + 1).toNat = (Lib.index r [46]).toNat + 1 := by omega
        rw [if_pos (by omega)] at ih
        rw [e, if_pos (by omega), ← ih]
        dsimp only
        have e3 : (Lib.index r [46]).toNat + 1 + ([46] : List UInt8).length = ((Lib.index r [46]).toNat + ([46] : List UInt8).length) + 1 := by omega
        rw [this, e3, List.drop_succ_cons]
theorem rlUp_more (l : List Rl) (n m : Nat) (d : Bs) (hn : d.length < n) (hm : d.length < m) : rlUp l n d = rlUp l m d := by
  induction n generalizing d m with
  | zero => omega
  | succ n ih =>
    cases m with
    | zero => omega
    | succ m =>
      unfold rlUp
      cases rlFind l d with
      | some r => rfl
      | none =>
        dsimp only
        cases hd : dotR d with
        | none => rfl
        | some d2 =>
          have := dotR_len hd
          exact ih m d2 (by omega) (by omega)
end Go.Proofs.YtapenolbbofjkaaGreatDoor
