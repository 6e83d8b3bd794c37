/- line, plainly: lines parted and joined, stuffed and unstuffed, as the document says. No program. -/
import Derived.Test.YtapenolbbofjkaaGreatDoorLnP
import Derived.Test.YtapenolbbofjkaaGreatDoorAdP
set_option linter.unusedSimpArgs false
set_option linter.unusedVariables false
set_option linter.unnecessarySimpa false
namespace Go.Proofs.YtapenolbbofjkaaGreatDoor

/-- Lines, and what stands behind, one byte after the other. -/
def crR : Bs → List Bs × Bs
  | [] => ([], [])
  | [c] => ([], [c])
  | c :: d :: r => if c = 13 ∧ d = 10 then ([] :: (crR r).1, (crR r).2) else match crR (d :: r) with
    | ([], t) => ([], c :: t)
    | (l :: ls, t) => ((c :: l) :: ls, t)
theorem crR_hit (r : Bs) : crR (13 :: 10 :: r) = ([] :: (crR r).1, (crR r).2) := by
  rw [crR]; simp
theorem crR_miss {c : UInt8} {r : Bs} (h : ¬ (c = 13 ∧ r.head? = some 10)) : crR (c :: r) = match crR r with
    | ([], t) => ([], c :: t)
    | (l :: ls, t) => ((c :: l) :: ls, t) := by
  cases r with
  | nil => rfl
  | cons d r =>
    rw [crR, if_neg]
    · rintro ⟨h1, h2⟩
      exact h ⟨h1, by rw [h2]; rfl⟩
/-- A list of parts, as lines and what stands behind. -/
def lastOff (l : List Bs) : List Bs × Bs := (l.dropLast, l.getLast?.getD [])
theorem lastOff_cons (a : Bs) {l : List Bs} (h : l ≠ []) : lastOff (a :: l) = (a :: (lastOff l).1, (lastOff l).2) := by
  cases l with
  | nil => exact absurd rfl h
  | cons b l => simp [lastOff]
theorem index_two_cons (c : UInt8) (r : Bs) : Lib.index (c :: r) crlf = if c = 13 ∧ r.head? = some 10 then 0 else if Lib.index r crlf == -1 then -1 else Lib.index r crlf + 1 := by
  conv => lhs; unfold Lib.index
  by_cases h : c = 13 ∧ r.head? = some 10
  · obtain ⟨rfl, h2⟩ := h
    cases r with
    | nil => cases h2
    | cons d r =>
      simp only [List.head?_cons, Option.some.injEq] at h2
      subst h2
      simp [crlf, List.isPrefixOf]
  · have : (crlf.isPrefixOf (c :: r)) = false := by
      cases r with
      | nil => simp [List.isPrefixOf, crlf]
      | cons d r =>
        simp only [crlf, List.isPrefixOf, Bool.and_true, Bool.and_eq_false_iff, beq_eq_false_iff_ne]
        simp only [List.head?_cons, Option.some.injEq, not_and] at h
        by_cases hc : c = 13
        · exact .inr fun e => h hc e.symm
        · exact .inl fun e => hc e.symm
    rw [this, if_neg h]
    simp
theorem split_cr : ∀ (n : Nat) (s : Bs), s.length ≤ n → lastOff (Lib.split s crlf) = crR s ∧ Lib.split s crlf ≠ [] := by
  intro n
  induction n with
  | zero =>
    intro s h
    obtain rfl := List.eq_nil_of_length_eq_zero (Nat.le_zero.1 h)
    exact ⟨rfl, by decide⟩
  | succ n ih =>
    intro s h
    cases s with
    | nil => exact ⟨rfl, by decide⟩
    | cons c r =>
      have hi := index_two_cons c r
      by_cases hc : c = 13 ∧ r.head? = some 10
      · rw [if_pos hc] at hi
        obtain ⟨rfl, h2⟩ := hc
        cases r with
        | nil => cases h2
        | cons d r =>
          simp only [List.head?_cons, Option.some.injEq] at h2
          subst h2
          have hr := ih r (by simp at h; omega)
          have hcnt := Lib.count_hit (s := 13 :: 10 :: r) (sub := crlf) (i := 0) (by simp [crlf]) hi
          have hs : Lib.split (13 :: 10 :: r) crlf = [] :: Lib.split r crlf := by
            unfold Lib.split
            rw [hcnt, Nat.add_comm]
            conv => lhs; unfold Lib.splitK
            rw [hi, if_neg (by simp)]
            rfl
          rw [hs, lastOff_cons [] hr.2, hr.1, crR_hit]
          exact ⟨rfl, by simp⟩
      · rw [if_neg hc] at hi
        have hr := ih r (by simpa using h)
        rw [crR_miss hc, ← hr.1]
        by_cases hm : Lib.index r crlf = -1
        · rw [hm] at hi
          have h1 : Lib.index (c :: r) crlf = -1 := hi
          have e1 : Lib.split (c :: r) crlf = [c :: r] := by
            unfold Lib.split
            rw [Lib.count_miss h1]
            rfl
          have e2 : Lib.split r crlf = [r] := by
            unfold Lib.split
            rw [Lib.count_miss hm]
            rfl
          rw [e1, e2]
          exact ⟨rfl, by simp⟩
        · have hge := Lib.index_ge r crlf
          obtain ⟨k, hk⟩ : ∃ k : Nat, Lib.index r crlf = k := ⟨(Lib.index r crlf).toNat, by omega⟩
          have h1 : Lib.index (c :: r) crlf = ((k + 1 : Nat) : Int) := by
            rw [hi, if_neg (by simpa using hm), hk]; omega
          have e1 : (c :: r).drop (k + 1 + crlf.length) = r.drop (k + crlf.length) := by
            rw [show k + 1 + crlf.length = (k + crlf.length) + 1 by omega, List.drop_succ_cons]
          have s1 : Lib.split (c :: r) crlf = (c :: r.take k) :: Lib.split (r.drop (k + crlf.length)) crlf := by
            unfold Lib.split
            rw [Lib.count_hit (by simp [crlf]) h1, e1, Nat.add_comm 1]
            conv => lhs; unfold Lib.splitK
            rw [h1, if_neg (by simp; omega)]
            simp only [Int.toNat_natCast, Nat.add_zero, List.take_succ_cons]
            rw [e1]
          have s2 : Lib.split r crlf = r.take k :: Lib.split (r.drop (k + crlf.length)) crlf := by
            unfold Lib.split
            rw [Lib.count_hit (by simp [crlf]) hk, Nat.add_comm 1]
            conv => lhs; unfold Lib.splitK
            rw [hk, if_neg (by simp)]
            simp only [Int.toNat_natCast, Nat.add_zero]
          have hne : Lib.split (r.drop (k + crlf.length)) crlf ≠ [] := (ih _ (by simp at h; rw [List.length_drop]; omega)).2
          rw [s1, s2, lastOff_cons _ hne, lastOff_cons _ hne]
          exact ⟨rfl, by simp⟩
theorem lnSplit_eq (s : Bs) : lnSplit s = crR s := (split_cr s.length s (Nat.le_refl _)).1
/-- Has a text no line's end? -/
def noCr : Bs → Bool
  | [] => true
  | c :: r => !(c == 13 && r.head? == some 10) && noCr r
theorem noCr_cons {c : UInt8} {r : Bs} (h : noCr (c :: r) = true) : ¬ (c = 13 ∧ r.head? = some 10) ∧ noCr r = true := by
  unfold noCr at h
  simp only [Bool.and_eq_true, Bool.not_eq_true', Bool.and_eq_false_iff, beq_eq_false_iff_ne] at h
  refine ⟨?_, h.2⟩
  rintro ⟨h1, h2⟩
  rcases h.1 with k | k
  · exact k h1
  · exact k h2
theorem crR_line : ∀ (x r : Bs), noCr x = true → crR (x ++ 13 :: 10 :: r) = (x :: (crR r).1, (crR r).2)
  | [], r, _ => crR_hit r
  | c :: x, r, h => by
    obtain ⟨h1, h2⟩ := noCr_cons h
    rw [List.cons_append, crR_miss, crR_line x r h2]
    cases x with
    | nil => simp
    | cons d x => simpa using h1
theorem crR_join : ∀ (l : List Bs) (r : Bs), (∀ x ∈ l, noCr x = true) → crR (lnJoin l ++ r) = (l ++ (crR r).1, (crR r).2)
  | [], r, _ => rfl
  | x :: l, r, h => by
    have ih := crR_join l r fun y hy => h y (by simp [hy])
    show crR ((x ++ crlf) ++ lnJoin l ++ r) = _
    rw [List.append_assoc, List.append_assoc]
    show crR (x ++ 13 :: 10 :: (lnJoin l ++ r)) = _
    rw [crR_line _ _ (h x (by simp)), ih]
    rfl
theorem crR_back : ∀ (n : Nat) (s : Bs), s.length ≤ n → lnJoin (crR s).1 ++ (crR s).2 = s ∧ ∀ x ∈ (crR s).1, noCr x = true := by
  intro n
  induction n with
  | zero =>
    intro s h
    obtain rfl := List.eq_nil_of_length_eq_zero (Nat.le_zero.1 h)
    exact ⟨rfl, by simp [crR]⟩
  | succ n ih =>
    intro s h
    cases s with
    | nil => exact ⟨rfl, by simp [crR]⟩
    | cons c r =>
      by_cases hc : c = 13 ∧ r.head? = some 10
      · obtain ⟨rfl, h2⟩ := hc
        cases r with
        | nil => cases h2
        | cons d r =>
          simp only [List.head?_cons, Option.some.injEq] at h2
          subst h2
          have := ih r (by simp at h; omega)
          rw [crR_hit]
          refine ⟨?_, fun x hx => ?_⟩
          · show ([] ++ crlf) ++ lnJoin (crR r).1 ++ (crR r).2 = _
            rw [List.append_assoc, this.1]
            rfl
          · rcases List.mem_cons.1 hx with rfl | hx
            · rfl
            · exact this.2 x hx
      · have := ih r (by simpa using h)
        rw [crR_miss hc]
        generalize hq : crR r = q at *
        obtain ⟨l, t⟩ := q
        obtain ⟨e1, e2⟩ := this
        cases l with
        | nil =>
          dsimp only at e1 ⊢
          refine ⟨?_, by simp⟩
          show [] ++ c :: t = _
          rw [← e1]
          rfl
        | cons x l =>
          dsimp only at e1 e2 ⊢
          have hx : noCr x = true := e2 x (by simp)
          have hr : r = x ++ (crlf ++ (lnJoin l ++ t)) := by
            rw [← e1]
            show ((x ++ crlf) ++ lnJoin l) ++ t = _
            simp
          refine ⟨?_, fun y hy => ?_⟩
          · rw [hr]
            show ((c :: x ++ crlf) ++ lnJoin l) ++ t = _
            simp
          · rcases List.mem_cons.1 hy with rfl | hy
            · unfold noCr
              rw [hx, Bool.and_true]
              have : ¬ (c = 13 ∧ x.head? = some 10) := by
                rintro ⟨h1, h2⟩
                refine hc ⟨h1, ?_⟩
                rw [hr]
                cases x with
                | nil => cases h2
                | cons d x => exact h2
              cases hcc : c == 13 with
              | false => rfl
              | true =>
                have hc13 : c = 13 := by simpa using hcc
                have : (x.head? == some 10) = false := by
                  rw [beq_eq_false_iff_ne]
                  exact fun e => this ⟨hc13, e⟩
                rw [this]
                rfl
            · exact e2 y (by simp [hy])
/-- A line, with a dot ahead if it begins with one. -/
def dotted (s : Bs) : Bs := (if s.head? = some 46 then [46] else []) ++ s
def undot (s : Bs) : Bs := if s.head? = some 46 then s.tail else s
theorem noCr_dotted {s : Bs} (h : noCr s = true) : noCr (dotted s) = true := by
  unfold dotted
  split
  · show noCr (46 :: s) = true
    unfold noCr
    rw [h]
    rfl
  · exact h
theorem dotted_ne (s : Bs) : dotted s ≠ [46] := by
  unfold dotted
  split
  · rename_i h
    intro e
    have : s = [] := by simpa using e
    rw [this] at h
    cases h
  · rename_i h
    intro e
    rw [show s = [46] by simpa using e] at h
    exact h rfl
theorem undot_dotted (s : Bs) : undot (dotted s) = s := by
  unfold dotted undot
  by_cases h : s.head? = some 46
  · rw [if_pos h]; rfl
  · rw [if_neg h]
    exact if_neg h
theorem lnStuff_join (l : List Bs) : lnStuff l = lnJoin (l.map dotted) ++ 46 :: crlf := by
  unfold lnStuff lnJoin dotted
  rw [List.flatMap_map]
  congr 1
  congr 1
  funext s
  rw [List.append_assoc]
theorem stuff_split {l : List Bs} (h : ∀ x ∈ l, noCr x = true) : crR (lnStuff l) = (l.map dotted ++ [[46]], []) := by
  rw [lnStuff_join, crR_join _ _ fun x hx => by
    obtain ⟨y, hy, rfl⟩ := List.mem_map.1 hx
    exact noCr_dotted (h y hy)]
  rfl
end Go.Proofs.YtapenolbbofjkaaGreatDoor
