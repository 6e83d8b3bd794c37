/- pack, plainly: numbers and texts as bytes, and how they are taken back. No program. -/
import Derived.Test.YtpkolkgndhagiaaGreatBase
set_option linter.unusedSimpArgs false
set_option linter.unusedVariables false
set_option linter.unnecessarySimpa false
namespace Go.Proofs.YtpkolkgndhagiaaGreat

/-- The n low bytes of x, the highest first. -/
def highB (x : Nat) : Nat → Bs
  | 0 => []
  | n + 1 => highB (x / 256) n ++ [UInt8.ofNat (x % 256)]
def fromH (s : Bs) : Nat := s.foldl (fun x c => x * 256 + c.toNat) 0
def needF : Nat → Nat → Nat
  | 0, _ => 0
  | k + 1, n => if n = 0 then 0 else needF k (n / 256) + 1
/-- How many bytes a number below 256^8 needs. -/
def need (n : Nat) : Nat := needF 8 n
def numB (n : Nat) : Bs := UInt8.ofNat (need n) :: highB n (need n)
def textB (s : Bs) : Bs := numB s.length ++ s

theorem highB_length : ∀ (n x : Nat), (highB x n).length = n
  | 0, _ => rfl
  | n + 1, x => by simp [highB, highB_length n]
theorem fromH_snoc (s : Bs) (c : UInt8) : fromH (s ++ [c]) = fromH s * 256 + c.toNat := by simp [fromH]
theorem fromH_high : ∀ (n x : Nat), fromH (highB x n) = x % 256 ^ n
  | 0, x => by simp [highB, fromH, Nat.mod_one]
  | n + 1, x => by
    rw [highB, fromH_snoc, fromH_high n]
    have h1 : (UInt8.ofNat (x % 256)).toNat = x % 256 := by simp
    rw [h1, Nat.pow_succ, Nat.mul_comm (256 ^ n) 256, Nat.mod_mul]
    omega
theorem snoc_cases (s : Bs) : s = [] ∨ ∃ t c, s = t ++ [c] := by
  rcases s.eq_nil_or_concat with h | ⟨t, c, h⟩
  · exact .inl h
  · exact .inr ⟨t, c, by simpa using h⟩
theorem fromH_lt : ∀ (n : Nat) (s : Bs), s.length = n → fromH s < 256 ^ n
  | 0, s, h => by rw [List.eq_nil_of_length_eq_zero h]; decide
  | n + 1, s, h => by
    rcases snoc_cases s with rfl | ⟨t, c, rfl⟩
    · simp at h
    · have := fromH_lt n t (by simpa using h)
      have hc := c.toNat_lt
      rw [fromH_snoc, Nat.pow_succ]
      omega
theorem high_fromH : ∀ (n : Nat) (s : Bs), s.length = n → highB (fromH s) n = s
  | 0, s, h => by rw [List.eq_nil_of_length_eq_zero h]; rfl
  | n + 1, s, h => by
    rcases snoc_cases s with rfl | ⟨t, c, rfl⟩
    · simp at h
    · have hc := c.toNat_lt
      rw [fromH_snoc, highB]
      have h1 : (fromH t * 256 + c.toNat) / 256 = fromH t := by omega
      have h2 : (fromH t * 256 + c.toNat) % 256 = c.toNat := by omega
      rw [h1, h2, high_fromH n t (by simpa using h)]
      simp
theorem needF_le : ∀ k n, needF k n ≤ k
  | 0, _ => Nat.le_refl _
  | k + 1, n => by
    unfold needF
    split
    · omega
    · have := needF_le k (n / 256); omega
theorem need_le (n : Nat) : need n ≤ 8 := needF_le 8 n
theorem lt_needF : ∀ k n, n < 256 ^ k → n < 256 ^ needF k n
  | 0, n, h => by simpa [needF] using h
  | k + 1, n, h => by
    unfold needF
    split
    · rename_i h0; subst h0; simp
    · have h1 : n / 256 < 256 ^ k := by rw [Nat.pow_succ] at h; omega
      have := lt_needF k (n / 256) h1
      rw [Nat.pow_succ]
      omega
theorem lt_need {n : Nat} (h : n < 18446744073709551616) : n < 256 ^ need n := lt_needF 8 n (by simpa using h)
theorem needF_min : ∀ k n j, j < needF k n → 256 ^ j ≤ n
  | 0, n, j, h => by simp [needF] at h
  | k + 1, n, j, h => by
    unfold needF at h
    split at h
    · omega
    · rename_i h0
      cases j with
      | zero => simp; omega
      | succ j =>
        have := needF_min k (n / 256) j (by omega)
        rw [Nat.pow_succ]
        omega
theorem need_le_of {n j : Nat} (h : n < 256 ^ j) : need n ≤ j := by
  rcases Nat.lt_or_ge j (need n) with hlt | hge
  · have := needF_min 8 n j hlt; omega
  · exact hge
theorem numB_length (n : Nat) : (numB n).length = need n + 1 := by simp [numB, highB_length]
theorem numB_length_le (n : Nat) : (numB n).length ≤ 9 := by rw [numB_length]; have := need_le n; omega
theorem textB_length (s : Bs) : (textB s).length = need s.length + 1 + s.length := by simp [textB, numB_length]
theorem textB_length_le (s : Bs) : (textB s).length ≤ 9 + s.length := by rw [textB_length]; have := need_le s.length; omega

/-- Bytes that are taken from; is something wrong? -/
structure Rd where
  s : Bs
  bad : Bool
def Rd.failed : Rd := ⟨[], true⟩
def Rd.take (r : Rd) (n : Nat) : Bs × Rd := if r.bad || decide (r.s.length < n) then ([], Rd.failed) else (r.s.take n, ⟨r.s.drop n, false⟩)
def Rd.num (r : Rd) (most : Nat) : Nat × Rd :=
  match r.bad, r.s with
  | false, c :: t => if c.toNat ≤ 8 ∧ c.toNat ≤ t.length ∧ need (fromH (t.take c.toNat)) = c.toNat ∧ fromH (t.take c.toNat) ≤ most then (fromH (t.take c.toNat), ⟨t.drop c.toNat, false⟩) else (0, Rd.failed)
  | _, _ => (0, Rd.failed)
def Rd.text (r : Rd) (most : Nat) : Bs × Rd := (r.num most).2.take (r.num most).1
def Rd.done (r : Rd) : Int := if r.bad then 2 else if r.s.isEmpty then 0 else 5

theorem take_failed (n : Nat) : Rd.failed.take n = ([], Rd.failed) := rfl
theorem num_bad {r : Rd} (h : r.bad = true) (most : Nat) : r.num most = (0, Rd.failed) := by
  obtain ⟨s, b⟩ := r
  cases h
  rfl
theorem num_failed (most : Nat) : Rd.failed.num most = (0, Rd.failed) := rfl
theorem text_failed (most : Nat) : Rd.failed.text most = ([], Rd.failed) := rfl
theorem num_back (n most : Nat) (rest : Bs) (h : n < 18446744073709551616) (hm : n ≤ most) : Rd.num ⟨numB n ++ rest, false⟩ most = (n, ⟨rest, false⟩) := by
  have hn := need_le n
  have h1 : (UInt8.ofNat (need n)).toNat = need n := by simp; omega
  have hl := highB_length (need n) n
  have h2 : (highB n (need n) ++ rest).take (need n) = highB n (need n) := List.take_left' hl
  have h3 : (highB n (need n) ++ rest).drop (need n) = rest := List.drop_left' hl
  have h4 : fromH (highB n (need n)) = n := by rw [fromH_high]; exact Nat.mod_eq_of_lt (lt_need h)
  unfold numB
  rw [List.cons_append]
  generalize highB n (need n) ++ rest = t at *
  simp only [Rd.num, h1, h2, h3, h4]
  rw [if_pos ⟨hn, by rw [← hl, ← h2, List.length_take]; omega, trivial, hm⟩]
theorem text_back (s : Bs) (most : Nat) (rest : Bs) (h : s.length < 18446744073709551616) (hm : s.length ≤ most) : Rd.text ⟨textB s ++ rest, false⟩ most = (s, ⟨rest, false⟩) := by
  unfold Rd.text textB
  rw [List.append_assoc, num_back _ _ _ h hm]
  have : ¬ (s ++ rest).length < s.length := by rw [List.length_append]; omega
  simp only [Rd.take, Bool.false_or, decide_eq_true_eq, if_neg this, List.take_left, List.drop_left]
theorem num_len (r : Rd) (most : Nat) : (r.num most).2.s.length ≤ r.s.length ∧ ((r.num most).2.bad = false → (r.num most).2.s.length < r.s.length) := by
  obtain ⟨s, b⟩ := r
  cases b <;> cases s
  · simp [Rd.num, Rd.failed]
  · rename_i c t
    simp only [Rd.num]
    split
    · simp; omega
    · simp [Rd.failed]
  all_goals simp [Rd.num, Rd.failed]
theorem take_len (r : Rd) (n : Nat) : (r.take n).2.s.length ≤ r.s.length ∧ (r.take n).1.length ≤ r.s.length := by
  unfold Rd.take
  split
  · simp [Rd.failed]
  · simp only [List.length_drop, List.length_take]; omega
theorem take_ok {r : Rd} {n : Nat} (h : (r.take n).2.bad = false) : r.bad = false ∧ n ≤ r.s.length ∧ r.take n = (r.s.take n, ⟨r.s.drop n, false⟩) := by
  unfold Rd.take at h ⊢
  split at h
  · simp [Rd.failed] at h
  · rename_i h1
    simp only [Bool.or_eq_true, decide_eq_true_eq, not_or] at h1
    refine ⟨by simpa using h1.1, by omega, by rw [if_neg (by simpa using h1)]⟩
theorem text_len (r : Rd) (most : Nat) : (r.text most).2.s.length ≤ r.s.length ∧ ((r.text most).2.bad = false → (r.text most).2.s.length < r.s.length) ∧ (r.text most).1.length ≤ r.s.length := by
  unfold Rd.text
  have h1 := num_len r most
  have h2 := take_len (r.num most).2 (r.num most).1
  refine ⟨by omega, fun hb => ?_, by omega⟩
  have h3 := h1.2 (take_ok hb).1
  omega
theorem num_le (r : Rd) (most : Nat) : (r.num most).1 ≤ most := by
  obtain ⟨s, b⟩ := r
  cases b <;> cases s
  · simp [Rd.num]
  · rename_i c t
    simp only [Rd.num]
    split
    · rename_i h; exact h.2.2.2
    · simp
  all_goals simp [Rd.num]
theorem num_lt (r : Rd) (most : Nat) : (r.num most).1 < 18446744073709551616 := by
  obtain ⟨s, b⟩ := r
  cases b <;> cases s
  · simp [Rd.num]
  · rename_i c t
    simp only [Rd.num]
    split
    · rename_i h
      have h1 : (t.take c.toNat).length ≤ 8 := by rw [List.length_take]; omega
      have h2 := fromH_lt _ (t.take c.toNat) rfl
      have h3 : 256 ^ (t.take c.toNat).length ≤ 256 ^ 8 := Nat.pow_le_pow_right (by omega) h1
      simp only
      omega
    · simp
  all_goals simp [Rd.num]
theorem text_fst_le (r : Rd) (most : Nat) : (r.text most).1.length ≤ most := by
  unfold Rd.text
  have h := num_le r most
  unfold Rd.take
  split
  · simp
  · simp only [List.length_take]; omega
/-- What was taken well stood ahead. -/
theorem num_ok {r : Rd} {most : Nat} (h : (r.num most).2.bad = false) : r.bad = false ∧ r.s = numB (r.num most).1 ++ (r.num most).2.s := by
  obtain ⟨s, b⟩ := r
  cases b <;> cases s
  · simp [Rd.num, Rd.failed] at h
  · rename_i c t
    simp only [Rd.num] at h ⊢
    split at h
    · rename_i hc
      rw [if_pos hc]
      refine ⟨trivial, ?_⟩
      have hl : (t.take c.toNat).length = c.toNat := by rw [List.length_take]; omega
      simp only [numB, hc.2.2.1, high_fromH _ _ hl, List.cons_append, List.take_append_drop]
      simp
    · simp [Rd.failed] at h
  all_goals simp [Rd.num, Rd.failed] at h
theorem text_ok {r : Rd} {most : Nat} (h : (r.text most).2.bad = false) : r.bad = false ∧ r.s = textB (r.text most).1 ++ (r.text most).2.s := by
  unfold Rd.text at h ⊢
  obtain ⟨h1, h2, h3⟩ := take_ok h
  obtain ⟨h4, h5⟩ := num_ok h1
  refine ⟨h4, ?_⟩
  rw [h3]
  simp only [textB, List.length_take]
  rw [Nat.min_eq_left h2, List.append_assoc, List.take_append_drop]
  exact h5
theorem bad_empty_num {r : Rd} {most : Nat} (h : (r.num most).2.bad = true) : (r.num most).2.s = [] := by
  obtain ⟨s, b⟩ := r
  cases b <;> cases s
  · rfl
  · rename_i c t
    simp only [Rd.num] at h ⊢
    split at h
    · simp at h
    · rename_i hc; rw [if_neg hc]; rfl
  all_goals rfl
end Go.Proofs.YtpkolkgndhagiaaGreat
