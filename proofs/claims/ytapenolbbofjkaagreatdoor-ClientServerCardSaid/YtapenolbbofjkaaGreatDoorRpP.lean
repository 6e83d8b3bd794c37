/- Replies, plainly: their lines, how they are read, how many lines are one. No program. Replies read as the document says, plainly. No program. -/
import Derived.Test.YtapenolbbofjkaaGreatDoorCmP
import Derived.Lib.Atoi
import Derived.Lib.SlBy
/-! RpP -/
set_option linter.unusedSimpArgs false
set_option linter.unusedVariables false
set_option linter.unnecessarySimpa false
namespace Go.Proofs.YtapenolbbofjkaaGreatDoor

/-- Is a line a reply's last one? -/
def lastB (s : Bs) : Bool := decide (3 < s.length) && s[3]? == some 32
def rpLine (d : Bs) (n i : Nat) (s : Bs) : Bs := d ++ ((if i + 1 = n then 32 else 45) :: s)
def rpOut (d : Bs) (l : List Bs) : List Bs := l.mapIdx fun i s => rpLine d l.length i s
def rpLines (code : Int) (l : List Bs) : List Bs × Int :=
  if classC code = 0 then ([], 3) else if l = [] ∨ (l.any fun s => !printB s) = true then ([], 2) else (rpOut (Lib.decDigits code.toNat) l, 0)
def wholeN : List Bs → Nat
  | [] => 0
  | s :: l => if lastB s then 1 else if wholeN l = 0 then 0 else wholeN l + 1
def codeOf (s : Bs) : Int := (Lib.atoi (s.take 3)).getD 0
def rpCode (l : List Bs) : Int := (l.getLast?.map codeOf).getD 0
def rpShut (code : Int) (r l : List Bs) : (Int × List Bs) × Int := if (rpLines code r).2 = 0 ∧ (rpLines code r).1 = l then ((code, r), 0) else ((0, []), 2)
def rpRead (l : List Bs) : (Int × List Bs) × Int :=
  if (l.any fun s => decide (s.length ≤ 3)) = true then ((0, []), 2) else rpShut (rpCode l) (l.map (·.drop 4)) l

theorem whole_idx (l : List Bs) (d : Bs) : ∀ i : Nat, Lib.idxByFrom (fun _ y => lastB y) d l i + 1 = if wholeN l = 0 then 0 else ((i + wholeN l : Nat) : Int) := by
  induction l with
  | nil => intro i; simp [Lib.idxByFrom, wholeN]
  | cons s l ih =>
    intro i
    unfold Lib.idxByFrom wholeN
    by_cases h : lastB s = true
    · rw [if_pos h, if_pos h, if_neg (by decide)]
      simp
    · rw [if_neg h, if_neg h, ih]
      by_cases h0 : wholeN l = 0
      · rw [if_pos h0, if_pos h0, if_pos rfl]
      · rw [if_neg h0, if_neg h0, if_neg (by omega)]
        congr 1
        omega
theorem whole_idx0 (l : List Bs) (d : Bs) : Lib.idxBy (fun _ y => lastB y) l d + 1 = (wholeN l : Int) := by
  unfold Lib.idxBy
  rw [whole_idx]
  split
  · simp [*]
  · simp
theorem whole_none {l : List Bs} (h : ∀ s ∈ l, lastB s = false) : wholeN l = 0 := by
  induction l with
  | nil => rfl
  | cons s l ih =>
    unfold wholeN
    rw [if_neg (by simp [h s]), if_pos (ih fun t ht => h t (by simp [ht]))]
theorem whole_hit {A B : List Bs} {x : Bs} (h : ∀ s ∈ A, lastB s = false) (hx : lastB x = true) : wholeN (A ++ x :: B) = A.length + 1 := by
  induction A with
  | nil => simp [wholeN, hx]
  | cons s A ih =>
    have := ih fun t ht => h t (by simp [ht])
    rw [List.cons_append]
    unfold wholeN
    rw [if_neg (by simp [h s]), this, if_neg (by omega)]
    simp
theorem last_line {d : Bs} (hd : d.length = 3) (c : UInt8) (s : Bs) : lastB (d ++ c :: s) = (c == 32) := by
  unfold lastB
  rw [List.getElem?_append_right (by omega), decide_eq_true (by simp; omega), hd]
  simp
theorem rpOut_snoc (d : Bs) (A : List Bs) (x : Bs) : rpOut d (A ++ [x]) = (A.map fun s => d ++ 45 :: s) ++ [d ++ 32 :: x] := by
  unfold rpOut rpLine
  apply List.ext_getElem?
  intro i
  rw [List.getElem?_mapIdx]
  by_cases h : i < A.length
  · rw [List.getElem?_append_left h, List.getElem?_append_left (by simpa using h), List.getElem?_map]
    rw [List.getElem?_eq_getElem h]
    simp only [Option.map_some]
    rw [if_neg (by simp; omega)]
  · rw [List.getElem?_append_right (by omega), List.getElem?_append_right (by simpa using h)]
    rw [List.length_map]
    by_cases h2 : i = A.length
    · subst h2
      simp
    · rw [List.getElem?_eq_none (by simp; omega), List.getElem?_eq_none (by simp; omega)]
      rfl
theorem snoc_cases {α : Type} (l : List α) : l = [] ∨ ∃ A x, l = A ++ [x] := by
  rcases List.eq_nil_or_concat l with h | ⟨A, x, h⟩
  · exact .inl h
  · exact .inr ⟨A, x, by rw [h, List.concat_eq_append]⟩
theorem rpOut_length (d : Bs) (l : List Bs) : (rpOut d l).length = l.length := by simp [rpOut]
theorem rpOut_ne {d : Bs} {l : List Bs} (h : l ≠ []) : rpOut d l ≠ [] := fun e => h (List.eq_nil_of_length_eq_zero (by rw [← rpOut_length d, e]; rfl))
theorem whole_out {d : Bs} (hd : d.length = 3) {l : List Bs} (h : l ≠ []) (B : List Bs) : wholeN (rpOut d l ++ B) = l.length := by
  rcases snoc_cases l with h0 | ⟨A, x, rfl⟩
  · exact absurd h0 h
  · rw [rpOut_snoc, List.append_assoc, List.singleton_append, whole_hit]
    · simp
    · intro s hs
      obtain ⟨t, _, rfl⟩ := List.mem_map.1 hs
      rw [last_line hd]
      rfl
    · rw [last_line hd]
      rfl
theorem whole_less {d : Bs} (hd : d.length = 3) {l : List Bs} (h : l ≠ []) : wholeN ((rpOut d l).dropLast) = 0 := by
  rcases snoc_cases l with h0 | ⟨A, x, rfl⟩
  · exact absurd h0 h
  · rw [rpOut_snoc, List.dropLast_concat]
    refine whole_none fun s hs => ?_
    obtain ⟨t, _, rfl⟩ := List.mem_map.1 hs
    rw [last_line hd]
    rfl
theorem class_range {c : Int} : classC c ≠ 0 → 200 ≤ c ∧ c ≤ 599 := by
  unfold classC
  intro h
  by_cases h1 : c < 200 ∨ 599 < c
  · rw [if_pos h1] at h; exact absurd rfl h
  · omega
theorem class_of {c : Int} (h1 : 200 ≤ c) (h2 : c ≤ 599) : classC c ≠ 0 := by
  unfold classC
  rw [if_neg (by omega), Int.tdiv_eq_ediv_of_nonneg (by omega)]
  omega
theorem dec3 {n : Nat} (h1 : 200 ≤ n) (h2 : n ≤ 599) : Lib.decDigits n = [UInt8.ofNat (48 + n / 100), UInt8.ofNat (48 + n / 10 % 10), UInt8.ofNat (48 + n % 10)] := by
  rw [Lib.decDigits, dif_neg (by omega), Lib.decDigits_two (by omega) (by omega)]
  simp [Nat.div_div_eq_div_mul]
theorem dec3_len {c : Int} (h : classC c ≠ 0) : (Lib.decDigits c.toNat).length = 3 := by
  have := class_range h
  rw [dec3 (by omega) (by omega)]
  rfl
theorem dec3_atoi {c : Int} (h : classC c ≠ 0) : Lib.atoi (Lib.decDigits c.toNat) = some c := by
  have h1 := class_range h
  rw [dec3 (by omega) (by omega)]
  have : ∀ n : Fin 600, 200 ≤ n.val → Lib.atoi [UInt8.ofNat (48 + n.val / 100), UInt8.ofNat (48 + n.val / 10 % 10), UInt8.ofNat (48 + n.val % 10)] = some (n.val : Int) := by decide +kernel
  have := this ⟨c.toNat, by omega⟩ (by simp; omega)
  rw [this]
  simp
  omega
theorem rpLines_ok {c : Int} {r l : List Bs} (h : rpLines c r = (l, 0)) : classC c ≠ 0 ∧ r ≠ [] ∧ (∀ s ∈ r, printB s = true) ∧ l = rpOut (Lib.decDigits c.toNat) r := by
  unfold rpLines at h
  split at h
  · simp at h
  · split at h
    · simp at h
    · rename_i h1 h2
      simp only [not_or] at h2
      refine ⟨h1, h2.1, fun s hs => ?_, (congrArg Prod.fst h).symm⟩
      have h3 := h2.2
      simp only [List.any_eq_true, not_exists, not_and] at h3
      have := h3 s hs
      simpa using this
theorem rpLines_bad {c : Int} {r l : List Bs} {e : Int} (h : rpLines c r = (l, e)) (he : e ≠ 0) : l = [] := by
  unfold rpLines at h
  split at h
  · exact (congrArg Prod.fst h).symm
  · split at h
    · exact (congrArg Prod.fst h).symm
    · exact absurd (congrArg Prod.snd h).symm he
theorem rpRead_lines {c : Int} {r l : List Bs} (h : rpLines c r = (l, 0)) : rpRead l = ((c, r), 0) := by
  obtain ⟨h1, h2, h3, rfl⟩ := rpLines_ok h
  have hd := dec3_len h1
  have hm : ∀ s ∈ rpOut (Lib.decDigits c.toNat) r, ∃ t y, s = Lib.decDigits c.toNat ++ y :: t := fun s hs => by
    unfold rpOut rpLine at hs
    obtain ⟨i, hi, rfl⟩ := List.mem_mapIdx.1 hs
    exact ⟨_, _, rfl⟩
  unfold rpRead
  rw [if_neg]
  · have e1 : rpCode (rpOut (Lib.decDigits c.toNat) r) = c := by
      unfold rpCode codeOf
      rcases snoc_cases r with h0 | ⟨A, x, rfl⟩
      · exact absurd h0 h2
      · rw [rpOut_snoc, List.getLast?_concat]
        simp only [Option.map_some, Option.getD_some]
        rw [List.take_append_of_le_length (by omega), List.take_of_length_le (by omega), dec3_atoi h1]
        rfl
    have e2 : (rpOut (Lib.decDigits c.toNat) r).map (·.drop 4) = r := by
      unfold rpOut rpLine
      apply List.ext_getElem?
      intro i
      rw [List.getElem?_map, List.getElem?_mapIdx]
      cases r[i]? with
      | none => rfl
      | some s =>
        simp only [Option.map_some]
        rw [List.drop_append, List.drop_eq_nil_of_le (by omega), hd]
        rfl
    unfold rpShut
    rw [e1, e2, h]
    simp
  · simp only [List.any_eq_true, not_exists, not_and]
    intro s hs
    obtain ⟨t, y, rfl⟩ := hm s hs
    simp [hd]
theorem rpRead_err (l : List Bs) : (rpRead l).2 = 0 ∨ (rpRead l).2 = 2 := by
  unfold rpRead rpShut
  split
  · exact .inr rfl
  · split
    · exact .inl rfl
    · exact .inr rfl
theorem rpRead_whole {l : List Bs} (h : (rpRead l).2 = 0) : l ≠ [] ∧ wholeN l = l.length := by
  unfold rpRead rpShut at h
  split at h
  · exact absurd h (by decide)
  · split at h
    · rename_i h1
      obtain ⟨h2, h3⟩ := h1
      generalize hq : rpLines (rpCode l) (l.map (·.drop 4)) = q at *
      obtain ⟨a, b⟩ := q
      dsimp only at h2 h3
      subst h2 h3
      obtain ⟨k1, k2, k3, k4⟩ := rpLines_ok hq
      have := whole_out (dec3_len k1) k2 []
      rw [List.append_nil, ← k4] at this
      exact ⟨fun e => k2 (by rw [e]; rfl), by rw [this]; simp⟩
    · exact absurd h (by decide)
/-- One line less is no reply. -/
theorem rpRead_less {c : Int} {r l : List Bs} (h : rpLines c r = (l, 0)) : (rpRead l.dropLast).2 = 2 := by
  obtain ⟨h1, h2, h3, rfl⟩ := rpLines_ok h
  rcases rpRead_err (rpOut (Lib.decDigits c.toNat) r).dropLast with k | k
  · obtain ⟨k1, k2⟩ := rpRead_whole k
    rw [whole_less (dec3_len h1) h2] at k2
    exact absurd (List.eq_nil_of_length_eq_zero k2.symm) k1
  · exact k
theorem rpLines_whole {c : Int} {r l : List Bs} (h : rpLines c r = (l, 0)) (B : List Bs) : wholeN (l ++ B) = l.length ∧ wholeN l = l.length ∧ wholeN l.dropLast = 0 ∧ l ≠ [] := by
  obtain ⟨h1, h2, h3, rfl⟩ := rpLines_ok h
  have e := whole_out (dec3_len h1) h2 []
  rw [List.append_nil] at e
  exact ⟨by rw [whole_out (dec3_len h1) h2, rpOut_length], by rw [e, rpOut_length], whole_less (dec3_len h1) h2, rpOut_ne h2⟩
end Go.Proofs.YtapenolbbofjkaaGreatDoor

/-! RpQ -/
namespace Go.Proofs.YtapenolbbofjkaaGreatDoor

def digB (c : UInt8) : Bool := decide (48 ≤ c.toNat) && decide (c.toNat ≤ 57)
/-- A word's number; below 0: it is none. -/
def sizeR (s : Bs) : Int := if s ≠ [] ∧ s.all digB = true then (numV s : Int) else -1
def rfCode (l : List Bs) : Int := (l.getLast?.map fun s => sizeR (s.take 3)).getD 0
def rfRead (l : List Bs) : (Int × List Bs) × Int :=
  if (l.any fun s => decide (s.length ≤ 3) || decide (sizeR (s.take 3) < 0)) = true then ((0, []), 2) else rpShut (rfCode l) (l.map (·.drop 4)) l

theorem dig_val {c : UInt8} (h : digB c = true) : Lib.digitVal c = some (c.toNat - 48) := by
  unfold digB at h
  simp only [Bool.and_eq_true, decide_eq_true_eq] at h
  unfold Lib.digitVal
  rw [if_pos h]
theorem decFrom_num : ∀ (s : Bs) (a : Nat), s.all digB = true → Lib.decFrom a s = some (s.foldl (fun a c => a * 10 + (c.toNat - 48)) a)
  | [], _, _ => rfl
  | c :: s, a, h => by
    rw [List.all_cons, Bool.and_eq_true] at h
    unfold Lib.decFrom
    rw [dig_val h.1]
    exact decFrom_num s _ h.2
theorem atoi_num {s : Bs} (h0 : s ≠ []) (h : s.all digB = true) : Lib.atoi s = some (numV s : Int) := by
  cases s with
  | nil => exact absurd rfl h0
  | cons c s =>
    have hc : digB c = true := by rw [List.all_cons, Bool.and_eq_true] at h; exact h.1
    have h1 : c ≠ 45 := fun e => by subst e; exact absurd hc (by decide)
    have h2 : c ≠ 43 := fun e => by subst e; exact absurd hc (by decide)
    unfold Lib.atoi Lib.decNat
    dsimp only
    rw [if_neg (by simpa using h1), if_neg (by simpa using h2), if_neg (by simp), decFrom_num _ _ h]
    rfl
theorem sizeR_code {s : Bs} (h : ¬ sizeR (s.take 3) < 0) : codeOf s = sizeR (s.take 3) := by
  unfold sizeR at h ⊢
  split at h
  · rename_i h1
    rw [if_pos h1]
    unfold codeOf
    rw [atoi_num h1.1 h1.2]
    rfl
  · exact absurd (show ((-1 : Int) < 0) by decide) h
theorem dec3_dig {c : Int} (h : classC c ≠ 0) : (Lib.decDigits c.toNat).all digB = true := by
  have h1 := class_range h
  rw [dec3 (by omega) (by omega)]
  have : ∀ n : Fin 600, 200 ≤ n.val → [UInt8.ofNat (48 + n.val / 100), UInt8.ofNat (48 + n.val / 10 % 10), UInt8.ofNat (48 + n.val % 10)].all digB = true := by decide +kernel
  exact this ⟨c.toNat, by omega⟩ (by simp; omega)
theorem rpShut_dig {c : Int} {r l : List Bs} {s : Bs} (hs : s ∈ l) (h : sizeR (s.take 3) < 0) : rpShut c r l = ((0, []), 2) := by
  unfold rpShut
  rw [if_neg]
  rintro ⟨h1, h2⟩
  generalize hq : rpLines c r = q at *
  obtain ⟨a, b⟩ := q
  dsimp only at h1 h2
  subst h1 h2
  obtain ⟨k1, k2, k3, rfl⟩ := rpLines_ok hq
  unfold rpOut rpLine at hs
  obtain ⟨i, hi, rfl⟩ := List.mem_mapIdx.1 hs
  have hd := dec3_len k1
  rw [List.take_append_of_le_length (by omega), List.take_of_length_le (by omega)] at h
  unfold sizeR at h
  rw [if_pos ⟨fun e => by rw [e] at hd; exact absurd hd (by decide), dec3_dig k1⟩] at h
  omega
theorem rpRead_ref (l : List Bs) : rfRead l = rpRead l := by
  unfold rfRead rpRead
  by_cases h : (l.any fun s => decide (s.length ≤ 3)) = true
  · rw [if_pos h, if_pos]
    rw [List.any_eq_true] at h ⊢
    obtain ⟨s, hs, h⟩ := h
    exact ⟨s, hs, by rw [h]; rfl⟩
  · rw [if_neg h]
    by_cases h2 : ∃ s ∈ l, sizeR (s.take 3) < 0
    · obtain ⟨s, hs, h2⟩ := h2
      rw [if_pos, rpShut_dig hs h2]
      rw [List.any_eq_true]
      exact ⟨s, hs, by rw [decide_eq_true h2]; simp⟩
    · rw [if_neg]
      · congr 1
        unfold rfCode rpCode
        cases hl : l.getLast? with
        | none => rfl
        | some s =>
          simp only [Option.map_some, Option.getD_some]
          exact (sizeR_code fun k => h2 ⟨s, List.mem_of_getLast? hl, k⟩).symm
      · simp only [List.any_eq_true, Bool.or_eq_true, not_exists, not_and, decide_eq_true_eq] at h ⊢
        intro s hs k
        rcases k with k | k
        · exact h s hs k
        · exact h2 ⟨s, hs, k⟩
theorem numV_ten (s : Bs) (h : s.all digB = true) : numV s < 10 ^ s.length := by
  have : ∀ (s : Bs) (a : Nat), s.all digB = true → s.foldl (fun a c => a * 10 + (c.toNat - 48)) a < (a + 1) * 10 ^ s.length := by
    intro s
    induction s with
    | nil => intro a _; simp
    | cons c s ih =>
      intro a h
      rw [List.all_cons, Bool.and_eq_true] at h
      have hc := h.1
      unfold digB at hc
      simp only [Bool.and_eq_true, decide_eq_true_eq] at hc
      have := ih (a * 10 + (c.toNat - 48)) h.2
      rw [List.foldl_cons, List.length_cons, Nat.pow_succ]
      refine Nat.lt_of_lt_of_le this ?_
      rw [Nat.mul_comm (10 ^ s.length) 10, ← Nat.mul_assoc]
      exact Nat.mul_le_mul_right _ (by omega)
  have := this s 0 h
  simpa [numV] using this
end Go.Proofs.YtapenolbbofjkaaGreatDoor
