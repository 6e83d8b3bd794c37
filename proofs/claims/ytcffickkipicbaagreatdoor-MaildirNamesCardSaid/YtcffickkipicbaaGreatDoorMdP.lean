/- maildir, plainly: names of messages, and whose name a text is. No program. -/
import Derived.Test.YtcffickkipicbaaGreatDoorBase
import Derived.Lib.ItoaNum
import Derived.Lib.ItoaMem
import Derived.Lib.ParseIntB
import Derived.Lib.IndexLaws
import Derived.Lib.IndexMore
namespace Go.Proofs.YtcffickkipicbaaGreatDoor
open Go.Lib (decDigits parseUintB parseUintM nDigits)

def digB (c : UInt8) : Bool := decide (48 ≤ c.toNat) && decide (c.toNat ≤ 57)
def numRd (s : Bs) : Nat := if s.all digB then (match parseUintB 64 s with | .ok u => u | .syntax => 0 | .range => 18446744073709551615) else 0
def mdOk (box : Int) (id : Nat) (to : Int) : Prop := 0 ≤ box ∧ box ≤ 99 ∧ 1 ≤ id ∧ id ≤ 1099511627776 ∧ 0 ≤ to ∧ to < 10
instance (box : Int) (id : Nat) (to : Int) : Decidable (mdOk box id to) := inferInstanceAs (Decidable (_ ∧ _))
def nameB (box id to : Nat) : Bs := decDigits box ++ [47] ++ decDigits id ++ [46] ++ decDigits to
def mdName (box : Int) (id : Nat) (to : Int) : Bs × Int := if mdOk box id to then (nameB box.toNat id to.toNat, 0) else ([], 3)
def mdRead (s : Bs) : Nat × Nat × Nat := (min (numRd (Lib.cut s [47]).1) 100, numRd (Lib.cut (Lib.cut s [47]).2.1 [46]).1, min (numRd (Lib.cut (Lib.cut s [47]).2.1 [46]).2.1) 10)
def mdIs (s : Bs) : Bool := decide (mdOk (mdRead s).1 (mdRead s).2.1 (mdRead s).2.2) && (nameB (mdRead s).1 (mdRead s).2.1 (mdRead s).2.2 == s)
def mdParse (s : Bs) : Nat × Nat × Nat × Bool := if mdIs s then ((mdRead s).1, (mdRead s).2.1, (mdRead s).2.2, true) else (0, 0, 0, false)

theorem digB_of {k : Nat} (h : k < 10) : digB (UInt8.ofNat (48 + k)) = true := by
  have : (UInt8.ofNat (48 + k)).toNat = 48 + k := by simp; omega
  unfold digB
  rw [this]
  simp
  omega
theorem decDigits_dig (n : Nat) : (decDigits n).all digB = true := by
  induction n using Nat.strongRecOn with
  | _ n ih =>
    rw [decDigits]
    split
    · rename_i h
      rw [List.all_cons, digB_of h]; rfl
    · rw [List.all_append, ih (n / 10) (by omega)]
      rw [List.all_cons, digB_of (k := n % 10) (by omega)]; rfl
theorem parseUintM_snoc (M : Nat) (c : UInt8) (hc : digB c = true) : ∀ (l : Bs) (acc u : Nat), parseUintM M acc l = .ok u → u < 1844674407370955162 → u * 10 + (c.toNat - 48) ≤ M → parseUintM M acc (l ++ [c]) = .ok (u * 10 + (c.toNat - 48))
  | [], acc, u, h, hu, hM => by
    simp only [parseUintM, Lib.NumEnd.ok.injEq] at h
    subst h
    simp only [digB, Bool.and_eq_true, decide_eq_true_eq] at hc
    simp only [List.nil_append, parseUintM]
    rw [if_pos hc, if_neg (by omega), if_neg (by omega)]
  | x :: r, acc, u, h, hu, hM => by
    simp only [List.cons_append, parseUintM] at h ⊢
    split at h
    · split at h
      · cases h
      · split at h
        · cases h
        · rename_i h1 h2 h3
          rw [if_pos h1, if_neg h2, if_neg h3]
          exact parseUintM_snoc M c hc r _ u h hu hM
    · cases h
theorem parseUintM_dec (M : Nat) (hM : M ≤ 18446744073709551615) (n : Nat) (h : n ≤ M) : parseUintM M 0 (decDigits n) = .ok n := by
  induction n using Nat.strongRecOn with
  | _ n ih =>
    rw [decDigits]
    split
    · rename_i h10
      have hc := digB_of h10
      have ht : (UInt8.ofNat (48 + n)).toNat = 48 + n := by simp; omega
      have := parseUintM_snoc M _ hc [] 0 0 rfl (by decide) (by rw [ht]; omega)
      rw [ht] at this
      simpa using this
    · have hc := digB_of (k := n % 10) (by omega)
      have ht : (UInt8.ofNat (48 + n % 10)).toNat = 48 + n % 10 := by simp; omega
      have := parseUintM_snoc M _ hc _ 0 (n / 10) (ih (n / 10) (by omega) (by omega)) (by omega) (by rw [ht]; omega)
      rw [ht] at this
      rw [this]
      congr 1
      omega
theorem decDigits_ne (n : Nat) : decDigits n ≠ [] := by
  rw [decDigits]
  split <;> simp
theorem parse_dec {n : Nat} (h : n ≤ 18446744073709551615) : parseUintB 64 (decDigits n) = .ok n := by
  unfold parseUintB
  rw [if_neg (decDigits_ne n)]
  exact parseUintM_dec _ (by decide) n (by simpa using h)
theorem numRd_dec {n : Nat} (h : n ≤ 18446744073709551615) : numRd (decDigits n) = n := by
  unfold numRd
  rw [if_pos (decDigits_dig n), parse_dec h]
theorem cut_one (a r : Bs) (c : UInt8) (h : c ∉ a) : Lib.cut (a ++ c :: r) [c] = (a, r, true) := by
  have hi : Lib.index (a ++ c :: r) [c] = a.length := by
    refine Lib.index_first (by simp) (by simp [Lib.occAt]) fun j hj => ?_
    unfold Lib.occAt
    rw [List.drop_append_of_le_length (by omega)]
    obtain ⟨x, t, hx⟩ : ∃ x t, a.drop j = x :: t := by
      cases hd : a.drop j with
      | nil => rw [List.drop_eq_nil_iff] at hd; omega
      | cons x t => exact ⟨x, t, rfl⟩
    rw [hx]
    have hm : x ∈ a := List.mem_of_mem_drop (i := j) (by rw [hx]; simp)
    have hne : (c == x) = false := beq_eq_false_iff_ne.2 (fun e => h (e ▸ hm))
    rw [List.cons_append, List.isPrefixOf, hne]
    rfl
  unfold Lib.cut
  rw [hi, if_pos (by omega)]
  simp
theorem not_mem_dec {c : UInt8} (hc : digB c = false) (n : Nat) : c ∉ decDigits n := fun h => by
  have := List.all_eq_true.1 (decDigits_dig n) c h
  rw [hc] at this
  cases this
theorem mdRead_name {box id to : Nat} (h : mdOk box id to) : mdRead (nameB box id to) = (box, id, to) := by
  obtain ⟨_, h2, _, h4, _, h6⟩ := h
  have e : nameB box id to = decDigits box ++ 47 :: (decDigits id ++ 46 :: decDigits to) := by simp [nameB]
  unfold mdRead
  rw [e, cut_one _ _ _ (not_mem_dec (by decide) box)]
  dsimp only
  rw [cut_one _ _ _ (not_mem_dec (by decide) id)]
  dsimp only
  rw [numRd_dec (by omega), numRd_dec (by omega), numRd_dec (by omega), Nat.min_eq_left (by omega), Nat.min_eq_left (by omega)]
theorem mdIs_name {box id to : Nat} (h : mdOk box id to) : mdIs (nameB box id to) = true := by
  unfold mdIs
  rw [mdRead_name h]
  simp [h]
theorem mdParse_name {box id to : Nat} (h : mdOk box id to) : mdParse (nameB box id to) = (box, id, to, true) := by
  unfold mdParse
  rw [mdIs_name h, mdRead_name h]
  rfl
theorem mdIs_sound {s : Bs} (h : mdIs s = true) : mdOk (mdRead s).1 (mdRead s).2.1 (mdRead s).2.2 ∧ s = nameB (mdRead s).1 (mdRead s).2.1 (mdRead s).2.2 := by
  unfold mdIs at h
  simp only [Bool.and_eq_true, decide_eq_true_eq, beq_iff_eq] at h
  exact ⟨h.1, h.2.symm⟩
theorem nameB_inj {a b c x y z : Nat} (h1 : mdOk a b c) (h2 : mdOk x y z) (h : nameB a b c = nameB x y z) : a = x ∧ b = y ∧ c = z := by
  have e1 := mdRead_name h1
  rw [h, mdRead_name h2] at e1
  simp only [Prod.mk.injEq] at e1
  exact ⟨e1.1.symm, e1.2.1.symm, e1.2.2.symm⟩
theorem nDigits_le {n k : Nat} (hk : 1 ≤ k) (h : n < 10 ^ k) : nDigits n ≤ k := by
  induction k generalizing n with
  | zero => omega
  | succ k ih =>
    by_cases h10 : n < 10
    · rw [Lib.nDigits_small h10]; omega
    · rw [Lib.nDigits_big h10]
      have hk1 : 1 ≤ k := by
        rcases Nat.eq_zero_or_pos k with rfl | h0
        · simp at h; omega
        · exact h0
      have := ih hk1 (n := n / 10) (by rw [Nat.pow_succ] at h; omega)
      omega
theorem decDigits_len {n k : Nat} (hk : 1 ≤ k) (h : n < 10 ^ k) : (decDigits n).length ≤ k := by
  rw [Lib.decDigits_length]
  exact nDigits_le hk h
theorem nameB_len {box id to : Nat} (h : mdOk box id to) : (nameB box id to).length ≤ 18 := by
  obtain ⟨_, h2, _, h4, _, h6⟩ := h
  have l1 := decDigits_len (n := box) (k := 2) (by decide) (by omega)
  have l2 := decDigits_len (n := id) (k := 13) (by decide) (by omega)
  have l3 := decDigits_len (n := to) (k := 1) (by decide) (by omega)
  unfold nameB
  simp only [List.length_append, List.length_cons, List.length_nil]
  omega
/-- Which of two names comes first. -/
def mdCmp (x y : Bs) : Int :=
  if (mdParse x).2.1 < (mdParse y).2.1 then -1 else if (mdParse y).2.1 < (mdParse x).2.1 then 1
  else if (mdParse x).2.2.1 < (mdParse y).2.2.1 then -1 else if (mdParse y).2.2.1 < (mdParse x).2.2.1 then 1 else 0
end Go.Proofs.YtcffickkipicbaaGreatDoor
