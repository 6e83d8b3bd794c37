/- posthornref19.Parse, plainly. No program. -/
import Derived.Test.YtcffickkipicbaaGreatDoorR19d
import Derived.Test.YtcffickkipicbaaGreatDoorMdQ
namespace Go.Proofs.YtcffickkipicbaaGreatDoor
open Go.RowKit Go.Sort Go.Maps
open Go.Lib (decDigits)

theorem digV_dec (n : Nat) : digV (decDigits n) = n := by
  induction n using Nat.strongRecOn with
  | _ n ih =>
    rw [decDigits]
    split
    · rename_i h
      have : (UInt8.ofNat (48 + n)).toNat = 48 + n := by simp; omega
      show 0 * 10 + ((UInt8.ofNat (48 + n)).toNat - 48) = n
      rw [this]; omega
    · rw [digV_snoc, ih (n / 10) (by omega)]
      have : (UInt8.ofNat (48 + n % 10)).toNat = 48 + n % 10 := by simp; omega
      rw [this]; omega
theorem r19Dig_dec {n : Nat} (h : n < 10 ^ 14) : r19Dig (decDigits n) = n := by
  unfold r19Dig
  rw [if_pos ⟨decDigits_dig n, decDigits_len (by decide) h⟩, digV_dec]
/-- The pair i, k of places parts s into a name of three numbers. -/
def hitAt (s : Bs) (i k : Nat) : Prop :=
  i < k ∧ s[i]? = some 47 ∧ s[k]? = some 46 ∧ 0 ≤ r19Dig (s.take i) ∧ 0 ≤ r19Dig ((s.take k).drop (i + 1)) ∧ 0 ≤ r19Dig (s.drop (k + 1)) ∧
  mdName (r19Dig (s.take i)) (r19Dig ((s.take k).drop (i + 1))).toNat (r19Dig (s.drop (k + 1))) = (s, 0)
theorem hit_parse {s : Bs} {i k : Nat} (h : hitAt s i k) : mdParse s = ((r19Dig (s.take i)).toNat, (r19Dig ((s.take k).drop (i + 1))).toNat, (r19Dig (s.drop (k + 1))).toNat, true) := by
  obtain ⟨_, _, _, h1, h2, h3, h4⟩ := h
  generalize r19Dig (s.take i) = a at *
  generalize r19Dig ((s.take k).drop (i + 1)) = b at *
  generalize r19Dig (s.drop (k + 1)) = c at *
  by_cases hok : mdOk a b.toNat c
  · obtain ⟨hk, he⟩ := mdName_ok hok
    rw [he] at h4
    rw [← (Prod.mk.inj h4).1]
    exact mdParse_name hk
  · unfold mdName at h4
    rw [if_neg hok] at h4
    exact absurd (Prod.mk.inj h4).2 (by decide)
theorem hit_of_is {s : Bs} (h : mdIs s = true) : ∃ i k, hitAt s i k := by
  obtain ⟨hok, he⟩ := mdIs_sound h
  generalize (mdRead s).1 = a at *
  generalize (mdRead s).2.1 = b at *
  generalize (mdRead s).2.2 = c at *
  have hok' := hok
  obtain ⟨o1, o2, o3, o4, o5, o6⟩ := hok'
  have e : s = decDigits a ++ 47 :: (decDigits b ++ 46 :: decDigits c) := by rw [he]; simp [nameB]
  have t1 : s.take (decDigits a).length = decDigits a := by rw [e]; simp
  have t2 : (s.take ((decDigits a).length + 1 + (decDigits b).length)).drop ((decDigits a).length + 1) = decDigits b := by
    rw [e, List.drop_take]
    simp
  have t3 : s.drop ((decDigits a).length + 1 + (decDigits b).length + 1) = decDigits c := by
    have e3 : s = (decDigits a ++ 47 :: (decDigits b ++ [46])) ++ decDigits c := by rw [e]; simp
    rw [e3]
    exact List.drop_left' (by simp; omega)
  refine ⟨(decDigits a).length, (decDigits a).length + 1 + (decDigits b).length, by omega, ?_, ?_, ?_⟩
  · rw [e]; simp
  · have e4 : s = (decDigits a ++ 47 :: decDigits b) ++ 46 :: decDigits c := by rw [e]; simp
    have e5 : (decDigits a).length + 1 + (decDigits b).length = (decDigits a ++ 47 :: decDigits b).length := by simp; omega
    rw [e5, e4]
    simp
  · rw [t1, t2, t3, r19Dig_dec (by omega), r19Dig_dec (by omega), r19Dig_dec (by omega)]
    refine ⟨by omega, by omega, by omega, ?_⟩
    unfold mdName
    rw [if_pos (by simpa using hok), he]
    simp
theorem no_hit {s : Bs} (h : ∀ i k, ¬ hitAt s i k) : mdParse s = (0, 0, 0, false) := by
  unfold mdParse
  rw [if_neg fun hi => by obtain ⟨i, k, hh⟩ := hit_of_is hi; exact h i k hh]
end Go.Proofs.YtcffickkipicbaaGreatDoor
