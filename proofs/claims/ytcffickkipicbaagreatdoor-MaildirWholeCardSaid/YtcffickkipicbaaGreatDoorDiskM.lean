/- disk.May: which texts may be names. Condition: a text is no longer than an int tells. -/
import Derived.Test.YtcffickkipicbaaGreatDoorDiskA
import Derived.Test.YtcffickkipicbaaGreatDoorShelf
set_option linter.unusedSimpArgs false
set_option linter.unusedVariables false
set_option linter.unnecessarySimpa false
namespace Go.Proofs.YtcffickkipicbaaGreatDoor
open Go.RowKit Go.Maps

def okSign (c : UInt8) : Bool := c == 46 || c == 95 || c == 45 || c == 47
def okChar (c : UInt8) : Bool := (97 ≤ c && c ≤ 122) || (48 ≤ c && c ≤ 57) || okSign c
def may (n : Bs) : Bool := n.all okChar && !n.isEmpty && decide (n.length ≤ 80)

theorem indexSigns_fin : ∀ n : Fin 256, decide (0 ≤ Lib.indexByte [46, 95, 45, 47] (UInt8.ofNat n.val)) = okSign (UInt8.ofNat n.val) := by decide +kernel
theorem indexSigns (c : UInt8) : decide (0 ≤ Lib.indexByte [46, 95, 45, 47] c) = okSign c := by
  have := indexSigns_fin ⟨c.toNat, c.toNat_lt⟩
  simpa using this
theorem idx_any (c : UInt8) (w : World) : Calls Tryz.prog 87 #[.string ⟨#[46, 95, 45, 47]⟩, .int .u8 (c.toNat : Int)] w fun e w2 => ∃ r, e = .returned (.int .i64 r) ∧ w = w2 ∧ decide (0 ≤ r) = okSign c := by
  refine (Tryz.strings_IndexByte ⟨#[46, 95, 45, 47]⟩ (c.toNat : Int) w).mono fun e w2 h => ⟨_, h.1, h.2.symm, ?_⟩
  have : ((c.toNat : Int).toNat).toUInt8 = c := by simp
  rw [this]
  exact indexSigns c
theorem okChar_low {c : UInt8} (h1 : (97 : Int) ≤ c.toNat) (h2 : ¬ (122 : Int) < c.toNat) : okChar c = true := by
  simp only [okChar, UInt8.le_iff_toNat_le, Bool.or_eq_true, Bool.and_eq_true, decide_eq_true_eq]
  exact .inl (.inl ⟨by simpa using by omega, by simpa using by omega⟩)
theorem okChar_num {c : UInt8} (h1 : (48 : Int) ≤ c.toNat) (h2 : ¬ (57 : Int) < c.toNat) : okChar c = true := by
  simp only [okChar, UInt8.le_iff_toNat_le, Bool.or_eq_true, Bool.and_eq_true, decide_eq_true_eq]
  exact .inl (.inr ⟨by simpa using by omega, by simpa using by omega⟩)
theorem okChar_else {c : UInt8} (h1 : ¬ ((97 : Int) ≤ c.toNat ∧ (c.toNat : Int) ≤ 122)) (h2 : ¬ ((48 : Int) ≤ c.toNat ∧ (c.toNat : Int) ≤ 57)) : okChar c = okSign c := by
  have e1 : (decide (97 ≤ c) && decide (c ≤ 122)) = false := by
    rw [Bool.eq_false_iff]; intro h; simp only [UInt8.le_iff_toNat_le, Bool.and_eq_true, decide_eq_true_eq] at h; simp at h; omega
  have e2 : (decide (48 ≤ c) && decide (c ≤ 57)) = false := by
    rw [Bool.eq_false_iff]; intro h; simp only [UInt8.le_iff_toNat_le, Bool.and_eq_true, decide_eq_true_eq] at h; simp at h; omega
  simp [okChar, e1, e2]
theorem take_snoc (s : ByteArray) (k : Nat) (h : k < s.size) : s.data.toList.take (k + 1) = s.data.toList.take k ++ [s[k]] := by
  rw [List.take_succ_eq_append_getElem (by simpa using h)]; rfl
theorem may_no {s : ByteArray} {k : Nat} (h : k < s.size) (hc : okChar s[k] = false) : may s.data.toList = false := by
  have : s.data.toList.all okChar = false := by
    rw [List.all_eq_false]
    exact ⟨s[k], by rw [show s[k] = s.data.toList[k]'(by simpa using h) from rfl]; exact List.getElem_mem _, by simp [hc]⟩
  simp [may, this]

set_option maxRecDepth 100000 in
set_option maxHeartbeats 1000000 in
theorem may_bytes (s : ByteArray) (w : World) (hs : s.size ≤ maxLen) :
    Calls Tryz.prog 56 #[.string s] w fun e w2 => e = .returned (.bool (may s.data.toList)) ∧ w = w2 := by
  unfold maxLen at hs
  go_enter Tryz.func56, Tryz.ntmps56
  go_wp2
  go_loop [7] (fun i => ∃ k : Nat, k ≤ s.size ∧ i = .int .i64 k ∧ (s.data.toList.take k).all okChar = true) (fun i => s.size - (intOf i).toNat)
  case atStart => exact ⟨0, Nat.zero_le _, rfl, rfl⟩
  case round =>
    obtain ⟨k, hk, rfl, hall⟩ := hrel
    have HALL := Lib.hid hall
    clear hall
    by_cases hlt : k < s.size
    · have next : Hid (okChar s[k] = true → (s.data.toList.take (k + 1)).all okChar = true) := fun h => by rw [take_snoc s k hlt, List.all_append, HALL.out]; simp [h]
      have stop : Hid (okChar s[k] = false → may s.data.toList = false) := may_no hlt
      go_wp2_with (go_at_call 87; refine (idx_any _ _).mono ?_; rintro e w2 ⟨r, rfl, rfl, hr⟩; have HR := Lib.hid hr; clear hr)
      all_goals first
        | (refine ⟨⟨k + 1, by omega, by go_num, next.out ?_⟩, by simp [intOf]; omega⟩
           first
             | exact okChar_low ‹_› ‹_›
             | exact okChar_num ‹_› ‹_›
             | (rw [okChar_else (by omega) (by omega), ← HR.out]
                simp only [Bool.not_eq_false', decide_eq_true_eq] at *
                omega))
        | (go_ret
           refine ⟨ret_bool (stop.out ?_).symm, rfl⟩
           rw [okChar_else (by omega) (by omega), ← HR.out]
           simp only [Bool.not_eq_true', decide_eq_false_iff_not] at *
           omega)
    · have hall : s.data.toList.all okChar = true := by
        have := HALL.out
        rwa [List.take_of_length_le (by simp; omega)] at this
      have HA : Hid (may s.data.toList = (!s.toList.isEmpty && decide ((s.size : Int) ≤ 80))) := by
        rw [ByteArray.toList_eq]
        simp only [may, hall, Bool.true_and]
        congr 1
        rw [decide_eq_decide]
        have : s.data.toList.length = s.size := by simp
        omega
      clear hall
      go_wp2
      all_goals go_ret
      · refine ⟨ret_bool ?_, rfl⟩
        rw [HA.out]
        simp only [*]
        rfl
      · exact ⟨ret_bool HA.out.symm, rfl⟩

theorem may_any (n : Bs) (w : World) (hn : n.length ≤ maxLen) : Calls Tryz.prog 56 #[.string ⟨n.toArray⟩] w fun e w2 => e = .returned (.bool (may n)) ∧ w = w2 := may_bytes ⟨n.toArray⟩ w hn
end Go.Proofs.YtcffickkipicbaaGreatDoor
