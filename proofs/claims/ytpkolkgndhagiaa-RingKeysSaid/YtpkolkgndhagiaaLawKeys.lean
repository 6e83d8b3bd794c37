/- RingKeys: its walk and its plain law: keys of unlike domains or epochs are unlike, and none is a beginning of another. -/
import Derived.Test.YtpkolkgndhagiaaAw14
import Derived.Deep.QuietTactic
import Derived.BigQuiet
namespace Go.Proofs.Ytpkolkgndhagiaa
open Go.RowKit Go.Maps

/-- A text's bytes tell where it ends. -/
theorem textB_cancel {a b x y : Bs} (ha : a.length < 18446744073709551616) (hb : b.length < 18446744073709551616) (h : textB a ++ x = textB b ++ y) : a = b ∧ x = y := by
  have h1 := text_back a (max a.length b.length) x ha (by omega)
  have h2 := text_back b (max a.length b.length) y hb (by omega)
  rw [h, h2] at h1
  simp only [Prod.mk.injEq, Rd.mk.injEq, and_true] at h1
  exact ⟨h1.1.symm, h1.2.symm⟩
theorem numB_cancel {n m : Nat} {x y : Bs} (ha : n < 18446744073709551616) (hb : m < 18446744073709551616) (h : numB n ++ x = numB m ++ y) : n = m ∧ x = y := by
  have h1 := num_back n (max n m) x ha (by omega)
  have h2 := num_back m (max n m) y hb (by omega)
  rw [h, h2] at h1
  simp only [Prod.mk.injEq, Rd.mk.injEq, and_true] at h1
  exact ⟨h1.1.symm, h1.2.symm⟩
theorem ringKey_cancel {a b : Bs} {n m : Nat} {x y : Bs} (ha : a.length < 18446744073709551616) (hb : b.length < 18446744073709551616) (hn : n < 18446744073709551616) (hm : m < 18446744073709551616) (h : ringKey a n ++ x = ringKey b m ++ y) : a = b ∧ n = m := by
  unfold ringKey at h
  rw [List.append_assoc, List.append_assoc] at h
  obtain ⟨h1, h2⟩ := textB_cancel ha hb h
  exact ⟨h1, (numB_cancel hn hm h2).1⟩
theorem ringKeys_law (a b : Bs) (n m : Nat) (ha : a.length < 18446744073709551616) (hb : b.length < 18446744073709551616) (hn : n < 18446744073709551616) (hm : m < 18446744073709551616) :
    ((ringKey a n).take (min (ringKey a n).length (ringKey b m).length) = (ringKey b m).take (min (ringKey a n).length (ringKey b m).length)) ↔ (a = b ∧ n = m) := by
  constructor
  · intro h
    rcases Nat.le_total (ringKey a n).length (ringKey b m).length with hl | hl
    · rw [Nat.min_eq_left hl, List.take_length] at h
      have e : ringKey a n ++ (ringKey b m).drop (ringKey a n).length = ringKey b m ++ [] := by
        have e := List.take_append_drop (ringKey a n).length (ringKey b m)
        rw [← h] at e
        rw [e, List.append_nil]
      exact ringKey_cancel ha hb hn hm e
    · rw [Nat.min_eq_right hl, List.take_length] at h
      have e : ringKey a n ++ [] = ringKey b m ++ (ringKey a n).drop (ringKey b m).length := by
        have e := List.take_append_drop (ringKey b m).length (ringKey a n)
        rw [h] at e
        rw [e, List.append_nil]
      exact ringKey_cancel ha hb hn hm e
  · rintro ⟨rfl, rfl⟩
    rfl
theorem ringKey_pos (a : Bs) (n : Nat) : 0 < (ringKey a n).length := by simp [ringKey, textB, numB]
theorem ringKey_length_le (a : Bs) (n : Nat) : (ringKey a n).length ≤ a.length + 18 := by
  unfold ringKey
  have := textB_length_le a
  have := numB_length_le n
  simp only [List.length_append]
  omega

theorem beq_bytes (x y : Bs) : ((ByteArray.mk x.toArray).toList == (ByteArray.mk y.toArray).toList) = decide (x = y) := by
  rw [ByteArray.toList_eq, ByteArray.toList_eq, Bool.eq_iff_iff]
  simp

set_option maxRecDepth 100000 in
set_option maxHeartbeats 2000000 in
theorem ringKeys_walk (a b : Bs) (n m : Int) (W : World) (ha : a.length ≤ maxLen) (hb : b.length ≤ maxLen) (hn : 0 ≤ n ∧ n ≤ 18446744073709551615) (hm : 0 ≤ m ∧ m ≤ 18446744073709551615) :
    Calls Try.prog 8 #[.string ⟨a.toArray⟩, .string ⟨b.toArray⟩, .int .u64 n, .int .u64 m] W fun e w2 => e = .returned (.bool true) ∧ Ext [] W w2 := by
  obtain ⟨n, rfl⟩ : ∃ k : Nat, n = k := ⟨n.toNat, by omega⟩
  obtain ⟨m, rfl⟩ : ∃ k : Nat, m = k := ⟨m.toNat, by omega⟩
  have HN : Hid (n < 18446744073709551616) := by unfold Hid; omega
  have HM : Hid (m < 18446744073709551616) := by unfold Hid; omega
  have HS0 := Lib.hid (Sp.nil W [])
  unfold maxLen at ha hb
  have ha' : (a.length : Int) ≤ 9223372036854775807 := by omega
  have hb' : (b.length : Int) ≤ 9223372036854775807 := by omega
  clear hn hm
  go_enter Try.func8, Try.ntmps8
  go_wp2_with fail
  refine (awake14S HS0.out).mono ?_
  rintro e w1 ⟨rfl, S⟩
  have HS1 := Lib.hid S
  clear S
  by_cases h1 : 1000 < a.length ∨ 1000 < b.length
  · rcases h1 with h1 | h1
    · have h1' : (1000 : Int) < a.length := by omega
      go_wp2
      go_ret
      exact ⟨rfl, HS1.out.ext⟩
    · have h1' : (1000 : Int) < b.length := by omega
      go_wp2
      all_goals (go_ret; exact ⟨rfl, HS1.out.ext⟩)
  · have h2 : (a.length : Int) ≤ 1000 := by omega
    have h3 : (b.length : Int) ≤ 1000 := by omega
    have HA : Hid (a.length ≤ 1000) := by unfold Hid; omega
    have HB : Hid (b.length ≤ 1000) := by unfold Hid; omega
    clear h1 ha hb ha' hb'
    go_wp2_with fail
    refine (ringKeyS a n HS1.out (by have := HA.out; omega) HN.out).mono ?_
    rintro e w2 ⟨rfl, S⟩
    have HS2 := Lib.hid S
    clear S HS1
    go_wp2_with fail
    refine (ringKeyS b m HS2.out (by have := HB.out; omega) HM.out).mono ?_
    rintro e w3 ⟨rfl, S⟩
    have HS3 := Lib.hid S
    clear S HS2
    have HL := Lib.hid (ringKeys_law a b n m (by have := HA.out; omega) (by have := HB.out; omega) HN.out HM.out)
    have l1 := ringKey_length_le a n
    have l2 := ringKey_length_le b m
    have p1 := ringKey_pos a n
    have p2 := ringKey_pos b m
    have l1' : ((ringKey a n).length : Int) ≤ 2000 := by have := HA.out; omega
    have l2' : ((ringKey b m).length : Int) ≤ 2000 := by have := HB.out; omega
    generalize ringKey a n = x at *
    generalize ringKey b m = y at *
    clear l1 l2
    go_wp2_with fail
    obtain ⟨k, hk⟩ : ∃ k, k = min x.length y.length := ⟨_, rfl⟩
    have ek : (min (x.length : Int) (y.length : Int)) = (k : Int) := by omega
    rw [← hk] at HL
    have k1 : k ≤ x.length := by omega
    have k2 : k ≤ y.length := by omega
    have k3 : 0 < k := by omega
    have k3' : decide (0 < k) = true := by simpa using k3
    have HC1 := Lib.hid (cut_head x k)
    have HC2 := Lib.hid (cut_head y k)
    rw [ek]
    clear ek hk p1 p2
    by_cases hab : a = b
    · have tab : (a == b) = true := by simpa using hab
      have HAB := Lib.hid hab
      clear hab
      go_quiet (fail)
      go_wp2
      go_ret
      refine ⟨ret_bool ?_, HS3.out.drewN _ |>.ext⟩
      rw [HC1.out, HC2.out, beq_bytes, Bool.eq_iff_iff]
      have hl := HL.out
      have hab := HAB.out
      simp only [hab] at hl
      simp only [hl]
      by_cases hnm : n = m <;> simp [hnm]
      omega
    · have tab : (a == b) = false := by simpa using hab
      have HAB := Lib.hid hab
      clear hab
      go_quiet (fail)
      go_wp2
      go_ret
      refine ⟨ret_bool ?_, HS3.out.drewN _ |>.ext⟩
      rw [HC1.out, HC2.out, beq_bytes, Bool.eq_iff_iff]
      have hl := HL.out
      have hab := HAB.out
      simp only [hab] at hl
      simp [hl]
end Go.Proofs.Ytpkolkgndhagiaa
