/- posthornref19.digits. Condition: the text's length fits. -/
import Derived.Test.YtcffickkipicbaaGreatDoorR19n
namespace Go.Proofs.YtcffickkipicbaaGreatDoor
open Go.RowKit Go.Sort Go.Maps

def digV (s : Bs) : Nat := s.foldl (fun a c => a * 10 + (c.toNat - 48)) 0
def r19Dig (s : Bs) : Int := if s.all digB = true ∧ s.length ≤ 14 then (digV s : Int) else -1
theorem digV_snoc (s : Bs) (c : UInt8) : digV (s ++ [c]) = digV s * 10 + (c.toNat - 48) := by simp [digV]
theorem digB_iff (c : UInt8) : digB c = true ↔ 48 ≤ c.toNat ∧ c.toNat ≤ 57 := by simp [digB]
theorem digV_lt : ∀ (n : Nat) (s : Bs), s.length = n → s.all digB = true → digV s < 10 ^ n
  | 0, s, h, _ => by rw [List.eq_nil_of_length_eq_zero h]; decide
  | n + 1, s, h, ha => by
    rcases List.eq_nil_or_concat s with rfl | ⟨t, c, rfl⟩
    · simp at h
    · rw [List.concat_eq_append] at *
      rw [List.all_append, Bool.and_eq_true] at ha
      have h1 := digV_lt n t (by simpa using h) ha.1
      have h2 := (digB_iff c).1 (by simpa using ha.2)
      rw [digV_snoc, Nat.pow_succ]
      omega
theorem r19Dig_no {s : Bs} (h : s.all digB = false ∨ 14 < s.length) : r19Dig s = -1 := by
  unfold r19Dig
  rw [if_neg]
  rintro ⟨h1, h2⟩
  rcases h with h | h
  · rw [h1] at h; cases h
  · omega
set_option maxRecDepth 100000 in
set_option maxHeartbeats 2000000 in
theorem r19Dig_bytes (s : ByteArray) (w : World) (hs : s.size ≤ 1000000) :
    Calls Tryz.prog 47 #[.string s] w fun e w2 => e = .returned (.int .i64 (r19Dig s.data.toList)) ∧ w = w2 := by
  go_enter Tryz.func47, Tryz.ntmps47
  go_wp2
  go_loop [3, 4] (fun n i => ∃ k : Nat, k ≤ s.size ∧ k ≤ 14 ∧ i = .int .i64 k ∧ n = .int .i64 (digV (s.data.toList.take k)) ∧ (s.data.toList.take k).all digB = true) (fun _ i => s.size - (intOf i).toNat)
  case atStart => exact ⟨0, Nat.zero_le _, by decide, rfl, rfl, rfl⟩
  case round =>
    obtain ⟨k, hk, hk14, rfl, rfl, hall⟩ := hrel
    have hlen : s.data.toList.length = s.size := by simp
    by_cases hlt : k < s.size
    · have htk := take_snoc s k hlt
      by_cases hd : digB s[k] = true ∧ k ≤ 13
      · obtain ⟨hd1, hd2⟩ := (digB_iff _).1 hd.1
        have hv := digV_lt k _ (by rw [List.length_take]; omega) hall
        have hv14 : digV (s.data.toList.take k) < 10 ^ 13 := Nat.lt_of_lt_of_le hv (Nat.pow_le_pow_right (by decide) hd.2)
        have hvI : (digV (s.data.toList.take k) : Int) ≤ 10000000000000 := by omega
        have hv0 : (0 : Int) ≤ (digV (s.data.toList.take k) : Int) := by omega
        have HN : Hid ((digV (s.data.toList.take (k + 1)) : Int) = (digV (s.data.toList.take k) : Int) * 10 + ((s[k].toNat : Int) - 48) ∧ (s.data.toList.take (k + 1)).all digB = true) := by
          rw [htk]
          refine ⟨?_, by rw [List.all_append, hall]; simpa using hd.1⟩
          rw [digV_snoc]
          omega
        have hk13 : (k : Int) ≤ 13 := by omega
        have hd1' : (48 : Int) ≤ s[k].toNat := by omega
        have hd2' : (s[k].toNat : Int) ≤ 57 := by omega
        clear hv hv14 hall htk hd hlen hd1 hd2
        generalize digV (s.data.toList.take k) = v at *
        go_wp2
        refine ⟨⟨k + 1, by omega, by omega, by go_num, ?_, HN.out.2⟩, by simp [intOf]; omega⟩
        rw [HN.out.1]
      · have HNO : Hid (r19Dig s.data.toList = -1) := by
          refine r19Dig_no ?_
          by_cases h1 : digB s[k] = true
          · right; rw [hlen]; have : ¬ k ≤ 13 := fun h => hd ⟨h1, h⟩; omega
          · left
            rw [← Bool.not_eq_true, List.all_eq_true]
            exact fun h => h1 (h _ (by simp [ByteArray.getElem_eq_getElem_data]))
        have hor : (s[k].toNat : Int) < 48 ∨ (57 : Int) < s[k].toNat ∨ (13 : Int) < k := by
          by_cases h1 : 48 ≤ s[k].toNat ∧ s[k].toNat ≤ 57
          · have : ¬ k ≤ 13 := fun h => hd ⟨(digB_iff _).2 h1, h⟩
            omega
          · omega
        clear hall htk hd hlen
        go_wp2
        all_goals first
          | (go_ret; rw [HNO.out]; exact ⟨rfl, rfl⟩)
          | (exfalso; omega)
    · have HYES : Hid (r19Dig s.data.toList = (digV (s.data.toList.take k) : Int)) := by
        rw [List.take_of_length_le (by omega)] at hall ⊢
        unfold r19Dig
        rw [if_pos ⟨hall, by omega⟩]
        exact Eq.refl _
      clear hall hlen
      go_wp2
      go_ret
      rw [HYES.out]
      exact ⟨rfl, rfl⟩
end Go.Proofs.YtcffickkipicbaaGreatDoor
