/- Slices of bytes that the program itself lays, and the reference's numbers in bytes (posthornref01). Conditions: the lengths fit. -/
import Derived.Test.YtpkolkgndhagiaaGreatSpD
import Derived.Test.YtpkolkgndhagiaaGreatRow0
import Derived.Test.YtpkolkgndhagiaaGreatOctH
import Derived.Test.YtpkolkgndhagiaaGreatLedP
set_option linter.unusedSimpArgs false
set_option linter.unusedVariables false
set_option linter.unnecessarySimpa false
namespace Go.Proofs.YtpkolkgndhagiaaGreat
open Go.RowKit Go.Maps Go.Sort

/-- A slice value that holds bytes, in a block of its own. -/
abbrev bytesR (v : Value) (l : Bs) : Res := rowR 5 1 v l.length (l.map bv)
theorem idx_str (s : Bs) (i : Nat) (h : i < s.length) (z : Int) (hz : z = i) (w : World) : (Instr.index 9 (.string ⟨s.toArray⟩) (.int .i64 z)).run Tryz.prog w = .ok (.int .u8 (s[i].toNat : Int)) w := by
  subst hz
  simp [go_sem]
  rw [dif_pos h]
  rfl
section
variable {w0 w : World} {F0 : List Nat} {L : List Res} {b : Nat} {v : Value}
theorem Sp.bytesMade (S : Sp w0 F0 w L) : Sp w0 F0 (w.alloc (.cells #[] 5)) (bytesR (.slice (some ⟨w.heap.size, 0, none⟩) 0 0) [] :: L) :=
  S.gain (G := [w.heap.size]) ((Ext.refl [] w).alloc _) ⟨rfl, rfl, .inr ⟨w.heap.size, 0, #[], rfl, Nat.zero_le _, heap_alloc_new _ _, Nat.le_refl _, Nat.zero_le _, rfl, rfl⟩⟩ (by simp)
theorem Sp.appendByte (ty : TypeId) {l : Bs} (x : UInt8) (hn : l.length < 10000000000) (S : Sp w0 F0 w (boxR b #[bv x] 5 :: bytesR v l :: L)) :
    ∃ g cap w2, (Builtin.append_ #[121, 121] ty #[v, .slice (some ⟨b, 0, none⟩) 1 1]).run Tryz.prog w = .ok (.slice (some ⟨g, 0, none⟩) (l.length + 1) cap) w2 ∧ Sp w0 F0 w2 (bytesR (.slice (some ⟨g, 0, none⟩) (l.length + 1) cap) (l ++ [x]) :: L) := by
  obtain ⟨g, cap, w2, h1, S2⟩ := Sp.appendOne 121 ty #[bv x] _ 1 infoByte rfl Tryz.underlying121 (by decide) (by decide) rfl (by simp [Value.oneCell']) hn S
  refine ⟨g, cap, w2, h1, ?_⟩
  have e1 : (l ++ [x]).map bv = l.map bv ++ [bv x] := by simp
  have e2 : (l ++ [x]).length = l.length + 1 := by simp
  unfold bytesR
  rw [e1, e2]
  exact S2.drop
theorem Sp.bytesStr {l : Bs} (S : Sp w0 F0 w (bytesR v l :: L)) : (convert 121 9 v).run Tryz.prog w = .ok (.string ⟨l.toArray⟩) w := by
  rcases S.rowForm with ⟨rfl, h0⟩ | ⟨g, cap, rfl⟩
  · have : l = [] := List.eq_nil_of_length_eq_zero h0
    subst this
    rw [run_convert_bytes_string w 121 9 5 none 0 0 Tryz.underlying121 Tryz.underlying5 Tryz.underlying9]
    rfl
  · exact run_convert_bytes_back w _ _ 5 ⟨g, 0, none⟩ cap l Tryz.underlying121 Tryz.underlying5 Tryz.underlying9 (fun j hj => S.row.cells (g := g) rfl j _ (by simp [List.getElem?_eq_getElem hj]))

set_option maxRecDepth 100000 in
set_option maxHeartbeats 1000000 in
theorem r01LowS (x n : Nat) (S : Sp w0 F0 w L) (hx : x < 18446744073709551616) (hn : n ≤ 64) : Calls Tryz.prog 92 #[.int .u64 x, .int .i64 n] w fun e w2 => e = .returned (.string ⟨(lowBs x n).toArray⟩) ∧ Sp w0 F0 w2 L := by
  have HS1 := Lib.hid S.bytesMade
  have hn' : (n : Int) ≤ 64 := by omega
  have HX := Lib.hid hx
  clear S hx
  go_enter Tryz.func92, Tryz.ntmps92
  go_wp2
  generalize w.alloc (.cells #[] 5) = w1 at *
  generalize w.heap.size = g0 at *
  go_loopw [0, 5, 6] (fun y o i wr => ∃ k m : Nat, k ≤ n ∧ y = .int .u64 m ∧ i = .int .i64 k ∧ m = x / 256 ^ k ∧ Sp w0 F0 wr (bytesR o (lowBs x k) :: L)) (fun _ _ i _ => n - (intOf i).toNat)
  case atStart => exact ⟨0, x, Nat.zero_le _, rfl, rfl, by simp, HS1.out⟩
  case round =>
    obtain ⟨k, m, hk, rfl, rfl, hm, S2⟩ := hrel
    have HM := Lib.hid hm
    have HS2 := Lib.hid S2
    clear hm S2 HS1
    by_cases hlt : k < n
    · have hlt' : (k : Int) < n := by omega
      have hlt2 : (k : Int) < 64 := by omega
      have hm18 : (m : Int) ≤ 18446744073709551615 := by
        have h1 : m ≤ x := by rw [HM.out]; exact Nat.div_le_self _ _
        have := HX.out
        omega
      have S3 := HS2.out.box #[.int .u8 ((m : Int) % 256)] 5
      rw [u8_wrap] at S3
      obtain ⟨gg, cap, w4, hrun, S4⟩ := Sp.appendByte 121 (UInt8.ofNat (m % 256)) (by rw [lowB_length]; omega) S3
      have e1 : lowBs x k ++ [UInt8.ofNat (m % 256)] = lowBs x (k + 1) := by rw [lowB_snoc, HM.out]
      rw [e1] at S4
      have HRUN := Lib.hid hrun
      rw [← u8_wrap] at HRUN
      have HS4 := Lib.hid S4
      clear S3 S4 e1 hrun
      go_wp2_with (at_builtin; refine wpList_append_run (by rfl) (by rfl) (by rfl) (by rfl) HRUN.out ?_)
      go_roundw
      case rel => exact ⟨k + 1, m / 256, by omega, by go_num, by go_num, by rw [HM.out, Nat.pow_succ, Nat.div_div_eq_div_mul], HS4.out⟩
      case measure => simp [intOf]; omega
    · obtain rfl : k = n := by omega
      have hcv := HS2.out.bytesStr
      go_wp2
      go_ret
      exact ⟨rfl, HS2.out.drop⟩
set_option maxRecDepth 100000 in
set_option maxHeartbeats 1000000 in
theorem r01TurnedS (s : Bs) (S : Sp w0 F0 w L) (hn : s.length ≤ 1000000000) : Calls Tryz.prog 91 #[.string ⟨s.toArray⟩] w fun e w2 => e = .returned (.string ⟨s.reverse.toArray⟩) ∧ Sp w0 F0 w2 L := by
  have HS1 := Lib.hid S.bytesMade
  have hn' : (s.length : Int) ≤ 1000000000 := by omega
  clear S
  go_enter Tryz.func91, Tryz.ntmps91
  go_wp2
  generalize w.alloc (.cells #[] 5) = w1 at *
  generalize w.heap.size = g0 at *
  go_loopw [3, 4] (fun o i wr => ∃ k : Nat, k ≤ s.length ∧ i = .int .i64 k ∧ Sp w0 F0 wr (bytesR o (s.reverse.take k) :: L)) (fun _ i _ => s.length - (intOf i).toNat)
  case atStart => exact ⟨0, Nat.zero_le _, rfl, HS1.out⟩
  case round =>
    obtain ⟨k, hk, rfl, S2⟩ := hrel
    have HS2 := Lib.hid S2
    clear S2 HS1
    by_cases hlt : k < s.length
    · have hlt' : (k : Int) < s.length := by omega
      have hix := idx_str s (s.length - 1 - k) (by omega) ((s.length : Int) - 1 - k) (by omega)
      have S3 := HS2.out.box #[.int .u8 (s[s.length - 1 - k].toNat : Int)] 5
      obtain ⟨gg, cap, w4, hrun, S4⟩ := Sp.appendByte 121 s[s.length - 1 - k] (by rw [List.length_take]; omega) S3
      have e1 : s.reverse.take k ++ [s[s.length - 1 - k]] = s.reverse.take (k + 1) := by
        rw [List.take_succ_eq_append_getElem (by simpa using hlt), List.getElem_reverse]
      rw [e1] at S4
      have HRUN := Lib.hid hrun
      have HS4 := Lib.hid S4
      rw [List.length_take, List.length_reverse, Nat.min_eq_left (Nat.le_of_lt hlt)] at HRUN HS4
      clear S3 S4 e1 hrun
      generalize s[s.length - 1 - k].toNat = c at *
      go_wp2_with (at_builtin; refine wpList_append_run (by rfl) (by rfl) (by rfl) (by rfl) HRUN.out ?_)
      go_roundw
      case rel => exact ⟨k + 1, by omega, by go_num, HS4.out⟩
      case measure => simp [intOf]; omega
    · obtain rfl : k = s.length := by omega
      have hcv := HS2.out.bytesStr
      rw [List.take_of_length_le (by simp)] at hcv
      go_wp2
      go_ret
      exact ⟨rfl, HS2.out.drop⟩
set_option maxRecDepth 100000 in
set_option maxHeartbeats 1000000 in
theorem r01HighS (x n : Nat) (S : Sp w0 F0 w L) (hx : x < 18446744073709551616) (hn : n ≤ 64) : Calls Tryz.prog 77 #[.int .u64 x, .int .i64 n] w fun e w2 => e = .returned (.string ⟨(highB x n).toArray⟩) ∧ Sp w0 F0 w2 L := by
  have HS0 := Lib.hid S
  have HE : Hid ((lowBs x n).reverse = highB x n) := by unfold Hid; rw [← high_rev, List.reverse_reverse]
  have HL : Hid ((lowBs x n).length ≤ 1000000000) := by unfold Hid; rw [lowB_length]; omega
  have HX := Lib.hid hx
  clear S hx
  go_enter Tryz.func77, Tryz.ntmps77
  go_wp2_with fail
  refine (r01LowS x n HS0.out HX.out hn).mono ?_
  rintro e w1 ⟨rfl, S⟩
  have HS1 := Lib.hid S
  clear S
  go_wp2_with fail
  refine (r01TurnedS (lowBs x n) HS1.out HL.out).mono ?_
  rw [HE.out]
  rintro e w2 ⟨rfl, S⟩
  have HS2 := Lib.hid S
  clear S HS1
  go_wp2
  go_ret
  exact ⟨rfl, HS2.out⟩
end
end Go.Proofs.YtpkolkgndhagiaaGreat
