/- The document's answer for layer 9: mailboxes, paths. Conditions: the lengths fit. -/
import Derived.Test.YtpclhkjladbooaaGreatDoorR09b
set_option linter.unusedSimpArgs false
set_option linter.unusedVariables false
set_option linter.unnecessarySimpa false
namespace Go.Proofs.YtpclhkjladbooaaGreatDoor
open Go.RowKit

section
variable {w0 w : World} {F0 : List Nat} {L : List Res}
set_option maxRecDepth 100000 in
set_option maxHeartbeats 1000000 in
theorem r09MayS (b : Mb) (S : Sp w0 F0 w L) (h1 : b.1.length ≤ 1000000) (h2 : b.2.length ≤ 1000000) : Calls Tryz.prog 67 #[mbAgg b] w fun e w2 => e = .returned (.bool (mbMay b)) ∧ Sp w0 F0 w2 L := by
  obtain ⟨l, d⟩ := b
  have HS0 := Lib.hid (S.box (mbCells (l, d)) 32)
  have HLO := Lib.hid (fun w => r09Local_any l w h1)
  have H2 := Lib.hid h2
  have HM : Hid (mbMay (l, d) = (domOk d && smallB d == d && localB l)) := rfl
  unfold mbAgg
  unfold mbCells at HS0
  dsimp only at *
  clear S h1 h2
  go_enter Tryz.func67, Tryz.ntmps67
  go_wp2_with fail
  refine (r09DomainS d HS0.out H2.out).mono ?_
  generalize w.alloc (.cells #[.string ⟨l.toArray⟩, .string ⟨d.toArray⟩] 32) = w1 at *
  generalize w.heap.size = q at *
  cases hd : domOk d with
  | false =>
    have HV : Hid (mbMay (l, d) = false) := by unfold Hid; rw [HM.out, hd]; rfl
    have HDV : Hid (domV d = ([], 2)) := by unfold Hid domV; rw [hd]; rfl
    rw [HDV.out]
    clear hd
    rintro e w2 ⟨rfl, S2⟩
    have HS2 := Lib.hid S2
    clear S2
    go_wp2
    go_ret
    exact ⟨ret_bool HV.out.symm, HS2.out.drop⟩
  | true =>
    have HDV : Hid (domV d = (smallB d, 0)) := by unfold Hid domV; rw [hd]; rfl
    rw [HDV.out]
    rintro e w2 ⟨rfl, S2⟩
    have HS2 := Lib.hid S2
    have c2 := S2.cell
    clear S2
    by_cases hs : smallB d = d
    · have HV : Hid (mbMay (l, d) = localB l) := by unfold Hid; rw [HM.out, hd, hs]; simp
      have t1 : (smallB d == d) = true := by simpa using hs
      clear hd hs
      go_wp2_with fail
      refine (HLO.out _).mono ?_
      rintro e w3 ⟨rfl, rfl⟩
      clear c2
      go_wp2
      go_ret
      exact ⟨ret_bool HV.out.symm, HS2.out.drop⟩
    · have HV : Hid (mbMay (l, d) = false) := by unfold Hid; rw [HM.out, hd]; simp [hs]
      have t1 : (smallB d == d) = false := by simpa using hs
      clear hd hs
      go_wp2
      go_ret
      exact ⟨ret_bool HV.out.symm, HS2.out.drop⟩
theorem cut_byte (s : Bs) (k : Nat) (h : k < s.length) : (ByteArray.mk s.toArray).extract k (k + 1) = ⟨[s[k]].toArray⟩ := by
  rw [cut_part, List.take_succ_eq_append_getElem h, List.drop_append_of_le_length (by rw [List.length_take]; omega), List.drop_eq_nil_of_le (by rw [List.length_take]; omega)]
  rfl
set_option maxRecDepth 100000 in
set_option maxHeartbeats 2000000 in
theorem r09WriteS (b : Mb) (S : Sp w0 F0 w L) (h1 : b.1.length ≤ 1000000) (h2 : b.2.length ≤ 1000000) : Calls Tryz.prog 51 #[mbAgg b] w fun e w2 => e = .returned (.tuple #[.string ⟨(mbWrite b).1.toArray⟩, .int .i64 (mbWrite b).2]) ∧ Sp w0 F0 w2 L := by
  obtain ⟨l, d⟩ := b
  have HS0 := Lib.hid (S.box (mbCells (l, d)) 32)
  have H1 := Lib.hid h1
  have H2 := Lib.hid h2
  have h1i : (l.length : Int) ≤ 1000000 := by dsimp only at h1; omega
  have HW : Hid (mbWrite (l, d) = if mbMay (l, d) then (mbText (l, d), 0) else ([], 2)) := rfl
  have HTX : Hid (mbText (l, d) = (if plainB l then l else quotedB l) ++ 64 :: d) := rfl
  unfold mbAgg
  unfold mbCells at HS0
  dsimp only at *
  clear S h1 h2
  go_enter Tryz.func51, Tryz.ntmps51
  go_wp2_with fail
  refine (r09MayS (l, d) HS0.out H1.out H2.out).mono ?_
  generalize w.alloc (.cells #[.string ⟨l.toArray⟩, .string ⟨d.toArray⟩] 32) = w1 at *
  generalize w.heap.size = q at *
  cases hm : mbMay (l, d) with
  | false =>
    have HV : Hid (mbWrite (l, d) = ([], 2)) := by unfold Hid; rw [HW.out, hm]; rfl
    clear hm
    rintro e w2 ⟨rfl, S2⟩
    have HS2 := Lib.hid S2
    clear S2
    go_wp2
    go_ret2
    rw [HV.out]
    exact ⟨rfl, HS2.out.drop⟩
  | true =>
    have HV : Hid (mbWrite (l, d) = (mbText (l, d), 0)) := by unfold Hid; rw [HW.out, hm]; rfl
    clear hm
    rintro e w2 ⟨rfl, S2⟩
    have HS2 := Lib.hid S2
    have c2 := S2.cell
    clear S2
    go_wp2_with fail
    refine (r09PlainS l HS2.out H1.out).mono ?_
    clear HS0
    cases hp : plainB l with
    | true =>
      have HT : Hid (mbText (l, d) = l ++ 64 :: d) := by unfold Hid; rw [HTX.out, hp]; rfl
      have a1 := add_str l [64] (by have := H1.out; simp [maxLen]; omega)
      have a2 := add_str (l ++ [64]) d (by have := H1.out; have := H2.out; simp [maxLen]; omega)
      clear hp c2
      rintro e w3 ⟨rfl, S3⟩
      have HS3 := Lib.hid S3
      have c3 := S3.cell
      clear S3
      go_wp2
      go_ret2
      rw [HV.out, HT.out]
      exact ⟨by simp, HS3.out.drop⟩
    | false =>
      have HT : Hid (mbText (l, d) = quotedB l ++ 64 :: d) := by unfold Hid; rw [HTX.out, hp]; rfl
      clear hp c2
      rintro e w3 ⟨rfl, S3⟩
      have HS3 := Lib.hid S3
      have c3 := S3.cell
      clear S3 HS2
      go_wp2_with fail
      go_loopw [4, 5] (fun o i wr => ∃ k : Nat, o = .string ⟨(quoTo l k).toArray⟩ ∧ i = .int .i64 k ∧ k ≤ l.length ∧ w3 = wr) (fun _ i _ => l.length - (intOf i).toNat)
      case atStart => exact ⟨0, rfl, rfl, Nat.zero_le _, rfl⟩
      case round =>
        obtain ⟨k, rfl, rfl, hk, rfl⟩ := hrel
        by_cases hlt : k < l.length
        · have hlt' : (k : Int) < l.length := by omega
          have hcut := cut_byte l k hlt
          have HN := Lib.hid (quoTo_next l k hlt)
          have HLEN := Lib.hid (quoTo_len l k)
          generalize l[k] = c at *
          generalize quoTo l k = x at *
          by_cases h34 : c = 34
          · subst h34
            have HQ : Hid (quoteC 34 = [92, 34]) := rfl
            have a1 := add_str x [92] (by have := HLEN.out; have := H1.out; simp [maxLen]; omega)
            have a2 := add_str (x ++ [92]) [34] (by have := HLEN.out; have := H1.out; simp [maxLen]; omega)
            go_wp2
            go_roundw
            case rel => exact ⟨k + 1, by rw [HN.out, HQ.out], by go_num, by omega, by trivial⟩
            case measure => simp [intOf]; omega
          by_cases h92 : c = 92
          · subst h92
            have HQ : Hid (quoteC 92 = [92, 92]) := rfl
            have a1 := add_str x [92] (by have := HLEN.out; have := H1.out; simp [maxLen]; omega)
            have a2 := add_str (x ++ [92]) [92] (by have := HLEN.out; have := H1.out; simp [maxLen]; omega)
            clear h34
            go_wp2
            go_roundw
            case rel => exact ⟨k + 1, by rw [HN.out, HQ.out], by go_num, by omega, by trivial⟩
            case measure => simp [intOf]; omega
          have HQ : Hid (quoteC c = [c]) := by unfold Hid quoteC; rw [if_neg (by simp [h34, h92])]
          have a1 := add_str x [c] (by have := HLEN.out; have := H1.out; simp [maxLen]; omega)
          have hb34 : (c == 34) = false := by simpa using h34
          have hb92 : (c == 92) = false := by simpa using h92
          clear h34 h92
          go_wp2
          go_roundw
          case rel => exact ⟨k + 1, by rw [HN.out, HQ.out], by go_num, by omega, by trivial⟩
          case measure => simp [intOf]; omega
        · obtain rfl : k = l.length := by omega
          have HLEN := Lib.hid (quoTo_len l l.length)
          have HQV : Hid (quoTo l l.length ++ [34] = quotedB l) := by unfold Hid quoTo quotedB; rw [List.take_length]; rfl
          have a1 := add_str (quoTo l l.length) [34, 64] (by have := HLEN.out; have := H1.out; simp [maxLen]; omega)
          have a2 := add_str (quoTo l l.length ++ [34, 64]) d (by have := HLEN.out; have := H1.out; have := H2.out; simp [maxLen]; omega)
          have HTT : Hid (quoTo l l.length ++ [34, 64] ++ d = mbText (l, d)) := by unfold Hid; rw [HT.out, ← HQV.out]; simp
          rw [HTT.out] at a2
          go_wp2
          go_ret2
          rw [HV.out]
          exact ⟨rfl, HS3.out.drop⟩
set_option maxRecDepth 100000 in
set_option maxHeartbeats 2000000 in
theorem r09PathS (b : Mb) (S : Sp w0 F0 w L) (h1 : b.1.length ≤ 1000000) (h2 : b.2.length ≤ 1000000) : Calls Tryz.prog 30 #[mbAgg b] w fun e w2 => e = .returned (.tuple #[.string ⟨(mbPath b).1.toArray⟩, .int .i64 (mbPath b).2]) ∧ Sp w0 F0 w2 L := by
  obtain ⟨l, d⟩ := b
  have HS0 := Lib.hid (S.box (mbCells (l, d)) 32)
  have HR := Lib.hid (r09WriteS (l, d) HS0.out h1 h2)
  have HTL := Lib.hid (mbText_len (l, d) h1 h2)
  have HP : Hid (mbPath (l, d) = if l == [] && d == [] then ([60, 62], 0) else if mbMay (l, d) then (60 :: (mbText (l, d) ++ [62]), 0) else ([], 2)) := rfl
  have HW : Hid (mbWrite (l, d) = if mbMay (l, d) then (mbText (l, d), 0) else ([], 2)) := rfl
  have hl1 : (l.length : Int) ≤ 1000000 := by dsimp only at h1; omega
  have hl2 : (d.length : Int) ≤ 1000000 := by dsimp only at h2; omega
  unfold mbAgg
  unfold mbAgg mbCells at HR
  unfold mbCells at HS0
  dsimp only at *
  clear S h1 h2
  by_cases hb : l = [] ∧ d = []
  · obtain ⟨rfl, rfl⟩ := hb
    have HV : Hid (mbPath ([], []) = ([60, 62], 0)) := rfl
    go_enter Tryz.func30, Tryz.ntmps30
    go_wp2
    go_ret2
    rw [HV.out]
    exact ⟨rfl, HS0.out.drop⟩
  have HPV : Hid (mbPath (l, d) = if mbMay (l, d) then (60 :: (mbText (l, d) ++ [62]), 0) else ([], 2)) := by
    unfold Hid
    rw [HP.out, if_neg (by simpa using hb)]
  have hsum : ((l.length : Int) + d.length == 0) = false := by
    rw [beq_eq_false_iff_ne]
    intro h
    exact hb ⟨List.eq_nil_of_length_eq_zero (by omega), List.eq_nil_of_length_eq_zero (by omega)⟩
  clear hb
  cases hm : mbMay (l, d) with
  | false =>
    have HV : Hid (mbPath (l, d) = ([], 2)) := by unfold Hid; rw [HPV.out, hm]; rfl
    have HV2 : Hid (mbWrite (l, d) = ([], 2)) := by unfold Hid; rw [HW.out, hm]; rfl
    clear hm
    rw [HV2.out] at HR
    dsimp only at HR
    go_enter Tryz.func30, Tryz.ntmps30
    go_wp2_with fail
    refine HR.out.mono ?_
    rintro e w2 ⟨rfl, S2⟩
    have HS2 := Lib.hid S2
    clear S2
    go_wp2
    go_ret2
    rw [HV.out]
    exact ⟨rfl, HS2.out.drop⟩
  | true =>
    have HV : Hid (mbPath (l, d) = (60 :: (mbText (l, d) ++ [62]), 0)) := by unfold Hid; rw [HPV.out, hm]; rfl
    have HV2 : Hid (mbWrite (l, d) = (mbText (l, d), 0)) := by unfold Hid; rw [HW.out, hm]; rfl
    clear hm
    rw [HV2.out] at HR
    dsimp only at HR
    generalize mbText (l, d) = t at *
    have a1 := add_str [60] t (by have := HTL.out; simp [maxLen]; omega)
    have a2 := add_str (60 :: t) [62] (by have := HTL.out; simp [maxLen]; omega)
    go_enter Tryz.func30, Tryz.ntmps30
    go_wp2_with fail
    refine HR.out.mono ?_
    rintro e w2 ⟨rfl, S2⟩
    have HS2 := Lib.hid S2
    clear S2
    go_wp2
    go_ret2
    rw [HV.out]
    exact ⟨by simp, HS2.out.drop⟩
end
end Go.Proofs.YtpclhkjladbooaaGreatDoor
