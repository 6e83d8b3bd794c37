/- The document's answer for layer 9: domains, plain local parts. Conditions: the lengths fit. -/
import Derived.Test.YtpclhkjladbooaaGreatDoorR09
set_option linter.unusedSimpArgs false
set_option linter.unusedVariables false
set_option linter.unnecessarySimpa false
namespace Go.Proofs.YtpclhkjladbooaaGreatDoor
open Go.RowKit

section
variable {w0 w : World} {F0 : List Nat} {L : List Res} {b : Nat} {v : Value}
/-- A label, as the document looks at it. -/
theorem label_parts (p : Bs) : labelB p = (decide (1 ≤ p.length) && decide (p.length ≤ 63) && !(p.head? == some 45) && !(p.getLast? == some 45) && p.all labB) := by
  unfold labelB allB
  cases p with
  | nil => rfl
  | cons c r =>
    rw [Bool.eq_iff_iff]
    simp
    constructor
    · rintro ⟨a, b, c, d⟩; exact ⟨⟨⟨a, c⟩, d⟩, b⟩
    · rintro ⟨⟨⟨a, c⟩, d⟩, b⟩; exact ⟨a, b, c, d⟩
theorem dash_u8 (c : UInt8) : ((c.toNat : Int) == 45) = (c == 45) := eq_u8b c 45
theorem domOk_parts {s : Bs} : domOk s = (decide (s.length ≤ 255) && (sepR 46 s).all labelB) := by
  unfold domOk partsB
  rw [dotsB_eq]
set_option maxRecDepth 100000 in
set_option maxHeartbeats 4000000 in
theorem r09DomainS (s : Bs) (S : Sp w0 F0 w L) (hn : s.length ≤ 1000000) : Calls Tryz.prog 31 #[.string ⟨s.toArray⟩] w fun e w2 => e = .returned (.tuple #[.string ⟨(domV s).1.toArray⟩, .int .i64 (domV s).2]) ∧ Sp w0 F0 w2 L := by
  have HSP := Lib.hid (r09SplitS s S hn)
  have HSL : Hid (∀ p ∈ sepR 46 s, p.length ≤ s.length) := sepR_len 46 s
  have HSC := Lib.hid (sep_count 46 s)
  have HDO := Lib.hid (domOk_parts (s := s))
  have hn' : (s.length : Int) ≤ 1000000 := by omega
  clear S
  go_enter Tryz.func31, Tryz.ntmps31
  go_wp2_with fail
  refine HSP.out.mono ?_
  rintro e w1 ⟨v, rfl, S⟩
  have HS1 := Lib.hid S
  have HT1 := Lib.hid S.tx
  clear S HSP
  generalize sepR 46 s = l at *
  obtain ⟨a, cap, rfl⟩ := HT1.out.form
  have hln : (l.length : Int) ≤ 1000001 := by have := HSC.out; omega
  go_wp2_with fail
  go_loopw [5] (fun i wr => ∃ k : Nat, i = .int .i64 k ∧ k ≤ l.length ∧ (l.take k).all labelB = true ∧ w1 = wr) (fun i _ => l.length - (intOf i).toNat)
  case atStart => exact ⟨0, rfl, by omega, rfl, rfl⟩
  case round =>
    obtain ⟨k, rfl, hk, hall, rfl⟩ := hrel
    have HALL := Lib.hid hall
    clear hall
    by_cases hlt : k < l.length
    · have hlt' : (k : Int) < l.length := by omega
      obtain ⟨b, off, rfl, ck⟩ := HT1.out.at hlt
      have HPL := Lib.hid (HSL.out _ (List.getElem_mem hlt))
      have HST : Hid (l.take (k + 1) = l.take k ++ [l[k]]) := List.take_succ_eq_append_getElem hlt
      have HBAD : Hid (labelB l[k] = false → domV s = ([], 2)) := fun h => by
        have : l.all labelB = false := by
          rw [← Bool.not_eq_true, List.all_eq_true]
          intro h2
          have := h2 l[k] (List.getElem_mem hlt)
          rw [h] at this
          cases this
        unfold domV
        rw [HDO.out, this, Bool.and_false]
        rfl
      generalize l[k] = p at *
      have hpn : (p.length : Int) ≤ 1000000 := by have := HPL.out; omega
      have HLP := Lib.hid (label_parts p)
      by_cases h0 : p.length = 0
      · have h0' : (p.length : Int) < 1 := by omega
        have HV := Lib.hid (HBAD.out (by rw [HLP.out, decide_eq_false (by omega)]; rfl))
        clear h0
        go_wp2
        go_ret2
        rw [HV.out]
        exact ⟨rfl, HS1.out.drop⟩
      have h1' : (1 : Int) ≤ p.length := by omega
      by_cases h63 : 63 < p.length
      · have h63' : (63 : Int) < p.length := by omega
        have HV := Lib.hid (HBAD.out (by rw [HLP.out, decide_eq_false (by omega : ¬ p.length ≤ 63)]; simp))
        clear h0 h63
        go_wp2
        go_ret2
        rw [HV.out]
        exact ⟨rfl, HS1.out.drop⟩
      have h63' : (p.length : Int) ≤ 63 := by omega
      have hix0 := fun w => idx_at p 0 (by omega) 0 rfl w
      have hixl := fun w => idx_at p (p.length - 1) (by omega) ((p.length : Int) - 1) (by omega) w
      have HH : Hid (p.head? = some p[0]) := by unfold Hid; rw [List.head?_eq_getElem?, List.getElem?_eq_getElem]
      have HG : Hid (p.getLast? = some (p[p.length - 1]'(by omega))) := by unfold Hid; rw [List.getLast?_eq_getElem?, List.getElem?_eq_getElem]
      have HE0 := Lib.hid (dash_u8 p[0])
      have HEL := Lib.hid (dash_u8 (p[p.length - 1]'(by omega)))
      generalize p[0] = c0 at *
      generalize p[p.length - 1] = cl at *
      by_cases hc0 : c0 = 45
      · have hb0 : ((c0.toNat : Int) == 45) = true := by rw [HE0.out]; simpa using hc0
        have HV := Lib.hid (HBAD.out (by rw [HLP.out, HH.out, hc0]; simp))
        clear h0 h63 hc0
        go_wp2
        go_ret2
        rw [HV.out]
        exact ⟨rfl, HS1.out.drop⟩
      have hb0 : ((c0.toNat : Int) == 45) = false := by rw [HE0.out]; simpa using hc0
      by_cases hcl : cl = 45
      · have hbl : ((cl.toNat : Int) == 45) = true := by rw [HEL.out]; simpa using hcl
        have HV := Lib.hid (HBAD.out (by rw [HLP.out, HG.out, hcl]; simp))
        clear h0 h63 hc0 hcl
        go_wp2
        go_ret2
        rw [HV.out]
        exact ⟨rfl, HS1.out.drop⟩
      have hbl : ((cl.toNat : Int) == 45) = false := by rw [HEL.out]; simpa using hcl
      have HLP2 : Hid (labelB p = p.all labB) := by
        unfold Hid
        rw [HLP.out, HH.out, HG.out, decide_eq_true (by omega : 1 ≤ p.length), decide_eq_true (by omega : p.length ≤ 63)]
        simp [hc0, hcl]
      clear h0 h63 hc0 hcl HLP
      go_wp2_with fail
      clear hix0 hixl hb0 hbl
      go_loopw [7] (fun i wr => ∃ j : Nat, i = .int .i64 j ∧ j ≤ p.length ∧ (p.take j).all labB = true ∧ w1 = wr) (fun i _ => p.length - (intOf i).toNat)
      case atStart => exact ⟨0, rfl, by omega, rfl, rfl⟩
      case round =>
        obtain ⟨j, rfl, hj, hallp, rfl⟩ := hrel
        have HALP := Lib.hid hallp
        clear hallp
        by_cases hjl : j < p.length
        · have hjl' : (j : Int) < p.length := by omega
          have hix := fun w => idx_at p j hjl (j : Int) rfl w
          have HSJ := Lib.hid (list_snoc p j hjl)
          have HNO : Hid (labB p[j] = false → labelB p = false) := fun h => by
            rw [HLP2.out, ← Bool.not_eq_true, List.all_eq_true]
            intro h2
            have := h2 p[j] (List.getElem_mem hjl)
            rw [h] at this
            cases this
          generalize p[j] = c at *
          have HED := Lib.hid (dash_u8 c)
          cases hc : letB c with
          | true =>
            have HC : Hid (labB c = true) := by unfold Hid labB; rw [hc]; rfl
            have HLT := Lib.hid hc
            clear hc
            go_wp2_with fail
            refine (r09Letter_any c _).mono ?_
            rw [HLT.out]
            rintro e wq ⟨rfl, rfl⟩
            go_wp2
            go_roundw
            case rel => exact ⟨j + 1, by go_num, by omega, by rw [HSJ.out, List.all_append, HALP.out]; simp [HC.out], by trivial⟩
            case measure => simp [intOf]; omega
          | false =>
            have HLT := Lib.hid hc
            by_cases hd : c = 45
            · have hbd : ((c.toNat : Int) != 45) = false := by
                have := HED.out
                rw [bne, this, hd]; rfl
              have HC : Hid (labB c = true) := by unfold Hid labB; rw [hd]; rfl
              clear hc hd
              go_wp2_with fail
              refine (r09Letter_any c _).mono ?_
              rw [HLT.out]
              rintro e wq ⟨rfl, rfl⟩
              go_wp2
              go_roundw
              case rel => exact ⟨j + 1, by go_num, by omega, by rw [HSJ.out, List.all_append, HALP.out]; simp [HC.out], by trivial⟩
              case measure => simp [intOf]; omega
            · have hbd : ((c.toNat : Int) != 45) = true := by
                have := HED.out
                rw [bne, this]; simpa using hd
              have HV := Lib.hid (HBAD.out (HNO.out (by unfold labB; rw [hc]; simpa using hd)))
              clear hc hd
              go_wp2_with fail
              refine (r09Letter_any c _).mono ?_
              rw [HLT.out]
              rintro e wq ⟨rfl, rfl⟩
              go_wp2
              go_ret2
              rw [HV.out]
              exact ⟨rfl, HS1.out.drop⟩
        · obtain rfl : j = p.length := by omega
          rw [List.take_of_length_le (Nat.le_refl _), ← HLP2.out] at HALP
          go_wp2
          go_roundw
          case rel => exact ⟨k + 1, by go_num, by omega, by rw [HST.out, List.all_append, HALL.out]; simp [HALP.out], by trivial⟩
          case measure => simp [intOf]; omega
    · obtain rfl : k = l.length := by omega
      rw [List.take_of_length_le (Nat.le_refl _)] at HALL
      by_cases h255 : 255 < s.length
      · have hb : (255 : Int) < s.length := by omega
        have HV : Hid (domV s = ([], 2)) := by unfold Hid domV; rw [HDO.out, decide_eq_false (by omega)]; rfl
        clear h255
        go_wp2
        go_ret2
        rw [HV.out]
        exact ⟨rfl, HS1.out.drop⟩
      · have hb : (s.length : Int) ≤ 255 := by omega
        have HV : Hid (domV s = (smallB s, 0)) := by unfold Hid domV; rw [HDO.out, decide_eq_true (by omega), HALL.out]; rfl
        clear h255
        go_wp2_with fail
        refine (r09SmallS s HS1.out (by omega)).mono ?_
        rintro e w2 ⟨rfl, S⟩
        have HS2 := Lib.hid S
        clear S
        go_wp2
        go_ret2
        rw [HV.out]
        exact ⟨rfl, HS2.out.drop⟩
theorem plain_parts {s : Bs} : plainB s = (localB s && (sepR 46 s).all (allB atomB)) := by
  unfold plainB partsB
  rw [dotsB_eq]
set_option maxRecDepth 100000 in
set_option maxHeartbeats 4000000 in
theorem r09PlainS (s : Bs) (S : Sp w0 F0 w L) (hn : s.length ≤ 1000000) : Calls Tryz.prog 68 #[.string ⟨s.toArray⟩] w fun e w2 => e = .returned (.bool (plainB s)) ∧ Sp w0 F0 w2 L := by
  have HSP := Lib.hid (r09SplitS s S hn)
  have HSL : Hid (∀ p ∈ sepR 46 s, p.length ≤ s.length) := sepR_len 46 s
  have HSC := Lib.hid (sep_count 46 s)
  have HDO := Lib.hid (plain_parts (s := s))
  have hn' : (s.length : Int) ≤ 1000000 := by omega
  clear S
  go_enter Tryz.func68, Tryz.ntmps68
  go_wp2_with fail
  refine HSP.out.mono ?_
  rintro e w1 ⟨v, rfl, S⟩
  have HS1 := Lib.hid S
  have HT1 := Lib.hid S.tx
  clear S HSP
  generalize sepR 46 s = l at *
  obtain ⟨a, cap, rfl⟩ := HT1.out.form
  have hln : (l.length : Int) ≤ 1000001 := by have := HSC.out; omega
  go_wp2_with fail
  go_loopw [4] (fun i wr => ∃ k : Nat, i = .int .i64 k ∧ k ≤ l.length ∧ (l.take k).all (allB atomB) = true ∧ w1 = wr) (fun i _ => l.length - (intOf i).toNat)
  case atStart => exact ⟨0, rfl, by omega, rfl, rfl⟩
  case round =>
    obtain ⟨k, rfl, hk, hall, rfl⟩ := hrel
    have HALL := Lib.hid hall
    clear hall
    by_cases hlt : k < l.length
    · have hlt' : (k : Int) < l.length := by omega
      obtain ⟨b, off, rfl, ck⟩ := HT1.out.at hlt
      have HPL := Lib.hid (HSL.out _ (List.getElem_mem hlt))
      have HST : Hid (l.take (k + 1) = l.take k ++ [l[k]]) := List.take_succ_eq_append_getElem hlt
      have HBAD : Hid (allB atomB l[k] = false → plainB s = false) := fun h => by
        have : l.all (allB atomB) = false := by
          rw [← Bool.not_eq_true, List.all_eq_true]
          intro h2
          have := h2 l[k] (List.getElem_mem hlt)
          rw [h] at this
          cases this
        rw [HDO.out, this, Bool.and_false]
      generalize l[k] = p at *
      have hpn : (p.length : Int) ≤ 1000000 := by have := HPL.out; omega
      by_cases h0 : p.length = 0
      · have h0' : ((p.length : Int) == 0) = true := by simp [h0]
        have HV := Lib.hid (HBAD.out (by rw [List.eq_nil_of_length_eq_zero h0]; rfl))
        clear h0
        go_wp2
        go_ret
        rw [HV.out]
        exact ⟨rfl, HS1.out.drop⟩
      have h1' : ((p.length : Int) == 0) = false := by rw [beq_eq_false_iff_ne]; omega
      have HAB : Hid (allB atomB p = p.all atomB) := by
        unfold Hid allB
        cases p with
        | nil => exact absurd rfl h0
        | cons c r => simp
      clear h0
      go_wp2_with fail
      go_loopw [5] (fun i wr => ∃ j : Nat, i = .int .i64 j ∧ j ≤ p.length ∧ (p.take j).all atomB = true ∧ w1 = wr) (fun i _ => p.length - (intOf i).toNat)
      case atStart => exact ⟨0, rfl, by omega, rfl, rfl⟩
      case round =>
        obtain ⟨j, rfl, hj, hallp, rfl⟩ := hrel
        have HALP := Lib.hid hallp
        clear hallp
        by_cases hjl : j < p.length
        · have hjl' : (j : Int) < p.length := by omega
          have hix := fun w => idx_at p j hjl (j : Int) rfl w
          have HSJ := Lib.hid (list_snoc p j hjl)
          have HNO : Hid (atomB p[j] = false → allB atomB p = false) := fun h => by
            rw [HAB.out, ← Bool.not_eq_true, List.all_eq_true]
            intro h2
            have := h2 p[j] (List.getElem_mem hjl)
            rw [h] at this
            cases this
          generalize p[j] = c at *
          cases hc : letB c with
          | true =>
            have HC : Hid (atomB c = true) := by unfold Hid atomB; rw [hc]; rfl
            have HLT := Lib.hid hc
            clear hc
            go_wp2_with fail
            refine (r09Letter_any c _).mono ?_
            rw [HLT.out]
            rintro e wq ⟨rfl, rfl⟩
            go_wp2
            go_roundw
            case rel => exact ⟨j + 1, by go_num, by omega, by rw [HSJ.out, List.all_append, HALP.out]; simp [HC.out], by trivial⟩
            case measure => simp [intOf]; omega
          | false =>
            have HLT := Lib.hid hc
            cases hd : adSigns.contains c with
            | true =>
              have HC : Hid (atomB c = true) := by unfold Hid atomB; rw [hd]; simp
              have HD := Lib.hid hd
              clear hc hd
              go_wp2_with fail
              refine (r09Letter_any c _).mono ?_
              rw [HLT.out]
              rintro e wq ⟨rfl, rfl⟩
              go_wp2_with fail
              refine (r09Sign_any c _).mono ?_
              rw [HD.out]
              rintro e wq ⟨rfl, rfl⟩
              go_wp2
              go_roundw
              case rel => exact ⟨j + 1, by go_num, by omega, by rw [HSJ.out, List.all_append, HALP.out]; simp [HC.out], by trivial⟩
              case measure => simp [intOf]; omega
            | false =>
              have HD := Lib.hid hd
              have HV := Lib.hid (HBAD.out (HNO.out (by unfold atomB; rw [hc, hd]; rfl)))
              clear hc hd
              go_wp2_with fail
              refine (r09Letter_any c _).mono ?_
              rw [HLT.out]
              rintro e wq ⟨rfl, rfl⟩
              go_wp2_with fail
              refine (r09Sign_any c _).mono ?_
              rw [HD.out]
              rintro e wq ⟨rfl, rfl⟩
              go_wp2
              go_ret
              rw [HV.out]
              exact ⟨rfl, HS1.out.drop⟩
        · obtain rfl : j = p.length := by omega
          rw [List.take_of_length_le (Nat.le_refl _), ← HAB.out] at HALP
          go_wp2
          go_roundw
          case rel => exact ⟨k + 1, by go_num, by omega, by rw [HST.out, List.all_append, HALL.out]; simp [HALP.out], by trivial⟩
          case measure => simp [intOf]; omega
    · obtain rfl : k = l.length := by omega
      rw [List.take_of_length_le (Nat.le_refl _)] at HALL
      have HV : Hid (plainB s = localB s) := by unfold Hid; rw [HDO.out, HALL.out, Bool.and_true]
      go_wp2_with fail
      refine (r09Local_any s _ (by omega)).mono ?_
      rintro e wq ⟨rfl, rfl⟩
      go_wp2
      go_ret
      rw [HV.out]
      exact ⟨rfl, HS1.out.drop⟩
end
end Go.Proofs.YtpclhkjladbooaaGreatDoor
