/- The document's answer for layer 9: letters, signs, small letters, local parts, parts of a text. Conditions: the lengths fit. The document's answer for layer 9: domains, plain local parts. Conditions: the lengths fit. The document's answer for layer 9: mailboxes, paths. Conditions: the lengths fit. -/
import Derived.Test.YtkenacggjffjnaaGreatDoorAdW
import Derived.Test.YtkenacggjffjnaaGreatDoorTx
/-! R09 -/
set_option linter.unusedSimpArgs false
set_option linter.unusedVariables false
set_option linter.unnecessarySimpa false
namespace Go.Proofs.YtkenacggjffjnaaGreatDoor
open Go.RowKit

set_option maxRecDepth 100000 in
theorem r09Letter_any (c : UInt8) (w : World) : Calls Tryz.prog 86 #[.int .u8 c.toNat] w fun e w2 => e = .returned (.bool (letB c)) ∧ w = w2 := by
  have hc := c.toNat_lt
  go_enter Tryz.func86, Tryz.ntmps86
  go_wp2
  all_goals (go_ret; refine ⟨ret_bool ?_, rfl⟩; unfold letB; rw [Bool.eq_iff_iff]; simp; omega)
theorem list_snoc (s : Bs) (k : Nat) (h : k < s.length) : s.take (k + 1) = s.take k ++ [s[k]] := List.take_succ_eq_append_getElem h
set_option maxRecDepth 100000 in
set_option maxHeartbeats 1000000 in
theorem r09Local_any (s : Bs) (w : World) (hs : s.length ≤ 1000000) : Calls Tryz.prog 112 #[.string ⟨s.toArray⟩] w fun e w2 => e = .returned (.bool (localB s)) ∧ w = w2 := by
  have hs' : (s.length : Int) ≤ 1000000 := by omega
  clear hs
  go_enter Tryz.func112, Tryz.ntmps112
  go_wp2_with fail
  go_loopw [3] (fun i wr => ∃ k : Nat, i = .int .i64 k ∧ k ≤ s.length ∧ (s.take k).all shownB = true ∧ w = wr) (fun i _ => s.length - (intOf i).toNat)
  case atStart => exact ⟨0, rfl, Nat.zero_le _, rfl, rfl⟩
  case round =>
    obtain ⟨k, rfl, hk, hall, rfl⟩ := hrel
    have HALL := Lib.hid hall
    clear hall
    by_cases hlt : k < s.length
    · have hlt' : (k : Int) < s.length := by omega
      have hix := fun w => idx_at s k hlt (k : Int) rfl w
      have HST := Lib.hid (list_snoc s k hlt)
      have HNO : Hid (shownB s[k] = false → localB s = false) := fun h => by
        unfold localB allB
        have : s.all shownB = false := by
          rw [← Bool.not_eq_true, List.all_eq_true]
          intro h2
          have := h2 s[k] (List.getElem_mem hlt)
          rw [h] at this
          cases this
        rw [this]
        simp
      generalize s[k] = c at *
      have hc9 := c.toNat_lt
      by_cases hc : 32 ≤ c.toNat ∧ c.toNat ≤ 126
      · have HC : Hid (shownB c = true) := by unfold Hid shownB; simp [hc]
        have h1 : (32 : Int) ≤ c.toNat := by omega
        have h2 : (c.toNat : Int) ≤ 126 := by omega
        clear hc
        go_wp2
        go_roundw
        case rel => exact ⟨k + 1, by go_num, by omega, by rw [HST.out, List.all_append, HALL.out]; simp [HC.out], by trivial⟩
        case measure => simp [intOf]; omega
      · have HV := Lib.hid (HNO.out (by unfold shownB; simp; omega))
        have hor : (c.toNat : Int) < 32 ∨ ((32 : Int) ≤ c.toNat ∧ (126 : Int) < c.toNat) := by omega
        clear hc
        rcases hor with h1 | ⟨h1, h2⟩
        · go_wp2
          go_ret
          rw [HV.out]
          exact ⟨rfl, rfl⟩
        · go_wp2
          go_ret
          rw [HV.out]
          exact ⟨rfl, rfl⟩
    · obtain rfl : k = s.length := by omega
      rw [List.take_of_length_le (Nat.le_refl _)] at HALL
      have HV : Hid (localB s = (decide ((1 : Int) ≤ s.length) && decide ((s.length : Int) ≤ 64))) := by
        unfold Hid localB allB
        rw [HALL.out, Bool.true_and, Bool.and_comm]
        cases s with
        | nil => rfl
        | cons c r =>
          rw [Bool.eq_iff_iff]
          simp
          omega
      go_wp2
      all_goals
        go_ret
        rw [HV.out]
        refine ⟨ret_bool ?_, rfl⟩
        rw [Bool.eq_iff_iff]
        simp
        omega
section
variable {w0 w : World} {F0 : List Nat} {L : List Res} {b : Nat} {v : Value}
theorem Sp.bytMade (S : Sp w0 F0 w L) : Sp w0 F0 (w.alloc (.cells #[] 5)) (bytW (.slice (some ⟨w.heap.size, 0, none⟩) 0 0) [] :: L) :=
  S.gain (G := [w.heap.size]) ((Ext.refl [] w).alloc _) ⟨rfl, rfl, .inr ⟨w.heap.size, 0, #[], rfl, Nat.zero_le _, (MapKept.heap_alloc w _).1, Nat.le_refl _, Nat.zero_le _, rfl, rfl⟩⟩ (by simp)
theorem smallB_take {s : Bs} {k : Nat} (h : k < s.length) : smallB (s.take (k + 1)) = smallB (s.take k) ++ [lowB s[k]] := by
  unfold smallB
  rw [List.take_succ_eq_append_getElem h, List.map_append]
  rfl
set_option maxRecDepth 100000 in
set_option maxHeartbeats 1000000 in
theorem r09SmallS (s : Bs) (S : Sp w0 F0 w L) (hn : s.length ≤ 1000000) : Calls Tryz.prog 87 #[.string ⟨s.toArray⟩] w fun e w2 => e = .returned (.string ⟨(smallB s).toArray⟩) ∧ Sp w0 F0 w2 L := by
  have HS1 := Lib.hid S.bytMade
  have hn' : (s.length : Int) ≤ 1000000 := by omega
  clear S
  go_enter Tryz.func87, Tryz.ntmps87
  go_wp2_with fail
  generalize w.alloc (.cells #[] 5) = w1 at *
  generalize w.heap.size = g0 at *
  go_loopw [3, 4] (fun o i wr => ∃ k : Nat, k ≤ s.length ∧ i = .int .i64 k ∧ Sp w0 F0 wr (bytW o (smallB (s.take k)) :: L)) (fun _ i _ => s.length - (intOf i).toNat)
  case atStart => exact ⟨0, Nat.zero_le _, rfl, HS1.out⟩
  case round =>
    obtain ⟨k, hk, rfl, S2⟩ := hrel
    have HS2 := Lib.hid S2
    clear S2 HS1
    by_cases hlt : k < s.length
    · have hlt' : (k : Int) < s.length := by omega
      have hix := fun w => idx_at s k hlt (k : Int) rfl w
      have HST := Lib.hid (smallB_take hlt)
      have HLN : Hid ((smallB (s.take k)).length = k) := by unfold Hid; rw [smallB_len, List.length_take]; omega
      generalize s[k] = c at *
      generalize smallB (s.take k) = l at *
      have hc9 := c.toNat_lt
      by_cases hc : 65 ≤ c.toNat ∧ c.toNat ≤ 90
      · have h1 : (65 : Int) ≤ c.toNat := by omega
        have h2 : (c.toNat : Int) ≤ 90 := by omega
        have hv : (c.toNat : Int) + 32 = ((lowB c).toNat : Int) := by
          have h := low_val c hc.1 hc.2
          rw [bv_eq] at h
          have := (Value.int.inj h).2
          omega
        obtain ⟨gg, cap, w4, hrun, S4⟩ := Sp.appendByteW 44 (lowB c) (by have := HLN.out; omega) (HS2.out.box #[bv (lowB c)] 5)
        rw [HLN.out] at hrun S4
        have HRUN := Lib.hid hrun
        have HS4 := Lib.hid S4
        rw [bv_eq, ← hv] at HRUN
        clear S4 hrun hc hv
        go_wp2_with (at_builtin; refine wpList_append_run_g (by rfl) (by rfl) (by rfl) (by rfl) HRUN.out ?_)
        go_roundw
        case rel => exact ⟨k + 1, by omega, by go_num, by rw [HST.out]; exact HS4.out⟩
        case measure => simp [intOf]; omega
      · have hv : lowB c = c := by unfold lowB; rw [if_neg hc]
        have hor : (c.toNat : Int) < 65 ∨ ((65 : Int) ≤ c.toNat ∧ (90 : Int) < c.toNat) := by omega
        rw [hv] at HST
        obtain ⟨gg, cap, w4, hrun, S4⟩ := Sp.appendByteW 44 c (by have := HLN.out; omega) (HS2.out.box #[bv c] 5)
        rw [HLN.out] at hrun S4
        have HRUN := Lib.hid hrun
        have HS4 := Lib.hid S4
        rw [bv_eq] at HRUN
        clear S4 hrun hc hv
        rcases hor with h1 | ⟨h1, h2⟩
        all_goals
          go_wp2_with (at_builtin; refine wpList_append_run_g (by rfl) (by rfl) (by rfl) (by rfl) HRUN.out ?_)
          go_roundw
          case rel => exact ⟨k + 1, by omega, by go_num, by rw [HST.out]; exact HS4.out⟩
          case measure => simp [intOf]; omega
    · obtain rfl : k = s.length := by omega
      rw [List.take_of_length_le (Nat.le_refl _)] at HS2
      have hcv := HS2.out.bytesStrW
      go_wp2
      go_ret
      exact ⟨rfl, HS2.out.drop⟩
/-! ### parts -/
theorem sepR_snoc (d : UInt8) : ∀ (s : Bs) (c : UInt8), sepR d (s ++ [c]) = if c = d then sepR d s ++ [[]] else (sepR d s).dropLast ++ [((sepR d s).getLast?.getD []) ++ [c]]
  | [], c => by
    show sepR d [c] = _
    unfold sepR
    by_cases h : c = d
    · rw [if_pos h, if_pos h]; rfl
    · rw [if_neg h, if_neg h]; rfl
  | x :: s, c => by
    rw [List.cons_append]
    have ih := sepR_snoc d s c
    have hne := sepR_ne d s
    unfold sepR
    by_cases hx : x = d
    · rw [if_pos hx, if_pos hx, ih]
      by_cases h : c = d
      · rw [if_pos h, if_pos h]; rfl
      · rw [if_neg h, if_neg h]
        cases hq : sepR d s with
        | nil => exact absurd hq hne
        | cons a b =>
          rw [List.getLast?_cons_cons]
          rfl
    · rw [if_neg hx, if_neg hx, ih]
      by_cases h : c = d
      · rw [if_pos h, if_pos h]
        cases hq : sepR d s with
        | nil => exact absurd hq hne
        | cons a b => rfl
      · rw [if_neg h, if_neg h]
        cases hq : sepR d s with
        | nil => exact absurd hq hne
        | cons a b =>
          cases b with
          | nil => rfl
          | cons e f => rfl
/-- What was parted so far: the parts that are over, and the one that isn't. -/
theorem sep_hit {s : Bs} {k m : Nat} {o : List Bs} (h : k < s.length) (hm : m ≤ k) (hc : s[k] = 46) (hs : sepR 46 (s.take k) = o ++ [(s.take k).drop m]) : sepR 46 (s.take (k + 1)) = (o ++ [(s.take k).drop m]) ++ [(s.take (k + 1)).drop (k + 1)] := by
  rw [list_snoc s k h, sepR_snoc, if_pos hc, hs]
  congr 2
  rw [List.drop_eq_nil_of_le]
  rw [List.length_append, List.length_take, List.length_singleton]
  omega
theorem sep_miss {s : Bs} {k m : Nat} {o : List Bs} (h : k < s.length) (hm : m ≤ k) (hc : s[k] ≠ 46) (hs : sepR 46 (s.take k) = o ++ [(s.take k).drop m]) : sepR 46 (s.take (k + 1)) = o ++ [(s.take (k + 1)).drop m] := by
  rw [list_snoc s k h, sepR_snoc, if_neg hc, hs, List.dropLast_concat, List.getLast?_concat, Option.getD_some, List.drop_append_of_le_length]
  rw [List.length_take]; omega
theorem cut_part (s : Bs) (m k : Nat) : (ByteArray.mk s.toArray).extract m k = ⟨((s.take k).drop m).toArray⟩ := by
  rw [Lib.extract_mk, List.drop_take]
theorem sep_count (d : UInt8) : ∀ s : Bs, (sepR d s).length ≤ s.length + 1
  | [] => by simp [sepR]
  | c :: r => by
    have ih := sep_count d r
    unfold sepR
    split
    · simp; omega
    · have h4 : (sepR d r).tail.length = (sepR d r).length - 1 := by simp
      simp only [List.length_cons, h4]
      omega
set_option maxRecDepth 100000 in
set_option maxHeartbeats 2000000 in
theorem r09SplitS (s : Bs) (S : Sp w0 F0 w L) (hn : s.length ≤ 1000000) : Calls Tryz.prog 85 #[.string ⟨s.toArray⟩] w fun e w2 => ∃ v, e = .returned v ∧ Sp w0 F0 w2 (textsR v (sepR 46 s) :: L) := by
  have HS1 := Lib.hid S.textsNone
  have hn' : (s.length : Int) ≤ 1000000 := by omega
  clear S
  go_enter Tryz.func85, Tryz.ntmps85
  go_wp2_with fail
  generalize w.alloc (.cells #[] 9) = w1 at *
  generalize w.heap.size = g0 at *
  go_loopw [3, 4, 5] (fun z f i wr => ∃ (k m : Nat) (o : List Bs), f = .int .i64 m ∧ i = .int .i64 k ∧ m ≤ k ∧ k ≤ s.length ∧ sepR 46 (s.take k) = o ++ [(s.take k).drop m] ∧ Sp w0 F0 wr (textsR z o :: L)) (fun _ _ i _ => s.length - (intOf i).toNat)
  case atStart => exact ⟨0, 0, [], rfl, rfl, by omega, by omega, rfl, HS1.out⟩
  case round =>
    obtain ⟨k, m, o, rfl, rfl, hmk, hk, hsep, S3⟩ := hrel
    have HSEP := Lib.hid hsep
    have HS3 := Lib.hid S3
    have HOL : Hid (o.length ≤ 1000001) := by
      have h1 := sep_count 46 (s.take k)
      rw [hsep, List.length_append, List.length_take] at h1
      simp at h1
      unfold Hid
      omega
    clear hsep S3 HS1
    by_cases hlt : k < s.length
    · have hlt' : (k : Int) < s.length := by omega
      have hix := fun w => idx_at s k hlt (k : Int) rfl w
      have HHIT := Lib.hid (fun hc => sep_hit hlt hmk hc HSEP.out)
      have HMISS := Lib.hid (fun hc => sep_miss hlt hmk hc HSEP.out)
      have HEQ := Lib.hid (eq_u8b s[k] 46)
      generalize s[k] = c at *
      by_cases hc : c = 46
      · have HNX := Lib.hid (HHIT.out hc)
        have hb : ((c.toNat : Int) == 46) = true := by subst hc; rfl
        have hcut := cut_part s m k
        have hmk' : (m : Int) ≤ k := by omega
        generalize (s.take k).drop m = x at *
        obtain ⟨gg, cap, w4, hrun, S4⟩ := Sp.appendText 55 x (by have := HOL.out; omega) (HS3.out.box #[.string ⟨x.toArray⟩] 9)
        have HRUN := Lib.hid hrun
        have HS4 := Lib.hid S4
        clear S4 hrun hc
        go_wp2_with (at_builtin; refine wpList_append_run_g (by rfl) (by rfl) (by rfl) (by rfl) HRUN.out ?_)
        go_roundw
        case rel => exact ⟨k + 1, k + 1, _, by go_num, by go_num, by omega, by omega, HNX.out, HS4.out⟩
        case measure => simp [intOf]; omega
      · have HNX := Lib.hid (HMISS.out hc)
        have hb : ((c.toNat : Int) == 46) = false := by
          rw [beq_eq_false_iff_ne]
          intro e
          exact hc (UInt8.toNat_inj.1 (by show c.toNat = 46; omega))
        clear hc
        go_wp2
        go_roundw
        case rel => exact ⟨k + 1, m, o, rfl, by go_num, by omega, by omega, HNX.out, HS3.out⟩
        case measure => simp [intOf]; omega
    · obtain rfl : k = s.length := by omega
      rw [List.take_of_length_le (Nat.le_refl _)] at HSEP
      have hcut := cut_part s m s.length
      rw [List.take_of_length_le (Nat.le_refl _)] at hcut
      have hmk' : (m : Int) ≤ s.length := by omega
      generalize s.drop m = x at *
      obtain ⟨gg, cap, w4, hrun, S4⟩ := Sp.appendText 55 x (by have := HOL.out; omega) (HS3.out.box #[.string ⟨x.toArray⟩] 9)
      have HRUN := Lib.hid hrun
      have HS4 := Lib.hid S4
      rw [← HSEP.out] at HS4
      have HLN : Hid (o.length + 1 = (sepR 46 s).length) := by unfold Hid; rw [HSEP.out]; simp
      clear S4 hrun
      go_wp2_with (at_builtin; refine wpList_append_run_g (by rfl) (by rfl) (by rfl) (by rfl) HRUN.out ?_)
      go_ret
      exact ⟨_, rfl, HS4.out⟩
end
end Go.Proofs.YtkenacggjffjnaaGreatDoor

/-! R09b -/
namespace Go.Proofs.YtkenacggjffjnaaGreatDoor
open Go.RowKit

section
variable {w0 w : World} {F0 : List Nat} {L : List Res} {b : Nat} {v : Value}
/-- A label, as the document looks at it. -/
theorem label_parts (p : Bs) : labelB p = (decide (1 ≤ p.length) && decide (p.length ≤ 63) && !(p.head? == some 45) && !(p.getLast? == some 45) && p.all labB) := by
  unfold labelB allB
  cases p with
  | nil => rfl
  | cons c r =>
    rw [Bool.eq_iff_iff]
    simp
    constructor
    · rintro ⟨a, b, c, d⟩; exact ⟨⟨⟨a, c⟩, d⟩, b⟩
    · rintro ⟨⟨⟨a, c⟩, d⟩, b⟩; exact ⟨a, b, c, d⟩
theorem dash_u8 (c : UInt8) : ((c.toNat : Int) == 45) = (c == 45) := eq_u8b c 45
theorem domOk_parts {s : Bs} : domOk s = (decide (s.length ≤ 255) && (sepR 46 s).all labelB) := by
  unfold domOk partsB
  rw [dotsB_eq]
set_option maxRecDepth 100000 in
set_option maxHeartbeats 4000000 in
theorem r09DomainS (s : Bs) (S : Sp w0 F0 w L) (hn : s.length ≤ 1000000) : Calls Tryz.prog 53 #[.string ⟨s.toArray⟩] w fun e w2 => e = .returned (.tuple #[.string ⟨(domV s).1.toArray⟩, .int .i64 (domV s).2]) ∧ Sp w0 F0 w2 L := by
  have HSP := Lib.hid (r09SplitS s S hn)
  have HSL : Hid (∀ p ∈ sepR 46 s, p.length ≤ s.length) := sepR_len 46 s
  have HSC := Lib.hid (sep_count 46 s)
  have HDO := Lib.hid (domOk_parts (s := s))
  have hn' : (s.length : Int) ≤ 1000000 := by omega
  clear S
  go_enter Tryz.func53, Tryz.ntmps53
  go_wp2_with fail
  refine HSP.out.mono ?_
  rintro e w1 ⟨v, rfl, S⟩
  have HS1 := Lib.hid S
  have HT1 := Lib.hid S.tx
  clear S HSP
  generalize sepR 46 s = l at *
  obtain ⟨a, cap, rfl⟩ := HT1.out.form
  have hln : (l.length : Int) ≤ 1000001 := by have := HSC.out; omega
  go_wp2_with fail
  go_loopw [5] (fun i wr => ∃ k : Nat, i = .int .i64 k ∧ k ≤ l.length ∧ (l.take k).all labelB = true ∧ w1 = wr) (fun i _ => l.length - (intOf i).toNat)
  case atStart => exact ⟨0, rfl, by omega, rfl, rfl⟩
  case round =>
    obtain ⟨k, rfl, hk, hall, rfl⟩ := hrel
    have HALL := Lib.hid hall
    clear hall
    by_cases hlt : k < l.length
    · have hlt' : (k : Int) < l.length := by omega
      obtain ⟨b, off, rfl, ck⟩ := HT1.out.at hlt
      have HPL := Lib.hid (HSL.out _ (List.getElem_mem hlt))
      have HST : Hid (l.take (k + 1) = l.take k ++ [l[k]]) := List.take_succ_eq_append_getElem hlt
      have HBAD : Hid (labelB l[k] = false → domV s = ([], 2)) := fun h => by
        have : l.all labelB = false := by
          rw [← Bool.not_eq_true, List.all_eq_true]
          intro h2
          have := h2 l[k] (List.getElem_mem hlt)
          rw [h] at this
          cases this
        unfold domV
        rw [HDO.out, this, Bool.and_false]
        rfl
      generalize l[k] = p at *
      have hpn : (p.length : Int) ≤ 1000000 := by have := HPL.out; omega
      have HLP := Lib.hid (label_parts p)
      by_cases h0 : p.length = 0
      · have h0' : (p.length : Int) < 1 := by omega
        have HV := Lib.hid (HBAD.out (by rw [HLP.out, decide_eq_false (by omega)]; rfl))
        clear h0
        go_wp2
        go_ret2
        rw [HV.out]
        exact ⟨rfl, HS1.out.drop⟩
      have h1' : (1 : Int) ≤ p.length := by omega
      by_cases h63 : 63 < p.length
      · have h63' : (63 : Int) < p.length := by omega
        have HV := Lib.hid (HBAD.out (by rw [HLP.out, decide_eq_false (by omega : ¬ p.length ≤ 63)]; simp))
        clear h0 h63
        go_wp2
        go_ret2
        rw [HV.out]
        exact ⟨rfl, HS1.out.drop⟩
      have h63' : (p.length : Int) ≤ 63 := by omega
      have hix0 := fun w => idx_at p 0 (by omega) 0 rfl w
      have hixl := fun w => idx_at p (p.length - 1) (by omega) ((p.length : Int) - 1) (by omega) w
      have HH : Hid (p.head? = some p[0]) := by unfold Hid; rw [List.head?_eq_getElem?, List.getElem?_eq_getElem]
      have HG : Hid (p.getLast? = some (p[p.length - 1]'(by omega))) := by unfold Hid; rw [List.getLast?_eq_getElem?, List.getElem?_eq_getElem]
      have HE0 := Lib.hid (dash_u8 p[0])
      have HEL := Lib.hid (dash_u8 (p[p.length - 1]'(by omega)))
      generalize p[0] = c0 at *
      generalize p[p.length - 1] = cl at *
      by_cases hc0 : c0 = 45
      · have hb0 : ((c0.toNat : Int) == 45) = true := by rw [HE0.out]; simpa using hc0
        have HV := Lib.hid (HBAD.out (by rw [HLP.out, HH.out, hc0]; simp))
        clear h0 h63 hc0
        go_wp2
        go_ret2
        rw [HV.out]
        exact ⟨rfl, HS1.out.drop⟩
      have hb0 : ((c0.toNat : Int) == 45) = false := by rw [HE0.out]; simpa using hc0
      by_cases hcl : cl = 45
      · have hbl : ((cl.toNat : Int) == 45) = true := by rw [HEL.out]; simpa using hcl
        have HV := Lib.hid (HBAD.out (by rw [HLP.out, HG.out, hcl]; simp))
        clear h0 h63 hc0 hcl
        go_wp2
        go_ret2
        rw [HV.out]
        exact ⟨rfl, HS1.out.drop⟩
      have hbl : ((cl.toNat : Int) == 45) = false := by rw [HEL.out]; simpa using hcl
      have HLP2 : Hid (labelB p = p.all labB) := by
        unfold Hid
        rw [HLP.out, HH.out, HG.out, decide_eq_true (by omega : 1 ≤ p.length), decide_eq_true (by omega : p.length ≤ 63)]
        simp [hc0, hcl]
      clear h0 h63 hc0 hcl HLP
      go_wp2_with fail
      clear hix0 hixl hb0 hbl
      go_loopw [7] (fun i wr => ∃ j : Nat, i = .int .i64 j ∧ j ≤ p.length ∧ (p.take j).all labB = true ∧ w1 = wr) (fun i _ => p.length - (intOf i).toNat)
      case atStart => exact ⟨0, rfl, by omega, rfl, rfl⟩
      case round =>
        obtain ⟨j, rfl, hj, hallp, rfl⟩ := hrel
        have HALP := Lib.hid hallp
        clear hallp
        by_cases hjl : j < p.length
        · have hjl' : (j : Int) < p.length := by omega
          have hix := fun w => idx_at p j hjl (j : Int) rfl w
          have HSJ := Lib.hid (list_snoc p j hjl)
          have HNO : Hid (labB p[j] = false → labelB p = false) := fun h => by
            rw [HLP2.out, ← Bool.not_eq_true, List.all_eq_true]
            intro h2
            have := h2 p[j] (List.getElem_mem hjl)
            rw [h] at this
            cases this
          generalize p[j] = c at *
          have HED := Lib.hid (dash_u8 c)
          cases hc : letB c with
          | true =>
            have HC : Hid (labB c = true) := by unfold Hid labB; rw [hc]; rfl
            have HLT := Lib.hid hc
            clear hc
            go_wp2_with fail
            refine (r09Letter_any c _).mono ?_
            rw [HLT.out]
            rintro e wq ⟨rfl, rfl⟩
            go_wp2
            go_roundw
            case rel => exact ⟨j + 1, by go_num, by omega, by rw [HSJ.out, List.all_append, HALP.out]; simp [HC.out], by trivial⟩
            case measure => simp [intOf]; omega
          | false =>
            have HLT := Lib.hid hc
            by_cases hd : c = 45
            · have hbd : ((c.toNat : Int) != 45) = false := by
                have := HED.out
                rw [bne, this, hd]; rfl
              have HC : Hid (labB c = true) := by unfold Hid labB; rw [hd]; rfl
              clear hc hd
              go_wp2_with fail
              refine (r09Letter_any c _).mono ?_
              rw [HLT.out]
              rintro e wq ⟨rfl, rfl⟩
              go_wp2
              go_roundw
              case rel => exact ⟨j + 1, by go_num, by omega, by rw [HSJ.out, List.all_append, HALP.out]; simp [HC.out], by trivial⟩
              case measure => simp [intOf]; omega
            · have hbd : ((c.toNat : Int) != 45) = true := by
                have := HED.out
                rw [bne, this]; simpa using hd
              have HV := Lib.hid (HBAD.out (HNO.out (by unfold labB; rw [hc]; simpa using hd)))
              clear hc hd
              go_wp2_with fail
              refine (r09Letter_any c _).mono ?_
              rw [HLT.out]
              rintro e wq ⟨rfl, rfl⟩
              go_wp2
              go_ret2
              rw [HV.out]
              exact ⟨rfl, HS1.out.drop⟩
        · obtain rfl : j = p.length := by omega
          rw [List.take_of_length_le (Nat.le_refl _), ← HLP2.out] at HALP
          go_wp2
          go_roundw
          case rel => exact ⟨k + 1, by go_num, by omega, by rw [HST.out, List.all_append, HALL.out]; simp [HALP.out], by trivial⟩
          case measure => simp [intOf]; omega
    · obtain rfl : k = l.length := by omega
      rw [List.take_of_length_le (Nat.le_refl _)] at HALL
      by_cases h255 : 255 < s.length
      · have hb : (255 : Int) < s.length := by omega
        have HV : Hid (domV s = ([], 2)) := by unfold Hid domV; rw [HDO.out, decide_eq_false (by omega)]; rfl
        clear h255
        go_wp2
        go_ret2
        rw [HV.out]
        exact ⟨rfl, HS1.out.drop⟩
      · have hb : (s.length : Int) ≤ 255 := by omega
        have HV : Hid (domV s = (smallB s, 0)) := by unfold Hid domV; rw [HDO.out, decide_eq_true (by omega), HALL.out]; rfl
        clear h255
        go_wp2_with fail
        refine (r09SmallS s HS1.out (by omega)).mono ?_
        rintro e w2 ⟨rfl, S⟩
        have HS2 := Lib.hid S
        clear S
        go_wp2
        go_ret2
        rw [HV.out]
        exact ⟨rfl, HS2.out.drop⟩
end
end Go.Proofs.YtkenacggjffjnaaGreatDoor

/-! R09c -/
namespace Go.Proofs.YtkenacggjffjnaaGreatDoor
open Go.RowKit

section
variable {w0 w : World} {F0 : List Nat} {L : List Res}
set_option maxRecDepth 100000 in
set_option maxHeartbeats 1000000 in
theorem r09MayS (b : Mb) (S : Sp w0 F0 w L) (h1 : b.1.length ≤ 1000000) (h2 : b.2.length ≤ 1000000) : Calls Tryz.prog 88 #[mbAgg b] w fun e w2 => e = .returned (.bool (mbMay b)) ∧ Sp w0 F0 w2 L := by
  obtain ⟨l, d⟩ := b
  have HS0 := Lib.hid (S.box (mbCells (l, d)) 126)
  have HLO := Lib.hid (fun w => r09Local_any l w h1)
  have H2 := Lib.hid h2
  have HM : Hid (mbMay (l, d) = (domOk d && smallB d == d && localB l)) := rfl
  unfold mbAgg
  unfold mbCells at HS0
  dsimp only at *
  clear S h1 h2
  go_enter Tryz.func88, Tryz.ntmps88
  go_wp2_with fail
  refine (r09DomainS d HS0.out H2.out).mono ?_
  generalize w.alloc (.cells #[.string ⟨l.toArray⟩, .string ⟨d.toArray⟩] 126) = w1 at *
  generalize w.heap.size = q at *
  cases hd : domOk d with
  | false =>
    have HV : Hid (mbMay (l, d) = false) := by unfold Hid; rw [HM.out, hd]; rfl
    have HDV : Hid (domV d = ([], 2)) := by unfold Hid domV; rw [hd]; rfl
    rw [HDV.out]
    clear hd
    rintro e w2 ⟨rfl, S2⟩
    have HS2 := Lib.hid S2
    clear S2
    go_wp2
    go_ret
    exact ⟨ret_bool HV.out.symm, HS2.out.drop⟩
  | true =>
    have HDV : Hid (domV d = (smallB d, 0)) := by unfold Hid domV; rw [hd]; rfl
    rw [HDV.out]
    rintro e w2 ⟨rfl, S2⟩
    have HS2 := Lib.hid S2
    have c2 := S2.cell
    clear S2
    by_cases hs : smallB d = d
    · have HV : Hid (mbMay (l, d) = localB l) := by unfold Hid; rw [HM.out, hd, hs]; simp
      have t1 : (smallB d == d) = true := by simpa using hs
      clear hd hs
      go_wp2_with fail
      refine (HLO.out _).mono ?_
      rintro e w3 ⟨rfl, rfl⟩
      clear c2
      go_wp2
      go_ret
      exact ⟨ret_bool HV.out.symm, HS2.out.drop⟩
    · have HV : Hid (mbMay (l, d) = false) := by unfold Hid; rw [HM.out, hd]; simp [hs]
      have t1 : (smallB d == d) = false := by simpa using hs
      clear hd hs
      go_wp2
      go_ret
      exact ⟨ret_bool HV.out.symm, HS2.out.drop⟩
end
end Go.Proofs.YtkenacggjffjnaaGreatDoor
