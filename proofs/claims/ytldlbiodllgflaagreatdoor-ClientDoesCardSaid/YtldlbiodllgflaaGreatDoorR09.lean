/- The document's answer for layer 9: letters, signs, small letters, local parts, parts of a text. Conditions: the lengths fit. The document's answer for layer 9: domains, plain local parts. Conditions: the lengths fit. The document's answer for layer 9: mailboxes, paths. Conditions: the lengths fit. -/
import Derived.Test.YtldlbiodllgflaaGreatDoorAdV
import Derived.Test.YtldlbiodllgflaaGreatDoorTx
/-! R09 -/
set_option linter.unusedSimpArgs false
set_option linter.unusedVariables false
set_option linter.unnecessarySimpa false
namespace Go.Proofs.YtldlbiodllgflaaGreatDoor
open Go.RowKit

set_option maxRecDepth 100000 in
theorem r09Letter_any (c : UInt8) (w : World) : Calls Tryz.prog 63 #[.int .u8 c.toNat] w fun e w2 => e = .returned (.bool (letB c)) ∧ w = w2 := by
  have hc := c.toNat_lt
  go_enter Tryz.func63, Tryz.ntmps63
  go_wp2
  all_goals (go_ret; refine ⟨ret_bool ?_, rfl⟩; unfold letB; rw [Bool.eq_iff_iff]; simp; omega)
theorem list_snoc (s : Bs) (k : Nat) (h : k < s.length) : s.take (k + 1) = s.take k ++ [s[k]] := List.take_succ_eq_append_getElem h
set_option maxRecDepth 100000 in
set_option maxHeartbeats 1000000 in
theorem r09Sign_any (c : UInt8) (w : World) : Calls Tryz.prog 143 #[.int .u8 c.toNat] w fun e w2 => e = .returned (.bool (adSigns.contains c)) ∧ w = w2 := by
  go_enter Tryz.func143, Tryz.ntmps143
  go_wp2_with fail
  go_loopw [4] (fun i wr => ∃ k : Nat, i = .int .i64 k ∧ k ≤ 19 ∧ (adSigns.take k).contains c = false ∧ w = wr) (fun i _ => 19 - (intOf i).toNat)
  case atStart => exact ⟨0, rfl, Nat.zero_le _, rfl, rfl⟩
  case round =>
    obtain ⟨k, rfl, hk, hno, rfl⟩ := hrel
    have HNO := Lib.hid hno
    clear hno
    have hls : adSigns.length = 19 := rfl
    by_cases hlt : k < 19
    · have hlt' : (k : Int) < 19 := by omega
      have hlk : k < adSigns.length := by omega
      have hix := fun w => (show (Instr.index 9 (.string { data := #[33, 35, 36, 37, 38, 39, 42, 43, 45, 47, 61, 63, 94, 95, 96, 123, 124, 125, 126] }) (.int .i64 (k : Int))).run Tryz.prog w = .ok (.int .u8 (adSigns[k].toNat : Int)) w from idx_at adSigns k hlk k rfl w)
      have HST := Lib.hid (list_snoc adSigns k hlk)
      have HEQ := Lib.hid (eq_u8b adSigns[k] c)
      have HIN : Hid (adSigns[k] = c → adSigns.contains c = true) := fun e => by rw [← e]; simp
      generalize adSigns[k] = d at *
      by_cases hd : d = c
      · have HV := Lib.hid (HIN.out hd)
        have hb : ((d.toNat : Int) == (c.toNat : Int)) = true := by rw [HEQ.out]; simpa using hd
        clear hd
        go_wp2
        go_ret
        rw [HV.out]
        exact ⟨rfl, rfl⟩
      · have hb : ((d.toNat : Int) == (c.toNat : Int)) = false := by rw [HEQ.out]; simpa using hd
        have HN2 : Hid (((adSigns.take k) ++ [d]).contains c = false) := by
          have := HNO.out
          unfold Hid
          simp only [List.contains_eq_mem, List.mem_append, List.mem_singleton, decide_eq_false_iff_not] at this ⊢
          rintro (h | h)
          · exact this h
          · exact hd h.symm
        clear hd
        go_wp2
        go_roundw
        case rel => exact ⟨k + 1, by go_num, by omega, by rw [HST.out]; exact HN2.out, by trivial⟩
        case measure => simp [intOf]; omega
    · obtain rfl : k = 19 := by omega
      rw [List.take_of_length_le (by rw [hls]; exact Nat.le_refl _)] at HNO
      go_wp2
      go_ret
      rw [HNO.out]
      exact ⟨rfl, rfl⟩
set_option maxRecDepth 100000 in
set_option maxHeartbeats 1000000 in
theorem r09Local_any (s : Bs) (w : World) (hs : s.length ≤ 1000000) : Calls Tryz.prog 65 #[.string ⟨s.toArray⟩] w fun e w2 => e = .returned (.bool (localB s)) ∧ w = w2 := by
  have hs' : (s.length : Int) ≤ 1000000 := by omega
  clear hs
  go_enter Tryz.func65, Tryz.ntmps65
  go_wp2_with fail
  go_loopw [3] (fun i wr => ∃ k : Nat, i = .int .i64 k ∧ k ≤ s.length ∧ (s.take k).all shownB = true ∧ w = wr) (fun i _ => s.length - (intOf i).toNat)
  case atStart => exact ⟨0, rfl, Nat.zero_le _, rfl, rfl⟩
  case round =>
    obtain ⟨k, rfl, hk, hall, rfl⟩ := hrel
    have HALL := Lib.hid hall
    clear hall
    by_cases hlt : k < s.length
    · have hlt' : (k : Int) < s.length := by omega
      have hix := fun w => idx_at s k hlt (k : Int) rfl w
      have HST := Lib.hid (list_snoc s k hlt)
      have HNO : Hid (shownB s[k] = false → localB s = false) := fun h => by
        unfold localB allB
        have : s.all shownB = false := by
          rw [← Bool.not_eq_true, List.all_eq_true]
          intro h2
          have := h2 s[k] (List.getElem_mem hlt)
          rw [h] at this
          cases this
        rw [this]
        simp
      generalize s[k] = c at *
      have hc9 := c.toNat_lt
      by_cases hc : 32 ≤ c.toNat ∧ c.toNat ≤ 126
      · have HC : Hid (shownB c = true) := by unfold Hid shownB; simp [hc]
        have h1 : (32 : Int) ≤ c.toNat := by omega
        have h2 : (c.toNat : Int) ≤ 126 := by omega
        clear hc
        go_wp2
        go_roundw
        case rel => exact ⟨k + 1, by go_num, by omega, by rw [HST.out, List.all_append, HALL.out]; simp [HC.out], by trivial⟩
        case measure => simp [intOf]; omega
      · have HV := Lib.hid (HNO.out (by unfold shownB; simp; omega))
        have hor : (c.toNat : Int) < 32 ∨ ((32 : Int) ≤ c.toNat ∧ (126 : Int) < c.toNat) := by omega
        clear hc
        rcases hor with h1 | ⟨h1, h2⟩
        · go_wp2
          go_ret
          rw [HV.out]
          exact ⟨rfl, rfl⟩
        · go_wp2
          go_ret
          rw [HV.out]
          exact ⟨rfl, rfl⟩
    · obtain rfl : k = s.length := by omega
      rw [List.take_of_length_le (Nat.le_refl _)] at HALL
      have HV : Hid (localB s = (decide ((1 : Int) ≤ s.length) && decide ((s.length : Int) ≤ 64))) := by
        unfold Hid localB allB
        rw [HALL.out, Bool.true_and, Bool.and_comm]
        cases s with
        | nil => rfl
        | cons c r =>
          rw [Bool.eq_iff_iff]
          simp
          omega
      go_wp2
      all_goals
        go_ret
        rw [HV.out]
        refine ⟨ret_bool ?_, rfl⟩
        rw [Bool.eq_iff_iff]
        simp
        omega
section
variable {w0 w : World} {F0 : List Nat} {L : List Res} {b : Nat} {v : Value}
theorem Sp.bytMade (S : Sp w0 F0 w L) : Sp w0 F0 (w.alloc (.cells #[] 5)) (bytW (.slice (some ⟨w.heap.size, 0, none⟩) 0 0) [] :: L) :=
  S.gain (G := [w.heap.size]) ((Ext.refl [] w).alloc _) ⟨rfl, rfl, .inr ⟨w.heap.size, 0, #[], rfl, Nat.zero_le _, (MapKept.heap_alloc w _).1, Nat.le_refl _, Nat.zero_le _, rfl, rfl⟩⟩ (by simp)
theorem smallB_take {s : Bs} {k : Nat} (h : k < s.length) : smallB (s.take (k + 1)) = smallB (s.take k) ++ [lowB s[k]] := by
  unfold smallB
  rw [List.take_succ_eq_append_getElem h, List.map_append]
  rfl
set_option maxRecDepth 100000 in
set_option maxHeartbeats 1000000 in
theorem r09SmallS (s : Bs) (S : Sp w0 F0 w L) (hn : s.length ≤ 1000000) : Calls Tryz.prog 64 #[.string ⟨s.toArray⟩] w fun e w2 => e = .returned (.string ⟨(smallB s).toArray⟩) ∧ Sp w0 F0 w2 L := by
  have HS1 := Lib.hid S.bytMade
  have hn' : (s.length : Int) ≤ 1000000 := by omega
  clear S
  go_enter Tryz.func64, Tryz.ntmps64
  go_wp2_with fail
  generalize w.alloc (.cells #[] 5) = w1 at *
  generalize w.heap.size = g0 at *
  go_loopw [3, 4] (fun o i wr => ∃ k : Nat, k ≤ s.length ∧ i = .int .i64 k ∧ Sp w0 F0 wr (bytW o (smallB (s.take k)) :: L)) (fun _ i _ => s.length - (intOf i).toNat)
  case atStart => exact ⟨0, Nat.zero_le _, rfl, HS1.out⟩
  case round =>
    obtain ⟨k, hk, rfl, S2⟩ := hrel
    have HS2 := Lib.hid S2
    clear S2 HS1
    by_cases hlt : k < s.length
    · have hlt' : (k : Int) < s.length := by omega
      have hix := fun w => idx_at s k hlt (k : Int) rfl w
      have HST := Lib.hid (smallB_take hlt)
      have HLN : Hid ((smallB (s.take k)).length = k) := by unfold Hid; rw [smallB_len, List.length_take]; omega
      generalize s[k] = c at *
      generalize smallB (s.take k) = l at *
      have hc9 := c.toNat_lt
      by_cases hc : 65 ≤ c.toNat ∧ c.toNat ≤ 90
      · have h1 : (65 : Int) ≤ c.toNat := by omega
        have h2 : (c.toNat : Int) ≤ 90 := by omega
        have hv : (c.toNat : Int) + 32 = ((lowB c).toNat : Int) := by
          have h := low_val c hc.1 hc.2
          rw [bv_eq] at h
          have := (Value.int.inj h).2
          omega
        obtain ⟨gg, cap, w4, hrun, S4⟩ := Sp.appendByteW 84 (lowB c) (by have := HLN.out; omega) (HS2.out.box #[bv (lowB c)] 5)
        rw [HLN.out] at hrun S4
        have HRUN := Lib.hid hrun
        have HS4 := Lib.hid S4
        rw [bv_eq, ← hv] at HRUN
        clear S4 hrun hc hv
        go_wp2_with (at_builtin; refine wpList_append_run_g (by rfl) (by rfl) (by rfl) (by rfl) HRUN.out ?_)
        go_roundw
        case rel => exact ⟨k + 1, by omega, by go_num, by rw [HST.out]; exact HS4.out⟩
        case measure => simp [intOf]; omega
      · have hv : lowB c = c := by unfold lowB; rw [if_neg hc]
        have hor : (c.toNat : Int) < 65 ∨ ((65 : Int) ≤ c.toNat ∧ (90 : Int) < c.toNat) := by omega
        rw [hv] at HST
        obtain ⟨gg, cap, w4, hrun, S4⟩ := Sp.appendByteW 84 c (by have := HLN.out; omega) (HS2.out.box #[bv c] 5)
        rw [HLN.out] at hrun S4
        have HRUN := Lib.hid hrun
        have HS4 := Lib.hid S4
        rw [bv_eq] at HRUN
        clear S4 hrun hc hv
        rcases hor with h1 | ⟨h1, h2⟩
        all_goals
          go_wp2_with (at_builtin; refine wpList_append_run_g (by rfl) (by rfl) (by rfl) (by rfl) HRUN.out ?_)
          go_roundw
          case rel => exact ⟨k + 1, by omega, by go_num, by rw [HST.out]; exact HS4.out⟩
          case measure => simp [intOf]; omega
    · obtain rfl : k = s.length := by omega
      rw [List.take_of_length_le (Nat.le_refl _)] at HS2
      have hcv := HS2.out.bytesStrW
      go_wp2
      go_ret
      exact ⟨rfl, HS2.out.drop⟩
/-! ### parts -/
theorem sepR_snoc (d : UInt8) : ∀ (s : Bs) (c : UInt8), sepR d (s ++ [c]) = if c = d then sepR d s ++ [[]] else (sepR d s).dropLast ++ [((sepR d s).getLast?.getD []) ++ [c]]
  | [], c => by
    show sepR d [c] = _
    unfold sepR
    by_cases h : c = d
    · rw [if_pos h, if_pos h]; rfl
    · rw [if_neg h, if_neg h]; rfl
  | x :: s, c => by
    rw [List.cons_append]
    have ih := sepR_snoc d s c
    have hne := sepR_ne d s
    unfold sepR
    by_cases hx : x = d
    · rw [if_pos hx, if_pos hx, ih]
      by_cases h : c = d
      · rw [if_pos h, if_pos h]; rfl
      · rw [if_neg h, if_neg h]
        cases hq : sepR d s with
        | nil => exact absurd hq hne
        | cons a b =>
          rw [List.getLast?_cons_cons]
          rfl
    · rw [if_neg hx, if_neg hx, ih]
      by_cases h : c = d
      · rw [if_pos h, if_pos h]
        cases hq : sepR d s with
        | nil => exact absurd hq hne
        | cons a b => rfl
      · rw [if_neg h, if_neg h]
        cases hq : sepR d s with
        | nil => exact absurd hq hne
        | cons a b =>
          cases b with
          | nil => rfl
          | cons e f => rfl
/-- What was parted so far: the parts that are over, and the one that isn't. -/
theorem sep_hit {s : Bs} {k m : Nat} {o : List Bs} (h : k < s.length) (hm : m ≤ k) (hc : s[k] = 46) (hs : sepR 46 (s.take k) = o ++ [(s.take k).drop m]) : sepR 46 (s.take (k + 1)) = (o ++ [(s.take k).drop m]) ++ [(s.take (k + 1)).drop (k + 1)] := by
  rw [list_snoc s k h, sepR_snoc, if_pos hc, hs]
  congr 2
  rw [List.drop_eq_nil_of_le]
  rw [List.length_append, List.length_take, List.length_singleton]
  omega
theorem sep_miss {s : Bs} {k m : Nat} {o : List Bs} (h : k < s.length) (hm : m ≤ k) (hc : s[k] ≠ 46) (hs : sepR 46 (s.take k) = o ++ [(s.take k).drop m]) : sepR 46 (s.take (k + 1)) = o ++ [(s.take (k + 1)).drop m] := by
  rw [list_snoc s k h, sepR_snoc, if_neg hc, hs, List.dropLast_concat, List.getLast?_concat, Option.getD_some, List.drop_append_of_le_length]
  rw [List.length_take]; omega
theorem cut_part (s : Bs) (m k : Nat) : (ByteArray.mk s.toArray).extract m k = ⟨((s.take k).drop m).toArray⟩ := by
  rw [Lib.extract_mk, List.drop_take]
theorem sep_count (d : UInt8) : ∀ s : Bs, (sepR d s).length ≤ s.length + 1
  | [] => by simp [sepR]
  | c :: r => by
    have ih := sep_count d r
    unfold sepR
    split
    · simp; omega
    · have h4 : (sepR d r).tail.length = (sepR d r).length - 1 := by simp
      simp only [List.length_cons, h4]
      omega
set_option maxRecDepth 100000 in
set_option maxHeartbeats 2000000 in
theorem r09SplitS (s : Bs) (S : Sp w0 F0 w L) (hn : s.length ≤ 1000000) : Calls Tryz.prog 62 #[.string ⟨s.toArray⟩] w fun e w2 => ∃ v, e = .returned v ∧ Sp w0 F0 w2 (textsR v (sepR 46 s) :: L) := by
  have HS1 := Lib.hid S.textsNone
  have hn' : (s.length : Int) ≤ 1000000 := by omega
  clear S
  go_enter Tryz.func62, Tryz.ntmps62
  go_wp2_with fail
  generalize w.alloc (.cells #[] 9) = w1 at *
  generalize w.heap.size = g0 at *
  go_loopw [3, 4, 5] (fun z f i wr => ∃ (k m : Nat) (o : List Bs), f = .int .i64 m ∧ i = .int .i64 k ∧ m ≤ k ∧ k ≤ s.length ∧ sepR 46 (s.take k) = o ++ [(s.take k).drop m] ∧ Sp w0 F0 wr (textsR z o :: L)) (fun _ _ i _ => s.length - (intOf i).toNat)
  case atStart => exact ⟨0, 0, [], rfl, rfl, by omega, by omega, rfl, HS1.out⟩
  case round =>
    obtain ⟨k, m, o, rfl, rfl, hmk, hk, hsep, S3⟩ := hrel
    have HSEP := Lib.hid hsep
    have HS3 := Lib.hid S3
    have HOL : Hid (o.length ≤ 1000001) := by
      have h1 := sep_count 46 (s.take k)
      rw [hsep, List.length_append, List.length_take] at h1
      simp at h1
      unfold Hid
      omega
    clear hsep S3 HS1
    by_cases hlt : k < s.length
    · have hlt' : (k : Int) < s.length := by omega
      have hix := fun w => idx_at s k hlt (k : Int) rfl w
      have HHIT := Lib.hid (fun hc => sep_hit hlt hmk hc HSEP.out)
      have HMISS := Lib.hid (fun hc => sep_miss hlt hmk hc HSEP.out)
      have HEQ := Lib.hid (eq_u8b s[k] 46)
      generalize s[k] = c at *
      by_cases hc : c = 46
      · have HNX := Lib.hid (HHIT.out hc)
        have hb : ((c.toNat : Int) == 46) = true := by subst hc; rfl
        have hcut := cut_part s m k
        have hmk' : (m : Int) ≤ k := by omega
        generalize (s.take k).drop m = x at *
        obtain ⟨gg, cap, w4, hrun, S4⟩ := Sp.appendText 49 x (by have := HOL.out; omega) (HS3.out.box #[.string ⟨x.toArray⟩] 9)
        have HRUN := Lib.hid hrun
        have HS4 := Lib.hid S4
        clear S4 hrun hc
        go_wp2_with (at_builtin; refine wpList_append_run_g (by rfl) (by rfl) (by rfl) (by rfl) HRUN.out ?_)
        go_roundw
        case rel => exact ⟨k + 1, k + 1, _, by go_num, by go_num, by omega, by omega, HNX.out, HS4.out⟩
        case measure => simp [intOf]; omega
      · have HNX := Lib.hid (HMISS.out hc)
        have hb : ((c.toNat : Int) == 46) = false := by
          rw [beq_eq_false_iff_ne]
          intro e
          exact hc (UInt8.toNat_inj.1 (by show c.toNat = 46; omega))
        clear hc
        go_wp2
        go_roundw
        case rel => exact ⟨k + 1, m, o, rfl, by go_num, by omega, by omega, HNX.out, HS3.out⟩
        case measure => simp [intOf]; omega
    · obtain rfl : k = s.length := by omega
      rw [List.take_of_length_le (Nat.le_refl _)] at HSEP
      have hcut := cut_part s m s.length
      rw [List.take_of_length_le (Nat.le_refl _)] at hcut
      have hmk' : (m : Int) ≤ s.length := by omega
      generalize s.drop m = x at *
      obtain ⟨gg, cap, w4, hrun, S4⟩ := Sp.appendText 49 x (by have := HOL.out; omega) (HS3.out.box #[.string ⟨x.toArray⟩] 9)
      have HRUN := Lib.hid hrun
      have HS4 := Lib.hid S4
      rw [← HSEP.out] at HS4
      have HLN : Hid (o.length + 1 = (sepR 46 s).length) := by unfold Hid; rw [HSEP.out]; simp
      clear S4 hrun
      go_wp2_with (at_builtin; refine wpList_append_run_g (by rfl) (by rfl) (by rfl) (by rfl) HRUN.out ?_)
      go_ret
      exact ⟨_, rfl, HS4.out⟩
end
end Go.Proofs.YtldlbiodllgflaaGreatDoor

/-! R09b -/
namespace Go.Proofs.YtldlbiodllgflaaGreatDoor
open Go.RowKit

section
variable {w0 w : World} {F0 : List Nat} {L : List Res} {b : Nat} {v : Value}
/-- A label, as the document looks at it. -/
theorem label_parts (p : Bs) : labelB p = (decide (1 ≤ p.length) && decide (p.length ≤ 63) && !(p.head? == some 45) && !(p.getLast? == some 45) && p.all labB) := by
  unfold labelB allB
  cases p with
  | nil => rfl
  | cons c r =>
    rw [Bool.eq_iff_iff]
    simp
    constructor
    · rintro ⟨a, b, c, d⟩; exact ⟨⟨⟨a, c⟩, d⟩, b⟩
    · rintro ⟨⟨⟨a, c⟩, d⟩, b⟩; exact ⟨a, b, c, d⟩
theorem dash_u8 (c : UInt8) : ((c.toNat : Int) == 45) = (c == 45) := eq_u8b c 45
theorem domOk_parts {s : Bs} : domOk s = (decide (s.length ≤ 255) && (sepR 46 s).all labelB) := by
  unfold domOk partsB
  rw [dotsB_eq]
set_option maxRecDepth 100000 in
set_option maxHeartbeats 4000000 in
theorem r09DomainS (s : Bs) (S : Sp w0 F0 w L) (hn : s.length ≤ 1000000) : Calls Tryz.prog 31 #[.string ⟨s.toArray⟩] w fun e w2 => e = .returned (.tuple #[.string ⟨(domV s).1.toArray⟩, .int .i64 (domV s).2]) ∧ Sp w0 F0 w2 L := by
  have HSP := Lib.hid (r09SplitS s S hn)
  have HSL : Hid (∀ p ∈ sepR 46 s, p.length ≤ s.length) := sepR_len 46 s
  have HSC := Lib.hid (sep_count 46 s)
  have HDO := Lib.hid (domOk_parts (s := s))
  have hn' : (s.length : Int) ≤ 1000000 := by omega
  clear S
  go_enter Tryz.func31, Tryz.ntmps31
  go_wp2_with fail
  refine HSP.out.mono ?_
  rintro e w1 ⟨v, rfl, S⟩
  have HS1 := Lib.hid S
  have HT1 := Lib.hid S.tx
  clear S HSP
  generalize sepR 46 s = l at *
  obtain ⟨a, cap, rfl⟩ := HT1.out.form
  have hln : (l.length : Int) ≤ 1000001 := by have := HSC.out; omega
  go_wp2_with fail
  go_loopw [5] (fun i wr => ∃ k : Nat, i = .int .i64 k ∧ k ≤ l.length ∧ (l.take k).all labelB = true ∧ w1 = wr) (fun i _ => l.length - (intOf i).toNat)
  case atStart => exact ⟨0, rfl, by omega, rfl, rfl⟩
  case round =>
    obtain ⟨k, rfl, hk, hall, rfl⟩ := hrel
    have HALL := Lib.hid hall
    clear hall
    by_cases hlt : k < l.length
    · have hlt' : (k : Int) < l.length := by omega
      obtain ⟨b, off, rfl, ck⟩ := HT1.out.at hlt
      have HPL := Lib.hid (HSL.out _ (List.getElem_mem hlt))
      have HST : Hid (l.take (k + 1) = l.take k ++ [l[k]]) := List.take_succ_eq_append_getElem hlt
      have HBAD : Hid (labelB l[k] = false → domV s = ([], 2)) := fun h => by
        have : l.all labelB = false := by
          rw [← Bool.not_eq_true, List.all_eq_true]
          intro h2
          have := h2 l[k] (List.getElem_mem hlt)
          rw [h] at this
          cases this
        unfold domV
        rw [HDO.out, this, Bool.and_false]
        rfl
      generalize l[k] = p at *
      have hpn : (p.length : Int) ≤ 1000000 := by have := HPL.out; omega
      have HLP := Lib.hid (label_parts p)
      by_cases h0 : p.length = 0
      · have h0' : (p.length : Int) < 1 := by omega
        have HV := Lib.hid (HBAD.out (by rw [HLP.out, decide_eq_false (by omega)]; rfl))
        clear h0
        go_wp2
        go_ret2
        rw [HV.out]
        exact ⟨rfl, HS1.out.drop⟩
      have h1' : (1 : Int) ≤ p.length := by omega
      by_cases h63 : 63 < p.length
      · have h63' : (63 : Int) < p.length := by omega
        have HV := Lib.hid (HBAD.out (by rw [HLP.out, decide_eq_false (by omega : ¬ p.length ≤ 63)]; simp))
        clear h0 h63
        go_wp2
        go_ret2
        rw [HV.out]
        exact ⟨rfl, HS1.out.drop⟩
      have h63' : (p.length : Int) ≤ 63 := by omega
      have hix0 := fun w => idx_at p 0 (by omega) 0 rfl w
      have hixl := fun w => idx_at p (p.length - 1) (by omega) ((p.length : Int) - 1) (by omega) w
      have HH : Hid (p.head? = some p[0]) := by unfold Hid; rw [List.head?_eq_getElem?, List.getElem?_eq_getElem]
      have HG : Hid (p.getLast? = some (p[p.length - 1]'(by omega))) := by unfold Hid; rw [List.getLast?_eq_getElem?, List.getElem?_eq_getElem]
      have HE0 := Lib.hid (dash_u8 p[0])
      have HEL := Lib.hid (dash_u8 (p[p.length - 1]'(by omega)))
      generalize p[0] = c0 at *
      generalize p[p.length - 1] = cl at *
      by_cases hc0 : c0 = 45
      · have hb0 : ((c0.toNat : Int) == 45) = true := by rw [HE0.out]; simpa using hc0
        have HV := Lib.hid (HBAD.out (by rw [HLP.out, HH.out, hc0]; simp))
        clear h0 h63 hc0
        go_wp2
        go_ret2
        rw [HV.out]
        exact ⟨rfl, HS1.out.drop⟩
      have hb0 : ((c0.toNat : Int) == 45) = false := by rw [HE0.out]; simpa using hc0
      by_cases hcl : cl = 45
      · have hbl : ((cl.toNat : Int) == 45) = true := by rw [HEL.out]; simpa using hcl
        have HV := Lib.hid (HBAD.out (by rw [HLP.out, HG.out, hcl]; simp))
        clear h0 h63 hc0 hcl
        go_wp2
        go_ret2
        rw [HV.out]
        exact ⟨rfl, HS1.out.drop⟩
      have hbl : ((cl.toNat : Int) == 45) = false := by rw [HEL.out]; simpa using hcl
      have HLP2 : Hid (labelB p = p.all labB) := by
        unfold Hid
        rw [HLP.out, HH.out, HG.out, decide_eq_true (by omega : 1 ≤ p.length), decide_eq_true (by omega : p.length ≤ 63)]
        simp [hc0, hcl]
      clear h0 h63 hc0 hcl HLP
      go_wp2_with fail
      clear hix0 hixl hb0 hbl
      go_loopw [7] (fun i wr => ∃ j : Nat, i = .int .i64 j ∧ j ≤ p.length ∧ (p.take j).all labB = true ∧ w1 = wr) (fun i _ => p.length - (intOf i).toNat)
      case atStart => exact ⟨0, rfl, by omega, rfl, rfl⟩
      case round =>
        obtain ⟨j, rfl, hj, hallp, rfl⟩ := hrel
        have HALP := Lib.hid hallp
        clear hallp
        by_cases hjl : j < p.length
        · have hjl' : (j : Int) < p.length := by omega
          have hix := fun w => idx_at p j hjl (j : Int) rfl w
          have HSJ := Lib.hid (list_snoc p j hjl)
          have HNO : Hid (labB p[j] = false → labelB p = false) := fun h => by
            rw [HLP2.out, ← Bool.not_eq_true, List.all_eq_true]
            intro h2
            have := h2 p[j] (List.getElem_mem hjl)
            rw [h] at this
            cases this
          generalize p[j] = c at *
          have HED := Lib.hid (dash_u8 c)
          cases hc : letB c with
          | true =>
            have HC : Hid (labB c = true) := by unfold Hid labB; rw [hc]; rfl
            have HLT := Lib.hid hc
            clear hc
            go_wp2_with fail
            refine (r09Letter_any c _).mono ?_
            rw [HLT.out]
            rintro e wq ⟨rfl, rfl⟩
            go_wp2
            go_roundw
            case rel => exact ⟨j + 1, by go_num, by omega, by rw [HSJ.out, List.all_append, HALP.out]; simp [HC.out], by trivial⟩
            case measure => simp [intOf]; omega
          | false =>
            have HLT := Lib.hid hc
            by_cases hd : c = 45
            · have hbd : ((c.toNat : Int) != 45) = false := by
                have := HED.out
                rw [bne, this, hd]; rfl
              have HC : Hid (labB c = true) := by unfold Hid labB; rw [hd]; rfl
              clear hc hd
              go_wp2_with fail
              refine (r09Letter_any c _).mono ?_
              rw [HLT.out]
              rintro e wq ⟨rfl, rfl⟩
              go_wp2
              go_roundw
              case rel => exact ⟨j + 1, by go_num, by omega, by rw [HSJ.out, List.all_append, HALP.out]; simp [HC.out], by trivial⟩
              case measure => simp [intOf]; omega
            · have hbd : ((c.toNat : Int) != 45) = true := by
                have := HED.out
                rw [bne, this]; simpa using hd
              have HV := Lib.hid (HBAD.out (HNO.out (by unfold labB; rw [hc]; simpa using hd)))
              clear hc hd
              go_wp2_with fail
              refine (r09Letter_any c _).mono ?_
              rw [HLT.out]
              rintro e wq ⟨rfl, rfl⟩
              go_wp2
              go_ret2
              rw [HV.out]
              exact ⟨rfl, HS1.out.drop⟩
        · obtain rfl : j = p.length := by omega
          rw [List.take_of_length_le (Nat.le_refl _), ← HLP2.out] at HALP
          go_wp2
          go_roundw
          case rel => exact ⟨k + 1, by go_num, by omega, by rw [HST.out, List.all_append, HALL.out]; simp [HALP.out], by trivial⟩
          case measure => simp [intOf]; omega
    · obtain rfl : k = l.length := by omega
      rw [List.take_of_length_le (Nat.le_refl _)] at HALL
      by_cases h255 : 255 < s.length
      · have hb : (255 : Int) < s.length := by omega
        have HV : Hid (domV s = ([], 2)) := by unfold Hid domV; rw [HDO.out, decide_eq_false (by omega)]; rfl
        clear h255
        go_wp2
        go_ret2
        rw [HV.out]
        exact ⟨rfl, HS1.out.drop⟩
      · have hb : (s.length : Int) ≤ 255 := by omega
        have HV : Hid (domV s = (smallB s, 0)) := by unfold Hid domV; rw [HDO.out, decide_eq_true (by omega), HALL.out]; rfl
        clear h255
        go_wp2_with fail
        refine (r09SmallS s HS1.out (by omega)).mono ?_
        rintro e w2 ⟨rfl, S⟩
        have HS2 := Lib.hid S
        clear S
        go_wp2
        go_ret2
        rw [HV.out]
        exact ⟨rfl, HS2.out.drop⟩
theorem plain_parts {s : Bs} : plainB s = (localB s && (sepR 46 s).all (allB atomB)) := by
  unfold plainB partsB
  rw [dotsB_eq]
set_option maxRecDepth 100000 in
set_option maxHeartbeats 4000000 in
theorem r09PlainS (s : Bs) (S : Sp w0 F0 w L) (hn : s.length ≤ 1000000) : Calls Tryz.prog 125 #[.string ⟨s.toArray⟩] w fun e w2 => e = .returned (.bool (plainB s)) ∧ Sp w0 F0 w2 L := by
  have HSP := Lib.hid (r09SplitS s S hn)
  have HSL : Hid (∀ p ∈ sepR 46 s, p.length ≤ s.length) := sepR_len 46 s
  have HSC := Lib.hid (sep_count 46 s)
  have HDO := Lib.hid (plain_parts (s := s))
  have hn' : (s.length : Int) ≤ 1000000 := by omega
  clear S
  go_enter Tryz.func125, Tryz.ntmps125
  go_wp2_with fail
  refine HSP.out.mono ?_
  rintro e w1 ⟨v, rfl, S⟩
  have HS1 := Lib.hid S
  have HT1 := Lib.hid S.tx
  clear S HSP
  generalize sepR 46 s = l at *
  obtain ⟨a, cap, rfl⟩ := HT1.out.form
  have hln : (l.length : Int) ≤ 1000001 := by have := HSC.out; omega
  go_wp2_with fail
  go_loopw [4] (fun i wr => ∃ k : Nat, i = .int .i64 k ∧ k ≤ l.length ∧ (l.take k).all (allB atomB) = true ∧ w1 = wr) (fun i _ => l.length - (intOf i).toNat)
  case atStart => exact ⟨0, rfl, by omega, rfl, rfl⟩
  case round =>
    obtain ⟨k, rfl, hk, hall, rfl⟩ := hrel
    have HALL := Lib.hid hall
    clear hall
    by_cases hlt : k < l.length
    · have hlt' : (k : Int) < l.length := by omega
      obtain ⟨b, off, rfl, ck⟩ := HT1.out.at hlt
      have HPL := Lib.hid (HSL.out _ (List.getElem_mem hlt))
      have HST : Hid (l.take (k + 1) = l.take k ++ [l[k]]) := List.take_succ_eq_append_getElem hlt
      have HBAD : Hid (allB atomB l[k] = false → plainB s = false) := fun h => by
        have : l.all (allB atomB) = false := by
          rw [← Bool.not_eq_true, List.all_eq_true]
          intro h2
          have := h2 l[k] (List.getElem_mem hlt)
          rw [h] at this
          cases this
        rw [HDO.out, this, Bool.and_false]
      generalize l[k] = p at *
      have hpn : (p.length : Int) ≤ 1000000 := by have := HPL.out; omega
      by_cases h0 : p.length = 0
      · have h0' : ((p.length : Int) == 0) = true := by simp [h0]
        have HV := Lib.hid (HBAD.out (by rw [List.eq_nil_of_length_eq_zero h0]; rfl))
        clear h0
        go_wp2
        go_ret
        rw [HV.out]
        exact ⟨rfl, HS1.out.drop⟩
      have h1' : ((p.length : Int) == 0) = false := by rw [beq_eq_false_iff_ne]; omega
      have HAB : Hid (allB atomB p = p.all atomB) := by
        unfold Hid allB
        cases p with
        | nil => exact absurd rfl h0
        | cons c r => simp
      clear h0
      go_wp2_with fail
      go_loopw [5] (fun i wr => ∃ j : Nat, i = .int .i64 j ∧ j ≤ p.length ∧ (p.take j).all atomB = true ∧ w1 = wr) (fun i _ => p.length - (intOf i).toNat)
      case atStart => exact ⟨0, rfl, by omega, rfl, rfl⟩
      case round =>
        obtain ⟨j, rfl, hj, hallp, rfl⟩ := hrel
        have HALP := Lib.hid hallp
        clear hallp
        by_cases hjl : j < p.length
        · have hjl' : (j : Int) < p.length := by omega
          have hix := fun w => idx_at p j hjl (j : Int) rfl w
          have HSJ := Lib.hid (list_snoc p j hjl)
          have HNO : Hid (atomB p[j] = false → allB atomB p = false) := fun h => by
            rw [HAB.out, ← Bool.not_eq_true, List.all_eq_true]
            intro h2
            have := h2 p[j] (List.getElem_mem hjl)
            rw [h] at this
            cases this
          generalize p[j] = c at *
          cases hc : letB c with
          | true =>
            have HC : Hid (atomB c = true) := by unfold Hid atomB; rw [hc]; rfl
            have HLT := Lib.hid hc
            clear hc
            go_wp2_with fail
            refine (r09Letter_any c _).mono ?_
            rw [HLT.out]
            rintro e wq ⟨rfl, rfl⟩
            go_wp2
            go_roundw
            case rel => exact ⟨j + 1, by go_num, by omega, by rw [HSJ.out, List.all_append, HALP.out]; simp [HC.out], by trivial⟩
            case measure => simp [intOf]; omega
          | false =>
            have HLT := Lib.hid hc
            cases hd : adSigns.contains c with
            | true =>
              have HC : Hid (atomB c = true) := by unfold Hid atomB; rw [hd]; simp
              have HD := Lib.hid hd
              clear hc hd
              go_wp2_with fail
              refine (r09Letter_any c _).mono ?_
              rw [HLT.out]
              rintro e wq ⟨rfl, rfl⟩
              go_wp2_with fail
              refine (r09Sign_any c _).mono ?_
              rw [HD.out]
              rintro e wq ⟨rfl, rfl⟩
              go_wp2
              go_roundw
              case rel => exact ⟨j + 1, by go_num, by omega, by rw [HSJ.out, List.all_append, HALP.out]; simp [HC.out], by trivial⟩
              case measure => simp [intOf]; omega
            | false =>
              have HD := Lib.hid hd
              have HV := Lib.hid (HBAD.out (HNO.out (by unfold atomB; rw [hc, hd]; rfl)))
              clear hc hd
              go_wp2_with fail
              refine (r09Letter_any c _).mono ?_
              rw [HLT.out]
              rintro e wq ⟨rfl, rfl⟩
              go_wp2_with fail
              refine (r09Sign_any c _).mono ?_
              rw [HD.out]
              rintro e wq ⟨rfl, rfl⟩
              go_wp2
              go_ret
              rw [HV.out]
              exact ⟨rfl, HS1.out.drop⟩
        · obtain rfl : j = p.length := by omega
          rw [List.take_of_length_le (Nat.le_refl _), ← HAB.out] at HALP
          go_wp2
          go_roundw
          case rel => exact ⟨k + 1, by go_num, by omega, by rw [HST.out, List.all_append, HALL.out]; simp [HALP.out], by trivial⟩
          case measure => simp [intOf]; omega
    · obtain rfl : k = l.length := by omega
      rw [List.take_of_length_le (Nat.le_refl _)] at HALL
      have HV : Hid (plainB s = localB s) := by unfold Hid; rw [HDO.out, HALL.out, Bool.and_true]
      go_wp2_with fail
      refine (r09Local_any s _ (by omega)).mono ?_
      rintro e wq ⟨rfl, rfl⟩
      go_wp2
      go_ret
      rw [HV.out]
      exact ⟨rfl, HS1.out.drop⟩
end
end Go.Proofs.YtldlbiodllgflaaGreatDoor

/-! R09c -/
namespace Go.Proofs.YtldlbiodllgflaaGreatDoor
open Go.RowKit

section
variable {w0 w : World} {F0 : List Nat} {L : List Res}
set_option maxRecDepth 100000 in
set_option maxHeartbeats 1000000 in
theorem r09MayS (b : Mb) (S : Sp w0 F0 w L) (h1 : b.1.length ≤ 1000000) (h2 : b.2.length ≤ 1000000) : Calls Tryz.prog 32 #[mbAgg b] w fun e w2 => e = .returned (.bool (mbMay b)) ∧ Sp w0 F0 w2 L := by
  obtain ⟨l, d⟩ := b
  have HS0 := Lib.hid (S.box (mbCells (l, d)) 37)
  have HLO := Lib.hid (fun w => r09Local_any l w h1)
  have H2 := Lib.hid h2
  have HM : Hid (mbMay (l, d) = (domOk d && smallB d == d && localB l)) := rfl
  unfold mbAgg
  unfold mbCells at HS0
  dsimp only at *
  clear S h1 h2
  go_enter Tryz.func32, Tryz.ntmps32
  go_wp2_with fail
  refine (r09DomainS d HS0.out H2.out).mono ?_
  generalize w.alloc (.cells #[.string ⟨l.toArray⟩, .string ⟨d.toArray⟩] 37) = w1 at *
  generalize w.heap.size = q at *
  cases hd : domOk d with
  | false =>
    have HV : Hid (mbMay (l, d) = false) := by unfold Hid; rw [HM.out, hd]; rfl
    have HDV : Hid (domV d = ([], 2)) := by unfold Hid domV; rw [hd]; rfl
    rw [HDV.out]
    clear hd
    rintro e w2 ⟨rfl, S2⟩
    have HS2 := Lib.hid S2
    clear S2
    go_wp2
    go_ret
    exact ⟨ret_bool HV.out.symm, HS2.out.drop⟩
  | true =>
    have HDV : Hid (domV d = (smallB d, 0)) := by unfold Hid domV; rw [hd]; rfl
    rw [HDV.out]
    rintro e w2 ⟨rfl, S2⟩
    have HS2 := Lib.hid S2
    have c2 := S2.cell
    clear S2
    by_cases hs : smallB d = d
    · have HV : Hid (mbMay (l, d) = localB l) := by unfold Hid; rw [HM.out, hd, hs]; simp
      have t1 : (smallB d == d) = true := by simpa using hs
      clear hd hs
      go_wp2_with fail
      refine (HLO.out _).mono ?_
      rintro e w3 ⟨rfl, rfl⟩
      clear c2
      go_wp2
      go_ret
      exact ⟨ret_bool HV.out.symm, HS2.out.drop⟩
    · have HV : Hid (mbMay (l, d) = false) := by unfold Hid; rw [HM.out, hd]; simp [hs]
      have t1 : (smallB d == d) = false := by simpa using hs
      clear hd hs
      go_wp2
      go_ret
      exact ⟨ret_bool HV.out.symm, HS2.out.drop⟩
theorem cut_byte (s : Bs) (k : Nat) (h : k < s.length) : (ByteArray.mk s.toArray).extract k (k + 1) = ⟨[s[k]].toArray⟩ := by
  rw [cut_part, List.take_succ_eq_append_getElem h, List.drop_append_of_le_length (by rw [List.length_take]; omega), List.drop_eq_nil_of_le (by rw [List.length_take]; omega)]
  rfl
set_option maxRecDepth 100000 in
set_option maxHeartbeats 2000000 in
theorem r09WriteS (b : Mb) (S : Sp w0 F0 w L) (h1 : b.1.length ≤ 1000000) (h2 : b.2.length ≤ 1000000) : Calls Tryz.prog 110 #[mbAgg b] w fun e w2 => e = .returned (.tuple #[.string ⟨(mbWrite b).1.toArray⟩, .int .i64 (mbWrite b).2]) ∧ Sp w0 F0 w2 L := by
  obtain ⟨l, d⟩ := b
  have HS0 := Lib.hid (S.box (mbCells (l, d)) 37)
  have H1 := Lib.hid h1
  have H2 := Lib.hid h2
  have h1i : (l.length : Int) ≤ 1000000 := by dsimp only at h1; omega
  have HW : Hid (mbWrite (l, d) = if mbMay (l, d) then (mbText (l, d), 0) else ([], 2)) := rfl
  have HTX : Hid (mbText (l, d) = (if plainB l then l else quotedB l) ++ 64 :: d) := rfl
  unfold mbAgg
  unfold mbCells at HS0
  dsimp only at *
  clear S h1 h2
  go_enter Tryz.func110, Tryz.ntmps110
  go_wp2_with fail
  refine (r09MayS (l, d) HS0.out H1.out H2.out).mono ?_
  generalize w.alloc (.cells #[.string ⟨l.toArray⟩, .string ⟨d.toArray⟩] 37) = w1 at *
  generalize w.heap.size = q at *
  cases hm : mbMay (l, d) with
  | false =>
    have HV : Hid (mbWrite (l, d) = ([], 2)) := by unfold Hid; rw [HW.out, hm]; rfl
    clear hm
    rintro e w2 ⟨rfl, S2⟩
    have HS2 := Lib.hid S2
    clear S2
    go_wp2
    go_ret2
    rw [HV.out]
    exact ⟨rfl, HS2.out.drop⟩
  | true =>
    have HV : Hid (mbWrite (l, d) = (mbText (l, d), 0)) := by unfold Hid; rw [HW.out, hm]; rfl
    clear hm
    rintro e w2 ⟨rfl, S2⟩
    have HS2 := Lib.hid S2
    have c2 := S2.cell
    clear S2
    go_wp2_with fail
    refine (r09PlainS l HS2.out H1.out).mono ?_
    clear HS0
    cases hp : plainB l with
    | true =>
      have HT : Hid (mbText (l, d) = l ++ 64 :: d) := by unfold Hid; rw [HTX.out, hp]; rfl
      have a1 := add_str l [64] (by have := H1.out; simp [maxLen]; omega)
      have a2 := add_str (l ++ [64]) d (by have := H1.out; have := H2.out; simp [maxLen]; omega)
      clear hp c2
      rintro e w3 ⟨rfl, S3⟩
      have HS3 := Lib.hid S3
      have c3 := S3.cell
      clear S3
      go_wp2
      go_ret2
      rw [HV.out, HT.out]
      exact ⟨by simp, HS3.out.drop⟩
    | false =>
      have HT : Hid (mbText (l, d) = quotedB l ++ 64 :: d) := by unfold Hid; rw [HTX.out, hp]; rfl
      clear hp c2
      rintro e w3 ⟨rfl, S3⟩
      have HS3 := Lib.hid S3
      have c3 := S3.cell
      clear S3 HS2
      go_wp2_with fail
      go_loopw [4, 5] (fun o i wr => ∃ k : Nat, o = .string ⟨(quoTo l k).toArray⟩ ∧ i = .int .i64 k ∧ k ≤ l.length ∧ w3 = wr) (fun _ i _ => l.length - (intOf i).toNat)
      case atStart => exact ⟨0, rfl, rfl, Nat.zero_le _, rfl⟩
      case round =>
        obtain ⟨k, rfl, rfl, hk, rfl⟩ := hrel
        by_cases hlt : k < l.length
        · have hlt' : (k : Int) < l.length := by omega
          have hcut := cut_byte l k hlt
          have HN := Lib.hid (quoTo_next l k hlt)
          have HLEN := Lib.hid (quoTo_len l k)
          generalize l[k] = c at *
          generalize quoTo l k = x at *
          by_cases h34 : c = 34
          · subst h34
            have HQ : Hid (quoteC 34 = [92, 34]) := rfl
            have a1 := add_str x [92] (by have := HLEN.out; have := H1.out; simp [maxLen]; omega)
            have a2 := add_str (x ++ [92]) [34] (by have := HLEN.out; have := H1.out; simp [maxLen]; omega)
            go_wp2
            go_roundw
            case rel => exact ⟨k + 1, by rw [HN.out, HQ.out], by go_num, by omega, by trivial⟩
            case measure => simp [intOf]; omega
          by_cases h92 : c = 92
          · subst h92
            have HQ : Hid (quoteC 92 = [92, 92]) := rfl
            have a1 := add_str x [92] (by have := HLEN.out; have := H1.out; simp [maxLen]; omega)
            have a2 := add_str (x ++ [92]) [92] (by have := HLEN.out; have := H1.out; simp [maxLen]; omega)
            clear h34
            go_wp2
            go_roundw
            case rel => exact ⟨k + 1, by rw [HN.out, HQ.out], by go_num, by omega, by trivial⟩
            case measure => simp [intOf]; omega
          have HQ : Hid (quoteC c = [c]) := by unfold Hid quoteC; rw [if_neg (by simp [h34, h92])]
          have a1 := add_str x [c] (by have := HLEN.out; have := H1.out; simp [maxLen]; omega)
          have hb34 : (c == 34) = false := by simpa using h34
          have hb92 : (c == 92) = false := by simpa using h92
          clear h34 h92
          go_wp2
          go_roundw
          case rel => exact ⟨k + 1, by rw [HN.out, HQ.out], by go_num, by omega, by trivial⟩
          case measure => simp [intOf]; omega
        · obtain rfl : k = l.length := by omega
          have HLEN := Lib.hid (quoTo_len l l.length)
          have HQV : Hid (quoTo l l.length ++ [34] = quotedB l) := by unfold Hid quoTo quotedB; rw [List.take_length]; rfl
          have a1 := add_str (quoTo l l.length) [34, 64] (by have := HLEN.out; have := H1.out; simp [maxLen]; omega)
          have a2 := add_str (quoTo l l.length ++ [34, 64]) d (by have := HLEN.out; have := H1.out; have := H2.out; simp [maxLen]; omega)
          have HTT : Hid (quoTo l l.length ++ [34, 64] ++ d = mbText (l, d)) := by unfold Hid; rw [HT.out, ← HQV.out]; simp
          rw [HTT.out] at a2
          go_wp2
          go_ret2
          rw [HV.out]
          exact ⟨rfl, HS3.out.drop⟩
set_option maxRecDepth 100000 in
set_option maxHeartbeats 2000000 in
theorem r09PathS (b : Mb) (S : Sp w0 F0 w L) (h1 : b.1.length ≤ 1000000) (h2 : b.2.length ≤ 1000000) : Calls Tryz.prog 93 #[mbAgg b] w fun e w2 => e = .returned (.tuple #[.string ⟨(mbPath b).1.toArray⟩, .int .i64 (mbPath b).2]) ∧ Sp w0 F0 w2 L := by
  obtain ⟨l, d⟩ := b
  have HS0 := Lib.hid (S.box (mbCells (l, d)) 37)
  have HR := Lib.hid (r09WriteS (l, d) HS0.out h1 h2)
  have HTL := Lib.hid (mbText_len (l, d) h1 h2)
  have HP : Hid (mbPath (l, d) = if l == [] && d == [] then ([60, 62], 0) else if mbMay (l, d) then (60 :: (mbText (l, d) ++ [62]), 0) else ([], 2)) := rfl
  have HW : Hid (mbWrite (l, d) = if mbMay (l, d) then (mbText (l, d), 0) else ([], 2)) := rfl
  have hl1 : (l.length : Int) ≤ 1000000 := by dsimp only at h1; omega
  have hl2 : (d.length : Int) ≤ 1000000 := by dsimp only at h2; omega
  unfold mbAgg
  unfold mbAgg mbCells at HR
  unfold mbCells at HS0
  dsimp only at *
  clear S h1 h2
  by_cases hb : l = [] ∧ d = []
  · obtain ⟨rfl, rfl⟩ := hb
    have HV : Hid (mbPath ([], []) = ([60, 62], 0)) := rfl
    go_enter Tryz.func93, Tryz.ntmps93
    go_wp2
    go_ret2
    rw [HV.out]
    exact ⟨rfl, HS0.out.drop⟩
  have HPV : Hid (mbPath (l, d) = if mbMay (l, d) then (60 :: (mbText (l, d) ++ [62]), 0) else ([], 2)) := by
    unfold Hid
    rw [HP.out, if_neg (by simpa using hb)]
  have hsum : ((l.length : Int) + d.length == 0) = false := by
    rw [beq_eq_false_iff_ne]
    intro h
    exact hb ⟨List.eq_nil_of_length_eq_zero (by omega), List.eq_nil_of_length_eq_zero (by omega)⟩
  clear hb
  cases hm : mbMay (l, d) with
  | false =>
    have HV : Hid (mbPath (l, d) = ([], 2)) := by unfold Hid; rw [HPV.out, hm]; rfl
    have HV2 : Hid (mbWrite (l, d) = ([], 2)) := by unfold Hid; rw [HW.out, hm]; rfl
    clear hm
    rw [HV2.out] at HR
    dsimp only at HR
    go_enter Tryz.func93, Tryz.ntmps93
    go_wp2_with fail
    refine HR.out.mono ?_
    rintro e w2 ⟨rfl, S2⟩
    have HS2 := Lib.hid S2
    clear S2
    go_wp2
    go_ret2
    rw [HV.out]
    exact ⟨rfl, HS2.out.drop⟩
  | true =>
    have HV : Hid (mbPath (l, d) = (60 :: (mbText (l, d) ++ [62]), 0)) := by unfold Hid; rw [HPV.out, hm]; rfl
    have HV2 : Hid (mbWrite (l, d) = (mbText (l, d), 0)) := by unfold Hid; rw [HW.out, hm]; rfl
    clear hm
    rw [HV2.out] at HR
    dsimp only at HR
    generalize mbText (l, d) = t at *
    have a1 := add_str [60] t (by have := HTL.out; simp [maxLen]; omega)
    have a2 := add_str (60 :: t) [62] (by have := HTL.out; simp [maxLen]; omega)
    go_enter Tryz.func93, Tryz.ntmps93
    go_wp2_with fail
    refine HR.out.mono ?_
    rintro e w2 ⟨rfl, S2⟩
    have HS2 := Lib.hid S2
    clear S2
    go_wp2
    go_ret2
    rw [HV.out]
    exact ⟨by simp, HS2.out.drop⟩
end
end Go.Proofs.YtldlbiodllgflaaGreatDoor
