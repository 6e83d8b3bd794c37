/- The document's answer for layer 9: letters, signs, small letters, local parts, parts of a text. Conditions: the lengths fit. -/
import Derived.Test.YtldlbiodllgflaaGreatDoorAdV
import Derived.Test.YtldlbiodllgflaaGreatDoorTx
set_option linter.unusedSimpArgs false
set_option linter.unusedVariables false
set_option linter.unnecessarySimpa false
namespace Go.Proofs.YtldlbiodllgflaaGreatDoor
open Go.RowKit

set_option maxRecDepth 100000 in
theorem r09Letter_any (c : UInt8) (w : World) : Calls Tryz.prog 63 #[.int .u8 c.toNat] w fun e w2 => e = .returned (.bool (letB c)) ∧ w = w2 := by
  have hc := c.toNat_lt
  go_enter Tryz.func63, Tryz.ntmps63
  go_wp2
  all_goals (go_ret; refine ⟨ret_bool ?_, rfl⟩; unfold letB; rw [Bool.eq_iff_iff]; simp; omega)
theorem list_snoc (s : Bs) (k : Nat) (h : k < s.length) : s.take (k + 1) = s.take k ++ [s[k]] := List.take_succ_eq_append_getElem h
set_option maxRecDepth 100000 in
set_option maxHeartbeats 1000000 in
theorem r09Sign_any (c : UInt8) (w : World) : Calls Tryz.prog 143 #[.int .u8 c.toNat] w fun e w2 => e = .returned (.bool (adSigns.contains c)) ∧ w = w2 := by
  go_enter Tryz.func143, Tryz.ntmps143
  go_wp2_with fail
  go_loopw [4] (fun i wr => ∃ k : Nat, i = .int .i64 k ∧ k ≤ 19 ∧ (adSigns.take k).contains c = false ∧ w = wr) (fun i _ => 19 - (intOf i).toNat)
  case atStart => exact ⟨0, rfl, Nat.zero_le _, rfl, rfl⟩
  case round =>
    obtain ⟨k, rfl, hk, hno, rfl⟩ := hrel
    have HNO := Lib.hid hno
    clear hno
    have hls : adSigns.length = 19 := rfl
    by_cases hlt : k < 19
    · have hlt' : (k : Int) < 19 := by omega
      have hlk : k < adSigns.length := by omega
      have hix := fun w => (show (Instr.index 9 (.string { data := #[33, 35, 36, 37, 38, 39, 42, 43, 45, 47, 61, 63, 94, 95, 96, 123, 124, 125, 126] }) (.int .i64 (k : Int))).run Tryz.prog w = .ok (.int .u8 (adSigns[k].toNat : Int)) w from idx_at adSigns k hlk k rfl w)
      have HST := Lib.hid (list_snoc adSigns k hlk)
      have HEQ := Lib.hid (eq_u8b adSigns[k] c)
      have HIN : Hid (adSigns[k] = c → adSigns.contains c = true) := fun e => by rw [← e]; simp
      generalize adSigns[k] = d at *
      by_cases hd : d = c
      · have HV := Lib.hid (HIN.out hd)
        have hb : ((d.toNat : Int) == (c.toNat : Int)) = true := by rw [HEQ.out]; simpa using hd
        clear hd
        go_wp2
        go_ret
        rw [HV.out]
        exact ⟨rfl, rfl⟩
      · have hb : ((d.toNat : Int) == (c.toNat : Int)) = false := by rw [HEQ.out]; simpa using hd
        have HN2 : Hid (((adSigns.take k) ++ [d]).contains c = false) := by
          have := HNO.out
          unfold Hid
          simp only [List.contains_eq_mem, List.mem_append, List.mem_singleton, decide_eq_false_iff_not] at this ⊢
          rintro (h | h)
          · exact this h
          · exact hd h.symm
        clear hd
        go_wp2
        go_roundw
        case rel => exact ⟨k + 1, by go_num, by omega, by rw [HST.out]; exact HN2.out, by trivial⟩
        case measure => simp [intOf]; omega
    · obtain rfl : k = 19 := by omega
      rw [List.take_of_length_le (by rw [hls]; exact Nat.le_refl _)] at HNO
      go_wp2
      go_ret
      rw [HNO.out]
      exact ⟨rfl, rfl⟩
set_option maxRecDepth 100000 in
set_option maxHeartbeats 1000000 in
theorem r09Local_any (s : Bs) (w : World) (hs : s.length ≤ 1000000) : Calls Tryz.prog 65 #[.string ⟨s.toArray⟩] w fun e w2 => e = .returned (.bool (localB s)) ∧ w = w2 := by
  have hs' : (s.length : Int) ≤ 1000000 := by omega
  clear hs
  go_enter Tryz.func65, Tryz.ntmps65
  go_wp2_with fail
  go_loopw [3] (fun i wr => ∃ k : Nat, i = .int .i64 k ∧ k ≤ s.length ∧ (s.take k).all shownB = true ∧ w = wr) (fun i _ => s.length - (intOf i).toNat)
  case atStart => exact ⟨0, rfl, Nat.zero_le _, rfl, rfl⟩
  case round =>
    obtain ⟨k, rfl, hk, hall, rfl⟩ := hrel
    have HALL := Lib.hid hall
    clear hall
    by_cases hlt : k < s.length
    · have hlt' : (k : Int) < s.length := by omega
      have hix := fun w => idx_at s k hlt (k : Int) rfl w
      have HST := Lib.hid (list_snoc s k hlt)
      have HNO : Hid (shownB s[k] = false → localB s = false) := fun h => by
        unfold localB allB
        have : s.all shownB = false := by
          rw [← Bool.not_eq_true, List.all_eq_true]
          intro h2
          have := h2 s[k] (List.getElem_mem hlt)
          rw [h] at this
          cases this
        rw [this]
        simp
      generalize s[k] = c at *
      have hc9 := c.toNat_lt
      by_cases hc : 32 ≤ c.toNat ∧ c.toNat ≤ 126
      · have HC : Hid (shownB c = true) := by unfold Hid shownB; simp [hc]
        have h1 : (32 : Int) ≤ c.toNat := by omega
        have h2 : (c.toNat : Int) ≤ 126 := by omega
        clear hc
        go_wp2
        go_roundw
        case rel => exact ⟨k + 1, by go_num, by omega, by rw [HST.out, List.all_append, HALL.out]; simp [HC.out], by trivial⟩
        case measure => simp [intOf]; omega
      · have HV := Lib.hid (HNO.out (by unfold shownB; simp; omega))
        have hor : (c.toNat : Int) < 32 ∨ ((32 : Int) ≤ c.toNat ∧ (126 : Int) < c.toNat) := by omega
        clear hc
        rcases hor with h1 | ⟨h1, h2⟩
        · go_wp2
          go_ret
          rw [HV.out]
          exact ⟨rfl, rfl⟩
        · go_wp2
          go_ret
          rw [HV.out]
          exact ⟨rfl, rfl⟩
    · obtain rfl : k = s.length := by omega
      rw [List.take_of_length_le (Nat.le_refl _)] at HALL
      have HV : Hid (localB s = (decide ((1 : Int) ≤ s.length) && decide ((s.length : Int) ≤ 64))) := by
        unfold Hid localB allB
        rw [HALL.out, Bool.true_and, Bool.and_comm]
        cases s with
        | nil => rfl
        | cons c r =>
          rw [Bool.eq_iff_iff]
          simp
          omega
      go_wp2
      all_goals
        go_ret
        rw [HV.out]
        refine ⟨ret_bool ?_, rfl⟩
        rw [Bool.eq_iff_iff]
        simp
        omega
section
variable {w0 w : World} {F0 : List Nat} {L : List Res} {b : Nat} {v : Value}
theorem Sp.bytMade (S : Sp w0 F0 w L) : Sp w0 F0 (w.alloc (.cells #[] 5)) (bytW (.slice (some ⟨w.heap.size, 0, none⟩) 0 0) [] :: L) :=
  S.gain (G := [w.heap.size]) ((Ext.refl [] w).alloc _) ⟨rfl, rfl, .inr ⟨w.heap.size, 0, #[], rfl, Nat.zero_le _, (MapKept.heap_alloc w _).1, Nat.le_refl _, Nat.zero_le _, rfl, rfl⟩⟩ (by simp)
theorem smallB_take {s : Bs} {k : Nat} (h : k < s.length) : smallB (s.take (k + 1)) = smallB (s.take k) ++ [lowB s[k]] := by
  unfold smallB
  rw [List.take_succ_eq_append_getElem h, List.map_append]
  rfl
set_option maxRecDepth 100000 in
set_option maxHeartbeats 1000000 in
theorem r09SmallS (s : Bs) (S : Sp w0 F0 w L) (hn : s.length ≤ 1000000) : Calls Tryz.prog 64 #[.string ⟨s.toArray⟩] w fun e w2 => e = .returned (.string ⟨(smallB s).toArray⟩) ∧ Sp w0 F0 w2 L := by
  have HS1 := Lib.hid S.bytMade
  have hn' : (s.length : Int) ≤ 1000000 := by omega
  clear S
  go_enter Tryz.func64, Tryz.ntmps64
  go_wp2_with fail
  generalize w.alloc (.cells #[] 5) = w1 at *
  generalize w.heap.size = g0 at *
  go_loopw [3, 4] (fun o i wr => ∃ k : Nat, k ≤ s.length ∧ i = .int .i64 k ∧ Sp w0 F0 wr (bytW o (smallB (s.take k)) :: L)) (fun _ i _ => s.length - (intOf i).toNat)
  case atStart => exact ⟨0, Nat.zero_le _, rfl, HS1.out⟩
  case round =>
    obtain ⟨k, hk, rfl, S2⟩ := hrel
    have HS2 := Lib.hid S2
    clear S2 HS1
    by_cases hlt : k < s.length
    · have hlt' : (k : Int) < s.length := by omega
      have hix := fun w => idx_at s k hlt (k : Int) rfl w
      have HST := Lib.hid (smallB_take hlt)
      have HLN : Hid ((smallB (s.take k)).length = k) := by unfold Hid; rw [smallB_len, List.length_take]; omega
      generalize s[k] = c at *
      generalize smallB (s.take k) = l at *
      have hc9 := c.toNat_lt
      by_cases hc : 65 ≤ c.toNat ∧ c.toNat ≤ 90
      · have h1 : (65 : Int) ≤ c.toNat := by omega
        have h2 : (c.toNat : Int) ≤ 90 := by omega
        have hv : (c.toNat : Int) + 32 = ((lowB c).toNat : Int) := by
          have h := low_val c hc.1 hc.2
          rw [bv_eq] at h
          have := (Value.int.inj h).2
          omega
        obtain ⟨gg, cap, w4, hrun, S4⟩ := Sp.appendByteW 84 (lowB c) (by have := HLN.out; omega) (HS2.out.box #[bv (lowB c)] 5)
        rw [HLN.out] at hrun S4
        have HRUN := Lib.hid hrun
        have HS4 := Lib.hid S4
        rw [bv_eq, ← hv] at HRUN
        clear S4 hrun hc hv
        go_wp2_with (at_builtin; refine wpList_append_run_g (by rfl) (by rfl) (by rfl) (by rfl) HRUN.out ?_)
        go_roundw
        case rel => exact ⟨k + 1, by omega, by go_num, by rw [HST.out]; exact HS4.out⟩
        case measure => simp [intOf]; omega
      · have hv : lowB c = c := by unfold lowB; rw [if_neg hc]
        have hor : (c.toNat : Int) < 65 ∨ ((65 : Int) ≤ c.toNat ∧ (90 : Int) < c.toNat) := by omega
        rw [hv] at HST
        obtain ⟨gg, cap, w4, hrun, S4⟩ := Sp.appendByteW 84 c (by have := HLN.out; omega) (HS2.out.box #[bv c] 5)
        rw [HLN.out] at hrun S4
        have HRUN := Lib.hid hrun
        have HS4 := Lib.hid S4
        rw [bv_eq] at HRUN
        clear S4 hrun hc hv
        rcases hor with h1 | ⟨h1, h2⟩
        all_goals
          go_wp2_with (at_builtin; refine wpList_append_run_g (by rfl) (by rfl) (by rfl) (by rfl) HRUN.out ?_)
          go_roundw
          case rel => exact ⟨k + 1, by omega, by go_num, by rw [HST.out]; exact HS4.out⟩
          case measure => simp [intOf]; omega
    · obtain rfl : k = s.length := by omega
      rw [List.take_of_length_le (Nat.le_refl _)] at HS2
      have hcv := HS2.out.bytesStrW
      go_wp2
      go_ret
      exact ⟨rfl, HS2.out.drop⟩
/-! ### parts -/
theorem sepR_snoc (d : UInt8) : ∀ (s : Bs) (c : UInt8), sepR d (s ++ [c]) = if c = d then sepR d s ++ [[]] else (sepR d s).dropLast ++ [((sepR d s).getLast?.getD []) ++ [c]]
  | [], c => by
    show sepR d [c] = _
    unfold sepR
    by_cases h : c = d
    · rw [if_pos h, if_pos h]; rfl
    · rw [if_neg h, if_neg h]; rfl
  | x :: s, c => by
    rw [List.cons_append]
    have ih := sepR_snoc d s c
    have hne := sepR_ne d s
    unfold sepR
    by_cases hx : x = d
    · rw [if_pos hx, if_pos hx, ih]
      by_cases h : c = d
      · rw [if_pos h, if_pos h]; rfl
      · rw [if_neg h, if_neg h]
        cases hq : sepR d s with
        | nil => exact absurd hq hne
        | cons a b =>
          rw [List.getLast?_cons_cons]
          rfl
    · rw [if_neg hx, if_neg hx, ih]
      by_cases h : c = d
      · rw [if_pos h, if_pos h]
        cases hq : sepR d s with
        | nil => exact absurd hq hne
        | cons a b => rfl
      · rw [if_neg h, if_neg h]
        cases hq : sepR d s with
        | nil => exact absurd hq hne
        | cons a b =>
          cases b with
          | nil => rfl
          | cons e f => rfl
/-- What was parted so far: the parts that are over, and the one that isn't. -/
theorem sep_hit {s : Bs} {k m : Nat} {o : List Bs} (h : k < s.length) (hm : m ≤ k) (hc : s[k] = 46) (hs : sepR 46 (s.take k) = o ++ [(s.take k).drop m]) : sepR 46 (s.take (k + 1)) = (o ++ [(s.take k).drop m]) ++ [(s.take (k + 1)).drop (k + 1)] := by
  rw [list_snoc s k h, sepR_snoc, if_pos hc, hs]
  congr 2
  rw [List.drop_eq_nil_of_le]
  rw [List.length_append, List.length_take, List.length_singleton]
  omega
theorem sep_miss {s : Bs} {k m : Nat} {o : List Bs} (h : k < s.length) (hm : m ≤ k) (hc : s[k] ≠ 46) (hs : sepR 46 (s.take k) = o ++ [(s.take k).drop m]) : sepR 46 (s.take (k + 1)) = o ++ [(s.take (k + 1)).drop m] := by
  rw [list_snoc s k h, sepR_snoc, if_neg hc, hs, List.dropLast_concat, List.getLast?_concat, Option.getD_some, List.drop_append_of_le_length]
  rw [List.length_take]; omega
theorem cut_part (s : Bs) (m k : Nat) : (ByteArray.mk s.toArray).extract m k = ⟨((s.take k).drop m).toArray⟩ := by
  rw [Lib.extract_mk, List.drop_take]
theorem sep_count (d : UInt8) : ∀ s : Bs, (sepR d s).length ≤ s.length + 1
  | [] => by simp [sepR]
  | c :: r => by
    have ih := sep_count d r
    unfold sepR
    split
    · simp; omega
    · have h4 : (sepR d r).tail.length = (sepR d r).length - 1 := by simp
      simp only [List.length_cons, h4]
      omega
set_option maxRecDepth 100000 in
set_option maxHeartbeats 2000000 in
theorem r09SplitS (s : Bs) (S : Sp w0 F0 w L) (hn : s.length ≤ 1000000) : Calls Tryz.prog 62 #[.string ⟨s.toArray⟩] w fun e w2 => ∃ v, e = .returned v ∧ Sp w0 F0 w2 (textsR v (sepR 46 s) :: L) := by
  have HS1 := Lib.hid S.textsNone
  have hn' : (s.length : Int) ≤ 1000000 := by omega
  clear S
  go_enter Tryz.func62, Tryz.ntmps62
  go_wp2_with fail
  generalize w.alloc (.cells #[] 9) = w1 at *
  generalize w.heap.size = g0 at *
  go_loopw [3, 4, 5] (fun z f i wr => ∃ (k m : Nat) (o : List Bs), f = .int .i64 m ∧ i = .int .i64 k ∧ m ≤ k ∧ k ≤ s.length ∧ sepR 46 (s.take k) = o ++ [(s.take k).drop m] ∧ Sp w0 F0 wr (textsR z o :: L)) (fun _ _ i _ => s.length - (intOf i).toNat)
  case atStart => exact ⟨0, 0, [], rfl, rfl, by omega, by omega, rfl, HS1.out⟩
  case round =>
    obtain ⟨k, m, o, rfl, rfl, hmk, hk, hsep, S3⟩ := hrel
    have HSEP := Lib.hid hsep
    have HS3 := Lib.hid S3
    have HOL : Hid (o.length ≤ 1000001) := by
      have h1 := sep_count 46 (s.take k)
      rw [hsep, List.length_append, List.length_take] at h1
      simp at h1
      unfold Hid
      omega
    clear hsep S3 HS1
    by_cases hlt : k < s.length
    · have hlt' : (k : Int) < s.length := by omega
      have hix := fun w => idx_at s k hlt (k : Int) rfl w
      have HHIT := Lib.hid (fun hc => sep_hit hlt hmk hc HSEP.out)
      have HMISS := Lib.hid (fun hc => sep_miss hlt hmk hc HSEP.out)
      have HEQ := Lib.hid (eq_u8b s[k] 46)
      generalize s[k] = c at *
      by_cases hc : c = 46
      · have HNX := Lib.hid (HHIT.out hc)
        have hb : ((c.toNat : Int) == 46) = true := by subst hc; rfl
        have hcut := cut_part s m k
        have hmk' : (m : Int) ≤ k := by omega
        generalize (s.take k).drop m = x at *
        obtain ⟨gg, cap, w4, hrun, S4⟩ := Sp.appendText 49 x (by have := HOL.out; omega) (HS3.out.box #[.string ⟨x.toArray⟩] 9)
        have HRUN := Lib.hid hrun
        have HS4 := Lib.hid S4
        clear S4 hrun hc
        go_wp2_with (at_builtin; refine wpList_append_run_g (by rfl) (by rfl) (by rfl) (by rfl) HRUN.out ?_)
        go_roundw
        case rel => exact ⟨k + 1, k + 1, _, by go_num, by go_num, by omega, by omega, HNX.out, HS4.out⟩
        case measure => simp [intOf]; omega
      · have HNX := Lib.hid (HMISS.out hc)
        have hb : ((c.toNat : Int) == 46) = false := by
          rw [beq_eq_false_iff_ne]
          intro e
          exact hc (UInt8.toNat_inj.1 (by show c.toNat = 46; omega))
        clear hc
        go_wp2
        go_roundw
        case rel => exact ⟨k + 1, m, o, rfl, by go_num, by omega, by omega, HNX.out, HS3.out⟩
        case measure => simp [intOf]; omega
    · obtain rfl : k = s.length := by omega
      rw [List.take_of_length_le (Nat.le_refl _)] at HSEP
      have hcut := cut_part s m s.length
      rw [List.take_of_length_le (Nat.le_refl _)] at hcut
      have hmk' : (m : Int) ≤ s.length := by omega
      generalize s.drop m = x at *
      obtain ⟨gg, cap, w4, hrun, S4⟩ := Sp.appendText 49 x (by have := HOL.out; omega) (HS3.out.box #[.string ⟨x.toArray⟩] 9)
      have HRUN := Lib.hid hrun
      have HS4 := Lib.hid S4
      rw [← HSEP.out] at HS4
      have HLN : Hid (o.length + 1 = (sepR 46 s).length) := by unfold Hid; rw [HSEP.out]; simp
      clear S4 hrun
      go_wp2_with (at_builtin; refine wpList_append_run_g (by rfl) (by rfl) (by rfl) (by rfl) HRUN.out ?_)
      go_ret
      exact ⟨_, rfl, HS4.out⟩
end
end Go.Proofs.YtldlbiodllgflaaGreatDoor
