/- The document's answer for layer 10: Num, Printed, Class, Whole, size, Lines, ReadReply. Conditions: the lengths fit. -/
import Derived.Test.YtpclhkjladbooaaGreatDoorCmA
import Derived.Test.YtpclhkjladbooaaGreatDoorRfS
import Derived.Test.YtpclhkjladbooaaGreatDoorChainG
import Derived.Deep.RegionWith
set_option linter.unusedSimpArgs false
set_option linter.unusedVariables false
set_option linter.unnecessarySimpa false
namespace Go.Proofs.YtpclhkjladbooaaGreatDoor
open Go.RowKit
open Go.Lib (decDigits)

theorem Ext.old {a w : World} (h : Ext [] a w) : ∀ b o, b < a.heap.size → w.cell? ⟨b, o, none⟩ = a.cell? ⟨b, o, none⟩ := fun b o hb => World.cell?_of_block (h.block b hb (by simp))
theorem conv_one (W : World) (b : Nat) (c : UInt8) (h : W.cell? ⟨b, 0, none⟩ = some (.int .u8 (c.toNat : Int))) : (convert 56 9 (.slice (some ⟨b, 0, none⟩) 1 1)).run Tryz.prog W = .ok (.string ⟨[c].toArray⟩) W :=
  run_convert_bytes_back (P := Tryz.prog) W 56 9 5 ⟨b, 0, none⟩ 1 [c] Tryz.underlying56 Tryz.underlying5 Tryz.underlying9 (fun j hj => by
    obtain rfl : j = 0 := by simpa using hj
    exact h)
theorem dec_len (n : Nat) (h : n ≤ 9223372036854775807) : (decDigits n).length ≤ 30 := by
  have := dec_len20 (n := n) (by omega)
  omega
set_option maxRecDepth 100000 in
set_option maxHeartbeats 4000000 in
theorem r10Num_any (n : Nat) : ∀ (w : World), n ≤ 9223372036854775807 →
    Calls Tryz.prog 32 #[.int .i64 n] w fun e w2 => e = .returned (.string ⟨(decDigits n).toArray⟩) ∧ Ext [] w w2 := by
  induction n using Nat.strongRecOn with
  | _ n ih =>
    intro w hn
    have hcv : ∀ (k : Nat), k < 10 → ∀ (W : World) (b : Nat), W.cell? ⟨b, 0, none⟩ = some (.int .u8 (48 + k : Int)) → (convert 56 9 (.slice (some ⟨b, 0, none⟩) 1 1)).run Tryz.prog W = .ok (.string ⟨[UInt8.ofNat (48 + k)].toArray⟩) W := fun k hk W b h => conv_one W b _ (by rw [h]; congr 2; simp; omega)
    by_cases h10 : n < 10
    · have h10' : (n : Int) < 10 := by omega
      have hcv := hcv n h10
      have HD : Hid (decDigits n = [UInt8.ofNat (48 + n)]) := by rw [decDigits, dif_pos h10]; exact Eq.refl _
      have hwr : IntKind.u8.wrap (48 + n : Int) = (48 + n : Int) := by rw [IntKind.wrap_u8]; omega
      generalize UInt8.ofNat (48 + n) = cc at *
      clear ih h10 hn
      go_enter Tryz.func32, Tryz.ntmps32
      go_wp2
      go_ret
      rw [HD.out]
      exact ⟨rfl, (Ext.refl [] w).alloc _⟩
    · have h10' : ¬ (n : Int) < 10 := by omega
      have IH := Lib.hid (ih (n / 10) (by omega))
      have HN : Hid (n / 10 ≤ 9223372036854775807) := by unfold Hid; omega
      have HD : Hid (decDigits n = decDigits (n / 10) ++ [UInt8.ofNat (48 + n % 10)]) := by rw [decDigits, dif_neg h10]; exact Eq.refl _
      have hdl := dec_len (n / 10) (by omega)
      have hadd := add_str (decDigits (n / 10)) [UInt8.ofNat (48 + n % 10)] (by simp [maxLen]; omega)
      have hdiv : (n : Int).tdiv 10 = ((n / 10 : Nat) : Int) := by simp [Int.tdiv]
      have hmod : (n : Int).tmod 10 = ((n % 10 : Nat) : Int) := by simp [Int.tmod]
      have hcv := hcv (n % 10) (by omega)
      have hm10 : n % 10 < 10 := by omega
      have hm10' : ((n % 10 : Nat) : Int) < 10 := by omega
      have hwr : IntKind.u8.wrap (48 + (n % 10 : Nat) : Int) = (48 + (n % 10 : Nat) : Int) := by rw [IntKind.wrap_u8]; omega
      generalize UInt8.ofNat (48 + n % 10) = cc at *
      clear ih h10 hn hdl
      generalize n / 10 = q at *
      generalize n % 10 = r at *
      have hw1 : IntKind.i64.wrap (48 + (r : Int)) = 48 + (r : Int) := IntWalk.i64_in _ (by omega)
      have hw2 : IntKind.i64.wrap (q : Int) = (q : Int) := IntWalk.i64_in _ (by have := HN.out; omega)
      have hw3 : IntKind.i64.wrap (r : Int) = (r : Int) := IntWalk.i64_in _ (by omega)
      go_enter Tryz.func32, Tryz.ntmps32
      go_wp2
      go_region_with (first | (go_at_call 32; refine (IH.out _ HN.out).mono ?_; rintro e w2 ⟨rfl, hx⟩; have hcx := hx.old))
      all_goals
        have HX := Lib.hid hx
        clear hx hcx hcv hwr hadd hw1 hw2 hw3
        go_wp2
        go_ret
        refine ⟨by rw [HD.out]; rfl, ?_⟩
        first
          | exact ((Ext.refl [] w).drew).trans HX.out (by simp)
          | exact (((Ext.refl [] w).drew).trans HX.out (by simp)).alloc _
          | exact (((Ext.refl [] w).alloc _).drew).trans HX.out (by simp)
section
variable {w0 w : World} {F0 : List Nat} {L : List Res} {v : Value}
set_option maxRecDepth 100000 in
theorem r10Class_any (code : Int) (w : World) (h1 : -9223372036854775808 ≤ code) (h2 : code ≤ 9223372036854775807) : Calls Tryz.prog 22 #[.int .i64 code] w fun e w2 => e = .returned (.int .i64 (classC code)) ∧ w = w2 := by
  by_cases h : code < 200 ∨ 599 < code
  · have HV : Hid (classC code = 0) := by unfold Hid classC; rw [if_pos h]
    rcases h with h | h
    · go_enter Tryz.func22, Tryz.ntmps22
      go_wp2
      go_ret
      rw [HV.out]
      exact ⟨rfl, rfl⟩
    · have h' : 200 ≤ code := by omega
      go_enter Tryz.func22, Tryz.ntmps22
      go_wp2
      go_ret
      rw [HV.out]
      exact ⟨rfl, rfl⟩
  · have HV : Hid (classC code = code.tdiv 100) := by unfold Hid classC; rw [if_neg h]
    have h3 : 200 ≤ code := by omega
    have h4 : code ≤ 599 := by omega
    have HT : Hid (code.tdiv 100 = code / 100) := Int.tdiv_eq_ediv_of_nonneg (by omega)
    clear h
    go_enter Tryz.func22, Tryz.ntmps22
    go_wp2
    go_ret
    rw [HV.out]
    exact ⟨by rw [HT.out]; rfl, rfl⟩
set_option maxRecDepth 100000 in
set_option maxHeartbeats 1000000 in
theorem r10Printed_any (s : Bs) (w : World) (hs : s.length ≤ 1000000) : Calls Tryz.prog 27 #[.string ⟨s.toArray⟩] w fun e w2 => e = .returned (.bool (printB s)) ∧ w = w2 := by
  have hs' : (s.length : Int) ≤ 1000000 := by omega
  clear hs
  go_enter Tryz.func27, Tryz.ntmps27
  go_wp2_with fail
  go_loop [3] (fun i => ∃ k : Nat, i = .int .i64 k ∧ k ≤ s.length ∧ (s.take k).all shownB = true) (fun i => s.length - (intOf i).toNat)
  case atStart => exact ⟨0, rfl, Nat.zero_le _, rfl⟩
  case round =>
    obtain ⟨k, rfl, hk, hall⟩ := hrel
    have HALL := Lib.hid hall
    clear hall
    by_cases hlt : k < s.length
    · have hlt' : (k : Int) < s.length := by omega
      have hix := fun w => idx_at s k hlt (k : Int) rfl w
      have HST : Hid (s.take (k + 1) = s.take k ++ [s[k]]) := List.take_succ_eq_append_getElem hlt
      have HNO : Hid (shownB s[k] = false → printB s = false) := fun h => by
        unfold printB
        rw [← Bool.not_eq_true, List.all_eq_true]
        intro h2
        have := h2 s[k] (List.getElem_mem hlt)
        rw [h] at this
        cases this
      generalize s[k] = c at *
      have hc9 := c.toNat_lt
      by_cases hc : 32 ≤ c.toNat ∧ c.toNat ≤ 126
      · have HC : Hid (shownB c = true) := by unfold Hid shownB; simp [hc]
        have h1 : (32 : Int) ≤ c.toNat := by omega
        have h2 : (c.toNat : Int) ≤ 126 := by omega
        clear hc
        go_wp2
        go_round
        case rel => exact ⟨k + 1, by go_num, by omega, by rw [HST.out, List.all_append, HALL.out]; simp [HC.out]⟩
        case measure => simp [intOf]; omega
      · have HV := Lib.hid (HNO.out (by unfold shownB; simp; omega))
        have hor : (c.toNat : Int) < 32 ∨ ((32 : Int) ≤ c.toNat ∧ (126 : Int) < c.toNat) := by omega
        clear hc
        rcases hor with h1 | ⟨h1, h2⟩
        · go_wp2
          go_ret
          exact ⟨ret_bool HV.out.symm, rfl⟩
        · go_wp2
          go_ret
          exact ⟨ret_bool HV.out.symm, rfl⟩
    · have HV : Hid (printB s = true) := by
        have := HALL.out
        rw [List.take_of_length_le (by omega)] at this
        exact this
      go_wp2
      go_ret
      exact ⟨ret_bool HV.out.symm, rfl⟩
theorem wholeN_take : ∀ (l : List Bs) (k : Nat), (∀ s ∈ l.take k, lastB s = false) → (h : k < l.length) → lastB l[k] = true → wholeN l = k + 1 := fun l k h hk hl => by
  have e : l = l.take k ++ l[k] :: l.drop (k + 1) := by rw [← List.drop_eq_getElem_cons hk, List.take_append_drop]
  rw [e, whole_hit h hl, List.length_take]
  omega
set_option maxRecDepth 100000 in
set_option maxHeartbeats 1000000 in
theorem r10Whole_any (l : List Bs) (hl : l.length ≤ 1000000) (hs : ∀ s ∈ l, s.length ≤ 1000000) (T : TxAt w v l) : Calls Tryz.prog 20 #[v] w fun e w2 => e = .returned (.int .i64 (wholeN l)) ∧ w = w2 := by
  have HT := Lib.hid T
  have HSH := Lib.hid hs
  obtain ⟨a, cap, rfl⟩ := T.form
  have hl' : (l.length : Int) ≤ 1000000 := by omega
  clear T hs hl
  go_enter Tryz.func20, Tryz.ntmps20
  go_wp2_with fail
  go_loopw [3] (fun i wr => ∃ k : Nat, i = .int .i64 k ∧ k ≤ l.length ∧ (∀ s ∈ l.take k, lastB s = false) ∧ w = wr) (fun i _ => l.length - (intOf i).toNat)
  case atStart => exact ⟨0, rfl, Nat.zero_le _, by simp, rfl⟩
  case round =>
    obtain ⟨k, rfl, hk, hno, rfl⟩ := hrel
    have HNO := Lib.hid hno
    clear hno
    by_cases hlt : k < l.length
    · have hlt' : (k : Int) < l.length := by omega
      obtain ⟨b, off, rfl, ck⟩ := HT.out.at hlt
      have HX := Lib.hid (HSH.out _ (List.getElem_mem hlt))
      have HST : Hid (l.take (k + 1) = l.take k ++ [l[k]]) := List.take_succ_eq_append_getElem hlt
      have HW := Lib.hid (wholeN_take l k HNO.out hlt)
      generalize l[k] = x at *
      have hx' : (x.length : Int) ≤ 1000000 := by have := HX.out; omega
      by_cases h4 : 3 < x.length
      · have h4' : (4 : Int) ≤ x.length := by omega
        have hix := idx_at x 3 h4 3 rfl
        have HL : Hid (lastB x = (x[3] == 32)) := by
          unfold Hid lastB
          rw [decide_eq_true h4, List.getElem?_eq_getElem h4]
          rw [Bool.eq_iff_iff]
          simp
        have HEQ := Lib.hid (eq_u8b x[3] 32)
        generalize x[3] = c at *
        by_cases hc : c = 32
        · have HV := Lib.hid (HW.out (by rw [HL.out]; simpa using hc))
          have hcb : ((c.toNat : Int) == 32) = true := by subst hc; rfl
          clear h4 hc
          go_wp2
          go_ret
          rw [HV.out]
          exact ⟨rfl, rfl⟩
        · have HN : Hid (lastB x = false) := by unfold Hid; rw [HL.out]; simpa using hc
          have hcb : ((c.toNat : Int) == 32) = false := by
            rw [beq_eq_false_iff_ne]
            intro e
            exact hc (UInt8.toNat_inj.1 (by show c.toNat = 32; omega))
          clear h4 hc
          go_wp2
          go_roundw
          case rel => exact ⟨k + 1, by go_num, by omega, by
            rw [HST.out]
            intro s hs
            rcases List.mem_append.1 hs with hs | hs
            · exact HNO.out s hs
            · rw [List.mem_singleton] at hs; rw [hs]; exact HN.out, by trivial⟩
          case measure => simp [intOf]; omega
      · have h4' : (x.length : Int) < 4 := by omega
        have HN : Hid (lastB x = false) := by unfold Hid lastB; rw [decide_eq_false h4]; rfl
        clear h4
        go_wp2
        go_roundw
        case rel => exact ⟨k + 1, by go_num, by omega, by
          rw [HST.out]
          intro s hs
          rcases List.mem_append.1 hs with hs | hs
          · exact HNO.out s hs
          · rw [List.mem_singleton] at hs; rw [hs]; exact HN.out, by trivial⟩
        case measure => simp [intOf]; omega
    · have HV : Hid (wholeN l = 0) := by
        have := HNO.out
        rw [List.take_of_length_le (by omega)] at this
        exact whole_none this
      go_wp2
      go_ret
      rw [HV.out]
      exact ⟨rfl, rfl⟩
theorem sizeR_take {s : Bs} {k : Nat} (h : k < s.length) : numV (s.take (k + 1)) = numV (s.take k) * 10 + (s[k].toNat - 48) := by
  rw [List.take_succ_eq_append_getElem h, numV_snoc]
set_option maxRecDepth 100000 in
set_option maxHeartbeats 1000000 in
theorem r10Size_any (s : Bs) (w : World) (hs : s.length ≤ 3) : Calls Tryz.prog 39 #[.string ⟨s.toArray⟩] w fun e w2 => e = .returned (.int .i64 (sizeR s)) ∧ w = w2 := by
  have hs' : (s.length : Int) ≤ 3 := by omega
  have HS := Lib.hid hs
  clear hs
  go_enter Tryz.func39, Tryz.ntmps39
  go_wp2_with fail
  go_loopw [3, 4] (fun n i wr => ∃ k : Nat, i = .int .i64 k ∧ k ≤ s.length ∧ (s.take k).all digB = true ∧ n = .int .i64 (numV (s.take k)) ∧ w = wr) (fun _ i _ => s.length - (intOf i).toNat)
  case atStart => exact ⟨0, rfl, Nat.zero_le _, rfl, rfl, rfl⟩
  case round =>
    obtain ⟨k, rfl, hk, hall, rfl, rfl⟩ := hrel
    have HALL := Lib.hid hall
    have HNL : Hid (numV (s.take k) < 1000) := by
      have h1 := numV_ten (s.take k) hall
      have h2 : (10 : Nat) ^ (s.take k).length ≤ 10 ^ 3 := Nat.pow_le_pow_right (by decide) (by rw [List.length_take]; have := HS.out; omega)
      unfold Hid
      omega
    clear hall
    by_cases hlt : k < s.length
    · have hlt' : (k : Int) < s.length := by omega
      have hk11 : (k : Int) ≤ 11 := by have := HS.out; omega
      have hix := fun w => idx_at s k hlt (k : Int) rfl w
      have HST : Hid (s.take (k + 1) = s.take k ++ [s[k]]) := List.take_succ_eq_append_getElem hlt
      have HSZ := Lib.hid (sizeR_take hlt)
      have HNO : Hid (digB s[k] = false → sizeR s = -1) := fun h => by
        unfold sizeR
        rw [if_neg]
        rintro ⟨_, h2⟩
        rw [List.all_eq_true] at h2
        have := h2 s[k] (List.getElem_mem hlt)
        rw [h] at this
        cases this
      generalize s[k] = c at *
      generalize numV (s.take k) = m at *
      have hm : (m : Int) < 1000 := by have := HNL.out; omega
      have hc9 := c.toNat_lt
      by_cases hc : 48 ≤ c.toNat ∧ c.toNat ≤ 57
      · have HC : Hid (digB c = true) := by unfold Hid digB; simp [hc]
        have h1 : (48 : Int) ≤ c.toNat := by omega
        have h2 : (c.toNat : Int) ≤ 57 := by omega
        have HNX : Hid ((m : Int) * 10 + ((c.toNat : Int) - 48) = ((m * 10 + (c.toNat - 48) : Nat) : Int)) := by unfold Hid; omega
        clear hc
        go_wp2
        go_roundw
        case rel => exact ⟨k + 1, by go_num, by omega, by rw [HST.out, List.all_append, HALL.out]; simp [HC.out], by rw [HSZ.out, ← HNX.out], by trivial⟩
        case measure => simp [intOf]; omega
      · have HV := Lib.hid (HNO.out (by unfold digB; simp; omega))
        have hor : (c.toNat : Int) < 48 ∨ ((48 : Int) ≤ c.toNat ∧ (57 : Int) < c.toNat) := by omega
        clear hc
        rcases hor with h1 | ⟨h1, h2⟩
        · go_wp2
          go_ret
          rw [HV.out]
          exact ⟨rfl, rfl⟩
        · go_wp2
          go_ret
          rw [HV.out]
          exact ⟨rfl, rfl⟩
    · have HTK : Hid (s.take k = s) := List.take_of_length_le (by omega)
      rw [HTK.out] at HALL ⊢
      by_cases h0 : s = []
      · subst h0
        have HV : Hid (sizeR [] = -1) := Lib.hid (by decide)
        go_wp2
        go_ret
        rw [HV.out]
        exact ⟨rfl, rfl⟩
      · have HV : Hid (sizeR s = (numV s : Int)) := by unfold Hid sizeR; rw [if_pos ⟨h0, HALL.out⟩]
        have hpos : ((s.length : Int) == 0) = false := by
          have := List.length_pos_iff.2 h0
          simp; omega
        clear h0
        go_wp2
        go_ret
        rw [HV.out]
        exact ⟨rfl, rfl⟩
end
end Go.Proofs.YtpclhkjladbooaaGreatDoor
