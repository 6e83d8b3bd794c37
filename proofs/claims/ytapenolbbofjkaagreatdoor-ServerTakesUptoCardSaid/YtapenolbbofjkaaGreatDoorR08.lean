/- The document's answer for layer 8: Ends, Split. Conditions: the lengths fit. The document's answer for layer 8: Unstuff, Join, Unstuffed of what was stuffed. Conditions: the lengths fit. -/
import Derived.Test.YtapenolbbofjkaaGreatDoorLnQ
import Derived.Test.YtapenolbbofjkaaGreatDoorLnR
import Derived.Test.YtapenolbbofjkaaGreatDoorCmV
import Derived.Test.YtapenolbbofjkaaGreatDoorLnW
/-! R08 -/
set_option linter.unusedSimpArgs false
set_option linter.unusedVariables false
set_option linter.unnecessarySimpa false
namespace Go.Proofs.YtapenolbbofjkaaGreatDoor
open Go.RowKit

theorem cut_part (s : Bs) (m k : Nat) : (ByteArray.mk s.toArray).extract m k = ⟨((s.take k).drop m).toArray⟩ := by
  rw [Lib.extract_mk, List.drop_take]
/-- Does a line end at a place? -/
def endsB (s : Bs) (i : Nat) : Bool := s[i]? == some 13 && s[i + 1]? == some 10
theorem noCr_ends : ∀ s : Bs, noCr s = true ↔ ∀ j, endsB s j = false
  | [] => by simp [noCr, endsB]
  | c :: r => by
    have ih := noCr_ends r
    have h0 : endsB (c :: r) 0 = (c == 13 && r.head? == some 10) := by
      unfold endsB
      cases r <;> simp
    have hs : ∀ j, endsB (c :: r) (j + 1) = endsB r j := fun j => by unfold endsB; simp
    unfold noCr
    rw [Bool.and_eq_true, Bool.not_eq_true', ih]
    constructor
    · rintro ⟨h1, h2⟩ j
      cases j with
      | zero => rw [h0]; exact h1
      | succ j => rw [hs]; exact h2 j
    · intro h
      exact ⟨by rw [← h0]; exact h 0, fun j => by rw [← hs]; exact h (j + 1)⟩
theorem crR_none : ∀ {s : Bs}, noCr s = true → crR s = ([], s)
  | [], _ => rfl
  | c :: r, h => by
    obtain ⟨h1, h2⟩ := noCr_cons h
    rw [crR_miss h1, crR_none h2]
/-- What was parted so far. -/
structure CrSo (s : Bs) (k m : Nat) (o : List Bs) : Prop where
  le : m ≤ s.length
  so : crR s = (o ++ (crR (s.drop m)).1, (crR (s.drop m)).2)
  no : ∀ j, m ≤ j → j < k → endsB s j = false
theorem CrSo.start (s : Bs) : CrSo s 0 0 [] := ⟨Nat.zero_le _, by simp, fun j _ h => absurd h (Nat.not_lt_zero _)⟩
theorem CrSo.skip {s : Bs} {k m : Nat} {o : List Bs} (h : CrSo s k m o) (hk : k < m) : CrSo s (k + 1) m o := ⟨h.le, h.so, fun j h1 h2 => by omega⟩
theorem CrSo.miss {s : Bs} {k m : Nat} {o : List Bs} (h : CrSo s k m o) (he : endsB s k = false) : CrSo s (k + 1) m o := ⟨h.le, h.so, fun j h1 h2 => by
  by_cases e : j = k
  · subst e; exact he
  · exact h.no j h1 (by omega)⟩
theorem ends_lt {s : Bs} {k : Nat} (he : endsB s k = true) : ∃ h : k + 1 < s.length, s[k] = 13 ∧ s[k + 1] = 10 := by
  unfold endsB at he
  simp only [Bool.and_eq_true, beq_iff_eq] at he
  obtain ⟨h1, h2⟩ := List.getElem?_eq_some_iff.1 he.2
  obtain ⟨h3, h4⟩ := List.getElem?_eq_some_iff.1 he.1
  exact ⟨h1, h4, h2⟩
theorem CrSo.hit {s : Bs} {k m : Nat} {o : List Bs} (h : CrSo s k m o) (hm : m ≤ k) (he : endsB s k = true) : CrSo s (k + 1) (k + 2) (o ++ [(s.take k).drop m]) := by
  obtain ⟨hlt, e1, e2⟩ := ends_lt he
  have hd : s.drop m = (s.take k).drop m ++ 13 :: 10 :: s.drop (k + 2) := by
    have h1 : s = s.take k ++ s.drop k := (List.take_append_drop k s).symm
    have h2 : s.drop k = 13 :: 10 :: s.drop (k + 2) := by
      rw [List.drop_eq_getElem_cons (by omega : k < s.length), List.drop_eq_getElem_cons hlt, e1, e2]
    conv => lhs; rw [h1, List.drop_append_of_le_length (by rw [List.length_take]; omega), h2]
  have hn : noCr ((s.take k).drop m) = true := (noCr_ends _).2 fun j => by
    cases hx : endsB ((s.take k).drop m) j with
    | false => rfl
    | true =>
      obtain ⟨l1, x1, x2⟩ := ends_lt hx
      rw [List.length_drop, List.length_take] at l1
      have := h.no (m + j) (by omega) (by omega)
      unfold endsB at this
      rw [List.getElem_drop, List.getElem_take] at x1 x2
      rw [List.getElem?_eq_getElem (by omega), List.getElem?_eq_getElem (by omega : m + j + 1 < s.length), x1] at this
      have x3 : s[m + j + 1] = 10 := x2
      rw [x3] at this
      exact absurd this (by decide)
  refine ⟨by omega, ?_, fun j h1 h2 => by omega⟩
  rw [h.so, hd, crR_line _ _ hn]
  simp
theorem CrSo.done {s : Bs} {m : Nat} {o : List Bs} (h : CrSo s s.length m o) : crR s = (o, s.drop m) := by
  have hn : noCr (s.drop m) = true := (noCr_ends _).2 fun j => by
    have e : endsB (s.drop m) j = endsB s (m + j) := by
      unfold endsB
      rw [List.getElem?_drop, List.getElem?_drop, Nat.add_assoc]
    rw [e]
    by_cases hj : m + j < s.length
    · exact h.no _ (by omega) hj
    · unfold endsB
      rw [List.getElem?_eq_none (by omega)]
      rfl
  rw [h.so, crR_none hn]
  simp
section
variable {w0 w : World} {F0 : List Nat} {L : List Res} {b : Nat} {v : Value}
set_option maxRecDepth 100000 in
set_option maxHeartbeats 1000000 in
theorem r08Ends_any (s : Bs) (i : Nat) (w : World) (hi : i < s.length) (hs : s.length ≤ 9000000000) : Calls Tryz.prog 42 #[.string ⟨s.toArray⟩, .int .i64 i] w fun e w2 => e = .returned (.bool (endsB s i)) ∧ w = w2 := by
  have hs' : (s.length : Int) ≤ 9000000000 := by omega
  have hi' : (i : Int) < s.length := by omega
  have hix := fun w => idx_at s i hi (i : Int) rfl w
  by_cases h1 : i + 1 < s.length
  · have h1' : (i : Int) + 1 < s.length := by omega
    have hiy := fun w => idx_at s (i + 1) h1 ((i : Int) + 1) (by omega) w
    have HV : Hid (endsB s i = (s[i] == 13 && s[i + 1] == 10)) := by
      unfold Hid endsB
      rw [List.getElem?_eq_getElem hi, List.getElem?_eq_getElem h1]
      rw [Bool.eq_iff_iff]
      simp
    have HE1 := Lib.hid (eq_u8b s[i] 13)
    have HE2 := Lib.hid (eq_u8b s[i + 1] 10)
    generalize s[i] = c at *
    generalize s[i + 1] = d at *
    clear h1 hi
    cases hc : c == 13 with
    | true =>
      have b1 : ((c.toNat : Int) == 13) = true := by rw [← hc]; exact HE1.out
      have HC := Lib.hid hc
      clear hc
      cases hd : d == 10 with
      | true =>
        have b2 : ((d.toNat : Int) == 10) = true := by rw [← hd]; exact HE2.out
        have HV2 : Hid (endsB s i = true) := by unfold Hid; rw [HV.out, HC.out, hd]; rfl
        clear hd
        go_enter Tryz.func42, Tryz.ntmps42
        go_wp2
        go_ret
        exact ⟨ret_bool HV2.out.symm, rfl⟩
      | false =>
        have b2 : ((d.toNat : Int) == 10) = false := by rw [← hd]; exact HE2.out
        have HV2 : Hid (endsB s i = false) := by unfold Hid; rw [HV.out, HC.out, hd]; rfl
        clear hd
        go_enter Tryz.func42, Tryz.ntmps42
        go_wp2
        go_ret
        exact ⟨ret_bool HV2.out.symm, rfl⟩
    | false =>
      have b1 : ((c.toNat : Int) == 13) = false := by rw [← hc]; exact HE1.out
      have HV2 : Hid (endsB s i = false) := by unfold Hid; rw [HV.out, hc]; rfl
      clear hc
      go_enter Tryz.func42, Tryz.ntmps42
      go_wp2
      go_ret
      exact ⟨ret_bool HV2.out.symm, rfl⟩
  · have h1' : (s.length : Int) ≤ (i : Int) + 1 := by omega
    have HV2 : Hid (endsB s i = false) := by
      unfold Hid endsB
      rw [List.getElem?_eq_none (by omega : s.length ≤ i + 1)]
      simp
    clear h1
    go_enter Tryz.func42, Tryz.ntmps42
    go_wp2
    go_ret
    exact ⟨ret_bool HV2.out.symm, rfl⟩
set_option maxRecDepth 100000 in
set_option maxHeartbeats 2000000 in
theorem r08SplitS (s : Bs) (S : Sp w0 F0 w L) (hn : s.length ≤ 9000000000) : Calls Tryz.prog 17 #[.string ⟨s.toArray⟩] w fun e w2 => ∃ v, e = .returned (.tuple #[v, .string ⟨(crR s).2.toArray⟩]) ∧ Sp w0 F0 w2 (textsR v (crR s).1 :: L) := by
  have HS1 := Lib.hid S.textsNone
  have hn' : (s.length : Int) ≤ 9000000000 := by omega
  clear S
  go_enter Tryz.func17, Tryz.ntmps17
  go_wp2_with fail
  generalize w.alloc (.cells #[] 9) = w1 at *
  generalize w.heap.size = g0 at *
  go_loopw [4, 5, 6] (fun z f i wr => ∃ (k m : Nat) (o : List Bs), f = .int .i64 m ∧ i = .int .i64 k ∧ m ≤ k + 1 ∧ k ≤ s.length ∧ o.length ≤ k ∧ CrSo s k m o ∧ Sp w0 F0 wr (textsR z o :: L)) (fun _ _ i _ => s.length - (intOf i).toNat)
  case atStart => exact ⟨0, 0, [], rfl, rfl, by omega, by omega, by simp, CrSo.start s, HS1.out⟩
  case round =>
    obtain ⟨k, m, o, rfl, rfl, hmk, hk, hol, hso, S3⟩ := hrel
    have HSO := Lib.hid hso
    have HS3 := Lib.hid S3
    have HOL := Lib.hid hol
    have hml : (m : Int) ≤ s.length := by have := hso.le; omega
    clear hso S3 HS1 hol
    by_cases hlt : k < s.length
    · have hlt' : (k : Int) < s.length := by omega
      have HEN := Lib.hid (fun w' => r08Ends_any s k w' hlt hn)
      by_cases hmk2 : m ≤ k
      · have hmk' : (m : Int) ≤ k := by omega
        cases he : endsB s k with
        | true =>
          have HNX := Lib.hid (HSO.out.hit hmk2 he)
          have HEV := Lib.hid he
          have hcut := cut_part s m k
          clear he
          generalize (s.take k).drop m = x at *
          go_wp2_with fail
          refine (HEN.out _).mono ?_
          rw [HEV.out]
          rintro e wq ⟨rfl, rfl⟩
          obtain ⟨gg, cap, w4, hrun, S4⟩ := Sp.appendText 22 x (by have := HOL.out; omega) (HS3.out.box #[.string ⟨x.toArray⟩] 9)
          have HRUN := Lib.hid hrun
          have HS4 := Lib.hid S4
          clear S4 hrun
          go_wp2_with (at_builtin; refine wpList_append_run_g (by rfl) (by rfl) (by rfl) (by rfl) HRUN.out ?_)
          go_roundw
          case rel => exact ⟨k + 1, k + 2, _, by go_num, by go_num, by omega, by omega, by have := HOL.out; simp; omega, HNX.out, HS4.out⟩
          case measure => simp [intOf]; omega
        | false =>
          have HNX := Lib.hid (HSO.out.miss he)
          have HEV := Lib.hid he
          clear he
          go_wp2_with fail
          refine (HEN.out _).mono ?_
          rw [HEV.out]
          rintro e wq ⟨rfl, rfl⟩
          go_wp2
          go_roundw
          case rel => exact ⟨k + 1, m, o, rfl, by go_num, by omega, by omega, by have := HOL.out; omega, HNX.out, HS3.out⟩
          case measure => simp [intOf]; omega
      · have hmk' : (k : Int) < m := by omega
        have HNX := Lib.hid (HSO.out.skip (by omega))
        clear hmk2
        go_wp2
        go_roundw
        case rel => exact ⟨k + 1, m, o, rfl, by go_num, by omega, by omega, by have := HOL.out; omega, HNX.out, HS3.out⟩
        case measure => simp [intOf]; omega
    · obtain rfl : k = s.length := by omega
      have HV := Lib.hid HSO.out.done
      have hcut := cut_drop s m (by have := HSO.out.le; omega)
      obtain ⟨a3, c3, rfl⟩ := HS3.out.tx.form
      generalize s.drop m = x at *
      go_wp2_with fail
      go_region
      go_wp2
      go_ret2
      rw [HV.out]
      exact ⟨_, rfl, HS3.out.drew⟩
end
end Go.Proofs.YtapenolbbofjkaaGreatDoor

/-! R08b -/
namespace Go.Proofs.YtapenolbbofjkaaGreatDoor
open Go.RowKit

theorem idx_head (c : UInt8) (r : Bs) (w : World) : (Instr.index 9 (.string ⟨(c :: r).toArray⟩) (.int .i64 0)).run Tryz.prog w = .ok (.int .u8 (c.toNat : Int)) w := idx_at (c :: r) 0 (by simp) 0 rfl w
def unstV (s : Bs) : Bs × Bool := if s = [46] then ([], true) else (undot s, false)
section
variable {w0 w : World} {F0 : List Nat} {L : List Res} {b : Nat} {v : Value}
theorem lnJoin_take (l : List Bs) {k : Nat} (h : k < l.length) : lnJoin (l.take (k + 1)) = lnJoin (l.take k) ++ (l[k] ++ crlf) := by
  rw [List.take_succ_eq_append_getElem h, lnJoin_snoc]
theorem lnJoin_le (l : List Bs) (k : Nat) : (lnJoin (l.take k)).length ≤ (lnJoin l).length := by
  conv => rhs; rw [← List.take_append_drop k l]
  unfold lnJoin
  rw [List.flatMap_append, List.length_append]
  omega
theorem lnJoin_one_le (l : List Bs) {x : Bs} (h : x ∈ l) : x.length + 2 ≤ (lnJoin l).length := by
  induction l with
  | nil => cases h
  | cons y l ih =>
    have e : lnJoin (y :: l) = (y ++ crlf) ++ lnJoin l := rfl
    rw [e, List.length_append, List.length_append]
    rcases List.mem_cons.1 h with rfl | h
    · simp
    · have := ih h
      omega
theorem lnJoin_many (l : List Bs) : l.length * 2 ≤ (lnJoin l).length := by
  induction l with
  | nil => simp
  | cons y l ih =>
    have e : lnJoin (y :: l) = (y ++ crlf) ++ lnJoin l := rfl
    rw [e, List.length_append, List.length_append]
    simp
    omega
set_option maxRecDepth 100000 in
set_option maxHeartbeats 1000000 in
theorem r08Join_any (l : List Bs) (T : TxAt w v l) (hj : (lnJoin l).length ≤ 9000000000) : Calls Tryz.prog 18 #[v] w fun e w2 => e = .returned (.string ⟨(lnJoin l).toArray⟩) ∧ w = w2 := by
  have HT := Lib.hid T
  obtain ⟨a, cap, rfl⟩ := T.form
  have HJ := Lib.hid hj
  have hln : (l.length : Int) ≤ 9000000000 := by have := lnJoin_many l; omega
  clear T hj
  go_enter Tryz.func18, Tryz.ntmps18
  go_wp2_with fail
  go_loopw [3, 4] (fun o i wr => ∃ k : Nat, o = .string ⟨(lnJoin (l.take k)).toArray⟩ ∧ i = .int .i64 k ∧ k ≤ l.length ∧ w = wr) (fun _ i _ => l.length - (intOf i).toNat)
  case atStart => exact ⟨0, rfl, rfl, Nat.zero_le _, rfl⟩
  case round =>
    obtain ⟨k, rfl, rfl, hk, rfl⟩ := hrel
    by_cases hlt : k < l.length
    · have hlt' : (k : Int) < l.length := by omega
      obtain ⟨b, off, rfl, ck⟩ := HT.out.at hlt
      have HST := Lib.hid (lnJoin_take l hlt)
      have HLE := Lib.hid (lnJoin_le l k)
      have HXL := Lib.hid (lnJoin_one_le l (List.getElem_mem hlt))
      generalize l[k] = x at *
      generalize lnJoin (l.take k) = o at *
      have a1 := add_str x [13, 10] (by have := HXL.out; have := HJ.out; simp [maxLen]; omega)
      obtain ⟨y, hy⟩ : ∃ y : Bs, y = x ++ [13, 10] := ⟨_, rfl⟩
      have HY := Lib.hid hy
      have a2 := add_str o y (by have := HXL.out; have := HJ.out; have := HLE.out; rw [hy]; simp [maxLen]; omega)
      rw [← hy] at a1
      clear hy
      go_wp2
      go_roundw
      case rel => exact ⟨k + 1, by rw [HST.out, HY.out], by go_num, by omega, by trivial⟩
      case measure => simp [intOf]; omega
    · obtain rfl : k = l.length := by omega
      have HE : Hid (lnJoin (l.take l.length) = lnJoin l) := by unfold Hid; rw [List.take_of_length_le (Nat.le_refl _)]
      go_wp2
      go_ret
      rw [HE.out]
      exact ⟨rfl, rfl⟩
end
end Go.Proofs.YtapenolbbofjkaaGreatDoor
