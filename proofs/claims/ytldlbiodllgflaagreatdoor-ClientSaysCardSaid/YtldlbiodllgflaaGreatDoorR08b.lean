/- The document's answer for layer 8: Unstuff, Join, Unstuffed of what was stuffed. Conditions: the lengths fit. -/
import Derived.Test.YtldlbiodllgflaaGreatDoorR08
import Derived.Test.YtldlbiodllgflaaGreatDoorLnW
set_option linter.unusedSimpArgs false
set_option linter.unusedVariables false
set_option linter.unnecessarySimpa false
namespace Go.Proofs.YtldlbiodllgflaaGreatDoor
open Go.RowKit

theorem idx_head (c : UInt8) (r : Bs) (w : World) : (Instr.index 9 (.string ⟨(c :: r).toArray⟩) (.int .i64 0)).run Tryz.prog w = .ok (.int .u8 (c.toNat : Int)) w := idx_at (c :: r) 0 (by simp) 0 rfl w
def unstV (s : Bs) : Bs × Bool := if s = [46] then ([], true) else (undot s, false)
section
variable {w0 w : World} {F0 : List Nat} {L : List Res} {b : Nat} {v : Value}
set_option maxRecDepth 100000 in
set_option maxHeartbeats 1000000 in
theorem r08Unstuff_any (s : Bs) (w : World) (hs : s.length ≤ 9000000000) : Calls Tryz.prog 49 #[.string ⟨s.toArray⟩] w fun e w2 => e = .returned (.tuple #[.string ⟨(unstV s).1.toArray⟩, .bool (unstV s).2]) ∧ w = w2 := by
  have hs' : (s.length : Int) ≤ 9000000000 := by omega
  by_cases h1 : s = [46]
  · subst h1
    have HU : Hid (unstV [46] = ([], true)) := rfl
    rw [HU.out]
    go_enter Tryz.func49, Tryz.ntmps49
    go_wp2
    go_ret2
    exact ⟨rfl, rfl⟩
  · have HU : Hid (unstV s = (undot s, false)) := by unfold Hid unstV; rw [if_neg h1]
    rw [HU.out]
    have hb : (s == [46]) = false := by simpa using h1
    cases s with
    | nil =>
      have HV : Hid (undot [] = []) := rfl
      clear h1
      go_enter Tryz.func49, Tryz.ntmps49
      go_wp2
      go_ret2
      exact ⟨rfl, rfl⟩
    | cons c r =>
      have hix := fun w => idx_head c r w
      have hcut := cut_drop (c :: r) 1 (by simp)
      rw [List.drop_succ_cons, List.drop_zero] at hcut
      have hpos : (0 : Int) < (c :: r : Bs).length := by simp only [List.length_cons]; omega
      have hle : (1 : Int) ≤ (c :: r : Bs).length := by simp only [List.length_cons]; omega
      have HV1 : Hid (c = 46 → undot (c :: r) = r) := fun e => by subst e; rfl
      have HV2 : Hid (c ≠ 46 → undot (c :: r) = c :: r) := fun e => by unfold undot; rw [if_neg (by simpa using e)]
      have HE := Lib.hid (eq_u8b c 46)
      generalize (c :: r : Bs) = s at *
      by_cases hc : c = 46
      · have b1 : ((c.toNat : Int) == 46) = true := by subst hc; rfl
        have HV := Lib.hid (HV1.out hc)
        clear hc
        go_enter Tryz.func49, Tryz.ntmps49
        go_wp2
        go_ret2
        rw [HV.out]
        exact ⟨rfl, rfl⟩
      · have b1 : ((c.toNat : Int) == 46) = false := by
          rw [show ((c.toNat : Int) == 46) = (c == 46) from HE.out]
          simpa using hc
        have HV := Lib.hid (HV2.out hc)
        clear hc
        go_enter Tryz.func49, Tryz.ntmps49
        go_wp2
        go_ret2
        rw [HV.out]
        exact ⟨rfl, rfl⟩
theorem lnJoin_take (l : List Bs) {k : Nat} (h : k < l.length) : lnJoin (l.take (k + 1)) = lnJoin (l.take k) ++ (l[k] ++ crlf) := by
  rw [List.take_succ_eq_append_getElem h, lnJoin_snoc]
theorem lnJoin_le (l : List Bs) (k : Nat) : (lnJoin (l.take k)).length ≤ (lnJoin l).length := by
  conv => rhs; rw [← List.take_append_drop k l]
  unfold lnJoin
  rw [List.flatMap_append, List.length_append]
  omega
theorem lnJoin_one_le (l : List Bs) {x : Bs} (h : x ∈ l) : x.length + 2 ≤ (lnJoin l).length := by
  induction l with
  | nil => cases h
  | cons y l ih =>
    have e : lnJoin (y :: l) = (y ++ crlf) ++ lnJoin l := rfl
    rw [e, List.length_append, List.length_append]
    rcases List.mem_cons.1 h with rfl | h
    · simp
    · have := ih h
      omega
theorem lnJoin_many (l : List Bs) : l.length * 2 ≤ (lnJoin l).length := by
  induction l with
  | nil => simp
  | cons y l ih =>
    have e : lnJoin (y :: l) = (y ++ crlf) ++ lnJoin l := rfl
    rw [e, List.length_append, List.length_append]
    simp
    omega
set_option maxRecDepth 100000 in
set_option maxHeartbeats 1000000 in
theorem r08Join_any (l : List Bs) (T : TxAt w v l) (hj : (lnJoin l).length ≤ 9000000000) : Calls Tryz.prog 23 #[v] w fun e w2 => e = .returned (.string ⟨(lnJoin l).toArray⟩) ∧ w = w2 := by
  have HT := Lib.hid T
  obtain ⟨a, cap, rfl⟩ := T.form
  have HJ := Lib.hid hj
  have hln : (l.length : Int) ≤ 9000000000 := by have := lnJoin_many l; omega
  clear T hj
  go_enter Tryz.func23, Tryz.ntmps23
  go_wp2_with fail
  go_loopw [3, 4] (fun o i wr => ∃ k : Nat, o = .string ⟨(lnJoin (l.take k)).toArray⟩ ∧ i = .int .i64 k ∧ k ≤ l.length ∧ w = wr) (fun _ i _ => l.length - (intOf i).toNat)
  case atStart => exact ⟨0, rfl, rfl, Nat.zero_le _, rfl⟩
  case round =>
    obtain ⟨k, rfl, rfl, hk, rfl⟩ := hrel
    by_cases hlt : k < l.length
    · have hlt' : (k : Int) < l.length := by omega
      obtain ⟨b, off, rfl, ck⟩ := HT.out.at hlt
      have HST := Lib.hid (lnJoin_take l hlt)
      have HLE := Lib.hid (lnJoin_le l k)
      have HXL := Lib.hid (lnJoin_one_le l (List.getElem_mem hlt))
      generalize l[k] = x at *
      generalize lnJoin (l.take k) = o at *
      have a1 := add_str x [13, 10] (by have := HXL.out; have := HJ.out; simp [maxLen]; omega)
      obtain ⟨y, hy⟩ : ∃ y : Bs, y = x ++ [13, 10] := ⟨_, rfl⟩
      have HY := Lib.hid hy
      have a2 := add_str o y (by have := HXL.out; have := HJ.out; have := HLE.out; rw [hy]; simp [maxLen]; omega)
      rw [← hy] at a1
      clear hy
      go_wp2
      go_roundw
      case rel => exact ⟨k + 1, by rw [HST.out, HY.out], by go_num, by omega, by trivial⟩
      case measure => simp [intOf]; omega
    · obtain rfl : k = l.length := by omega
      have HE : Hid (lnJoin (l.take l.length) = lnJoin l) := by unfold Hid; rw [List.take_of_length_le (Nat.le_refl _)]
      go_wp2
      go_ret
      rw [HE.out]
      exact ⟨rfl, rfl⟩
set_option maxRecDepth 100000 in
set_option maxHeartbeats 2000000 in
theorem r08UnstuffedS (s : Bs) (M : List Bs) (hM : crR s = (M ++ [[46]], [])) (hne : ∀ x ∈ M, x ≠ [46]) (S : Sp w0 F0 w L) (hn : s.length ≤ 9000000000) :
    Calls Tryz.prog 22 #[.string ⟨s.toArray⟩] w fun e w2 => ∃ v, e = .returned (.tuple #[v, .string ⟨#[]⟩, .bool true]) ∧ Sp w0 F0 w2 (textsR v (M.map undot) :: L) := by
  have HSP := Lib.hid (r08SplitS s S hn)
  have hback := (crR_back s.length s (Nat.le_refl _)).1
  rw [hM, List.append_nil] at hback
  have HBK := Lib.hid hback
  have HNE := Lib.hid hne
  have hn' : (s.length : Int) ≤ 9000000000 := by omega
  rw [hM] at HSP
  dsimp only at HSP
  have hll : (M ++ [[46]] : List Bs).length = M.length + 1 := by simp
  have hml : (M.length : Int) ≤ 9000000000 := by
    have := lnJoin_many (M ++ [[46]])
    rw [HBK.out, hll] at this
    omega
  have HGT : Hid (∀ k, (h : k < M.length) → (M ++ [[46]])[k]? = some M[k]) := fun k h => by rw [List.getElem?_append_left h, List.getElem?_eq_getElem h]
  have HLST : Hid ((M ++ [[46]])[M.length]? = some [46]) := by unfold Hid; rw [List.getElem?_append_right (Nat.le_refl _)]; simp
  have HJT : Hid (∀ k, k ≤ M.length → (lnJoin (M.take k)).length ≤ s.length) := fun k h => by
    have := lnJoin_le (M ++ [[46]]) k
    rw [List.take_append_of_le_length h, HBK.out] at this
    exact this
  have HEND : Hid ((lnJoin M).length + 3 = s.length) := by
    have h := congrArg List.length HBK.out
    rw [lnJoin_snoc, List.length_append] at h
    exact h
  clear S hn hM hback hne
  go_enter Tryz.func22, Tryz.ntmps22
  go_wp2_with fail
  refine HSP.out.mono ?_
  rintro e w1 ⟨v1, rfl, S⟩
  have HSA := Lib.hid S.textsNone
  obtain ⟨a1, cap1, rfl⟩ := S.tx.form
  rw [hll] at HSA
  rw [hll]
  clear S HSP
  go_wp2_with fail
  generalize w1.alloc (.cells #[] 9) = w2 at *
  generalize w1.heap.size = g1 at *
  go_loopw [7, 8, 9] (fun o n i wr => ∃ k : Nat, n = .int .i64 (lnJoin (M.take k)).length ∧ i = .int .i64 k ∧ k ≤ M.length ∧ Sp w0 F0 wr (textsR o ((M.take k).map undot) :: textsR (.slice a1 (M.length + 1) cap1) (M ++ [[46]]) :: L)) (fun _ _ i _ => M.length - (intOf i).toNat)
  case atStart => exact ⟨0, rfl, rfl, Nat.zero_le _, HSA.out⟩
  case round =>
    clear HSA
    obtain ⟨k, rfl, rfl, hk, S⟩ := hrel
    have HS := Lib.hid S
    have HT := Lib.hid S.pull1.tx
    clear S
    have hlt' : (k : Int) < (M.length : Int) + 1 := by omega
    have hltc : (k : Int) < ((M.length + 1 : Nat) : Int) := by omega
    have hjk : (((lnJoin (M.take k)).length : Nat) : Int) ≤ s.length := by have := HJT.out k hk; omega
    by_cases hlt : k < M.length
    · obtain ⟨hi, hi2⟩ := List.getElem?_eq_some_iff.1 (HGT.out k hlt)
      obtain ⟨b, off, rfl, ck⟩ := HT.out.at hi
      rw [hi2] at ck
      have HXN := Lib.hid (HNE.out _ (List.getElem_mem hlt))
      have HJN : Hid ((lnJoin (M.take (k + 1))).length = (lnJoin (M.take k)).length + (M[k].length + 2)) := by
        unfold Hid
        rw [lnJoin_take M hlt]
        simp
      have HJL := HJT.out (k + 1) hlt
      rw [HJN.out] at HJL
      have HMP : Hid ((M.take (k + 1)).map undot = (M.take k).map undot ++ [undot M[k]]) := by unfold Hid; rw [List.take_succ_eq_append_getElem hlt, List.map_append]; rfl
      have HLN : Hid (((M.take k).map undot).length = k) := by unfold Hid; rw [List.length_map, List.length_take]; omega
      generalize M[k] = x at *
      have HUN := Lib.hid (fun w' => r08Unstuff_any x w' (by omega))
      rw [show unstV x = (undot x, false) from by unfold unstV; rw [if_neg HXN.out]] at HUN
      dsimp only at HUN
      generalize undot x = u at *
      generalize (M.take k).map undot = ol at *
      generalize (lnJoin (M.take k)).length = nn at *
      have hxl : (x.length : Int) ≤ 9000000000 := by omega
      have hnl : (nn : Int) + (x.length + 2) ≤ 9000000000 := by omega
      clear hi hi2
      go_wp2_with fail
      refine (HUN.out _).mono ?_
      rintro e wq ⟨rfl, rfl⟩
      obtain ⟨gg, cc, w5, hrun, S5⟩ := Sp.appendText 49 u (by have := HLN.out; omega) (HS.out.box #[.string ⟨u.toArray⟩] 9)
      have HRUN := Lib.hid hrun
      have HS5 := Lib.hid S5
      rw [← HMP.out] at HS5
      clear hrun S5
      go_wp2_with (at_builtin; refine wpList_append_run_g (by rfl) (by rfl) (by rfl) (by rfl) HRUN.out ?_)
      go_roundw
      case rel => exact ⟨k + 1, by rw [HJN.out]; congr 1, by go_num, by omega, HS5.out⟩
      case measure => simp [intOf]; omega
    · obtain rfl : k = M.length := by omega
      have HTK : Hid (M.take M.length = M) := List.take_of_length_le (Nat.le_refl _)
      rw [HTK.out] at HS hjk
      obtain ⟨hi, hi2⟩ := List.getElem?_eq_some_iff.1 HLST.out
      obtain ⟨b, off, rfl, ck⟩ := HT.out.at hi
      rw [hi2] at ck
      have HUN := Lib.hid (fun w' => r08Unstuff_any [46] w' (by simp))
      rw [show unstV [46] = ([], true) from rfl] at HUN
      dsimp only at HUN
      obtain ⟨a4, c4, rfl⟩ := HS.out.tx.form
      have hcut := cut_drop s s.length (Nat.le_refl _)
      rw [List.drop_of_length_le (Nat.le_refl _)] at hcut
      have hend : ((lnJoin M).length : Int) + 3 = s.length := by have := HEND.out; omega
      have hend2 : ((lnJoin M).length : Int) + (1 + 2) = s.length := by omega
      have HSF := Lib.hid (HS.out.drew.pull1.drop)
      have hnl : ((lnJoin M).length : Int) ≤ 9000000000 := by omega
      clear hi hi2
      go_wp2_with fail
      refine (HUN.out _).mono ?_
      rintro e wq ⟨rfl, rfl⟩
      go_wp2_with fail
      go_region
      go_wp2
      exact bodyPost_ret (v := .tuple #[.slice a4 (M.map undot).length c4, .string ⟨#[]⟩, .bool true]) (by simp [results, Tryz.results22, go_sem]; rfl) rfl ⟨_, rfl, HSF.out⟩
end
end Go.Proofs.YtldlbiodllgflaaGreatDoor
