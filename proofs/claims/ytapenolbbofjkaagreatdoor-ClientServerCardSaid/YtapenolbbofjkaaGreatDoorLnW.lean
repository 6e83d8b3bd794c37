/- line: Join, Stuff, Split. Conditions: the lengths fit; what Go's variables hold. -/
import Derived.Test.YtapenolbbofjkaaGreatDoorLnP
import Derived.Test.YtapenolbbofjkaaGreatDoorAdW
import Derived.Test.YtapenolbbofjkaaGreatDoorTx
import Derived.Test.YtapenolbbofjkaaGreatDoorBld2
set_option linter.unusedSimpArgs false
set_option linter.unusedVariables false
set_option linter.unnecessarySimpa false
namespace Go.Proofs.YtapenolbbofjkaaGreatDoor
open Go.RowKit

theorem lnJoin_snoc (l : List Bs) (x : Bs) : lnJoin (l ++ [x]) = lnJoin l ++ (x ++ crlf) := by simp [lnJoin]
theorem lnJoin_len (l : List Bs) (h : ∀ s ∈ l, s.length ≤ 1000000) : (lnJoin l).length ≤ l.length * 1000002 := by
  induction l with
  | nil => simp [lnJoin]
  | cons x l ih =>
    have h1 := ih fun s hs => h s (by simp [hs])
    have h2 := h x (by simp)
    unfold lnJoin at h1 ⊢
    rw [List.flatMap_cons, List.length_append, List.length_append]
    simp only [List.length_cons, List.length_nil]
    rw [Nat.add_mul]
    omega
def stufL (s : Bs) : Bs := (if s.head? = some 46 then [46] else []) ++ (s ++ crlf)
def lnStuf0 (l : List Bs) : Bs := l.flatMap stufL
theorem lnStuff_eq (l : List Bs) : lnStuff l = lnStuf0 l ++ 46 :: crlf := rfl
theorem lnStuf0_snoc (l : List Bs) (x : Bs) : lnStuf0 (l ++ [x]) = lnStuf0 l ++ stufL x := by simp [lnStuf0]
theorem stufL_len (s : Bs) : (stufL s).length ≤ s.length + 3 := by
  unfold stufL
  split <;> simp
theorem lnStuf0_len (l : List Bs) (h : ∀ s ∈ l, s.length ≤ 1000000) : (lnStuf0 l).length ≤ l.length * 1000003 := by
  induction l with
  | nil => simp [lnStuf0]
  | cons x l ih =>
    have h1 := ih fun s hs => h s (by simp [hs])
    have h2 := h x (by simp)
    have h3 := stufL_len x
    unfold lnStuf0 at h1 ⊢
    rw [List.flatMap_cons, List.length_append, List.length_cons, Nat.add_mul]
    omega
theorem dot_prefix (s : Bs) : Lib.hasPrefix s [46] = decide (s.head? = some 46) := by
  cases s with
  | nil => rfl
  | cons c r =>
    rw [Bool.eq_iff_iff]
    simp [Lib.hasPrefix]
    exact eq_comm
section
variable {w0 w : World} {F0 : List Nat} {L : List Res} {v : Value} {T b : Nat} {l s : Bs}
theorem writeStrS (s : Bs) (S : Sp w0 F0 w (bldW 119 b l :: L)) (hl : l.length + s.length ≤ 10000000000000) :
    Calls Tryz.prog 77 #[.pointer (some ⟨b, 0, none⟩), .string ⟨s.toArray⟩] w fun e w2 => e = .returned (.tuple #[.int .i64 s.length, .nilIface]) ∧ Sp w0 F0 w2 (bldW 119 b (l ++ s) :: L) := by
  obtain ⟨F, h, hk⟩ := S.take
  exact (writeStr_any 119 b F l s w isOutBld h (by omega)).mono fun _ _ ⟨he, F2, h2, m⟩ => ⟨he, hk _ _ F2 h2 m⟩
set_option maxRecDepth 100000 in
set_option maxHeartbeats 2000000 in
theorem lnJoin_any (l : List Bs) (h0 : l ≠ []) (hn : l.length ≤ 1000000) (hs : ∀ s ∈ l, s.length ≤ 1000000) (T : TxAt w v l) : Calls Tryz.prog 114 #[v] w fun e w2 => e = .returned (.string ⟨(lnJoin l).toArray⟩) ∧ Sp w [] w2 [] := by
  have HT := Lib.hid T
  have HSH := Lib.hid hs
  have hln : (l.length : Int) ≤ 1000000 := by omega
  have HN := Lib.hid h0
  obtain ⟨a, cap, rfl⟩ := T.form
  have HS0 := Lib.hid ((Sp.nil w []).bldNew 119)
  clear T hs h0 hn
  go_enter Tryz.func114, Tryz.ntmps114
  go_wp2_with fail
  generalize w.alloc (.cells #[.pointer none, .slice none 0 0] 119) = w1 at *
  generalize w.heap.size = q at *
  go_loopw [8] (fun i wr => ∃ k : Nat, i = .int .i64 k ∧ k ≤ l.length ∧ Sp w [] wr (bldW 119 q (lnJoin (l.take k)) :: [])) (fun i _ => l.length - (intOf i).toNat)
  case atStart => exact ⟨0, rfl, Nat.zero_le _, HS0.out⟩
  case round =>
    clear HS0
    obtain ⟨k, rfl, hk, S⟩ := hrel
    have HS := Lib.hid S
    have HT3 := Lib.hid (HT.out.ext S.ext)
    clear S
    by_cases hlt : k < l.length
    · have hlt' : (k : Int) < l.length := by omega
      obtain ⟨b, off, rfl, ck⟩ := HT3.out.at hlt
      have HX : Hid (l[k].length ≤ 1000000) := HSH.out _ (List.getElem_mem hlt)
      have HST : Hid (lnJoin (l.take (k + 1)) = lnJoin (l.take k) ++ (l[k] ++ crlf)) := by unfold Hid; rw [List.take_succ_eq_append_getElem hlt, lnJoin_snoc]
      have HLN : Hid ((lnJoin (l.take k)).length ≤ 1000000 * 1000002) := by
        have := lnJoin_len (l.take k) fun s hs => HSH.out s (List.mem_of_mem_take hs)
        refine Nat.le_trans this (Nat.mul_le_mul_right _ ?_)
        rw [List.length_take]
        omega
      generalize l[k] = x at *
      generalize lnJoin (l.take k) = y at *
      go_wp2_with fail
      refine (writeStrS x HS.out (by have := HLN.out; have := HX.out; omega)).mono ?_
      rintro e w3 ⟨rfl, S3⟩
      have HS3 := Lib.hid S3
      clear S3 HS
      go_wp2_with fail
      refine (writeStrS [13, 10] HS3.out (by have := HLN.out; have := HX.out; simp; omega)).mono ?_
      rintro e w4 ⟨rfl, S4⟩
      have HS4 := Lib.hid S4
      clear S4 HS3
      go_wp2_with fail
      go_roundw
      case rel => exact ⟨k + 1, by go_num, by omega, by rw [HST.out, ← List.append_assoc]; exact HS4.out⟩
      case measure => simp [intOf]; omega
    · have HTK : Hid (l.take k = l) := List.take_of_length_le (by omega)
      rw [HTK.out] at HS
      have HNE : Hid (lnJoin l ≠ []) := by
        have := HN.out
        unfold Hid
        cases l with
        | nil => exact absurd rfl this
        | cons x r => simp [lnJoin]
      go_wp2_with fail
      refine (stringS HS.out HNE.out).mono ?_
      rintro e w3 ⟨rfl, S3⟩
      have HS3 := Lib.hid S3
      go_wp2
      go_ret
      exact ⟨rfl, HS3.out⟩
set_option maxRecDepth 100000 in
set_option maxHeartbeats 2000000 in
theorem lnStuff_any (l : List Bs) (hn : l.length ≤ 1000000) (hs : ∀ s ∈ l, s.length ≤ 1000000) (T : TxAt w v l) : Calls Tryz.prog 83 #[v] w fun e w2 => e = .returned (.string ⟨(lnStuff l).toArray⟩) ∧ Sp w [] w2 [] := by
  have HT := Lib.hid T
  have HSH := Lib.hid hs
  have hln : (l.length : Int) ≤ 1000000 := by omega
  obtain ⟨a, cap, rfl⟩ := T.form
  have HS0 := Lib.hid ((Sp.nil w []).bldNew 119)
  clear T hs hn
  go_enter Tryz.func83, Tryz.ntmps83
  go_wp2_with fail
  generalize w.alloc (.cells #[.pointer none, .slice none 0 0] 119) = w1 at *
  generalize w.heap.size = q at *
  go_loopw [8] (fun i wr => ∃ k : Nat, i = .int .i64 k ∧ k ≤ l.length ∧ Sp w [] wr (bldW 119 q (lnStuf0 (l.take k)) :: [])) (fun i _ => l.length - (intOf i).toNat)
  case atStart => exact ⟨0, rfl, Nat.zero_le _, HS0.out⟩
  case round =>
    clear HS0
    obtain ⟨k, rfl, hk, S⟩ := hrel
    have HS := Lib.hid S
    have HT3 := Lib.hid (HT.out.ext S.ext)
    have HLN : Hid ((lnStuf0 (l.take k)).length ≤ 1000000 * 1000003) := by
      have := lnStuf0_len (l.take k) fun s hs => HSH.out s (List.mem_of_mem_take hs)
      refine Nat.le_trans this (Nat.mul_le_mul_right _ ?_)
      rw [List.length_take]
      omega
    clear S
    by_cases hlt : k < l.length
    · have hlt' : (k : Int) < l.length := by omega
      obtain ⟨b, off, rfl, ck⟩ := HT3.out.at hlt
      have HX : Hid (l[k].length ≤ 1000000) := HSH.out _ (List.getElem_mem hlt)
      have HST : Hid (lnStuf0 (l.take (k + 1)) = lnStuf0 (l.take k) ++ stufL l[k]) := by unfold Hid; rw [List.take_succ_eq_append_getElem hlt, lnStuf0_snoc]
      generalize l[k] = x at *
      generalize lnStuf0 (l.take k) = y at *
      have HDP := Lib.hid (dot_prefix x)
      have HPF := Lib.hid (fun w' => Tryz.strings_HasPrefix ⟨x.toArray⟩ ⟨#[46]⟩ w')
      rw [show Lib.hasPrefix (ByteArray.mk x.toArray).data.toList (ByteArray.mk #[46]).data.toList = Lib.hasPrefix x [46] from rfl, HDP.out] at HPF
      by_cases hd : x.head? = some 46
      · have HSL : Hid (stufL x = [46] ++ (x ++ [13, 10])) := by unfold Hid stufL; rw [if_pos hd]
        rw [decide_eq_true hd] at HPF
        clear hd HDP
        go_wp2_with fail
        refine (HPF.out _).mono ?_
        rintro e w2 ⟨rfl, rfl⟩
        go_wp2_with fail
        refine (writeStrS [46] HS.out (by have := HLN.out; have := HX.out; simp; omega)).mono ?_
        rintro e w3 ⟨rfl, S3⟩
        have HS3 := Lib.hid S3
        clear S3 HS
        go_wp2_with fail
        refine (writeStrS x HS3.out (by have := HLN.out; have := HX.out; simp; omega)).mono ?_
        rintro e w4 ⟨rfl, S4⟩
        have HS4 := Lib.hid S4
        clear S4 HS3
        go_wp2_with fail
        refine (writeStrS [13, 10] HS4.out (by have := HLN.out; have := HX.out; simp; omega)).mono ?_
        rintro e w5 ⟨rfl, S5⟩
        have HS5 := Lib.hid S5
        clear S5 HS4
        go_wp2_with fail
        go_roundw
        case rel => exact ⟨k + 1, by go_num, by omega, by rw [HST.out, HSL.out, ← List.append_assoc, ← List.append_assoc]; exact HS5.out⟩
        case measure => simp [intOf]; omega
      · have HSL : Hid (stufL x = x ++ [13, 10]) := by unfold Hid stufL; rw [if_neg hd]; rfl
        rw [decide_eq_false hd] at HPF
        clear hd HDP
        go_wp2_with fail
        refine (HPF.out _).mono ?_
        rintro e w2 ⟨rfl, rfl⟩
        go_wp2_with fail
        refine (writeStrS x HS.out (by have := HLN.out; have := HX.out; omega)).mono ?_
        rintro e w4 ⟨rfl, S4⟩
        have HS4 := Lib.hid S4
        clear S4 HS
        go_wp2_with fail
        refine (writeStrS [13, 10] HS4.out (by have := HLN.out; have := HX.out; simp; omega)).mono ?_
        rintro e w5 ⟨rfl, S5⟩
        have HS5 := Lib.hid S5
        clear S5 HS4
        go_wp2_with fail
        go_roundw
        case rel => exact ⟨k + 1, by go_num, by omega, by rw [HST.out, HSL.out, ← List.append_assoc]; exact HS5.out⟩
        case measure => simp [intOf]; omega
    · have HTK : Hid (l.take k = l) := List.take_of_length_le (by omega)
      rw [HTK.out] at HS HLN
      have HEQ := Lib.hid (lnStuff_eq l)
      generalize lnStuf0 l = y at *
      go_wp2_with fail
      refine (writeStrS [46, 13, 10] HS.out (by have := HLN.out; simp; omega)).mono ?_
      rintro e w3 ⟨rfl, S3⟩
      have HS3 := Lib.hid S3
      clear S3 HS
      go_wp2_with fail
      refine (stringS HS3.out (by simp)).mono ?_
      rintro e w4 ⟨rfl, S4⟩
      have HS4 := Lib.hid S4
      go_wp2
      go_ret
      exact ⟨by rw [HEQ.out]; rfl, HS4.out⟩
theorem lnJoinS (l : List Bs) (h0 : l ≠ []) (hn : l.length ≤ 1000000) (hs : ∀ s ∈ l, s.length ≤ 1000000) (T : TxAt w v l) (S : Sp w0 F0 w L) : Calls Tryz.prog 114 #[v] w fun e w2 => e = .returned (.string ⟨(lnJoin l).toArray⟩) ∧ Sp w0 F0 w2 L :=
  (lnJoin_any l h0 hn hs T).mono fun _ _ ⟨he, hs⟩ => ⟨he, S.add hs⟩
theorem lnStuffS (l : List Bs) (hn : l.length ≤ 1000000) (hs : ∀ s ∈ l, s.length ≤ 1000000) (T : TxAt w v l) (S : Sp w0 F0 w L) : Calls Tryz.prog 83 #[v] w fun e w2 => e = .returned (.string ⟨(lnStuff l).toArray⟩) ∧ Sp w0 F0 w2 L :=
  (lnStuff_any l hn hs T).mono fun _ _ ⟨he, hs⟩ => ⟨he, S.add hs⟩
end
end Go.Proofs.YtapenolbbofjkaaGreatDoor
