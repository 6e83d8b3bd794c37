/- The statements of layer 10: large, many, and their first look (awake): it tells true. Conditions: the lengths fit; what Go's variables hold. -/
import Derived.Test.YtpclhkjladbooaaGreatDoorCmL
import Derived.Test.YtpclhkjladbooaaGreatDoorCmW6
import Derived.Test.YtpclhkjladbooaaGreatDoorCmP
set_option linter.unusedSimpArgs false
set_option linter.unusedVariables false
set_option linter.unnecessarySimpa false
namespace Go.Proofs.YtpclhkjladbooaaGreatDoor
open Go.RowKit

def largeC (c : Cm) : Bool := decide (2048 < c.text.length) || (decide (2048 < c.box.1.length) || decide (2048 < c.box.2.length))
def manyB (l : List Bs) : Bool := decide (60 < l.length) || l.any fun s => decide (300 < s.length)
section
variable {w0 w : World} {F0 : List Nat} {L : List Res} {b pc : Nat} {v : Value}
set_option maxRecDepth 100000 in
theorem large_any (c : Cm) (w : World) : Calls Tryz.prog 9 #[cmAgg c] w fun e w2 => e = .returned (.bool (largeC c)) ∧ Ext [] w w2 := by
  obtain ⟨v, t, ⟨l, d⟩, z, e8⟩ := c
  have HV : Hid (largeC ⟨v, t, (l, d), z, e8⟩ = (decide (2048 < t.length) || (decide (2048 < l.length) || decide (2048 < d.length)))) := rfl
  unfold cmAgg
  dsimp only
  go_enter Tryz.func9, Tryz.ntmps9
  go_wp2
  all_goals (go_ret; refine ⟨ret_bool ?_, (Ext.refl _ _).alloc _⟩; rw [HV.out, Bool.eq_iff_iff]; simp only [Bool.or_eq_true, decide_eq_true_eq, eq_self_iff_true, true_iff]; omega)
set_option maxRecDepth 100000 in
theorem many_any (l : List Bs) (T : TxAt w v l) : Calls Tryz.prog 13 #[v] w fun e w2 => e = .returned (.bool (manyB l)) ∧ w = w2 := by
  have HT := Lib.hid T
  obtain ⟨a, cap, rfl⟩ := T.form
  clear T
  by_cases h60 : 60 < l.length
  · have h60' : (60 : Int) < l.length := by omega
    have HV : Hid (manyB l = true) := by unfold manyB Hid; rw [decide_eq_true h60]; rfl
    go_enter Tryz.func13, Tryz.ntmps13
    go_wp2
    go_ret
    exact ⟨ret_bool HV.out.symm, rfl⟩
  have h60' : (l.length : Int) ≤ 60 := by omega
  have HV : Hid (manyB l = l.any fun s => decide (300 < s.length)) := by unfold manyB Hid; rw [decide_eq_false h60]; rfl
  clear h60
  go_enter Tryz.func13, Tryz.ntmps13
  go_wp2_with fail
  go_loopw [9] (fun i wr => ∃ k : Nat, i = .int .i64 k ∧ k ≤ l.length ∧ ((l.take k).any fun s => decide (300 < s.length)) = false ∧ w = wr) (fun i _ => l.length - (intOf i).toNat)
  case atStart => exact ⟨0, rfl, Nat.zero_le _, rfl, rfl⟩
  case round =>
    obtain ⟨k, rfl, hk, hany, rfl⟩ := hrel
    have HAN := Lib.hid hany
    clear hany
    by_cases hlt : k < l.length
    · have hlt' : (k : Int) < l.length := by omega
      obtain ⟨b, off, rfl, ck⟩ := HT.out.at hlt
      have HST : Hid (((l.take (k + 1)).any fun s => decide (300 < s.length)) = (((l.take k).any fun s => decide (300 < s.length)) || decide (300 < l[k].length))) := by
        unfold Hid
        rw [List.take_succ_eq_append_getElem hlt, List.any_append, List.any_cons, List.any_nil, Bool.or_false]
      have HM : Hid (l[k] ∈ l) := List.getElem_mem hlt
      generalize l[k] = x at *
      by_cases h300 : 300 < x.length
      · have h300' : (300 : Int) < x.length := by omega
        have HV2 : Hid (manyB l = true) := by
          unfold Hid
          rw [HV.out, List.any_eq_true]
          exact ⟨x, HM.out, by simpa using h300⟩
        clear h300
        go_wp2
        go_ret
        exact ⟨ret_bool HV2.out.symm, rfl⟩
      · have h300' : (x.length : Int) ≤ 300 := by omega
        go_wp2
        go_roundw
        case rel => exact ⟨k + 1, by go_num, by omega, by rw [HST.out, HAN.out, decide_eq_false h300]; rfl, by trivial⟩
        case measure => simp [intOf]; omega
    · have HV2 : Hid (manyB l = false) := by
        unfold Hid
        have := HAN.out
        rw [List.take_of_length_le (by omega)] at this
        rw [HV.out, this]
      go_wp2
      go_ret
      exact ⟨ret_bool HV2.out.symm, rfl⟩
/-! ### the first look -/
def aw10a : Bs := [109, 97, 105, 108, 32, 70, 114, 111, 109, 58, 32, 60, 97, 64, 66, 46, 99, 62, 32, 32, 98, 111, 100, 121, 61, 56, 98, 105, 116, 109, 105, 109, 101, 32, 115, 105, 122, 101, 61, 48, 49, 50]
def aw10b : Bs := [82, 67, 80, 84, 32, 84, 79, 58, 60, 97, 64, 98, 62, 32, 120]
def aw10c : Bs := [72, 69, 76, 76, 79, 32, 120]
def aw10cm : Cm := ⟨3, [], ([97], [98, 46, 99]), 12, true⟩
def aw10w : Bs := [77, 65, 73, 76, 32, 70, 82, 79, 77, 58, 60, 97, 64, 98, 46, 99, 62, 32, 83, 73, 90, 69, 61, 49, 50, 32, 66, 79, 68, 89, 61, 56, 66, 73, 84, 77, 73, 77, 69]
theorem aw10_1 : cmParse aw10a = (aw10cm, 0) := by decide +kernel
theorem aw10_2 : (cmParse aw10b) = (cm0, 2) := by decide +kernel
theorem aw10_3 : (cmParse aw10c) = (cm0, 1) := by decide +kernel
theorem aw10_4 : cmWrite aw10cm = (aw10w, 0) := by
  have h : Lib.decDigits 12 = [49, 50] := by rw [Lib.decDigits_two (by decide) (by decide)]; rfl
  unfold cmWrite besideC fromC aw10cm
  dsimp only
  rw [show (12 : Int).toNat = 12 from rfl, h]
  decide +kernel
theorem aw10_5 : rpLines 250 [[97], []] = ([[50, 53, 48, 45, 97], [50, 53, 48, 32]], 0) := by
  have h : Lib.decDigits (250 : Int).toNat = [50, 53, 48] := by rw [show (250 : Int).toNat = 250 from rfl, dec3 (by decide) (by decide)]; rfl
  unfold rpLines
  rw [h]
  decide +kernel
theorem aw10_6 : rpRead [[50, 53, 48, 45, 97], [50, 53, 48, 32]] = ((250, [[97], []]), 0) := rpRead_lines aw10_5
theorem aw10_7 : rpLines 199 [[97]] = ([], 3) := by
  unfold rpLines
  rw [if_pos (by decide)]
theorem tx_one (S : Sp w0 F0 w (boxR b #[.string ⟨#[97]⟩] 9 :: L)) : TxAt w (.slice (some ⟨b, 0, none⟩) 1 1) [[97]] :=
  ⟨_, _, rfl, by decide, .inr ⟨b, 0, rfl, fun i hi => by
    have : i = 0 := by simp at hi; omega
    subst this
    exact S.cell 0⟩⟩
theorem tx_two (S : Sp w0 F0 w (boxR b #[.string ⟨#[97]⟩, .string ⟨#[]⟩] 9 :: L)) : TxAt w (.slice (some ⟨b, 0, none⟩) 2 2) [[97], []] :=
  ⟨_, _, rfl, by decide, .inr ⟨b, 0, rfl, fun i hi => by
    have : i = 0 ∨ i = 1 := by simp at hi; omega
    rcases this with rfl | rfl
    · exact S.cell 0
    · exact S.cell 1⟩⟩
set_option maxRecDepth 100000 in
set_option maxHeartbeats 4000000 in
theorem awake10S (S : Sp w0 [] w L) (E : Env w0) : Calls Tryz.prog 8 #[] w fun e w2 => e = .returned (.bool true) ∧ Sp w0 [] w2 L := by
  have HS0 := Lib.hid S
  have HE := Lib.hid E
  clear S E
  go_enter Tryz.func8, Tryz.ntmps8
  go_wp2_with fail
  refine (cmParseS aw10a (by decide) HS0.out HE.out).mono ?_
  rw [aw10_1]
  rintro e w1 ⟨rfl, S⟩
  have HS1 := Lib.hid (S.box (cmCells aw10cm) 25)
  unfold aw10cm cmAgg
  dsimp only
  clear S HS0
  go_wp2_with fail
  refine (cmParseS aw10b (by decide) HS1.out HE.out).mono ?_
  rw [aw10_2]
  rintro e w2 ⟨rfl, S⟩
  have HS2 := Lib.hid (S.box (cmCells cm0) 25).drop
  generalize w1.heap.size = b1 at *
  unfold cm0 cmAgg
  dsimp only
  clear S HS1
  go_wp2_with fail
  refine (cmParseS aw10c (by decide) HS2.out HE.out).mono ?_
  rw [aw10_3]
  rintro e w3 ⟨rfl, S⟩
  have HS3 := Lib.hid (S.box (cmCells cm0) 25).drop
  have c3 := HS3.out.cell
  unfold cmCells aw10cm cm0 at c3
  dsimp only at c3
  generalize w2.heap.size = b2 at *
  unfold cm0 cmAgg
  dsimp only
  clear S HS2
  go_wp2_with fail
  refine (cmWriteS aw10cm HS3.out HE.out ⟨by decide, by decide, by decide, by decide, by decide⟩).mono ?_
  rw [aw10_4]
  unfold aw10w
  rintro e w4 ⟨rfl, S⟩
  generalize w3.heap.size = b3 at *
  have HS4 := Lib.hid (S.box #[.string ⟨#[97]⟩, .string ⟨#[]⟩] 9)
  clear S HS3 c3
  go_wp2_with fail
  generalize w4.heap.size = b4 at *
  refine (linesSp 250 (by decide) (by decide) [[97], []] (by decide) (by decide) (tx_two HS4.out) (HE.out.ext HS4.out.ext) HS4.out).mono ?_
  rw [aw10_5]
  rintro e w5 ⟨v5, rfl, S⟩
  have HS5 := Lib.hid ((Sp.pick [_, _, _] [0, 2] (by decide) (S)))
  have HT5 := Lib.hid HS5.out.tx
  obtain ⟨a5, p5, rfl⟩ := HT5.out.form
  clear S HS4
  go_wp2_with fail
  refine (readReplySp [[50, 53, 48, 45, 97], [50, 53, 48, 32]] (by decide) (by decide) HT5.out (HE.out.ext HS5.out.ext) HS5.out).mono ?_
  rw [aw10_6]
  rintro e w6 ⟨v6, rfl, S⟩
  have HT6 := Lib.hid S.tx
  obtain ⟨a6, p6, rfl⟩ := HT6.out.form
  have HS6 := Lib.hid (((Sp.pick [_, _, _] [1, 2] (by decide) (S))).box #[.int .i64 250, .slice a6 2 p6] 41)
  clear S HS5
  go_wp2_with fail
  generalize hb6 : w6.heap.size = b6 at *
  have hsz : (w6.alloc (.cells #[.int .i64 250, .slice a6 2 p6] 41)).heap.size = b6 + 1 := by simp [hb6]
  have HS7 := Lib.hid (HS6.out.box #[.string ⟨#[97]⟩] 9)
  rw [hsz] at HS7
  clear hsz hb6
  refine (linesSp 199 (by decide) (by decide) [[97]] (by decide) (by decide) (tx_one HS7.out) (HE.out.ext HS7.out.ext) HS7.out).mono ?_
  rw [aw10_7]
  rintro e w7 ⟨v7, rfl, S⟩
  obtain ⟨a7, p7, rfl⟩ := S.tx.form
  have HS8 := Lib.hid ((Sp.pick [_, _, _, _, _] [2, 3, 4] (by decide) (S)))
  have c8 := HS8.out.cell
  have d8 := HS8.out.pull2.cell
  unfold cmCells aw10cm at d8
  dsimp only at d8
  have HT8 := Lib.hid HS8.out.pull1.tx
  obtain ⟨g5, o5, rfl, t0⟩ := HT8.out.at (i := 0) (by decide)
  obtain ⟨g5', o5', h5, t1⟩ := HT8.out.at (i := 1) (by decide)
  cases h5
  rw [Nat.add_zero] at t0
  clear S HS6 HS7
  have HWH := Lib.hid (fun w' (T : TxAt w' (.slice (some ⟨g5, o5, none⟩) 2 p5) [[50, 53, 48, 45, 97], [50, 53, 48, 32]]) => wholeS (w0 := w') (L := []) [[50, 53, 48, 45, 97], [50, 53, 48, 32]] (by decide) (by decide) T (Sp.nil w' []))
  go_wp2_with fail
  refine (wholeS [[50, 53, 48, 45, 97], [50, 53, 48, 32]] (by decide) (by decide) HT8.out HS8.out).mono ?_
  rw [show wholeN [[50, 53, 48, 45, 97], [50, 53, 48, 32]] = 2 by decide]
  rintro e w8 ⟨rfl, S⟩
  have HS9 := Lib.hid S
  have HT9 := Lib.hid (S.pull1.tx.take 1 (by decide))
  have hp5 : (1 : Int) ≤ p5 := by have := HT8.out.cap.1; simp at this; omega
  clear S c8 d8 t0 t1 HWH
  go_wp2_with fail
  refine (wholeS [[50, 53, 48, 45, 97]] (by decide) (by decide) HT9.out HS9.out).mono ?_
  rw [show wholeN [[50, 53, 48, 45, 97]] = 0 by decide]
  rintro e w9 ⟨rfl, S⟩
  have HS10 := Lib.hid S
  clear S
  go_wp2_with fail
  refine (class_any 451 w9 (by decide) (by decide)).mono ?_
  rintro e wq ⟨rfl, rfl⟩
  rw [show classC 451 = 4 by decide]
  go_wp2_with fail
  refine (class_any 600 w9 (by decide) (by decide)).mono ?_
  rintro e wq ⟨rfl, rfl⟩
  rw [show classC 600 = 0 by decide]
  go_wp2
  go_ret
  exact ⟨rfl, HS10.out.drop.drop.drop⟩
end
end Go.Proofs.YtpclhkjladbooaaGreatDoor
