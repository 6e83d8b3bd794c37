/- cmd: Class, Whole. Conditions: the lengths fit. cmd: Whole, Lines. Conditions: the lengths fit; what Go's variables hold. cmd: ReadReply. Conditions: the lengths fit; what Go's variables hold. -/
import Derived.Test.YtapenolbbofjkaaGreatDoorCmV
import Derived.Test.YtapenolbbofjkaaGreatDoorRpP
import Derived.Shelf.SlicesE.IndexFunc
import Derived.Test.YtapenolbbofjkaaGreatDoorTx
import Derived.Deep.RegionLaw
import Derived.Deep.DeepCutAuto
/-! CmL -/
set_option linter.unusedSimpArgs false
set_option linter.unusedVariables false
set_option linter.unnecessarySimpa false
namespace Go.Proofs.YtapenolbbofjkaaGreatDoor
open Go.RowKit

section
variable {w0 w : World} {L : List Res} {b pc : Nat}
set_option maxRecDepth 100000 in
theorem class_any (code : Int) (w : World) (h1 : -9223372036854775808 ≤ code) (h2 : code ≤ 9223372036854775807) : Calls Tryz.prog 48 #[.int .i64 code] w fun e w2 => e = .returned (.int .i64 (classC code)) ∧ w = w2 := by
  by_cases h : code < 200 ∨ 599 < code
  · have HV : Hid (classC code = 0) := by unfold Hid classC; rw [if_pos h]
    rcases h with h | h
    · go_enter Tryz.func48, Tryz.ntmps48
      go_wp2
      go_ret
      rw [HV.out]
      exact ⟨rfl, rfl⟩
    · have h' : 200 ≤ code := by omega
      go_enter Tryz.func48, Tryz.ntmps48
      go_wp2
      go_ret
      rw [HV.out]
      exact ⟨rfl, rfl⟩
  · have HV : Hid (classC code = code.tdiv 100) := by unfold Hid classC; rw [if_neg h]
    have h3 : 200 ≤ code := by omega
    have h4 : code ≤ 599 := by omega
    have HT : Hid (code.tdiv 100 = code / 100) := Int.tdiv_eq_ediv_of_nonneg (by omega)
    clear h
    go_enter Tryz.func48, Tryz.ntmps48
    go_wp2
    go_ret
    rw [HV.out]
    exact ⟨by rw [HT.out]; rfl, rfl⟩
set_option maxRecDepth 100000 in
theorem notPrinted_any (x : Bs) (w : World) (hx : x.length ≤ 1000000) : Calls Tryz.prog 50 #[.string ⟨x.toArray⟩] w fun e w2 => e = .returned (.bool (!printB x)) ∧ w = w2 := by
  have H := Lib.hid (printed_any x w hx)
  generalize printB x = p at *
  go_enter Tryz.func50, Tryz.ntmps50
  go_wp2_with fail
  refine H.out.mono ?_
  rintro e w2 ⟨rfl, rfl⟩
  go_wp2
  go_ret
  exact ⟨rfl, rfl⟩
end
end Go.Proofs.YtapenolbbofjkaaGreatDoor

/-! CmL2 -/
namespace Go.Proofs.YtapenolbbofjkaaGreatDoor
open Go.RowKit Go.Lib

abbrev ShortT := {s : Bs // s.length ≤ 1000000}
instance : Inhabited ShortT := ⟨⟨[], by decide⟩⟩
theorem shorts : ∀ (l : List Bs), (∀ s ∈ l, s.length ≤ 1000000) → ∃ zs : List ShortT, zs.map (·.1) = l
  | [], _ => ⟨[], rfl⟩
  | s :: l, h => by
    obtain ⟨zs, hz⟩ := shorts l fun t ht => h t (by simp [ht])
    exact ⟨⟨s, h s (by simp)⟩ :: zs, by simp [hz]⟩
section
variable {w0 w : World} {L : List Res} {b pc : Nat} {v : Value}
theorem anyBadS (l : List Bs) (hs : ∀ s ∈ l, s.length ≤ 1000000) (T : TxAt w v l) (S : Sp w0 [] w L) : Calls Tryz.prog 49 #[v, .func (.func 50) #[] #[]] w fun e w2 => e = .returned (.bool (l.any fun s => !printB s)) ∧ Sp w0 [] w2 L := by
  obtain ⟨zs, rfl⟩ := shorts l hs
  obtain ⟨a, cap, rfl, hm, h⟩ := T
  have eg : ∀ args w, (callFunc 50 args).run Tryz.prog w = .ok (.enter 50 args) w := enters_of Tryz.func50 (by kernel_rfl) rfl
  rcases h with h | ⟨b, off, rfl, h⟩
  · have : zs = [] := List.map_eq_nil_iff.1 h
    subst this
    refine (Tryz.slices_ContainsFunc_empty (α := ShortT) a cap _ w).mono ?_
    rintro e w2 ⟨rfl, rfl⟩
    exact ⟨rfl, S⟩
  · have hp : PredAt Tryz.prog 50 #[] (fun x : ShortT => .string ⟨x.1.toArray⟩) (fun x => !printB x.1) w := fun W x _ => (notPrinted_any x.1 W x.2).mono fun e w2 ⟨he, hw⟩ => ⟨he, 0, by subst hw; rfl⟩
    refine (Tryz.slices_ContainsFunc (fun x : ShortT => .string ⟨x.1.toArray⟩) (fun x => !printB x.1) _ #[] eg b off _ cap zs w hp (by simp) (by unfold maxLen at hm; omega) (fun j hj => ?_)).mono ?_
    · have := h j (by simpa using hj)
      rw [this]
      simp [getElem!_pos, hj]
    · rintro e w2 ⟨rfl, q, rfl⟩
      refine ⟨?_, S.drewN q⟩
      rw [List.any_map, List.length_map, List.take_length]
      rfl
theorem whole_le (l : List Bs) : wholeN l ≤ l.length := by
  induction l with
  | nil => exact Nat.le_refl _
  | cons s l ih =>
    unfold wholeN
    rw [List.length_cons]
    split
    · omega
    · split <;> omega
theorem itoaS (n : Int) (h0 : 0 ≤ n) (h1 : n ≤ 9223372036854775807) (S : Sp w0 [] w L) (E : Env w0) : Calls Tryz.prog 52 #[.int .i64 n] w fun e w2 => e = .returned (.string ⟨(Lib.decDigits n.toNat).toArray⟩) ∧ Sp w0 [] w2 L :=
  (Tryz.strconv_Itoa n (by omega) h1 w (E.sp S).tab).mono fun _ _ ⟨he, hg⟩ => ⟨by
    rw [he]
    obtain ⟨k, rfl⟩ := Int.eq_ofNat_of_zero_le h0
    rw [itoa_nat]
    rfl, S.ext0 (Grown.ext hg)⟩
theorem rpOut_take (d : Bs) (l : List Bs) {k : Nat} (h : k < l.length) : (rpOut d l).take (k + 1) = (rpOut d l).take k ++ [rpLine d l.length k l[k]] := by
  rw [List.take_succ_eq_append_getElem (by rw [rpOut_length]; exact h)]
  unfold rpOut
  rw [List.getElem_mapIdx]
set_option maxRecDepth 100000 in
set_option maxHeartbeats 4000000 in
theorem lines_any (code : Int) (hc1 : -9223372036854775808 ≤ code) (hc2 : code ≤ 9223372036854775807) (l : List Bs) (hl : l.length ≤ 1000000) (hs : ∀ s ∈ l, s.length ≤ 1000000) (T : TxAt w v l) (E : Env w) :
    Calls Tryz.prog 25 #[.agg #[.int .i64 code, v]] w fun e w2 => ∃ v2, e = .returned (.tuple #[v2, .int .i64 (rpLines code l).2]) ∧ Sp w [] w2 [textsR v2 (rpLines code l).1] := by
  have HE := Lib.hid E
  have HS0 := Lib.hid ((Sp.nil w []).box #[.int .i64 code, v] 35)
  have HT := Lib.hid T
  have HV : Hid (rpLines code l = if classC code = 0 then ([], 3) else if l = [] ∨ (l.any fun s => !printB s) = true then ([], 2) else (rpOut (Lib.decDigits code.toNat) l, 0)) := rfl
  have HSH := Lib.hid hs
  have hln : (l.length : Int) ≤ 1000000 := by omega
  obtain ⟨a, cap, rfl⟩ := T.form
  have hrg : classC code ≠ 0 → 0 ≤ code := fun h => by have := class_range h; omega
  have HRG := Lib.hid hrg
  have hd3 : Hid (classC code ≠ 0 → (Lib.decDigits code.toNat).length = 3) := fun h => dec3_len h
  clear T E hs hl hrg
  have c0 := HS0.out.cell
  go_enter Tryz.func25, Tryz.ntmps25
  go_wp2_with fail
  refine (class_any code _ hc1 hc2).mono ?_
  rintro e wq ⟨rfl, rfl⟩
  generalize w.alloc (.cells #[.int .i64 code, .slice a l.length cap] 35) = w1 at *
  generalize w.heap.size = q at *
  generalize classC code = cl at *
  by_cases hz : cl = 0
  · subst hz
    have HV1 : Hid (rpLines code l = ([], 3)) := by unfold Hid; rw [HV.out, if_pos rfl]
    go_wp2
    go_ret2
    rw [HV1.out]
    exact ⟨_, rfl, HS0.out.drop.textsNil⟩
  have HV1 : Hid (rpLines code l = if l = [] ∨ (l.any fun s => !printB s) = true then ([], 2) else (rpOut (Lib.decDigits code.toNat) l, 0)) := by unfold Hid; rw [HV.out, if_neg hz]
  have HD := Lib.hid (hd3.out hz)
  have h0c : 0 ≤ code := HRG.out hz
  have hz' : (cl == 0) = false := by simpa using hz
  clear hz HV HRG hd3
  by_cases hn : l = []
  · subst hn
    have HV2 : Hid (rpLines code [] = ([], 2)) := by unfold Hid; rw [HV1.out, if_pos (.inl rfl)]
    go_wp2
    go_ret2
    rw [HV2.out]
    exact ⟨_, rfl, HS0.out.drop.textsNil⟩
  have hpos : 0 < l.length := List.length_pos_iff.2 hn
  have hne : ((l.length : Int) == 0) = false := by simp; omega
  have HAB := Lib.hid (anyBadS l HSH.out (HT.out.ext HS0.out.ext) HS0.out)
  cases hab : (l.any fun s => !printB s) with
  | true =>
    have HV2 : Hid (rpLines code l = ([], 2)) := by unfold Hid; rw [HV1.out, if_pos (.inr hab)]
    rw [hab] at HAB
    clear hab hn
    go_wp2_with fail
    refine HAB.out.mono ?_
    rintro e w2 ⟨rfl, S2⟩
    have HS2 := Lib.hid S2
    clear S2 c0
    go_wp2
    go_ret2
    rw [HV2.out]
    exact ⟨_, rfl, HS2.out.drop.textsNil⟩
  | false =>
    have HV2 : Hid (rpLines code l = (rpOut (Lib.decDigits code.toNat) l, 0)) := by unfold Hid; rw [HV1.out, if_neg (by rw [hab]; simp [hn])]
    rw [hab] at HAB
    clear hab hn HV1
    go_wp2_with fail
    refine HAB.out.mono ?_
    rintro e w2 ⟨rfl, S2⟩
    have HS2 := Lib.hid S2
    have c2 := S2.cell
    clear S2 c0 HAB HS0
    go_wp2_with fail
    go_loopw [4, 26] (fun z i wr => ∃ (k : Nat) (vo : Value), i = .int .i64 k ∧ k ≤ l.length ∧ z = vo ∧ Sp w [] wr (textsR vo ((rpOut (Lib.decDigits code.toNat) l).take k) :: [boxR q #[.int .i64 code, .slice a l.length cap] 35])) (fun _ i _ => l.length - (intOf i).toNat)
    case atStart => exact ⟨0, _, rfl, by omega, rfl, HS2.out.textsNil⟩
    case round =>
      obtain ⟨k, vo, rfl, hk, rfl, S3⟩ := hrel
      have HS3 := Lib.hid S3
      have HT3 := Lib.hid (HT.out.ext S3.ext)
      clear c2
      have c3 := S3.pull1.cell
      clear S3 HS2
      by_cases hlt : k < l.length
      · have hlt' : (k : Int) < l.length := by omega
        obtain ⟨b, off, rfl, ck⟩ := HT3.out.at hlt
        have HX : Hid (l[k].length ≤ 1000000) := HSH.out _ (List.getElem_mem hlt)
        have HK := Lib.hid (rpOut_take (Lib.decDigits code.toNat) l hlt)
        have HKL : Hid (((rpOut (Lib.decDigits code.toNat) l).take k).length = k) := by unfold Hid; rw [List.length_take, rpOut_length]; omega
        have HIT := Lib.hid (itoaS code h0c hc2 HS3.out HE.out)
        have HD2 := HD.out
        generalize l[k] = x at *
        generalize Lib.decDigits code.toNat = d at *
        generalize (rpOut d l).take k = ro at *
        by_cases hlast : k + 1 = l.length
        · have HL : Hid (rpLine d l.length k x = d ++ 32 :: x) := by unfold Hid rpLine; rw [if_pos hlast]
          have h1 : ((k : Int) == (l.length : Int) - 1) = true := by simp; omega
          have HT2 : Hid (d ++ [32] ++ x = rpLine d l.length k x) := by rw [HL.out]; simp [Hid]
          have a1 := add_str d [32] (by unfold maxLen; simp; omega)
          have a2 := add_str (d ++ [32]) x (by have := HX.out; unfold maxLen; simp; omega)
          generalize rpLine d l.length k x = y at *
          generalize d ++ [32] = dx at *
          rw [HT2.out] at a2
          clear hlast HL
          go_wp2_with fail
          refine HIT.out.mono ?_
          rintro e w4 ⟨rfl, S4⟩
          obtain ⟨g2, cap2, w6, hrun, S6⟩ := Sp.appendText 22 y (by have := HKL.out; omega) (S4.box #[.string ⟨y.toArray⟩] 9)
          rw [HKL.out] at hrun S6
          have HS6 := Lib.hid S6
          have HRUN := Lib.hid hrun
          clear S4 S6 hrun
          go_wp2_with (at_builtin; refine wpList_append_run (by rfl) (by rfl) (by rfl) (by rfl) HRUN.out ?_)
          go_roundw
          case rel => exact ⟨k + 1, _, by go_num, by omega, by trivial, by rw [HK.out]; exact HS6.out⟩
          case measure => simp [intOf]; omega
        · have HL : Hid (rpLine d l.length k x = d ++ 45 :: x) := by unfold Hid rpLine; rw [if_neg hlast]
          have h1 : ((k : Int) == (l.length : Int) - 1) = false := by simp; omega
          have HT2 : Hid (d ++ [45] ++ x = rpLine d l.length k x) := by rw [HL.out]; simp [Hid]
          have a1 := add_str d [45] (by unfold maxLen; simp; omega)
          have a2 := add_str (d ++ [45]) x (by have := HX.out; unfold maxLen; simp; omega)
          generalize rpLine d l.length k x = y at *
          generalize d ++ [45] = dx at *
          rw [HT2.out] at a2
          clear hlast HL
          go_wp2_with fail
          refine HIT.out.mono ?_
          rintro e w4 ⟨rfl, S4⟩
          obtain ⟨g2, cap2, w6, hrun, S6⟩ := Sp.appendText 22 y (by have := HKL.out; omega) (S4.box #[.string ⟨y.toArray⟩] 9)
          rw [HKL.out] at hrun S6
          have HS6 := Lib.hid S6
          have HRUN := Lib.hid hrun
          clear S4 S6 hrun
          go_wp2_with (at_builtin; refine wpList_append_run (by rfl) (by rfl) (by rfl) (by rfl) HRUN.out ?_)
          go_roundw
          case rel => exact ⟨k + 1, _, by go_num, by omega, by trivial, by rw [HK.out]; exact HS6.out⟩
          case measure => simp [intOf]; omega
      · obtain rfl : k = l.length := by omega
        have HF : Hid ((rpOut (Lib.decDigits code.toNat) l).take l.length = rpOut (Lib.decDigits code.toNat) l) := by unfold Hid; rw [List.take_of_length_le (by rw [rpOut_length]; omega)]
        go_wp2
        go_ret2
        rw [HV2.out]
        exact ⟨_, rfl, by have := HS3.out; rw [HF.out] at this; exact this.pull1.drop⟩
theorem linesSp {F0 : List Nat} (code : Int) (hc1 : -9223372036854775808 ≤ code) (hc2 : code ≤ 9223372036854775807) (l : List Bs) (hl : l.length ≤ 1000000) (hs : ∀ s ∈ l, s.length ≤ 1000000) (T : TxAt w v l) (E : Env w) (S : Sp w0 F0 w L) :
    Calls Tryz.prog 25 #[.agg #[.int .i64 code, v]] w fun e w2 => ∃ v2, e = .returned (.tuple #[v2, .int .i64 (rpLines code l).2]) ∧ Sp w0 F0 w2 (textsR v2 (rpLines code l).1 :: L) :=
  (lines_any code hc1 hc2 l hl hs T E).mono fun _ _ ⟨v2, he, hs⟩ => ⟨v2, he, S.add hs⟩
end
end Go.Proofs.YtapenolbbofjkaaGreatDoor

