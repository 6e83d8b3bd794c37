/- cmd: Class, Whole. Conditions: the lengths fit. cmd: Whole, Lines. Conditions: the lengths fit; what Go's variables hold. cmd: ReadReply. Conditions: the lengths fit; what Go's variables hold. -/
import Derived.Test.YtpclhkjladbooaaGreatDoorCmV
import Derived.Test.YtpclhkjladbooaaGreatDoorRpP
import Derived.Shelf.SlicesE.IndexFunc
import Derived.Test.YtpclhkjladbooaaGreatDoorTx
import Derived.Deep.RegionLaw
import Derived.Deep.DeepCutAuto
/-! CmL -/
set_option linter.unusedSimpArgs false
set_option linter.unusedVariables false
set_option linter.unnecessarySimpa false
namespace Go.Proofs.YtpclhkjladbooaaGreatDoor
open Go.RowKit

section
variable {w0 w : World} {L : List Res} {b pc : Nat}
set_option maxRecDepth 100000 in
theorem class_any (code : Int) (w : World) (h1 : -9223372036854775808 ≤ code) (h2 : code ≤ 9223372036854775807) : Calls Tryz.prog 21 #[.int .i64 code] w fun e w2 => e = .returned (.int .i64 (classC code)) ∧ w = w2 := by
  by_cases h : code < 200 ∨ 599 < code
  · have HV : Hid (classC code = 0) := by unfold Hid classC; rw [if_pos h]
    rcases h with h | h
    · go_enter Tryz.func21, Tryz.ntmps21
      go_wp2
      go_ret
      rw [HV.out]
      exact ⟨rfl, rfl⟩
    · have h' : 200 ≤ code := by omega
      go_enter Tryz.func21, Tryz.ntmps21
      go_wp2
      go_ret
      rw [HV.out]
      exact ⟨rfl, rfl⟩
  · have HV : Hid (classC code = code.tdiv 100) := by unfold Hid classC; rw [if_neg h]
    have h3 : 200 ≤ code := by omega
    have h4 : code ≤ 599 := by omega
    have HT : Hid (code.tdiv 100 = code / 100) := Int.tdiv_eq_ediv_of_nonneg (by omega)
    clear h
    go_enter Tryz.func21, Tryz.ntmps21
    go_wp2
    go_ret
    rw [HV.out]
    exact ⟨by rw [HT.out]; rfl, rfl⟩
set_option maxRecDepth 100000 in
theorem notPrinted_any (x : Bs) (w : World) (hx : x.length ≤ 1000000) : Calls Tryz.prog 34 #[.string ⟨x.toArray⟩] w fun e w2 => e = .returned (.bool (!printB x)) ∧ w = w2 := by
  have H := Lib.hid (printed_any x w hx)
  generalize printB x = p at *
  go_enter Tryz.func34, Tryz.ntmps34
  go_wp2_with fail
  refine H.out.mono ?_
  rintro e w2 ⟨rfl, rfl⟩
  go_wp2
  go_ret
  exact ⟨rfl, rfl⟩
set_option maxRecDepth 100000 in
theorem last_any (x : Bs) (w : World) (hx : x.length ≤ 1000000) : Calls Tryz.prog 41 #[.string ⟨x.toArray⟩] w fun e w2 => e = .returned (.bool (lastB x)) ∧ w = w2 := by
  have hx' : (x.length : Int) ≤ 1000000 := by omega
  by_cases hl : 3 < x.length
  · have hl' : (3 : Int) < x.length := by omega
    have hix := idx_at x 3 hl 3 rfl
    have HV : Hid (lastB x = (x[3] == 32)) := by
      unfold Hid lastB
      rw [decide_eq_true hl, List.getElem?_eq_getElem hl]
      rw [Bool.eq_iff_iff]
      simp
    have HE := Lib.hid (eq_u8b x[3] 32)
    generalize x[3] = c at *
    clear hl
    go_enter Tryz.func41, Tryz.ntmps41
    go_wp2
    go_ret
    refine ⟨ret_bool ?_, rfl⟩
    rw [HV.out, ← HE.out]
    rfl
  · have hl' : (x.length : Int) ≤ 3 := by omega
    have HV : Hid (lastB x = false) := by unfold Hid lastB; rw [decide_eq_false hl]; rfl
    go_enter Tryz.func41, Tryz.ntmps41
    go_wp2
    go_ret
    exact ⟨ret_bool HV.out.symm, rfl⟩
end
end Go.Proofs.YtpclhkjladbooaaGreatDoor

/-! CmL2 -/
namespace Go.Proofs.YtpclhkjladbooaaGreatDoor
open Go.RowKit Go.Lib

abbrev ShortT := {s : Bs // s.length ≤ 1000000}
instance : Inhabited ShortT := ⟨⟨[], by decide⟩⟩
theorem shorts : ∀ (l : List Bs), (∀ s ∈ l, s.length ≤ 1000000) → ∃ zs : List ShortT, zs.map (·.1) = l
  | [], _ => ⟨[], rfl⟩
  | s :: l, h => by
    obtain ⟨zs, hz⟩ := shorts l fun t ht => h t (by simp [ht])
    exact ⟨⟨s, h s (by simp)⟩ :: zs, by simp [hz]⟩
section
variable {w0 w : World} {L : List Res} {b pc : Nat} {v : Value}
theorem anyBadS (l : List Bs) (hs : ∀ s ∈ l, s.length ≤ 1000000) (T : TxAt w v l) (S : Sp w0 [] w L) : Calls Tryz.prog 33 #[v, .func (.func 34) #[] #[]] w fun e w2 => e = .returned (.bool (l.any fun s => !printB s)) ∧ Sp w0 [] w2 L := by
  obtain ⟨zs, rfl⟩ := shorts l hs
  obtain ⟨a, cap, rfl, hm, h⟩ := T
  have eg : ∀ args w, (callFunc 34 args).run Tryz.prog w = .ok (.enter 34 args) w := enters_of Tryz.func34 (by kernel_rfl) rfl
  rcases h with h | ⟨b, off, rfl, h⟩
  · have : zs = [] := List.map_eq_nil_iff.1 h
    subst this
    refine (Tryz.slices_ContainsFunc_empty (α := ShortT) a cap _ w).mono ?_
    rintro e w2 ⟨rfl, rfl⟩
    exact ⟨rfl, S⟩
  · have hp : PredAt Tryz.prog 34 #[] (fun x : ShortT => .string ⟨x.1.toArray⟩) (fun x => !printB x.1) w := fun W x _ => (notPrinted_any x.1 W x.2).mono fun e w2 ⟨he, hw⟩ => ⟨he, 0, by subst hw; rfl⟩
    refine (Tryz.slices_ContainsFunc (fun x : ShortT => .string ⟨x.1.toArray⟩) (fun x => !printB x.1) _ #[] eg b off _ cap zs w hp (by simp) (by unfold maxLen at hm; omega) (fun j hj => ?_)).mono ?_
    · have := h j (by simpa using hj)
      rw [this]
      simp [getElem!_pos, hj]
    · rintro e w2 ⟨rfl, q, rfl⟩
      refine ⟨?_, S.drewN q⟩
      rw [List.any_map, List.length_map, List.take_length]
      rfl
theorem firstS (l : List Bs) (hs : ∀ s ∈ l, s.length ≤ 1000000) (T : TxAt w v l) (S : Sp w0 [] w L) : Calls Tryz.prog 40 #[v, .func (.func 41) #[] #[]] w fun e w2 => e = .returned (.int .i64 (idxBy (fun _ y => lastB y) l [])) ∧ Sp w0 [] w2 L := by
  obtain ⟨zs, rfl⟩ := shorts l hs
  obtain ⟨a, cap, rfl, hm, h⟩ := T
  have eg : ∀ args w, (callFunc 41 args).run Tryz.prog w = .ok (.enter 41 args) w := enters_of Tryz.func41 (by kernel_rfl) rfl
  rcases h with h | ⟨b, off, rfl, h⟩
  · have : zs = [] := List.map_eq_nil_iff.1 h
    subst this
    refine (Tryz.slices_IndexFunc_empty (α := ShortT) a cap _ w).mono ?_
    rintro e w2 ⟨rfl, rfl⟩
    exact ⟨rfl, S⟩
  · have hp : PredAt Tryz.prog 41 #[] (fun x : ShortT => .string ⟨x.1.toArray⟩) (fun x => lastB x.1) w := fun W x _ => (last_any x.1 W x.2).mono fun e w2 ⟨he, hw⟩ => ⟨he, 0, by subst hw; rfl⟩
    refine (Tryz.slices_IndexFunc (fun x : ShortT => .string ⟨x.1.toArray⟩) (fun x => lastB x.1) _ #[] eg b off _ cap zs w hp (by simp) (by unfold maxLen at hm; omega) (fun j hj => ?_)).mono ?_
    · have := h j (by simpa using hj)
      rw [this]
      simp [getElem!_pos, hj]
    · rintro e w2 ⟨rfl, q, rfl⟩
      refine ⟨?_, S.drewN q⟩
      rw [List.length_map, List.take_length]
      have : ∀ (zs : List ShortT) (i : Nat), idxByFrom (fun _ y => lastB y.1) (default : ShortT) zs i = idxByFrom (fun _ y => lastB y) [] (zs.map (·.1)) i := by
        intro zs
        induction zs with
        | nil => intro i; rfl
        | cons z zs ih =>
          intro i
          rw [List.map_cons]
          unfold idxByFrom
          rw [ih]
      unfold idxBy
      rw [this]
theorem whole_le (l : List Bs) : wholeN l ≤ l.length := by
  induction l with
  | nil => exact Nat.le_refl _
  | cons s l ih =>
    unfold wholeN
    rw [List.length_cons]
    split
    · omega
    · split <;> omega
set_option maxRecDepth 100000 in
theorem wholeS (l : List Bs) (hs : ∀ s ∈ l, s.length ≤ 1000000) (hl : l.length ≤ 1000000) (T : TxAt w v l) (S : Sp w0 [] w L) : Calls Tryz.prog 19 #[v] w fun e w2 => e = .returned (.int .i64 (wholeN l)) ∧ Sp w0 [] w2 L := by
  have HC := Lib.hid (firstS l hs T S)
  have HI := Lib.hid (whole_idx0 l [])
  have hle := whole_le l
  generalize idxBy (fun _ y => lastB y) l [] = z at *
  have hz1 : (-1 : Int) ≤ z := by have := HI.out; omega
  have hz2 : z ≤ 1000000 := by have := HI.out; omega
  clear T S hle
  go_enter Tryz.func19, Tryz.ntmps19
  go_wp2_with fail
  refine HC.out.mono ?_
  rintro e w2 ⟨rfl, S⟩
  have HS := Lib.hid S
  clear S
  go_wp2
  go_ret
  rw [← HI.out]
  exact ⟨rfl, HS.out⟩
theorem itoaS (n : Int) (h0 : 0 ≤ n) (h1 : n ≤ 9223372036854775807) (S : Sp w0 [] w L) (E : Env w0) : Calls Tryz.prog 36 #[.int .i64 n] w fun e w2 => e = .returned (.string ⟨(Lib.decDigits n.toNat).toArray⟩) ∧ Sp w0 [] w2 L :=
  (Tryz.strconv_Itoa n (by omega) h1 w (E.sp S).tab).mono fun _ _ ⟨he, hg⟩ => ⟨by
    rw [he]
    obtain ⟨k, rfl⟩ := Int.eq_ofNat_of_zero_le h0
    rw [itoa_nat]
    rfl, S.ext0 (Grown.ext hg)⟩
theorem rpOut_take (d : Bs) (l : List Bs) {k : Nat} (h : k < l.length) : (rpOut d l).take (k + 1) = (rpOut d l).take k ++ [rpLine d l.length k l[k]] := by
  rw [List.take_succ_eq_append_getElem (by rw [rpOut_length]; exact h)]
  unfold rpOut
  rw [List.getElem_mapIdx]
set_option maxRecDepth 100000 in
set_option maxHeartbeats 4000000 in
theorem lines_any (code : Int) (hc1 : -9223372036854775808 ≤ code) (hc2 : code ≤ 9223372036854775807) (l : List Bs) (hl : l.length ≤ 1000000) (hs : ∀ s ∈ l, s.length ≤ 1000000) (T : TxAt w v l) (E : Env w) :
    Calls Tryz.prog 14 #[.agg #[.int .i64 code, v]] w fun e w2 => ∃ v2, e = .returned (.tuple #[v2, .int .i64 (rpLines code l).2]) ∧ Sp w [] w2 [textsR v2 (rpLines code l).1] := by
  have HE := Lib.hid E
  have HS0 := Lib.hid ((Sp.nil w []).box #[.int .i64 code, v] 41)
  have HT := Lib.hid T
  have HV : Hid (rpLines code l = if classC code = 0 then ([], 3) else if l = [] ∨ (l.any fun s => !printB s) = true then ([], 2) else (rpOut (Lib.decDigits code.toNat) l, 0)) := rfl
  have HSH := Lib.hid hs
  have hln : (l.length : Int) ≤ 1000000 := by omega
  obtain ⟨a, cap, rfl⟩ := T.form
  have hrg : classC code ≠ 0 → 0 ≤ code := fun h => by have := class_range h; omega
  have HRG := Lib.hid hrg
  have hd3 : Hid (classC code ≠ 0 → (Lib.decDigits code.toNat).length = 3) := fun h => dec3_len h
  clear T E hs hl hrg
  have c0 := HS0.out.cell
  go_enter Tryz.func14, Tryz.ntmps14
  go_wp2_with fail
  refine (class_any code _ hc1 hc2).mono ?_
  rintro e wq ⟨rfl, rfl⟩
  generalize w.alloc (.cells #[.int .i64 code, .slice a l.length cap] 41) = w1 at *
  generalize w.heap.size = q at *
  generalize classC code = cl at *
  by_cases hz : cl = 0
  · subst hz
    have HV1 : Hid (rpLines code l = ([], 3)) := by unfold Hid; rw [HV.out, if_pos rfl]
    go_wp2
    go_ret2
    rw [HV1.out]
    exact ⟨_, rfl, HS0.out.drop.textsNil⟩
  have HV1 : Hid (rpLines code l = if l = [] ∨ (l.any fun s => !printB s) = true then ([], 2) else (rpOut (Lib.decDigits code.toNat) l, 0)) := by unfold Hid; rw [HV.out, if_neg hz]
  have HD := Lib.hid (hd3.out hz)
  have h0c : 0 ≤ code := HRG.out hz
  have hz' : (cl == 0) = false := by simpa using hz
  clear hz HV HRG hd3
  by_cases hn : l = []
  · subst hn
    have HV2 : Hid (rpLines code [] = ([], 2)) := by unfold Hid; rw [HV1.out, if_pos (.inl rfl)]
    go_wp2
    go_ret2
    rw [HV2.out]
    exact ⟨_, rfl, HS0.out.drop.textsNil⟩
  have hpos : 0 < l.length := List.length_pos_iff.2 hn
  have hne : ((l.length : Int) == 0) = false := by simp; omega
  have HAB := Lib.hid (anyBadS l HSH.out (HT.out.ext HS0.out.ext) HS0.out)
  cases hab : (l.any fun s => !printB s) with
  | true =>
    have HV2 : Hid (rpLines code l = ([], 2)) := by unfold Hid; rw [HV1.out, if_pos (.inr hab)]
    rw [hab] at HAB
    clear hab hn
    go_wp2_with fail
    refine HAB.out.mono ?_
    rintro e w2 ⟨rfl, S2⟩
    have HS2 := Lib.hid S2
    clear S2 c0
    go_wp2
    go_ret2
    rw [HV2.out]
    exact ⟨_, rfl, HS2.out.drop.textsNil⟩
  | false =>
    have HV2 : Hid (rpLines code l = (rpOut (Lib.decDigits code.toNat) l, 0)) := by unfold Hid; rw [HV1.out, if_neg (by rw [hab]; simp [hn])]
    rw [hab] at HAB
    clear hab hn HV1
    go_wp2_with fail
    refine HAB.out.mono ?_
    rintro e w2 ⟨rfl, S2⟩
    have HS2 := Lib.hid S2
    have c2 := S2.cell
    clear S2 c0 HAB HS0
    go_wp2_with fail
    go_loopw [4, 26] (fun z i wr => ∃ (k : Nat) (vo : Value), i = .int .i64 k ∧ k ≤ l.length ∧ z = vo ∧ Sp w [] wr (textsR vo ((rpOut (Lib.decDigits code.toNat) l).take k) :: [boxR q #[.int .i64 code, .slice a l.length cap] 41])) (fun _ i _ => l.length - (intOf i).toNat)
    case atStart => exact ⟨0, _, rfl, by omega, rfl, HS2.out.textsNil⟩
    case round =>
      obtain ⟨k, vo, rfl, hk, rfl, S3⟩ := hrel
      have HS3 := Lib.hid S3
      have HT3 := Lib.hid (HT.out.ext S3.ext)
      clear c2
      have c3 := S3.pull1.cell
      clear S3 HS2
      by_cases hlt : k < l.length
      · have hlt' : (k : Int) < l.length := by omega
        obtain ⟨b, off, rfl, ck⟩ := HT3.out.at hlt
        have HX : Hid (l[k].length ≤ 1000000) := HSH.out _ (List.getElem_mem hlt)
        have HK := Lib.hid (rpOut_take (Lib.decDigits code.toNat) l hlt)
        have HKL : Hid (((rpOut (Lib.decDigits code.toNat) l).take k).length = k) := by unfold Hid; rw [List.length_take, rpOut_length]; omega
        have HIT := Lib.hid (itoaS code h0c hc2 HS3.out HE.out)
        have HD2 := HD.out
        generalize l[k] = x at *
        generalize Lib.decDigits code.toNat = d at *
        generalize (rpOut d l).take k = ro at *
        by_cases hlast : k + 1 = l.length
        · have HL : Hid (rpLine d l.length k x = d ++ 32 :: x) := by unfold Hid rpLine; rw [if_pos hlast]
          have h1 : ((k : Int) == (l.length : Int) - 1) = true := by simp; omega
          have HT2 : Hid (d ++ [32] ++ x = rpLine d l.length k x) := by rw [HL.out]; simp [Hid]
          have a1 := add_str d [32] (by unfold maxLen; simp; omega)
          have a2 := add_str (d ++ [32]) x (by have := HX.out; unfold maxLen; simp; omega)
          generalize rpLine d l.length k x = y at *
          generalize d ++ [32] = dx at *
          rw [HT2.out] at a2
          clear hlast HL
          go_wp2_with fail
          refine HIT.out.mono ?_
          rintro e w4 ⟨rfl, S4⟩
          obtain ⟨g2, cap2, w6, hrun, S6⟩ := Sp.appendText 36 y (by have := HKL.out; omega) (S4.box #[.string ⟨y.toArray⟩] 9)
          rw [HKL.out] at hrun S6
          have HS6 := Lib.hid S6
          have HRUN := Lib.hid hrun
          clear S4 S6 hrun
          go_wp2_with (at_builtin; refine wpList_append_run (by rfl) (by rfl) (by rfl) (by rfl) HRUN.out ?_)
          go_roundw
          case rel => exact ⟨k + 1, _, by go_num, by omega, by trivial, by rw [HK.out]; exact HS6.out⟩
          case measure => simp [intOf]; omega
        · have HL : Hid (rpLine d l.length k x = d ++ 45 :: x) := by unfold Hid rpLine; rw [if_neg hlast]
          have h1 : ((k : Int) == (l.length : Int) - 1) = false := by simp; omega
          have HT2 : Hid (d ++ [45] ++ x = rpLine d l.length k x) := by rw [HL.out]; simp [Hid]
          have a1 := add_str d [45] (by unfold maxLen; simp; omega)
          have a2 := add_str (d ++ [45]) x (by have := HX.out; unfold maxLen; simp; omega)
          generalize rpLine d l.length k x = y at *
          generalize d ++ [45] = dx at *
          rw [HT2.out] at a2
          clear hlast HL
          go_wp2_with fail
          refine HIT.out.mono ?_
          rintro e w4 ⟨rfl, S4⟩
          obtain ⟨g2, cap2, w6, hrun, S6⟩ := Sp.appendText 36 y (by have := HKL.out; omega) (S4.box #[.string ⟨y.toArray⟩] 9)
          rw [HKL.out] at hrun S6
          have HS6 := Lib.hid S6
          have HRUN := Lib.hid hrun
          clear S4 S6 hrun
          go_wp2_with (at_builtin; refine wpList_append_run (by rfl) (by rfl) (by rfl) (by rfl) HRUN.out ?_)
          go_roundw
          case rel => exact ⟨k + 1, _, by go_num, by omega, by trivial, by rw [HK.out]; exact HS6.out⟩
          case measure => simp [intOf]; omega
      · obtain rfl : k = l.length := by omega
        have HF : Hid ((rpOut (Lib.decDigits code.toNat) l).take l.length = rpOut (Lib.decDigits code.toNat) l) := by unfold Hid; rw [List.take_of_length_le (by rw [rpOut_length]; omega)]
        go_wp2
        go_ret2
        rw [HV2.out]
        exact ⟨_, rfl, by have := HS3.out; rw [HF.out] at this; exact this.pull1.drop⟩
theorem linesSp {F0 : List Nat} (code : Int) (hc1 : -9223372036854775808 ≤ code) (hc2 : code ≤ 9223372036854775807) (l : List Bs) (hl : l.length ≤ 1000000) (hs : ∀ s ∈ l, s.length ≤ 1000000) (T : TxAt w v l) (E : Env w) (S : Sp w0 F0 w L) :
    Calls Tryz.prog 14 #[.agg #[.int .i64 code, v]] w fun e w2 => ∃ v2, e = .returned (.tuple #[v2, .int .i64 (rpLines code l).2]) ∧ Sp w0 F0 w2 (textsR v2 (rpLines code l).1 :: L) :=
  (lines_any code hc1 hc2 l hl hs T E).mono fun _ _ ⟨v2, he, hs⟩ => ⟨v2, he, S.add hs⟩
end
end Go.Proofs.YtpclhkjladbooaaGreatDoor

/-! CmL3 -/
namespace Go.Proofs.YtpclhkjladbooaaGreatDoor
open Go.RowKit

theorem decFrom_lt : ∀ (s : Bs) (a n : Nat), Lib.decFrom a s = some n → n < (a + 1) * 10 ^ s.length
  | [], a, n, h => by simp only [Lib.decFrom, Option.some.injEq] at h; simp; omega
  | c :: s, a, n, h => by
    unfold Lib.decFrom at h
    cases hd : Lib.digitVal c with
    | none => rw [hd] at h; cases h
    | some d =>
      rw [hd] at h
      have h1 := decFrom_lt s _ n h
      have h2 : d ≤ 9 := by
        unfold Lib.digitVal at hd
        split at hd
        · rename_i hh
          simp only [Option.some.injEq] at hd
          omega
        · cases hd
      rw [List.length_cons, Nat.pow_succ]
      refine Nat.lt_of_lt_of_le h1 ?_
      rw [Nat.mul_comm (10 ^ s.length) 10, ← Nat.mul_assoc]
      exact Nat.mul_le_mul_right _ (by omega)
theorem decNat_lt {s : Bs} {n : Nat} (h : Lib.decNat s = some n) (hs : s.length ≤ 3) : n < 1000 := by
  unfold Lib.decNat at h
  split at h
  · cases h
  · have h1 := decFrom_lt s 0 n h
    have h2 : (10 : Nat) ^ s.length ≤ 10 ^ 3 := Nat.pow_le_pow_right (by decide) hs
    omega
theorem atoi_small {s : Bs} (hs : s.length ≤ 3) : -1000 ≤ (Lib.atoi s).getD 0 ∧ (Lib.atoi s).getD 0 ≤ 1000 := by
  cases s with
  | nil => simp [Lib.atoi]
  | cons c r =>
    rw [List.length_cons] at hs
    unfold Lib.atoi
    dsimp only
    split
    · cases h : Lib.decNat r with
      | none => simp
      | some n => have := decNat_lt h (by omega); simp; omega
    · split
      · cases h : Lib.decNat r with
        | none => simp
        | some n => have := decNat_lt h (by omega); simp; omega
      · cases h : Lib.decNat (c :: r) with
        | none => simp
        | some n => have := decNat_lt h (by rw [List.length_cons]; omega); simp; omega
theorem code_small (s : Bs) : -1000 ≤ codeOf s ∧ codeOf s ≤ 1000 := atoi_small (by rw [List.length_take]; omega)
section
variable {w0 w : World} {F0 : List Nat} {L : List Res} {b pc : Nat} {v : Value}
theorem atoiS (x : Bs) (hx : x.length ≤ 18) (S : Sp w0 [] w L) (E : Env w0) : Calls Tryz.prog 37 #[.string ⟨x.toArray⟩] w fun e w2 => ∃ ev, e = .returned (.tuple #[.int .i64 ((Lib.atoi x).getD 0), ev]) ∧ Sp w0 [] w2 L := by
  cases h : Lib.atoi x with
  | some n =>
    refine (Tryz.strconv_Atoi ⟨x.toArray⟩ n hx (by simpa using h) w).mono ?_
    rintro e w2 ⟨rfl, t, rfl⟩
    exact ⟨_, rfl, S.ext0 (Grown.bytes w _ _).ext⟩
  | none =>
    obtain ⟨ev, h1, h2⟩ := (E.sp S).syn
    refine (Tryz.strconv_Atoi_err ⟨x.toArray⟩ hx (by simpa using h) ev w h1 h2).mono ?_
    rintro e w2 ⟨N, rfl, _, _, hb⟩
    exact ⟨_, rfl, S.ext0 (Ext.of_below hb)⟩
theorem equalS {v2 : Value} (l m : List Bs) (T : TxAt w v l) (T2 : TxAt w v2 m) (S : Sp w0 F0 w L) : Calls Tryz.prog 38 #[v, v2] w fun e w2 => e = .returned (.bool (decide (l = m))) ∧ Sp w0 F0 w2 L := by
  obtain ⟨a, cap, rfl, hm, h⟩ := T
  obtain ⟨a2, cap2, rfl, hm2, h2⟩ := T2
  by_cases hl : l.length = m.length
  · rcases h with rfl | ⟨b, off, rfl, h⟩
    · have : m = [] := List.eq_nil_of_length_eq_zero hl.symm
      subst this
      refine (Tryz.slices_Equal_string_empty a a2 cap 0 cap2 w (by decide)).mono ?_
      rintro e w2 ⟨rfl, rfl⟩
      exact ⟨rfl, S⟩
    · rcases h2 with rfl | ⟨b2, off2, rfl, h2⟩
      · have : l = [] := List.eq_nil_of_length_eq_zero hl
        subst this
        refine (Tryz.slices_Equal_string_empty _ _ cap 0 cap2 w (by decide)).mono ?_
        rintro e w2 ⟨rfl, rfl⟩
        exact ⟨rfl, S⟩
      · refine (Tryz.slices_Equal_string b off l.length cap b2 off2 m.length cap2 (l.map fun s => ⟨s.toArray⟩) (m.map fun s => ⟨s.toArray⟩) w (by simp) (by simp) (by unfold maxLen at hm; omega) (by unfold maxLen at hm2; omega) ?_ ?_).mono ?_
        · intro j hj
          rw [List.length_map] at hj
          rw [h j hj, List.getD_eq_getElem?_getD, List.getElem?_map, List.getElem?_eq_getElem hj]
          rfl
        · intro j hj
          rw [List.length_map] at hj
          rw [h2 j hj, List.getD_eq_getElem?_getD, List.getElem?_map, List.getElem?_eq_getElem hj]
          rfl
        · rintro e w2 ⟨rfl, q, rfl⟩
          refine ⟨?_, S.drewN q⟩
          congr 2
          rw [List.take_of_length_le (by simp), List.take_of_length_le (by simp), decide_eq_decide]
          refine ⟨fun h => ?_, fun h => by rw [h]⟩
          have := congrArg (List.map fun x : ByteArray => x.data.toList) h
          simpa [List.map_map, Function.comp_def] using this
  · refine (Tryz.slices_Equal_string_lens a a2 l.length cap m.length cap2 w hl).mono ?_
    rintro e w2 ⟨rfl, rfl⟩
    refine ⟨?_, S⟩
    rw [decide_eq_false]
    intro e
    rw [e] at hl
    exact hl rfl
theorem rpCode_take {l : List Bs} {k : Nat} (h : k < l.length) : rpCode (l.take (k + 1)) = codeOf l[k] := by
  unfold rpCode
  rw [List.take_succ_eq_append_getElem h, List.getLast?_concat]
  rfl
theorem drop_take {l : List Bs} {k : Nat} (h : k < l.length) : (l.take (k + 1)).map (·.drop 4) = (l.take k).map (·.drop 4) ++ [l[k].drop 4] := by
  rw [List.take_succ_eq_append_getElem h, List.map_append]
  rfl
theorem short_take {l : List Bs} {k : Nat} (h : k < l.length) : ((l.take (k + 1)).any fun s => decide (s.length ≤ 3)) = (((l.take k).any fun s => decide (s.length ≤ 3)) || decide (l[k].length ≤ 3)) := by
  rw [List.take_succ_eq_append_getElem h, List.any_append, List.any_cons, List.any_nil, Bool.or_false]
theorem rpCode_small (l : List Bs) : -1000 ≤ rpCode l ∧ rpCode l ≤ 1000 := by
  unfold rpCode
  cases l.getLast? with
  | none => decide
  | some s => exact code_small s
set_option maxRecDepth 100000 in
set_option maxHeartbeats 4000000 in
theorem readReply_any (l : List Bs) (hl : l.length ≤ 1000000) (hs : ∀ s ∈ l, s.length ≤ 1000000) (T : TxAt w v l) (E : Env w) :
    Calls Tryz.prog 16 #[v] w fun e w2 => ∃ v2, e = .returned (.tuple #[.agg #[.int .i64 (rpRead l).1.1, v2], .int .i64 (rpRead l).2]) ∧ Sp w [] w2 [textsR v2 (rpRead l).1.2] := by
  have HE := Lib.hid E
  have HS0 := Lib.hid (((Sp.nil w []).box #[.int .i64 0, .slice none 0 0] 41).box #[.int .i64 0, .slice none 0 0] 41)
  have hsz : (w.alloc (.cells #[.int .i64 0, .slice none 0 0] 41)).heap.size = w.heap.size + 1 := by simp
  rw [hsz] at HS0
  have HT := Lib.hid T
  have HSH := Lib.hid hs
  have hln : (l.length : Int) ≤ 1000000 := by omega
  obtain ⟨a, cap, rfl⟩ := T.form
  clear T E hs hl
  go_enter Tryz.func16, Tryz.ntmps16
  go_wp2_with fail
  generalize (w.alloc (.cells #[.int .i64 0, .slice none 0 0] 41)).alloc (.cells #[.int .i64 0, .slice none 0 0] 41) = w1 at *
  generalize w.heap.size + 1 = q1 at *
  generalize w.heap.size = q0 at *
  clear hsz
  go_loopw [11] (fun i wr => ∃ (k : Nat) (vo : Value), i = .int .i64 k ∧ k ≤ l.length ∧ ((l.take k).any fun s => decide (s.length ≤ 3)) = false ∧ Sp w [] wr (textsR vo ((l.take k).map (·.drop 4)) :: boxR q1 #[.int .i64 (rpCode (l.take k)), vo] 41 :: [boxR q0 #[.int .i64 0, .slice none 0 0] 41])) (fun i _ => l.length - (intOf i).toNat)
  case atStart => exact ⟨0, _, rfl, by omega, rfl, HS0.out.textsNil⟩
  case round =>
    obtain ⟨k, vo, rfl, hk, hany, S3⟩ := hrel
    have HS3 := Lib.hid S3
    have HT3 := Lib.hid (HT.out.ext S3.ext)
    have HAN := Lib.hid hany
    have c1 := S3.pull1.cell
    have f1 := S3.pull1.free
    have l1 := S3.pull1.boxlt
    clear S3 HS0 hany
    by_cases hlt : k < l.length
    · have hlt' : (k : Int) < l.length := by omega
      obtain ⟨b, off, rfl, ck⟩ := HT3.out.at hlt
      have HX : Hid (l[k].length ≤ 1000000) := HSH.out _ (List.getElem_mem hlt)
      have HCT := Lib.hid (rpCode_take hlt)
      have HDT := Lib.hid (drop_take hlt)
      have HST := Lib.hid (short_take hlt)
      have HMEM : Hid (l[k] ∈ l) := List.getElem_mem hlt
      have HKL : Hid (((l.take k).map (·.drop 4)).length = k) := by unfold Hid; rw [List.length_map, List.length_take]; omega
      generalize l[k] = x at *
      generalize (l.take k).map (·.drop 4) = ro at *
      generalize rpCode (l.take k) = co at *
      have hx0 : (x.length : Int) ≤ 1000000 := by have := HX.out; omega
      by_cases hsh : x.length ≤ 3
      · have hsh' : (x.length : Int) ≤ 3 := by omega
        have HV : Hid (rpRead l = ((0, []), 2)) := by
          unfold rpRead Hid
          rw [if_pos]
          rw [List.any_eq_true]
          exact ⟨x, HMEM.out, by simpa using hsh⟩
        have c0 := HS3.out.pull2.cell
        have f0 := HS3.out.pull2.free
        have HS4 := Lib.hid (((HS3.out.pull2.set (o := 0) (.int .i64 0)).set (o := 1) (.slice none 0 0)).drop.drop.drop.textsNil)
        clear c1 f1 hsh
        go_wp2
        rw [HV.out]
        exact bodyPost_ret (v := .tuple #[.agg #[.int .i64 0, .slice none 0 0], .int .i64 2]) (by simp [results, Tryz.results16, go_sem, c0]) rfl ⟨_, rfl, HS4.out⟩
      · have hsh' : (3 : Int) < x.length := by omega
        have hsh4 : (4 : Int) ≤ x.length := by omega
        have he1 := cut_take x 3
        have he2 := cut_drop x 4 (by omega)
        have HAT := Lib.hid (atoiS (x.take 3) (by simp; omega) HS3.out HE.out)
        rw [show (Lib.atoi (x.take 3)).getD 0 = codeOf x from rfl] at HAT
        generalize codeOf x = cx at *
        generalize x.take 3 = x3 at *
        generalize x.drop 4 = y at *
        go_wp2_with fail
        refine HAT.out.mono ?_
        rintro e w4 ⟨ev, rfl, S4⟩
        have c4 := S4.pull1.cell
        have f4 := S4.pull1.free
        have HS5 := Lib.hid (S4.pull1.set (o := 0) (.int .i64 cx)).pull1
        clear S4 c1 f1 l1
        go_upto_region 8 with (fail)
        generalize w4.setCell ⟨q1, 0, none⟩ (.int .i64 cx) = w5 at *
        obtain ⟨g2, cap2, w6, hrun, S6⟩ := Sp.appendText 36 y (by have := HKL.out; omega) (HS5.out.box #[.string ⟨y.toArray⟩] 9).drew
        rw [HKL.out] at hrun S6
        have HRUN := Lib.hid hrun
        have HS6 := Lib.hid S6
        have c5 := HS5.out.pull1.cell
        have f5 := HS5.out.pull1.free
        have l5 := HS5.out.pull1.boxlt
        have k5 := (HS5.out.box #[.string ⟨y.toArray⟩] 9).pull2.cell
        have c6 := S6.pull1.cell
        have f6 := S6.pull1.free
        have l6 := S6.pull1.boxlt
        clear S6 hrun c4 f4
        go_region_law ((refine step_append_run (by rfl) (by rfl) (by rfl) (by rfl) HRUN.out ?_))
        all_goals
          go_wp2_with fail
          go_roundw
          case rel => exact ⟨k + 1, _, by go_num, by omega, by rw [HST.out, HAN.out, decide_eq_false hsh]; rfl, by rw [HDT.out, HCT.out]; exact (HS6.out.pull1.set (o := 1) (.slice (some ⟨g2, 0, none⟩) (k + 1) cap2)).pull1⟩
          case measure => simp [intOf]; omega
    · obtain rfl : k = l.length := by omega
      have HTK : Hid (l.take l.length = l) := List.take_of_length_le (Nat.le_refl _)
      rw [HTK.out] at HS3 HAN
      have HR : Hid (rpRead l = rpShut (rpCode l) (l.map (·.drop 4)) l) := by unfold Hid rpRead; rw [if_neg (by rw [HAN.out]; decide)]
      have HSD : Hid (rpShut (rpCode l) (l.map (·.drop 4)) l = if (rpLines (rpCode l) (l.map (·.drop 4))).2 = 0 ∧ (rpLines (rpCode l) (l.map (·.drop 4))).1 = l then ((rpCode l, l.map (·.drop 4)), 0) else ((0, []), 2)) := rfl
      have HTV := Lib.hid HS3.out.tx
      obtain ⟨av, cv, rfl⟩ := HTV.out.form
      have hco := rpCode_small l
      clear c1 f1 l1
      have HMS : Hid (∀ s ∈ l.map (·.drop 4), s.length ≤ 1000000) := fun s hs => by
        obtain ⟨t, ht, rfl⟩ := List.mem_map.1 hs
        have := HSH.out t ht
        simp only [List.length_drop]
        omega
      have HLS := Lib.hid (linesSp (rpCode l) (by omega) (by omega) (l.map (·.drop 4)) (by rw [List.length_map]; omega) HMS.out HTV.out (HE.out.ext HS3.out.ext) HS3.out)
      have c1 := HS3.out.pull1.cell
      generalize l.map (·.drop 4) = r at *
      generalize rpCode l = co at *
      generalize rpLines co r = q at *
      obtain ⟨out, er⟩ := q
      dsimp only at *
      go_wp2_with fail
      refine HLS.out.mono ?_
      rintro e w4 ⟨v4, rfl, S4⟩
      have HT4 := Lib.hid S4.tx
      have HTL := Lib.hid (HT.out.ext S4.ext)
      obtain ⟨a4, p4, rfl⟩ := HT4.out.form
      have HS4 := Lib.hid S4
      have c4 := S4.pull3.cell
      have f4 := S4.pull3.free
      have d4 := S4.pull2.cell
      clear S4 c1 HLS HS3
      by_cases he : er = 0
      · subst he
        by_cases hq : out = l
        · have HV : Hid (rpRead l = ((co, r), 0)) := by unfold Hid; rw [HR.out, HSD.out, if_pos ⟨rfl, hq⟩]
          have HEQ := Lib.hid (equalS out l HT4.out HTL.out HS4.out)
          rw [decide_eq_true hq] at HEQ
          clear hq
          go_wp2_with fail
          refine HEQ.out.mono ?_
          rintro e w5 ⟨rfl, S5⟩
          clear c4 f4 d4
          have c5 := S5.pull3.cell
          have f5 := S5.pull3.free
          have d5 := S5.pull2.cell
          have HS5 := Lib.hid S5
          clear S5
          have HS6 := Lib.hid ((HS5.out.pull3.set (o := 0) (.int .i64 co)).set (o := 1) (.slice av r.length cv)).drop.drop
          go_wp2
          rw [HV.out]
          exact bodyPost_ret (v := .tuple #[.agg #[.int .i64 co, .slice av r.length cv], .int .i64 0]) (by simp [results, Tryz.results16, go_sem, c5]) rfl ⟨_, rfl, HS6.out.pull1.drop⟩
        · have HV : Hid (rpRead l = ((0, []), 2)) := by unfold Hid; rw [HR.out, HSD.out, if_neg fun h => hq h.2]
          have HEQ := Lib.hid (equalS out l HT4.out HTL.out HS4.out)
          rw [decide_eq_false hq] at HEQ
          clear hq
          go_wp2_with fail
          refine HEQ.out.mono ?_
          rintro e w5 ⟨rfl, S5⟩
          clear c4 f4 d4
          have c5 := S5.pull3.cell
          have f5 := S5.pull3.free
          have HS5 := Lib.hid S5
          clear S5
          have HS6 := Lib.hid ((HS5.out.pull3.set (o := 0) (.int .i64 0)).set (o := 1) (.slice none 0 0)).drop.drop.drop.drop.textsNil
          go_wp2
          rw [HV.out]
          exact bodyPost_ret (v := .tuple #[.agg #[.int .i64 0, .slice none 0 0], .int .i64 2]) (by simp [results, Tryz.results16, go_sem, c5]) rfl ⟨_, rfl, HS6.out⟩
      · have he' : (er != 0) = true := by simpa using he
        have HV : Hid (rpRead l = ((0, []), 2)) := by unfold Hid; rw [HR.out, HSD.out, if_neg fun h => he h.1]
        have HS5 := Lib.hid ((HS4.out.pull3.set (o := 0) (.int .i64 0)).set (o := 1) (.slice none 0 0)).drop.drop.drop.drop.textsNil
        go_wp2
        rw [HV.out]
        exact bodyPost_ret (v := .tuple #[.agg #[.int .i64 0, .slice none 0 0], .int .i64 2]) (by simp [results, Tryz.results16, go_sem, c4]) rfl ⟨_, rfl, HS5.out⟩
theorem readReplySp (l : List Bs) (hl : l.length ≤ 1000000) (hs : ∀ s ∈ l, s.length ≤ 1000000) (T : TxAt w v l) (E : Env w) (S : Sp w0 F0 w L) :
    Calls Tryz.prog 16 #[v] w fun e w2 => ∃ v2, e = .returned (.tuple #[.agg #[.int .i64 (rpRead l).1.1, v2], .int .i64 (rpRead l).2]) ∧ Sp w0 F0 w2 (textsR v2 (rpRead l).1.2 :: L) :=
  (readReply_any l hl hs T E).mono fun _ _ ⟨v2, he, hs⟩ => ⟨v2, he, S.add hs⟩
end
end Go.Proofs.YtpclhkjladbooaaGreatDoor
