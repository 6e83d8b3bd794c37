/- The document's answer for layer 10: Lines. Conditions: the lengths fit. -/
import Derived.Test.YtpclhkjladbooaaGreatDoorR10
set_option linter.unusedSimpArgs false
set_option linter.unusedVariables false
set_option linter.unnecessarySimpa false
namespace Go.Proofs.YtpclhkjladbooaaGreatDoor
open Go.RowKit

theorem anyBad_take {l : List Bs} {k : Nat} (h : k < l.length) : ((l.take (k + 1)).any fun s => !printB s) = (((l.take k).any fun s => !printB s) || !printB l[k]) := by
  rw [List.take_succ_eq_append_getElem h, List.any_append, List.any_cons, List.any_nil, Bool.or_false]
section
variable {w0 w : World} {F0 : List Nat} {L : List Res} {v : Value}
set_option maxRecDepth 100000 in
set_option maxHeartbeats 4000000 in
theorem r10Lines_any (code : Int) (hc1 : -9223372036854775808 ≤ code) (hc2 : code ≤ 9223372036854775807) (l : List Bs) (hl : l.length ≤ 1000000) (hs : ∀ s ∈ l, s.length ≤ 1000000) (T : TxAt w v l) :
    Calls Tryz.prog 15 #[.agg #[.int .i64 code, v]] w fun e w2 => ∃ v2, e = .returned (.tuple #[v2, .int .i64 (rpLines code l).2]) ∧ Sp w [] w2 [textsR v2 (rpLines code l).1] := by
  have HS0 := Lib.hid ((Sp.nil w []).box #[.int .i64 code, v] 43)
  have HT := Lib.hid T
  have HV : Hid (rpLines code l = if classC code = 0 then ([], 3) else if l = [] ∨ (l.any fun s => !printB s) = true then ([], 2) else (rpOut (Lib.decDigits code.toNat) l, 0)) := rfl
  have HSH := Lib.hid hs
  have hln : (l.length : Int) ≤ 1000000 := by omega
  obtain ⟨a, cap, rfl⟩ := T.form
  have hrg : classC code ≠ 0 → 200 ≤ code ∧ code ≤ 599 := class_range
  have HRG := Lib.hid hrg
  have hd3 : Hid (classC code ≠ 0 → (Lib.decDigits code.toNat).length = 3) := fun h => dec3_len h
  clear T hs hl hrg
  have c0 := HS0.out.cell
  go_enter Tryz.func15, Tryz.ntmps15
  go_wp2_with fail
  refine (r10Class_any code _ hc1 hc2).mono ?_
  rintro e wq ⟨rfl, rfl⟩
  generalize w.alloc (.cells #[.int .i64 code, .slice a l.length cap] 43) = w1 at *
  generalize w.heap.size = q at *
  generalize classC code = cl at *
  by_cases hz : cl = 0
  · subst hz
    have HV1 : Hid (rpLines code l = ([], 3)) := by unfold Hid; rw [HV.out, if_pos rfl]
    go_wp2
    go_ret2
    rw [HV1.out]
    exact ⟨_, rfl, HS0.out.drop.textsNil⟩
  have HV1 : Hid (rpLines code l = if l = [] ∨ (l.any fun s => !printB s) = true then ([], 2) else (rpOut (Lib.decDigits code.toNat) l, 0)) := by unfold Hid; rw [HV.out, if_neg hz]
  have HD := Lib.hid (hd3.out hz)
  obtain ⟨h0c, h9c⟩ := HRG.out hz
  obtain ⟨cn, rfl⟩ : ∃ cn : Nat, code = cn := ⟨code.toNat, by omega⟩
  have hz' : (cl == 0) = false := by simpa using hz
  rw [Int.toNat_natCast] at HD HV1
  have HNUM := Lib.hid (fun w' => r10Num_any cn w' (by omega))
  clear hz HV HRG hd3
  generalize Lib.decDigits cn = d at *
  have HSN := Lib.hid HS0.out.textsNone
  have hq1 := HS0.out.boxlt
  clear c0
  have c0 := HS0.out.cell
  go_wp2_with fail
  generalize w1.heap.size = q1 at *
  generalize w1.alloc (.cells #[] 9) = w2 at *
  clear c0 hq1
  go_loopw [4, 5] (fun z i wr => ∃ (k : Nat) (vo : Value), i = .int .i64 k ∧ k ≤ l.length ∧ z = vo ∧ ((l.take k).any fun s => !printB s) = false ∧ Sp w [] wr (textsR vo ((rpOut d l).take k) :: [boxR q #[.int .i64 cn, .slice a l.length cap] 43])) (fun _ i _ => l.length - (intOf i).toNat)
  case atStart => exact ⟨0, _, rfl, by omega, rfl, rfl, HSN.out⟩
  case round =>
    clear HSN HS0
    obtain ⟨k, vo, rfl, hk, rfl, hany, S3⟩ := hrel
    have HS3 := Lib.hid S3
    have HAN := Lib.hid hany
    have HT3 := Lib.hid (HT.out.ext S3.ext)
    have c3 := S3.pull1.cell
    clear S3 hany
    by_cases hlt : k < l.length
    · have hlt' : (k : Int) < l.length := by omega
      obtain ⟨b, off, rfl, ck⟩ := HT3.out.at hlt
      have HCK := Lib.hid (fun (wx : World) (hx : Ext [] w wx) => HT.out.ext hx)
      have HX : Hid (l[k].length ≤ 1000000) := HSH.out _ (List.getElem_mem hlt)
      have HK := Lib.hid (rpOut_take d l hlt)
      have HKL : Hid (((rpOut d l).take k).length = k) := by unfold Hid; rw [List.length_take, rpOut_length]; omega
      have HAT := Lib.hid (anyBad_take hlt)
      have HM : Hid (l[k] ∈ l) := List.getElem_mem hlt
      have HPR := Lib.hid (fun w' => r10Printed_any l[k] w' HX.out)
      have HC2 : Hid (∀ wx, Ext [] w wx → wx.cell? ⟨b, off + k, none⟩ = some (.string ⟨l[k].toArray⟩)) := fun wx hx => by
        obtain ⟨b', off', h1, h2⟩ := (HCK.out wx hx).at hlt
        cases h1
        exact h2
      clear HCK
      generalize l[k] = x at *
      cases hp : printB x with
      | false =>
        have HV2 : Hid (rpLines cn l = ([], 2)) := by
          unfold Hid
          rw [HV1.out]
          exact if_pos (.inr (by rw [List.any_eq_true]; exact ⟨x, HM.out, by rw [hp]; rfl⟩))
        rw [hp] at HPR
        clear hp
        go_wp2_with fail
        refine (HPR.out _).mono ?_
        rintro e wz ⟨rfl, rfl⟩
        go_wp2
        go_ret2
        rw [HV2.out]
        exact ⟨_, rfl, HS3.out.drop.drop.textsNil⟩
      | true =>
        rw [hp] at HPR HAT
        have HAN2 : Hid (((l.take (k + 1)).any fun s => !printB s) = false) := by unfold Hid; rw [HAT.out, HAN.out]; rfl
        clear hp HAT
        go_wp2_with fail
        refine (HPR.out _).mono ?_
        rintro e wz ⟨rfl, rfl⟩
        by_cases hlast : k + 1 = l.length
        · have HL : Hid (rpLine d l.length k x = d ++ 32 :: x) := by unfold Hid rpLine; rw [if_pos hlast]
          have h1 : ((k : Int) + 1 == (l.length : Int)) = true := by simp; omega
          have HT2 : Hid (d ++ [32] ++ x = rpLine d l.length k x) := by rw [HL.out]; simp [Hid]
          have a1 := add_str d [32] (by have := HD.out; unfold maxLen; simp; omega)
          have a2 := add_str (d ++ [32]) x (by have := HX.out; have := HD.out; unfold maxLen; simp; omega)
          generalize rpLine d l.length k x = y at *
          generalize d ++ [32] = dx at *
          rw [HT2.out] at a2
          generalize (rpOut d l).take k = ro at *
          clear hlast HL
          go_wp2_with fail
          have HFT := Lib.hid (fun (wx : World) (h : Sp w [] wx (textsR u4 ro :: [boxR q #[.int .i64 cn, .slice (some ⟨b, off, none⟩) l.length cap] 43])) => And.intro (And.intro (h.pull1.cell 0) (h.pull1.cell 1)) (HC2.out wx h.ext))
          refine wp_region_chainG [0, 1, 2, 4, 6, 7, 8, 9, 10, 3, 5, 11, 12, 13, 14] (fun c => c == 3 || c == 12 || c == 13) (T := (fun wx => (wx.cell? ⟨q, 0, none⟩ = some (.int .i64 cn) ∧ wx.cell? ⟨q, 1, none⟩ = some (.slice (some ⟨b, off, none⟩) l.length cap)) ∧ wx.cell? ⟨b, off + k, none⟩ = some (.string ⟨x.toArray⟩))) (S := (fun wx => Sp w [] wx (textsR u4 ro :: [boxR q #[.int .i64 cn, .slice (some ⟨b, off, none⟩) l.length cap] 43]))) (by kernel_rfl) (by kernel_rfl) HS3.out.drew (fun wx h => HFT.out wx h) ?_
          clear c3 ck
          repeat
            refine Exists.intro _ (And.intro rfl (Or.inl (Exists.intro ?_ (And.intro (fun wS hS K hK => ?_) (And.intro ?_ ?_)))))
            rotate_left 1
            · obtain ⟨⟨t0, t1⟩, t2⟩ := hS
              first
                | (refine if_unwanted rfl ?_; simp only [Act.put, List.setIfInBounds_toArray, List.set_cons_zero, List.set_cons_succ]; exact hK.out)
                | (refine if_wanted rfl ?_; go_simp; exact hK.out)
            · rfl
          refine ChainG.one rfl rfl rfl (fun wS hS R hR => ?_)
          go_simp
          go_at_call 32
          refine (HNUM.out wS).mono ?_
          rintro e w7 ⟨rfl, hx7⟩
          refine hR.out _ _ rfl (fun wx => (wx.cell? ⟨q, 0, none⟩ = some (.int .i64 cn) ∧ wx.cell? ⟨q, 1, none⟩ = some (.slice (some ⟨b, off, none⟩) l.length cap)) ∧ wx.cell? ⟨b, off + k, none⟩ = some (.string ⟨x.toArray⟩)) (fun wx => Sp w [] wx (textsR u4 ro :: [boxR q #[.int .i64 cn, .slice (some ⟨b, off, none⟩) l.length cap] 43])) (hS.ext0 hx7) (fun wx h => HFT.out wx h) (fun _ h => h) ?_
          clear hR hS hx7
          repeat
            refine Exists.intro _ (And.intro rfl (Or.inl (Exists.intro ?_ (And.intro (fun wS hS K hK => ?_) (And.intro ?_ ?_)))))
            rotate_left 1
            · obtain ⟨⟨t0, t1⟩, t2⟩ := hS
              first
                | (refine if_unwanted rfl ?_; simp only [Act.put, List.setIfInBounds_toArray, List.set_cons_zero, List.set_cons_succ]; exact hK.out)
                | (refine if_wanted rfl ?_; go_simp; exact hK.out)
            · rfl
          refine ChainG.one rfl rfl rfl (fun wS hS R hR => ?_)
          go_simp
          refine hR.out _ _ rfl (fun wx => (wx.cell? ⟨q, 0, none⟩ = some (.int .i64 cn) ∧ wx.cell? ⟨q, 1, none⟩ = some (.slice (some ⟨b, off, none⟩) l.length cap)) ∧ wx.cell? ⟨b, off + k, none⟩ = some (.string ⟨x.toArray⟩)) (fun wx => Sp w [] wx (boxR wS.heap.size #[.string ⟨y.toArray⟩] 9 :: textsR u4 ro :: [boxR q #[.int .i64 cn, .slice (some ⟨b, off, none⟩) l.length cap] 43])) (hS.box #[.string ⟨y.toArray⟩] 9) (fun wx h => HFT.out wx h.drop) (fun _ h => h) ?_
          generalize wS.heap.size = qb at *
          clear hR hS
          refine ChainG.one rfl rfl rfl (fun wB hS R hR => ?_)
          obtain ⟨g2, cap2, w6, hrun, S6⟩ := Sp.appendText 36 y (by have := HKL.out; omega) hS
          rw [HKL.out] at hrun S6
          refine oper_append_run (by rfl) (by rfl) (by rfl) hrun ?_
          refine hR.out _ _ rfl (fun wx => (wx.cell? ⟨q, 0, none⟩ = some (.int .i64 cn) ∧ wx.cell? ⟨q, 1, none⟩ = some (.slice (some ⟨b, off, none⟩) l.length cap)) ∧ wx.cell? ⟨b, off + k, none⟩ = some (.string ⟨x.toArray⟩)) (fun wx => Sp w [] wx (textsR (.slice (some ⟨g2, 0, none⟩) (k + 1) cap2) (ro ++ [y]) :: [boxR q #[.int .i64 cn, .slice (some ⟨b, off, none⟩) l.length cap] 43])) S6 (fun wx h => And.intro (And.intro (h.pull1.cell 0) (h.pull1.cell 1)) (HC2.out wx h.ext)) (fun _ h => h) ?_
          clear hR hS hrun S6
          repeat
            refine Exists.intro _ (And.intro rfl (Or.inl (Exists.intro ?_ (And.intro (fun wS hS K hK => ?_) (And.intro ?_ ?_)))))
            rotate_left 1
            · obtain ⟨⟨t0, t1⟩, t2⟩ := hS
              first
                | (refine if_unwanted rfl ?_; simp only [Act.put, List.setIfInBounds_toArray, List.set_cons_zero, List.set_cons_succ]; exact hK.out)
                | (refine if_wanted rfl ?_; go_simp; exact hK.out)
            · rfl
          intro wE hE
          have HSE := Lib.hid hE
          clear hE
          go_wp2_with fail
          go_roundw
          case rel => exact ⟨k + 1, _, by go_num, by omega, by trivial, HAN2.out, by rw [HK.out]; exact HSE.out⟩
          case measure => simp [intOf]; omega
        · have HL : Hid (rpLine d l.length k x = d ++ 45 :: x) := by unfold Hid rpLine; rw [if_neg hlast]
          have h1 : ((k : Int) + 1 == (l.length : Int)) = false := by simp; omega
          have HT2 : Hid (d ++ [45] ++ x = rpLine d l.length k x) := by rw [HL.out]; simp [Hid]
          have a1 := add_str d [45] (by have := HD.out; unfold maxLen; simp; omega)
          have a2 := add_str (d ++ [45]) x (by have := HX.out; have := HD.out; unfold maxLen; simp; omega)
          generalize rpLine d l.length k x = y at *
          generalize d ++ [45] = dx at *
          rw [HT2.out] at a2
          generalize (rpOut d l).take k = ro at *
          clear hlast HL
          go_wp2_with fail
          have HFT := Lib.hid (fun (wx : World) (h : Sp w [] wx (textsR u4 ro :: [boxR q #[.int .i64 cn, .slice (some ⟨b, off, none⟩) l.length cap] 43])) => And.intro (And.intro (h.pull1.cell 0) (h.pull1.cell 1)) (HC2.out wx h.ext))
          refine wp_region_chainG [0, 1, 2, 4, 6, 7, 8, 9, 10, 3, 5, 11, 12, 13, 14] (fun c => c == 3 || c == 12 || c == 13) (T := (fun wx => (wx.cell? ⟨q, 0, none⟩ = some (.int .i64 cn) ∧ wx.cell? ⟨q, 1, none⟩ = some (.slice (some ⟨b, off, none⟩) l.length cap)) ∧ wx.cell? ⟨b, off + k, none⟩ = some (.string ⟨x.toArray⟩))) (S := (fun wx => Sp w [] wx (textsR u4 ro :: [boxR q #[.int .i64 cn, .slice (some ⟨b, off, none⟩) l.length cap] 43]))) (by kernel_rfl) (by kernel_rfl) HS3.out.drew (fun wx h => HFT.out wx h) ?_
          clear c3 ck
          repeat
            refine Exists.intro _ (And.intro rfl (Or.inl (Exists.intro ?_ (And.intro (fun wS hS K hK => ?_) (And.intro ?_ ?_)))))
            rotate_left 1
            · obtain ⟨⟨t0, t1⟩, t2⟩ := hS
              first
                | (refine if_unwanted rfl ?_; simp only [Act.put, List.setIfInBounds_toArray, List.set_cons_zero, List.set_cons_succ]; exact hK.out)
                | (refine if_wanted rfl ?_; go_simp; exact hK.out)
            · rfl
          refine ChainG.one rfl rfl rfl (fun wS hS R hR => ?_)
          go_simp
          go_at_call 32
          refine (HNUM.out wS).mono ?_
          rintro e w7 ⟨rfl, hx7⟩
          refine hR.out _ _ rfl (fun wx => (wx.cell? ⟨q, 0, none⟩ = some (.int .i64 cn) ∧ wx.cell? ⟨q, 1, none⟩ = some (.slice (some ⟨b, off, none⟩) l.length cap)) ∧ wx.cell? ⟨b, off + k, none⟩ = some (.string ⟨x.toArray⟩)) (fun wx => Sp w [] wx (textsR u4 ro :: [boxR q #[.int .i64 cn, .slice (some ⟨b, off, none⟩) l.length cap] 43])) (hS.ext0 hx7) (fun wx h => HFT.out wx h) (fun _ h => h) ?_
          clear hR hS hx7
          repeat
            refine Exists.intro _ (And.intro rfl (Or.inl (Exists.intro ?_ (And.intro (fun wS hS K hK => ?_) (And.intro ?_ ?_)))))
            rotate_left 1
            · obtain ⟨⟨t0, t1⟩, t2⟩ := hS
              first
                | (refine if_unwanted rfl ?_; simp only [Act.put, List.setIfInBounds_toArray, List.set_cons_zero, List.set_cons_succ]; exact hK.out)
                | (refine if_wanted rfl ?_; go_simp; exact hK.out)
            · rfl
          refine ChainG.one rfl rfl rfl (fun wS hS R hR => ?_)
          go_simp
          refine hR.out _ _ rfl (fun wx => (wx.cell? ⟨q, 0, none⟩ = some (.int .i64 cn) ∧ wx.cell? ⟨q, 1, none⟩ = some (.slice (some ⟨b, off, none⟩) l.length cap)) ∧ wx.cell? ⟨b, off + k, none⟩ = some (.string ⟨x.toArray⟩)) (fun wx => Sp w [] wx (boxR wS.heap.size #[.string ⟨y.toArray⟩] 9 :: textsR u4 ro :: [boxR q #[.int .i64 cn, .slice (some ⟨b, off, none⟩) l.length cap] 43])) (hS.box #[.string ⟨y.toArray⟩] 9) (fun wx h => HFT.out wx h.drop) (fun _ h => h) ?_
          generalize wS.heap.size = qb at *
          clear hR hS
          refine ChainG.one rfl rfl rfl (fun wB hS R hR => ?_)
          obtain ⟨g2, cap2, w6, hrun, S6⟩ := Sp.appendText 36 y (by have := HKL.out; omega) hS
          rw [HKL.out] at hrun S6
          refine oper_append_run (by rfl) (by rfl) (by rfl) hrun ?_
          refine hR.out _ _ rfl (fun wx => (wx.cell? ⟨q, 0, none⟩ = some (.int .i64 cn) ∧ wx.cell? ⟨q, 1, none⟩ = some (.slice (some ⟨b, off, none⟩) l.length cap)) ∧ wx.cell? ⟨b, off + k, none⟩ = some (.string ⟨x.toArray⟩)) (fun wx => Sp w [] wx (textsR (.slice (some ⟨g2, 0, none⟩) (k + 1) cap2) (ro ++ [y]) :: [boxR q #[.int .i64 cn, .slice (some ⟨b, off, none⟩) l.length cap] 43])) S6 (fun wx h => And.intro (And.intro (h.pull1.cell 0) (h.pull1.cell 1)) (HC2.out wx h.ext)) (fun _ h => h) ?_
          clear hR hS hrun S6
          repeat
            refine Exists.intro _ (And.intro rfl (Or.inl (Exists.intro ?_ (And.intro (fun wS hS K hK => ?_) (And.intro ?_ ?_)))))
            rotate_left 1
            · obtain ⟨⟨t0, t1⟩, t2⟩ := hS
              first
                | (refine if_unwanted rfl ?_; simp only [Act.put, List.setIfInBounds_toArray, List.set_cons_zero, List.set_cons_succ]; exact hK.out)
                | (refine if_wanted rfl ?_; go_simp; exact hK.out)
            · rfl
          intro wE hE
          have HSE := Lib.hid hE
          clear hE
          go_wp2_with fail
          go_roundw
          case rel => exact ⟨k + 1, _, by go_num, by omega, by trivial, HAN2.out, by rw [HK.out]; exact HSE.out⟩
          case measure => simp [intOf]; omega
    · obtain rfl : k = l.length := by omega
      rw [List.take_of_length_le (Nat.le_refl _)] at HAN
      have HF : Hid ((rpOut d l).take l.length = rpOut d l) := by unfold Hid; rw [List.take_of_length_le (by rw [rpOut_length]; omega)]
      rw [HF.out] at HS3
      have HOL : Hid ((rpOut d l).length = l.length) := rpOut_length d l
      by_cases hn : l = []
      · subst hn
        have HV2 : Hid (rpLines cn [] = ([], 2)) := by unfold Hid; rw [HV1.out, if_pos (.inl rfl)]
        obtain ⟨a3, c3', rfl⟩ := HS3.out.tx.form
        go_wp2
        go_ret2
        rw [HV2.out]
        exact ⟨_, rfl, HS3.out.drop.drop.textsNil⟩
      · have HV2 : Hid (rpLines cn l = (rpOut d l, 0)) := by unfold Hid; rw [HV1.out, if_neg (by rw [HAN.out]; simp [hn])]
        have hne : ((l.length : Int) == 0) = false := by have := List.length_pos_iff.2 hn; simp; omega
        obtain ⟨a3, c3', rfl⟩ := HS3.out.tx.form
        rw [HOL.out] at HS3
        rw [HOL.out]
        clear hn
        go_wp2
        go_ret2
        rw [HV2.out]
        exact ⟨_, rfl, HS3.out.pull1.drop⟩
end
end Go.Proofs.YtpclhkjladbooaaGreatDoor
