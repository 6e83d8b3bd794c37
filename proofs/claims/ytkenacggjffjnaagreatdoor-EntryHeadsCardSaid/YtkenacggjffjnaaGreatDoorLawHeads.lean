/- law 15: heads, names, and which entry any bytes are the head of, are the document's. Conditions: what Go's variables hold; the argument is one. -/
import Derived.Test.YtkenacggjffjnaaGreatDoorLw15
import Derived.Test.YtkenacggjffjnaaGreatDoorR15r
set_option linter.unusedSimpArgs false
set_option linter.unusedVariables false
set_option linter.unnecessarySimpa false
namespace Go.Proofs.YtkenacggjffjnaaGreatDoor
open Go.RowKit

section
variable {w : World}
set_option maxRecDepth 100000 in
set_option maxHeartbeats 8000000 in
theorem entryHeads_walk (e : En) (v : Value) (s : Bs) (w : World) (E : Env w) (hw : e.Wf) (T : TosAt w v e.rcs) (hs : s.length ≤ maxLen) : Calls Tryz.prog 3 #[enAgg e v, .string ⟨s.toArray⟩] w fun e w2 => e = .returned (.bool true) ∧ Ext [] w w2 := by
  have HE := Lib.hid E
  have HS0 := Lib.hid ((Sp.nil w []).box (enCells e v) 27)
  have HT := Lib.hid T
  have HL := Lib.hid (fun (w' : World) (hx : Ext [] w w') => large15_any e v w' hw (T.ext hx))
  have HFT := Lib.hid (@largeE_fit e hw)
  have HA := Lib.hid (awake15S ((Sp.nil w []).box (enCells e v) 27) E)
  obtain ⟨va, vc, rfl⟩ := T.form
  have HAG : Hid (enAgg e (.slice va e.rcs.length vc) = .agg (enCells e (.slice va e.rcs.length vc))) := rfl
  clear E hs T hw
  unfold enAgg
  unfold enCells at HS0 HA
  go_enter Tryz.func3, Tryz.ntmps3
  go_upto_region 1 with (fail)
  generalize w.alloc _ = w1 at *
  generalize w.heap.size = q at *
  go_wp2_with fail
  refine HA.out.mono ?_
  rintro e1 w2 ⟨rfl, S⟩
  have HS2 := Lib.hid S
  have c2 := S.cell
  clear S HA HS0
  have HLx := Lib.hid (HL.out w2 HS2.out.ext)
  unfold enAgg at HLx
  go_wp2_with fail
  refine HLx.out.mono ?_
  rintro e1 w3 ⟨rfl, hx⟩
  have HS3 := Lib.hid (HS2.out.ext0 hx)
  clear hx HS2 c2 HLx HL
  cases hlg : largeE e with
  | true =>
    clear HFT hlg
    go_wp2
    go_ret
    exact ⟨rfl, HS3.out.ext⟩
  | false =>
    have HF := Lib.hid (HFT.out hlg)
    clear HFT hlg
    by_cases h3 : 8192 < s.length
    · have h3' : (8192 : Int) < s.length := by omega
      clear h3
      go_wp2
      go_ret
      exact ⟨rfl, HS3.out.ext⟩
    have h3' : (s.length : Int) ≤ 8192 := by omega
    have HSL : Hid (s.length ≤ 1000000) := by unfold Hid; omega
    have c3 := HS3.out.cell
    clear h3
    have H1 := Lib.hid (fun (w' : World) (L' : List Res) (S' : Sp w [] w' L') => Calls.sp (enHead_any e (.slice va e.rcs.length vc) w' (HE.out.sp S') HF.out (HT.out.ext S'.ext)) S')
    have H2 := Lib.hid (fun (w' : World) (L' : List Res) (S' : Sp w [] w' L') => Calls.sp (r15Head_any e (.slice va e.rcs.length vc) w' HF.out (HT.out.ext S'.ext)) S')
    have H4 := Lib.hid (fun (w' : World) (L' : List Res) (S' : Sp w [] w' L') => r15ReadS s HSL.out S')
    have H5 := Lib.hid (fun (w' : World) (L' : List Res) (S' : Sp w [] w' L') => enNameS e (v := .slice va e.rcs.length vc) HE.out HF.out S')
    have H6 := Lib.hid (fun (w' : World) (L' : List Res) (S' : Sp w [] w' L') => r15NameS e (v := .slice va e.rcs.length vc) HF.out S')
    have H7 := Lib.hid (fun (w' : World) (L' : List Res) (S' : Sp w [] w' L') => Calls.sp (enMay_any e (.slice va e.rcs.length vc) w' (HE.out.sp S') HF.out (HT.out.ext S'.ext)) S')
    have H8 := Lib.hid (fun (w' : World) (L' : List Res) (S' : Sp w [] w' L') => Calls.sp (r15May_any e (.slice va e.rcs.length vc) w' HF.out (HT.out.ext S'.ext)) S')
    have H9 := Lib.hid (fun (g : En) (u : Value) (w' : World) (L' : List Res) (S' : Sp w [] w' L') (hg : EnAt w' g u) => Calls.sp (enSame_any e g w' ⟨HF.out, HT.out.ext S'.ext⟩ hg) S')
    have H10 := Lib.hid (fun (g : En) (u : Value) (w' : World) (L' : List Res) (S' : Sp w [] w' L') (hg : EnAt w' g u) => Calls.sp (r15Same_any e g w' ⟨HF.out, HT.out.ext S'.ext⟩ hg) S')
    have HG := Lib.hid (rdEn_fit 300 (by omega) ⟨s, false⟩)
    have HRE : Hid ((enRead 300 s).1.Fit) := by
      unfold Hid enRead
      split
      · exact HG.out
      · exact En.zero_fit
    have HRQ := Lib.hid (refRead_eq s)
    unfold enAgg at H1 H2 H5 H6 H7 H8 H9 H10
    clear HG
    go_wp2_with fail
    refine (H1.out _ _ HS3.out).mono ?_
    rintro e1 w4 ⟨rfl, S⟩
    have HS4 := Lib.hid S
    have c4 := S.cell
    clear S HS3 c3 H1
    go_wp2_with fail
    refine (H2.out _ _ HS4.out).mono ?_
    rintro e1 w5 ⟨rfl, S⟩
    have HS5 := Lib.hid S
    clear S HS4 c4 H2
    generalize enHead e = hh at *
    go_wp2_with fail
    refine (enReadS s HSL.out HE.out HS5.out).mono ?_
    rintro e1 w6 ⟨u, rfl, S⟩
    rw [HRQ.out] at H4
    generalize enRead 300 s = rr at *
    obtain ⟨g, f⟩ := rr
    dsimp only at *
    obtain ⟨ua, uc, rfl⟩ := S.tosAt.form
    unfold enAgg
    have HS6 := Lib.hid (S.box (enCells g (.slice ua g.rcs.length uc)) 27)
    unfold enCells at HS6
    clear S HS5
    go_upto_region 8 with (fail)
    generalize w6.alloc _ = w7 at *
    generalize w6.heap.size = q9 at *
    go_wp2_with fail
    refine (H4.out _ _ HS6.out).mono ?_
    rintro e1 w8 ⟨u2, rfl, S⟩
    obtain ⟨ub, ud, rfl⟩ := S.tosAt.form
    unfold enAgg
    have HS8 := Lib.hid (S.box (enCells g (.slice ub g.rcs.length ud)) 27)
    unfold enCells at HS8
    clear S HS6 H4
    go_upto_region 9 with (fail)
    generalize w8.alloc _ = w9 at *
    generalize w8.heap.size = q11 at *
    have hsg : enSame g g = true := same_refl g
    refine wp_region_text (S := fun wx => Sp w [] wx (boxR q11 #[.int .u64 g.id, .string ⟨g.dom.toArray⟩, .int .u64 g.ep, .int .u64 g.cnt, .string ⟨g.frm.1.toArray⟩, .string ⟨g.frm.2.toArray⟩, .slice ub g.rcs.length ud, .int .u64 g.born, .int .u64 g.nxt, .int .i64 g.tries] 27 :: tosR (.slice ub g.rcs.length ud) g.rcs :: boxR q9 #[.int .u64 g.id, .string ⟨g.dom.toArray⟩, .int .u64 g.ep, .int .u64 g.cnt, .string ⟨g.frm.1.toArray⟩, .string ⟨g.frm.2.toArray⟩, .slice ua g.rcs.length uc, .int .u64 g.born, .int .u64 g.nxt, .int .i64 g.tries] 27 :: tosR (.slice ua g.rcs.length uc) g.rcs :: boxR q #[.int .u64 e.id, .string ⟨e.dom.toArray⟩, .int .u64 e.ep, .int .u64 e.cnt, .string ⟨e.frm.1.toArray⟩, .string ⟨e.frm.2.toArray⟩, .slice va e.rcs.length vc, .int .u64 e.born, .int .u64 e.nxt, .int .i64 e.tries] 27 :: []) ∧ (∀ o, wx.cell? ⟨q11, o, none⟩ = (#[.int .u64 g.id, .string ⟨g.dom.toArray⟩, .int .u64 g.ep, .int .u64 g.cnt, .string ⟨g.frm.1.toArray⟩, .string ⟨g.frm.2.toArray⟩, .slice ub g.rcs.length ud, .int .u64 g.born, .int .u64 g.nxt, .int .i64 g.tries])[o]?) ∧ (∀ o, wx.cell? ⟨q9, o, none⟩ = (#[.int .u64 g.id, .string ⟨g.dom.toArray⟩, .int .u64 g.ep, .int .u64 g.cnt, .string ⟨g.frm.1.toArray⟩, .string ⟨g.frm.2.toArray⟩, .slice ua g.rcs.length uc, .int .u64 g.born, .int .u64 g.nxt, .int .i64 g.tries])[o]?) ∧ (∀ o, wx.cell? ⟨q, o, none⟩ = (#[.int .u64 e.id, .string ⟨e.dom.toArray⟩, .int .u64 e.ep, .int .u64 e.cnt, .string ⟨e.frm.1.toArray⟩, .string ⟨e.frm.2.toArray⟩, .slice va e.rcs.length vc, .int .u64 e.born, .int .u64 e.nxt, .int .i64 e.tries])[o]?)) (by kernel_rfl) (by kernel_rfl) ⟨(HS8.out).drew, (Sp.pick [_, _, _, _, _] [0] (by decide) ((HS8.out).drew)).cell, (Sp.pick [_, _, _, _, _] [2] (by decide) ((HS8.out).drew)).cell, (Sp.pick [_, _, _, _, _] [4] (by decide) ((HS8.out).drew)).cell⟩ ?_
    repeat
      refine Exists.intro ?_ (And.intro (fun wS hS K hK => ?_) (And.intro ?_ ?_))
      rotate_left 1
      · obtain ⟨hS1, hS2, hS3, hS4⟩ := hS
        first
          | (refine if_unwanted rfl ?_; simp only [Act.put, List.setIfInBounds_toArray, List.set_cons_zero, List.set_cons_succ]; exact hK.out _ ⟨hS1, hS2, hS3, hS4⟩)
          | (refine if_wanted rfl ?_; go_simp; exact hK.out _ ⟨hS1, hS2, hS3, hS4⟩)
          | (refine if_wanted rfl ?_; go_simp; go_at_call 15; refine (Calls.sp (r15Same_any _ _ _ (by first | exact ⟨HF.out, HT.out.ext hS1.ext⟩ | exact ⟨HRE.out, ((Sp.pick [_, _, _, _, _] [3] (by decide) (hS1))).tosAt⟩ | exact ⟨HRE.out, ((Sp.pick [_, _, _, _, _] [1] (by decide) (hS1))).tosAt⟩) (by first | exact ⟨HF.out, HT.out.ext hS1.ext⟩ | exact ⟨HRE.out, ((Sp.pick [_, _, _, _, _] [3] (by decide) (hS1))).tosAt⟩ | exact ⟨HRE.out, ((Sp.pick [_, _, _, _, _] [1] (by decide) (hS1))).tosAt⟩)) hS1).mono ?_; rintro e w12 ⟨rfl, S12⟩; exact hK.out _ ⟨S12, (Sp.pick [_, _, _, _, _] [0] (by decide) (S12)).cell, (Sp.pick [_, _, _, _, _] [2] (by decide) (S12)).cell, (Sp.pick [_, _, _, _, _] [4] (by decide) (S12)).cell⟩)
          | (refine if_wanted rfl ?_; go_simp; go_at_call 20; refine (Calls.sp (enSame_any _ _ _ (by first | exact ⟨HF.out, HT.out.ext hS1.ext⟩ | exact ⟨HRE.out, ((Sp.pick [_, _, _, _, _] [3] (by decide) (hS1))).tosAt⟩ | exact ⟨HRE.out, ((Sp.pick [_, _, _, _, _] [1] (by decide) (hS1))).tosAt⟩) (by first | exact ⟨HF.out, HT.out.ext hS1.ext⟩ | exact ⟨HRE.out, ((Sp.pick [_, _, _, _, _] [3] (by decide) (hS1))).tosAt⟩ | exact ⟨HRE.out, ((Sp.pick [_, _, _, _, _] [1] (by decide) (hS1))).tosAt⟩)) hS1).mono ?_; rintro e w12 ⟨rfl, S12⟩; exact hK.out _ ⟨S12, (Sp.pick [_, _, _, _, _] [0] (by decide) (S12)).cell, (Sp.pick [_, _, _, _, _] [2] (by decide) (S12)).cell, (Sp.pick [_, _, _, _, _] [4] (by decide) (S12)).cell⟩)
          | (refine if_wanted rfl ?_; go_simp; go_at_call 16; refine (H5.out _ _ hS1).mono ?_; rintro e w12 ⟨rfl, S12⟩; exact hK.out _ ⟨S12, (Sp.pick [_, _, _, _, _] [0] (by decide) (S12)).cell, (Sp.pick [_, _, _, _, _] [2] (by decide) (S12)).cell, (Sp.pick [_, _, _, _, _] [4] (by decide) (S12)).cell⟩)
          | (refine if_wanted rfl ?_; go_simp; go_at_call 17; refine (H6.out _ _ hS1).mono ?_; rintro e w12 ⟨rfl, S12⟩; exact hK.out _ ⟨S12, (Sp.pick [_, _, _, _, _] [0] (by decide) (S12)).cell, (Sp.pick [_, _, _, _, _] [2] (by decide) (S12)).cell, (Sp.pick [_, _, _, _, _] [4] (by decide) (S12)).cell⟩)
          | (refine if_wanted rfl ?_; go_simp; go_at_call 18; refine (H7.out _ _ hS1).mono ?_; rintro e w12 ⟨rfl, S12⟩; exact hK.out _ ⟨S12, (Sp.pick [_, _, _, _, _] [0] (by decide) (S12)).cell, (Sp.pick [_, _, _, _, _] [2] (by decide) (S12)).cell, (Sp.pick [_, _, _, _, _] [4] (by decide) (S12)).cell⟩)
          | (refine if_wanted rfl ?_; go_simp; go_at_call 19; refine (H8.out _ _ hS1).mono ?_; rintro e w12 ⟨rfl, S12⟩; exact hK.out _ ⟨S12, (Sp.pick [_, _, _, _, _] [0] (by decide) (S12)).cell, (Sp.pick [_, _, _, _, _] [2] (by decide) (S12)).cell, (Sp.pick [_, _, _, _, _] [4] (by decide) (S12)).cell⟩)
      · rfl
    intro wE hE
    have HSE := Lib.hid hE.1
    clear hE
    go_wp2
    go_ret
    exact ⟨rfl, HSE.out.ext⟩
end
end Go.Proofs.YtkenacggjffjnaaGreatDoor
