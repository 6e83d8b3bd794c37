/- posthornlaw21: awake. Conditions: what Go's variables hold. -/
import Derived.Test.YtapenolbbofjkaaGreatDoorAw21
set_option linter.unusedSimpArgs false
set_option linter.unusedVariables false
set_option linter.unnecessarySimpa false
namespace Go.Proofs.YtapenolbbofjkaaGreatDoor
open Go.RowKit Go.Maps

section
variable {w0 w w2 : World} {F0 : List Nat} {L : List Res} {p : Nat} {s : Sv} {K : List Rom} {v : Value}
theorem aw21_qe : (aw21s 8).queue = [] := by kernel_rfl
theorem aw21_cf : aw21f.came.length ≤ 1000000000 := by decide +kernel
theorem aw21_bytes : (svNew cfS).came.length + aw21t.length ≤ 1000000000 := by decide +kernel
def AwT (g off b o c b6 o6 c6 : Nat) (wx : World) : Prop := wx.cell? ⟨g, off + 1, none⟩ = some (.int .i64 220) ∧ wx.cell? ⟨g, off + 10, none⟩ = some (.slice (some ⟨b, o, none⟩) 4 c) ∧ wx.cell? ⟨b, o + 1, none⟩ = some (.string ⟨#[83, 73, 90, 69, 32, 49, 48, 48]⟩) ∧ wx.cell? ⟨g, off + 17, none⟩ = some (.int .i64 250) ∧ wx.cell? ⟨g, off + 33, none⟩ = some (.int .i64 550) ∧ wx.cell? ⟨g, off + 41, none⟩ = some (.int .i64 354) ∧ wx.cell? ⟨g, off + 48, none⟩ = some (.int .i64 1) ∧ wx.cell? ⟨g, off + 51, none⟩ = some (.string ⟨#[99, 46, 100]⟩) ∧ wx.cell? ⟨g, off + 54, none⟩ = some (.slice (some ⟨b6, o6, none⟩) 1 c6) ∧ wx.cell? ⟨g, off + 55, none⟩ = some (.string ⟨#[46, 120, 13, 10]⟩) ∧ wx.cell? ⟨b6, o6, none⟩ = some (.string ⟨#[97, 110, 110]⟩) ∧ wx.cell? ⟨b6, o6 + 1, none⟩ = some (.string ⟨#[97, 46, 101, 120, 97, 109, 112, 108, 101]⟩)
def AwT2 (g off b o c b6 o6 c6 c2 : Nat) (wx : World) : Prop := AwT g off b o c b6 o6 c6 wx ∧ wx.cell? ⟨c2, 0, none⟩ = some (.string ⟨#[97, 110, 110]⟩) ∧ wx.cell? ⟨c2, 1, none⟩ = some (.string ⟨#[97, 46, 101, 120, 97, 109, 112, 108, 101]⟩)
theorem small21E (w : World) : Calls Tryz.prog 10 #[] w fun e w2 => ∃ b1 b2, e = .returned (.agg #[.string ⟨hostS.toArray⟩, .int .i64 100, .slice (some ⟨b1, 0, none⟩) 3 3, .slice (some ⟨b2, 0, none⟩) 1 1]) ∧ Ext [] w w2 ∧
    RlsAt w2 (.slice (some ⟨b1, 0, none⟩) 3 3) rulesS ∧ BxsAt w2 (.slice (some ⟨b2, 0, none⟩) 1 1) boxesS ∧ w2.cell? ⟨b2, 0, none⟩ = some (.string ⟨#[97, 110, 110]⟩) ∧ w2.cell? ⟨b2, 1, none⟩ = some (.string ⟨#[97, 46, 101, 120, 97, 109, 112, 108, 101]⟩) := by
  refine (small21S (Sp.nil w [])).mono ?_
  rintro e w2 ⟨b1, b2, rfl, S⟩
  exact ⟨b1, b2, rfl, S.ext, S.rls, S.pull1.bxs, S.pull1.rowCell (mbVals_len boxesS) (i := 0) rfl (j := 0) rfl, S.pull1.rowCell (mbVals_len boxesS) (i := 0) rfl (j := 1) rfl⟩
theorem may21E {b1 b2 : Nat} (T : RlsAt w (.slice (some ⟨b1, 0, none⟩) 3 3) rulesS) (T2 : BxsAt w (.slice (some ⟨b2, 0, none⟩) 1 1) boxesS) (E : Env w) : Calls Tryz.prog 23 #[.agg #[.string ⟨hostS.toArray⟩, .int .i64 100, .slice (some ⟨b1, 0, none⟩) 3 3, .slice (some ⟨b2, 0, none⟩) 1 1]] w fun e w2 => e = .returned (.bool true) ∧ Ext [] w w2 := by
  refine (svMayS (w0 := w) (L := []) hostS 100 _ _ rulesS boxesS (by decide) (by decide) (by decide) small_each (by decide) small_box (fun W S => T.ext S.ext) (fun W S => T2.ext S.ext) (Sp.nil w []) E).mono ?_
  rw [aw21_may]
  rintro e w2 ⟨rfl, S⟩
  exact ⟨rfl, S.ext⟩
theorem lit21 (w : World) : Ints21 (w.alloc (.cells #[.int .i64 452, .int .i64 221, .int .i64 2] 3)) (.slice (some ⟨w.heap.size, 0, none⟩) 3 3) [452, 221, 2] := by
  refine ⟨_, 3, rfl, .inr ⟨w.heap.size, 0, rfl, fun i hi => ?_⟩⟩
  have h3 : i < 3 := hi
  rw [box_cell (MapKept.heap_alloc w _).1, Nat.zero_add]
  have : i = 0 ∨ i = 1 ∨ i = 2 := by omega
  rcases this with rfl | rfl | rfl <;> rfl
set_option maxRecDepth 100000 in
set_option maxHeartbeats 40000000 in
theorem awake21S (S : Sp w0 [] w L) (E : Env w0) : Calls Tryz.prog 8 #[] w fun e w2 => e = .returned (.bool true) ∧ Sp w0 [] w2 L := by
  have HSM := Lib.hid (small21S S)
  have HE := Lib.hid E
  clear S E
  go_enter Tryz.func8, Tryz.ntmps8
  go_wp2_with fail
  refine HSM.out.mono ?_
  rintro e w1 ⟨b1, b2, rfl, S1⟩
  have HS1 := Lib.hid S1
  clear S1 HSM
  go_wp2_with fail
  refine (newSmallS HS1.out HE.out).mono ?_
  rintro e w3 ⟨p, K, rfl, A3⟩
  obtain ⟨X3, hX3, S3⟩ := A3
  have HX3 := Lib.hid hX3
  have HS3 := Lib.hid S3
  clear S3 hX3 HS1
  go_wp2_with fail
  refine (newNoneS HS3.out HE.out).mono ?_
  rintro e w4 ⟨rfl, S4⟩
  have HA4 : Hid (SvAt w0 L p (svNew cfS) K w4) := ⟨X3, HX3.out, S4⟩
  clear S4 HS3 HX3
  have HSN0 : Hid ((svNew cfS).phase ≤ 3) := (sane_new cfS_fit).phase
  have HADD := Lib.hid (fun (W : World) (A' : SvAt w0 L p (svNew cfS) K W) => svAddS aw21t aw21_bytes HSN0.out A')
  have HST0 : Hid ((svNew cfS).add aw21t = aw21s 0) := rfl
  rw [HST0.out] at HADD
  unfold aw21t at HADD
  go_wp2_with fail
  refine (HADD.out _ HA4.out).mono ?_
  rintro e w5 ⟨rfl, A5⟩
  have HA5 : Hid (SvAt w0 (queR (.slice (some ⟨w5.heap.size, 0, none⟩) 0 0) [] :: L) p (aw21s 0) K (w5.alloc (.cells #[] 39))) := by
    obtain ⟨X, hX, S⟩ := A5
    refine SvAt.over hX ?_
    exact S.gain (G := [w5.heap.size]) ((Ext.refl [] w5).alloc _) ⟨rfl, .inr ⟨w5.heap.size, 0, 0, #[], rfl, rfl, (MapKept.heap_alloc w5 _).1, Nat.le_refl _, Nat.le_refl _, by unfold maxLen; omega, fun j hj => by simp at hj⟩⟩ (by simp)
  clear A5 HA4 HADD HSN0 HST0
  go_upto_region 8 with (fail)
  generalize w5.alloc _ = w6 at *
  generalize w5.heap.size = q at *
  have HN := Lib.hid aw21_next
  have HSA := Lib.hid aw21_sane
  have HCA : Hid (∀ k, (aw21s k).came.length ≤ 1000000000) := fun k => by have := aw21_came k; omega
  have HSTEP : Hid (∀ k, (aw21s k).next.2 = aw21s (k + 1)) := fun _ => rfl
  have HEL : Hid (aw21e.length = 7) := rfl
  go_loopw [5, 6] (fun v i wr => ∃ (k : Nat) (qs : List QEv) (K' : List Rom), i = .int .i64 k ∧ k ≤ 7 ∧ qs.map (·.1) = aw21e.take k ∧ (∀ x ∈ qs, x.in K') ∧ SvAt w0 (queR v qs :: L) p (aw21s k) K' wr) (fun _ i _ => 20 - (intOf i).toNat)
  case atStart => exact ⟨0, [], K, rfl, Nat.zero_le _, rfl, by simp, HA5.out⟩
  case round =>
    clear HA5
    obtain ⟨k, qs, K', rfl, hk, hqs, hin, A⟩ := hrel
    have HQS := Lib.hid hqs
    have HIN := Lib.hid hin
    have HA := Lib.hid A
    have HQL : Hid (qs.length = k) := by
      have := congrArg List.length hqs
      rw [List.length_map, List.length_take, HEL.out] at this
      unfold Hid
      omega
    clear hqs hin A
    have hk' : (k : Int) ≤ 7 := by omega
    go_wp2_with fail
    refine (svNextS (HSA.out k) (HCA.out k) HE.out HA.out).mono ?_
    rintro e w7 hnx
    obtain ⟨K7, hk7, A7, ⟨hn, rfl⟩ | ⟨x, xa, xn, xc, ya, yn, yc, hn, hix, rfl⟩⟩ := hnx.cases
    · have h7 : k = 7 := by
        rw [HN.out k hk] at hn
        have := List.getElem?_eq_none_iff.1 hn
        rw [HEL.out] at this
        omega
      subst h7
      have HA8 : Hid (SvAt w0 (queR u5 qs :: L) p (aw21s 8) K7 (w7.alloc (.cells zeroEv 39))) := A7.ext0 ((Ext.refl [] w7).alloc _)
      have HQ8 : Hid (qs.map (·.1) = aw21e) := HQS.out
      have HI8 : Hid (∀ x ∈ qs, x.in K7) := fun x hx => (HIN.out x hx).more hk7
      clear A7 hn hnx hk7 HA HQS HIN
      unfold zeroEv at *
      go_upto_region 13 with (fail)
      generalize w7.alloc _ = w8 at *
      have HPH := Lib.hid (svPhaseS HA8.out)
      have HOP := Lib.hid (svOpenS HA8.out)
      rw [aw21_p] at HPH
      rw [aw21_o] at HOP
      have HVD := Lib.hid (svVerdictS 12 (by decide) (HSA.out 8).good (HSA.out 8).phase HA8.out)
      have HS9 : Hid (aw21f.Sane) := sane_verdict (HSA.out 8) aw21_qe 12
      have HC9 : Hid (aw21f.came.length ≤ 1000000000) := aw21_cf
      have HFD : Hid ((aw21s 8).verdict 12 = aw21f) := rfl
      rw [HFD.out] at HVD
      go_wp2_with fail
      refine HPH.out.mono ?_
      rintro e w9 ⟨rfl, rfl⟩
      go_wp2_with fail
      refine HOP.out.mono ?_
      rintro e w9 ⟨rfl, rfl⟩
      go_wp2_with fail
      refine HVD.out.mono ?_
      rintro e w9 ⟨rfl, K9, hk9, A9⟩
      have HA9 := Lib.hid A9
      have HI9 : Hid (∀ x ∈ qs, x.in K9) := fun x hx => (HI8.out x hx).more hk9
      clear A9 hk9 HI8 HA8 HPH HOP HVD
      go_wp2_with fail
      refine (codes21S HS9.out HC9.out HE.out HA9.out).mono ?_
      rintro e w10 ⟨vr, K10, rfl, hk10, A10⟩
      have HCO : Hid ((Sv.codes 2000 aw21f).1 = [452, 221, 2]) := aw21_c
      have HQ10 := Lib.hid aw21_q
      have HR10 := Lib.hid aw21_r
      rw [HCO.out] at A10
      generalize (Sv.codes 2000 aw21f).2 = sf at *
      obtain ⟨g, off, cap, b, o, c, b6, o6, c6, rfl, x0, x1, x2, x3, x4, x5, x6, x7, x8, x9, x10, x11, lb, lb6, lg⟩ := A10.events HQ8.out (fun x hx => (HI9.out x hx).more hk10)
      have HA10 := Lib.hid A10
      have HVF : ∃ a c, vr = .slice a 3 c := by
        obtain ⟨X, hX, S⟩ := A10
        rcases ((Sp.pick [_, _, _, _, _, _, _] [6] (by decide) (S))).rowForm with ⟨_, h⟩ | ⟨g, c, h⟩
        · cases h
        · exact ⟨_, _, h⟩
      obtain ⟨va, vc, rfl⟩ := HVF
      have HXF : Hid (∀ wx, Ext [] w10 wx → AwT g off b o c b6 o6 c6 wx) := fun wx hx => ⟨hx.cell x0 (by simp), hx.cell x1 (by simp), hx.cell x2 (by simp), hx.cell x3 (by simp), hx.cell x4 (by simp), hx.cell x5 (by simp), hx.cell x6 (by simp), hx.cell x7 (by simp), hx.cell x8 (by simp), hx.cell x9 (by simp), hx.cell x10 (by simp), hx.cell x11 (by simp)⟩
      have HT1 : Hid (Ints21 w10 (.slice va 3 vc) [452, 221, 2]) := by
        obtain ⟨X, hX, S⟩ := A10
        exact ((Sp.pick [_, _, _, _, _, _, _] [6] (by decide) (S))).ints21
      have HEV := Lib.hid (fun (W : World) (hx : Ext [] w10 W) => HE.out.ext (HA10.out.sp.ext.trans hx (by simp)))
      clear A10 hk10 HA9 HI9 HS9 HC9 x0 x1 x2 x3 x4 x5 x6 x7 x8 x9 x10 x11 lb lb6 lg
      go_upto_region 18 with (fail)
      refine wp_region_chainG [0, 1, 2, 3, 4, 5, 6, 7, 8, 9, 10, 11, 12, 13, 14, 15, 16, 17, 18, 19, 20, 21, 22, 23, 24, 25, 26, 27, 28, 29, 30, 31, 32, 33, 34, 35, 36, 37, 38, 39, 40, 41, 42, 43, 44, 45, 46, 47, 48, 49, 50, 51, 52, 53, 54, 55, 56, 57, 58, 59, 60, 61, 62, 63, 64, 65, 66, 67, 68, 69, 70, 71, 72, 73, 74, 75, 76, 77, 78, 79, 80, 81, 82, 83, 84, 85, 86, 87, 88, 89, 90, 91, 92, 93, 94, 95, 96, 97, 98, 99, 100, 101, 102, 103, 104, 105, 106, 107, 108, 109, 110, 111, 112, 113, 114, 115, 116, 117, 118, 119, 120, 121, 122, 123, 124, 125, 126, 127, 128, 129] (fun c => c == 93 || c == 108 || c == 109 || c == 113 || c == 118 || c == 122 || c == 123) (fun c => false) (T := fun wx => AwT g off b o c b6 o6 c6 wx) (S := fun wx => Ext [] w10 wx) (by kernel_rfl) (by kernel_rfl) (by kernel_rfl) (Ext.refl [] w10).drew (fun x h => HXF.out x h) ?_
      repeat
        refine Exists.intro _ (And.intro rfl (Or.inl (Exists.intro ?_ (And.intro (fun wS hS K hK => ?_) (And.intro ?_ ?_)))))
        rotate_left 1
        · first
            | (refine if_wanted rfl ?_; clear hS; (try simp only [List.append_eq, List.cons_append, List.nil_append, List.getElem_toArray, List.getElem_cons_zero, List.getElem_cons_succ]); go_big_op; exact hK.out; done)
            | (obtain ⟨t0, t1, t2, t3, t4, t5, t6, t7, t8, t9, t10, t11⟩ := hS; refine if_wanted rfl ?_; (try simp only [List.append_eq, List.cons_append, List.nil_append, List.getElem_toArray, List.getElem_cons_zero, List.getElem_cons_succ]); go_simp; exact hK.out)
            | (refine if_unwanted rfl ?_; simp only [Act.put, List.setIfInBounds_toArray, List.set_cons_zero, List.set_cons_succ]; exact hK.out)
        · rfl
      refine ChainG.one rfl rfl rfl (fun wS hS R hR => ?_)
      go_simp
      go_at_call 10
      refine (small21E wS).mono ?_
      rintro e w7 ⟨c1, c2, rfl, x7, _, _, S7⟩
      refine hR.out _ _ rfl (fun wx => AwT2 g off b o c b6 o6 c6 c2 wx) (fun wx => Ext [] w10 wx ∧ wx.cell? ⟨c2, 0, none⟩ = some (.string ⟨#[97, 110, 110]⟩) ∧ wx.cell? ⟨c2, 1, none⟩ = some (.string ⟨#[97, 46, 101, 120, 97, 109, 112, 108, 101]⟩)) ⟨hS.trans x7 (by simp), S7.1, S7.2⟩ (fun x h => ⟨HXF.out x h.1, h.2.1, h.2.2⟩) (fun _ h => h.1) ?_
      clear hR hS S7
      repeat
        refine Exists.intro _ (And.intro rfl (Or.inl (Exists.intro ?_ (And.intro (fun wS hS K hK => ?_) (And.intro ?_ ?_)))))
        rotate_left 1
        · first
            | (refine if_wanted rfl ?_; clear hS; (try simp only [List.append_eq, List.cons_append, List.nil_append, List.getElem_toArray, List.getElem_cons_zero, List.getElem_cons_succ]); go_big_op; exact hK.out; done)
            | (obtain ⟨⟨t0, t1, t2, t3, t4, t5, t6, t7, t8, t9, t10, t11⟩, t12, t13⟩ := hS; refine if_wanted rfl ?_; (try simp only [List.append_eq, List.cons_append, List.nil_append, List.getElem_toArray, List.getElem_cons_zero, List.getElem_cons_succ]); go_simp; exact hK.out)
            | (refine if_unwanted rfl ?_; simp only [Act.put, List.setIfInBounds_toArray, List.set_cons_zero, List.set_cons_succ]; exact hK.out)
        · rfl
      refine ChainG.one rfl rfl rfl (fun wS hS R hR => ?_)
      go_simp
      have hxn := (Ext.refl [] wS).alloc (.cells #[.int .i64 452, .int .i64 221, .int .i64 2] 3)
      refine hR.out _ _ rfl (fun wx => AwT2 g off b o c b6 o6 c6 c2 wx) (fun wx => Ext [] w10 wx ∧ wx.cell? ⟨c2, 0, none⟩ = some (.string ⟨#[97, 110, 110]⟩) ∧ wx.cell? ⟨c2, 1, none⟩ = some (.string ⟨#[97, 46, 101, 120, 97, 109, 112, 108, 101]⟩) ∧ Ints21 wx (.slice (some ⟨wS.heap.size, 0, none⟩) 3 3) [452, 221, 2]) ⟨hS.1.trans hxn (by simp), hxn.cell hS.2.1 (by simp), hxn.cell hS.2.2 (by simp), lit21 wS⟩ (fun x h => ⟨HXF.out x h.1, h.2.1, h.2.2.1⟩) (fun _ h => h) ?_
      clear hR
      repeat
        refine Exists.intro _ (And.intro rfl (Or.inl (Exists.intro ?_ (And.intro (fun wS hS K hK => ?_) (And.intro ?_ ?_)))))
        rotate_left 1
        · first
            | (refine if_wanted rfl ?_; clear hS; (try simp only [List.append_eq, List.cons_append, List.nil_append, List.getElem_toArray, List.getElem_cons_zero, List.getElem_cons_succ]); go_big_op; exact hK.out; done)
            | (obtain ⟨⟨t0, t1, t2, t3, t4, t5, t6, t7, t8, t9, t10, t11⟩, t12, t13⟩ := hS; refine if_wanted rfl ?_; (try simp only [List.append_eq, List.cons_append, List.nil_append, List.getElem_toArray, List.getElem_cons_zero, List.getElem_cons_succ]); go_simp; exact hK.out)
            | (refine if_unwanted rfl ?_; simp only [Act.put, List.setIfInBounds_toArray, List.set_cons_zero, List.set_cons_succ]; exact hK.out)
        · rfl
      refine ChainG.one rfl rfl rfl (fun wS hS R hR => ?_)
      go_simp
      go_at_call 20
      refine (equal21_any [452, 221, 2] [452, 221, 2] (by decide) (by decide) (HT1.out.ext hS.1) hS.2.2.2).mono ?_
      rintro e w7 ⟨rfl, S7⟩
      refine hR.out _ _ rfl (fun wx => AwT2 g off b o c b6 o6 c6 c2 wx) (fun wx => Ext [] w10 wx ∧ wx.cell? ⟨c2, 0, none⟩ = some (.string ⟨#[97, 110, 110]⟩) ∧ wx.cell? ⟨c2, 1, none⟩ = some (.string ⟨#[97, 46, 101, 120, 97, 109, 112, 108, 101]⟩)) ⟨hS.1.trans S7 (by simp), S7.cell hS.2.1 (by simp), S7.cell hS.2.2.1 (by simp)⟩ (fun x h => ⟨HXF.out x h.1, h.2.1, h.2.2⟩) (fun _ h => h) ?_
      clear hR hS S7
      repeat
        refine Exists.intro _ (And.intro rfl (Or.inl (Exists.intro ?_ (And.intro (fun wS hS K hK => ?_) (And.intro ?_ ?_)))))
        rotate_left 1
        · first
            | (refine if_wanted rfl ?_; clear hS; (try simp only [List.append_eq, List.cons_append, List.nil_append, List.getElem_toArray, List.getElem_cons_zero, List.getElem_cons_succ]); go_big_op; exact hK.out; done)
            | (obtain ⟨⟨t0, t1, t2, t3, t4, t5, t6, t7, t8, t9, t10, t11⟩, t12, t13⟩ := hS; refine if_wanted rfl ?_; (try simp only [List.append_eq, List.cons_append, List.nil_append, List.getElem_toArray, List.getElem_cons_zero, List.getElem_cons_succ]); go_simp; exact hK.out)
            | (refine if_unwanted rfl ?_; simp only [Act.put, List.setIfInBounds_toArray, List.set_cons_zero, List.set_cons_succ]; exact hK.out)
        · rfl
      refine ChainG.one rfl rfl rfl (fun wS hS R hR => ?_)
      go_simp
      go_at_call 13
      refine (svPhaseS (HA10.out.ext0 hS.1)).mono ?_
      rw [HQ10.out]
      rintro e w7 ⟨rfl, S7⟩
      refine hR.out _ _ rfl (fun wx => AwT2 g off b o c b6 o6 c6 c2 wx) (fun wx => Ext [] w10 wx ∧ wx.cell? ⟨c2, 0, none⟩ = some (.string ⟨#[97, 110, 110]⟩) ∧ wx.cell? ⟨c2, 1, none⟩ = some (.string ⟨#[97, 46, 101, 120, 97, 109, 112, 108, 101]⟩)) (S7 ▸ hS) (fun x h => ⟨HXF.out x h.1, h.2.1, h.2.2⟩) (fun _ h => h) ?_
      clear hR hS S7
      repeat
        refine Exists.intro _ (And.intro rfl (Or.inl (Exists.intro ?_ (And.intro (fun wS hS K hK => ?_) (And.intro ?_ ?_)))))
        rotate_left 1
        · first
            | (refine if_wanted rfl ?_; clear hS; (try simp only [List.append_eq, List.cons_append, List.nil_append, List.getElem_toArray, List.getElem_cons_zero, List.getElem_cons_succ]); go_big_op; exact hK.out; done)
            | (obtain ⟨⟨t0, t1, t2, t3, t4, t5, t6, t7, t8, t9, t10, t11⟩, t12, t13⟩ := hS; refine if_wanted rfl ?_; (try simp only [List.append_eq, List.cons_append, List.nil_append, List.getElem_toArray, List.getElem_cons_zero, List.getElem_cons_succ]); go_simp; exact hK.out)
            | (refine if_unwanted rfl ?_; simp only [Act.put, List.setIfInBounds_toArray, List.set_cons_zero, List.set_cons_succ]; exact hK.out)
        · rfl
      refine ChainG.one rfl rfl rfl (fun wS hS R hR => ?_)
      go_simp
      go_at_call 33
      refine (svOpenS (HA10.out.ext0 hS.1)).mono ?_
      rw [HR10.out]
      rintro e w7 ⟨rfl, S7⟩
      refine hR.out _ _ rfl (fun wx => AwT2 g off b o c b6 o6 c6 c2 wx) (fun wx => Ext [] w10 wx ∧ wx.cell? ⟨c2, 0, none⟩ = some (.string ⟨#[97, 110, 110]⟩) ∧ wx.cell? ⟨c2, 1, none⟩ = some (.string ⟨#[97, 46, 101, 120, 97, 109, 112, 108, 101]⟩)) (S7 ▸ hS) (fun x h => ⟨HXF.out x h.1, h.2.1, h.2.2⟩) (fun _ h => h) ?_
      clear hR hS S7
      repeat
        refine Exists.intro _ (And.intro rfl (Or.inl (Exists.intro ?_ (And.intro (fun wS hS K hK => ?_) (And.intro ?_ ?_)))))
        rotate_left 1
        · first
            | (refine if_wanted rfl ?_; clear hS; (try simp only [List.append_eq, List.cons_append, List.nil_append, List.getElem_toArray, List.getElem_cons_zero, List.getElem_cons_succ]); go_big_op; exact hK.out; done)
            | (obtain ⟨⟨t0, t1, t2, t3, t4, t5, t6, t7, t8, t9, t10, t11⟩, t12, t13⟩ := hS; refine if_wanted rfl ?_; (try simp only [List.append_eq, List.cons_append, List.nil_append, List.getElem_toArray, List.getElem_cons_zero, List.getElem_cons_succ]); go_simp; exact hK.out)
            | (refine if_unwanted rfl ?_; simp only [Act.put, List.setIfInBounds_toArray, List.set_cons_zero, List.set_cons_succ]; exact hK.out)
        · rfl
      refine ChainG.one rfl rfl rfl (fun wS hS R hR => ?_)
      go_simp
      go_at_call 10
      refine (small21E wS).mono ?_
      rintro e w7 ⟨d1, d2, rfl, x7, z1, z2, S7⟩
      refine hR.out _ _ rfl (fun wx => AwT2 g off b o c b6 o6 c6 c2 wx) (fun wx => Ext [] w10 wx ∧ wx.cell? ⟨c2, 0, none⟩ = some (.string ⟨#[97, 110, 110]⟩) ∧ wx.cell? ⟨c2, 1, none⟩ = some (.string ⟨#[97, 46, 101, 120, 97, 109, 112, 108, 101]⟩) ∧ RlsAt wx (.slice (some ⟨d1, 0, none⟩) 3 3) rulesS ∧ BxsAt wx (.slice (some ⟨d2, 0, none⟩) 1 1) boxesS) ⟨hS.1.trans x7 (by simp), x7.cell hS.2.1 (by simp), x7.cell hS.2.2 (by simp), z1, z2⟩ (fun x h => ⟨HXF.out x h.1, h.2.1, h.2.2.1⟩) (fun _ h => h) ?_
      clear hR hS S7
      repeat
        refine Exists.intro _ (And.intro rfl (Or.inl (Exists.intro ?_ (And.intro (fun wS hS K hK => ?_) (And.intro ?_ ?_)))))
        rotate_left 1
        · first
            | (refine if_wanted rfl ?_; clear hS; (try simp only [List.append_eq, List.cons_append, List.nil_append, List.getElem_toArray, List.getElem_cons_zero, List.getElem_cons_succ]); go_big_op; exact hK.out; done)
            | (obtain ⟨⟨t0, t1, t2, t3, t4, t5, t6, t7, t8, t9, t10, t11⟩, t12, t13⟩ := hS; refine if_wanted rfl ?_; (try simp only [List.append_eq, List.cons_append, List.nil_append, List.getElem_toArray, List.getElem_cons_zero, List.getElem_cons_succ]); go_simp; exact hK.out)
            | (refine if_unwanted rfl ?_; simp only [Act.put, List.setIfInBounds_toArray, List.set_cons_zero, List.set_cons_succ]; exact hK.out)
        · rfl
      refine ChainG.one rfl rfl rfl (fun wS hS R hR => ?_)
      go_simp
      go_at_call 23
      refine (may21E hS.2.2.2.1 hS.2.2.2.2 (HEV.out _ hS.1)).mono ?_
      rintro e w7 ⟨rfl, S7⟩
      refine hR.out _ _ rfl (fun wx => AwT2 g off b o c b6 o6 c6 c2 wx) (fun wx => Ext [] w10 wx ∧ wx.cell? ⟨c2, 0, none⟩ = some (.string ⟨#[97, 110, 110]⟩) ∧ wx.cell? ⟨c2, 1, none⟩ = some (.string ⟨#[97, 46, 101, 120, 97, 109, 112, 108, 101]⟩)) ⟨hS.1.trans S7 (by simp), S7.cell hS.2.1 (by simp), S7.cell hS.2.2.1 (by simp)⟩ (fun x h => ⟨HXF.out x h.1, h.2.1, h.2.2⟩) (fun _ h => h) ?_
      clear hR hS S7
      repeat
        refine Exists.intro _ (And.intro rfl (Or.inl (Exists.intro ?_ (And.intro (fun wS hS K hK => ?_) (And.intro ?_ ?_)))))
        rotate_left 1
        · first
            | (refine if_wanted rfl ?_; clear hS; (try simp only [List.append_eq, List.cons_append, List.nil_append, List.getElem_toArray, List.getElem_cons_zero, List.getElem_cons_succ]); go_big_op; exact hK.out; done)
            | (obtain ⟨⟨t0, t1, t2, t3, t4, t5, t6, t7, t8, t9, t10, t11⟩, t12, t13⟩ := hS; refine if_wanted rfl ?_; (try simp only [List.append_eq, List.cons_append, List.nil_append, List.getElem_toArray, List.getElem_cons_zero, List.getElem_cons_succ]); go_simp; exact hK.out)
            | (refine if_unwanted rfl ?_; simp only [Act.put, List.setIfInBounds_toArray, List.set_cons_zero, List.set_cons_succ]; exact hK.out)
        · rfl
      intro wE hE
      have HSE := Lib.hid hE
      clear hE
      go_wp2
      go_ret
      exact ⟨rfl, Sp.drops [_, _] (HA10.out.ext0 HSE.out.1).sp⟩
    · have hlt : k < 7 := by
        apply Classical.byContradiction
        intro h
        obtain rfl : k = 7 := by omega
        rw [HN.out 7 hk] at hn
        cases hn
      have HXE : Hid (aw21e.take (k + 1) = aw21e.take k ++ [x]) := by
        rw [HN.out k hk] at hn
        obtain ⟨h1, h2⟩ := List.getElem?_eq_some_iff.1 hn
        unfold Hid
        rw [List.take_succ_eq_append_getElem h1, h2]
      have HIX := Lib.hid hix
      have HK7 := Lib.hid hk7
      have HA7 : Hid (SvAt w0 (queR u5 qs :: L) p (aw21s (k + 1)) K7 w7) := A7
      have HA8 := Lib.hid (HA7.out.box #[.int .i64 x.kind, .int .i64 x.code, .slice xa xn xc, .string ⟨x.text.toArray⟩, .string ⟨x.frm.1.toArray⟩, .string ⟨x.frm.2.toArray⟩, .slice ya yn yc, .string ⟨x.body.toArray⟩] 39)
      clear A7 hn hnx hk7 hix HA HA7
      unfold evAgg
      go_upto_region 12 with (fail)
      generalize w7.alloc _ = w8 at *
      generalize w7.heap.size = g8 at *
      obtain ⟨cg, fg, lg⟩ := HA8.out.boxCell
      have HA9 := Lib.hid HA8.out.drop
      obtain ⟨X, hX, S9⟩ := SvAt.under (r2 := Res.pure True) HA9.out
      have HX := Lib.hid hX
      obtain ⟨ga, oa, ca, w10, hrun, S10⟩ := Sp.appendEv 33 (x, .slice xa xn xc, .slice ya yn yc) (by rw [HQL.out]; omega) rfl rfl (S9.box #[.int .i64 x.kind, .int .i64 x.code, .slice xa xn xc, .string ⟨x.text.toArray⟩, .string ⟨x.frm.1.toArray⟩, .string ⟨x.frm.2.toArray⟩, .slice ya yn yc, .string ⟨x.body.toArray⟩] 39)
      have HRUN := Lib.hid hrun
      have HS10 := Lib.hid S10
      clear S9 hX hrun S10
      go_wp2_with (at_builtin; refine wpList_append_run (by rfl) (by rfl) (by rfl) (by rfl) HRUN.out ?_)
      go_roundw
      case rel => exact ⟨k + 1, qs ++ [(x, .slice xa xn xc, .slice ya yn yc)], K7, by go_num, by omega, by rw [List.map_append, HQS.out, HXE.out]; rfl, fun y hy => by
        rcases List.mem_append.1 hy with h | h
        · exact (HIN.out y h).more HK7.out
        · rw [List.mem_singleton.1 h]; exact HIX.out, SvAt.over HX.out HS10.out⟩
      case measure => simp [intOf]; omega
end
end Go.Proofs.YtapenolbbofjkaaGreatDoor
