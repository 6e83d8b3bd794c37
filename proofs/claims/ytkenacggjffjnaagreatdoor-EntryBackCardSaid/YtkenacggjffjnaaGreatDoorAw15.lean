/- law 15: awake. Conditions: what Go's variables hold. -/
import Derived.Test.YtkenacggjffjnaaGreatDoorEnI
import Derived.Test.YtkenacggjffjnaaGreatDoorEnA
import Derived.Test.YtkenacggjffjnaaGreatDoorEnN
import Derived.Test.YtkenacggjffjnaaGreatDoorEnE
set_option linter.unusedSimpArgs false
set_option linter.unusedVariables false
set_option linter.unnecessarySimpa false
namespace Go.Proofs.YtkenacggjffjnaaGreatDoor
open Go.RowKit Go.Maps

theorem en15_fit : en15.Fit := ⟨by decide, by decide, by decide, by decide, by decide, by decide, by decide, by decide, by decide, by decide⟩
theorem key15_len : key15.length = 32 := zeros_length 32
theorem tab15_ok (U : Bs → Bs → Bs) : TabOk (tab15 U) := by
  refine ⟨Nat.le_trans (Mp.length_put_le _ _ _) (by decide), fun k x h => ?_⟩
  unfold tab15 at h
  rw [Mp.get_put] at h
  split at h
  · cases h
    exact ⟨by rw [ab15_len]; decide, by rw [zeros_length]; decide⟩
  · simp [Mp.get] at h
theorem file15_len : file15.length ≤ 100000 := by
  have h1 := headB_len (enMay_parts en15_may)
  unfold file15
  generalize headB en15 = hd at *
  have h3 := textB_length_le hd
  rw [List.length_append, zeros_length]
  omega
theorem head15 : enHead en15 = (headB en15, 0) := by unfold enHead; rw [if_pos en15_may]
theorem read15 : enRead 300 (headB en15) = (en15, 0) := enRead_head 300 (by omega) (by omega) en15 en15_may
section
variable {w0 w : World} {L : List Res}
abbrev en15C (v : Value) : Array Value := #[.int .u64 3, .string ⟨#[97, 46, 98]⟩, .int .u64 2, .int .u64 7, .string ⟨#[]⟩, .string ⟨#[]⟩, v, .int .u64 0, .int .u64 0, .int .i64 0]
abbrev en0C (v : Value) : Array Value := #[.int .u64 0, .string ⟨#[]⟩, .int .u64 0, .int .u64 0, .string ⟨#[]⟩, .string ⟨#[]⟩, v, .int .u64 0, .int .u64 0, .int .i64 0]
theorem en0_agg (v : Value) : enAgg En.zero v = .agg (en0C v) := rfl
theorem en15_agg (v : Value) : enAgg en15 v = .agg (en15C v) := rfl
set_option maxRecDepth 100000 in
set_option maxHeartbeats 8000000 in
theorem awake15S (S : Sp w0 [] w L) (E : Env w0) : Calls Tryz.prog 9 #[] w fun e w2 => e = .returned (.bool true) ∧ Sp w0 [] w2 L := by
  have HE := Lib.hid E
  have S1 : Sp w0 [] _ (tosR (.slice (some ⟨w.heap.size, 0, none⟩) 1 1) en15.rcs :: L) := S.rowLaid 62 3 1 [.string ⟨#[120]⟩, .string ⟨#[99]⟩, .int .i64 0] rfl (by decide)
  have S2 := S1.box (en15C (.slice (some ⟨w.heap.size, 0, none⟩) 1 1)) 27
  simp only [World.size_alloc] at S2
  have HS2 := Lib.hid S2
  have hmk : ∀ (n : Nat) (z : Int), z = n → n ≤ 1000000 → ∀ W : World, (Instr.makeSlice 44 (.int .i64 z) (.int .i64 z)).run Tryz.prog W = .ok (.slice (some ⟨W.heap.size, 0, none⟩) n n) (W.alloc (.cells (rowB (zeros n)) 5)) := fun n z hz hn W => by subst hz; exact makeZ n hn W
  have hcv : ∀ (n : Nat) (W : World), (convert 44 9 (.slice (some ⟨W.heap.size, 0, none⟩) n n)).run Tryz.prog (W.alloc (.cells (rowB (zeros n)) 5)) = .ok (.string ⟨(zeros n).toArray⟩) (W.alloc (.cells (rowB (zeros n)) 5)) := fun n W => textZ n _ _ (fun j hj => cellZ n W j hj)
  have hm32 := hmk 32 32 rfl (by decide)
  have hm600 := hmk 600 600 rfl (by decide)
  have hc32 := hcv 32
  have hc600 := hcv 600
  clear S S1 S2 hmk hcv E
  obtain ⟨q, hq⟩ : ∃ q, q = w.heap.size := ⟨_, rfl⟩
  rw [← hq] at HS2
  go_enter Tryz.func9, Tryz.ntmps9
  go_upto_region 2 with (fail)
  rw [← hq]
  generalize (w.alloc (.cells #[.string ⟨#[120]⟩, .string ⟨#[99]⟩, .int .i64 0] 62)).alloc (.cells #[.int .u64 3, .string ⟨#[97, 46, 98]⟩, .int .u64 2, .int .u64 7, .string ⟨#[]⟩, .string ⟨#[]⟩, .slice (some ⟨q, 0, none⟩) 1 1, .int .u64 0, .int .u64 0, .int .i64 0] 27) = w2 at *
  generalize q + 1 = p1 at *
  clear hq
  have c1 := HS2.out.cell
  have hd0 := head15
  have hr0 := read15
  have HHL := Lib.hid (headB_len (enMay_parts en15_may))
  have HSE := Lib.hid (seal15 uB)
  have HOP := Lib.hid (open15 uB)
  have HSP := Lib.hid split15
  have HOX := Lib.hid (open15x uB)
  have HFL := Lib.hid file15_len
  have HNM := Lib.hid nm15
  go_wp2_with fail
  refine (Calls.sp (enHead_any en15 (.slice (some ⟨q, 0, none⟩) 1 1) w2 (HE.out.sp HS2.out) en15_fit (HS2.out.pull1).tosAt) HS2.out).mono ?_
  rw [hd0]
  generalize headB en15 = hd at *
  rintro r w3 ⟨rfl, S⟩
  have HS3 := Lib.hid S
  clear S HS2 hd0 c1
  go_wp2_with fail
  refine (enReadS hd (by have := HHL.out; omega) HE.out HS3.out).mono ?_
  rw [hr0]
  rintro r w4 ⟨v4, rfl, S⟩
  rw [en15_agg]
  obtain ⟨va, vc, hv⟩ := S.tosAt.form
  have hv : v4 = .slice va 1 vc := hv
  subst hv
  have HS4 := Lib.hid (S.box (en15C (.slice va 1 vc)) 27)
  clear S HS3 hr0
  go_upto_region 4 with (fail)
  generalize w4.alloc _ = w5 at *
  generalize w4.heap.size = p4 at *
  go_wp2_with fail
  refine (enFillS ab15 HS4.out).mono ?_
  rw [ab15_fill]
  rintro r w6 ⟨rfl, S⟩
  have HS6 := Lib.hid S
  have HUN := Lib.hid ab15_unfill
  have HLN := Lib.hid ab15_len
  generalize fillB ab15 = fb at *
  clear S HS4
  go_wp2_with fail
  refine (enUnfillS fb (by have := HLN.out; omega) HS6.out).mono ?_
  rw [HUN.out]
  rintro r w7 ⟨rfl, S⟩
  have HS7 := Lib.hid (S.new (.cells (rowB (zeros 32)) 5))
  clear S HS6
  go_upto_region 7 with (fail)
  generalize w7.alloc (.cells (rowB (zeros 32)) 5) = w7b at *
  have HS7b := Lib.hid (HS7.out.new (.cells (rowB (zeros 600)) 5))
  go_wp2_with fail
  refine (idealS (zeros 600) HS7b.out).mono ?_
  rintro r w8 ⟨b8, rfl, S⟩
  have c8 := ((Sp.pick [_, _, _, _] [3] (by decide) (S))).cell
  have c4 := ((Sp.pick [_, _] [1] (by decide) (S))).cell
  have HS8 := Lib.hid S
  clear S HS7 HS7b hm32 hm600 hc32 hc600
  go_wp2_with fail
  refine (enSealI en15 key15 ab15 HE.out en15_fit (by rw [key15_len]; decide) TabOk.nil (by rw [zeros_length]; decide) ((Sp.pick [_, _, _, _, _] [4] (by decide) (HS8.out))).tosAt HS8.out).mono ?_
  rw [HSE.out]
  rintro r w9 ⟨rfl, S⟩
  have HS9 := Lib.hid S
  have HTO := Lib.hid (tab15_ok uB)
  generalize tab15 uB = tb at *
  generalize zeros 328 = d9 at *
  generalize file15 = fl at *
  have c8b := ((Sp.pick [_, _, _, _] [3] (by decide) (S))).cell
  have c4b := ((Sp.pick [_, _] [1] (by decide) (S))).cell
  clear S HS8 HSE c8 c4
  go_wp2_with fail
  refine (enOpenI key15 fl (by have := HFL.out; omega) (by rw [key15_len]; decide) HE.out HTO.out HS9.out).mono ?_
  rw [HOP.out]
  rintro r w10 ⟨v10, rfl, S⟩
  rw [en15_agg]
  obtain ⟨va2, vc2, hv⟩ := S.tosAt.form
  have hv : v10 = .slice va2 1 vc2 := hv
  subst hv
  have HS10 := Lib.hid (S.box (en15C (.slice va2 1 vc2)) 27)
  clear S HS9 c8b c4b
  go_upto_region 10 with (fail)
  generalize w10.alloc _ = w11 at *
  generalize w10.heap.size = p10 at *
  go_wp2_with fail
  refine (enSplitS fl (by have := HFL.out; omega) HE.out HS10.out).mono ?_
  rw [HSP.out]
  rintro r w12 ⟨v12, rfl, S⟩
  rw [en15_agg]
  obtain ⟨va3, vc3, hv⟩ := S.tosAt.form
  have hv : v12 = .slice va3 1 vc3 := hv
  subst hv
  have HS12 := Lib.hid (S.drop.box (en15C (.slice va3 1 vc3)) 27)
  have HZL := Lib.hid (zeros_length 272)
  clear S HS10
  go_upto_region 11 with (fail)
  generalize w12.alloc _ = w13 at *
  generalize w12.heap.size = p12 at *
  generalize zeros 272 = sl at *
  have hadd := add_str fl [120] (by have := HFL.out; unfold maxLen; simp; omega)
  go_wp2_with fail
  refine (enOpenI key15 (fl ++ [120]) (by have := HFL.out; rw [List.length_append]; simp; omega) (by rw [key15_len]; decide) HE.out HTO.out ((Sp.pick [_, _, _, _] [3, 0, 1, 2] (by decide) (HS12.out)))).mono ?_
  rw [HOX.out]
  rintro r w14 ⟨v14, rfl, S⟩
  rw [en0_agg]
  obtain ⟨va4, vc4, hv⟩ := S.tosAt.form
  have hv : v14 = .slice va4 0 vc4 := hv
  subst hv
  have S2 := (Sp.pick [_, _, _, _, _, _, _, _, _] [7, 8, 5, 6, 3, 4, 1] (by decide) (S))
  have c1 := S2.cell
  have l1 := S2.boxlt
  have c4 := ((Sp.pick [_, _, _] [2] (by decide) (S2))).cell
  have l4 := ((Sp.pick [_, _, _] [2] (by decide) (S2))).boxlt
  have c10 := ((Sp.pick [_, _, _, _, _] [4] (by decide) (S2))).cell
  have l10 := ((Sp.pick [_, _, _, _, _] [4] (by decide) (S2))).boxlt
  have HS14 := Lib.hid (S2.new (.cells (en0C (.slice va4 0 vc4)) 27))
  clear S S2 HS12 HOX
  go_wp2_with fail
  have HSM : Hid (enSame en15 en15 = true) := same_refl en15
  have A1 := Lib.hid (EnAt.mk en15_fit ((Sp.pick [_, _] [1] (by decide) (HS14.out))).tosAt)
  have A4 := Lib.hid (EnAt.mk en15_fit ((Sp.pick [_, _, _, _] [3] (by decide) (HS14.out))).tosAt)
  have A10 := Lib.hid (EnAt.mk en15_fit ((Sp.pick [_, _, _, _, _, _] [5] (by decide) (HS14.out))).tosAt)
  refine (Calls.sp (enSame_any en15 en15 _ A4.out A1.out) HS14.out).mono ?_
  rw [HSM.out]
  rintro r w15 ⟨rfl, S⟩
  have HS15 := Lib.hid S
  have d1 := S.cell
  have d10 := ((Sp.pick [_, _, _, _, _] [4] (by decide) (S))).cell
  clear S c1 l1 c4 l4 c10 l10 A4 HS14 A1 A10
  have hl1 : ((fb.length : Int) == 256) = true := by have := HLN.out; simp; omega
  have hl2 : ((sl.length : Int) == 272) = true := by have := HZL.out; simp; omega
  go_wp2_with fail
  refine (enNameS en15 (v := .slice (some ⟨q, 0, none⟩) 1 1) HE.out en15_fit HS15.out).mono ?_
  rw [HNM.out]
  rintro r w16 ⟨rfl, S⟩
  have HS16 := Lib.hid S
  have e1 := S.cell
  have e10 := ((Sp.pick [_, _, _, _, _] [4] (by decide) (S))).cell
  have A10 := Lib.hid (EnAt.mk en15_fit ((Sp.pick [_, _, _, _, _, _] [5] (by decide) (S))).tosAt)
  have A1 := Lib.hid (EnAt.mk en15_fit ((Sp.pick [_, _] [1] (by decide) (S))).tosAt)
  clear S d1 d10 HS15
  go_wp2_with fail
  refine (Calls.sp (enSame_any en15 en15 _ A10.out A1.out) HS16.out).mono ?_
  rw [HSM.out]
  rintro r w17 ⟨rfl, S⟩
  have HS17 := Lib.hid S
  have f1 := S.cell
  clear S e1 e10 HS16 A1 A10
  go_wp2_with fail
  have HMY : Hid (enMay en15 = true) := en15_may
  refine (Calls.sp (enMay_any en15 (.slice (some ⟨q, 0, none⟩) 1 1) w17 (HE.out.sp HS17.out) en15_fit ((Sp.pick [_, _] [1] (by decide) (HS17.out))).tosAt) HS17.out).mono ?_
  rw [HMY.out]
  rintro r w18 ⟨rfl, S⟩
  have HS18 := Lib.hid S
  clear S HS17 f1
  go_wp2_with fail
  have HMZ : Hid (enMay En.zero = false) := zero_may
  refine (Calls.sp (enMay_any En.zero (.slice none 0 0) w18 (HE.out.sp HS18.out) En.zero_fit (TosAt.nil w18)) HS18.out).mono ?_
  rw [HMZ.out]
  rintro r w19 ⟨rfl, S⟩
  have HS19 := Lib.hid ((Sp.pick [_, _, _, _, _, _, _] [] (by decide) (S)))
  clear S HS18
  go_wp2
  go_ret
  exact ⟨rfl, HS19.out⟩
end
end Go.Proofs.YtkenacggjffjnaaGreatDoor
