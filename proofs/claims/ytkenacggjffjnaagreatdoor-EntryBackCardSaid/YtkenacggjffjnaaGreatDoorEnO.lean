/- entry: nonces, a file parted, made and opened by an ideal box. Conditions: the lengths fit; what Go's variables hold. -/
import Derived.Test.YtkenacggjffjnaaGreatDoorEnR
import Derived.Test.YtkenacggjffjnaaGreatDoorEnH
import Derived.Test.YtkenacggjffjnaaGreatDoorEnF
import Derived.Test.YtkenacggjffjnaaGreatDoorBxI
set_option linter.unusedSimpArgs false
set_option linter.unusedVariables false
set_option linter.unnecessarySimpa false
namespace Go.Proofs.YtkenacggjffjnaaGreatDoor
open Go.RowKit Go.Maps

section
variable {w0 w : World} {L : List Res} {F0 : List Nat} {b : Nat} {v : Value} {D : Bs} {M : Mp Sealed3}
/-- Bytes that were made, as a text. -/
theorem makeZ (n : Nat) (hn : n ≤ 1000000) (W : World) : (Instr.makeSlice 44 (.int .i64 n) (.int .i64 n)).run Tryz.prog W = .ok (.slice (some ⟨W.heap.size, 0, none⟩) n n) (W.alloc (.cells (rowB (zeros n)) 5)) := by
  have := run_make_row' (P := Tryz.prog) 44 5 (.int .u8 0) 1 Tryz.underlying44 (by kernel_rfl) rfl .i64 .i64 n (by omega) (by omega) W
  rw [made_rowB] at this
  exact this
theorem textZ (n : Nat) (W : World) (q : Nat) (hc : ∀ j, j < n → W.cell? ⟨q, j, none⟩ = some (.int .u8 0)) : (convert 44 9 (.slice (some ⟨q, 0, none⟩) n n)).run Tryz.prog W = .ok (.string ⟨(zeros n).toArray⟩) W := by
  have := run_convert_bytes_back (P := Tryz.prog) W 44 9 5 ⟨q, 0, none⟩ n (zeros n) Tryz.underlying44 Tryz.underlying5 Tryz.underlying9 (fun j hj => by
    rw [zeros_length] at hj
    have h1 := hc j hj
    have e : (zeros n)[j]'(by rw [zeros_length]; exact hj) = 0 := by unfold zeros; rw [List.getElem_replicate]
    have add : (⟨q, 0, none⟩ : Addr).add j = ⟨q, 0 + j, none⟩ := by unfold Addr.add; split <;> simp_all
    rw [e, add, Nat.zero_add]
    exact h1)
  rw [zeros_length] at this
  exact this
theorem cellZ (n : Nat) (W : World) (j : Nat) (hj : j < n) : (W.alloc (.cells (rowB (zeros n)) 5)).cell? ⟨W.heap.size, j, none⟩ = some (.int .u8 0) := by
  have h := heap_alloc_new W (.cells (rowB (zeros n)) 5)
  simp only [World.cell?, h]
  rw [rowB_get]
  unfold zeros
  rw [List.getElem?_replicate, if_pos hj]
  rfl
set_option maxRecDepth 100000 in
set_option maxHeartbeats 1000000 in
theorem enNonce_any (n : Nat) (w : World) (_hn : n < 18446744073709551616) :
    Calls Tryz.prog 61 #[.int .u64 n] w fun e w2 => e = .returned (.string ⟨(nonceE n).toArray⟩) ∧ Ext [] w w2 := by
  have hmk : ∀ W, (Instr.makeSlice 44 (.int .i64 4) (.int .i64 4)).run Tryz.prog W = .ok (.slice (some ⟨W.heap.size, 0, none⟩) 4 4) (W.alloc (.cells #[.int .u8 0, .int .u8 0, .int .u8 0, .int .u8 0] 5)) := fun W => makeZ 4 (by omega) W
  have hcv : ∀ (W : World) (b : Nat), W.cell? ⟨b, 0, none⟩ = some (.int .u8 0) → W.cell? ⟨b, 1, none⟩ = some (.int .u8 0) → W.cell? ⟨b, 2, none⟩ = some (.int .u8 0) → W.cell? ⟨b, 3, none⟩ = some (.int .u8 0) →
      (convert 44 9 (.slice (some ⟨b, 0, none⟩) 4 4)).run Tryz.prog W = .ok (.string ⟨#[0, 0, 0, 0]⟩) W := fun W b h0 h1 h2 h3 => textZ 4 W b (fun j hj4 => by
      obtain rfl | rfl | rfl | rfl : j = 0 ∨ j = 1 ∨ j = 2 ∨ j = 3 := by omega
      · exact h0
      · exact h1
      · exact h2
      · exact h3)
  have hadd := add_str [0, 0, 0, 0] (highB n 8) (by rw [highB_length]; decide)
  have HN : Hid (nonceE n = [0, 0, 0, 0] ++ highB n 8) := rfl
  go_enter Tryz.func61, Tryz.ntmps61
  go_wp2
  go_region_with (first | (go_at_call 94; refine (high_any n 8 _ (by omega)).mono ?_; rintro e w2 ⟨rfl, hx⟩; have hcx := hx.old))
  all_goals
    have HX := Lib.hid hx
    clear hx hcx hcv hmk hadd
    go_wp2
    go_ret
    refine ⟨by rw [HN.out]; rfl, ?_⟩
    first
      | exact ((Ext.refl [] w).drew).trans HX.out (by simp)
      | exact (((Ext.refl [] w).drew).trans HX.out (by simp)).alloc _
      | exact (((Ext.refl [] w).alloc _).drew).trans HX.out (by simp)
theorem drop_tail2 {s a b : Bs} (e : s = a ++ b) : s.drop (s.length - b.length) = b := by
  subst e
  rw [List.length_append, Nat.add_sub_cancel]
  exact List.drop_left
set_option maxRecDepth 100000 in
set_option maxHeartbeats 4000000 in
theorem enSplitS (s : Bs) (hs : s.length ≤ 1000000) (E : Env w0) (S : Sp w0 [] w L) : Calls Tryz.prog 32 #[.string ⟨s.toArray⟩] w fun r w2 => ∃ v, r = .returned (.tuple #[enAgg (enSplit s).1 v, .string ⟨(enSplit s).2.1.toArray⟩, .string ⟨(enSplit s).2.2.1.toArray⟩, .int .i64 (enSplit s).2.2.2]) ∧ Sp w0 [] w2 (tosR v (enSplit s).1.rcs :: L) := by
  have HS0 := Lib.hid (S.box #[.int .u64 0, .string ⟨#[]⟩, .int .u64 0, .int .u64 0, .string ⟨#[]⟩, .string ⟨#[]⟩, .slice none 0 0, .int .u64 0, .int .u64 0, .int .i64 0] 27)
  have HL := Lib.hid hs
  have HE := Lib.hid E
  have HV : Hid (enSplit s = if (enRead 300 (Rd.text ⟨s, false⟩ 4000).1).2 = 0 then ((enRead 300 (Rd.text ⟨s, false⟩ 4000).1).1, (Rd.text ⟨s, false⟩ 4000).1, (Rd.text ⟨s, false⟩ 4000).2.s, 0) else (En.zero, [], [], 2)) := rfl
  have HOK := Lib.hid (@split_ok s)
  have HTL := Lib.hid (text_fst_le ⟨s, false⟩ 4000)
  clear S hs E
  go_enter Tryz.func32, Tryz.ntmps32
  go_upto_region 1 with (fail)
  generalize w.alloc (.cells #[.int .u64 0, .string ⟨#[]⟩, .int .u64 0, .int .u64 0, .string ⟨#[]⟩, .string ⟨#[]⟩, .slice none 0 0, .int .u64 0, .int .u64 0, .int .i64 0] 27) = w1 at *
  generalize w.heap.size = q2 at *
  go_wp2_with fail
  refine (fromS HS0.out s).mono ?_
  rintro e w2 ⟨b, rfl, S⟩
  have HS1 := Lib.hid S
  clear S HS0
  go_wp2_with fail
  refine (rdTextS 4000 4000 rfl HS1.out (by have := HL.out; dsimp only; omega) (by omega)).mono ?_
  rintro e w3 ⟨rfl, S⟩
  generalize Rd.text ⟨s, false⟩ 4000 = tr at *
  have HS3 := Lib.hid S
  clear S HS1
  go_wp2_with fail
  refine (enReadS tr.1 (by have := HTL.out; omega) HE.out HS3.out).mono ?_
  rintro r w4 ⟨v, rfl, S⟩
  generalize enRead 300 tr.1 = q at *
  obtain ⟨e, f⟩ := q
  dsimp only at *
  obtain ⟨va, vc, rfl⟩ := S.tosAt.form
  unfold enAgg
  have S5 := S.box (enCells e (.slice va e.rcs.length vc)) 27
  unfold enCells at S5
  have HS5 := Lib.hid S5
  clear S S5 HS3
  by_cases hf : f = 0
  · subst hf
    have HW : Hid (enSplit s = (e, tr.1, tr.2.s, 0)) := HV.out.trans (if_pos rfl)
    have HSUF : Hid (s.drop (s.length - tr.2.s.length) = tr.2.s ∧ tr.2.s.length ≤ s.length) := by
      have h1 := HOK.out (by rw [HW.out])
      rw [HW.out] at h1
      exact ⟨drop_tail2 h1.2.2, by have := congrArg List.length h1.2.2; rw [List.length_append] at this; dsimp only at this; omega⟩
    go_upto_region 6 with (fail)
    generalize w4.alloc _ = w5 at *
    generalize w4.heap.size = q8 at *
    have e8 := HS5.out.cell
    have SQ := (Sp.pick [_, _, _, _] [3, 1] (by decide) (HS5.out))
    have d0 := SQ.cell
    have f0 := SQ.free
    have HSQ := Lib.hid ((((((((((((SQ.set (o := 0) (.int .u64 e.id)).set (o := 1) (.string ⟨e.dom.toArray⟩)).set (o := 2) (.int .u64 e.ep)).set (o := 3) (.int .u64 e.cnt)).set (o := 4) (.string ⟨e.frm.1.toArray⟩)).set (o := 5) (.string ⟨e.frm.2.toArray⟩)).set (o := 6) (.slice va e.rcs.length vc)).set (o := 7) (.int .u64 e.born)).set (o := 8) (.int .u64 e.nxt)).set (o := 9) (.int .i64 e.tries)).drop).drew)
    clear SQ
    have hls : (s.length : Int) ≤ 1000000 := by have := HL.out; omega
    have hlr : (tr.2.s.length : Int) ≤ s.length := by have := HSUF.out.2; omega
    have hwr : IntKind.i64.wrap ((s.length : Int) - tr.2.s.length) = ((s.length - tr.2.s.length : Nat) : Int) := by rw [IntWalk.i64_in _ (by omega)]; omega
    have hc1 : 0 ≤ IntKind.i64.wrap ((s.length : Int) - tr.2.s.length) := by rw [hwr]; omega
    have hc2 : IntKind.i64.wrap ((s.length : Int) - tr.2.s.length) ≤ (s.length : Int) := by rw [hwr]; omega
    have hcut := cut_tail s (s.length - tr.2.s.length) s.length rfl
    rw [HSUF.out.1] at hcut
    have HRD := Lib.hid ((Sp.pick [_, _, _, _] [2, 0, 1, 3] (by decide) (HS5.out)).drew)
    go_region_with (first | (go_at_call 66; refine (rdLeftS HRD.out).mono ?_; rintro e w6 ⟨rfl, rfl⟩) | (rw [if_pos ⟨hc1, hc2⟩, hwr, Int.toNat_natCast, hcut]))
    all_goals
      go_simp
      clear HRD hcut hc1 hc2 hwr hls hlr HS5 HOK HSUF
      go_wp2
      rw [HW.out]
      exact bodyPost_ret (v := .tuple #[.agg #[.int .u64 e.id, .string ⟨e.dom.toArray⟩, .int .u64 e.ep, .int .u64 e.cnt, .string ⟨e.frm.1.toArray⟩, .string ⟨e.frm.2.toArray⟩, .slice va e.rcs.length vc, .int .u64 e.born, .int .u64 e.nxt, .int .i64 e.tries], .string ⟨tr.1.toArray⟩, .string ⟨tr.2.s.toArray⟩, .int .i64 0]) (by simp [results, Tryz.results32, go_sem, d0]) rfl ⟨_, rfl, HSQ.out⟩
  · have HW : Hid (enSplit s = (En.zero, [], [], 2)) := HV.out.trans (if_neg hf)
    have hb : (f == 0) = false := by simpa using hf
    have S6 := (Sp.pick [_, _, _, _] [3] (by decide) (HS5.out))
    have d0 := S6.cell
    have f0 := S6.free
    have HS6 := Lib.hid (((((((((((S6.set (o := 0) (.int .u64 0)).set (o := 1) (.string ⟨#[]⟩)).set (o := 2) (.int .u64 0)).set (o := 3) (.int .u64 0)).set (o := 4) (.string ⟨#[]⟩)).set (o := 5) (.string ⟨#[]⟩)).set (o := 6) (.slice none 0 0)).set (o := 7) (.int .u64 0)).set (o := 8) (.int .u64 0)).set (o := 9) (.int .i64 0)).drop.tosNil)
    clear HV hf HOK
    go_upto_region 4 with (fail)
    generalize w4.alloc _ = w5 at *
    clear HS5
    go_wp2
    rw [HW.out]
    exact bodyPost_ret (v := .tuple #[.agg #[.int .u64 0, .string ⟨#[]⟩, .int .u64 0, .int .u64 0, .string ⟨#[]⟩, .string ⟨#[]⟩, .slice none 0 0, .int .u64 0, .int .u64 0, .int .i64 0], .string ⟨#[]⟩, .string ⟨#[]⟩, .int .i64 2]) (by simp [results, Tryz.results32, go_sem, d0]) rfl ⟨.slice none 0 0, rfl, HS6.out⟩
end
end Go.Proofs.YtkenacggjffjnaaGreatDoor
