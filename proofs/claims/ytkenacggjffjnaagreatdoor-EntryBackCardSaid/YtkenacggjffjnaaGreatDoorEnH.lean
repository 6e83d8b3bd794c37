/- entry: a head. Conditions: the lengths fit; what Go's variables hold. -/
import Derived.Test.YtkenacggjffjnaaGreatDoorEnM
set_option linter.unusedSimpArgs false
set_option linter.unusedVariables false
set_option linter.unnecessarySimpa false
namespace Go.Proofs.YtkenacggjffjnaaGreatDoor
open Go.RowKit

section
variable {w0 w : World} {L : List Res} {F0 : List Nat} {b : Nat} {v : Value} {e : En} {r : Rd}
theorem idx3 (a b c : Value) (i : Nat) (h : i < 3) (W : World) : (Instr.index 70 (.agg #[a, b, c]) (.int .i64 i)).run Tryz.prog W = .ok ((#[a, b, c] : Array Value).getD i a) W := by
  match i, h with
  | 0, _ => simp [Instr.index, go_sem, Tryz.underlying70]
  | 1, _ => simp [Instr.index, go_sem, Tryz.underlying70]
  | 2, _ => simp [Instr.index, go_sem, Tryz.underlying70]
theorem num_le9 (n : Nat) : (numB n).length ≤ 1000 := by have := numB_length_le n; omega
theorem text_le9 {s : Bs} (h : s.length ≤ 1000000) : (textB s).length ≤ 1001000 := by have := textB_length_le s; omega
theorem rcsB_le : ∀ l : List Rcp, (∀ x ∈ l, x.1.1.length ≤ 1000000 ∧ x.1.2.length ≤ 1000000) → (l.flatMap rcB).length ≤ 3000000 * l.length
  | [], _ => by simp
  | x :: l, h => by
    have h1 := rcsB_le l (fun y hy => h y (by simp [hy]))
    have h2 := text_le9 (h x (by simp)).1
    have h3 := text_le9 (h x (by simp)).2
    have h4 := num_le9 x.2.toNat
    have h5 : (rcB x).length ≤ 3000000 := by
      unfold rcB
      simp only [List.length_append]
      omega
    rw [List.flatMap_cons, List.length_append, List.length_cons]
    omega
set_option maxRecDepth 100000 in
set_option maxHeartbeats 4000000 in
theorem enHead_any (e : En) (v : Value) (w : World) (E : Env w) (hf : e.Fit) (T : TosAt w v e.rcs) : Calls Tryz.prog 11 #[enAgg e v] w fun r w2 => r = .returned (.tuple #[.string ⟨(enHead e).1.toArray⟩, .int .i64 (enHead e).2]) ∧ Ext [] w w2 := by
  have HS0 := Lib.hid ((Sp.nil w []).box (enCells e v) 27)
  have HM := Lib.hid (fun (w' : World) (L' : List Res) (S' : Sp w [] w' L') => enMay_any e v w' (E.sp S') hf (T.ext S'.ext))
  have HT := Lib.hid T
  have HF := Lib.hid hf
  have HV : Hid (enHead e = if enMay e = true then (headB e, 0) else ([], 2)) := rfl
  have HP := Lib.hid (@enMay_parts e)
  have HH := Lib.hid (headB_eq e [])
  rw [List.append_nil] at HH
  obtain ⟨id, dom, ep, cnt, ⟨fl, fd⟩, rcs, born, nxt, tries⟩ := e
  unfold enAgg at *
  unfold enCells at HS0
  dsimp only at *
  obtain ⟨va, vc, rfl⟩ := T.form
  clear T E hf
  go_enter Tryz.func11, Tryz.ntmps11
  go_upto_region 1 with (fail)
  generalize w.alloc (.cells #[.int .u64 id, .string ⟨dom.toArray⟩, .int .u64 ep, .int .u64 cnt, .string ⟨fl.toArray⟩, .string ⟨fd.toArray⟩, .slice va rcs.length vc, .int .u64 born, .int .u64 nxt, .int .i64 tries] 27) = w1 at *
  generalize w.heap.size = q1 at *
  have c0 := HS0.out.cell
  go_wp2_with fail
  refine (HM.out w1 _ HS0.out).mono ?_
  rintro e w2 ⟨rfl, hx⟩
  have HS1 := Lib.hid (HS0.out.ext0 hx)
  clear hx c0 HS0 HM
  cases hm : enMay ⟨id, dom, ep, cnt, (fl, fd), rcs, born, nxt, tries⟩ with
  | false =>
    rw [if_neg (by rw [hm]; decide)] at HV
    clear hm
    go_wp2
    go_ret2
    rw [HV.out]
    exact ⟨rfl, HS1.out.ext⟩
  | true =>
    rw [if_pos hm] at HV
    obtain ⟨p1, ⟨p2, p3⟩, ⟨p4, p4'⟩, p5, p6, p7, p8, p9, p10, ⟨p11, p12⟩⟩ := HP.out hm
    dsimp only at p1 p2 p3 p4 p4' p5 p6 p7 p8 p9 p10 p11 p12
    obtain ⟨tn, rfl⟩ : ∃ tn : Nat, tries = tn := ⟨tries.toNat, by omega⟩
    obtain ⟨vb, vo, he⟩ : ∃ vb vo, va = some ⟨vb, vo, none⟩ := by
      obtain ⟨vb, vo, h1, _⟩ := HT.out.at (i := 0) p4
      exact ⟨vb, vo, h1⟩
    subst he
    have HB2 := Lib.hid (HS1.out.bld 67).pull1
    have P5 := Lib.hid p5
    have P1 := Lib.hid p1
    have P2 := Lib.hid p2
    have P3 := Lib.hid p3
    have hid : (id : Int) ≤ 1099511627776 := by omega
    have hep : (ep : Int) ≤ 1099511627776 := by omega
    have hcnt : (cnt : Int) ≤ 1099511627776 := by omega
    have hborn : (born : Int) ≤ 1099511627776 := by omega
    have hnxt : (nxt : Int) ≤ 1099511627776 := by omega
    have htn : (tn : Int) ≤ 100 := by omega
    have hrl : (rcs.length : Int) ≤ 10 := by omega
    clear hm HP p1 p2 p3 p4 p4' p5 p6 p7 p8 p9 p10 p11 p12
    go_upto_region 4 with (fail)
    generalize w2.alloc (.cells #[.pointer none, .slice none 0 0] 67) = w3 at *
    generalize w2.heap.size = q4 at *
    obtain ⟨l3, hl3⟩ : ∃ l3 : Bs, l3 = [] := ⟨_, rfl⟩
    have HS3 : Hid (Sp w [] w3 (bldR 67 q4 l3 :: boxR q1 #[.int .u64 id, .string ⟨dom.toArray⟩, .int .u64 ep, .int .u64 cnt, .string ⟨fl.toArray⟩, .string ⟨fd.toArray⟩, .slice (some ⟨vb, vo, none⟩) rcs.length vc, .int .u64 born, .int .u64 nxt, .int .i64 tn] 27 :: [])) := by rw [hl3]; exact Lib.hid HB2.out.pull1
    have HL3 : Hid (l3.length ≤ 0) := by rw [hl3]; exact Nat.le_refl 0
    have c3 := HS3.out.pull1.cell
    clear HB2 HS1
    go_wp2_with fail
    refine (outNumS id HS3.out (by have := HL3.out; omega) (by omega)).mono ?_
    obtain ⟨l4, hl4⟩ : ∃ l4 : Bs, l4 = l3 ++ numB id := ⟨_, rfl⟩
    have HL4 : Hid (l4.length ≤ 2000000) := by have h1 := HL3.out; have h2 := num_le9 id; rw [hl4, List.length_append]; unfold Hid; omega
    rw [← hl4]
    rintro e w4 ⟨rfl, S⟩
    have c4 := S.pull1.cell
    have HS4 := Lib.hid S
    have HQ4 := Lib.hid hl4
    clear S HS3 c3 hl4
    go_wp2_with fail
    refine (outTextS HS4.out (by have := HL4.out; omega) (by have := P1.out; omega)).mono ?_
    obtain ⟨l5, hl5⟩ : ∃ l5 : Bs, l5 = l4 ++ textB dom := ⟨_, rfl⟩
    have HL5 : Hid (l5.length ≤ 4000000) := by have h1 := HL4.out; have h2 := text_le9 (s := dom) (by have := P1.out; omega); rw [hl5, List.length_append]; unfold Hid; omega
    rw [← hl5]
    rintro e w5 ⟨rfl, S⟩
    have c5 := S.pull1.cell
    have HS5 := Lib.hid S
    have HQ5 := Lib.hid hl5
    clear S HS4 c4 hl5
    go_wp2_with fail
    refine (outNumS ep HS5.out (by have := HL5.out; omega) (by omega)).mono ?_
    obtain ⟨l6, hl6⟩ : ∃ l6 : Bs, l6 = l5 ++ numB ep := ⟨_, rfl⟩
    have HL6 : Hid (l6.length ≤ 6000000) := by have h1 := HL5.out; have h2 := num_le9 ep; rw [hl6, List.length_append]; unfold Hid; omega
    rw [← hl6]
    rintro e w6 ⟨rfl, S⟩
    have c6 := S.pull1.cell
    have HS6 := Lib.hid S
    have HQ6 := Lib.hid hl6
    clear S HS5 c5 hl6
    go_wp2_with fail
    refine (outNumS cnt HS6.out (by have := HL6.out; omega) (by omega)).mono ?_
    obtain ⟨l7, hl7⟩ : ∃ l7 : Bs, l7 = l6 ++ numB cnt := ⟨_, rfl⟩
    have HL7 : Hid (l7.length ≤ 8000000) := by have h1 := HL6.out; have h2 := num_le9 cnt; rw [hl7, List.length_append]; unfold Hid; omega
    rw [← hl7]
    rintro e w7 ⟨rfl, S⟩
    have c7 := S.pull1.cell
    have HS7 := Lib.hid S
    have HQ7 := Lib.hid hl7
    clear S HS6 c6 hl7
    go_wp2_with fail
    refine (outTextS HS7.out (by have := HL7.out; omega) (by have := P2.out; omega)).mono ?_
    obtain ⟨l8, hl8⟩ : ∃ l8 : Bs, l8 = l7 ++ textB fl := ⟨_, rfl⟩
    have HL8 : Hid (l8.length ≤ 10000000) := by have h1 := HL7.out; have h2 := text_le9 (s := fl) (by have := P2.out; omega); rw [hl8, List.length_append]; unfold Hid; omega
    rw [← hl8]
    rintro e w8 ⟨rfl, S⟩
    have c8 := S.pull1.cell
    have HS8 := Lib.hid S
    have HQ8 := Lib.hid hl8
    clear S HS7 c7 hl8
    go_wp2_with fail
    refine (outTextS HS8.out (by have := HL8.out; omega) (by have := P3.out; omega)).mono ?_
    obtain ⟨l9, hl9⟩ : ∃ l9 : Bs, l9 = l8 ++ textB fd := ⟨_, rfl⟩
    have HL9 : Hid (l9.length ≤ 12000000) := by have h1 := HL8.out; have h2 := text_le9 (s := fd) (by have := P3.out; omega); rw [hl9, List.length_append]; unfold Hid; omega
    rw [← hl9]
    rintro e w9 ⟨rfl, S⟩
    have c9 := S.pull1.cell
    have HS9 := Lib.hid S
    have HQ9 := Lib.hid hl9
    clear S HS8 c8 hl9
    go_wp2_with fail
    refine (outNumS rcs.length HS9.out (by have := HL9.out; omega) (by omega)).mono ?_
    obtain ⟨l10, hl10⟩ : ∃ l10 : Bs, l10 = l9 ++ numB (rcs.length) := ⟨_, rfl⟩
    have HL10 : Hid (l10.length ≤ 14000000) := by have h1 := HL9.out; have h2 := num_le9 (rcs.length); rw [hl10, List.length_append]; unfold Hid; omega
    rw [← hl10]
    rintro e w10 ⟨rfl, S⟩
    have c10 := S.pull1.cell
    have HS10 := Lib.hid S
    have HQ10 := Lib.hid hl10
    clear S HS9 c9 hl10
    have HFM := Lib.hid (fun k => rcsB_le (rcs.take k) (fun x hx => by have := P5.out x (List.mem_of_mem_take hx); omega))
    go_wp2_with fail
    go_loopw [40] (fun at0 wr => ∃ (k : Nat) (l : Bs), at0 = .int .i64 k ∧ k ≤ rcs.length ∧ l = l10 ++ (rcs.take k).flatMap rcB ∧ Sp w [] wr (bldR 67 q4 l :: boxR q1 #[.int .u64 id, .string ⟨dom.toArray⟩, .int .u64 ep, .int .u64 cnt, .string ⟨fl.toArray⟩, .string ⟨fd.toArray⟩, .slice (some ⟨vb, vo, none⟩) rcs.length vc, .int .u64 born, .int .u64 nxt, .int .i64 tn] 27 :: [])) (fun at0 _ => rcs.length - (intOf at0).toNat)
    case atStart => exact ⟨0, l10, rfl, Nat.zero_le _, by simp, HS10.out⟩
    case round =>
      obtain ⟨k, l20, rfl, hk, hl20, S1⟩ := hrel
      have hk' : (k : Int) ≤ rcs.length := by omega
      have HQ20 := Lib.hid hl20
      have HK := Lib.hid hk
      have HL20 : Hid (l20.length ≤ 100000000) := by
        rw [hl20, List.length_append]
        have h1 := HL10.out
        have h2 := HFM.out k
        have h3 : (rcs.take k).length ≤ 10 := by rw [List.length_take]; omega
        unfold Hid
        omega
      clear hl20 HS10 c10 hk
      by_cases hlt : k < rcs.length
      · have hlt' : (k : Int) < rcs.length := by omega
        obtain ⟨vb2, vo2, he, x0, x1, x2⟩ := (HT.out.ext S1.ext).at hlt
        cases he
        obtain ⟨y1, y2, y3, y4⟩ := P5.out rcs[k] (List.getElem_mem hlt)
        have HTK : Hid (rcs.take (k + 1) = rcs.take k ++ [rcs[k]]) := List.take_succ_eq_append_getElem hlt
        generalize rcs[k] = x at *
        obtain ⟨⟨xl, xd⟩, xs⟩ := x
        dsimp only at *
        obtain ⟨sn, rfl⟩ : ∃ sn : Nat, xs = sn := ⟨xs.toNat, by omega⟩
        have Y1 := Lib.hid y1
        have Y2 := Lib.hid y2
        have hsn : (sn : Int) ≤ 2 := by omega
        have c20 := S1.pull1.cell
        have HS20a := Lib.hid (S1.box #[.string ⟨xl.toArray⟩, .string ⟨xd.toArray⟩, .int .i64 sn] 62)
        clear y1 y2 y3 y4 S1 hlt
        go_upto_region 14 with (fail)
        generalize wr.alloc (.cells #[.string ⟨xl.toArray⟩, .string ⟨xd.toArray⟩, .int .i64 sn] 62) = w20 at *
        generalize wr.heap.size = q6 at *
        clear x0 x1 x2 c20
        have HS20 := Lib.hid HS20a.out.pull1
        have c20 := HS20.out.pull1.cell
        clear HS20a
        go_wp2_with fail
        refine (outTextS HS20.out (by have := HL20.out; omega) (by have := Y1.out; omega)).mono ?_
        obtain ⟨l21, hl21⟩ : ∃ l21 : Bs, l21 = l20 ++ textB xl := ⟨_, rfl⟩
        have HL21 : Hid (l21.length ≤ 102000000) := by have h1 := HL20.out; have h2 := text_le9 (s := xl) (by have := Y1.out; omega); rw [hl21, List.length_append]; unfold Hid; omega
        rw [← hl21]
        rintro e w21 ⟨rfl, S⟩
        have c21 := S.pull1.cell
        have HS21 := Lib.hid S
        have HQ21 := Lib.hid hl21
        clear S HS20 c20 hl21
        go_wp2_with fail
        refine (outTextS HS21.out (by have := HL21.out; omega) (by have := Y2.out; omega)).mono ?_
        obtain ⟨l22, hl22⟩ : ∃ l22 : Bs, l22 = l21 ++ textB xd := ⟨_, rfl⟩
        have HL22 : Hid (l22.length ≤ 104000000) := by have h1 := HL21.out; have h2 := text_le9 (s := xd) (by have := Y2.out; omega); rw [hl22, List.length_append]; unfold Hid; omega
        rw [← hl22]
        rintro e w22 ⟨rfl, S⟩
        have c22 := S.pull1.cell
        have HS22 := Lib.hid S
        have HQ22 := Lib.hid hl22
        clear S HS21 c21 hl22
        go_wp2_with fail
        refine (outNumS sn HS22.out (by have := HL22.out; omega) (by omega)).mono ?_
        obtain ⟨l23, hl23⟩ : ∃ l23 : Bs, l23 = l22 ++ numB sn := ⟨_, rfl⟩
        have HL23 : Hid (l23.length ≤ 106000000) := by have h1 := HL22.out; have h2 := num_le9 sn; rw [hl23, List.length_append]; unfold Hid; omega
        rw [← hl23]
        rintro e w23 ⟨rfl, S⟩
        have c23 := S.pull1.cell
        have HS23 := Lib.hid S
        have HQ23 := Lib.hid hl23
        clear S HS22 c22 hl23
        go_wp2_with fail
        go_roundw
        case rel => exact ⟨k + 1, l23, by go_num, by omega, by rw [HTK.out, List.flatMap_append, HQ23.out, HQ22.out, HQ21.out, HQ20.out]; simp [rcB], (Sp.pick [_, _, _] [0, 2] (by decide) (HS23.out))⟩
        case measure => simp [intOf]; omega
      · obtain rfl : k = rcs.length := by have := HK.out; omega
        have HS30 := Lib.hid S1
        have c30 := S1.pull1.cell
        rw [List.take_length] at HQ20
        clear S1 hlt hk' HFM HT
        go_wp2_with fail
        go_loopw [65] (fun at0 wr => ∃ (k : Nat) (l : Bs), at0 = .int .i64 k ∧ k ≤ 3 ∧ l = l20 ++ ([numB born, numB nxt, numB tn].take k).flatten ∧ Sp w [] wr (bldR 67 q4 l :: [])) (fun at0 _ => 3 - (intOf at0).toNat)
        case atStart => exact ⟨0, l20, rfl, Nat.zero_le _, by simp, (Sp.pick [_, _] [0] (by decide) (HS30.out))⟩
        case round =>
          obtain ⟨k, l40, rfl, hk, hl40, S1⟩ := hrel
          have HS40 := Lib.hid S1
          have HQ40 := Lib.hid hl40
          have HL40 : Hid (l40.length ≤ 200000000) := by
            rw [hl40, List.length_append]
            have h1 := HL20.out
            have h2 := num_le9 born
            have h3 := num_le9 nxt
            have h4 := num_le9 tn
            have h5 : ([numB born, numB nxt, numB tn].take k).flatten.length ≤ 3000 := by
              rcases (by omega : k = 0 ∨ k = 1 ∨ k = 2 ∨ k = 3) with rfl | rfl | rfl | rfl <;> simp <;> omega
            unfold Hid
            omega
          clear S1 hl40 HS30 c30
          by_cases h0 : k = 3
          · subst h0
            have HN : Hid (l40 ≠ []) := by
              rw [HQ40.out, HQ20.out, HQ10.out, HQ9.out, HQ8.out, HQ7.out, HQ6.out, HQ5.out, HQ4.out]
              unfold Hid
              simp [numB]
            have HE : Hid (headB ⟨id, dom, ep, cnt, (fl, fd), rcs, born, nxt, (tn : Int)⟩ = l40) := by
              rw [HH.out, HQ40.out, HQ20.out, HQ10.out, HQ9.out, HQ8.out, HQ7.out, HQ6.out, HQ5.out, HQ4.out, hl3]
              unfold Hid
              simp
            go_wp2_with fail
            refine (bldStringS HS40.out HN.out).mono ?_
            rintro e w41 ⟨rfl, S⟩
            have HS41 := Lib.hid S
            clear S HS40
            go_wp2
            go_ret2
            rw [HV.out, HE.out]
            exact ⟨rfl, HS41.out.ext⟩
          · rcases (by omega : k = 0 ∨ k = 1 ∨ k = 2) with rfl | rfl | rfl
            · have hi : ∀ W, (Instr.index 70 (.agg #[.int .u64 born, .int .u64 nxt, .int .u64 tn]) (.int .i64 0)).run Tryz.prog W = .ok (.int .u64 born) W := fun W => idx3 _ _ _ 0 (by omega) W
              go_wp2_with fail
              refine (outNumS born HS40.out (by have := HL40.out; omega) (by omega)).mono ?_
              rintro e w41 ⟨rfl, S⟩
              have HS41 := Lib.hid S
              clear S HS40
              go_wp2_with fail
              go_roundw
              case rel => exact ⟨1, _, by go_num, by omega, by rw [HQ40.out]; simp, HS41.out⟩
              case measure => simp [intOf]
            · have hi : ∀ W, (Instr.index 70 (.agg #[.int .u64 born, .int .u64 nxt, .int .u64 tn]) (.int .i64 1)).run Tryz.prog W = .ok (.int .u64 nxt) W := fun W => idx3 _ _ _ 1 (by omega) W
              go_wp2_with fail
              refine (outNumS nxt HS40.out (by have := HL40.out; omega) (by omega)).mono ?_
              rintro e w41 ⟨rfl, S⟩
              have HS41 := Lib.hid S
              clear S HS40
              go_wp2_with fail
              go_roundw
              case rel => exact ⟨2, _, by go_num, by omega, by rw [HQ40.out]; simp, HS41.out⟩
              case measure => simp [intOf]
            · have hi : ∀ W, (Instr.index 70 (.agg #[.int .u64 born, .int .u64 nxt, .int .u64 tn]) (.int .i64 2)).run Tryz.prog W = .ok (.int .u64 tn) W := fun W => idx3 _ _ _ 2 (by omega) W
              go_wp2_with fail
              refine (outNumS tn HS40.out (by have := HL40.out; omega) (by omega)).mono ?_
              rintro e w41 ⟨rfl, S⟩
              have HS41 := Lib.hid S
              clear S HS40
              go_wp2_with fail
              go_roundw
              case rel => exact ⟨3, _, by go_num, by omega, by rw [HQ40.out]; simp, HS41.out⟩
              case measure => simp [intOf]
end
end Go.Proofs.YtkenacggjffjnaaGreatDoor
