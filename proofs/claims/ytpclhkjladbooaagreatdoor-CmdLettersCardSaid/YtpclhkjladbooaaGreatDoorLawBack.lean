/- CmdBack: its walk, with the plain law. Conditions: what Go's variables hold; the arguments fit. -/
import Derived.Test.YtpclhkjladbooaaGreatDoorActC
set_option linter.unusedSimpArgs false
set_option linter.unusedVariables false
set_option linter.unnecessarySimpa false
namespace Go.Proofs.YtpclhkjladbooaaGreatDoor
open Go.RowKit

theorem mbPath_short (b : Mb) : (mbPath b).1.length ≤ 2 * b.1.length + b.2.length + 10 := by
  unfold mbPath
  split
  · simp
  · split
    · unfold mbText
      have := quotedB_len b.1
      split <;> simp only [List.length_cons, List.length_append, List.length_nil] <;> omega
    · simp
theorem large_fit {c : Cm} (h : largeC c = false) : c.text.length ≤ 2048 ∧ c.box.1.length ≤ 2048 ∧ c.box.2.length ≤ 2048 := by
  unfold largeC at h
  simp only [Bool.or_eq_false_iff, decide_eq_false_iff_not] at h
  omega
theorem cmWrite_short {c : Cm} (h1 : c.text.length ≤ 2048) (h2 : c.box.1.length ≤ 2048) (h3 : c.box.2.length ≤ 2048) (hz : c.size ≤ 9223372036854775807) : (cmWrite c).1.length ≤ 100000 := by
  have hp := mbPath_short c.box
  have hv := verb_len c.verb
  have h3 : 0 ≤ c.size → (Lib.decDigits c.size.toNat).length ≤ 20 := fun h => dec_len20 (by omega)
  have hb : (besideC c).1.length ≤ 90000 := by
    unfold besideC greetC fromC toC
    repeat' split
    all_goals first
      | (simp; done)
      | (simp only [List.length_cons, List.length_append, List.length_nil, fromW, sizeW, bodyW, toW]; omega)
      | (rename_i hz; have := h3 (by assumption); simp only [List.length_cons, List.length_append, List.length_nil, fromW, sizeW, bodyW, toW]; omega)
  unfold cmWrite
  split
  · simp
  · split
    · rw [List.length_append]; omega
    · simp
theorem cmWrite_bad {c : Cm} (h : (cmWrite c).2 ≠ 0) : (cmWrite c).1 = [] := by
  unfold cmWrite at h ⊢
  split
  · rfl
  · split
    · rename_i h1 h2
      rw [if_neg h1, if_pos h2] at h
      exact absurd rfl h
    · rfl
theorem trimSp_len (s : Bs) : (trimSp s).length ≤ s.length := by
  unfold trimSp Lib.trimB Lib.trimLeftB Lib.trimRightB
  have h1 := (List.dropWhile_sublist (p := fun x : UInt8 => x == 32) (l := (s.reverse.dropWhile fun x => x == 32).reverse)).length_le
  have h2 := (List.dropWhile_sublist (p := fun x : UInt8 => x == 32) (l := s.reverse)).length_le
  simp only [List.length_reverse] at h1 h2
  omega
theorem domV_len (s : Bs) : (domV s).1.length ≤ s.length := by
  unfold domV
  split
  · simp [smallB]
  · simp
theorem boxC_box {x s : Bs} {q : Mb × Bs} (h : boxC x s = some q) : q.1.1.length ≤ s.length ∧ q.1.2.length ≤ s.length := by
  unfold boxC at h
  split at h
  · simp only [Option.bind_eq_some_iff] at h
    obtain ⟨s1, h1, h2⟩ := h
    have l1 := rdWord_len h1
    have l2 := rdPath_len h2
    have l3 := spR_len s1
    have l4 := spR_len s
    omega
  · cases h
theorem moreC_fit {v : Int} {s : Bs} {c : Cm} (h : moreC v s = some c) : c.text.length ≤ s.length ∧ c.box.1.length ≤ s.length ∧ c.box.2.length ≤ s.length ∧ -1 ≤ c.size ∧ c.size ≤ 999999999999 := by
  have ht := trimSp_len s
  unfold moreC at h
  split at h
  · split at h
    · cases h
      have := domV_len (trimSp s)
      refine ⟨?_, ?_, ?_, ?_, ?_⟩ <;> simp <;> omega
    · cases h
  · split at h
    · simp only [Option.bind_eq_some_iff, Option.map_eq_some_iff] at h
      obtain ⟨q, h1, r, h2, rfl⟩ := h
      have l1 := boxC_box h1
      have l2 := mailL_may _ _ _ _ _ _ h2 (by decide)
      exact ⟨by simp, l1.1, l1.2, l2.1, l2.2⟩
    · split at h
      · simp only [Option.bind_eq_some_iff] at h
        obtain ⟨q, h1, h2⟩ := h
        split at h2
        · cases h2
          have l1 := boxC_box h1
          exact ⟨by simp, l1.1, l1.2, Int.le_refl _, (show (-1 : Int) ≤ 999999999999 by decide)⟩
        · cases h2
      · split at h
        · split at h
          · cases h
            exact ⟨ht, by simp, by simp, Int.le_refl _, (show (-1 : Int) ≤ 999999999999 by decide)⟩
          · cases h
        · split at h
          · cases h
            exact ⟨by simp, by simp, by simp, Int.le_refl _, (show (-1 : Int) ≤ 999999999999 by decide)⟩
          · cases h
/-- A command that was read fits. -/
theorem cmParse_fit {s : Bs} {d : Cm} (h : cmParse s = (d, 0)) : d.text.length ≤ s.length ∧ d.box.1.length ≤ s.length ∧ d.box.2.length ≤ s.length ∧ -1 ≤ d.size ∧ d.size ≤ 999999999999 := by
  have hr := valR_len s
  unfold cmParse at h
  split at h
  · simp at h
  · split at h
    · rename_i c hc
      cases h
      have := moreC_fit hc
      omega
    · simp at h
section
variable {w0 w : World} {L : List Res} {b pc : Nat} {v : Value}
set_option maxRecDepth 100000 in
set_option maxHeartbeats 8000000 in
theorem cmdBack_walk (c : Cm) (s : Bs) (w : World) (E : Env w) (hc : c.Wf) (hs : s.length ≤ maxLen) : Calls Tryz.prog 5 #[cmAgg c, .string ⟨s.toArray⟩] w fun e w2 => e = .returned (.bool true) ∧ Ext [] w w2 := by
  have HE := Lib.hid E
  have HC := Lib.hid hc
  have HLG := Lib.hid (fun w' => large_any c w')
  have HS0 := Lib.hid ((Sp.nil w []).box (cmCells c) 25)
  have HFIT : Hid (largeC c = false → CmFit c ∧ (cmWrite c).1.length ≤ 100000) := fun h => by
    obtain ⟨h1, h2, h3⟩ := large_fit h
    exact ⟨⟨by omega, by omega, by omega, hc.size1, hc.size2⟩, cmWrite_short h1 h2 h3 hc.size2⟩
  have HWS := Lib.hid (fun (w' : World) (L' : List Res) (S : Sp w [] w' L') (F : CmFit c) => cmWriteS c S E F)
  have HPW := Lib.hid (fun (x : Bs) (h : cmWrite c = (x, 0)) => cmParse_write h)
  have HBAD := Lib.hid (cmWrite_bad (c := c))
  have HN : Hid (normC c = if c.verb = 3 then c else { c with size := -1 }) := rfl
  unfold maxLen at hs
  clear E hc
  obtain ⟨vb, t, ⟨l, d⟩, z, e8⟩ := c
  unfold cmAgg cmCells at *
  dsimp only at *
  generalize largeC ⟨vb, t, (l, d), z, e8⟩ = lg at *
  generalize hwr : cmWrite ⟨vb, t, (l, d), z, e8⟩ = wr at *
  obtain ⟨x, ex⟩ := wr
  dsimp only at *
  clear hwr
  go_enter Tryz.func5, Tryz.ntmps5
  go_wp2_with fail
  refine (awake10S HS0.out HE.out).mono ?_
  generalize w.heap.size = q at *
  rintro e w1 ⟨rfl, S⟩
  have HS1 := Lib.hid S
  have c1 := S.cell
  clear S HS0
  go_wp2_with fail
  refine (HLG.out w1).mono ?_
  rintro e w2 ⟨rfl, hx⟩
  have S := HS1.out.ext0 hx
  have HS2 := Lib.hid S
  have c2 := S.cell
  have f2 := S.free
  clear S HS1 c1 hx HLG
  cases lg with
  | true =>
    go_wp2
    go_ret
    exact ⟨rfl, HS2.out.ext⟩
  | false =>
    obtain ⟨F, hxl⟩ := HFIT.out rfl
    have HF := Lib.hid F
    have HXL := Lib.hid hxl
    clear F hxl HFIT
    by_cases h2048 : 2048 < s.length
    · have h2048' : (2048 : Int) < s.length := by omega
      go_wp2
      go_ret
      exact ⟨rfl, HS2.out.ext⟩
    have h2048' : (s.length : Int) ≤ 2048 := by omega
    clear hs
    go_wp2_with fail
    refine (HWS.out w2 _ HS2.out HF.out).mono ?_
    rintro e w3 ⟨rfl, S⟩
    have HS3 := Lib.hid S
    have c3 := S.cell
    have f3 := S.free
    clear S c2 f2 HS2 HWS
    go_upto_if 30 with (fail)
    go_cut [] (fun wx => Sp w [] wx [])
    case first =>
      by_cases he : ex = 0
      · subst he
        have HPS := Lib.hid (HPW.out x rfl)
        by_cases h3 : vb = 3
        · subst h3
          rw [HN.out, if_pos rfl] at HPS
          go_wp2_with fail
          refine (cmParseS x (by have := HXL.out; omega) HS3.out HE.out).mono ?_
          rw [HPS.out]
          unfold cmAgg
          dsimp only
          rintro e w4 ⟨rfl, S⟩
          have HS4 := Lib.hid (S.box #[.int .i64 3, .string ⟨t.toArray⟩, .string ⟨l.toArray⟩, .string ⟨d.toArray⟩, .int .i64 z, .bool e8] 25)
          have c4 := S.cell
          have l4 := S.boxlt
          clear S c3 f3
          go_wp2
          go_meet
          exact HS4.out.drop.drop
        · have h3' : (vb != 3) = true := by simpa using h3
          rw [HN.out, if_neg h3] at HPS
          have HS3' := Lib.hid (HS3.out.set (o := 4) (.int .i64 (-1)))
          clear h3
          go_wp2_with fail
          refine (cmParseS x (by have := HXL.out; omega) HS3'.out HE.out).mono ?_
          rw [HPS.out]
          unfold cmAgg
          dsimp only
          rintro e w4 ⟨rfl, S⟩
          have HS4 := Lib.hid (S.box #[.int .i64 vb, .string ⟨t.toArray⟩, .string ⟨l.toArray⟩, .string ⟨d.toArray⟩, .int .i64 (-1), .bool e8] 25)
          have c4 := S.cell
          have l4 := S.boxlt
          simp only [List.setIfInBounds_toArray, List.set_cons_zero, List.set_cons_succ] at c4
          clear S c3 f3
          go_wp2
          go_meet
          exact HS4.out.drop.drop
      · have hx0 := HBAD.out he
        subst hx0
        have he' : (ex == 0) = false := by simpa using he
        go_wp2
        go_meet
        exact HS3.out.drop
    case rest =>
      have HS5 := Lib.hid hcut
      clear hcut c3 f3 HS3
      have hsl : s.length ≤ 2048 := by omega
      cases hp : cmParse s with
      | mk dd ed =>
      go_wp2_with fail
      refine (cmParseS s (by omega) HS5.out HE.out).mono ?_
      rw [hp]
      have HP := Lib.hid hp
      clear hp
      obtain ⟨dv, dt, ⟨dl, ddm⟩, dz, de⟩ := dd
      unfold cmAgg
      dsimp only
      rintro e w6 ⟨rfl, S⟩
      have HS6 := Lib.hid (S.box (cmCells ⟨dv, dt, (dl, ddm), dz, de⟩) 25)
      have c6 := HS6.out.cell
      unfold cmCells at HS6 c6
      dsimp only at HS6 c6
      clear S HS5
      by_cases he : ed = 0
      · subst he
        have F := cmParse_fit HP.out
        obtain ⟨y, hy1, hy2⟩ := cmParse_may HP.out
        have HY1 := Lib.hid hy1
        have HY2 := Lib.hid hy2
        dsimp only at F
        have HYL : Hid (y.length ≤ 100000) := by
          have := cmWrite_short (c := ⟨dv, dt, (dl, ddm), dz, de⟩) (by dsimp only; omega) (by dsimp only; omega) (by dsimp only; omega) (by dsimp only; omega)
          rw [hy1] at this
          exact this
        have HWR := Lib.hid (fun (w' : World) (L' : List Res) (S : Sp w [] w' L') => cmWriteS ⟨dv, dt, (dl, ddm), dz, de⟩ S HE.out ⟨by dsimp only; omega, by dsimp only; omega, by dsimp only; omega, by dsimp only; omega, by dsimp only; omega⟩)
        rw [HY1.out] at HWR
        unfold cmAgg at HWR
        dsimp only at HWR
        clear hy1 hy2 F HP
        go_wp2_with fail
        refine (HWR.out _ _ HS6.out).mono ?_
        generalize w6.heap.size = q6 at *
        rintro e w7 ⟨rfl, S⟩
        have HS7 := Lib.hid S
        clear S c6 HS6 HWR
        go_wp2_with fail
        refine (cmParseS y (by have := HYL.out; omega) HS7.out HE.out).mono ?_
        rw [HY2.out]
        unfold cmAgg
        dsimp only
        rintro e w8 ⟨rfl, S⟩
        have c8 := S.cell
        have l8 := S.boxlt
        have HS8 := Lib.hid (S.box #[.int .i64 dv, .string ⟨dt.toArray⟩, .string ⟨dl.toArray⟩, .string ⟨ddm.toArray⟩, .int .i64 dz, .bool de] 25)
        clear S HS7
        go_wp2
        go_ret
        exact ⟨rfl, HS8.out.ext⟩
      · have h0 := cmParse_bad HP.out he
        unfold cm0 at h0
        cases h0
        have he' : (ed != 0) = true := by simpa using he
        clear HP he
        go_wp2
        go_ret
        exact ⟨rfl, HS6.out.ext⟩
end
end Go.Proofs.YtpclhkjladbooaaGreatDoor
