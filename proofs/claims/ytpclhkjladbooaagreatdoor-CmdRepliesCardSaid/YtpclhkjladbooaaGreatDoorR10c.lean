/- The document's answer for layer 10: ReadReply. Conditions: the lengths fit. -/
import Derived.Test.YtpclhkjladbooaaGreatDoorR10b
import Derived.Test.YtpclhkjladbooaaGreatDoorRfS
set_option linter.unusedSimpArgs false
set_option linter.unusedVariables false
set_option linter.unnecessarySimpa false
namespace Go.Proofs.YtpclhkjladbooaaGreatDoor
open Go.RowKit

theorem rfCode_take {l : List Bs} {k : Nat} (h : k < l.length) : rfCode (l.take (k + 1)) = sizeR (l[k].take 3) := by
  unfold rfCode
  rw [List.take_succ_eq_append_getElem h, List.getLast?_concat]
  rfl
def rfBad (s : Bs) : Bool := decide (s.length ≤ 3) || decide (sizeR (s.take 3) < 0)
theorem rfBad_take {l : List Bs} {k : Nat} (h : k < l.length) : ((l.take (k + 1)).any rfBad) = (((l.take k).any rfBad) || rfBad l[k]) := by
  rw [List.take_succ_eq_append_getElem h, List.any_append, List.any_cons, List.any_nil, Bool.or_false]
theorem sizeR3_lt (s : Bs) (h : s.length ≤ 3) : -1 ≤ sizeR s ∧ sizeR s < 1000 := by
  unfold sizeR
  split
  · rename_i h1
    have h2 := numV_ten s h1.2
    have h3 : (10 : Nat) ^ s.length ≤ 10 ^ 3 := Nat.pow_le_pow_right (by decide) h
    omega
  · omega
theorem rfCode_small (l : List Bs) : -1 ≤ rfCode l ∧ rfCode l ≤ 1000 := by
  unfold rfCode
  cases l.getLast? with
  | none => decide
  | some s =>
    have := sizeR3_lt (s.take 3) (by rw [List.length_take]; omega)
    simp only [Option.map_some, Option.getD_some]
    omega
theorem rfRead_eq (l : List Bs) : rfRead l = if (l.any rfBad) = true then ((0, []), 2) else rpShut (rfCode l) (l.map (·.drop 4)) l := rfl
section
variable {w0 w : World} {F0 : List Nat} {L : List Res} {v : Value}
set_option maxRecDepth 100000 in
set_option maxHeartbeats 4000000 in
theorem r10ReadReply_any (l : List Bs) (hl : l.length ≤ 1000000) (hs : ∀ s ∈ l, s.length ≤ 1000000) (T : TxAt w v l) :
    Calls Tryz.prog 17 #[v] w fun e w2 => ∃ v2, e = .returned (.tuple #[.agg #[.int .i64 (rfRead l).1.1, v2], .int .i64 (rfRead l).2]) ∧ Sp w [] w2 [textsR v2 (rfRead l).1.2] := by
  have HS0 := Lib.hid (((Sp.nil w []).box #[.int .i64 0, .slice none 0 0] 43).box #[.int .i64 0, .slice none 0 0] 43)
  have hsz : (w.alloc (.cells #[.int .i64 0, .slice none 0 0] 43)).heap.size = w.heap.size + 1 := by simp
  rw [hsz] at HS0
  have HT := Lib.hid T
  have HSH := Lib.hid hs
  have hln : (l.length : Int) ≤ 1000000 := by omega
  obtain ⟨a, cap, rfl⟩ := T.form
  clear T hs hl
  go_enter Tryz.func17, Tryz.ntmps17
  go_wp2_with fail
  generalize (w.alloc (.cells #[.int .i64 0, .slice none 0 0] 43)).alloc (.cells #[.int .i64 0, .slice none 0 0] 43) = w1 at *
  generalize w.heap.size + 1 = q1 at *
  generalize w.heap.size = q0 at *
  clear hsz
  go_loopw [5] (fun i wr => ∃ (k : Nat) (vo : Value), i = .int .i64 k ∧ k ≤ l.length ∧ ((l.take k).any rfBad) = false ∧ Sp w [] wr (textsR vo ((l.take k).map (·.drop 4)) :: boxR q1 #[.int .i64 (rfCode (l.take k)), vo] 43 :: [boxR q0 #[.int .i64 0, .slice none 0 0] 43])) (fun i _ => l.length - (intOf i).toNat)
  case atStart => exact ⟨0, _, rfl, by omega, rfl, HS0.out.textsNil⟩
  case round =>
    obtain ⟨k, vo, rfl, hk, hany, S3⟩ := hrel
    have HS3 := Lib.hid S3
    have HT3 := Lib.hid (HT.out.ext S3.ext)
    have HAN := Lib.hid hany
    have c1 := S3.pull1.cell
    have f1 := S3.pull1.free
    have l1 := S3.pull1.boxlt
    clear S3 HS0 hany
    by_cases hlt : k < l.length
    · have hlt' : (k : Int) < l.length := by omega
      obtain ⟨b, off, rfl, ck⟩ := HT3.out.at hlt
      have HC2 : Hid (∀ wx, Ext [] w wx → wx.cell? ⟨b, off + k, none⟩ = some (.string ⟨l[k].toArray⟩)) := fun wx hx => by
        obtain ⟨b', off', e, h⟩ := (HT.out.ext hx).at hlt
        cases e
        exact h
      have HX : Hid (l[k].length ≤ 1000000) := HSH.out _ (List.getElem_mem hlt)
      have HCT := Lib.hid (rfCode_take hlt)
      have HDT := Lib.hid (drop_take hlt)
      have HST := Lib.hid (rfBad_take hlt)
      have HMEM : Hid (l[k] ∈ l) := List.getElem_mem hlt
      have HKL : Hid (((l.take k).map (·.drop 4)).length = k) := by unfold Hid; rw [List.length_map, List.length_take]; omega
      generalize l[k] = x at *
      generalize (l.take k).map (·.drop 4) = ro at *
      generalize rfCode (l.take k) = co at *
      have hx0 : (x.length : Int) ≤ 1000000 := by have := HX.out; omega
      by_cases hsh : x.length ≤ 3
      · have hsh' : (x.length : Int) < 4 := by omega
        have HV : Hid (rfRead l = ((0, []), 2)) := by
          rw [rfRead_eq] 
          unfold Hid
          rw [if_pos]
          rw [List.any_eq_true]
          exact ⟨x, HMEM.out, by unfold rfBad; simp [hsh]⟩
        have c0 := HS3.out.pull2.cell
        have f0 := HS3.out.pull2.free
        have HS4 := Lib.hid (((HS3.out.pull2.set (o := 0) (.int .i64 0)).set (o := 1) (.slice none 0 0)).drop.drop.drop.textsNil)
        clear c1 f1 hsh
        go_wp2
        rw [HV.out]
        exact bodyPost_ret (v := .tuple #[.agg #[.int .i64 0, .slice none 0 0], .int .i64 2]) (by simp [results, Tryz.results17, go_sem, c0]) rfl ⟨_, rfl, HS4.out⟩
      · have hsh' : (4 : Int) ≤ x.length := by omega
        have hsh3 : (3 : Int) ≤ x.length := by omega
        have he1 := cut_take x 3
        have he2 := cut_drop x 4 (by omega)
        have HAT := Lib.hid (r10Size_any (x.take 3) wr (by simp; omega))
        have HRB : Hid (rfBad x = decide (sizeR (x.take 3) < 0)) := by unfold Hid rfBad; rw [decide_eq_false hsh]; rfl
        have HCS := Lib.hid (sizeR3_lt (x.take 3) (by rw [List.length_take]; omega))
        generalize sizeR (x.take 3) = cx at *
        generalize x.take 3 = x3 at *
        generalize x.drop 4 = y at *
        go_wp2_with fail
        refine HAT.out.mono ?_
        rintro e wq ⟨rfl, rfl⟩
        have hcs := HCS.out
        by_cases hcx : cx < 0
        · have HV : Hid (rfRead l = ((0, []), 2)) := by
            rw [rfRead_eq]
            unfold Hid
            rw [if_pos]
            rw [List.any_eq_true]
            exact ⟨x, HMEM.out, by rw [HRB.out, decide_eq_true hcx]⟩
          have c0 := HS3.out.pull2.cell
          have f0 := HS3.out.pull2.free
          have HS4 := Lib.hid (((HS3.out.pull2.set (o := 0) (.int .i64 0)).set (o := 1) (.slice none 0 0)).drop.drop.drop.textsNil)
          clear c1 f1 hsh
          go_wp2
          rw [HV.out]
          exact bodyPost_ret (v := .tuple #[.agg #[.int .i64 0, .slice none 0 0], .int .i64 2]) (by simp [results, Tryz.results17, go_sem, c0]) rfl ⟨_, rfl, HS4.out⟩
        have hcx' : (0 : Int) ≤ cx := by omega
        have HS5 := Lib.hid (HS3.out.pull1.set (o := 0) (.int .i64 cx)).pull1
        clear l1
        go_upto_region 11 with (fail)
        clear c1 f1 ck
        generalize wr.setCell ⟨q1, 0, none⟩ (.int .i64 cx) = w5 at *
        obtain ⟨g2, cap2, w6, hrun, S6⟩ := Sp.appendText 36 y (by have := HKL.out; omega) (HS5.out.box #[.string ⟨y.toArray⟩] 9).drew
        rw [HKL.out] at hrun S6
        have HRUN := Lib.hid hrun
        have HS6 := Lib.hid S6
        have c5 := HS5.out.pull1.cell
        have f5 := HS5.out.pull1.free
        have l5 := HS5.out.pull1.boxlt
        have ck5 := HC2.out w5 HS5.out.ext
        have k5 := (HS5.out.box #[.string ⟨y.toArray⟩] 9).pull2.cell
        have c6 := S6.pull1.cell
        have f6 := S6.pull1.free
        have l6 := S6.pull1.boxlt
        clear S6 hrun
        go_region_law ((refine step_append_run (by rfl) (by rfl) (by rfl) (by rfl) HRUN.out ?_))
        all_goals
          go_wp2_with fail
          go_roundw
          case rel => exact ⟨k + 1, _, by go_num, by omega, by rw [HST.out, HAN.out, HRB.out, decide_eq_false (by omega)]; rfl, by rw [HDT.out, HCT.out]; exact (HS6.out.pull1.set (o := 1) (.slice (some ⟨g2, 0, none⟩) (k + 1) cap2)).pull1⟩
          case measure => simp [intOf]; omega
    · obtain rfl : k = l.length := by omega
      have HTK : Hid (l.take l.length = l) := List.take_of_length_le (Nat.le_refl _)
      rw [HTK.out] at HS3 HAN
      have HR : Hid (rfRead l = rpShut (rfCode l) (l.map (·.drop 4)) l) := by unfold Hid; rw [rfRead_eq, if_neg (by rw [HAN.out]; decide)]
      have HSD : Hid (rpShut (rfCode l) (l.map (·.drop 4)) l = if (rpLines (rfCode l) (l.map (·.drop 4))).2 = 0 ∧ (rpLines (rfCode l) (l.map (·.drop 4))).1 = l then ((rfCode l, l.map (·.drop 4)), 0) else ((0, []), 2)) := rfl
      have HTV := Lib.hid HS3.out.tx
      obtain ⟨av, cv, rfl⟩ := HTV.out.form
      have hco := rfCode_small l
      clear c1 f1 l1
      have HMS : Hid (∀ s ∈ l.map (·.drop 4), s.length ≤ 1000000) := fun s hs => by
        obtain ⟨t, ht, rfl⟩ := List.mem_map.1 hs
        have := HSH.out t ht
        simp only [List.length_drop]
        omega
      have HLS := Lib.hid (r10Lines_any (rfCode l) (by omega) (by omega) (l.map (·.drop 4)) (by rw [List.length_map]; omega) HMS.out HTV.out)
      have HOLN : Hid ((rpLines (rfCode l) (l.map (·.drop 4))).1.length ≤ 1000000) := by
        unfold Hid rpLines
        split
        · simp
        · split
          · simp
          · rw [rpOut_length, List.length_map]; omega
      have c1 := HS3.out.pull1.cell
      generalize l.map (·.drop 4) = r at *
      generalize rfCode l = co at *
      generalize rpLines co r = q at *
      obtain ⟨out, er⟩ := q
      dsimp only at *
      go_wp2_with fail
      refine HLS.out.mono ?_
      rintro e w4 ⟨v4, rfl, S40⟩
      have S4 := HS3.out.add S40
      clear S40
      have HT4 := Lib.hid S4.tx
      have HTL := Lib.hid (HT.out.ext S4.ext)
      obtain ⟨a4, p4, rfl⟩ := HT4.out.form
      have HS4 := Lib.hid S4
      have c4 := S4.pull3.cell
      have f4 := S4.pull3.free
      have d4 := S4.pull2.cell
      clear S4 c1 HLS HS3
      by_cases he : er = 0
      · subst he
        have HEQ := Lib.hid (same_any out l HT4.out HTL.out HOLN.out)
        by_cases hq : out = l
        · have HV : Hid (rfRead l = ((co, r), 0)) := by unfold Hid; rw [HR.out, HSD.out, if_pos ⟨rfl, hq⟩]
          rw [decide_eq_true hq] at HEQ
          clear hq
          go_wp2_with fail
          refine HEQ.out.mono ?_
          rintro e w5 ⟨rfl, z5, rfl⟩
          have S5 := HS4.out.drewN z5
          generalize w4.drewN z5 = w5 at *
          clear c4 f4 d4
          have c5 := S5.pull3.cell
          have f5 := S5.pull3.free
          have d5 := S5.pull2.cell
          have HS5 := Lib.hid S5
          clear S5
          have HS6 := Lib.hid ((HS5.out.pull3.set (o := 0) (.int .i64 co)).set (o := 1) (.slice av r.length cv)).drop.drop
          go_wp2
          rw [HV.out]
          exact bodyPost_ret (v := .tuple #[.agg #[.int .i64 co, .slice av r.length cv], .int .i64 0]) (by simp [results, Tryz.results17, go_sem, c5]) rfl ⟨_, rfl, HS6.out.pull1.drop⟩
        · have HV : Hid (rfRead l = ((0, []), 2)) := by unfold Hid; rw [HR.out, HSD.out, if_neg fun h => hq h.2]
          rw [decide_eq_false hq] at HEQ
          clear hq
          go_wp2_with fail
          refine HEQ.out.mono ?_
          rintro e w5 ⟨rfl, z5, rfl⟩
          have S5 := HS4.out.drewN z5
          generalize w4.drewN z5 = w5 at *
          clear c4 f4 d4
          have c5 := S5.pull3.cell
          have f5 := S5.pull3.free
          have HS5 := Lib.hid S5
          clear S5
          have HS6 := Lib.hid ((HS5.out.pull3.set (o := 0) (.int .i64 0)).set (o := 1) (.slice none 0 0)).drop.drop.drop.drop.textsNil
          go_wp2
          rw [HV.out]
          exact bodyPost_ret (v := .tuple #[.agg #[.int .i64 0, .slice none 0 0], .int .i64 2]) (by simp [results, Tryz.results17, go_sem, c5]) rfl ⟨_, rfl, HS6.out⟩
      · have he' : (er != 0) = true := by simpa using he
        have HV : Hid (rfRead l = ((0, []), 2)) := by unfold Hid; rw [HR.out, HSD.out, if_neg fun h => he h.1]
        have HS5 := Lib.hid ((HS4.out.pull3.set (o := 0) (.int .i64 0)).set (o := 1) (.slice none 0 0)).drop.drop.drop.drop.textsNil
        go_wp2
        rw [HV.out]
        exact bodyPost_ret (v := .tuple #[.agg #[.int .i64 0, .slice none 0 0], .int .i64 2]) (by simp [results, Tryz.results17, go_sem, c4]) rfl ⟨_, rfl, HS5.out⟩
end
end Go.Proofs.YtpclhkjladbooaaGreatDoor
