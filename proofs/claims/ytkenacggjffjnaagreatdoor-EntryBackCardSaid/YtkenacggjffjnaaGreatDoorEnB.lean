/- entry: a file made and opened by a box of which it is known how it seals and opens; a name. Conditions: the lengths fit; what Go's variables hold. -/
import Derived.Test.YtkenacggjffjnaaGreatDoorEnO
set_option linter.unusedSimpArgs false
set_option linter.unusedVariables false
set_option linter.unnecessarySimpa false
namespace Go.Proofs.YtkenacggjffjnaaGreatDoor
open Go.RowKit Go.Maps

/-- A file made: q is what the box makes of the nonce, the head, the body filled up. -/
def enSealV (e : En) (body : Bs) (q : Bs × Int) : Bs × Int :=
  if enMay e = true then
    if body.length ≤ 16000 then
      if q.2 = 0 then (textB (headB e) ++ q.1, 0) else ([], q.2)
    else ([], 5)
  else ([], 2)
/-- A file opened: O is how the box opens. -/
def enOpenV (O : Bs → Bs → Bs → Bs × Int) (s : Bs) : En × Bs × Int :=
  if (enSplit s).2.2.2 = 0 then
    if (O (nonceE (enSplit s).1.cnt) (enSplit s).2.1 (enSplit s).2.2.1).2 = 0 then
      if (enUnfill (O (nonceE (enSplit s).1.cnt) (enSplit s).2.1 (enSplit s).2.2.1).1).2 = 0 then ((enSplit s).1, (enUnfill (O (nonceE (enSplit s).1.cnt) (enSplit s).2.1 (enSplit s).2.2.1).1).1, 0)
      else (En.zero, [], (enUnfill (O (nonceE (enSplit s).1.cnt) (enSplit s).2.1 (enSplit s).2.2.1).1).2)
    else (En.zero, [], (O (nonceE (enSplit s).1.cnt) (enSplit s).2.1 (enSplit s).2.2.1).2)
  else (En.zero, [], (enSplit s).2.2.2)
theorem enSplit_len (s : Bs) : (enSplit s).2.2.1.length ≤ s.length := by
  unfold enSplit
  dsimp only
  split
  · have := text_len ⟨s, false⟩ 4000
    exact this.1
  · simp
theorem enUnfill_len (s : Bs) : (enUnfill s).1.length ≤ 16000 := by
  unfold enUnfill
  split
  · exact bodyOf_len s
  · simp
theorem enSplit_cnt (s : Bs) : (enSplit s).1.cnt < 18446744073709551616 := by
  by_cases h : (enSplit s).2.2.2 = 0
  · have := (enMay_parts (split_ok h).1).cnt
    omega
  · rw [split_no h]
    decide

section
variable {w0 w : World} {L : List Res} {F0 : List Nat} {v pv : Value} {B B2 : Res}
set_option maxRecDepth 100000 in
set_option maxHeartbeats 4000000 in
theorem enSealG (e : En) (key body : Bs) (q : Bs × Int) (E : Env w0) (hf : e.Fit) (T : TosAt w v e.rcs) (S : Sp w0 [] w (B :: L)) (hq : q.1.length ≤ 1000000)
    (HB : enMay e = true → body.length ≤ 16000 → ∀ (w' : World) (L' : List Res), Sp w0 [] w' (B :: L') → Calls Tryz.prog 60 #[pv, .string ⟨key.toArray⟩, .string ⟨(nonceE e.cnt).toArray⟩, .string ⟨(headB e).toArray⟩, .string ⟨(fillB body).toArray⟩] w' fun r w2 => r = .returned (.tuple #[.string ⟨q.1.toArray⟩, .int .i64 q.2]) ∧ Sp w0 [] w2 (B2 :: L')) :
    Calls Tryz.prog 27 #[pv, .string ⟨key.toArray⟩, enAgg e v, .string ⟨body.toArray⟩] w fun r w2 => r = .returned (.tuple #[.string ⟨(enSealV e body q).1.toArray⟩, .int .i64 (enSealV e body q).2]) ∧ Sp w0 [] w2 ((if enMay e = true ∧ body.length ≤ 16000 then B2 else B) :: L) := by
  have HS0 := Lib.hid (S.box (enCells e v) 27)
  have HH := Lib.hid (Calls.sp (enHead_any e v (w.alloc (.cells (enCells e v) 27)) (E.sp (S.box (enCells e v) 27)) hf (T.ext ((Ext.refl [] w).alloc _))) (S.box (enCells e v) 27))
  have HV : Hid (enSealV e body q = if enMay e = true then (if body.length ≤ 16000 then (if q.2 = 0 then (textB (headB e) ++ q.1, 0) else (([] : Bs), q.2)) else ([], (5 : Int))) else ([], (2 : Int))) := rfl
  have HHD : Hid (enHead e = if enMay e then (headB e, 0) else ([], 2)) := rfl
  have HHB := Lib.hid HB
  have HLQ := Lib.hid hq
  have HCN := Lib.hid hf.cnt
  have HPT := Lib.hid (@enMay_parts e)
  have HFL : Hid (enFill body = if body.length ≤ 16000 then (fillB body, 0) else ([], 5)) := rfl
  unfold enCells at HS0 HH
  unfold enAgg at HH ⊢
  generalize hBR : (if enMay e = true ∧ body.length ≤ 16000 then B2 else B) = BR
  have HBR := Lib.hid hBR
  clear HB S T E hq hBR
  go_enter Tryz.func27, Tryz.ntmps27
  go_upto_region 1 with (fail)
  generalize w.alloc (.cells #[.int .u64 e.id, .string ⟨e.dom.toArray⟩, .int .u64 e.ep, .int .u64 e.cnt, .string ⟨e.frm.1.toArray⟩, .string ⟨e.frm.2.toArray⟩, v, .int .u64 e.born, .int .u64 e.nxt, .int .i64 e.tries] 27) = w1 at *
  generalize w.heap.size = q6 at *
  have c1 := HS0.out.cell
  go_wp2_with fail
  refine HH.out.mono ?_
  rintro r w2 ⟨rfl, S⟩
  have HS2 := Lib.hid S
  have c2 := S.cell
  clear S HS0 c1 HH hf
  cases hm : enMay e with
  | false =>
    have HW : Hid (enSealV e body q = ([], 2)) := by unfold Hid; rw [HV.out, if_neg (by simp [hm])]
    have e1 : enHead e = ([], 2) := by rw [HHD.out, if_neg (by simp [hm])]
    rw [e1]
    have HBE : Hid (BR = B) := by unfold Hid; rw [← HBR.out, if_neg (by simp [hm])]
    clear HV HHD HHB hm
    go_wp2
    go_ret2
    exact ⟨by rw [HW.out]; rfl, by rw [HBE.out]; exact HS2.out.drop⟩
  | true =>
    have e1 : enHead e = (headB e, 0) := by rw [HHD.out, if_pos hm]
    rw [e1]
    have HHL := Lib.hid (headB_len (HPT.out hm))
    by_cases hb : body.length ≤ 16000
    · have e2 : enFill body = (fillB body, 0) := by rw [HFL.out, if_pos hb]
      have HB3 := Lib.hid (HHB.out hm hb)
      have HW : Hid (enSealV e body q = if q.2 = 0 then (textB (headB e) ++ q.1, 0) else (([] : Bs), q.2)) := by unfold Hid; rw [HV.out, if_pos hm, if_pos hb]
      have HBE : Hid (BR = B2) := by unfold Hid; rw [← HBR.out, if_pos ⟨hm, hb⟩]
      have HF := Lib.hid (enFillS body HS2.out)
      rw [e2] at HF
      clear HV HHD HHB hm hb HPT e1 e2 HFL
      generalize headB e = hd at *
      generalize fillB body = fb at *
      go_wp2_with fail
      refine HF.out.mono ?_
      rintro r w3 ⟨rfl, S⟩
      have HS3 := Lib.hid S
      have c3 := S.cell
      clear S HS2 c2 HF
      go_wp2_with fail
      refine (Calls.sp (enNonce_any e.cnt w3 HCN.out) HS3.out).mono ?_
      rintro r w4 ⟨rfl, S⟩
      have HS4 := Lib.hid S
      clear S HS3 c3
      generalize nonceE e.cnt = nn at *
      go_wp2_with fail
      refine (HB3.out _ _ HS4.out.pull1).mono ?_
      rintro r w5 ⟨rfl, S⟩
      have HS5 := Lib.hid S
      clear S HS4 HB3
      obtain ⟨q1, q2⟩ := q
      dsimp only at *
      by_cases hq2 : q2 = 0
      · subst hq2
        have HW2 : Hid (enSealV e body (q1, 0) = (textB hd ++ q1, 0)) := HW.out
        have hadd := add_str (textB hd) q1 (by have := text_le9 (s := hd) (by have := HHL.out; omega); have := HLQ.out; unfold maxLen; omega)
        clear HW
        go_wp2_with fail
        refine (packTextS HS5.out hd (by have := HHL.out; omega)).mono ?_
        rintro r w6 ⟨rfl, S⟩
        have HS6 := Lib.hid S
        clear S HS5
        go_wp2
        go_ret2
        exact ⟨by rw [HW2.out]; rfl, by rw [HBE.out]; exact HS6.out.pull1.drop⟩
      · have HW2 : Hid (enSealV e body (q1, q2) = ([], q2)) := HW.out.trans (if_neg hq2)
        have hb2 : (q2 == 0) = false := by simpa using hq2
        clear HW hq2
        go_wp2
        go_ret2
        exact ⟨by rw [HW2.out]; rfl, by rw [HBE.out]; exact HS5.out.pull1.drop⟩
    · have e2 : enFill body = ([], 5) := by rw [HFL.out, if_neg hb]
      have HW : Hid (enSealV e body q = ([], 5)) := by unfold Hid; rw [HV.out, if_pos hm, if_neg hb]
      have HBE : Hid (BR = B) := by unfold Hid; rw [← HBR.out, if_neg (fun h => hb h.2)]
      have HF := Lib.hid (enFillS body HS2.out)
      rw [e2] at HF
      clear HV HHD HHB hm hb HPT e1 e2 HFL
      generalize headB e = hd at *
      go_wp2_with fail
      refine HF.out.mono ?_
      rintro r w3 ⟨rfl, S⟩
      have HS3 := Lib.hid S
      clear S HS2 c2 HF
      go_wp2
      go_ret2
      exact ⟨by rw [HW.out]; rfl, by rw [HBE.out]; exact HS3.out.drop⟩
set_option maxRecDepth 100000 in
set_option maxHeartbeats 4000000 in
theorem enOpenG (O : Bs → Bs → Bs → Bs × Int) (key s : Bs) (hs : s.length ≤ 1000000) (E : Env w0) (S : Sp w0 [] w (B :: L))
    (HB : ∀ (n d t : Bs) (w' : World) (L' : List Res), n.length = 12 → d.length ≤ 1000000 → t.length ≤ 1000000 → Sp w0 [] w' (B :: L') → Calls Tryz.prog 62 #[pv, .string ⟨key.toArray⟩, .string ⟨n.toArray⟩, .string ⟨d.toArray⟩, .string ⟨t.toArray⟩] w' fun r w2 => r = .returned (.tuple #[.string ⟨(O n d t).1.toArray⟩, .int .i64 (O n d t).2]) ∧ Sp w0 [] w2 (B :: L'))
    (HO : ∀ n d t, (O n d t).1.length ≤ 1000000) :
    Calls Tryz.prog 28 #[pv, .string ⟨key.toArray⟩, .string ⟨s.toArray⟩] w fun r w2 => ∃ v, r = .returned (.tuple #[enAgg (enOpenV O s).1 v, .string ⟨(enOpenV O s).2.1.toArray⟩, .int .i64 (enOpenV O s).2.2]) ∧ Sp w0 [] w2 (tosR v (enOpenV O s).1.rcs :: B :: L) := by
  have HS0 := Lib.hid (S.box #[.int .u64 0, .string ⟨#[]⟩, .int .u64 0, .int .u64 0, .string ⟨#[]⟩, .string ⟨#[]⟩, .slice none 0 0, .int .u64 0, .int .u64 0, .int .i64 0] 27)
  have HL := Lib.hid hs
  have HE := Lib.hid E
  have HHB := Lib.hid HB
  have HHO := Lib.hid HO
  have HSL := Lib.hid (enSplit_len s)
  have HDL : Hid ((enSplit s).2.1.length ≤ 1000000) := by
    unfold Hid
    by_cases h : (enSplit s).2.2.2 = 0
    · obtain ⟨h1, h2, _⟩ := split_ok h
      have := headB_len (enMay_parts h1)
      rw [h2]
      omega
    · rw [split_no h]
      exact Nat.zero_le _
  have HCN := Lib.hid (enSplit_cnt s)
  have HNO := Lib.hid (@split_no s)
  have HV : Hid (enOpenV O s = if (enSplit s).2.2.2 = 0 then (if (O (nonceE (enSplit s).1.cnt) (enSplit s).2.1 (enSplit s).2.2.1).2 = 0 then (if (enUnfill (O (nonceE (enSplit s).1.cnt) (enSplit s).2.1 (enSplit s).2.2.1).1).2 = 0 then ((enSplit s).1, (enUnfill (O (nonceE (enSplit s).1.cnt) (enSplit s).2.1 (enSplit s).2.2.1).1).1, 0)
      else (En.zero, [], (enUnfill (O (nonceE (enSplit s).1.cnt) (enSplit s).2.1 (enSplit s).2.2.1).1).2)) else (En.zero, [], (O (nonceE (enSplit s).1.cnt) (enSplit s).2.1 (enSplit s).2.2.1).2)) else (En.zero, [], (enSplit s).2.2.2)) := rfl
  clear S hs E HB HO
  go_enter Tryz.func28, Tryz.ntmps28
  go_upto_region 1 with (fail)
  generalize w.alloc (.cells #[.int .u64 0, .string ⟨#[]⟩, .int .u64 0, .int .u64 0, .string ⟨#[]⟩, .string ⟨#[]⟩, .slice none 0 0, .int .u64 0, .int .u64 0, .int .i64 0] 27) = w1 at *
  generalize w.heap.size = q2 at *
  go_wp2_with fail
  refine (enSplitS s HL.out HE.out HS0.out).mono ?_
  rintro r w4 ⟨v, rfl, S⟩
  generalize enSplit s = sp at *
  obtain ⟨e, hd, sl, f⟩ := sp
  dsimp only at *
  obtain ⟨va, vc, rfl⟩ := S.tosAt.form
  unfold enAgg
  have S5 := S.box (enCells e (.slice va e.rcs.length vc)) 27
  unfold enCells at S5
  have HS5 := Lib.hid S5
  clear S S5 HS0
  by_cases hf : f = 0
  · subst hf
    have HV2 : Hid (enOpenV O s = if (O (nonceE e.cnt) hd sl).2 = 0 then (if (enUnfill (O (nonceE e.cnt) hd sl).1).2 = 0 then (e, (enUnfill (O (nonceE e.cnt) hd sl).1).1, 0)
      else (En.zero, [], (enUnfill (O (nonceE e.cnt) hd sl).1).2)) else (En.zero, [], (O (nonceE e.cnt) hd sl).2)) := HV.out.trans (if_pos rfl)
    have HNL := Lib.hid (nonceE_length e.cnt)
    clear HV
    go_upto_region 4 with (fail)
    generalize w4.alloc _ = w5 at *
    generalize w4.heap.size = q8 at *
    have c8 := HS5.out.cell
    go_wp2_with fail
    refine (Calls.sp (enNonce_any e.cnt w5 HCN.out) HS5.out).mono ?_
    rintro r w6 ⟨rfl, S⟩
    have HS6 := Lib.hid ((Sp.pick [_, _, _, _] [3, 0, 1, 2] (by decide) (S)))
    generalize nonceE e.cnt = nn at *
    clear S HS5 c8
    go_wp2_with fail
    refine (HHB.out nn hd sl _ _ HNL.out HDL.out (by have := HSL.out; have := HL.out; omega) HS6.out).mono ?_
    rintro r w7 ⟨rfl, S⟩
    have HOL := Lib.hid (HHO.out nn hd sl)
    generalize O nn hd sl = oo at *
    obtain ⟨o1, o2⟩ := oo
    dsimp only at *
    have HS7 := Lib.hid ((Sp.pick [_, _, _, _] [1, 2, 3, 0] (by decide) (S)))
    clear S HS6
    by_cases ho : o2 = 0
    · subst ho
      have HV3 : Hid (enOpenV O s = if (enUnfill o1).2 = 0 then (e, (enUnfill o1).1, 0) else (En.zero, [], (enUnfill o1).2)) := HV2.out.trans (if_pos rfl)
      clear HV2
      go_wp2_with fail
      refine (enUnfillS o1 HOL.out HS7.out).mono ?_
      rintro r w8 ⟨rfl, S⟩
      generalize enUnfill o1 = uu at *
      obtain ⟨u1, u2⟩ := uu
      dsimp only at *
      have HS8 := Lib.hid S
      clear S HS7
      by_cases hu : u2 = 0
      · subst hu
        have HW : Hid (enOpenV O s = (e, u1, 0)) := HV3.out.trans (if_pos rfl)
        have SQ := (Sp.pick [_, _, _, _] [2, 0, 1, 3] (by decide) (HS8.out))
        have d0 := SQ.cell
        have f0 := SQ.free
        have c8 := HS8.out.cell
        have HSQ := Lib.hid ((Sp.pick [_, _, _, _] [2, 3] (by decide) (((((((((((SQ.set (o := 0) (.int .u64 e.id)).set (o := 1) (.string ⟨e.dom.toArray⟩)).set (o := 2) (.int .u64 e.ep)).set (o := 3) (.int .u64 e.cnt)).set (o := 4) (.string ⟨e.frm.1.toArray⟩)).set (o := 5) (.string ⟨e.frm.2.toArray⟩)).set (o := 6) (.slice va e.rcs.length vc)).set (o := 7) (.int .u64 e.born)).set (o := 8) (.int .u64 e.nxt)).set (o := 9) (.int .i64 e.tries)))))
        clear SQ HV3 HS8
        go_wp2
        rw [HW.out]
        exact bodyPost_ret (v := .tuple #[.agg #[.int .u64 e.id, .string ⟨e.dom.toArray⟩, .int .u64 e.ep, .int .u64 e.cnt, .string ⟨e.frm.1.toArray⟩, .string ⟨e.frm.2.toArray⟩, .slice va e.rcs.length vc, .int .u64 e.born, .int .u64 e.nxt, .int .i64 e.tries], .string ⟨u1.toArray⟩, .int .i64 0]) (by simp [results, Tryz.results28, go_sem, d0]) rfl ⟨_, rfl, HSQ.out⟩
      · have HW : Hid (enOpenV O s = (En.zero, [], u2)) := HV3.out.trans (if_neg hu)
        have hb : (u2 == 0) = false := by simpa using hu
        have S6 := (Sp.pick [_, _, _, _] [2, 3] (by decide) (HS8.out))
        have d0 := S6.cell
        have f0 := S6.free
        have HSQ := Lib.hid (((((((((((S6.set (o := 0) (.int .u64 0)).set (o := 1) (.string ⟨#[]⟩)).set (o := 2) (.int .u64 0)).set (o := 3) (.int .u64 0)).set (o := 4) (.string ⟨#[]⟩)).set (o := 5) (.string ⟨#[]⟩)).set (o := 6) (.slice none 0 0)).set (o := 7) (.int .u64 0)).set (o := 8) (.int .u64 0)).set (o := 9) (.int .i64 0)).drop.tosNil)
        clear S6 HV3 HS8 hu
        go_wp2
        rw [HW.out]
        exact bodyPost_ret (v := .tuple #[.agg #[.int .u64 0, .string ⟨#[]⟩, .int .u64 0, .int .u64 0, .string ⟨#[]⟩, .string ⟨#[]⟩, .slice none 0 0, .int .u64 0, .int .u64 0, .int .i64 0], .string ⟨#[]⟩, .int .i64 u2]) (by simp [results, Tryz.results28, go_sem, d0]) rfl ⟨.slice none 0 0, rfl, HSQ.out⟩
    · have HW : Hid (enOpenV O s = (En.zero, [], o2)) := HV2.out.trans (if_neg ho)
      have hb : (o2 == 0) = false := by simpa using ho
      have S6 := (Sp.pick [_, _, _, _] [2, 3] (by decide) (HS7.out))
      have d0 := S6.cell
      have f0 := S6.free
      have HSQ := Lib.hid (((((((((((S6.set (o := 0) (.int .u64 0)).set (o := 1) (.string ⟨#[]⟩)).set (o := 2) (.int .u64 0)).set (o := 3) (.int .u64 0)).set (o := 4) (.string ⟨#[]⟩)).set (o := 5) (.string ⟨#[]⟩)).set (o := 6) (.slice none 0 0)).set (o := 7) (.int .u64 0)).set (o := 8) (.int .u64 0)).set (o := 9) (.int .i64 0)).drop.tosNil)
      clear S6 HV2 HS7 ho
      go_wp2
      rw [HW.out]
      exact bodyPost_ret (v := .tuple #[.agg #[.int .u64 0, .string ⟨#[]⟩, .int .u64 0, .int .u64 0, .string ⟨#[]⟩, .string ⟨#[]⟩, .slice none 0 0, .int .u64 0, .int .u64 0, .int .i64 0], .string ⟨#[]⟩, .int .i64 o2]) (by simp [results, Tryz.results28, go_sem, d0]) rfl ⟨.slice none 0 0, rfl, HSQ.out⟩
  · have HW : Hid (enOpenV O s = (En.zero, [], f)) := HV.out.trans (if_neg hf)
    have hb : (f == 0) = false := by simpa using hf
    have S6 := (Sp.pick [_, _, _, _] [2, 3] (by decide) (HS5.out))
    have d0 := S6.cell
    have f0 := S6.free
    have HSQ := Lib.hid (((((((((((S6.set (o := 0) (.int .u64 0)).set (o := 1) (.string ⟨#[]⟩)).set (o := 2) (.int .u64 0)).set (o := 3) (.int .u64 0)).set (o := 4) (.string ⟨#[]⟩)).set (o := 5) (.string ⟨#[]⟩)).set (o := 6) (.slice none 0 0)).set (o := 7) (.int .u64 0)).set (o := 8) (.int .u64 0)).set (o := 9) (.int .i64 0)).drop.tosNil)
    clear S6 HV hf
    go_upto_region 3 with (fail)
    generalize w4.alloc _ = w5 at *
    clear HS5
    go_wp2
    rw [HW.out]
    exact bodyPost_ret (v := .tuple #[.agg #[.int .u64 0, .string ⟨#[]⟩, .int .u64 0, .int .u64 0, .string ⟨#[]⟩, .string ⟨#[]⟩, .slice none 0 0, .int .u64 0, .int .u64 0, .int .i64 0], .string ⟨#[]⟩, .int .i64 f]) (by simp [results, Tryz.results28, go_sem, d0]) rfl ⟨.slice none 0 0, rfl, HSQ.out⟩
end
end Go.Proofs.YtkenacggjffjnaaGreatDoor
