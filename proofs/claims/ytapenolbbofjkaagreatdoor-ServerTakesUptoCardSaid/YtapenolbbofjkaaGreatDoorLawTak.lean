/- The document's answer for layer 8: Stuff. Conditions: the lengths fit. ServerTakes: its walk, with the plain law. Conditions: what Go's variables hold; the arguments fit, the texts are no longer than a bound. -/
import Derived.Test.YtapenolbbofjkaaGreatDoorR08
import Derived.Test.YtapenolbbofjkaaGreatDoorAw21d
import Derived.Test.YtapenolbbofjkaaGreatDoorTkP
import Derived.Test.YtapenolbbofjkaaGreatDoorActT
/-! Stf -/
set_option linter.unusedSimpArgs false
set_option linter.unusedVariables false
set_option linter.unnecessarySimpa false
namespace Go.Proofs.YtapenolbbofjkaaGreatDoor
open Go.RowKit

theorem stuff_take (l : List Bs) {k : Nat} (h : k < l.length) : (l.take (k + 1)).map dotted = (l.take k).map dotted ++ [dotted l[k]] := by
  rw [List.take_succ_eq_append_getElem h, List.map_append]
  rfl
section
variable {w0 w : World} {F0 : List Nat} {L : List Res} {v : Value}
set_option maxRecDepth 100000 in
set_option maxHeartbeats 2000000 in
theorem r08StuffT (l : List Bs) (hn : l.length ≤ 1000000) (hs : ∀ s ∈ l, s.length ≤ 1000000) (hj : (lnStuff l).length ≤ 9000000000) (T : TxAt w v l) : Calls Tryz.prog 19 #[v] w fun e w2 => e = .returned (.string ⟨(lnStuff l).toArray⟩) ∧ Ext [] w w2 := by
  have HSH := Lib.hid hs
  have HJ := Lib.hid hj
  have HV : Hid (lnStuff l = lnJoin (l.map dotted ++ [[46]])) := by
    unfold Hid
    rw [lnStuff_join]
    simp [lnJoin, List.flatMap_append]
  rw [HV.out] at HJ ⊢
  have HT0 := Lib.hid T
  obtain ⟨a, cap, rfl⟩ := T.form
  have hln : (l.length : Int) ≤ 1000000 := by omega
  have HS0 := Lib.hid ((Sp.nil w []).textsNone)
  clear T hs hj hn
  go_enter Tryz.func19, Tryz.ntmps19
  go_wp2_with fail
  generalize w.alloc (.cells #[] 9) = w1 at *
  generalize w.heap.size = q at *
  go_loopw [3, 4] (fun o i wr => ∃ k : Nat, i = .int .i64 k ∧ k ≤ l.length ∧ Sp w [] wr (textsR o ((l.take k).map dotted) :: [])) (fun _ i _ => l.length - (intOf i).toNat)
  case atStart => exact ⟨0, rfl, Nat.zero_le _, HS0.out⟩
  case round =>
    clear HS0
    obtain ⟨k, rfl, hk, S⟩ := hrel
    have HS := Lib.hid S
    have HT := Lib.hid (HT0.out.ext S.ext)
    obtain ⟨oa, oc, hof⟩ := S.tx.form
    have HLN : Hid (((l.take k).map dotted).length = k) := by unfold Hid; rw [List.length_map, List.length_take]; omega
    rw [HLN.out] at hof
    subst hof
    clear S
    by_cases hlt : k < l.length
    · have hlt' : (k : Int) < l.length := by omega
      obtain ⟨b, off, rfl, ck⟩ := HT.out.at hlt
      have HX : Hid (l[k].length ≤ 1000000) := HSH.out _ (List.getElem_mem hlt)
      have hxl : (l[k].length : Int) ≤ 1000000 := by have := HX.out; omega
      have HST := Lib.hid (stuff_take l hlt)
      have HDT : Hid (dotted l[k] = (if l[k].head? = some 46 then [46] else []) ++ l[k]) := rfl
      have HD2 : Hid ((dotted l[k]).length ≤ 1000001) := by have := HX.out; unfold Hid dotted; split <;> simp <;> omega
      have HAP := Lib.hid (fun (y : Bs) (w' : World) (S' : Sp w [] w' (textsR (.slice oa k oc) ((l.take k).map dotted) :: [])) => Sp.appendText 22 y (by have := HLN.out; omega) (S'.box #[.string ⟨y.toArray⟩] 9))
      generalize l[k] = x at *
      generalize (l.take k).map dotted = ds at *
      rw [HLN.out] at HAP
      by_cases hd : x.head? = some 46
      · have HSL : Hid (dotted x = [46] ++ x) := by rw [Hid, HDT.out, if_pos hd]
        obtain ⟨y, rfl⟩ : ∃ y, x = 46 :: y := by
          cases x with
          | nil => cases hd
          | cons c y => cases hd; exact ⟨y, rfl⟩
        have hix := fun w' => idx_head 46 y w'
        have hl0 : (0 : Int) < ((46 :: y : Bs).length : Int) := by simp only [List.length_cons]; omega
        obtain ⟨gg, cc, w4, hrun, S4⟩ := HAP.out (dotted (46 :: y)) wr HS.out
        have HRUN := Lib.hid hrun
        have HS4 := Lib.hid S4
        rw [HSL.out] at HRUN
        clear hd hrun S4 HDT HAP
        have hadd := add_str [46] (46 :: y) (by have := HX.out; simp [maxLen] at *; omega)
        rw [show ((46 : UInt8).toNat : Int) = 46 from rfl] at hix
        generalize 46 :: y = x at *
        go_wp2_with (at_builtin; refine wpList_append_run_g (by rfl) (by rfl) (by rfl) (by rfl) HRUN.out ?_)
        go_roundw
        case rel => exact ⟨k + 1, by go_num, by omega, by rw [HST.out]; exact HS4.out⟩
        case measure => simp [intOf]; omega
      · have HSL : Hid (dotted x = x) := by rw [Hid, HDT.out, if_neg hd]; rfl
        obtain ⟨gg, cc, w4, hrun, S4⟩ := HAP.out x wr HS.out
        have HRUN := Lib.hid hrun
        have HS4 := Lib.hid S4
        clear hrun S4 HDT HAP
        cases x with
        | nil =>
          clear hd
          go_wp2_with (at_builtin; refine wpList_append_run_g (by rfl) (by rfl) (by rfl) (by rfl) HRUN.out ?_)
          go_roundw
          case rel => exact ⟨k + 1, by go_num, by omega, by rw [HST.out, HSL.out]; exact HS4.out⟩
          case measure => simp [intOf]; omega
        | cons c y =>
          have hc : c ≠ 46 := fun e => hd (by rw [e]; rfl)
          have hix := fun w' => idx_head c y w'
          have hl0 : (0 : Int) < ((c :: y : Bs).length : Int) := by simp only [List.length_cons]; omega
          have hcb : ((c.toNat : Int) == 46) = false := by rw [show ((c.toNat : Int) == 46) = (c == 46) from eq_u8b c 46]; simpa using hc
          clear hd hc
          generalize hxx : c :: y = x at *
          clear hxx
          go_wp2_with (at_builtin; refine wpList_append_run_g (by rfl) (by rfl) (by rfl) (by rfl) HRUN.out ?_)
          go_roundw
          case rel => exact ⟨k + 1, by go_num, by omega, by rw [HST.out, HSL.out]; exact HS4.out⟩
          case measure => simp [intOf]; omega
    · obtain rfl : k = l.length := by omega
      rw [List.take_of_length_le (Nat.le_refl _)] at HS HLN
      obtain ⟨gg, cc, w4, hrun, S4⟩ := Sp.appendText 22 [46] (by have := HLN.out; omega) (HS.out.box #[.string ⟨([46] : Bs).toArray⟩] 9)
      rw [HLN.out] at hrun S4
      have HRUN := Lib.hid hrun
      have HS4 := Lib.hid S4
      have HJN := Lib.hid (fun w' T => r08Join_any (w := w') (v := .slice (some ⟨gg, 0, none⟩) (l.length + 1) cc) (l.map dotted ++ [[46]]) T HJ.out)
      clear hrun S4
      go_wp2_with (at_builtin; refine wpList_append_run_g (by rfl) (by rfl) (by rfl) (by rfl) HRUN.out ?_)
      refine (HJN.out _ HS4.out.tx).mono ?_
      rintro e w5 ⟨rfl, rfl⟩
      go_wp2
      go_ret
      exact ⟨rfl, HS4.out.ext⟩
end
end Go.Proofs.YtapenolbbofjkaaGreatDoor

/-! LawTk -/
namespace Go.Proofs.YtapenolbbofjkaaGreatDoor
open Go.RowKit Go.Maps

theorem aw21_mayT : cfMay hostS 5000 rulesS boxesS = true := by kernel_rfl
theorem cfT_fit : cfT.Fit := ⟨cfS_fit.host, by decide, cfS_fit.rules, cfS_fit.each, cfS_fit.boxes⟩
def tkHdr : Bs := lnJoin tkL
theorem tkS_sane (rest : Bs) : ∀ n, (tkS rest n).Sane
  | 0 => by
    have h := sane_new cfT_fit
    exact ⟨h.c, h.phase, h.errs, h.few, h.queue, h.rcs, h.size, h.lines⟩
  | n + 1 => sane_next (tkS_sane rest n)
theorem tkS_came (rest : Bs) : ∀ n, (tkS rest n).came.length ≤ tkHdr.length + rest.length
  | 0 => by show (lnJoin (tkL.drop 0) ++ rest).length ≤ _; rw [List.length_append]; exact Nat.le_refl _
  | n + 1 => Nat.le_trans (next_came _) (tkS_came rest n)
theorem tkS_add (rest : Bs) : (svNew cfT).add (tkHdr ++ rest) = tkS rest 0 := by
  have h : (svNew cfT).phase = 0 := by kernel_rfl
  have h2 : (svNew cfT).came = [] := by kernel_rfl
  unfold Sv.add
  rw [if_neg (by rw [h]; decide), h2]
  rfl
/-- Is a line a line, by the document's Split? -/
theorem tk_one {x : Bs} {l : List Bs} {r : Bs} (h : crR (x ++ crlf) = (l, r)) (h1 : l.length = 1) (h2 : l[0]? = some x) : noCr x = true := by
  obtain ⟨_, h4⟩ := crR_back (x ++ crlf).length (x ++ crlf) (Nat.le_refl _)
  rw [h] at h4
  exact h4 x (List.mem_of_getElem? h2)
def tkHdrL : Bs := [69, 72, 76, 79, 32, 99, 46, 100, 13, 10, 77, 65, 73, 76, 32, 70, 82, 79, 77, 58, 60, 115, 64, 100, 62, 13, 10, 82, 67, 80, 84, 32, 84, 79, 58, 60, 97, 110, 110, 64, 97, 46, 101, 120, 97, 109, 112, 108, 101, 62, 13, 10, 82, 67, 80, 84, 32, 84, 79, 58, 60, 120, 64, 121, 62, 13, 10, 82, 67, 80, 84, 32, 84, 79, 58, 60, 97, 110, 110, 64, 97, 46, 101, 120, 97, 109, 112, 108, 101, 62, 13, 10, 68, 65, 84, 65, 13, 10]
theorem tkHdr_lit : tkHdrL = tkHdr := by kernel_rfl
theorem tkHdr_len : tkHdrL.length = 98 := by kernel_rfl
theorem join_bound : ∀ l : List Bs, (∀ x ∈ l, x.length ≤ 999 ∧ noCr x = true) → (lnJoin l).length ≤ l.length * 1001 ∧ (lnStuff l).length ≤ l.length * 1002 + 3
  | [], _ => ⟨by simp [lnJoin], by simp [lnStuff]⟩
  | x :: l, h => by
    obtain ⟨h1, h2⟩ := join_bound l fun y hy => h y (by simp [hy])
    have h3 := (h x (by simp)).1
    have h4 : (dotted x).length ≤ 1000 := by
      unfold dotted
      rw [List.length_append]
      split <;> simp <;> omega
    rw [lnStuff_join] at h2 ⊢
    rw [show lnJoin (x :: l) = x ++ crlf ++ lnJoin l by simp [lnJoin], List.map_cons, show lnJoin (dotted x :: l.map dotted) = dotted x ++ crlf ++ lnJoin (l.map dotted) by simp [lnJoin]]
    simp only [List.length_append, List.length_cons, List.length_nil] at h2 ⊢
    omega
section
variable {w0 w w2 : World} {F0 : List Nat} {L : List Res} {p : Nat} {s : Sv} {K : List Rom} {v : Value}
theorem newTakesS {b1 b2 : Nat} {r : Res} (S : Sp w0 [] w (r :: rlR (.slice (some ⟨b1, 0, none⟩) 3 3) rulesS :: mbxR (.slice (some ⟨b2, 0, none⟩) 1 1) boxesS :: L)) (E : Env w0) :
    Calls Tryz.prog 9 #[.agg #[.string ⟨hostS.toArray⟩, .int .i64 5000, .slice (some ⟨b1, 0, none⟩) 3 3, .slice (some ⟨b2, 0, none⟩) 1 1]] w fun e w2 => ∃ p K, e = .returned (.tuple #[.pointer (some ⟨p, 0, none⟩), .int .i64 0]) ∧ SvAt w0 (r :: L) p (svNew cfT) K w2 := by
  refine (svNewS hostS 5000 _ _ rulesS boxesS (by decide) (by decide) (by decide) small_each (by decide) small_box (fun W S => S.pull1.rls) (fun W S => ((Sp.pick [_, _, _] [2] (by decide) (S))).bxs) S E).mono ?_
  rintro e w2 h
  unfold NewTo at h
  rw [aw21_mayT, if_pos rfl] at h
  obtain ⟨p, K, h1, X, hX, S2⟩ := h
  exact ⟨p, K, h1, X, hX, (Sp.pick [_, _, _, _, _, _, _, _, _] [0, 1, 2, 3, 4, 5, 6] (by decide) (S2))⟩
theorem textsR_at {x : List Bs} {a : Option Addr} {n cap : Nat} (S : Sp w0 F0 w (textsR (.slice a n cap) x :: L)) : n = x.length ∧ (∀ y, x[0]? = some y → ∃ b off, a = some ⟨b, off, none⟩ ∧ w.cell? ⟨b, off, none⟩ = some (.string ⟨y.toArray⟩)) := by
  have T := S.tx
  obtain ⟨a2, c2, h⟩ := T.form
  simp only [Value.slice.injEq] at h
  obtain ⟨rfl, rfl, rfl⟩ := h
  refine ⟨rfl, fun y hy => ?_⟩
  obtain ⟨hl, rfl⟩ := List.getElem?_eq_some_iff.1 hy
  obtain ⟨b, off, h1, h2⟩ := T.at hl
  exact ⟨b, off, h1, h2⟩
theorem QEv.in.boxT {q : QEv} (h : q.in K) (A : SvAt w0 L p s K w) : BxsAt w q.2.2 q.1.rcs := by
  obtain ⟨X, hX, S⟩ := A
  have S2 := (Sp.pick [_, _, _, _, _, _] [5] (by decide) (S))
  rcases h.2 with ⟨h1, h2⟩ | h
  · rw [h1, h2]
    exact ⟨none, 0, rfl, .inl rfl⟩
  · exact S2.romBxs h
theorem SvAt.ints {l : List Int} (A : SvAt w0 (ints21 v l :: L) p s K w) : Ints21 w v l := by
  obtain ⟨X, hX, S⟩ := A
  exact ((Sp.pick [_, _, _, _, _, _, _] [6] (by decide) (S))).ints21
theorem lit22 (c : Int) (w : World) : Ints21 (w.alloc (.cells #[.int .i64 c, .int .i64 250] 3)) (.slice (some ⟨w.heap.size, 0, none⟩) 2 2) [c, 250] := by
  have S := (Sp.nil w []).box #[.int .i64 c, .int .i64 250] 3
  refine ⟨_, 2, rfl, .inr ⟨w.heap.size, 0, rfl, fun i hi => ?_⟩⟩
  have hi2 : i < 2 := hi
  rw [S.cell]
  obtain rfl | rfl : i = 0 ∨ i = 1 := by omega
  · rfl
  · rfl
set_option maxRecDepth 100000 in
set_option maxHeartbeats 16000000 in
theorem serverTakes_walk (v : Value) (l : List Bs) (ev : Int) (w : World) (E : Env w) (T : TextsAt w v l) (hsz : ∀ x ∈ l, x.length ≤ 1048576) (hev : -9223372036854775808 ≤ ev ∧ ev ≤ 9223372036854775807) : Calls Tryz.prog 4 #[v, .int .i64 ev] w fun e w2 => e = .returned (.bool true) ∧ Ext [] w w2 := by
  have HE := Lib.hid E
  have HT := Lib.hid T
  have HEV := Lib.hid hev
  have HSZ := Lib.hid hsz
  have HS0 := Lib.hid (Sp.nil w [])
  have HFR : ∃ a c, v = .slice a l.length c ∧ (l.length : Int) ≤ 9223372036854775807 := by
    obtain ⟨a, c, h1, ⟨h2, h3⟩, _⟩ := T.1
    exact ⟨a, c, h1, by unfold maxLen at h3; omega⟩
  obtain ⟨va, vc, rfl, hln⟩ := HFR
  clear E T hev hsz
  go_enter Tryz.func4, Tryz.ntmps4
  go_wp2_with fail
  refine (awake21S HS0.out HE.out).mono ?_
  rintro e w1 ⟨rfl, S1⟩
  have HS1 := Lib.hid S1
  clear S1 HS0
  go_wp2_with fail
  refine (small21S HS1.out).mono ?_
  rintro e w3 ⟨b1, b2, rfl, S3⟩
  have HS3 := Lib.hid (S3.box #[.string ⟨hostS.toArray⟩, .int .i64 100, .slice (some ⟨b1, 0, none⟩) 3 3, .slice (some ⟨b2, 0, none⟩) 1 1] 31)
  clear S3 HS1
  go_upto_region 4 with (fail)
  generalize w3.alloc _ = w4 at *
  generalize w3.heap.size = q at *
  have c4 := HS3.out.cell
  have f4 := HS3.out.free
  have HS4 := Lib.hid (HS3.out.set (o := 1) (.int .i64 5000))
  simp only [List.setIfInBounds_toArray, List.set_cons_zero, List.set_cons_succ] at HS4
  go_upto_region 5 with (fail)
  generalize w4.setCell _ _ = w5 at *
  clear HS3 c4 f4
  have c5 := HS4.out.cell
  go_wp2_with fail
  refine (newTakesS HS4.out HE.out).mono ?_
  rintro e w6 ⟨p, K, rfl, A6⟩
  have HA6 := Lib.hid A6
  clear A6 HS4 c5
  by_cases hlen : 60 < l.length
  · have hlen' : (60 : Int) < l.length := by omega
    go_wp2
    go_ret
    exact ⟨rfl, HA6.out.sp.ext⟩
  have hlen' : (l.length : Int) ≤ 60 := by omega
  have hle : ((l.length : Int) > 60) = False := by simp; omega
  go_wp2_with fail
  go_loopw [40] (fun vi wr => ∃ k : Nat, vi = .int .i64 k ∧ k ≤ l.length ∧ (∀ x ∈ l.take k, x.length ≤ 999 ∧ noCr x = true) ∧ SvAt w [boxR q #[.string ⟨hostS.toArray⟩, .int .i64 5000, .slice (some ⟨b1, 0, none⟩) 3 3, .slice (some ⟨b2, 0, none⟩) 1 1] 31] p (svNew cfT) K wr) (fun vi _ => l.length - (intOf vi).toNat)
  case atStart => exact ⟨0, rfl, Nat.zero_le _, by simp, HA6.out⟩
  case round =>
    clear HA6
    obtain ⟨k, rfl, hk, hall, A⟩ := hrel
    have HALL := Lib.hid hall
    have HA := Lib.hid A
    clear hall A
    by_cases hlt : k < l.length
    · have hlt' : (k : Int) < l.length := by omega
      obtain ⟨tb, toff, rfl, ckw⟩ := HT.out.1.at hlt
      have ck := HA.out.sp.ext.cell ckw (by simp)
      have HX : Hid (l[k].length ≤ 1048576) := HSZ.out _ (List.getElem_mem hlt)
      have HTK : Hid (l.take (k + 1) = l.take k ++ [l[k]]) := List.take_succ_eq_append_getElem hlt
      generalize l[k] = x at *
      have HCW := Lib.hid ckw
      clear ckw
      have hxi : (x.length : Int) ≤ 1048576 := by have := HX.out; omega
      have hadd := add_str x crlf (by have := HX.out; unfold maxLen; simp; omega)
      obtain ⟨X, hX, S⟩ := HA.out
      have HOX := Lib.hid hX
      have HSPL := Lib.hid (r08SplitS (x ++ crlf) S (by have := HX.out; simp; omega))
      have HONE := Lib.hid (fun (ls : List Bs) (r : Bs) (h : crR (x ++ crlf) = (ls, r)) => tk_one h)
      have HLZ : Hid (2 * (crR (x ++ crlf)).1.length ≤ x.length + 2) := by
        have h := crR_len (x ++ crlf).length (x ++ crlf) (Nat.le_refl _)
        rw [List.length_append] at h
        exact h
      generalize x ++ crlf = z at *
      generalize crR z = cr at *
      obtain ⟨ls, rs⟩ := cr
      clear S hX
      go_wp2_with fail
      refine HSPL.out.mono ?_
      rintro e w7 ⟨sv, rfl, S7⟩
      try dsimp only at S7
      obtain ⟨sa, sc, hsf⟩ := S7.tx.form
      subst hsf
      have hat := (textsR_at S7).2
      have HS7 := Lib.hid S7
      obtain ⟨BL, hBL⟩ : ∃ BL, BL = textsR (.slice sa ls.length sc) ls :: svL p (svNew cfT) X K [boxR q #[.string ⟨hostS.toArray⟩, .int .i64 5000, .slice (some ⟨b1, 0, none⟩) 3 3, .slice (some ⟨b2, 0, none⟩) 1 1] 31] := ⟨_, rfl⟩
      have HBK : Hid (∀ W, Sp w [] W BL → SvAt w [boxR q #[.string ⟨hostS.toArray⟩, .int .i64 5000, .slice (some ⟨b1, 0, none⟩) 3 3, .slice (some ⟨b2, 0, none⟩) 1 1] 31] p (svNew cfT) K W) := fun W S => by
        rw [hBL] at S
        exact ⟨X, HOX.out, S.drop⟩
      rw [← hBL] at HS7
      have ck7 := HS7.out.ext.cell HCW.out (by simp)
      clear S7 hBL ck HSPL HOX HA
      have hlsi : (ls.length : Int) ≤ 2000000 := by have h : 2 * ls.length ≤ x.length + 2 := HLZ.out; have := HX.out; omega
      by_cases h1 : ls.length = 1
      rotate_left 1
      · have h1a : ((ls.length : Int) != 1) = true := by simp; omega
        clear hat h1
        go_upto_region 12 with (fail)
        refine wp_region_text (S := fun wx => Sp w [] wx (BL)) (by kernel_rfl) (by kernel_rfl) (HS7.out).drew ?_
        repeat
          refine Exists.intro ?_ (And.intro (fun wS hS K hK => ?_) (And.intro ?_ ?_))
          rotate_left 1
          · have hS1 := hS
            first
              | (refine if_unwanted rfl ?_; simp only [Act.put, List.setIfInBounds_toArray, List.set_cons_zero, List.set_cons_succ]; exact hK.out _ hS1)
              | (refine if_wanted rfl ?_; go_simp; exact hK.out _ hS1)
          · rfl
        intro wE hE
        have HSE := Lib.hid hE
        clear hE
        go_wp2
        go_ret
        exact ⟨rfl, HSE.out.ext⟩
      obtain ⟨y, rfl⟩ : ∃ y, ls = [y] := by
        match ls, h1 with
        | [y], _ => exact ⟨y, rfl⟩
      obtain ⟨yb, yo, rfl, cy⟩ := hat y rfl
      have HONE2 := Lib.hid (fun (h : y = x) => HONE.out [y] rs rfl rfl (by rw [h]; rfl))
      clear hat h1 hlsi HONE
      by_cases h2 : y = x
      rotate_left 1
      · have h2a : (y == x) = false := by simpa using h2
        have h2b : (y != x) = true := by simpa using h2
        clear h2
        go_upto_region 12 with (fail)
        refine wp_region_text (S := fun wx => Sp w [] wx (BL) ∧ (wx.cell? ⟨yb, yo, none⟩ = some (.string ⟨y.toArray⟩)) ∧ (wx.cell? ⟨tb, toff + k, none⟩ = some (.string ⟨x.toArray⟩))) (by kernel_rfl) (by kernel_rfl) ⟨(HS7.out).drew, cy, ck7⟩ ?_
        repeat
          refine Exists.intro ?_ (And.intro (fun wS hS K hK => ?_) (And.intro ?_ ?_))
          rotate_left 1
          · obtain ⟨hS1, hS2, hS3⟩ := hS
            first
              | (refine if_unwanted rfl ?_; simp only [Act.put, List.setIfInBounds_toArray, List.set_cons_zero, List.set_cons_succ]; exact hK.out _ ⟨hS1, hS2, hS3⟩)
              | (refine if_wanted rfl ?_; go_simp; exact hK.out _ ⟨hS1, hS2, hS3⟩)
          · rfl
        intro wE hE
        have HSE := Lib.hid hE.1
        clear hE
        go_wp2
        go_ret
        exact ⟨rfl, HSE.out.ext⟩
      subst h2
      have HCR := Lib.hid (HONE2.out rfl)
      clear HONE2
      by_cases h3 : rs = []
      rotate_left 1
      · have h3a : (rs == []) = false := by simpa using h3
        have h3b : (rs != []) = true := by simpa using h3
        have h3c : rs.isEmpty = false := by simpa using h3
        go_upto_region 12 with (fail)
        refine wp_region_text (S := fun wx => Sp w [] wx (BL) ∧ (wx.cell? ⟨yb, yo, none⟩ = some (.string ⟨y.toArray⟩)) ∧ (wx.cell? ⟨tb, toff + k, none⟩ = some (.string ⟨y.toArray⟩))) (by kernel_rfl) (by kernel_rfl) ⟨(HS7.out).drew, cy, ck7⟩ ?_
        repeat
          refine Exists.intro ?_ (And.intro (fun wS hS K hK => ?_) (And.intro ?_ ?_))
          rotate_left 1
          · obtain ⟨hS1, hS2, hS3⟩ := hS
            first
              | (refine if_unwanted rfl ?_; simp only [Act.put, List.setIfInBounds_toArray, List.set_cons_zero, List.set_cons_succ]; exact hK.out _ ⟨hS1, hS2, hS3⟩)
              | (refine if_wanted rfl ?_; go_simp; exact hK.out _ ⟨hS1, hS2, hS3⟩)
          · rfl
        intro wE hE
        have HSE := Lib.hid hE.1
        clear hE
        go_wp2
        go_ret
        exact ⟨rfl, HSE.out.ext⟩
      subst h3
      by_cases h4 : 999 < y.length
      · have h4' : (999 : Int) < y.length := by omega
        go_upto_region 12 with (fail)
        refine wp_region_text (S := fun wx => Sp w [] wx (BL) ∧ (wx.cell? ⟨yb, yo, none⟩ = some (.string ⟨y.toArray⟩)) ∧ (wx.cell? ⟨tb, toff + k, none⟩ = some (.string ⟨y.toArray⟩))) (by kernel_rfl) (by kernel_rfl) ⟨(HS7.out).drew, cy, ck7⟩ ?_
        repeat
          refine Exists.intro ?_ (And.intro (fun wS hS K hK => ?_) (And.intro ?_ ?_))
          rotate_left 1
          · obtain ⟨hS1, hS2, hS3⟩ := hS
            first
              | (refine if_unwanted rfl ?_; simp only [Act.put, List.setIfInBounds_toArray, List.set_cons_zero, List.set_cons_succ]; exact hK.out _ ⟨hS1, hS2, hS3⟩)
              | (refine if_wanted rfl ?_; go_simp; exact hK.out _ ⟨hS1, hS2, hS3⟩)
          · rfl
        intro wE hE
        have HSE := Lib.hid hE.1
        clear hE
        go_wp2
        go_ret
        exact ⟨rfl, HSE.out.ext⟩
      · have h4' : (y.length : Int) ≤ 999 := by omega
        have HY : Hid (y.length ≤ 999) := by unfold Hid; omega
        go_upto_region 12 with (fail)
        refine wp_region_text (S := fun wx => Sp w [] wx (BL) ∧ (wx.cell? ⟨yb, yo, none⟩ = some (.string ⟨y.toArray⟩)) ∧ (wx.cell? ⟨tb, toff + k, none⟩ = some (.string ⟨y.toArray⟩))) (by kernel_rfl) (by kernel_rfl) ⟨(HS7.out).drew, cy, ck7⟩ ?_
        repeat
          refine Exists.intro ?_ (And.intro (fun wS hS K hK => ?_) (And.intro ?_ ?_))
          rotate_left 1
          · obtain ⟨hS1, hS2, hS3⟩ := hS
            first
              | (refine if_unwanted rfl ?_; simp only [Act.put, List.setIfInBounds_toArray, List.set_cons_zero, List.set_cons_succ]; exact hK.out _ ⟨hS1, hS2, hS3⟩)
              | (refine if_wanted rfl ?_; go_simp; exact hK.out _ ⟨hS1, hS2, hS3⟩)
          · rfl
        intro wE hE
        have HSE := Lib.hid hE.1
        clear hE
        go_wp2_with fail
        go_roundw
        case rel => exact ⟨k + 1, by go_num, by omega, fun z hz => by
          rw [HTK.out] at hz
          rcases List.mem_append.1 hz with hz | hz
          · exact HALL.out z hz
          · rw [List.mem_singleton.1 hz]; exact ⟨HY.out, HCR.out⟩, HBK.out _ HSE.out⟩
        case measure => simp [intOf]; omega
    · obtain rfl : k = l.length := by omega
      rw [List.take_length] at HALL
      obtain ⟨hj1, hj2⟩ := join_bound l HALL.out
      have HJ1 : Hid ((lnJoin l).length ≤ 60060) := by unfold Hid; omega
      have HJ2 : Hid ((lnStuff l).length ≤ 60123) := by unfold Hid; omega
      have HLI : Hid (∀ x ∈ l, x.length ≤ 1000000) := fun x hx => by have := (HALL.out x hx).1; omega
      have HOFF := Lib.hid (tk_offer l HALL.out)
      have HJN := Lib.hid (fun (W : World) (hx : Ext [] w W) => r08Join_any (w := W) l (HT.out.1.ext hx) (by have := HJ1.out; omega))
      have HSF := Lib.hid (fun (W : World) (hx : Ext [] w W) => r08StuffT (w := W) l (by omega) HLI.out (by have := HJ2.out; omega) (HT.out.1.ext hx))
      clear hj1 hj2 hlt
      have hbi : ((lnJoin l).length : Int) ≤ 60060 := by have := HJ1.out; omega
      go_wp2_with fail
      refine (HJN.out _ HA.out.sp.ext).mono ?_
      rintro e w7 ⟨rfl, rfl⟩
      go_wp2_with fail
      refine (HSF.out _ HA.out.sp.ext).mono ?_
      rintro e w8 ⟨rfl, hx8⟩
      have HA8 := Lib.hid (HA.out.ext0 hx8)
      obtain ⟨z, hz⟩ : ∃ z, z = tkHdrL ++ lnStuff l := ⟨_, rfl⟩
      obtain ⟨z2, hz2⟩ : ∃ z2, z2 = z ++ tkN := ⟨_, rfl⟩
      have hzl : z.length ≤ 60221 := by rw [hz, List.length_append, tkHdr_len]; have := HJ2.out; omega
      have hadd1 : ∀ W, (Op.stringOp .add ⟨tkHdrL.toArray⟩ ⟨(lnStuff l).toArray⟩).run Tryz.prog W = .ok (.string ⟨z.toArray⟩) W := fun W => by
        rw [hz]
        exact add_str _ _ (by rw [tkHdr_len]; have := HJ2.out; unfold maxLen; omega) W
      have hadd2 : ∀ W, (Op.stringOp .add ⟨z.toArray⟩ ⟨([78, 79, 79, 80, 13, 10] : Bs).toArray⟩).run Tryz.prog W = .ok (.string ⟨z2.toArray⟩) W := fun W => by
        rw [hz2]
        exact add_str z [78, 79, 79, 80, 13, 10] (by unfold maxLen; simp; omega) W
      have HZ2 : Hid ((svNew cfT).add z2 = tkS (lnStuff l ++ tkN) 0) := by
        unfold Hid
        rw [hz2, hz, tkHdr_lit, List.append_assoc]
        exact tkS_add _
      have hcm0 : (svNew cfT).came = [] := by kernel_rfl
      have HADD := Lib.hid (svAddS z2 (by rw [hcm0, hz2, List.length_append]; show 0 + (_ + 6) ≤ _; omega) (sane_new cfT_fit).phase HA8.out)
      have HCM : Hid (∀ n, (tkS (lnStuff l ++ tkN) n).came.length ≤ 1000000000) := fun n => by
        have h := tkS_came (lnStuff l ++ tkN) n
        rw [← tkHdr_lit, tkHdr_len, List.length_append] at h
        have h2 := HJ2.out
        have h3 : tkN.length = 6 := rfl
        omega
      have HSN := Lib.hid (tkS_sane (lnStuff l ++ tkN))
      have HNX := Lib.hid (tkS_next (lnStuff l ++ tkN))
      have HST : Hid (∀ n, (tkS (lnStuff l ++ tkN) n).next.2 = tkS (lnStuff l ++ tkN) (n + 1)) := fun _ => rfl
      rw [HZ2.out] at HADD
      generalize tkS (lnStuff l ++ tkN) = ts at *
      clear hz hz2 hzl hcm0 hx8 HA HJN HSF HJ2 HLI HZ2
      unfold tkHdrL at hadd1
      generalize lnStuff l = stf at *
      go_wp2_with fail
      refine HADD.out.mono ?_
      rintro e w9 ⟨rfl, A9⟩
      have HA9 := Lib.hid A9
      clear A9 HADD HA8
      go_upto_region 18 with (fail)
      go_loopw [12] (fun vi wr => ∃ (k : Nat) (K' : List Rom), vi = .int .i64 k ∧ k ≤ 7 ∧ SvAt w [boxR q #[.string ⟨hostS.toArray⟩, .int .i64 5000, .slice (some ⟨b1, 0, none⟩) 3 3, .slice (some ⟨b2, 0, none⟩) 1 1] 31] p (ts k) K' wr) (fun vi _ => 7 - (intOf vi).toNat)
      case atStart => exact ⟨0, K, rfl, Nat.zero_le _, HA9.out⟩
      case round =>
        clear HA9
        obtain ⟨k, K', rfl, hk7, A⟩ := hrel
        have HA := Lib.hid A
        clear A
        have hki : (k : Int) ≤ 7 := by omega
        by_cases hlt : k < 7
        · have hlt' : (k : Int) < 7 := by omega
          go_wp2_with fail
          refine (svNextS (HSN.out k) (HCM.out k) HE.out HA.out).mono ?_
          rintro e w10 hnx
          obtain ⟨ev0, hev0, hek, hec⟩ := HNX.out k hlt
          obtain ⟨K7, hk7', A7, ⟨hn0, rfl⟩ | ⟨x, xa, xn, xc, ya, yn, yc, hn0, hix, rfl⟩⟩ := hnx.cases
          · rw [hev0] at hn0
            cases hn0
          · rw [hev0] at hn0
            cases hn0
            rw [HST.out] at A7
            have HA8 := Lib.hid (A7.box #[.int .i64 ev0.kind, .int .i64 ev0.code, .slice xa xn xc, .string ⟨ev0.text.toArray⟩, .string ⟨ev0.frm.1.toArray⟩, .string ⟨ev0.frm.2.toArray⟩, .slice ya yn yc, .string ⟨ev0.body.toArray⟩] 39)
            rw [hek] at HA8
            clear A7 hnx hk7' hix HA hev0
            unfold evAgg
            go_upto_region 21 with (fail)
            generalize w10.alloc _ = w11 at *
            generalize w10.heap.size = g8 at *
            obtain ⟨cg, fg, lg⟩ := HA8.out.boxCell
            go_wp2_with fail
            go_roundw
            case rel => exact ⟨k + 1, K7, by go_num, by omega, HA8.out.drop⟩
            case measure => simp [intOf]; omega
        · obtain rfl : k = 7 := by omega
          go_wp2_with fail
          refine (svNextS (HSN.out 7) (HCM.out 7) HE.out HA.out).mono ?_
          rintro e w10 hnx
          obtain ⟨K7, hk7', A7, ⟨hn0, rfl⟩ | ⟨x, xa, xn, xc, ya, yn, yc, hn0, hix, rfl⟩⟩ := hnx.cases
          · rcases HOFF.out with ⟨_, e0, h1, _⟩ | ⟨_, h1⟩
            · rw [h1] at hn0; cases hn0
            · rw [h1] at hn0; cases hn0
          have HA8 := Lib.hid (A7.box #[.int .i64 x.kind, .int .i64 x.code, .slice xa xn xc, .string ⟨x.text.toArray⟩, .string ⟨x.frm.1.toArray⟩, .string ⟨x.frm.2.toArray⟩, .slice ya yn yc, .string ⟨x.body.toArray⟩] 39)
          have HIX := Lib.hid hix
          clear hnx hk7' hix HA A7
          unfold evAgg
          go_upto_region 24 with (fail)
          generalize w10.alloc _ = w11 at *
          generalize w10.heap.size = g8 at *
          obtain ⟨cg, fg, lg⟩ := HA8.out.boxCell
          have cq : ∀ o, w11.cell? ⟨q, o, none⟩ = (#[.string ⟨hostS.toArray⟩, .int .i64 5000, .slice (some ⟨b1, 0, none⟩) 3 3, .slice (some ⟨b2, 0, none⟩) 1 1] : Array Value)[o]? := by
            obtain ⟨X, hX, S⟩ := HA8.out
            exact ((Sp.pick [_, _, _, _, _, _, _, _] [7] (by decide) (S))).cell
          rcases HOFF.out with ⟨hbig, e0, h1, hk0, hc0⟩ | ⟨hsm, h1⟩
          · rw [h1] at hn0
            cases hn0
            rw [hk0, hc0] at cg
            have hbig' : (5000 : Int) < (lnJoin l).length := by omega
            clear hbig h1 hk0 hc0
            go_wp2
            go_ret
            exact ⟨rfl, HA8.out.sp.ext⟩
          · have hsm' : ((lnJoin l).length : Int) ≤ 5000 := by omega
            rw [h1] at hn0
            cases hn0
            have HSNW : Hid (((tkW l).sv tkN []).Sane) := by
              have h := sane_next (HSN.out 7)
              rw [h1] at h
              exact h
            rw [h1] at HA8
            have HBX := HIX.out.boxT HA8.out
            dsimp only at HBX cg HA8
            obtain ⟨_, _, hyf⟩ := HBX.form
            simp only [Value.slice.injEq] at hyf
            obtain ⟨rfl, rfl, rfl⟩ := hyf
            obtain ⟨yb, yo, rfl, y0, y1⟩ := HBX.at (i := 1) (by decide)
            have HWT := Lib.hid (tk_waits l)
            have HNW := Lib.hid (fun (W : World) (L' : List Res) (K' : List Rom) (A' : SvAt w L' p ((tkW l).sv tkN []) K' W) => svNextS HSNW.out (by show tkN.length ≤ _; decide) HE.out A')
            have HVD := Lib.hid (fun (W : World) (L' : List Res) (K' : List Rom) (A' : SvAt w L' p ((tkW l).sv tkN []) K' W) => svVerdictS ev HEV.out HSNW.out.good HSNW.out.phase A')
            have HSV : Hid ((((tkW l).sv tkN []).verdict ev).Sane) := sane_verdict HSNW.out rfl ev
            have HCV : Hid ((((tkW l).sv tkN []).verdict ev).came.length ≤ 1000000000) := by
              have h := verdict_core ev (tkW l) tkN []
              unfold Hid
              rw [h]
              show tkN.length ≤ _
              decide
            have HCO := Lib.hid (tk_codes l ev)
            have HCD := Lib.hid (fun (W : World) (L' : List Res) (K' : List Rom) (A' : SvAt w L' p (((tkW l).sv tkN []).verdict ev) K' W) => codes21S HSV.out HCV.out HE.out A')
            rw [HCO.out] at HCD
            generalize ((tkW l).sv tkN []).verdict ev = sv at *
            generalize (tkW l).sv tkN [] = sw at *
            clear h1 HBX HIX HSN HCM HNX HST HOFF hsm HCO HSV HCV HSNW hadd1 hadd2
            unfold annB xyB sdB at *
            generalize lnJoin l = bd at *
            have cg2 : ∀ o, w11.cell? ⟨g8, o, none⟩ = (#[.int .i64 1, .int .i64 0, .slice xa xn xc, .string ⟨cdS.toArray⟩, .string ⟨#[115]⟩, .string ⟨#[100]⟩, .slice (some ⟨yb, yo, none⟩) 2 yc, .string ⟨bd.toArray⟩] : Array Value)[o]? := cg
            have y2 : w11.cell? ⟨yb, yo + 2, none⟩ = some (.string ⟨#[120]⟩) := y0
            have y3 : w11.cell? ⟨yb, yo + 2 + 1, none⟩ = some (.string ⟨#[121]⟩) := y1
            have y4 : w11.cell? ⟨yb, yo + 3, none⟩ = some (.string ⟨#[121]⟩) := y1
            clear cg y0 y1
            go_wp2_with fail
            refine (HNW.out _ _ _ HA8.out).mono ?_
            rintro e w12 hnx
            obtain ⟨K9, hk9, A9, ⟨hn9, rfl⟩ | ⟨x, xa2, xn2, xc2, ya2, yn2, yc2, hn9, hix9, rfl⟩⟩ := hnx.cases
            rotate_left 1
            · rw [HWT.out] at hn9
              cases hn9
            rw [HWT.out] at A9
            have HA9 := Lib.hid (A9.box zeroEv 39)
            clear A9 hn9 hnx hk9 HA8 HNW cg2 y2 y3 y4 cq fg lg
            unfold zeroEv at *
            go_upto_region 31 with (fail)
            generalize w12.alloc _ = w13 at *
            go_wp2_with fail
            refine (HVD.out _ _ _ HA9.out).mono ?_
            rintro e w14 ⟨rfl, K10, _, A10⟩
            have HA10 := Lib.hid A10
            clear A10 HVD HA9 HWT
            have HVC : Hid (verdictCode ev = if ev = 0 then 250 else if ev = 1 ∨ ev = 2 ∨ ev = 5 then 554 else 452) := rfl
            have hor : (ev = 0 ∧ verdictCode ev = 250) ∨ (ev = 1 ∧ verdictCode ev = 554) ∨ (ev = 2 ∧ verdictCode ev = 554) ∨ (ev = 5 ∧ verdictCode ev = 554) ∨ ((ev ≠ 0 ∧ ev ≠ 1 ∧ ev ≠ 2 ∧ ev ≠ 5) ∧ verdictCode ev = 452) := by
              rw [HVC.out]
              by_cases e0 : ev = 0
              · exact .inl ⟨e0, if_pos e0⟩
              by_cases e1 : ev = 1
              · exact .inr (.inl ⟨e1, by rw [if_neg e0, if_pos (.inl e1)]⟩)
              by_cases e2 : ev = 2
              · exact .inr (.inr (.inl ⟨e2, by rw [if_neg e0, if_pos (.inr (.inl e2))]⟩))
              by_cases e5 : ev = 5
              · exact .inr (.inr (.inr (.inl ⟨e5, by rw [if_neg e0, if_pos (.inr (.inr e5))]⟩)))
              · exact .inr (.inr (.inr (.inr ⟨⟨e0, e1, e2, e5⟩, by rw [if_neg e0, if_neg (by rintro (h | h | h) <;> contradiction)]⟩)))
            clear HVC
            generalize verdictCode ev = vcd at *
            rcases hor with ⟨rfl, rfl⟩ | ⟨rfl, rfl⟩ | ⟨rfl, rfl⟩ | ⟨rfl, rfl⟩ | ⟨⟨n0, n1, n2, n5⟩, rfl⟩
            all_goals
              try (have m0 : (ev == 0) = false := by simpa using n0)
              try (have m1 : (ev == 1) = false := by simpa using n1)
              try (have m2 : (ev == 2) = false := by simpa using n2)
              try (have m5 : (ev == 5) = false := by simpa using n5)
              try clear n0 n1 n2 n5
              go_wp2_with fail
              refine (HCD.out _ _ _ HA10.out).mono ?_
              rintro e w15 ⟨vr, K15, rfl, _, A15⟩
              have HIN := Lib.hid A15.ints
              have HX15 := Lib.hid A15.sp.ext
              clear A15 HCD HA10
              obtain ⟨ra, rc, rfl, _⟩ := HIN.out
              go_wp2_with fail
              refine (equal21_any _ _ (by decide) (by decide) (HIN.out.ext ((Ext.refl [] w15).alloc _)) (lit22 _ w15)).mono ?_
              rintro e w16 ⟨rfl, hx16⟩
              go_wp2
              go_ret
              exact ⟨rfl, HX15.out.trans (((Ext.refl [] w15).alloc _).trans hx16 (by simp)) (by simp)⟩
end
end Go.Proofs.YtapenolbbofjkaaGreatDoor
