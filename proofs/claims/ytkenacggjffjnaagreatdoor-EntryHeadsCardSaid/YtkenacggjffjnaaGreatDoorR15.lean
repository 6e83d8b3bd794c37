/- The document's answer for layer 15: bodies filled up, mailboxes, entries that may be, numbers, names. Conditions: the lengths fit. -/
import Derived.Test.YtkenacggjffjnaaGreatDoorR12c
import Derived.Test.YtkenacggjffjnaaGreatDoorR10n
import Derived.Test.YtkenacggjffjnaaGreatDoorR09
import Derived.Test.YtkenacggjffjnaaGreatDoorEnO
import Derived.Test.YtkenacggjffjnaaGreatDoorEnN
set_option linter.unusedSimpArgs false
set_option linter.unusedVariables false
set_option linter.unnecessarySimpa false
namespace Go.Proofs.YtkenacggjffjnaaGreatDoor
open Go.RowKit Go.Maps

section
variable {w0 w : World} {L : List Res} {F0 : List Nat} {b : Nat} {v : Value}
set_option maxRecDepth 100000 in
set_option maxHeartbeats 1000000 in
theorem r12TxtS (s : Bs) (hs : s.length ≤ 1000000) (S : Sp w0 F0 w L) : Calls Tryz.prog 25 #[.string ⟨s.toArray⟩] w fun e w2 => e = .returned (.string ⟨(textB s).toArray⟩) ∧ Sp w0 F0 w2 L := by
  have HS := Lib.hid S
  have hn : s.length < 18446744073709551616 := by omega
  have hw : IntKind.u64.wrap (s.length : Int) = s.length := by rw [IntKind.wrap_u64]; omega
  have HV : Hid (textB s = numB s.length ++ s) := rfl
  have hl := num_le9 s.length
  have hadd := add_str (numB s.length) s (by unfold maxLen; omega)
  generalize hnb : numB s.length = nb at *
  have HNB := Lib.hid hnb
  have HNM := Lib.hid (fun (W : World) (S' : Sp w0 F0 W L) => r12NumS s.length S' hn)
  rw [hnb] at HNM
  clear S hn hl hnb
  go_enter Tryz.func25, Tryz.ntmps25
  go_wp2_with (go_at_call 37; refine (HNM.out _ HS.out).mono ?_; rintro e w2 ⟨rfl, S⟩; have HS2 := Lib.hid S; clear S)
  all_goals
    go_ret
    exact ⟨by rw [HV.out]; rfl, HS2.out⟩
theorem bucket_quad (n m : Nat) (k : Nat) (hk : m = 256 * 4 ^ k) (hn : n ≤ 16384) (hlt : ∀ j, j < k → 256 * 4 ^ j < n) (h : n ≤ m) : bucket n = m := by
  unfold bucket
  rcases (by omega : k = 0 ∨ k = 1 ∨ k = 2 ∨ k = 3 ∨ 4 ≤ k) with rfl | rfl | rfl | rfl | h4
  · rw [if_pos (by omega)]; omega
  · have := hlt 0 (by omega); rw [if_neg (by omega), if_pos (by omega)]; omega
  · have := hlt 1 (by omega); rw [if_neg (by omega), if_neg (by omega), if_pos (by omega)]; omega
  · have := hlt 2 (by omega); rw [if_neg (by omega), if_neg (by omega), if_neg (by omega)]; omega
  · have := hlt 3 (by omega); omega
set_option maxRecDepth 100000 in
set_option maxHeartbeats 2000000 in
theorem r15FillS (body : Bs) (S : Sp w0 F0 w L) : Calls Tryz.prog 22 #[.string ⟨body.toArray⟩] w fun e w2 => e = .returned (.tuple #[.string ⟨(enFill body).1.toArray⟩, .int .i64 (enFill body).2]) ∧ Sp w0 F0 w2 L := by
  have HS := Lib.hid S
  have HFL : Hid (enFill body = if body.length ≤ 16000 then (fillB body, 0) else ([], 5)) := rfl
  have HFB : Hid (fillB body = textB body ++ zeros (bucket (textB body).length - (textB body).length)) := rfl
  clear S
  by_cases h : body.length ≤ 16000
  · have HW : Hid (enFill body = (fillB body, 0)) := by unfold Hid; rw [HFL.out, if_pos h]
    have h' : (body.length : Int) ≤ 16000 := by omega
    have HL : Hid (body.length ≤ 1000000) := by unfold Hid; omega
    have HTL := Lib.hid (text_small h)
    have hTP := text_pos body
    clear HFL h
    go_enter Tryz.func22, Tryz.ntmps22
    go_wp2_with fail
    refine (r12TxtS body HL.out HS.out).mono ?_
    rintro e w2 ⟨rfl, S⟩
    have HS2 := Lib.hid S
    clear S HS
    generalize textB body = t at *
    have HQ := Lib.hid (bucket_quad t.length)
    have htl : (t.length : Int) ≤ 16003 := by have := HTL.out; omega
    go_wp2_with fail
    go_loopw [5] (fun z wr => ∃ m k : Nat, z = .int .i64 m ∧ m = 256 * 4 ^ k ∧ k ≤ 3 ∧ (∀ j, j < k → 256 * 4 ^ j < t.length) ∧ wr = w2) (fun z _ => 20000 - (intOf z).toNat)
    case atStart => exact ⟨256, 0, rfl, rfl, by omega, by omega, by trivial⟩
    case round =>
      obtain ⟨m, k, rfl, hm, hk, hlt, rfl⟩ := hrel
      have HLT := Lib.hid hlt
      have HM := Lib.hid hm
      have hmb : m ≤ 16384 := by
        rcases (by omega : k = 0 ∨ k = 1 ∨ k = 2 ∨ k = 3) with rfl | rfl | rfl | rfl <;> omega
      have hm1 : 1 ≤ m := by
        rcases (by omega : k = 0 ∨ k = 1 ∨ k = 2 ∨ k = 3) with rfl | rfl | rfl | rfl <;> omega
      clear hlt hm
      by_cases hgo : m < t.length
      · have hgo' : (m : Int) < t.length := by omega
        have HK : Hid (k + 1 ≤ 3) := by
          have h1 := HM.out
          have h2 := HTL.out
          unfold Hid
          rcases (by omega : k = 0 ∨ k = 1 ∨ k = 2 ∨ k = 3) with rfl | rfl | rfl | rfl <;> omega
        have HA2 : Hid (∀ j, j < k + 1 → 256 * 4 ^ j < t.length) := fun j hj => by
          by_cases e : j = k
          · rw [e, ← HM.out]; exact hgo
          · exact HLT.out j (by omega)
        go_wp2_with fail
        go_roundw
        case rel => exact ⟨m * 4, k + 1, by go_num, by rw [HM.out, Nat.pow_succ]; omega, HK.out, HA2.out, by trivial⟩
        case measure => simp [intOf]; omega
      · have hgo' : (t.length : Int) ≤ m := by omega
        have HB : Hid (bucket t.length = m) := HQ.out m k HM.out (by have := HTL.out; omega) HLT.out (by omega)
        obtain ⟨n, hn⟩ : ∃ n, n = m - t.length := ⟨_, rfl⟩
        have hsub : IntKind.i64.wrap ((m : Int) - t.length) = (n : Int) := by rw [IntWalk.i64_in _ (by omega)]; omega
        have HN : Hid (n ≤ 16384) := by unfold Hid; omega
        have HE : Hid (fillB body = t ++ zeros n) := by unfold Hid; rw [HFB.out, HB.out, hn]
        have hmk : ∀ W : World, (Instr.makeSlice 44 (.int .i64 n) (.int .i64 n)).run Tryz.prog W = .ok (.slice (some ⟨W.heap.size, 0, none⟩) n n) (W.alloc (.cells (rowB (zeros n)) 5)) := fun W => makeZ n (by have := HN.out; omega) W
        have hcv : ∀ W : World, (convert 44 9 (.slice (some ⟨W.heap.size, 0, none⟩) n n)).run Tryz.prog (W.alloc (.cells (rowB (zeros n)) 5)) = .ok (.string ⟨(zeros n).toArray⟩) (W.alloc (.cells (rowB (zeros n)) 5)) := fun W => textZ n _ _ (fun j hj => cellZ n W j hj)
        have hzl := zeros_length n
        have hadd := add_str t (zeros n) (by rw [hzl]; have := HN.out; have := HTL.out; unfold maxLen; omega)
        generalize zeros n = z at *
        clear hn hTP hmb hm1
        go_wp2
        go_ret2
        rw [HW.out, HE.out]
        exact ⟨rfl, HS2.out.new _⟩
  · have HW : Hid (enFill body = ([], 5)) := by unfold Hid; rw [HFL.out, if_neg h]
    have h' : (16000 : Int) < body.length := by omega
    clear HFL h
    go_enter Tryz.func22, Tryz.ntmps22
    go_wp2
    go_ret2
    rw [HW.out]
    exact ⟨rfl, HS.out⟩
set_option maxRecDepth 100000 in
set_option maxHeartbeats 2000000 in
theorem r15UnfillS (s : Bs) (hs : s.length ≤ 1000000) (S : Sp w0 F0 w L) : Calls Tryz.prog 24 #[.string ⟨s.toArray⟩] w fun e w2 => e = .returned (.tuple #[.string ⟨(enUnfill s).1.toArray⟩, .int .i64 (enUnfill s).2]) ∧ Sp w0 F0 w2 L := by
  have HS := Lib.hid (S.box #[.string ⟨s.toArray⟩, .bool false] 85)
  have HV := Lib.hid (unfill_ref s)
  have HB : Hid (bodyOf s = (Rd.text ⟨s, false⟩ 16000).1) := rfl
  have HBL := Lib.hid (bodyOf_len s)
  have HFL : Hid (enFill (bodyOf s) = if (bodyOf s).length ≤ 16000 then (fillB (bodyOf s), 0) else ([], 5)) := rfl
  have HL := Lib.hid hs
  clear S hs
  go_enter Tryz.func24, Tryz.ntmps24
  go_upto_region 2 with (fail)
  generalize w.alloc _ = w1 at *
  generalize w.heap.size = q at *
  go_wp2_with fail
  refine (r12TextL (r := ⟨s, false⟩) 16000 16000 rfl HS.out (show s.length ≤ 1000000000000 by have := HL.out; omega) (by omega)).mono ?_
  rintro e w2 ⟨rfl, S⟩
  have HS2 := Lib.hid S
  have hbd := HB.out
  generalize Rd.text ⟨s, false⟩ 16000 = tr at *
  obtain ⟨tb, tr2⟩ := tr
  dsimp only at *
  subst hbd
  clear S HS HB
  go_wp2_with fail
  refine (r15FillS (bodyOf s) HS2.out).mono ?_
  rw [HFL.out, if_pos HBL.out]
  rintro e w3 ⟨rfl, S⟩
  have HS3 := Lib.hid S.drop
  have c3 := S.cell
  clear S HS2 HFL
  obtain ⟨rs, rb⟩ := tr2
  dsimp only at *
  cases rb with
  | true =>
    have HW : Hid (enUnfill s = ([], 2)) := HV.out.symm.trans (if_pos (.inl rfl))
    clear HV
    go_wp2
    go_ret2
    rw [HW.out]
    exact ⟨rfl, HS3.out⟩
  | false =>
    by_cases hf : fillB (bodyOf s) = s
    · have HW : Hid (enUnfill s = (bodyOf s, 0)) := HV.out.symm.trans (if_neg (by simp [hf]))
      rw [hf]
      clear HV hf
      go_wp2
      go_ret2
      rw [HW.out]
      exact ⟨rfl, HS3.out⟩
    · have HW : Hid (enUnfill s = ([], 2)) := HV.out.symm.trans (if_pos (.inr hf))
      have hb : (fillB (bodyOf s) == s) = false := by simpa using hf
      generalize fillB (bodyOf s) = fb at *
      clear HV hf
      go_wp2
      go_ret2
      rw [HW.out]
      exact ⟨rfl, HS3.out⟩
set_option maxRecDepth 100000 in
set_option maxHeartbeats 1000000 in
theorem r15MailboxS (m : Mb) (S : Sp w0 F0 w L) (h1 : m.1.length ≤ 1000000) (h2 : m.2.length ≤ 1000000) : Calls Tryz.prog 54 #[mbAgg m] w fun e w2 => e = .returned (.bool (mbMay m)) ∧ Sp w0 F0 w2 L := by
  obtain ⟨l, d⟩ := m
  have HS0 := Lib.hid (S.box (mbCells (l, d)) 24)
  have HM := Lib.hid (fun (w' : World) (S' : Sp w0 F0 w' (boxR w.heap.size (mbCells (l, d)) 24 :: L)) => r09MayS (l, d) S' h1 h2)
  unfold mbAgg at *
  unfold mbCells at HS0
  dsimp only at *
  clear S h1 h2
  go_enter Tryz.func54, Tryz.ntmps54
  go_wp2_with fail
  refine (HM.out _ HS0.out).mono ?_
  rintro e w2 ⟨rfl, S⟩
  have HS2 := Lib.hid S.drop
  clear S HS0 HM
  go_wp2
  go_ret
  exact ⟨rfl, HS2.out⟩
theorem dec_ten15 (n : Nat) (h : 4611686018427387904 ≤ n) : Lib.decDigits n = Lib.decDigits (n / 10) ++ Lib.decDigits (n % 10) := dec_ten n (by omega)
set_option maxRecDepth 100000 in
set_option maxHeartbeats 1000000 in
theorem r15NumS (n : Nat) (hn : n < 18446744073709551616) (S : Sp w0 F0 w L) : Calls Tryz.prog 48 #[.int .u64 n] w fun e w2 => e = .returned (.string ⟨(Lib.decDigits n).toArray⟩) ∧ Sp w0 F0 w2 L := by
  have HS := Lib.hid S
  clear S
  by_cases h : n < 4611686018427387904
  · have h' : (n : Int) < 4611686018427387904 := by omega
    have hw : IntKind.i64.wrap (n : Int) = n := by rw [IntWalk.i64_in _ (by omega)]
    have HNM := Lib.hid (fun (W : World) (S' : Sp w0 F0 W L) => Calls.sp (r10Num_any n W (by omega)) S')
    clear hn h
    go_enter Tryz.func48, Tryz.ntmps48
    go_wp2_with fail
    refine (HNM.out _ HS.out).mono ?_
    rintro e w2 ⟨rfl, S⟩
    have HS2 := Lib.hid S
    clear S
    go_wp2
    go_ret
    exact ⟨rfl, HS2.out⟩
  · have h' : (4611686018427387904 : Int) ≤ n := by omega
    obtain ⟨a, ha⟩ : ∃ a, a = n / 10 := ⟨_, rfl⟩
    obtain ⟨c, hc⟩ : ∃ c, c = n % 10 := ⟨_, rfl⟩
    have hd : (n : Int) / 10 = a := by omega
    have hr : (n : Int) % 10 = c := by omega
    have hd' : (n : Int).tdiv 10 = a := by rw [Int.tdiv_eq_ediv_of_nonneg (by omega)]; exact hd
    have hr' : (n : Int).tmod 10 = c := by rw [Int.tmod_eq_emod_of_nonneg (by omega)]; exact hr
    have hw1 : IntKind.i64.wrap (a : Int) = a := by rw [IntWalk.i64_in _ (by omega)]
    have hw2 : IntKind.i64.wrap (c : Int) = c := by rw [IntWalk.i64_in _ (by omega)]
    have hw3 : IntKind.u64.wrap (a : Int) = a := by rw [IntKind.wrap_u64]; omega
    have hw4 : IntKind.u64.wrap (c : Int) = c := by rw [IntKind.wrap_u64]; omega
    have HA := Lib.hid (fun (W : World) (S' : Sp w0 F0 W L) => Calls.sp (r10Num_any a W (by omega)) S')
    have HC := Lib.hid (fun (W : World) (S' : Sp w0 F0 W L) => Calls.sp (r10Num_any c W (by omega)) S')
    have HE : Hid (Lib.decDigits n = Lib.decDigits a ++ Lib.decDigits c) := by unfold Hid; rw [ha, hc]; exact dec_ten15 n (by omega)
    have hla := dec_len9 a (by omega)
    have hlc := dec_len9 c (by omega)
    have hadd := add_str (Lib.decDigits a) (Lib.decDigits c) (by unfold maxLen; omega)
    generalize Lib.decDigits a = da at *
    generalize Lib.decDigits c = dc at *
    have hb : decide ((n : Int) < 4611686018427387904) = false := decide_eq_false (by omega)
    clear h h' hla hlc ha hc hn
    go_enter Tryz.func48, Tryz.ntmps48
    go_wp2_with fail
    refine (HA.out _ HS.out).mono ?_
    rintro e w2 ⟨rfl, S⟩
    have HS2 := Lib.hid S
    clear S
    go_wp2_with fail
    refine (HC.out _ HS2.out).mono ?_
    rintro e w3 ⟨rfl, S⟩
    have HS3 := Lib.hid S
    clear S
    go_wp2
    go_ret
    exact ⟨by rw [HE.out]; rfl, HS3.out⟩
end
end Go.Proofs.YtkenacggjffjnaaGreatDoor
