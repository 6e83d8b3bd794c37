/- the document's disk: Rename, Remove, List. Conditions: the lengths fit. -/
import Derived.Test.YtcffickkipicbaaGreatDoorRDk2
import Derived.Test.YtcffickkipicbaaGreatDoorDiskL
/-! RDk3 -/
set_option linter.unusedSimpArgs false
set_option linter.unusedVariables false
set_option linter.unnecessarySimpa false
namespace Go.Proofs.YtcffickkipicbaaGreatDoor
open Go.RowKit Go.Maps

section
variable {w0 w w2 : World} {L : List Res} {F0 : List Nat} {D : Dk} {X : RdV} {x m : Nat}
set_option maxRecDepth 100000 in
set_option maxHeartbeats 8000000 in
theorem rRenameS (n rc : Bs) (hok : D.Ok m) (hm : m ≤ 1000000) (hr : rc.length ≤ 1000000000) (S : Sp w0 F0 w (rkR x D :: L)) : Calls Tryz.prog 64 #[.pointer (some ⟨x, 0, none⟩), .string ⟨n.toArray⟩, .string ⟨rc.toArray⟩] w fun r w2 => r = .returned (.int .i64 (D.rename n rc).2) ∧ Sp w0 F0 w2 (rkR x (D.rename n rc).1 :: L) := by
  have hFn : D.now.length ≤ 1000000 := by have := hok.now; omega
  obtain ⟨X, hX, S1⟩ := S.rdOpen
  obtain ⟨na, nc, hxn⟩ := (S1.drop.romFs hX.now).form
  have HS := Lib.hid S1
  have HDN := Lib.hid (fun (W : World) (S : Sp w0 F0 W (boxR x (rdCells D X) 88 :: romR X.K :: L)) => rDoneS (w := W) ⟨3, n, rc, []⟩ hok hm (fun h => by cases h) (Sp.rdShut hX S))
  have HFI := Lib.hid (fun (W : World) (S : Sp w0 F0 W (boxR x (rdCells D X) 88 :: romR X.K :: L)) => show Calls Tryz.prog 70 #[X.n, .string ⟨n.toArray⟩] W (fun e w2 => e = .returned (.int .i64 (findI n D.now)) ∧ Sp w0 F0 w2 (boxR x (rdCells D X) 88 :: romR X.K :: L)) from (rFindS D.now n hFn S.pull1 hX.now).mono fun e w2 h => ⟨h.1, h.2.pull1⟩)
  have HCC : Hid (∀ (W : World) (L' : List Res), Sp w0 F0 W (boxR x (rdCells D X) 88 :: L') → W.cell? ⟨x, 0, none⟩ = some (.slice na D.now.length nc)) := fun W L' S => by
    have h := S.cell 0
    unfold rdCells at h
    rw [hxn] at h
    exact h
  have HSH := Lib.hid (fun (W : World) (S : Sp w0 F0 W (boxR x (rdCells D X) 88 :: romR X.K :: L)) => Sp.rdShut hX S)
  rw [hxn] at HFI
  have HMY : Hid (∀ W, Calls Tryz.prog 69 #[.string ⟨rc.toArray⟩] W fun e w2 => e = .returned (.bool (may rc)) ∧ w2 = W) := fun W => rMay_bytes ⟨rc.toArray⟩ W (by unfold maxLen; simp [ByteArray.size]; omega)
  have HV : Hid (D.rename n rc = if D.now.has n then (if may rc then D.done ⟨3, n, rc, []⟩ else (D, 1)) else (D, 10)) := rfl
  have c0 := HCC.out _ _ HS.out
  have HFC := Lib.hid (findI_cases n D.now)
  clear S S1 hX hok hm hxn hFn
  go_enter Tryz.func64, Tryz.ntmps64
  go_wp2_with fail
  refine (HFI.out _ HS.out).mono ?_
  rintro r w2 ⟨rfl, h2⟩
  have HS2 := Lib.hid h2
  clear h2 c0 HS HFI
  rcases HFC.out with ⟨h1, h2, h3⟩ | ⟨k, hk, h1, h2, h3⟩
  · rw [h1]
    have HV2 := Lib.hid (HV.out.trans (if_neg (by simp [h2])))
    clear h1 h2 h3 HV
    go_wp2
    go_ret
    rw [HV2.out]
    exact ⟨rfl, HSH.out _ HS2.out⟩
  · rw [h1]
    have HV2 := Lib.hid (HV.out.trans (if_pos h2))
    clear h1 h2 h3 HV hk
    have hk0 : ¬ ((k : Int) < 0) := by omega
    go_wp2_with fail
    refine (HMY.out _).mono ?_
    rintro r w3 ⟨rfl, rfl⟩
    clear HMY
    cases hmy : may rc with
    | false =>
      have HV3 := Lib.hid (HV2.out.trans (if_neg (by rw [hmy]; simp)))
      clear HV2 hmy
      go_wp2
      go_ret
      rw [HV3.out]
      exact ⟨rfl, HSH.out _ HS2.out⟩
    | true =>
      have HV3 := Lib.hid (HV2.out.trans (if_pos hmy))
      clear HV2 hmy
      go_wp2_with fail
      refine (HDN.out _ HS2.out).mono ?_
      rintro r w4 ⟨rfl, h2⟩
      have HS4 := Lib.hid h2
      clear h2 HS2
      go_wp2
      go_ret
      rw [HV3.out]
      exact ⟨rfl, HS4.out⟩
set_option maxRecDepth 100000 in
set_option maxHeartbeats 8000000 in
theorem rRemoveS (n : Bs) (hok : D.Ok m) (hm : m ≤ 1000000) (S : Sp w0 F0 w (rkR x D :: L)) : Calls Tryz.prog 65 #[.pointer (some ⟨x, 0, none⟩), .string ⟨n.toArray⟩] w fun r w2 => r = .returned (.int .i64 (D.remove n).2) ∧ Sp w0 F0 w2 (rkR x (D.remove n).1 :: L) := by
  have hFn : D.now.length ≤ 1000000 := by have := hok.now; omega
  obtain ⟨X, hX, S1⟩ := S.rdOpen
  obtain ⟨na, nc, hxn⟩ := (S1.drop.romFs hX.now).form
  have HS := Lib.hid S1
  have HDN := Lib.hid (fun (W : World) (S : Sp w0 F0 W (boxR x (rdCells D X) 88 :: romR X.K :: L)) => rDoneS (w := W) ⟨4, n, [], []⟩ hok hm (fun h => by cases h) (Sp.rdShut hX S))
  have HFI := Lib.hid (fun (W : World) (S : Sp w0 F0 W (boxR x (rdCells D X) 88 :: romR X.K :: L)) => show Calls Tryz.prog 70 #[X.n, .string ⟨n.toArray⟩] W (fun e w2 => e = .returned (.int .i64 (findI n D.now)) ∧ Sp w0 F0 w2 (boxR x (rdCells D X) 88 :: romR X.K :: L)) from (rFindS D.now n hFn S.pull1 hX.now).mono fun e w2 h => ⟨h.1, h.2.pull1⟩)
  have HCC : Hid (∀ (W : World) (L' : List Res), Sp w0 F0 W (boxR x (rdCells D X) 88 :: L') → W.cell? ⟨x, 0, none⟩ = some (.slice na D.now.length nc)) := fun W L' S => by
    have h := S.cell 0
    unfold rdCells at h
    rw [hxn] at h
    exact h
  have HSH := Lib.hid (fun (W : World) (S : Sp w0 F0 W (boxR x (rdCells D X) 88 :: romR X.K :: L)) => Sp.rdShut hX S)
  rw [hxn] at HFI
  have HV : Hid (D.remove n = if D.now.has n then D.done ⟨4, n, [], []⟩ else (D, 10)) := rfl
  have c0 := HCC.out _ _ HS.out
  have HFC := Lib.hid (findI_cases n D.now)
  clear S S1 hX hok hm hxn hFn
  go_enter Tryz.func65, Tryz.ntmps65
  go_wp2_with fail
  refine (HFI.out _ HS.out).mono ?_
  rintro r w2 ⟨rfl, h2⟩
  have HS2 := Lib.hid h2
  clear h2 c0 HS HFI
  rcases HFC.out with ⟨h1, h2, h3⟩ | ⟨k, hk, h1, h2, h3⟩
  · rw [h1]
    have HV2 := Lib.hid (HV.out.trans (if_neg (by simp [h2])))
    clear h1 h2 h3 HV
    go_wp2
    go_ret
    rw [HV2.out]
    exact ⟨rfl, HSH.out _ HS2.out⟩
  · rw [h1]
    have HV2 := Lib.hid (HV.out.trans (if_pos h2))
    clear h1 h2 h3 HV hk
    have hk0 : ¬ ((k : Int) < 0) := by omega
    go_wp2_with fail
    refine (HDN.out _ HS2.out).mono ?_
    rintro r w4 ⟨rfl, h2⟩
    have HS4 := Lib.hid h2
    clear h2 HS2
    go_wp2
    go_ret
    rw [HV2.out]
    exact ⟨rfl, HS4.out⟩
theorem cut_headD (s : Bs) (n : Nat) : (ByteArray.mk s.toArray).extract 0 n = ⟨(s.take n).toArray⟩ := by
  apply ByteArray.ext
  simp [ByteArray.data_extract]
theorem names_snoc (F : Fs) (p : Bs × Bs) (pre : Bs) : Fs.names (F ++ [p]) pre = F.names pre ++ (if pre.isPrefixOf p.1 then [p.1] else []) := by
  unfold Fs.names
  rw [List.map_append, List.filter_append]
  congr 1
  by_cases h : pre.isPrefixOf p.1 = true <;> simp [h]
theorem pre_take {pre s : Bs} (h : pre.length ≤ s.length) : (s.take pre.length == pre) = pre.isPrefixOf s := by
  rw [Bool.eq_iff_iff, beq_iff_eq, List.isPrefixOf_iff_prefix, List.prefix_iff_eq_take]
  exact eq_comm
theorem pre_short {pre s : Bs} (h : s.length < pre.length) : pre.isPrefixOf s = false := by
  rw [Bool.eq_false_iff]
  intro h2
  have := (List.isPrefixOf_iff_prefix.1 h2).length_le
  omega
set_option maxRecDepth 100000 in
set_option maxHeartbeats 8000000 in
theorem rListS (pre : Bs) (hF : D.now.length ≤ 1000000) (S : Sp w0 F0 w (rkR x D :: L)) : Calls Tryz.prog 36 #[.pointer (some ⟨x, 0, none⟩), .string ⟨pre.toArray⟩] w fun e w2 => ∃ v, e = .returned v ∧ Sp w0 F0 w2 (textsR v (D.now.names pre) :: rkR x D :: L) := by
  obtain ⟨X, hX, S1⟩ := S.rdOpen
  obtain ⟨na, nc, hxn⟩ := (S1.drop.romFs hX.now).form
  have hq : fsK (.slice na D.now.length nc) D.now ∈ X.K := by rw [← hxn]; exact hX.now
  have HQ := Lib.hid hq
  have HCC : Hid (∀ (W : World) (L' : List Res), Sp w0 F0 W (boxR x (rdCells D X) 88 :: L') → W.cell? ⟨x, 0, none⟩ = some (.slice na D.now.length nc)) := fun W L' S => by
    have h := S.cell 0
    unfold rdCells at h
    rw [hxn] at h
    exact h
  have HSH := Lib.hid (fun (W : World) (L' : List Res) (S : Sp w0 F0 W (boxR x (rdCells D X) 88 :: romR X.K :: L')) => Sp.rdShut hX S)
  have hn1 : (D.now.length : Int) ≤ 1000000 := by omega
  have HS1 : Hid (Sp w0 F0 (w.alloc (.cells #[] 9)) (textsR (.slice (some ⟨w.heap.size, 0, none⟩) 0 0) [] :: boxR x (rdCells D X) 88 :: romR X.K :: L)) := Lib.hid (S1.rowLaid 9 1 0 [] rfl (by unfold maxLen; omega))
  clear S S1 hX hq hF hxn
  generalize D.now = F at *
  generalize X.K = xk at *
  generalize rdCells D X = xc at *
  go_enter Tryz.func36, Tryz.ntmps36
  go_wp2_with fail
  generalize w.alloc _ = w1 at *
  generalize w.heap.size = g0 at *
  go_loopw [5, 6] (fun z at0 wr => ∃ k : Nat, at0 = .int .i64 k ∧ k ≤ F.length ∧ Sp w0 F0 wr (textsR z (Fs.names (F.take k) pre) :: boxR x xc 88 :: romR xk :: L)) (fun _ at0 _ => F.length - (intOf at0).toNat)
  case atStart => exact ⟨0, rfl, Nat.zero_le _, HS1.out⟩
  case round =>
    obtain ⟨k, rfl, hk, S1⟩ := hrel
    have HS := Lib.hid S1
    clear HS1
    have hk' : (k : Int) ≤ F.length := by omega
    have c0 := HCC.out _ _ S1.drop
    by_cases hlt : k < F.length
    · have hlt' : (k : Int) < F.length := by omega
      obtain ⟨xb, xo, hva, x0, x1⟩ := (Sp.romFs S1.drop.drop HQ.out).at hlt
      subst hva
      clear S1 x1
      have HD : Hid (Fs.names (F.take (k + 1)) pre = Fs.names (F.take k) pre ++ (if pre.isPrefixOf F[k].1 then [F[k].1] else [])) := by
        unfold Hid
        rw [List.take_succ_eq_append_getElem hlt, names_snoc]
      have HLN : Hid ((Fs.names (F.take k) pre).length ≤ 1000000) := by
        unfold Hid Fs.names
        exact Nat.le_trans (List.length_filter_le _ _) (by rw [List.length_map, List.length_take]; omega)
      generalize F[k].1 = y at *
      generalize Fs.names (F.take k) pre = ol at *
      by_cases hl : pre.length ≤ y.length
      · have hl' : (pre.length : Int) ≤ y.length := by omega
        have HP := Lib.hid (pre_take hl)
        have HC := cut_headD y pre.length
        cases hb : (y.take pre.length == pre) with
        | true =>
          have HD2 : Hid (Fs.names (F.take (k + 1)) pre = ol ++ [y]) := HD.out.trans (by rw [if_pos (by rw [← HP.out]; exact hb)])
          obtain ⟨gg, cap, w4, hrun, S4⟩ := Sp.appendText 38 y (by have := HLN.out; omega) (HS.out.box #[.string ⟨y.toArray⟩] 9)
          have HRUN := Lib.hid hrun
          have HS4 := Lib.hid S4
          rw [← HD2.out] at HS4
          clear S4 hrun
          go_wp2_with (at_builtin; refine wpList_append_run (by rfl) (by rfl) (by rfl) (by rfl) HRUN.out ?_)
          go_roundw
          case rel => exact ⟨k + 1, by go_num, by omega, HS4.out⟩
          case measure => simp [intOf]; omega
        | false =>
          have HD2 : Hid (Fs.names (F.take (k + 1)) pre = ol) := HD.out.trans (by rw [if_neg (by rw [← HP.out]; simp [hb]), List.append_nil])
          go_wp2_with fail
          go_roundw
          case rel => exact ⟨k + 1, by go_num, by omega, by rw [HD2.out]; exact HS.out⟩
          case measure => simp [intOf]; omega
      · have hl' : ¬ (pre.length : Int) ≤ y.length := by omega
        have HD2 : Hid (Fs.names (F.take (k + 1)) pre = ol) := HD.out.trans (by rw [if_neg (by rw [pre_short (by omega)]; simp), List.append_nil])
        go_wp2_with fail
        go_roundw
        case rel => exact ⟨k + 1, by go_num, by omega, by rw [HD2.out]; exact HS.out⟩
        case measure => simp [intOf]; omega
    · obtain rfl : k = F.length := by omega
      have HS2 := HS.out
      rw [List.take_length] at HS2
      have HS3 := Lib.hid HS2
      clear HS2 S1
      go_wp2
      go_ret
      exact ⟨_, rfl, (HSH.out _ _ HS3.out.pull1.pull2.pull1).pull1⟩
end
end Go.Proofs.YtcffickkipicbaaGreatDoor
