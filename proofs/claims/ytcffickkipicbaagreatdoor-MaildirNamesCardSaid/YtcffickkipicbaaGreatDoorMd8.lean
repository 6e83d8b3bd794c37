/- maildir: Texts, Has. Conditions: the lengths fit. -/
import Derived.Test.YtcffickkipicbaaGreatDoorMd7
namespace Go.Proofs.YtcffickkipicbaaGreatDoor
open Go.RowKit Go.Sort Go.Maps

def mdText (F : Fs) (s : Bs) : Bs := (F.get (newB ++ s)).getD []
section
variable {w0 w : World} {L : List Res} {p : Nat} {D : Dk}
set_option maxRecDepth 100000 in
set_option maxHeartbeats 1000000 in
theorem mdTextsS (box : Int) (m : Nat) (S : Sp w0 [] w (diskR p D :: L)) (E : Env w0) (hD : D.Ok m) (hm : m ≤ 800000000) (hn : ∀ n ∈ D.now.names newB, n.length ≤ 1000) :
    Calls Tryz.prog 18 #[.pointer (some ⟨p, 0, none⟩), .int .i64 box] w fun e w2 => ∃ v l', e = .returned v ∧ MdSorted (mdNames D.now box) l' ∧ Sp w0 [] w2 (textsR v (l'.map (mdText D.now)) :: diskR p D :: L) := by
  have HLS := Lib.hid (mdListS box m S E hD hm hn)
  have HLN : Hid ((mdNames D.now box).length ≤ 800000000) := by
    have h1 := names_le D.now newB
    have h2 := hD.now
    have h3 := List.length_filter_le (mdPick box) ((D.now.names newB).map (List.drop 4))
    have h4 : ((D.now.names newB).map (List.drop 4)).length = (D.now.names newB).length := List.length_map _
    unfold Hid mdNames
    omega
  have HIS : Hid (∀ x ∈ mdNames D.now box, mdIs x = true) := fun x hx => mdNames_is hx
  clear S hD hn
  go_enter Tryz.func18, Tryz.ntmps18
  go_wp2_with fail
  refine HLS.out.mono ?_
  rintro e w1 ⟨v, l, rfl, hs, S1⟩
  obtain ⟨a, cap, rfl⟩ := S1.textSlice
  have HS1 := Lib.hid S1.textsNil
  have hll : l.length ≤ 800000000 := by have := hs.1.length_eq; have := HLN.out; omega
  have hl' : (l.length : Int) ≤ 800000000 := by omega
  have HLL := Lib.hid hll
  have HX : Hid (∀ x ∈ l, x.length ≤ 18) := fun x hx => mdIs_len (HIS.out x (hs.1.mem_iff.1 hx))
  have HSRT := Lib.hid hs
  clear S1 HLS hs hll HIS HLN
  go_wp2_with fail
  go_loopw [5, 14] (fun o z wr => ∃ (i : Nat), z = .int .i64 i ∧ i ≤ l.length ∧ Sp w0 [] wr (textsR o ((l.take i).map (mdText D.now)) :: textsR (.slice a l.length cap) l :: diskR p D :: L)) (fun _ z _ => l.length - (intOf z).toNat)
  case atStart => exact ⟨0, rfl, by omega, HS1.out⟩
  case round =>
    obtain ⟨i, rfl, hi, S2⟩ := hrel
    have HS2 := Lib.hid S2
    by_cases hlt : i < l.length
    · have hlt' : (i : Int) < l.length := by omega
      have hi0 : (0 : Int) ≤ i := by omega
      obtain ⟨x, hx⟩ : ∃ x, l[i]? = some x := ⟨_, List.getElem?_eq_getElem hlt⟩
      obtain ⟨g, rfl, c⟩ := S2.pull1.textCell hx
      have HXL := Lib.hid (HX.out x (List.mem_of_getElem? hx))
      have HTK : Hid ((l.take (i + 1)).map (mdText D.now) = (l.take i).map (mdText D.now) ++ [mdText D.now x]) := by
        rw [List.getElem?_eq_getElem hlt] at hx
        rw [List.take_succ_eq_append_getElem hlt, Option.some.inj hx]
        simp [Hid]
      have HOL : Hid (((l.take i).map (mdText D.now)).length ≤ 800000000) := by
        rw [List.length_map, List.length_take]
        have := HLL.out
        unfold Hid
        omega
      have HTX : Hid (mdText D.now x = (D.now.get (newB ++ x)).getD []) := rfl
      generalize (l.take i).map (mdText D.now) = o at *
      have hadd := add_str newB x (by have := HXL.out; simp [newB, maxLen]; omega)
      have HNL : Hid ((newB ++ x).length ≤ maxLen) := by have := HXL.out; simp [newB, maxLen, Hid]; omega
      unfold newB at hadd
      generalize hy : newB ++ x = y at *
      have hy2 : [110, 101, 119, 47] ++ x = y := hy
      rw [hy2] at hadd
      clear S2 hx HS1 hy hy2
      go_wp2_with fail
      refine (readS y HS2.out.pull2 HNL.out).mono ?_
      rw [← HTX.out]
      generalize mdText D.now x = t at *
      rintro e w3 ⟨rfl, rfl⟩
      have S5 := HS2.out.box #[.string ⟨t.toArray⟩] 9
      obtain ⟨g2, cap2, w6, hrun, S6⟩ := Sp.appendText 38 t (by have := HOL.out; omega) S5
      have HS6 := Lib.hid S6
      have HRUN := Lib.hid hrun
      generalize (if D.now.has y then (0 : Int) else 10) = ec at *
      clear S5 S6 hrun c hadd
      go_wp2_with (at_builtin; refine wpList_append_run (by rfl) (by rfl) (by rfl) (by rfl) HRUN.out ?_)
      go_roundw
      case rel => exact ⟨i + 1, by go_num, by omega, by rw [HTK.out]; exact HS6.out⟩
      case measure => simp [intOf]; omega
    · obtain rfl : i = l.length := by omega
      rw [List.take_length] at HS2
      clear S2 HS1
      go_wp2
      go_ret
      exact ⟨u5, l, rfl, HSRT.out, (Sp.pick [_, _, _] [0, 2] (by decide) (HS2.out))⟩
set_option maxRecDepth 100000 in
set_option maxHeartbeats 1000000 in
theorem mdHasS (box : Int) (id : Nat) (rc : Int) (S : Sp w0 [] w (diskR p D :: L)) (E : Env w0) :
    Calls Tryz.prog 39 #[.pointer (some ⟨p, 0, none⟩), .int .i64 box, .int .u64 id, .int .i64 rc] w fun e w2 => e = .returned (.bool (mdHas D box id rc)) ∧ Sp w0 [] w2 (diskR p D :: L) := by
  have HN := Lib.hid (mdNameS box id rc S E)
  have HH : Hid (mdHas D box id rc = (decide ((mdName box id rc).2 = 0) && D.now.has (newB ++ (mdName box id rc).1))) := rfl
  have hl := mdName_len box id rc
  generalize mdName box id rc = q at *
  obtain ⟨nm, ec⟩ := q
  dsimp only at *
  have hadd := add_str newB nm (by simp [newB, maxLen]; omega)
  have HNL : Hid ((newB ++ nm).length ≤ maxLen) := by simp [newB, maxLen, Hid]; omega
  unfold newB at hadd
  generalize hy : newB ++ nm = y at *
  have hy2 : [110, 101, 119, 47] ++ nm = y := hy
  rw [hy2] at hadd
  clear S E hl hy hy2
  go_enter Tryz.func39, Tryz.ntmps39
  go_wp2_with fail
  refine HN.out.mono ?_
  rintro e w1 ⟨rfl, S1⟩
  have HS1 := Lib.hid S1
  clear S1
  by_cases he : ec = 0
  · subst he
    go_wp2_with fail
    refine (thereS y HS1.out HNL.out).mono ?_
    rintro e w2 ⟨rfl, rfl⟩
    have HV : Hid (mdHas D box id rc = D.now.has y) := by rw [HH.out]; simp [Hid]
    generalize D.now.has y = bb at *
    go_wp2
    go_ret
    rw [HV.out]
    exact ⟨rfl, HS1.out⟩
  · have t0 : (ec == 0) = false := by simpa using he
    have HV : Hid (mdHas D box id rc = false) := by rw [HH.out]; simp [he, Hid]
    clear he
    go_wp2
    go_ret
    rw [HV.out]
    exact ⟨rfl, HS1.out⟩
set_option maxRecDepth 100000 in
theorem mdDeliver_nil (box : Int) (id : Nat) (rc : Int) (text : Bs) (S : Sp w0 [] w L) :
    Calls Tryz.prog 16 #[.pointer none, .int .i64 box, .int .u64 id, .int .i64 rc, .string ⟨text.toArray⟩] w fun e w2 => e = .returned (.int .i64 1) ∧ Sp w0 [] w2 L := by
  have HS := Lib.hid S
  clear S
  go_enter Tryz.func16, Tryz.ntmps16
  go_wp2
  go_ret
  exact ⟨rfl, HS.out⟩
end
end Go.Proofs.YtcffickkipicbaaGreatDoor
