/- maildir: List, Texts. Conditions: the lengths fit. -/
import Derived.Test.YtcffickkipicbaaGreatDoorMdS
namespace Go.Proofs.YtcffickkipicbaaGreatDoor
open Go.RowKit Go.Sort Go.Maps

def mdPick (box : Int) (s : Bs) : Bool := (mdParse s).2.2.2 && decide (((mdParse s).1 : Int) = box)
def mdNames (F : Fs) (box : Int) : List Bs := ((F.names newB).map (List.drop 4)).filter (mdPick box)
theorem mdParse_is (s : Bs) : (mdParse s).2.2.2 = mdIs s := by
  unfold mdParse
  cases h : mdIs s <;> simp
theorem nm_list : ∀ (l : List Bs), (∀ x ∈ l, mdIs x = true) → ∃ m : List MdNm, m.map (·.1) = l
  | [], _ => ⟨[], rfl⟩
  | x :: r, h => by
    obtain ⟨m, hm⟩ := nm_list r (fun y hy => h y (by simp [hy]))
    exact ⟨⟨x, h x (by simp)⟩ :: m, by simp [hm]⟩
theorem mdNames_is {F : Fs} {box : Int} {x : Bs} (h : x ∈ mdNames F box) : mdIs x = true := by
  unfold mdNames at h
  have := (List.mem_filter.1 h).2
  unfold mdPick at this
  rw [Bool.and_eq_true, mdParse_is] at this
  exact this.1
theorem names_pre {F : Fs} {pre x : Bs} (h : x ∈ F.names pre) : pre.isPrefixOf x = true := by
  unfold Fs.names at h
  exact (List.mem_filter.1 h).2
theorem trim_new {x : Bs} (h : newB.isPrefixOf x = true) : Lib.trimPrefix x newB = x.drop 4 := by
  unfold Lib.trimPrefix
  rw [if_pos (show Lib.hasPrefix x newB = true from h)]
  rfl
section
variable {w0 w : World} {L : List Res} {p : Nat} {D : Dk}
theorem trimS (x : Bs) (w : World) (h : newB.isPrefixOf x = true) : Calls Tryz.prog 51 #[.string ⟨x.toArray⟩, .string ⟨#[110, 101, 119, 47]⟩] w fun e w2 => e = .returned (.string ⟨(x.drop 4).toArray⟩) ∧ w = w2 := by
  refine (Tryz.strings_TrimPrefix ⟨x.toArray⟩ ⟨#[110, 101, 119, 47]⟩ w).mono ?_
  rintro e w2 ⟨rfl, rfl⟩
  have := trim_new h
  unfold newB at this
  exact ⟨by rw [this], rfl⟩
set_option maxRecDepth 100000 in
set_option maxHeartbeats 1000000 in
theorem mdListS (box : Int) (m : Nat) (S : Sp w0 [] w (diskR p D :: L)) (E : Env w0) (hD : D.Ok m) (hm : m ≤ 800000000) (hn : ∀ n ∈ D.now.names newB, n.length ≤ 1000) :
    Calls Tryz.prog 17 #[.pointer (some ⟨p, 0, none⟩), .int .i64 box] w fun e w2 => ∃ v l', e = .returned v ∧ MdSorted (mdNames D.now box) l' ∧ Sp w0 [] w2 (textsR v l' :: diskR p D :: L) := by
  have HLS := Lib.hid (listS newB S (by have := hD.now; omega))
  have hlen := names_le D.now newB
  have hl' : ((D.now.names newB).length : Int) ≤ 800000000 := by have := hD.now; omega
  have HLN : Hid ((D.now.names newB).length ≤ 800000000) := by have := hD.now; unfold Hid; omega
  have HPRE : Hid (∀ x ∈ D.now.names newB, newB.isPrefixOf x = true) := fun x hx => names_pre hx
  have HMN : Hid (mdNames D.now box = ((D.now.names newB).map (List.drop 4)).filter (mdPick box)) := rfl
  have HIS : Hid (∀ x ∈ mdNames D.now box, mdIs x = true) := fun x hx => mdNames_is hx
  have HN := Lib.hid hn
  have HE := Lib.hid E
  generalize D.now.names newB = l at *
  clear S hD hn hlen E
  go_enter Tryz.func17, Tryz.ntmps17
  go_wp2_with fail
  refine HLS.out.mono ?_
  rintro e w1 ⟨v, rfl, S1⟩
  obtain ⟨a, cap, rfl⟩ := S1.textSlice
  have HS1 := Lib.hid S1.textsNil
  clear S1 HLS
  go_wp2_with fail
  go_loopw [5, 17] (fun o z wr => ∃ (i : Nat), z = .int .i64 i ∧ i ≤ l.length ∧ Sp w0 [] wr (textsR o (((l.take i).map (List.drop 4)).filter (mdPick box)) :: textsR (.slice a l.length cap) l :: diskR p D :: L)) (fun _ z _ => l.length - (intOf z).toNat)
  case atStart => exact ⟨0, rfl, by omega, HS1.out⟩
  case round =>
    obtain ⟨i, rfl, hi, S2⟩ := hrel
    have HS2 := Lib.hid S2
    by_cases hlt : i < l.length
    · have hlt' : (i : Int) < l.length := by omega
      have hi0 : (0 : Int) ≤ i := by omega
      obtain ⟨x, hx⟩ : ∃ x, l[i]? = some x := ⟨_, List.getElem?_eq_getElem hlt⟩
      obtain ⟨g, rfl, c⟩ := S2.pull1.textCell hx
      have hmem := List.mem_of_getElem? hx
      have HXL := Lib.hid (HN.out x hmem)
      have HXP := Lib.hid (HPRE.out x hmem)
      have HTK : Hid (((l.take (i + 1)).map (List.drop 4)).filter (mdPick box) = ((l.take i).map (List.drop 4)).filter (mdPick box) ++ (if mdPick box (x.drop 4) then [x.drop 4] else [])) := by
        rw [List.getElem?_eq_getElem hlt] at hx
        rw [List.take_succ_eq_append_getElem hlt, Option.some.inj hx]
        simp only [List.map_append, List.filter_append, List.map_cons, List.map_nil, List.filter_cons, List.filter_nil, Hid]
      have HOL : Hid ((((l.take i).map (List.drop 4)).filter (mdPick box)).length ≤ 800000000) := by
        have := List.length_filter_le (mdPick box) ((l.take i).map (List.drop 4))
        have := HLN.out
        rw [List.length_map, List.length_take] at *
        unfold Hid
        omega
      generalize ((l.take i).map (List.drop 4)).filter (mdPick box) = o at *
      clear S2 hx hmem HS1
      go_wp2_with fail
      refine (trimS x _ HXP.out).mono ?_
      rintro e w3 ⟨rfl, rfl⟩
      have HYL : Hid ((x.drop 4).length ≤ 1000000) := by rw [List.length_drop]; have := HXL.out; unfold Hid; omega
      generalize x.drop 4 = y at *
      go_wp2_with fail
      refine (mdParseS y HS2.out HE.out HYL.out).mono ?_
      have HPK : Hid (mdPick box y = ((mdParse y).2.2.2 && decide (((mdParse y).1 : Int) = box))) := rfl
      generalize mdParse y = q at *
      obtain ⟨q1, q2, q3, q4⟩ := q
      dsimp only at *
      rintro e w4 ⟨rfl, S4⟩
      have HS4 := Lib.hid S4
      clear c
      cases q4 with
      | false =>
        have HT2 : Hid (((l.take (i + 1)).map (List.drop 4)).filter (mdPick box) = o) := by rw [HTK.out, HPK.out]; simp [Hid]
        clear S4 HTK
        go_wp2_with fail
        go_roundw
        case rel => exact ⟨i + 1, by go_num, by omega, by rw [HT2.out]; exact HS4.out⟩
        case measure => simp [intOf]; omega
      | true =>
        by_cases hb : (q1 : Int) = box
        · have HT2 : Hid (((l.take (i + 1)).map (List.drop 4)).filter (mdPick box) = o ++ [y]) := by rw [HTK.out, HPK.out]; simp [Hid, hb]
          have S5 := S4.box #[.string ⟨y.toArray⟩] 9
          obtain ⟨g2, cap2, w6, hrun, S6⟩ := Sp.appendText 38 y (by have := HOL.out; omega) S5
          have HS6 := Lib.hid S6
          have HRUN := Lib.hid hrun
          have tb : ((q1 : Int) == box) = true := by simpa using hb
          clear S4 S5 S6 hrun HTK hb
          go_wp2_with (at_builtin; refine wpList_append_run (by rfl) (by rfl) (by rfl) (by rfl) HRUN.out ?_)
          go_roundw
          case rel => exact ⟨i + 1, by go_num, by omega, by rw [HT2.out]; exact HS6.out⟩
          case measure => simp [intOf]; omega
        · have HT2 : Hid (((l.take (i + 1)).map (List.drop 4)).filter (mdPick box) = o) := by rw [HTK.out, HPK.out]; simp [Hid, hb]
          have tb : ((q1 : Int) == box) = false := by simpa using hb
          clear S4 HTK hb
          go_wp2_with fail
          go_roundw
          case rel => exact ⟨i + 1, by go_num, by omega, by rw [HT2.out]; exact HS4.out⟩
          case measure => simp [intOf]; omega
    · obtain rfl : i = l.length := by omega
      rw [List.take_length, ← HMN.out] at HS2
      obtain ⟨ms, hms⟩ := nm_list _ HIS.out
      have HMS := Lib.hid hms
      have hml : ms.length < 4611686018427387904 := by
        have h1 := congrArg List.length hms
        rw [List.length_map, HMN.out] at h1
        have := List.length_filter_le (mdPick box) (l.map (List.drop 4))
        have := HLN.out
        have h3 : (l.map (List.drop 4)).length = l.length := List.length_map _
        omega
      have HML := Lib.hid hml
      rw [← HMS.out] at HS2
      clear S2 hms hml HS1
      go_wp2_with fail
      refine (sortMdS ms HS2.out HE.out HML.out).mono ?_
      rintro e w6 ⟨rfl, l', hs, S6⟩
      have HS6 := Lib.hid S6
      have HSRT := Lib.hid hs
      clear S6 hs HS2
      go_wp2
      go_ret
      refine ⟨u5, l', rfl, ?_, (Sp.pick [_, _, _] [0, 2] (by decide) (HS6.out))⟩
      rw [← HMS.out]
      exact HSRT.out
end
end Go.Proofs.YtcffickkipicbaaGreatDoor
