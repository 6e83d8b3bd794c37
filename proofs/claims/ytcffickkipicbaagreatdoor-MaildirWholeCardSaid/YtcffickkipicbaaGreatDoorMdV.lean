/- Names of messages sorted: slices.SortFunc by compare. Conditions: names of messages. maildir: List, Texts. Conditions: the lengths fit. maildir: Texts, Has. Conditions: the lengths fit. maildir, plainly: what is delivered to a disk that never fails. No program. MaildirOrder, plainly: a disk that had nothing but deliveries, and the names that were told. No program. The first look of the statements of layer 19 (awake): it tells true. Condition: what Go's variables hold. -/
import Derived.Test.YtcffickkipicbaaGreatDoorMdW
import Derived.Test.YtcffickkipicbaaGreatDoorSrt
import Derived.Shelf.SlSortCmp.NoneTotal
import Derived.Test.YtcffickkipicbaaGreatDoorHist
import Derived.Test.YtcffickkipicbaaGreatDoorMap
/-! MdS -/
set_option linter.unusedSimpArgs false
set_option linter.unusedVariables false
set_option linter.unnecessarySimpa false
namespace Go.Proofs.YtcffickkipicbaaGreatDoor
open Go.RowKit Go.Sort Go.Maps Go.Shelf

abbrev MdNm := {s : Bs // mdIs s = true}
instance : Inhabited MdNm := ⟨⟨nameB 0 1 0, mdIs_name (by decide)⟩⟩
def encNm (x : MdNm) : Value := encStr x.1
def cfNm (x y : MdNm) : Int := mdCmp x.1 y.1
theorem ltNm (x y : MdNm) : ltOf cfNm x y = mdLt x.1 y.1 := mdCmp_lt x.1 y.1
theorem swoNm : SWO (ltOf cfNm) where
  irrefl x := by rw [ltNm]; unfold mdLt; simp
  trans x y z h1 h2 := by
    rw [ltNm] at *
    unfold mdLt at *
    simp only [decide_eq_true_eq] at *
    omega
  ntrans x y z h1 h2 := by
    rw [ltNm] at *
    unfold mdLt at *
    simp only [decide_eq_false_iff_not] at *
    omega
theorem sort_ext {w : World} {g n : Nat} {dk : Array MdNm} {os : Array Obj} : Ext [g] w (sortWorld encNm w g 0 n dk os) := by
  refine ⟨rfl, rfl, rfl, by simp [sortWorld, Sort.ahead], fun k hk hn => ?_⟩
  unfold sortWorld
  rw [heap_grow_old _ _ (by simpa [Sort.ahead] using hk)]
  have hne : g ≠ k := fun e => hn (by simp [e])
  simp only [putRow, mapBlock, Array.getElem?_modify, if_neg hne]
  rfl
section
variable {w0 w : World} {L : List Res} {v : Value}
theorem sortMdS (l : List MdNm) (S : Sp w0 [] w (textsR v (l.map (·.1)) :: L)) (E : Env w0) (hl : l.length < 4611686018427387904) :
    Calls Tryz.prog 52 #[v, .func (.func 53) #[] #[]] w fun e w2 => e = .returned (.tuple #[]) ∧ ∃ l', MdSorted (l.map (·.1)) l' ∧ Sp w0 [] w2 (textsR v l' :: L) := by
  by_cases hv : v = .slice none 0 0
  · subst hv
    have h0 : l = [] := by
      rcases S.rowForm with ⟨_, h⟩ | ⟨g, cap, h⟩
      · exact List.eq_nil_of_length_eq_zero (by simpa using h)
      · cases h
    subst h0
    refine (AnyF.slices_SortFunc_none (P := Tryz.prog) (ρ := Tryz.sortMd_ren) { Tryz.sortMd with } none 0 _ w).mono ?_
    rintro e w2 ⟨rfl, rfl⟩
    exact ⟨rfl, [], ⟨List.Perm.refl _, List.Pairwise.nil⟩, S⟩
  obtain ⟨F, ⟨rfl, h⟩, hk⟩ := S.take
  have hen : (l.map (·.1)).map encStr = l.map encNm := by rw [List.map_map]; rfl
  rw [hen, List.length_map] at h
  obtain ⟨g, cap, rfl, _, hg, hn, hm, hz, hH⟩ := Lib.holds_of_ownsRow h hv
  have eg : ∀ args w, (callFunc 53 args).run Tryz.prog w = .ok (.enter 53 args) w := enters_of Tryz.func53 (by kernel_rfl) rfl
  have hg0 : w0.heap.size ≤ g := by
    obtain ⟨M, hM, hsp⟩ := S
    obtain ⟨a, M', rfl, ha, rfl⟩ := List.map_eq_cons_iff.1 hM
    obtain ⟨r, F⟩ := a
    dsimp only at ha
    subst ha
    have hF := (hsp.all _ (List.mem_cons_self ..)).1
    have := hsp.own _ (List.mem_cons_self ..) g (by rw [hF]; simp [Value.ownBlock])
    simpa using this
  have hcmp : CmpLays1 Tryz.prog 53 #[] encNm cfNm g 0 l.toArray.size w := fun m os dk _ x y => by
    have hx : Ext [] w0 (sortWorld encNm w g 0 m dk os) := S.ext.trans sort_ext (by simp; exact hg0)
    exact (mdCompare x.1 y.1 x.2 y.2 _ (E.ext hx)).mono fun e w2 ⟨he, q, os', hq⟩ => ⟨he, q, os', hq⟩
  refine (Any.slices_SortFunc Tryz.sortMd encNm (fun x => by simp [encNm, encStr_eq, Value.oneCell']) cfNm swoNm 53 #[] g 0 cap l.toArray w eg hcmp hH hg (by simpa using hl)).mono ?_
  rintro e w2 ⟨rfl, d', n, os, hp, hs, rfl⟩
  have hsz : d'.size = l.length := by simpa using hp.1
  refine ⟨rfl, d'.toList.map (·.1), ⟨?_, ?_⟩, ?_⟩
  · have h2 := hp.2.2
    rw [List.size_toArray] at h2
    rw [show d'.extract 0 l.length = d' by rw [← hsz]; simp] at h2
    simp only [List.extract_toArray, List.extract_eq_take_drop, Nat.sub_zero, List.drop_zero, List.take_length] at h2
    exact h2.map _
  · rw [List.pairwise_map, List.pairwise_iff_getElem]
    intro i j hi hj hij
    have := hs i j (by omega) hij (by simpa [hsz] using hj)
    rw [ltNm] at this
    simp only [Array.length_toList] at hi hj
    simpa [getElem!_pos, hi, hj] using this
  · have h3 := Lib.ownsRow_putRow (q := n) (ys := d'.toList) h (by simpa using hsz) (Nat.le_refl _)
    rw [List.take_of_length_le (by simp [hsz])] at h3
    have x1 : Ext [] (putRow encNm (Sort.ahead w n) g 0 d'.toList.toArray) (grow (putRow encNm (Sort.ahead w n) g 0 d'.toList.toArray) os) :=
      ⟨rfl, rfl, rfl, by simp, fun k hk _ => heap_grow_old _ _ hk⟩
    have h4 := row_ext h3 x1 (by simp)
    have hen2 : (d'.toList.map (·.1)).map encStr = d'.toList.map encNm := by rw [List.map_map]; rfl
    have e1 : (d'.toList.map (·.1)).length = l.length := by rw [List.length_map, Array.length_toList, hsz]
    refine hk _ (textsR (.slice (some ⟨g, 0, none⟩) l.length cap) (d'.toList.map (·.1))) [g] ⟨rfl, ?_⟩ (Moved.of_ext sort_ext)
    show World.ownsRow _ 0 9 1 _ (d'.toList.map (·.1)).length ((d'.toList.map (·.1)).map encStr)
    rw [hen2, e1]
    exact h4
end
end Go.Proofs.YtcffickkipicbaaGreatDoor

/-! Md7 -/
namespace Go.Proofs.YtcffickkipicbaaGreatDoor
open Go.RowKit Go.Sort Go.Maps

theorem nm_list : ∀ (l : List Bs), (∀ x ∈ l, mdIs x = true) → ∃ m : List MdNm, m.map (·.1) = l
  | [], _ => ⟨[], rfl⟩
  | x :: r, h => by
    obtain ⟨m, hm⟩ := nm_list r (fun y hy => h y (by simp [hy]))
    exact ⟨⟨x, h x (by simp)⟩ :: m, by simp [hm]⟩
theorem trim_new {x : Bs} (h : newB.isPrefixOf x = true) : Lib.trimPrefix x newB = x.drop 4 := by
  unfold Lib.trimPrefix
  rw [if_pos (show Lib.hasPrefix x newB = true from h)]
  rfl
section
variable {w0 w : World} {L : List Res} {p : Nat} {D : Dk}
theorem trimS (x : Bs) (w : World) (h : newB.isPrefixOf x = true) : Calls Tryz.prog 51 #[.string ⟨x.toArray⟩, .string ⟨#[110, 101, 119, 47]⟩] w fun e w2 => e = .returned (.string ⟨(x.drop 4).toArray⟩) ∧ w = w2 := by
  refine (Tryz.strings_TrimPrefix ⟨x.toArray⟩ ⟨#[110, 101, 119, 47]⟩ w).mono ?_
  rintro e w2 ⟨rfl, rfl⟩
  have := trim_new h
  unfold newB at this
  exact ⟨by rw [this], rfl⟩
set_option maxRecDepth 100000 in
set_option maxHeartbeats 1000000 in
theorem mdListS (box : Int) (m : Nat) (S : Sp w0 [] w (diskR p D :: L)) (E : Env w0) (hD : D.Ok m) (hm : m ≤ 800000000) (hn : ∀ n ∈ D.now.names newB, n.length ≤ 1000) :
    Calls Tryz.prog 17 #[.pointer (some ⟨p, 0, none⟩), .int .i64 box] w fun e w2 => ∃ v l', e = .returned v ∧ MdSorted (mdNames D.now box) l' ∧ Sp w0 [] w2 (textsR v l' :: diskR p D :: L) := by
  have HLS := Lib.hid (listS newB S (by have := hD.now; omega))
  have hlen := names_le D.now newB
  have hl' : ((D.now.names newB).length : Int) ≤ 800000000 := by have := hD.now; omega
  have HLN : Hid ((D.now.names newB).length ≤ 800000000) := by have := hD.now; unfold Hid; omega
  have HPRE : Hid (∀ x ∈ D.now.names newB, newB.isPrefixOf x = true) := fun x hx => names_pre hx
  have HMN : Hid (mdNames D.now box = ((D.now.names newB).map (List.drop 4)).filter (mdPick box)) := rfl
  have HIS : Hid (∀ x ∈ mdNames D.now box, mdIs x = true) := fun x hx => mdNames_is hx
  have HN := Lib.hid hn
  have HE := Lib.hid E
  generalize D.now.names newB = l at *
  clear S hD hn hlen E
  go_enter Tryz.func17, Tryz.ntmps17
  go_wp2_with fail
  refine HLS.out.mono ?_
  rintro e w1 ⟨v, rfl, S1⟩
  obtain ⟨a, cap, rfl⟩ := S1.textSlice
  have HS1 := Lib.hid S1.textsNil
  clear S1 HLS
  go_wp2_with fail
  go_loopw [5, 17] (fun o z wr => ∃ (i : Nat), z = .int .i64 i ∧ i ≤ l.length ∧ Sp w0 [] wr (textsR o (((l.take i).map (List.drop 4)).filter (mdPick box)) :: textsR (.slice a l.length cap) l :: diskR p D :: L)) (fun _ z _ => l.length - (intOf z).toNat)
  case atStart => exact ⟨0, rfl, by omega, HS1.out⟩
  case round =>
    obtain ⟨i, rfl, hi, S2⟩ := hrel
    have HS2 := Lib.hid S2
    by_cases hlt : i < l.length
    · have hlt' : (i : Int) < l.length := by omega
      have hi0 : (0 : Int) ≤ i := by omega
      obtain ⟨x, hx⟩ : ∃ x, l[i]? = some x := ⟨_, List.getElem?_eq_getElem hlt⟩
      obtain ⟨g, rfl, c⟩ := S2.pull1.textCell hx
      have hmem := List.mem_of_getElem? hx
      have HXL := Lib.hid (HN.out x hmem)
      have HXP := Lib.hid (HPRE.out x hmem)
      have HTK : Hid (((l.take (i + 1)).map (List.drop 4)).filter (mdPick box) = ((l.take i).map (List.drop 4)).filter (mdPick box) ++ (if mdPick box (x.drop 4) then [x.drop 4] else [])) := by
        rw [List.getElem?_eq_getElem hlt] at hx
        rw [List.take_succ_eq_append_getElem hlt, Option.some.inj hx]
        simp only [List.map_append, List.filter_append, List.map_cons, List.map_nil, List.filter_cons, List.filter_nil, Hid]
      have HOL : Hid ((((l.take i).map (List.drop 4)).filter (mdPick box)).length ≤ 800000000) := by
        have := List.length_filter_le (mdPick box) ((l.take i).map (List.drop 4))
        have := HLN.out
        rw [List.length_map, List.length_take] at *
        unfold Hid
        omega
      generalize ((l.take i).map (List.drop 4)).filter (mdPick box) = o at *
      clear S2 hx hmem HS1
      go_wp2_with fail
      refine (trimS x _ HXP.out).mono ?_
      rintro e w3 ⟨rfl, rfl⟩
      have HYL : Hid ((x.drop 4).length ≤ 1000000) := by rw [List.length_drop]; have := HXL.out; unfold Hid; omega
      generalize x.drop 4 = y at *
      go_wp2_with fail
      refine (mdParseS y HS2.out HE.out HYL.out).mono ?_
      have HPK : Hid (mdPick box y = ((mdParse y).2.2.2 && decide (((mdParse y).1 : Int) = box))) := rfl
      generalize mdParse y = q at *
      obtain ⟨q1, q2, q3, q4⟩ := q
      dsimp only at *
      rintro e w4 ⟨rfl, S4⟩
      have HS4 := Lib.hid S4
      clear c
      cases q4 with
      | false =>
        have HT2 : Hid (((l.take (i + 1)).map (List.drop 4)).filter (mdPick box) = o) := by rw [HTK.out, HPK.out]; simp [Hid]
        clear S4 HTK
        go_wp2_with fail
        go_roundw
        case rel => exact ⟨i + 1, by go_num, by omega, by rw [HT2.out]; exact HS4.out⟩
        case measure => simp [intOf]; omega
      | true =>
        by_cases hb : (q1 : Int) = box
        · have HT2 : Hid (((l.take (i + 1)).map (List.drop 4)).filter (mdPick box) = o ++ [y]) := by rw [HTK.out, HPK.out]; simp [Hid, hb]
          have S5 := S4.box #[.string ⟨y.toArray⟩] 9
          obtain ⟨g2, cap2, w6, hrun, S6⟩ := Sp.appendText 38 y (by have := HOL.out; omega) S5
          have HS6 := Lib.hid S6
          have HRUN := Lib.hid hrun
          have tb : ((q1 : Int) == box) = true := by simpa using hb
          clear S4 S5 S6 hrun HTK hb
          go_wp2_with (at_builtin; refine wpList_append_run (by rfl) (by rfl) (by rfl) (by rfl) HRUN.out ?_)
          go_roundw
          case rel => exact ⟨i + 1, by go_num, by omega, by rw [HT2.out]; exact HS6.out⟩
          case measure => simp [intOf]; omega
        · have HT2 : Hid (((l.take (i + 1)).map (List.drop 4)).filter (mdPick box) = o) := by rw [HTK.out, HPK.out]; simp [Hid, hb]
          have tb : ((q1 : Int) == box) = false := by simpa using hb
          clear S4 HTK hb
          go_wp2_with fail
          go_roundw
          case rel => exact ⟨i + 1, by go_num, by omega, by rw [HT2.out]; exact HS4.out⟩
          case measure => simp [intOf]; omega
    · obtain rfl : i = l.length := by omega
      rw [List.take_length, ← HMN.out] at HS2
      obtain ⟨ms, hms⟩ := nm_list _ HIS.out
      have HMS := Lib.hid hms
      have hml : ms.length < 4611686018427387904 := by
        have h1 := congrArg List.length hms
        rw [List.length_map, HMN.out] at h1
        have := List.length_filter_le (mdPick box) (l.map (List.drop 4))
        have := HLN.out
        have h3 : (l.map (List.drop 4)).length = l.length := List.length_map _
        omega
      have HML := Lib.hid hml
      rw [← HMS.out] at HS2
      clear S2 hms hml HS1
      go_wp2_with fail
      refine (sortMdS ms HS2.out HE.out HML.out).mono ?_
      rintro e w6 ⟨rfl, l', hs, S6⟩
      have HS6 := Lib.hid S6
      have HSRT := Lib.hid hs
      clear S6 hs HS2
      go_wp2
      go_ret
      refine ⟨u5, l', rfl, ?_, (Sp.pick [_, _, _] [0, 2] (by decide) (HS6.out))⟩
      rw [← HMS.out]
      exact HSRT.out
end
end Go.Proofs.YtcffickkipicbaaGreatDoor

/-! Md8 -/
namespace Go.Proofs.YtcffickkipicbaaGreatDoor
open Go.RowKit Go.Sort Go.Maps

def mdText (F : Fs) (s : Bs) : Bs := (F.get (newB ++ s)).getD []
section
variable {w0 w : World} {L : List Res} {p : Nat} {D : Dk}
set_option maxRecDepth 100000 in
set_option maxHeartbeats 1000000 in
theorem mdTextsS (box : Int) (m : Nat) (S : Sp w0 [] w (diskR p D :: L)) (E : Env w0) (hD : D.Ok m) (hm : m ≤ 800000000) (hn : ∀ n ∈ D.now.names newB, n.length ≤ 1000) :
    Calls Tryz.prog 18 #[.pointer (some ⟨p, 0, none⟩), .int .i64 box] w fun e w2 => ∃ v l', e = .returned v ∧ MdSorted (mdNames D.now box) l' ∧ Sp w0 [] w2 (textsR v (l'.map (mdText D.now)) :: diskR p D :: L) := by
  have HLS := Lib.hid (mdListS box m S E hD hm hn)
  have HLN : Hid ((mdNames D.now box).length ≤ 800000000) := by
    have h1 := names_le D.now newB
    have h2 := hD.now
    have h3 := List.length_filter_le (mdPick box) ((D.now.names newB).map (List.drop 4))
    have h4 : ((D.now.names newB).map (List.drop 4)).length = (D.now.names newB).length := List.length_map _
    unfold Hid mdNames
    omega
  have HIS : Hid (∀ x ∈ mdNames D.now box, mdIs x = true) := fun x hx => mdNames_is hx
  clear S hD hn
  go_enter Tryz.func18, Tryz.ntmps18
  go_wp2_with fail
  refine HLS.out.mono ?_
  rintro e w1 ⟨v, l, rfl, hs, S1⟩
  obtain ⟨a, cap, rfl⟩ := S1.textSlice
  have HS1 := Lib.hid S1.textsNil
  have hll : l.length ≤ 800000000 := by have := hs.1.length_eq; have := HLN.out; omega
  have hl' : (l.length : Int) ≤ 800000000 := by omega
  have HLL := Lib.hid hll
  have HX : Hid (∀ x ∈ l, x.length ≤ 18) := fun x hx => mdIs_len (HIS.out x (hs.1.mem_iff.1 hx))
  have HSRT := Lib.hid hs
  clear S1 HLS hs hll HIS HLN
  go_wp2_with fail
  go_loopw [5, 14] (fun o z wr => ∃ (i : Nat), z = .int .i64 i ∧ i ≤ l.length ∧ Sp w0 [] wr (textsR o ((l.take i).map (mdText D.now)) :: textsR (.slice a l.length cap) l :: diskR p D :: L)) (fun _ z _ => l.length - (intOf z).toNat)
  case atStart => exact ⟨0, rfl, by omega, HS1.out⟩
  case round =>
    obtain ⟨i, rfl, hi, S2⟩ := hrel
    have HS2 := Lib.hid S2
    by_cases hlt : i < l.length
    · have hlt' : (i : Int) < l.length := by omega
      have hi0 : (0 : Int) ≤ i := by omega
      obtain ⟨x, hx⟩ : ∃ x, l[i]? = some x := ⟨_, List.getElem?_eq_getElem hlt⟩
      obtain ⟨g, rfl, c⟩ := S2.pull1.textCell hx
      have HXL := Lib.hid (HX.out x (List.mem_of_getElem? hx))
      have HTK : Hid ((l.take (i + 1)).map (mdText D.now) = (l.take i).map (mdText D.now) ++ [mdText D.now x]) := by
        rw [List.getElem?_eq_getElem hlt] at hx
        rw [List.take_succ_eq_append_getElem hlt, Option.some.inj hx]
        simp [Hid]
      have HOL : Hid (((l.take i).map (mdText D.now)).length ≤ 800000000) := by
        rw [List.length_map, List.length_take]
        have := HLL.out
        unfold Hid
        omega
      have HTX : Hid (mdText D.now x = (D.now.get (newB ++ x)).getD []) := rfl
      generalize (l.take i).map (mdText D.now) = o at *
      have hadd := add_str newB x (by have := HXL.out; simp [newB, maxLen]; omega)
      have HNL : Hid ((newB ++ x).length ≤ maxLen) := by have := HXL.out; simp [newB, maxLen, Hid]; omega
      unfold newB at hadd
      generalize hy : newB ++ x = y at *
      have hy2 : [110, 101, 119, 47] ++ x = y := hy
      rw [hy2] at hadd
      clear S2 hx HS1 hy hy2
      go_wp2_with fail
      refine (readS y HS2.out.pull2 HNL.out).mono ?_
      rw [← HTX.out]
      generalize mdText D.now x = t at *
      rintro e w3 ⟨rfl, rfl⟩
      have S5 := HS2.out.box #[.string ⟨t.toArray⟩] 9
      obtain ⟨g2, cap2, w6, hrun, S6⟩ := Sp.appendText 38 t (by have := HOL.out; omega) S5
      have HS6 := Lib.hid S6
      have HRUN := Lib.hid hrun
      generalize (if D.now.has y then (0 : Int) else 10) = ec at *
      clear S5 S6 hrun c hadd
      go_wp2_with (at_builtin; refine wpList_append_run (by rfl) (by rfl) (by rfl) (by rfl) HRUN.out ?_)
      go_roundw
      case rel => exact ⟨i + 1, by go_num, by omega, by rw [HTK.out]; exact HS6.out⟩
      case measure => simp [intOf]; omega
    · obtain rfl : i = l.length := by omega
      rw [List.take_length] at HS2
      clear S2 HS1
      go_wp2
      go_ret
      exact ⟨u5, l, rfl, HSRT.out, (Sp.pick [_, _, _] [0, 2] (by decide) (HS2.out))⟩
set_option maxRecDepth 100000 in
set_option maxHeartbeats 1000000 in
theorem mdHasS (box : Int) (id : Nat) (rc : Int) (S : Sp w0 [] w (diskR p D :: L)) (E : Env w0) :
    Calls Tryz.prog 39 #[.pointer (some ⟨p, 0, none⟩), .int .i64 box, .int .u64 id, .int .i64 rc] w fun e w2 => e = .returned (.bool (mdHas D box id rc)) ∧ Sp w0 [] w2 (diskR p D :: L) := by
  have HN := Lib.hid (mdNameS box id rc S E)
  have HH : Hid (mdHas D box id rc = (decide ((mdName box id rc).2 = 0) && D.now.has (newB ++ (mdName box id rc).1))) := rfl
  have hl := mdName_len box id rc
  generalize mdName box id rc = q at *
  obtain ⟨nm, ec⟩ := q
  dsimp only at *
  have hadd := add_str newB nm (by simp [newB, maxLen]; omega)
  have HNL : Hid ((newB ++ nm).length ≤ maxLen) := by simp [newB, maxLen, Hid]; omega
  unfold newB at hadd
  generalize hy : newB ++ nm = y at *
  have hy2 : [110, 101, 119, 47] ++ nm = y := hy
  rw [hy2] at hadd
  clear S E hl hy hy2
  go_enter Tryz.func39, Tryz.ntmps39
  go_wp2_with fail
  refine HN.out.mono ?_
  rintro e w1 ⟨rfl, S1⟩
  have HS1 := Lib.hid S1
  clear S1
  by_cases he : ec = 0
  · subst he
    go_wp2_with fail
    refine (thereS y HS1.out HNL.out).mono ?_
    rintro e w2 ⟨rfl, rfl⟩
    have HV : Hid (mdHas D box id rc = D.now.has y) := by rw [HH.out]; simp [Hid]
    generalize D.now.has y = bb at *
    go_wp2
    go_ret
    rw [HV.out]
    exact ⟨rfl, HS1.out⟩
  · have t0 : (ec == 0) = false := by simpa using he
    have HV : Hid (mdHas D box id rc = false) := by rw [HH.out]; simp [he, Hid]
    clear he
    go_wp2
    go_ret
    rw [HV.out]
    exact ⟨rfl, HS1.out⟩
set_option maxRecDepth 100000 in
theorem mdDeliver_nil (box : Int) (id : Nat) (rc : Int) (text : Bs) (S : Sp w0 [] w L) :
    Calls Tryz.prog 16 #[.pointer none, .int .i64 box, .int .u64 id, .int .i64 rc, .string ⟨text.toArray⟩] w fun e w2 => e = .returned (.int .i64 1) ∧ Sp w0 [] w2 L := by
  have HS := Lib.hid S
  clear S
  go_enter Tryz.func16, Tryz.ntmps16
  go_wp2
  go_ret
  exact ⟨rfl, HS.out⟩
end
end Go.Proofs.YtcffickkipicbaaGreatDoor

/-! MdQ -/
namespace Go.Proofs.YtcffickkipicbaaGreatDoor
open Go.RowKit Go.Maps

theorem fs_ins (x : Bs × Bs) : ∀ F : Fs, Fs.ins x F = Mp.ins x F
  | [] => rfl
  | y :: r => by
    unfold Fs.ins Mp.ins
    split
    · rfl
    · rw [fs_ins x r]
theorem fs_put (F : Fs) (k v : Bs) : F.put k v = Mp.put F k v := fs_ins _ _
theorem fs_get_put (F : Fs) (k v j : Bs) : (F.put k v).get j = if k = j then some v else F.get j := by
  rw [fs_put]
  exact Mp.get_put F k v j
theorem fs_get_del (F : Fs) (k j : Bs) : (F.del k).get j = if j = k then none else F.get j := Mp.get_del F k j
theorem fs_has_put (F : Fs) (k v j : Bs) : (F.put k v).has j = (decide (k = j) || F.has j) := by
  rw [fs_put]
  exact Mp.has_put F k v j
theorem filter_ins (q : Bs × Bs → Bool) (x : Bs × Bs) (hx : q x = false) : ∀ F : Fs, (Fs.ins x F).filter q = F.filter q
  | [] => by simp [Fs.ins, hx]
  | y :: r => by
    unfold Fs.ins
    split
    · rw [List.filter_cons, hx]; simp
    · rw [List.filter_cons, List.filter_cons, filter_ins q x hx r]
theorem del_del (F : Fs) (k : Bs) : (F.del k).del k = F.del k := by
  unfold Fs.del
  rw [List.filter_filter]
  refine List.filter_congr fun p _ => ?_
  cases (p.1 == k) <;> rfl
theorem del_put (F : Fs) (k v : Bs) : (F.put k v).del k = F.del k := by
  unfold Fs.put
  conv => lhs; unfold Fs.del
  rw [filter_ins _ _ (by simp)]
  exact del_del F k
theorem del_not {F : Fs} {k : Bs} (h : F.has k = false) : F.del k = F := by
  unfold Fs.del
  rw [List.filter_eq_self]
  intro p hp
  unfold Fs.has at h
  have := List.any_eq_false.1 h p hp
  simpa using this
/-- A disk that is alive, and whose fuse is off. -/
structure Live (D : Dk) : Prop where
  dead : D.dead = false
  fuse : D.fuse < 0
theorem Live.done {D : Dk} (h : Live D) (e : Ev) (h5 : e.op ≠ 5) : D.done e = ({ D with trace := D.trace ++ [e], now := D.now.did e, pend := D.pend ++ [e] }, 0) := by
  have hf := h.fuse
  unfold Dk.done
  rw [if_neg (by simp [h.dead]; omega), if_neg h5, if_neg (by omega)]
theorem Live.sync {D : Dk} (h : Live D) : D.sync = ({ D with trace := D.trace ++ [⟨5, [], [], []⟩], sure := D.now, pend := [] }, 0) := by
  have hf := h.fuse
  unfold Dk.sync Dk.done
  rw [if_neg (by simp [h.dead]; omega), if_pos rfl, if_neg (by omega)]
theorem Live.write {D : Dk} (h : Live D) {n d : Bs} (hm : may n = true) (hc : D.now.has n = true ∨ D.now.length < 200) (hq : ¬ D.quota < (D.now.bytes : Int) - ((D.now.get n).getD []).length + d.length) :
    D.write n d = ({ D with trace := D.trace ++ [⟨1, n, [], d⟩], now := D.now.put n d, pend := D.pend ++ [⟨1, n, [], d⟩] }, 0) := by
  unfold Dk.write
  rw [if_pos hm, if_neg (by rcases hc with hc | hc <;> simp [hc]), if_neg hq, h.done _ (by simp)]
  rfl
theorem Live.rename {D : Dk} (h : Live D) {n t : Bs} (hh : D.now.has n = true) (hm : may t = true) :
    D.rename n t = ({ D with trace := D.trace ++ [⟨3, n, t, []⟩], now := (D.now.del n).put t ((D.now.get n).getD []), pend := D.pend ++ [⟨3, n, t, []⟩] }, 0) := by
  unfold Dk.rename
  rw [if_pos hh, if_pos hm, h.done _ (by simp)]
  rfl
theorem mdLay_live {D : Dk} (h : Live D) {nm text : Bs} (ht : may (tmpB ++ nm) = true) (hn : may (newB ++ nm) = true) (h0 : D.now.has (tmpB ++ nm) = false) (hc : D.now.length < 200) (hq : ¬ D.quota < (D.now.bytes : Int) + text.length) :
    ∃ T, mdLay D nm text = ({ D with trace := T, now := D.now.put (newB ++ nm) text, sure := D.now.put (newB ++ nm) text, pend := [] }, 0) ∧ T.length = D.trace.length + 4 := by
  have hg : D.now.get (tmpB ++ nm) = none := by
    rw [Fs.has_eq] at h0
    cases hh : D.now.get (tmpB ++ nm) with
    | none => rfl
    | some v => rw [hh] at h0; cases h0
  have e1 := h.write (d := text) ht (.inr hc) (by rw [hg]; simpa using hq)
  have hdd := del_put D.now (tmpB ++ nm) text
  rw [del_not h0] at hdd
  have hgg : ((D.now.put (tmpB ++ nm) text).get (tmpB ++ nm)).getD [] = text := by rw [fs_get_put, if_pos rfl]; rfl
  have hhh : (D.now.put (tmpB ++ nm) text).has (tmpB ++ nm) = true := by rw [fs_has_put]; simp
  have e2 := Live.sync (D := { D with trace := D.trace ++ [⟨1, tmpB ++ nm, [], text⟩], now := D.now.put (tmpB ++ nm) text, pend := D.pend ++ [⟨1, tmpB ++ nm, [], text⟩] }) ⟨h.dead, h.fuse⟩
  have e3 := Live.rename (D := { D with trace := D.trace ++ [⟨1, tmpB ++ nm, [], text⟩] ++ [⟨5, [], [], []⟩], now := D.now.put (tmpB ++ nm) text, sure := D.now.put (tmpB ++ nm) text, pend := [] }) ⟨h.dead, h.fuse⟩ hhh hn
  dsimp only at e2 e3
  rw [hdd, hgg] at e3
  have e4 := Live.sync (D := { D with trace := D.trace ++ [⟨1, tmpB ++ nm, [], text⟩] ++ [⟨5, [], [], []⟩] ++ [⟨3, tmpB ++ nm, newB ++ nm, []⟩], now := D.now.put (newB ++ nm) text, sure := D.now.put (tmpB ++ nm) text, pend := [] ++ [⟨3, tmpB ++ nm, newB ++ nm, []⟩] }) ⟨h.dead, h.fuse⟩
  dsimp only at e4
  unfold mdLay
  rw [e1, if_neg (by simp)]
  dsimp only
  rw [e2, if_neg (by simp)]
  dsimp only
  rw [e3, if_neg (by simp)]
  dsimp only
  rw [e4]
  exact ⟨_, rfl, by simp⟩
theorem okChar_dig {c : UInt8} (h : digB c = true) : okChar c = true := by
  have : ∀ n : Fin 256, digB (UInt8.ofNat n.val) = true → okChar (UInt8.ofNat n.val) = true := by decide +kernel
  have h2 := this ⟨c.toNat, c.toNat_lt⟩
  simp only [UInt8.ofNat_toNat] at h2
  exact h2 h
theorem dec_ok (n : Nat) : (Lib.decDigits n).all okChar = true := by
  rw [List.all_eq_true]
  exact fun c hc => okChar_dig (List.all_eq_true.1 (decDigits_dig n) c hc)
theorem may_name {pre : Bs} {box id rc : Nat} (h : mdOk box id rc) (hp : pre.all okChar = true) (hl : pre.length ≤ 4) : may (pre ++ nameB box id rc) = true := by
  have h1 := nameB_len h
  have h2 : (nameB box id rc).all okChar = true := by
    unfold nameB
    simp only [List.all_append, dec_ok, List.all_cons, List.all_nil, Bool.and_true, Bool.true_and]
    decide
  have h3 : (pre ++ nameB box id rc).isEmpty = false := by
    unfold nameB
    simp
  unfold may
  rw [List.all_append, hp, h2, h3]
  simp only [List.length_append]
  simp
  omega
theorem mdDeliver_live {D : Dk} (h : Live D) {box : Int} {id : Nat} {rc : Int} {text : Bs} (hok : mdOk box id rc) (hn : D.now.has (newB ++ nameB box.toNat id rc.toNat) = false) (h0 : D.now.has (tmpB ++ nameB box.toNat id rc.toNat) = false) (hc : D.now.length < 200) (hq : ¬ D.quota < (D.now.bytes : Int) + text.length) :
    ∃ T, mdDeliver D box id rc text = ({ D with trace := T, now := D.now.put (newB ++ nameB box.toNat id rc.toNat) text, sure := D.now.put (newB ++ nameB box.toNat id rc.toNat) text, pend := [] }, 0) ∧ T.length = D.trace.length + 4 := by
  obtain ⟨hk, he⟩ := mdName_ok hok
  unfold mdDeliver
  rw [he, if_neg (by simp)]
  dsimp only
  rw [hn]
  exact mdLay_live h (may_name hk (by decide) (by decide)) (may_name hk (by decide) (by decide)) h0 hc hq
end Go.Proofs.YtcffickkipicbaaGreatDoor

/-! OrdP -/
namespace Go.Proofs.YtcffickkipicbaaGreatDoor
open Go.RowKit Go.Maps

theorem names_mem {F : Fs} {pre x : Bs} : x ∈ F.names pre ↔ F.has x = true ∧ pre.isPrefixOf x = true := by
  unfold Fs.names Fs.has
  rw [List.mem_filter, List.mem_map, List.any_eq_true]
  constructor
  · rintro ⟨⟨p, hp, rfl⟩, h⟩
    exact ⟨⟨p, hp, by simp⟩, h⟩
  · rintro ⟨⟨p, hp, he⟩, h⟩
    exact ⟨⟨p, hp, by simpa using he⟩, h⟩
theorem new_pre (s : Bs) : newB.isPrefixOf (newB ++ s) = true := by simp [newB, List.isPrefixOf]
theorem new_drop {x : Bs} (h : newB.isPrefixOf x = true) : x = newB ++ x.drop 4 := by
  obtain ⟨t, rfl⟩ := List.isPrefixOf_iff_prefix.1 h
  rfl
theorem mdNames_mem {F : Fs} {box : Int} {s : Bs} : s ∈ mdNames F box ↔ F.has (newB ++ s) = true ∧ mdPick box s = true := by
  unfold mdNames
  rw [List.mem_filter, List.mem_map]
  constructor
  · rintro ⟨⟨x, hx, rfl⟩, hp⟩
    obtain ⟨h1, h2⟩ := names_mem.1 hx
    rw [← new_drop h2]
    exact ⟨h1, hp⟩
  · rintro ⟨h1, h2⟩
    exact ⟨⟨newB ++ s, names_mem.2 ⟨h1, new_pre s⟩, rfl⟩, h2⟩
theorem fkeys_nodup {F : Fs} (h : F.Sorted) : (F.map (·.1)).Nodup := by
  unfold List.Nodup
  rw [List.pairwise_map]
  exact rising_ne h
theorem names_nodup {F : Fs} (h : F.Sorted) (pre : Bs) : (F.names pre).Nodup := List.Pairwise.filter _ (fkeys_nodup h)
theorem nodup_map_on {α β : Type} {f : α → β} : ∀ {l : List α}, (∀ x ∈ l, ∀ y ∈ l, f x = f y → x = y) → l.Nodup → (l.map f).Nodup
  | [], _, _ => List.Pairwise.nil
  | a :: r, h, hn => by
    obtain ⟨h1, h2⟩ := List.pairwise_cons.1 hn
    refine List.pairwise_cons.2 ⟨fun y hy => ?_, nodup_map_on (fun x hx y hy => h x (by simp [hx]) y (by simp [hy])) h2⟩
    obtain ⟨z, hz, rfl⟩ := List.mem_map.1 hy
    exact fun e => h1 z hz (h a (by simp) z (by simp [hz]) e)
theorem mdNames_nodup {F : Fs} (h : F.Sorted) (box : Int) : (mdNames F box).Nodup := by
  unfold mdNames
  refine List.Pairwise.filter _ (nodup_map_on (fun x hx y hy e => ?_) (names_nodup h newB))
  rw [new_drop (names_pre hx), new_drop (names_pre hy), e]
theorem mdPick_name {b id rc : Nat} (h : mdOk b id rc) (box : Int) : mdPick box (nameB b id rc) = decide ((b : Int) = box) := by
  unfold mdPick
  rw [mdParse_name h]
  rfl
theorem mdNames_is' {F : Fs} {box : Int} {s : Bs} (h : s ∈ mdNames F box) : ∃ id rc : Nat, mdOk (mdParse s).1 id rc ∧ ((mdParse s).1 : Int) = box ∧ mdParse s = ((mdParse s).1, id, rc, true) ∧ s = nameB (mdParse s).1 id rc := by
  have hp := (mdNames_mem.1 h).2
  have hi := mdNames_is h
  obtain ⟨h1, h2⟩ := mdIs_sound hi
  unfold mdPick at hp
  rw [Bool.and_eq_true, decide_eq_true_eq] at hp
  have he : mdParse s = ((mdRead s).1, (mdRead s).2.1, (mdRead s).2.2, true) := by unfold mdParse; rw [if_pos hi]
  rw [he] at hp ⊢
  exact ⟨_, _, h1, hp.2, rfl, h2⟩
/-- Behind i deliveries, box told when it was asked for. -/
structure OrdM (D : Dk) (box : Int) (K : Mp Bool) (i : Nat) : Prop where
  live : Live D
  quota : D.quota = 1048576
  ok : D.Ok (5000 + 1100 * i)
  len : D.now.length ≤ i
  bytes : D.now.bytes ≤ 1000 * i
  sorted : D.now.Sorted
  files : ∀ k, D.now.has k = true → ∃ b id rc : Nat, mdOk b id rc ∧ k = newB ++ nameB b id rc
  want : ∀ s, K.has s = true ↔ (D.now.has (newB ++ s) = true ∧ mdPick box s = true)
  vals : ∀ p ∈ K, p.2 = true
  klen : K.length ≤ i
theorem ord_new (box : Int) : OrdM Dk.new box [] 0 :=
  ⟨⟨rfl, by decide⟩, rfl, ok_new.mono (by decide), by decide, by decide, List.Pairwise.nil, (by intro k h; cases h), (by intro s; exact ⟨fun h => (by cases h), fun h => absurd h.1 (by simp [Dk.new, Fs.has])⟩), (by intro p hp; cases hp), by decide⟩
theorem OrdM.more {D : Dk} {box : Int} {K : Mp Bool} {i : Nat} (h : OrdM D box K i) : OrdM D box K (i + 1) :=
  ⟨h.live, h.quota, h.ok.mono (by omega), by have := h.len; omega, by have := h.bytes; omega, h.sorted, h.files, h.want, h.vals, by have := h.klen; omega⟩
theorem OrdM.step {D D2 : Dk} {box : Int} {K : Mp Bool} {i : Nat} (h : OrdM D box K i) {b id rc : Nat} (hk : mdOk b id rc) (h1 : Live D2) (h2 : D2.quota = 1048576) (h3 : D2.Ok (5000 + 1100 * (i + 1))) (h4 : D2.now.length ≤ i + 1) (h5 : D2.now.bytes ≤ 1000 * (i + 1)) (h6 : D2.now.Sorted)
    (hF : ∀ k, D2.now.has k = (decide (newB ++ nameB b id rc = k) || D.now.has k)) :
    OrdM D2 box (if (b : Int) = box then K.put (nameB b id rc) true else K) (i + 1) := by
  refine ⟨h1, h2, h3, h4, h5, h6, fun k hk2 => ?_, fun s => ?_, fun p hp => ?_, ?_⟩
  · rw [hF, Bool.or_eq_true, decide_eq_true_eq] at hk2
    rcases hk2 with rfl | hk2
    · exact ⟨b, id, rc, hk, rfl⟩
    · exact h.files k hk2
  · rw [hF, Bool.or_eq_true, decide_eq_true_eq]
    have hw := h.want s
    have hp := mdPick_name hk box
    by_cases hs : nameB b id rc = s
    · subst hs
      by_cases hb : (b : Int) = box
      · rw [if_pos hb, Mp.has_put, hp]
        simp [hb]
      · rw [if_neg hb, hw, hp]
        simp [hb]
    · have hne : ¬ newB ++ nameB b id rc = newB ++ s := fun e => hs (List.append_cancel_left e)
      split
      · rw [Mp.has_put, Bool.or_eq_true, decide_eq_true_eq, hw]
        simp [hs, hne]
      · rw [hw]
        simp [hne]
  · split at hp
    · rcases Mp.mem_put.1 hp with rfl | hp
      · rfl
      · exact h.vals p hp.1
    · exact h.vals p hp
  · have := h.klen
    split
    · have := Mp.length_put_le K (nameB b id rc) true
      omega
    · omega
theorem OrdM.next {D : Dk} {box : Int} {K : Mp Bool} {i : Nat} (h : OrdM D box K i) (bx : Int) (id : Nat) (rc : Int) (text : Bs) (hi : i < 40) (ht : text.length ≤ 1000) :
    ∃ D2, mdDeliver D bx id rc text = (D2, (mdName bx id rc).2) ∧ OrdM D2 box (if (mdName bx id rc).2 = 0 ∧ bx = box then K.put (mdName bx id rc).1 true else K) (i + 1) := by
  by_cases hok : mdOk bx id rc
  · obtain ⟨hk, he⟩ := mdName_ok hok
    have hbx : ((bx.toNat : Nat) : Int) = bx := by have := hok.1; omega
    rw [he]
    dsimp only
    have hif : (if (0 : Int) = 0 ∧ bx = box then K.put (nameB bx.toNat id rc.toNat) true else K) = if ((bx.toNat : Nat) : Int) = box then K.put (nameB bx.toNat id rc.toNat) true else K := by
      rw [hbx]; simp
    rw [hif]
    have hl := h.len
    have hb := h.bytes
    cases hn : D.now.has (newB ++ nameB bx.toNat id rc.toNat) with
    | true =>
      refine ⟨D, ?_, h.step hk h.live h.quota (h.ok.mono (by omega)) (by omega) (by omega) h.sorted (fun k => ?_)⟩
      · unfold mdDeliver
        rw [he, if_neg (by simp)]
        dsimp only
        rw [hn]
        rfl
      · by_cases e : newB ++ nameB bx.toNat id rc.toNat = k
        · subst e; simp [hn]
        · simp [e]
    | false =>
      have h0 : D.now.has (tmpB ++ nameB bx.toNat id rc.toNat) = false := by
        cases hh : D.now.has (tmpB ++ nameB bx.toNat id rc.toNat) with
        | false => rfl
        | true =>
          obtain ⟨_, _, _, _, e⟩ := h.files _ hh
          simp [tmpB, newB] at e
      obtain ⟨T, e1, _⟩ := mdDeliver_live h.live (text := text) hok hn h0 (by omega) (by have := h.quota; omega)
      have hO := (mdDeliver_ok h.ok bx id rc text).mono (n := 5000 + 1100 * (i + 1)) (by omega)
      rw [e1] at hO
      have hbp := bytes_put h.sorted (newB ++ nameB bx.toNat id rc.toNat) text
      have hlp := length_put_le D.now (newB ++ nameB bx.toNat id rc.toNat) text
      refine ⟨_, e1, h.step hk ⟨h.live.dead, h.live.fuse⟩ h.quota hO (by dsimp only; omega) (by dsimp only; omega) (h.sorted.put _ _) (fun k => fs_has_put _ _ _ _)⟩
  · have he : mdName bx id rc = ([], 3) := by unfold mdName; rw [if_neg hok]
    rw [he]
    dsimp only
    refine ⟨D, ?_, by simpa using h.more⟩
    unfold mdDeliver
    rw [he, if_pos (by simp)]
theorem OrdM.short {D : Dk} {box : Int} {K : Mp Bool} {i : Nat} (h : OrdM D box K i) : ∀ n ∈ D.now.names newB, n.length ≤ 1000 := fun n hn => by
  obtain ⟨b, id, rc, hk, rfl⟩ := h.files n (names_mem.1 hn).1
  have := nameB_len hk
  simp only [List.length_append, newB, List.length_cons, List.length_nil]
  omega
/-- What the names show: each is one's of the box, and was told. -/
theorem OrdM.each {D : Dk} {box : Int} {K : Mp Bool} {i : Nat} (h : OrdM D box K i) {l : List Bs} (hs : MdSorted (mdNames D.now box) l) {j : Nat} {x : Bs} (hx : l[j]? = some x) :
    ∃ b id rc : Nat, mdParse x = (b, id, rc, true) ∧ (b : Int) = box ∧ x.length ≤ 18 ∧ ((K.get x).map fun v => Value.bool v).getD (.bool false) = .bool true := by
  have hm : x ∈ mdNames D.now box := hs.1.mem_iff.1 (List.mem_of_getElem? hx)
  obtain ⟨id, rc, h1, h2, h3, h4⟩ := mdNames_is' hm
  refine ⟨_, id, rc, h3, h2, by rw [h4]; exact nameB_len h1, ?_⟩
  have hk := (h.want x).2 (mdNames_mem.1 hm)
  rw [Mp.has_eq] at hk
  cases hg : K.get x with
  | none => rw [hg] at hk; cases hk
  | some v =>
    unfold Mp.get at hg
    obtain ⟨p, hp, e⟩ := Option.map_eq_some_iff.1 hg
    rw [← e, h.vals p (List.mem_of_find?_eq_some hp)]
    rfl
theorem OrdM.rise {D : Dk} {box : Int} {K : Mp Bool} {i : Nat} (h : OrdM D box K i) {l : List Bs} (hs : MdSorted (mdNames D.now box) l) {j : Nat} {x y : Bs} (hx : l[j]? = some x) (hy : l[j + 1]? = some y) :
    (mdParse x).2.1 < (mdParse y).2.1 ∨ ((mdParse x).2.1 = (mdParse y).2.1 ∧ (mdParse x).2.2.1 < (mdParse y).2.2.1) := by
  obtain ⟨hj, ex⟩ := List.getElem?_eq_some_iff.1 hx
  obtain ⟨hj1, ey⟩ := List.getElem?_eq_some_iff.1 hy
  have hp := List.pairwise_iff_getElem.1 hs.2 j (j + 1) hj hj1 (by omega)
  have hn := List.pairwise_iff_getElem.1 (hs.1.nodup_iff.2 (mdNames_nodup h.sorted box)) j (j + 1) hj hj1 (by omega)
  rw [ex, ey] at hp hn
  obtain ⟨id, rc, h1, h2, h3, h4⟩ := mdNames_is' (hs.1.mem_iff.1 (List.mem_of_getElem? hx))
  obtain ⟨id', rc', h1', h2', h3', h4'⟩ := mdNames_is' (hs.1.mem_iff.1 (List.mem_of_getElem? hy))
  unfold mdLt mdKey at hp
  rw [decide_eq_false_iff_not] at hp
  rw [h3, h3'] at hp ⊢
  dsimp only at hp ⊢
  by_cases hh : id < id' ∨ (id = id' ∧ rc < rc')
  · exact hh
  · exfalso
    have e1 : id = id' := by omega
    have e2 : rc = rc' := by omega
    have e3 : (mdParse x).1 = (mdParse y).1 := by omega
    apply hn
    rw [h4, h4', e1, e2, e3]
theorem OrdM.count {D : Dk} {box : Int} {K : Mp Bool} {i : Nat} (h : OrdM D box K i) {l : List Bs} (hs : MdSorted (mdNames D.now box) l) (hK : K.Pairwise fun p q => bytesBefore p.1 q.1 = true) : l.length = K.length := by
  have hn : (K.map (·.1)).Nodup := by
    unfold List.Nodup
    rw [List.pairwise_map]
    exact rising_ne hK
  have := ((List.perm_ext_iff_of_nodup (mdNames_nodup h.sorted box) hn).2 fun s => ?_).length_eq
  · rw [hs.1.length_eq, this, List.length_map]
  · rw [mdNames_mem, ← h.want s]
    unfold Mp.has
    rw [List.any_eq_true, List.mem_map]
    constructor
    · rintro ⟨p, hp, e⟩; exact ⟨p, hp, by simpa using e⟩
    · rintro ⟨p, hp, e⟩; exact ⟨p, hp, by simpa using e⟩
end Go.Proofs.YtcffickkipicbaaGreatDoor

/-! Aw19 -/
namespace Go.Proofs.YtcffickkipicbaaGreatDoor
open Go.RowKit Go.Sort Go.Maps

def nm19 : Bs := [50, 47, 55, 46, 48]
def md19a : Dk := (mdLay Dk.new nm19 [120]).1
def md19b : Dk := (md19a.write [116, 109, 112, 47, 57, 47, 57, 46, 57] [63]).1
def md19c : Dk := (mdRecover md19b).1
theorem aw19_nm : nameB 2 7 0 = nm19 := by
  unfold nameB
  rw [Lib.decDigits_one (by decide), Lib.decDigits_one (by decide), Lib.decDigits_one (by decide)]
  rfl
theorem aw19_nm1 : nameB 2 7 1 = [50, 47, 55, 46, 49] := by
  unfold nameB
  rw [Lib.decDigits_one (by decide), Lib.decDigits_one (by decide), Lib.decDigits_one (by decide)]
  rfl
theorem aw19_name : mdName 2 7 0 = (nm19, 0) := by
  unfold mdName
  rw [if_pos (by decide)]
  exact congrArg (·, (0 : Int)) aw19_nm
theorem aw19_name1 : mdName 2 7 1 = ([50, 47, 55, 46, 49], 0) := by
  unfold mdName
  rw [if_pos (by decide)]
  exact congrArg (·, (0 : Int)) aw19_nm1
theorem aw19_1 : mdDeliver Dk.new 2 7 0 [120] = (md19a, 0) := by
  unfold mdDeliver
  rw [aw19_name]
  rfl
theorem aw19_2 : mdDeliver md19a 2 7 0 [121] = (md19a, 0) := by
  unfold mdDeliver
  rw [aw19_name]
  rfl
theorem aw19_3 : mdParse nm19 = (2, 7, 0, true) := by
  rw [← aw19_nm]
  exact mdParse_name (by decide)
theorem aw19_4 : mdParse [48, 50, 47, 55, 46, 48] = (0, 0, 0, false) := by
  unfold mdParse mdIs
  rw [show mdRead [48, 50, 47, 55, 46, 48] = (2, 7, 0) from rfl]
  dsimp only
  rw [aw19_nm]
  rfl
theorem aw19_5 : mdName 100 1 0 = ([], 3) := by
  unfold mdName
  rw [if_neg (by decide)]
theorem aw19_w : md19a.write [116, 109, 112, 47, 57, 47, 57, 46, 57] [63] = (md19b, 0) := by rfl
theorem aw19_6 : mdRecover md19b = (md19c, 0) := by rfl
theorem aw19_7 : mdNames md19c.now 2 = [nm19] := by
  unfold mdNames
  rw [show md19c.now.names newB = [newB ++ nm19] from rfl]
  have h : mdPick 2 nm19 = true := by unfold mdPick; rw [aw19_3]; rfl
  have e : List.drop 4 (newB ++ nm19) = nm19 := rfl
  rw [List.map_cons, List.map_nil, e, List.filter_cons, h]
  rfl
theorem Sp.textOne {w0 w : World} {F0 : List Nat} {L : List Res} {v : Value} {x : Bs} (S : Sp w0 F0 w (textsR v [x] :: L)) : ∃ g cap, v = .slice (some ⟨g, 0, none⟩) 1 cap := by
  rcases S.rowForm with ⟨_, h⟩ | ⟨g, cap, h⟩
  · cases h
  · exact ⟨g, cap, h⟩
theorem Sp.textOneCell {w0 w : World} {F0 : List Nat} {L : List Res} {g cap : Nat} {x : Bs} (S : Sp w0 F0 w (textsR (.slice (some ⟨g, 0, none⟩) 1 cap) [x] :: L)) : w.cell? ⟨g, 0, none⟩ = some (.string ⟨x.toArray⟩) := by
  obtain ⟨g2, h1, h2⟩ := S.textCell (i := 0) rfl
  cases h1
  exact h2
theorem sorted_one {x : Bs} {l : List Bs} (h : MdSorted [x] l) : l = [x] := List.perm_singleton.1 h.1
theorem aw19_8 : mdText md19c.now nm19 = [120] := by rfl
theorem aw19_9 : mdHas md19c 2 7 0 = true := by unfold mdHas; rw [aw19_name]; rfl
theorem aw19_10 : mdHas md19c 2 7 1 = false := by unfold mdHas; rw [aw19_name1]; rfl
theorem aw19_oka : md19a.Ok 1000 := (mdLay_ok ok_new nm19 [120]).mono (by decide)
theorem aw19_okb : md19b.Ok 3000 := (aw19_oka.write [116, 109, 112, 47, 57, 47, 57, 46, 57] [63]).mono (by decide)
theorem aw19_lb : (md19b.now.names tmpB).length ≤ 1000 := by decide
theorem aw19_lb2 : ∀ n ∈ md19b.now.names tmpB, n.length ≤ 1000 := by decide
theorem aw19_okc : md19c.Ok 3000000 := (mdRecover_ok aw19_okb aw19_lb aw19_lb2).mono (by decide)
theorem aw19_lc : ∀ n ∈ md19c.now.names newB, n.length ≤ 1000 := by decide
set_option maxRecDepth 100000 in
set_option maxHeartbeats 4000000 in
theorem awake19S {w0 w : World} {L : List Res} (S : Sp w0 [] w L) (E : Env w0) : Calls Tryz.prog 9 #[] w fun e w2 => e = .returned (.bool true) ∧ Sp w0 [] w2 L := by
  have HS0 := Lib.hid S
  have HE := Lib.hid E
  clear S E
  go_enter Tryz.func9, Tryz.ntmps9
  go_wp2_with fail
  refine (newS HS0.out).mono ?_
  rintro e w1 ⟨d, rfl, S⟩
  have HS1 := Lib.hid S
  clear S
  go_wp2_with fail
  refine (mdDeliverS 2 7 0 [120] 0 HS1.out HE.out ok_new (by decide) (by decide)).mono ?_
  rw [aw19_1]
  rintro e w2 ⟨rfl, S⟩
  have HS2 := Lib.hid S
  clear S HS1
  dsimp only
  go_wp2_with fail
  refine (mdDeliverS 2 7 0 [121] 1000 HS2.out HE.out aw19_oka (by decide) (by decide)).mono ?_
  rw [aw19_2]
  rintro e w3 ⟨rfl, S⟩
  have HS3 := Lib.hid S
  clear S HS2
  dsimp only
  go_wp2_with fail
  refine (mdNameS 2 7 0 HS3.out HE.out).mono ?_
  rw [aw19_name]
  rintro e w4 ⟨rfl, S⟩
  have HS4 := Lib.hid S
  clear S HS3
  dsimp only
  go_wp2_with fail
  refine (mdParseS nm19 HS4.out HE.out (by decide)).mono ?_
  rw [aw19_3]
  rintro e w5 ⟨rfl, S⟩
  have HS5 := Lib.hid S
  clear S HS4
  dsimp only
  go_wp2_with fail
  refine (mdParseS [48, 50, 47, 55, 46, 48] HS5.out HE.out (by decide)).mono ?_
  rw [aw19_4]
  rintro e w6 ⟨rfl, S⟩
  have HS6 := Lib.hid S
  clear S HS5
  dsimp only
  go_wp2_with fail
  refine (mdNameS 100 1 0 HS6.out HE.out).mono ?_
  rw [aw19_5]
  rintro e w7 ⟨rfl, S⟩
  have HS7 := Lib.hid S
  clear S HS6
  dsimp only
  go_wp2_with fail
  refine (writeS [116, 109, 112, 47, 57, 47, 57, 46, 57] [63] HS7.out (aw19_oka.small (by decide)) (by decide) (by decide)).mono ?_
  rw [aw19_w]
  rintro e w8 ⟨rfl, S⟩
  have HS8 := Lib.hid S
  clear S HS7
  dsimp only
  go_wp2_with fail
  refine (mdRecoverS 3000 HS8.out aw19_okb (by decide) aw19_lb aw19_lb2).mono ?_
  rw [aw19_6]
  rintro e w9 ⟨rfl, S⟩
  have HS9 := Lib.hid S
  clear S HS8
  dsimp only
  go_wp2_with fail
  refine (mdListS 2 3000000 HS9.out HE.out aw19_okc (by decide) aw19_lc).mono ?_
  rw [aw19_7]
  rintro e w10 ⟨v10, l10, rfl, hs10, S10⟩
  obtain rfl := sorted_one hs10
  have HS10 := Lib.hid S10.pull1
  clear hs10 S10 HS9
  go_wp2_with fail
  refine (mdTextsS 2 3000000 HS10.out HE.out aw19_okc (by decide) aw19_lc).mono ?_
  rw [aw19_7]
  rintro e w11 ⟨v11, l11, rfl, hs11, S11⟩
  obtain rfl := sorted_one hs11
  rw [List.map_cons, List.map_nil, aw19_8] at S11
  have HS11 := Lib.hid S11
  clear hs11 S11 HS10
  obtain ⟨g10, c10, rfl⟩ := ((Sp.pick [_, _, _] [2] (by decide) (HS11.out))).textOne
  obtain ⟨g11, c11, rfl⟩ := HS11.out.textOne
  go_wp2_with fail
  refine (listS tmpB HS11.out.pull1 (by decide)).mono ?_
  rw [show md19c.now.names tmpB = [] from rfl]
  rintro e w12 ⟨v12, rfl, S12⟩
  obtain ⟨a12, cp12, rfl⟩ := S12.textSlice
  have HS12 := Lib.hid (Sp.pick [_, _, _, _] [1, 2, 3] (by decide) (S12))
  have k10 := ((Sp.pick [_, _, _, _] [3] (by decide) (S12))).textOneCell
  have k11 := ((Sp.pick [_, _, _, _] [2] (by decide) (S12))).textOneCell
  clear S12 HS11
  go_wp2_with fail
  refine (mdHasS 2 7 0 HS12.out HE.out).mono ?_
  rw [aw19_9]
  rintro e w13 ⟨rfl, S13⟩
  have HS13 := Lib.hid S13
  clear S13 HS12 k10 k11
  go_wp2_with fail
  refine (mdHasS 2 7 1 HS13.out HE.out).mono ?_
  rw [aw19_10]
  rintro e w14 ⟨rfl, S14⟩
  have HS14 := Lib.hid S14
  clear S14 HS13
  go_wp2_with fail
  refine (mdDeliver_nil 1 1 1 [] HS14.out).mono ?_
  rintro e w15 ⟨rfl, S15⟩
  have HS15 := Lib.hid S15
  clear S15 HS14
  go_wp2
  go_ret
  exact ⟨rfl, HS15.out.drop.drop.drop⟩
end Go.Proofs.YtcffickkipicbaaGreatDoor
