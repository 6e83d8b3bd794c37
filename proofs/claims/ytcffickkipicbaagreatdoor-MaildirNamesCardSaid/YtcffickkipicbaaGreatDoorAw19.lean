/- The first look of the statements of layer 19 (awake): it tells true. Condition: what Go's variables hold. -/
import Derived.Test.YtcffickkipicbaaGreatDoorMd8
namespace Go.Proofs.YtcffickkipicbaaGreatDoor
open Go.RowKit Go.Sort Go.Maps

def nm19 : Bs := [50, 47, 55, 46, 48]
def md19a : Dk := (mdLay Dk.new nm19 [120]).1
def md19b : Dk := (md19a.write [116, 109, 112, 47, 57, 47, 57, 46, 57] [63]).1
def md19c : Dk := (mdRecover md19b).1
theorem aw19_nm : nameB 2 7 0 = nm19 := by
  unfold nameB
  rw [Lib.decDigits_one (by decide), Lib.decDigits_one (by decide), Lib.decDigits_one (by decide)]
  rfl
theorem aw19_nm1 : nameB 2 7 1 = [50, 47, 55, 46, 49] := by
  unfold nameB
  rw [Lib.decDigits_one (by decide), Lib.decDigits_one (by decide), Lib.decDigits_one (by decide)]
  rfl
theorem aw19_name : mdName 2 7 0 = (nm19, 0) := by
  unfold mdName
  rw [if_pos (by decide)]
  exact congrArg (·, (0 : Int)) aw19_nm
theorem aw19_name1 : mdName 2 7 1 = ([50, 47, 55, 46, 49], 0) := by
  unfold mdName
  rw [if_pos (by decide)]
  exact congrArg (·, (0 : Int)) aw19_nm1
theorem aw19_1 : mdDeliver Dk.new 2 7 0 [120] = (md19a, 0) := by
  unfold mdDeliver
  rw [aw19_name]
  rfl
theorem aw19_2 : mdDeliver md19a 2 7 0 [121] = (md19a, 0) := by
  unfold mdDeliver
  rw [aw19_name]
  rfl
theorem aw19_3 : mdParse nm19 = (2, 7, 0, true) := by
  rw [← aw19_nm]
  exact mdParse_name (by decide)
theorem aw19_4 : mdParse [48, 50, 47, 55, 46, 48] = (0, 0, 0, false) := by
  unfold mdParse mdIs
  rw [show mdRead [48, 50, 47, 55, 46, 48] = (2, 7, 0) from rfl]
  dsimp only
  rw [aw19_nm]
  rfl
theorem aw19_5 : mdName 100 1 0 = ([], 3) := by
  unfold mdName
  rw [if_neg (by decide)]
theorem aw19_w : md19a.write [116, 109, 112, 47, 57, 47, 57, 46, 57] [63] = (md19b, 0) := by rfl
theorem aw19_6 : mdRecover md19b = (md19c, 0) := by rfl
theorem aw19_7 : mdNames md19c.now 2 = [nm19] := by
  unfold mdNames
  rw [show md19c.now.names newB = [newB ++ nm19] from rfl]
  have h : mdPick 2 nm19 = true := by unfold mdPick; rw [aw19_3]; rfl
  have e : List.drop 4 (newB ++ nm19) = nm19 := rfl
  rw [List.map_cons, List.map_nil, e, List.filter_cons, h]
  rfl
theorem Sp.textOne {w0 w : World} {F0 : List Nat} {L : List Res} {v : Value} {x : Bs} (S : Sp w0 F0 w (textsR v [x] :: L)) : ∃ g cap, v = .slice (some ⟨g, 0, none⟩) 1 cap := by
  rcases S.rowForm with ⟨_, h⟩ | ⟨g, cap, h⟩
  · cases h
  · exact ⟨g, cap, h⟩
theorem Sp.textOneCell {w0 w : World} {F0 : List Nat} {L : List Res} {g cap : Nat} {x : Bs} (S : Sp w0 F0 w (textsR (.slice (some ⟨g, 0, none⟩) 1 cap) [x] :: L)) : w.cell? ⟨g, 0, none⟩ = some (.string ⟨x.toArray⟩) := by
  obtain ⟨g2, h1, h2⟩ := S.textCell (i := 0) rfl
  cases h1
  exact h2
theorem sorted_one {x : Bs} {l : List Bs} (h : MdSorted [x] l) : l = [x] := List.perm_singleton.1 h.1
theorem aw19_8 : mdText md19c.now nm19 = [120] := by rfl
theorem aw19_9 : mdHas md19c 2 7 0 = true := by unfold mdHas; rw [aw19_name]; rfl
theorem aw19_10 : mdHas md19c 2 7 1 = false := by unfold mdHas; rw [aw19_name1]; rfl
theorem aw19_oka : md19a.Ok 1000 := (mdLay_ok ok_new nm19 [120]).mono (by decide)
theorem aw19_okb : md19b.Ok 3000 := (aw19_oka.write [116, 109, 112, 47, 57, 47, 57, 46, 57] [63]).mono (by decide)
theorem aw19_lb : (md19b.now.names tmpB).length ≤ 1000 := by decide
theorem aw19_lb2 : ∀ n ∈ md19b.now.names tmpB, n.length ≤ 1000 := by decide
theorem aw19_okc : md19c.Ok 3000000 := (mdRecover_ok aw19_okb aw19_lb aw19_lb2).mono (by decide)
theorem aw19_lc : ∀ n ∈ md19c.now.names newB, n.length ≤ 1000 := by decide
set_option maxRecDepth 100000 in
set_option maxHeartbeats 4000000 in
theorem awake19S {w0 w : World} {L : List Res} (S : Sp w0 [] w L) (E : Env w0) : Calls Tryz.prog 9 #[] w fun e w2 => e = .returned (.bool true) ∧ Sp w0 [] w2 L := by
  have HS0 := Lib.hid S
  have HE := Lib.hid E
  clear S E
  go_enter Tryz.func9, Tryz.ntmps9
  go_wp2_with fail
  refine (newS HS0.out).mono ?_
  rintro e w1 ⟨d, rfl, S⟩
  have HS1 := Lib.hid S
  clear S
  go_wp2_with fail
  refine (mdDeliverS 2 7 0 [120] 0 HS1.out HE.out ok_new (by decide) (by decide)).mono ?_
  rw [aw19_1]
  rintro e w2 ⟨rfl, S⟩
  have HS2 := Lib.hid S
  clear S HS1
  dsimp only
  go_wp2_with fail
  refine (mdDeliverS 2 7 0 [121] 1000 HS2.out HE.out aw19_oka (by decide) (by decide)).mono ?_
  rw [aw19_2]
  rintro e w3 ⟨rfl, S⟩
  have HS3 := Lib.hid S
  clear S HS2
  dsimp only
  go_wp2_with fail
  refine (mdNameS 2 7 0 HS3.out HE.out).mono ?_
  rw [aw19_name]
  rintro e w4 ⟨rfl, S⟩
  have HS4 := Lib.hid S
  clear S HS3
  dsimp only
  go_wp2_with fail
  refine (mdParseS nm19 HS4.out HE.out (by decide)).mono ?_
  rw [aw19_3]
  rintro e w5 ⟨rfl, S⟩
  have HS5 := Lib.hid S
  clear S HS4
  dsimp only
  go_wp2_with fail
  refine (mdParseS [48, 50, 47, 55, 46, 48] HS5.out HE.out (by decide)).mono ?_
  rw [aw19_4]
  rintro e w6 ⟨rfl, S⟩
  have HS6 := Lib.hid S
  clear S HS5
  dsimp only
  go_wp2_with fail
  refine (mdNameS 100 1 0 HS6.out HE.out).mono ?_
  rw [aw19_5]
  rintro e w7 ⟨rfl, S⟩
  have HS7 := Lib.hid S
  clear S HS6
  dsimp only
  go_wp2_with fail
  refine (writeS [116, 109, 112, 47, 57, 47, 57, 46, 57] [63] HS7.out (aw19_oka.small (by decide)) (by decide) (by decide)).mono ?_
  rw [aw19_w]
  rintro e w8 ⟨rfl, S⟩
  have HS8 := Lib.hid S
  clear S HS7
  dsimp only
  go_wp2_with fail
  refine (mdRecoverS 3000 HS8.out aw19_okb (by decide) aw19_lb aw19_lb2).mono ?_
  rw [aw19_6]
  rintro e w9 ⟨rfl, S⟩
  have HS9 := Lib.hid S
  clear S HS8
  dsimp only
  go_wp2_with fail
  refine (mdListS 2 3000000 HS9.out HE.out aw19_okc (by decide) aw19_lc).mono ?_
  rw [aw19_7]
  rintro e w10 ⟨v10, l10, rfl, hs10, S10⟩
  obtain rfl := sorted_one hs10
  have HS10 := Lib.hid S10.pull1
  clear hs10 S10 HS9
  go_wp2_with fail
  refine (mdTextsS 2 3000000 HS10.out HE.out aw19_okc (by decide) aw19_lc).mono ?_
  rw [aw19_7]
  rintro e w11 ⟨v11, l11, rfl, hs11, S11⟩
  obtain rfl := sorted_one hs11
  rw [List.map_cons, List.map_nil, aw19_8] at S11
  have HS11 := Lib.hid S11
  clear hs11 S11 HS10
  obtain ⟨g10, c10, rfl⟩ := ((Sp.pick [_, _, _] [2] (by decide) (HS11.out))).textOne
  obtain ⟨g11, c11, rfl⟩ := HS11.out.textOne
  go_wp2_with fail
  refine (listS tmpB HS11.out.pull1 (by decide)).mono ?_
  rw [show md19c.now.names tmpB = [] from rfl]
  rintro e w12 ⟨v12, rfl, S12⟩
  obtain ⟨a12, cp12, rfl⟩ := S12.textSlice
  have HS12 := Lib.hid (Sp.pick [_, _, _, _] [1, 2, 3] (by decide) (S12))
  have k10 := ((Sp.pick [_, _, _, _] [3] (by decide) (S12))).textOneCell
  have k11 := ((Sp.pick [_, _, _, _] [2] (by decide) (S12))).textOneCell
  clear S12 HS11
  go_wp2_with fail
  refine (mdHasS 2 7 0 HS12.out HE.out).mono ?_
  rw [aw19_9]
  rintro e w13 ⟨rfl, S13⟩
  have HS13 := Lib.hid S13
  clear S13 HS12 k10 k11
  go_wp2_with fail
  refine (mdHasS 2 7 1 HS13.out HE.out).mono ?_
  rw [aw19_10]
  rintro e w14 ⟨rfl, S14⟩
  have HS14 := Lib.hid S14
  clear S14 HS13
  go_wp2_with fail
  refine (mdDeliver_nil 1 1 1 [] HS14.out).mono ?_
  rintro e w15 ⟨rfl, S15⟩
  have HS15 := Lib.hid S15
  clear S15 HS14
  go_wp2
  go_ret
  exact ⟨rfl, HS15.out.drop.drop.drop⟩
end Go.Proofs.YtcffickkipicbaaGreatDoor
