/- The first look of the statements of layer 13 (awake): it tells true. No condition. -/
import Derived.Test.YtpkolkgndhagiaaLg5
namespace Go.Proofs.Ytpkolkgndhagiaa
open Go.RowKit Go.Maps Go.Sort

def aw13a : Dk := (ledOpen Dk.new).1
def aw13b : Dk := (ledNextN aw13a [] 2 5 [107]).1
def aw13c : Dk := (ledNextN aw13b [([107], ⟨2, 2⟩)] 2 5 [107]).1
def aw13d : Dk := (ledNextN aw13c [([107], ⟨4, 4⟩)] 2 5 [107]).1
def aw13s : Bs := LRow.text ⟨[107], 2⟩ ++ LRow.text ⟨[107], 4⟩ ++ LRow.text ⟨[107], 5⟩
theorem aw13_1 : ledOpen Dk.new = (aw13a, some [], 0) := by rfl
theorem aw13_2 : ledNextN aw13a [] 2 5 [107] = (aw13b, [([107], ⟨1, 2⟩)], nonceB 0, 0) := by rfl
theorem aw13_3 : ledNextN aw13b [([107], ⟨1, 2⟩)] 2 5 [107] = (aw13b, [([107], ⟨2, 2⟩)], nonceB 1, 0) := by rfl
theorem aw13_4 : ledNextN aw13b [([107], ⟨2, 2⟩)] 2 5 [107] = (aw13c, [([107], ⟨3, 4⟩)], nonceB 2, 0) := by rfl
theorem aw13_5 : ledOpen aw13c = (aw13c, some [([107], ⟨4, 4⟩)], 0) := by rfl
theorem aw13_6 : ledNextN aw13c [([107], ⟨4, 4⟩)] 2 5 [107] = (aw13d, [([107], ⟨5, 5⟩)], nonceB 4, 0) := by rfl
theorem aw13_7 : ledNextN aw13d [([107], ⟨5, 5⟩)] 2 5 [107] = (aw13d, [([107], ⟨5, 5⟩)], [], 21) := by rfl
theorem aw13_8 : aw13d.now.get ledB = some aw13s := by rfl
theorem aw13_9 : aw13d.now.has ledB = true := by rfl
theorem aw13_10 : ledRows (aw13s ++ [5]) = [⟨[107], 2⟩, ⟨[107], 4⟩, ⟨[107], 5⟩] := by rfl
theorem aw13_11 : (ledRest (aw13s ++ [5])).length = 1 := by rfl
theorem aw13_12 : aw13s.length = 21 := by rfl
theorem aw13_13 : (((aw13s ++ [5]).length : Int) - ((1 : Nat) : Int)) = 21 := by rfl
theorem aw13_rn : Dk.new.Roomy 100 := ⟨by decide, by decide, by decide, by decide, by decide⟩
theorem aw13_ra : aw13a.Roomy 100 := ⟨by decide, by decide, by decide, by decide, by decide⟩
theorem aw13_rb : aw13b.Roomy 100 := ⟨by decide, by decide, by decide, by decide, by decide⟩
theorem aw13_rc : aw13c.Roomy 100 := ⟨by decide, by decide, by decide, by decide, by decide⟩
theorem aw13_rd : aw13d.Roomy 100 := ⟨by decide, by decide, by decide, by decide, by decide⟩
theorem ledOk_1 (a b : Nat) (h : a ≤ b) (h2 : b ≤ 1099511627776) : ledOk [([107], ⟨a, b⟩)] := ⟨by simp, by simp; omega⟩
theorem ledOk_0 : ledOk [] := ⟨by simp, by simp⟩

set_option maxRecDepth 100000 in
set_option maxHeartbeats 4000000 in
theorem awake13S {w0 w : World} {F0 : List Nat} {L : List Res} (S : Sp w0 F0 w L) : Calls Try.prog 13 #[] w fun e w2 => e = .returned (.bool true) ∧ Sp w0 F0 w2 L := by
  have HS0 := Lib.hid S
  have hadd := add_str aw13s [5] (by rw [aw13_12]; decide)
  clear S
  go_enter Try.func13, Try.ntmps13
  go_wp2_with fail
  refine (newS HS0.out).mono ?_
  rintro e w1 ⟨d, rfl, S⟩
  have HS1 := Lib.hid S
  clear S
  go_wp2_with fail
  refine (ledOpenS 2 5 100 Dk.new HS1.out (by decide) (by decide) (by decide) aw13_rn (by decide)).mono ?_
  rw [aw13_1]
  rintro e w2 ⟨p, rfl, S⟩
  have HS2 := Lib.hid S
  clear S HS1
  dsimp only
  go_wp2_with fail
  refine (ledNextNS [107] 100 aw13a HS2.out (by decide) ledOk_0 (by decide) (by decide) aw13_ra (by decide)).mono ?_
  rw [aw13_2]
  rintro e w3 ⟨rfl, S⟩
  have HS3 := Lib.hid S
  clear S HS2
  dsimp only
  go_wp2_with fail
  refine (ledNextNS [107] 100 aw13b HS3.out (by decide) (ledOk_1 1 2 (by decide) (by decide)) (by decide) (by decide) aw13_rb (by decide)).mono ?_
  rw [aw13_3]
  rintro e w4 ⟨rfl, S⟩
  have HS4 := Lib.hid S
  clear S HS3
  dsimp only
  go_wp2_with fail
  refine (ledNextNS [107] 100 aw13b HS4.out (by decide) (ledOk_1 2 2 (by decide) (by decide)) (by decide) (by decide) aw13_rb (by decide)).mono ?_
  rw [aw13_4]
  rintro e w5 ⟨rfl, S⟩
  have HS5 := Lib.hid S
  clear S HS4
  dsimp only
  go_wp2_with fail
  refine (ledCeilingS [107] HS5.out (by decide)).mono ?_
  rintro e w6 ⟨rfl, rfl⟩
  rw [show (lgOf [([107], ⟨3, 4⟩)] [107]).ceil = 4 from rfl]
  have HS6 := Lib.hid HS5.out.pull1
  clear HS5
  go_wp2_with fail
  refine (ledOpenS 2 5 100 aw13c HS6.out (by decide) (by decide) (by decide) aw13_rc (by decide)).mono ?_
  rw [aw13_5]
  rintro e w7 ⟨p2, rfl, S⟩
  have HS7 := Lib.hid S
  clear S HS6
  dsimp only
  go_wp2_with fail
  refine (ledNextNS [107] 100 aw13c HS7.out (by decide) (ledOk_1 4 4 (by decide) (by decide)) (by decide) (by decide) aw13_rc (by decide)).mono ?_
  rw [aw13_6]
  rintro e w8 ⟨rfl, S⟩
  have HS8 := Lib.hid S
  clear S HS7
  dsimp only
  go_wp2_with fail
  refine (ledNextNS [107] 100 aw13d HS8.out (by decide) (ledOk_1 5 5 (by decide) (by decide)) (by decide) (by decide) aw13_rd (by decide)).mono ?_
  rw [aw13_7]
  rintro e w9 ⟨rfl, S⟩
  have HS9 := Lib.hid S
  clear S HS8
  dsimp only
  go_wp2_with fail
  refine (ledOpen_nil 1 1 HS9.out).mono ?_
  rintro e w10 ⟨rfl, S⟩
  have HS10 := Lib.hid S
  clear S HS9
  go_wp2_with fail
  refine (readS ledB HS10.out.pull1 (by decide)).mono ?_
  rw [aw13_8, aw13_9]
  rintro e w11 ⟨rfl, rfl⟩
  dsimp only [Option.getD_some]
  go_wp2_with fail
  refine (ledRowsS (aw13s ++ [5]) HS10.out (by rw [List.length_append, aw13_12]; decide)).mono ?_
  rw [aw13_10, aw13_11, aw13_13]
  rintro e w12 ⟨rv, rfl, S12⟩
  obtain ⟨g, cap, rfl⟩ : ∃ g cap, rv = .slice (some ⟨g, 0, none⟩) 3 cap := by
    rcases S12.rowForm with ⟨_, h⟩ | ⟨g, cap, h⟩
    · cases h
    · exact ⟨g, cap, h⟩
  have hl2 : ∀ y ∈ ([⟨[107], 2⟩, ⟨[107], 4⟩, ⟨[107], 5⟩] : List LRow).map LRow.vals, y.length = 2 := by simp
  have HS12 := Lib.hid S12
  have HCE : Hid (∀ {w : World} {K : List Res}, Sp w0 F0 w (lrowsR (.slice (some ⟨g, 0, none⟩) 3 cap) [⟨[107], 2⟩, ⟨[107], 4⟩, ⟨[107], 5⟩] :: K) → w.cell? ⟨g, 4, none⟩ = some (.string ⟨#[107]⟩) ∧ w.cell? ⟨g, 5, none⟩ = some (.int .u64 5)) := fun {w K} S =>
    ⟨S.rowCell hl2 (i := 2) rfl (j := 0) rfl, S.rowCell hl2 (i := 2) rfl (j := 1) rfl⟩
  clear S12 HS10 hadd hl2
  go_wp2_with fail
  refine (nonceS 0 HS12.out (by decide)).mono ?_
  rintro e w13 ⟨rfl, S⟩
  have HS13 := Lib.hid S
  clear S HS12
  go_wp2_with fail
  refine (nonceS 1 HS13.out (by decide)).mono ?_
  rintro e w14 ⟨rfl, S⟩
  have HS14 := Lib.hid S
  clear S HS13
  go_wp2_with fail
  refine (nonceS 2 HS14.out (by decide)).mono ?_
  rintro e w15 ⟨rfl, S⟩
  have HS15 := Lib.hid S
  clear S HS14
  go_wp2_with fail
  refine (nonceS 4 HS15.out (by decide)).mono ?_
  rintro e w16 ⟨rfl, S⟩
  have HS16 := Lib.hid S
  clear S HS15
  go_wp2_with fail
  refine (ledSpentS [107] HS16.out.pull1 (by decide)).mono ?_
  rw [show (decide (5 ≤ (lgOf [([107], ⟨5, 5⟩)] [107]).c)) = true from rfl]
  rintro e w17 ⟨rfl, S⟩
  have HS17 := Lib.hid S
  clear S HS16
  go_wp2_with fail
  refine (ledCounterS [107] HS17.out (by decide)).mono ?_
  rintro e w18 ⟨rfl, rfl⟩
  rw [show (lgOf [([107], ⟨5, 5⟩)] [107]).c = 5 from rfl]
  obtain ⟨c4, c5⟩ := HCE.out HS17.out.pull1
  have hl := aw13_12
  go_wp2_with fail
  refine (ledKeysS HS17.out (by decide)).mono ?_
  rw [show keysOf [([107], ⟨5, 5⟩)] = [[107]] from rfl]
  rintro e w19 ⟨kv, rfl, S19⟩
  obtain ⟨ka, kcap, rfl⟩ : ∃ a cap, kv = .slice a 1 cap := by
    rcases S19.rowForm with ⟨_, h⟩ | ⟨g, cap, h⟩
    · cases h
    · exact ⟨_, cap, h⟩
  have HS19 := Lib.hid S19
  clear S19 HS17 c4 c5
  go_wp2_with fail
  refine (nonceS 7 HS19.out (by decide)).mono ?_
  rintro e w20 ⟨rfl, S⟩
  have HS20 := Lib.hid S
  clear S HS19
  have hl7 : (nonceB 7).length = 12 := by rfl
  go_wp2
  go_ret
  exact ⟨rfl, (Sp.pick [_, _, _, _, _] [] (by decide) (HS20.out))⟩
end Go.Proofs.Ytpkolkgndhagiaa
