/- The first look of the statements of layer 14 (awake): it tells true. No condition. -/
import Derived.Test.YtpkolkgndhagiaaRing4
namespace Go.Proofs.Ytpkolkgndhagiaa
open Go.RowKit Go.Maps

def aw14a : Dk := (ringOpen Dk.new).1
def aw14b : Dk := (ringBegin aw14a [] [97]).1
def aw14c : Dk := (ringEnd aw14b [([97], ⟨2, 1⟩)] [97]).1
theorem aw14_1 : ringOpen Dk.new = (aw14a, some [], 0) := by rfl
theorem aw14_2 : ringBegin aw14a [] [97] = (aw14b, [([97], ⟨2, 1⟩)], 2, 0) := by rfl
theorem aw14_3 : ringBegin aw14b [([97], ⟨2, 1⟩)] [97] = (aw14b, [([97], ⟨2, 1⟩)], 0, 11) := by rfl
theorem aw14_4 : ringEnd aw14b [([97], ⟨2, 1⟩)] [97] = (aw14c, [([97], ⟨2, 0⟩)], 0) := by rfl
theorem aw14_5 : ringEnd aw14c [([97], ⟨2, 0⟩)] [97] = (aw14c, [([97], ⟨2, 0⟩)], 10) := by rfl
theorem aw14_6 : ringOpen aw14c = (aw14c, some [([97], ⟨2, 0⟩)], 0) := by rfl
theorem aw14_ra : aw14a.Roomy 100 := ⟨by decide, by decide, by decide, by decide, by decide⟩
theorem aw14_rb : aw14b.Roomy 100 := ⟨by decide, by decide, by decide, by decide, by decide⟩
theorem aw14_rc : aw14c.Roomy 100 := ⟨by decide, by decide, by decide, by decide, by decide⟩
theorem aw14_rn : Dk.new.Roomy 100 := ⟨by decide, by decide, by decide, by decide, by decide⟩

theorem ringOk_1 (n o : Nat) (hn : n ≤ 1000000) (ho : o ≤ 1000000) : ringOk [([97], ⟨n, o⟩)] := ⟨by simp, by simp; omega⟩
theorem ringOk_0 : ringOk [] := ⟨by decide, by simp⟩
set_option maxRecDepth 100000 in
set_option maxHeartbeats 4000000 in
theorem awake14S {w0 w : World} {F0 : List Nat} {L : List Res} (S : Sp w0 F0 w L) : Calls Try.prog 30 #[] w fun e w2 => e = .returned (.bool true) ∧ Sp w0 F0 w2 L := by
  have HS0 := Lib.hid S
  clear S
  go_enter Try.func30, Try.ntmps30
  go_wp2_with fail
  refine (newS HS0.out).mono ?_
  rintro e w1 ⟨d, rfl, S⟩
  have HS1 := Lib.hid S
  clear S
  go_wp2_with fail
  refine (ringOpenS 100 Dk.new HS1.out aw14_rn (by decide)).mono ?_
  rw [aw14_1]
  rintro e w2 ⟨p, rfl, S⟩
  have HS2 := Lib.hid S
  clear S HS1
  dsimp only
  go_wp2_with fail
  refine (ringBeginS [97] 100 aw14a HS2.out (by decide) ringOk_0 aw14_ra (by decide)).mono ?_
  rw [aw14_2]
  rintro e w3 ⟨rfl, S⟩
  have HS3 := Lib.hid S
  clear S HS2
  dsimp only
  go_wp2_with fail
  refine (ringBeginS [97] 100 aw14b HS3.out (by decide) (ringOk_1 2 1 (by decide) (by decide)) aw14_rb (by decide)).mono ?_
  rw [aw14_3]
  rintro e w4 ⟨rfl, S⟩
  have HS4 := Lib.hid S
  clear S HS3
  dsimp only
  go_wp2_with fail
  refine (ringStateS [97] HS4.out (by decide)).mono ?_
  rw [show (ringState [([97], ⟨2, 1⟩)] [97]) = ⟨2, 1⟩ from rfl]
  rintro e w5 ⟨rfl, S⟩
  have HS5 := Lib.hid S
  clear S HS4
  have S5 := HS5.out.box #[.int .u64 2, .int .u64 1] 67
  have HS5b := Lib.hid S5.pull2.pull2
  clear S5
  dsimp only
  go_wp2_with fail
  refine (ringEndS [97] 100 aw14b HS5b.out (by decide) (ringOk_1 2 1 (by decide) (by decide)) aw14_rb (by decide)).mono ?_
  rw [aw14_4]
  rintro e w6 ⟨rfl, S⟩
  have HS6 := Lib.hid S
  clear S HS5
  clear HS5b
  dsimp only
  go_wp2_with fail
  refine (ringEndS [97] 100 aw14c HS6.out (by decide) (ringOk_1 2 0 (by decide) (by decide)) aw14_rc (by decide)).mono ?_
  rw [aw14_5]
  rintro e w7 ⟨rfl, S⟩
  have HS7 := Lib.hid S
  clear S HS6
  dsimp only
  have HS7b := Lib.hid HS7.out.pull1
  go_wp2_with fail
  refine (ringOpenS 100 aw14c HS7b.out aw14_rc (by decide)).mono ?_
  rw [aw14_6]
  rintro e w8 ⟨p2, rfl, S⟩
  have HS8 := Lib.hid S
  clear S HS7
  clear HS7b
  dsimp only
  go_wp2_with fail
  refine (ringOpen_nil HS8.out).mono ?_
  rintro e w9 ⟨rfl, S⟩
  have HS9 := Lib.hid S
  clear S HS8
  have c := (Sp.pick [_, _, _, _] [3] (by decide) (HS9.out)).cell
  go_wp2_with fail
  refine (ringStateS [97] HS9.out (by decide)).mono ?_
  rw [show (ringState [([97], ⟨2, 0⟩)] [97]) = ⟨2, 0⟩ from rfl]
  rintro e w10 ⟨rfl, S⟩
  have HS10 := Lib.hid S
  clear S HS9
  clear c
  dsimp only
  go_wp2_with fail
  refine (ringStateS [98] HS10.out (by decide)).mono ?_
  rw [show (ringState [([97], ⟨2, 0⟩)] [98]) = ⟨1, 0⟩ from rfl]
  rintro e w11 ⟨rfl, S⟩
  have HS11 := Lib.hid S
  clear S HS10
  dsimp only
  go_wp2_with fail
  refine (ringLiveS [97] 2 HS11.out (by decide) (by decide)).mono ?_
  rw [show (ringState [([97], ⟨2, 0⟩)] [97]) = ⟨2, 0⟩ from rfl]
  rintro e w12 ⟨rfl, S⟩
  have HS12 := Lib.hid S
  clear S HS11
  rw [show (decide (0 < 2) && (decide (2 = (⟨2, 0⟩ : RSt).now) || decide (2 = (⟨2, 0⟩ : RSt).old))) = true from rfl]
  go_wp2_with fail
  refine (ringLiveS [97] 1 HS12.out (by decide) (by decide)).mono ?_
  rw [show (ringState [([97], ⟨2, 0⟩)] [97]) = ⟨2, 0⟩ from rfl]
  rintro e w13 ⟨rfl, S⟩
  have HS13 := Lib.hid S
  clear S HS12
  rw [show (decide (0 < 1) && (decide (1 = (⟨2, 0⟩ : RSt).now) || decide (1 = (⟨2, 0⟩ : RSt).old))) = false from rfl]
  go_wp2_with fail
  refine (ringLiveS [97] 0 HS13.out (by decide) (by decide)).mono ?_
  rw [show (ringState [([97], ⟨2, 0⟩)] [97]) = ⟨2, 0⟩ from rfl]
  rintro e w14 ⟨rfl, S⟩
  have HS14 := Lib.hid S
  clear S HS13
  rw [show (decide (0 < 0) && (decide (0 = (⟨2, 0⟩ : RSt).now) || decide (0 = (⟨2, 0⟩ : RSt).old))) = false from rfl]
  go_wp2_with fail
  refine (ringDomainsS HS14.out (by decide)).mono ?_
  rintro e w15 ⟨v, rfl, S⟩
  obtain ⟨F, ⟨_, hrow⟩, _⟩ := S.take
  obtain ⟨a, cap, rfl⟩ : ∃ a cap, v = .slice a 1 cap := by
    rcases hrow.2 with ⟨_, h0⟩ | ⟨g, cap, cur, he, _⟩
    · cases h0
    · exact ⟨_, _, he⟩
  have HS15 := Lib.hid S
  clear S hrow HS14
  go_wp2_with fail
  refine (ringKeyS [97] 1 HS15.out (by decide) (by decide)).mono ?_
  rw [show ringKey [97] 1 = [1, 1, 97, 1, 1] from rfl]
  rintro e w16 ⟨rfl, S⟩
  have HS16 := Lib.hid S
  clear S HS15
  go_wp2
  go_ret
  exact ⟨rfl, (Sp.pick [_, _, _, _, _] [] (by decide) (HS16.out))⟩
end Go.Proofs.Ytpkolkgndhagiaa
