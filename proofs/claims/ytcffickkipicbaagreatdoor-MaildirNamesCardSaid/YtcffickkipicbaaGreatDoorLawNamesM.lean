/- MaildirNames: its walk: names, and whose names texts are, are those of the document's answer. Condition: what Go's variables hold. -/
import Derived.Test.YtcffickkipicbaaGreatDoorMdQ
import Derived.Test.YtcffickkipicbaaGreatDoorAw19
import Derived.Test.YtcffickkipicbaaGreatDoorR19w
namespace Go.Proofs.YtcffickkipicbaaGreatDoor
open Go.RowKit Go.Sort Go.Maps

set_option maxRecDepth 100000 in
set_option maxHeartbeats 4000000 in
theorem maildirNames_walk (box id rc : Int) (s : Bs) (W : World) (E : Env W) (_hb : -9223372036854775808 ≤ box ∧ box ≤ 9223372036854775807) (hi : 0 ≤ id ∧ id ≤ 18446744073709551615) (_hr : -9223372036854775808 ≤ rc ∧ rc ≤ 9223372036854775807) (_hs : s.length ≤ maxLen) :
    Calls Tryz.prog 3 #[.int .i64 box, .int .u64 id, .int .i64 rc, .string ⟨s.toArray⟩] W fun e w2 => e = .returned (.bool true) ∧ Ext [] W w2 := by
  obtain ⟨id, rfl⟩ : ∃ k : Nat, id = k := ⟨id.toNat, by omega⟩
  have HS0 := Lib.hid (Sp.nil W [])
  have HE := Lib.hid E
  clear E hi _hs
  by_cases hbig : 1024 < s.length
  · have hb' : (1024 : Int) < s.length := by omega
    go_enter Tryz.func3, Tryz.ntmps3
    go_wp2_with fail
    refine (awake19S HS0.out HE.out).mono ?_
    rintro e w1 ⟨rfl, S⟩
    have HS1 := Lib.hid S
    clear S
    go_wp2
    go_ret
    exact ⟨rfl, HS1.out.ext⟩
  have hb' : (s.length : Int) ≤ 1024 := by omega
  have HSZ : Hid (s.length ≤ 1000000) := by unfold Hid; omega
  clear hbig
  go_enter Tryz.func3, Tryz.ntmps3
  go_wp2_with fail
  refine (awake19S HS0.out HE.out).mono ?_
  rintro e w1 ⟨rfl, S⟩
  have HS1 := Lib.hid S
  clear S
  go_wp2_with fail
  refine (mdNameS box id rc HS1.out HE.out).mono ?_
  have HN2 := Lib.hid (fun w => r19Name_any box id rc w)
  generalize mdName box id rc = q at *
  obtain ⟨nm, ec⟩ := q
  dsimp only
  rintro e w2 ⟨rfl, S2⟩
  have HS2 := Lib.hid S2
  clear S2 HS1
  go_wp2_with fail
  refine (HN2.out _).mono ?_
  rintro e w3 ⟨rfl, hx3⟩
  have HS3 := Lib.hid (HS2.out.ext0 hx3)
  clear hx3 HS2 HN2
  go_wp2_with fail
  refine (mdParseS s HS3.out HE.out HSZ.out).mono ?_
  have HP2 := Lib.hid (fun w => r19Parse_any ⟨s.toArray⟩ w HSZ.out)
  rw [show (ByteArray.mk s.toArray).data.toList = s from rfl] at HP2
  generalize mdParse s = q at *
  obtain ⟨x, y, z, is⟩ := q
  dsimp only
  rintro e w4 ⟨rfl, S4⟩
  have HS4 := Lib.hid S4
  clear S4 HS3
  go_wp2_with fail
  refine (HP2.out _).mono ?_
  rintro e w5 ⟨rfl, hx5⟩
  have HS5 := Lib.hid (HS4.out.ext0 hx5)
  clear hx5 HS4 HP2
  go_wp2
  go_ret
  exact ⟨rfl, HS5.out.ext⟩
end Go.Proofs.YtcffickkipicbaaGreatDoor
