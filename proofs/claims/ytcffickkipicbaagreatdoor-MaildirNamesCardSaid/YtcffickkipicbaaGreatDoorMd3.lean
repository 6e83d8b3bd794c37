/- maildir: Parse. Conditions: the lengths fit. -/
import Derived.Test.YtcffickkipicbaaGreatDoorMd2
namespace Go.Proofs.YtcffickkipicbaaGreatDoor
open Go.RowKit Go.Sort

theorem cutAny (s : Bs) (c : UInt8) (w : World) (E : Env w) (hs : s.length ≤ 1000000) :
    Calls Tryz.prog 45 #[.string ⟨s.toArray⟩, .string ⟨#[c]⟩] w fun e w2 => e = .returned (.tuple #[.string ⟨(Lib.cut s [c]).1.toArray⟩, .string ⟨(Lib.cut s [c]).2.1.toArray⟩, .bool (Lib.cut s [c]).2.2]) ∧ Grown w w2 := by
  obtain ⟨m, hm⟩ := E.max
  exact (Tryz.strings_Cut ⟨s.toArray⟩ ⟨#[c]⟩ m w (by show s.length < _; omega) hm).mono fun e w2 ⟨he, n, hw⟩ => ⟨he, by rw [hw]; exact (Grown.refl w).drewN n⟩
theorem cut_len (s : Bs) (c : UInt8) : (Lib.cut s [c]).1.length ≤ s.length ∧ (Lib.cut s [c]).2.1.length ≤ s.length := by
  unfold Lib.cut
  split
  · simp only [List.length_take, List.length_drop]
    omega
  · simp
theorem numRd_le (s : Bs) : numRd s ≤ 18446744073709551615 := by
  unfold numRd
  split
  · split
    · rename_i u h
      have := Lib.parseUintB_le h
      simpa using this
    · omega
    · omega
  · omega
theorem mdIs_parses {s : Bs} (h : mdIs s = true) : parsesB (Lib.cut s [47]).1 = true ∧ parsesB (Lib.cut (Lib.cut s [47]).2.1 [46]).1 = true ∧ parsesB (Lib.cut (Lib.cut s [47]).2.1 [46]).2.1 = true := by
  obtain ⟨hok, hs⟩ := mdIs_sound h
  generalize (mdRead s).1 = box at *
  generalize (mdRead s).2.1 = id at *
  generalize (mdRead s).2.2 = to at *
  obtain ⟨_, h2, _, h4, _, h6⟩ := hok
  have e : nameB box id to = Lib.decDigits box ++ 47 :: (Lib.decDigits id ++ 46 :: Lib.decDigits to) := by simp [nameB]
  rw [hs, e, cut_one _ _ _ (not_mem_dec (by decide) box)]
  dsimp only
  rw [cut_one _ _ _ (not_mem_dec (by decide) id)]
  unfold parsesB
  dsimp only
  rw [parse_dec (by omega), parse_dec (by omega), parse_dec (by omega)]
  exact ⟨rfl, rfl, rfl⟩
set_option maxRecDepth 100000 in
set_option maxHeartbeats 2000000 in
theorem mdParse_any (s : Bs) (w : World) (E : Env w) (hs : s.length ≤ 1000000) :
    Calls Tryz.prog 12 #[.string ⟨s.toArray⟩] w fun e w2 => e = .returned (.tuple #[.int .i64 (mdParse s).1, .int .u64 (mdParse s).2.1, .int .i64 (mdParse s).2.2.1, .bool (mdParse s).2.2.2]) ∧ Ext [] w w2 ∧ (mdIs s = true → Grown w w2) := by
  have HE := Lib.hid E
  have HMP : Hid (mdIs s = true → _) := Lib.hid (@mdIs_parses s)
  have HRD : Hid (mdRead s = (min (numRd (Lib.cut s [47]).1) 100, numRd (Lib.cut (Lib.cut s [47]).2.1 [46]).1, min (numRd (Lib.cut (Lib.cut s [47]).2.1 [46]).2.1) 10)) := rfl
  have HC1 := Lib.hid (cutAny s 47 w E hs)
  have HL1 := Lib.hid (cut_len s 47)
  generalize Lib.cut s [47] = c1 at *
  obtain ⟨a, rest, f1⟩ := c1
  dsimp only at *
  have HL2 := Lib.hid (cut_len rest 46)
  have HC2 : Hid (∀ w2, Ext [] w w2 → _) := Lib.hid (fun w2 (hx : Ext [] w w2) => cutAny rest 46 w2 (E.ext hx) (by have := HL1.out; omega))
  generalize Lib.cut rest [46] = c2 at *
  obtain ⟨b, c, f2⟩ := c2
  dsimp only at *
  clear E
  go_enter Tryz.func12, Tryz.ntmps12
  go_wp2_with fail
  refine HC1.out.mono ?_
  rintro e w1 ⟨rfl, hg1⟩
  have HG1 := Lib.hid hg1
  clear hg1
  go_wp2_with fail
  refine (HC2.out _ HG1.out.ext).mono ?_
  rintro e w2 ⟨rfl, hg2⟩
  have HG2 := Lib.hid (HG1.out.trans hg2)
  clear hg2 HG1
  go_wp2_with fail
  refine (number_any a _ (HE.out.ext HG2.out.ext) (by have := HL1.out; omega)).mono ?_
  rintro e w3 ⟨rfl, hx3, hg3⟩
  have HX3 := Lib.hid (HG2.out.ext.trans hx3 (by simp))
  have HG3 : Hid (parsesB a = true → Grown w w3) := fun h => HG2.out.trans (hg3 h)
  clear hx3 hg3
  have hna := numRd_le a
  generalize numRd a = na at *
  go_wp2_with fail
  refine (number_any b _ (HE.out.ext HX3.out) (by have := HL1.out; have := HL2.out; omega)).mono ?_
  rintro e w4 ⟨rfl, hx4, hg4⟩
  have HX4 := Lib.hid (HX3.out.trans hx4 (by simp))
  have HG4 : Hid (parsesB a = true → parsesB b = true → Grown w w4) := fun h h2 => (HG3.out h).trans (hg4 h2)
  clear hx4 hg4 HX3 HG3
  have hnb := numRd_le b
  generalize numRd b = nb at *
  go_wp2_with fail
  refine (number_any c _ (HE.out.ext HX4.out) (by have := HL1.out; have := HL2.out; omega)).mono ?_
  rintro e w5 ⟨rfl, hx5, hg5⟩
  have HX5 := Lib.hid (HX4.out.trans hx5 (by simp))
  have HG5 : Hid (mdIs s = true → Grown w w5) := fun h => (HG4.out (HMP.out h).1 (HMP.out h).2.1).trans (hg5 (HMP.out h).2.2)
  clear hx5 hg5 HX4 HG4 HMP
  have hnc := numRd_le c
  generalize numRd c = nc at *
  go_wp2_with fail
  rw [show (min (na : Int) 100) = ((min na 100 : Nat) : Int) by omega, show (min (nc : Int) 10) = ((min nc 10 : Nat) : Int) by omega]
  generalize min na 100 = x at *
  generalize min nc 10 = z at *
  refine (mdName_any x nb z _ (HE.out.ext HX5.out)).mono ?_
  have HIS : Hid (mdIs s = (decide (mdOk x nb z) && (nameB x nb z == s))) := by unfold mdIs; rw [HRD.out]; exact Eq.refl _
  have HPS : Hid (mdParse s = if mdIs s then (x, nb, z, true) else (0, 0, 0, false)) := by unfold mdParse; rw [HRD.out]; exact Eq.refl _
  have HNM : Hid (mdName x nb z = if mdOk x nb z then (nameB x nb z, 0) else ([], 3)) := by unfold mdName; rw [Int.toNat_natCast, Int.toNat_natCast]; exact Eq.refl _
  generalize mdName x nb z = q at *
  obtain ⟨t, ec⟩ := q
  dsimp only
  rintro e w6 ⟨rfl, hg6⟩
  have HX6 := Lib.hid (HX5.out.trans hg6.ext (by simp))
  have HG6 : Hid (mdIs s = true → Grown w w6) := fun h => (HG5.out h).trans hg6
  clear hg6 HX5 HG5 hna hnb hnc
  by_cases hok : mdOk x nb z
  · have hq := HNM.out
    rw [if_pos hok] at hq
    simp only [Prod.mk.injEq] at hq
    obtain ⟨rfl, rfl⟩ := hq
    by_cases hs2 : nameB x nb z = s
    · have HI : Hid (mdIs s = true) := by rw [HIS.out, hs2]; simp [hok, Hid]
      have HV : Hid (mdParse s = (x, nb, z, true)) := by rw [HPS.out, HI.out]; exact Eq.refl _
      have t1 : (nameB x nb z == s) = true := by simpa using hs2
      clear hok hs2 HIS HPS HNM
      go_wp2
      refine bodyPost_ret (v := .tuple #[.int .i64 x, .int .u64 nb, .int .i64 z, .bool true]) (by simp [results, Tryz.results12, go_sem]) rfl ⟨by rw [HV.out], HX6.out, HG6.out⟩
    · have HI : Hid (mdIs s = false) := by rw [HIS.out]; simp [hs2, Hid]
      have HV : Hid (mdParse s = (0, 0, 0, false)) := by rw [HPS.out, HI.out]; exact Eq.refl _
      have t1 : (nameB x nb z == s) = false := by simpa using hs2
      clear hok hs2 HIS HPS HNM
      go_wp2
      refine bodyPost_ret (v := .tuple #[.int .i64 0, .int .u64 0, .int .i64 0, .bool false]) (by simp [results, Tryz.results12, go_sem]) rfl ⟨by rw [HV.out] <;> rfl, HX6.out, HG6.out⟩
  · have hq := HNM.out
    rw [if_neg hok] at hq
    simp only [Prod.mk.injEq] at hq
    obtain ⟨rfl, rfl⟩ := hq
    have HI : Hid (mdIs s = false) := by rw [HIS.out]; simp [hok, Hid]
    have HV : Hid (mdParse s = (0, 0, 0, false)) := by rw [HPS.out, HI.out]; exact Eq.refl _
    clear hok HIS HPS HNM
    go_wp2
    refine bodyPost_ret (v := .tuple #[.int .i64 0, .int .u64 0, .int .i64 0, .bool false]) (by simp [results, Tryz.results12, go_sem]) rfl ⟨by rw [HV.out] <;> rfl, HX6.out, HG6.out⟩
end Go.Proofs.YtcffickkipicbaaGreatDoor
