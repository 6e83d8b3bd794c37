/- ledger: Next. Conditions: the lengths fit. -/
import Derived.Test.YtpkolkgndhagiaaLg2
import Derived.Deep.QuietTactic
import Derived.BigQuiet
import Derived.IntWalk
namespace Go.Proofs.Ytpkolkgndhagiaa
open Go.RowKit Go.Maps

/-- What a key's next nonce is: the disk, the counters, the nonce, the error. -/
def ledNextN (D : Dk) (M : Mp Cnt) (step most : Nat) (x : Bs) : Dk × Mp Cnt × Bs × Int :=
  if 300 < x.length then (D, M, [], 5)
  else if most ≤ (lgOf M x).c then (D, M, [], 21)
  else if (lgOf M x).c = (lgOf M x).ceil then
    if (ledReserve D x (min ((lgOf M x).ceil + step) most)).2 ≠ 0 then ((ledReserve D x (min ((lgOf M x).ceil + step) most)).1, M, [], (ledReserve D x (min ((lgOf M x).ceil + step) most)).2)
    else ((ledReserve D x (min ((lgOf M x).ceil + step) most)).1, M.put x ⟨(lgOf M x).c + 1, min ((lgOf M x).ceil + step) most⟩, nonceB (lgOf M x).c, 0)
  else (D, M.put x ⟨(lgOf M x).c + 1, (lgOf M x).ceil⟩, nonceB (lgOf M x).c, 0)
def ledOk (M : Mp Cnt) : Prop := M.length ≤ 1000000 ∧ ∀ p ∈ M, p.2.c ≤ p.2.ceil ∧ p.2.ceil ≤ 1099511627776
theorem ledOk.of {M : Mp Cnt} (h : ledOk M) (x : Bs) : (lgOf M x).c ≤ (lgOf M x).ceil ∧ (lgOf M x).ceil ≤ 1099511627776 := by
  unfold lgOf Mp.get
  cases hf : M.find? fun p => p.1 == x with
  | none => simp
  | some p => exact h.2 p (List.mem_of_find?_eq_some hf)

section
variable {w0 w : World} {F0 : List Nat} {L : List Res} {p d step most : Nat} {M : Mp Cnt}
set_option maxRecDepth 100000 in
set_option maxHeartbeats 2000000 in
theorem ledNextNS (x : Bs) (k : Nat) (D : Dk) (S : Sp w0 F0 w (ledR p d step most M :: diskR d D :: L)) (hx : x.length ≤ 1000000) (hM : ledOk M) (hstep : step ≤ 1000) (hmost : most ≤ 1099511627776) (hD : D.Roomy k) (hk : k ≤ 800000000) :
    Calls Try.prog 20 #[.pointer (some ⟨p, 0, none⟩), .string ⟨x.toArray⟩] w fun e w2 => e = .returned (.tuple #[.string ⟨(ledNextN D M step most x).2.2.1.toArray⟩, .int .i64 (ledNextN D M step most x).2.2.2]) ∧ Sp w0 F0 w2 (ledR p d step most (ledNextN D M step most x).2.1 :: diskR d (ledNextN D M step most x).1 :: L) := by
  have HS := Lib.hid S
  have HX := Lib.hid hx
  have HM := Lib.hid hM
  have HD := Lib.hid hD
  have HK := Lib.hid hk
  have hb := hM.of x
  have hx' : (x.length : Int) ≤ 1000000 := by omega
  have HXM : Hid (x.length ≤ maxLen) := by unfold Hid maxLen; omega
  have HN : Hid (ledNextN D M step most x = _) := Lib.hid (ledNextN.eq_1 D M step most x)
  have HGC := Lib.hid (getCnt M x)
  generalize hs : lgOf M x = y at *
  have HE := Lib.hid hs
  clear hs
  obtain ⟨a, b⟩ := y
  dsimp only at *
  obtain ⟨hab, hb40⟩ := hb
  clear S hM hD hk hx
  by_cases h300 : 300 < x.length
  · have h300' : (300 : Int) < x.length := by omega
    have HV : Hid (ledNextN D M step most x = (D, M, [], 5)) := by rw [HN.out, if_pos h300]; trivial
    clear HN h300
    go_enter Try.func20, Try.ntmps20
    go_wp2
    go_ret2
    rw [HV.out]
    exact ⟨rfl, HS.out⟩
  have h300' : (x.length : Int) ≤ 300 := by omega
  rw [if_neg h300] at HN
  clear h300
  by_cases hsp : most ≤ a
  · have HV : Hid (ledNextN D M step most x = (D, M, [], 21)) := by rw [HN.out, if_pos hsp]; trivial
    have tsp : decide (most ≤ a) = true := by simpa using hsp
    clear HN hsp
    go_enter Try.func20, Try.ntmps20
    go_wp2_with fail
    refine (ledSpentS x HS.out HXM.out).mono ?_
    rw [HE.out]
    dsimp only
    rw [tsp]
    rintro e w1 ⟨rfl, S1⟩
    have HS1 := Lib.hid S1
    clear S1
    go_wp2
    go_ret2
    rw [HV.out]
    exact ⟨rfl, HS1.out⟩
  rw [if_neg hsp] at HN
  have tsp : decide (most ≤ a) = false := by simpa using hsp
  have HSP := Lib.hid hsp
  clear hsp
  go_enter Try.func20, Try.ntmps20
  go_wp2_with fail
  refine (ledSpentS x HS.out HXM.out).mono ?_
  rw [HE.out]
  dsimp only
  rw [tsp]
  rintro e w1 ⟨rfl, S1⟩
  obtain ⟨m, S2⟩ := S1.exOpen
  have hl := ((Sp.pick [_, _] [1] (by decide) (S2.part))).map.look (t := 102) keyedStrL Try.underlying102 (zeroCnt _) (keyStrL x HXM.out)
  rw [HGC.out] at hl
  have c2 := S2.part.cell
  have l2 := S2.part.boxlt
  have HS2 := Lib.hid S2.part
  have HAB : Hid (a ≤ b ∧ b ≤ 1099511627776 ∧ a < most ∧ step ≤ 1000 ∧ most ≤ 1099511627776) := ⟨hab, hb40, by have := HSP.out; omega, hstep, hmost⟩
  have i1 : (a : Int) ≤ 1099511627776 := by omega
  have i2 : (b : Int) ≤ 1099511627776 := by omega
  have i3 : (step : Int) ≤ 1000 := by omega
  have i4 : (most : Int) ≤ 1099511627776 := by omega
  clear S1 S2 HS hab hb40 hstep hmost tsp
  have HFIN : Hid (∀ (m : Nat) (c : Nat) (D2 : Dk) (wz : World), c < 18446744073709551616 → Sp w0 F0 wz (boxR w1.heap.size #[.int .u64 ((a : Int) + 1), .int .u64 c] 106 :: boxR p #[.pointer (some ⟨d, 0, none⟩), .int .u64 step, .int .u64 most, .map (some m)] 104 :: mapR 9 encC m M :: diskR d D2 :: L) →
      ∃ w5, (Instr.mapUpdate 102 (.map (some m)) (.string ⟨x.toArray⟩) (.agg #[.int .u64 ((a : Int) + 1), .int .u64 c])).run Try.prog wz.drew = .ok () w5 ∧ Sp w0 F0 w5 (ledR p d step most (M.put x ⟨a + 1, c⟩) :: diskR d D2 :: L)) := fun m c D2 wz hc S => by
    obtain ⟨w5, hrun, S5, _⟩ := ((Sp.pick [_, _, _, _] [2, 1, 3] (by decide) (S))).drew.mapPut (t := 102) keyedStrL Try.underlying102 (by have := HM.out.1; unfold maxLen; omega) (keyStrL x HXM.out) ⟨a + 1, c⟩
    exact ⟨w5, hrun, S5.pull1.glue.exShut m⟩
  by_cases hcc : a = b
  · subst hcc
    rw [if_pos rfl] at HN
    have HS3 := Lib.hid (HS2.out.box #[.int .u64 a, .int .u64 a] 106)
    have em : min ((a : Int) + step) (most : Int) = ((min (a + step) most : Nat) : Int) := by omega
    have ew : IntKind.u64.wrap ((a : Int) + step) = (a : Int) + step := by rw [IntKind.wrap_u64]; omega
    have HC18 : Hid (min (a + step) most < 18446744073709551616) := by unfold Hid; omega
    have tcc : ((a : Int) == (a : Int)) = true := by simp
    go_upto_region 7 with (fail)
    generalize w1.alloc (.cells #[.int .u64 a, .int .u64 a] 106) = w3 at *
    generalize w1.heap.size = q3 at *
    clear c2 l2 hl
    refine wp_region_text (S := fun wx => Sp w0 F0 wx (boxR q3 #[.int .u64 a, .int .u64 a] 106 :: boxR p #[.pointer (some ⟨d, 0, none⟩), .int .u64 step, .int .u64 most, .map (some m)] 104 :: mapR 9 encC m M :: diskR d D :: L) ∧ (∀ o, wx.cell? ⟨q3, o, none⟩ = (#[.int .u64 a, .int .u64 a])[o]?) ∧ (∀ o, wx.cell? ⟨p, o, none⟩ = (#[.pointer (some ⟨d, 0, none⟩), .int .u64 step, .int .u64 most, .map (some m)])[o]?)) (by kernel_rfl) (by kernel_rfl) ⟨(HS3.out).drew, (Sp.pick [_, _, _, _] [0] (by decide) ((HS3.out).drew)).cell, (Sp.pick [_, _, _, _] [1] (by decide) ((HS3.out).drew)).cell⟩ ?_
    repeat
      refine Exists.intro ?_ (And.intro (fun wS hS K hK => ?_) (And.intro ?_ ?_))
      rotate_left 1
      · obtain ⟨hS1, hS2, hS3⟩ := hS
        first
          | (refine if_unwanted rfl ?_; simp only [Act.put, List.setIfInBounds_toArray, List.set_cons_zero, List.set_cons_succ]; exact hK.out _ ⟨hS1, hS2, hS3⟩)
          | (refine if_wanted rfl ?_; go_simp; exact hK.out _ ⟨hS1, hS2, hS3⟩)
      · rfl
    intro wE hE
    have HSE := Lib.hid hE.1
    clear hE
    have HS4 := Lib.hid (((Sp.pick [_, _, _, _] [1, 2, 3, 0] (by decide) (HSE.out))).glue.exShut (f := fun m : Nat => (boxR p #[.pointer (some ⟨d, 0, none⟩), .int .u64 step, .int .u64 most, .map (some m)] 104).and (mapR 9 encC m M)) m)
    clear HSE HS3 HS2 ew
    go_wp2_with fail
    first | rw [em] | skip
    refine (ledReserveS x (min (a + step) most) k D HS4.out HX.out HC18.out HD.out HK.out).mono ?_
    generalize min (a + step) most = c at *
    generalize ledReserve D x c = R at *
    obtain ⟨D2, ec⟩ := R
    dsimp only at *
    rintro e w4 ⟨rfl, S⟩
    clear HS4 em
    by_cases he : ec = 0
    · subst he
      rw [if_neg (by simp)] at HN
      obtain ⟨m2, S5⟩ := S.exOpen
      have S6 := (Sp.pick [_, _, _, _] [3, 0, 1, 2] (by decide) (S5.part))
      have c6 := S6.cell
      have f6 := S6.free
      have p6 := S6.pull1.cell
      have S7 := (S6.set (o := 1) (.int .u64 c)).set (o := 0) (.int .u64 ((a : Int) + 1))
      have p7 := S7.pull1.cell
      obtain ⟨w5, hrun, S8⟩ := HFIN.out m2 c D2 _ HC18.out S7
      have HS8 := Lib.hid S8
      have c7 := S7.cell
      have HC7 := Lib.hid c7
      have HP7 := Lib.hid p7
      have HRUN := Lib.hid hrun
      clear S S5 S6 S7 S8 HFIN c7 p7 hrun
      go_wp2_with fail
      clear c6 f6 p6
      generalize (w4.setCell ⟨q3, 1, none⟩ (.int .u64 c)).setCell ⟨q3, 0, none⟩ (.int .u64 ((a : Int) + 1)) = wz at *
      have c7 : ∀ o, wz.cell? ⟨q3, o, none⟩ = #[.int .u64 ((a : Int) + 1), .int .u64 c][o]? := HC7.out
      have p7 := HP7.out
      have hrun := HRUN.out
      clear HC7 HP7 HRUN
      go_region
      all_goals
        clear hrun c7 p7
        go_wp2_with (go_at_call 16; refine (nonceS a HS8.out (by have := HAB.out; omega)).mono ?_; rintro e w6 ⟨rfl, S6⟩; have HS6 := Lib.hid S6; clear S6)
        go_ret2
        rw [HN.out]
        exact ⟨rfl, (Sp.pick [_, _] [0, 1] (by decide) (HS6.out))⟩
    · have t1 : (ec != 0) = true := by simpa using he
      have HE2 := Lib.hid he
      have HS5 := Lib.hid S
      clear he S
      rw [if_pos HE2.out] at HN
      go_wp2
      go_ret2
      rw [HN.out]
      exact ⟨rfl, (Sp.pick [_, _, _] [0, 1] (by decide) (HS5.out))⟩
  · have tcc : ((a : Int) == (b : Int)) = false := by simp; omega
    rw [if_neg hcc] at HN
    have S3 := HS2.out.box #[.int .u64 ((a : Int) + 1), .int .u64 b] 106
    have c3 := S3.cell
    obtain ⟨w5, hrun, S5⟩ := HFIN.out m b D _ (by have := HAB.out; omega) S3
    have HS5 := Lib.hid S5
    clear hcc S3 S5 HFIN
    go_wp2_with fail
    go_region
    all_goals
      clear hrun hl c2 c3
      go_wp2_with (go_at_call 16; refine (nonceS a HS5.out (by have := HAB.out; omega)).mono ?_; rintro e w6 ⟨rfl, S6⟩; have HS6 := Lib.hid S6; clear S6)
      go_ret2
      rw [HN.out]
      exact ⟨rfl, HS6.out⟩
end
end Go.Proofs.Ytpkolkgndhagiaa
