/- LedgerSpent: its walk: a key tells as many nonces as it may, and then that it is spent. -/
import Derived.Test.YtpkolkgndhagiaaLfP
import Derived.Test.YtpkolkgndhagiaaLawAhead
import Derived.Test.YtpkolkgndhagiaaByt
namespace Go.Proofs.Ytpkolkgndhagiaa
open Go.RowKit Go.Maps Go.Sort

/-- Behind i nonces of a key, of n, on a disk that never fails. -/
structure PInv (i n step : Nat) (D : Dk) (M : Mp Cnt) (l : List LRow) (key : Bs) : Prop where
  inv : LInv i step n D M l []
  dead : D.dead = false
  fuse : D.fuse < 0
  quota : 1048576 ≤ D.quota
  count : (lgOf M key).c = i
  high : (lgOf M key).ceil ≤ n
  other : ∀ k, k ≠ key → lgOf M k = ⟨0, 0⟩
theorem pinv_new (n step : Nat) (key : Bs) (h : 1 ≤ step) : PInv 0 n step aw13a [] [] key :=
  ⟨linv_new step n h, rfl, by decide, by decide, rfl, by simp [lgOf, Mp.get], fun _ _ => rfl⟩
theorem PInv.next {i n step : Nat} {D : Dk} {M : Mp Cnt} {l : List LRow} {key : Bs} (h : PInv i n step D M l key) (hi : i < n) (hn : n ≤ 100) (hk : key.length ≤ 300) :
    ∃ D2 M2 l2, ledNextN D M step n key = (D2, M2, nonceB i, 0) ∧ PInv (i + 1) n step D2 M2 l2 key ∧ (lgOf M2 key).c = i + 1 ∧ i + 1 ≤ (lgOf M2 key).ceil ∧ (lgOf M2 key).ceil ≤ n := by
  have h0 := ledNextN_ok h.inv (by omega) h.dead h.fuse h.quota key hk (by rw [h.count]; exact hi)
  have hN := h.inv.next key (by omega) (by omega)
  have hhi := h.high
  have hct := h.count
  generalize ledNextN D M step n key = R at *
  obtain ⟨D2, M2, s2, e2⟩ := R
  dsimp only at *
  subst h0
  rcases hN with ⟨he, _⟩ | ⟨_, _, _, hs, hq, ceil, hM, hI⟩
  · exact absurd rfl he
  · subst hs hM
    have hother : ∀ k, k ≠ key → lgOf (M.put key ⟨(lgOf M key).c + 1, ceil⟩) k = ⟨0, 0⟩ := fun k hk => by
      rw [lgOf_put, if_neg (fun e => hk e.symm)]
      exact h.other k hk
    have hself : lgOf (M.put key ⟨(lgOf M key).c + 1, ceil⟩) key = ⟨i + 1, ceil⟩ := by rw [lgOf_put, if_pos rfl, hct]
    rcases hI with ⟨_, rfl, rfl, hI⟩ | ⟨_, rfl, _, _, hd, hf, hI⟩
    · have hc2 := hI.cnt key
      rw [hself] at hc2
      dsimp only at hc2
      exact ⟨_, _, l, by rw [hct], ⟨hI, h.dead, h.fuse, h.quota, by rw [hself], by rw [hself]; exact hhi, hother⟩, by rw [hself], by rw [hself]; exact hc2.1, by rw [hself]; exact hhi⟩
    · have hc2 := hI.cnt key
      rw [hself] at hc2
      dsimp only at hc2
      have hm : min ((lgOf M key).ceil + step) n ≤ n := by omega
      exact ⟨_, _, _, by rw [hct], ⟨hI, hd, hf h.fuse, by rw [hq]; exact h.quota, by rw [hself], by rw [hself]; exact hm, hother⟩, by rw [hself], by rw [hself]; exact hc2.1, by rw [hself]; exact hm⟩
theorem PInv.full {n step : Nat} {D : Dk} {M : Mp Cnt} {l : List LRow} {key : Bs} (h : PInv n n step D M l key) (hk : key.length ≤ 300) : ledNextN D M step n key = (D, M, [], 21) := by
  unfold ledNextN
  rw [if_neg (by omega), if_pos (by rw [h.count]; omega)]
theorem PInv.others {n step : Nat} {D : Dk} {M : Mp Cnt} {l : List LRow} {key : Bs} (h : PInv n n step D M l key) (hn : n ≤ 100) (o : Bs) (ho : o ≠ key) (hk : o.length ≤ 300) :
    (n = 0 ∧ ledNextN D M step n o = (D, M, [], 21) ∧ (lgOf M key).c = n) ∨ (0 < n ∧ ∃ D2 M2, ledNextN D M step n o = (D2, M2, nonceB 0, 0) ∧ (lgOf M2 key).c = n) := by
  have hz := h.other o ho
  by_cases h0 : n = 0
  · left
    refine ⟨h0, ?_, h.count⟩
    unfold ledNextN
    rw [if_neg (by omega), if_pos (by omega)]
  · right
    refine ⟨by omega, ?_⟩
    have h1 := ledNextN_ok h.inv (by omega) h.dead h.fuse h.quota o hk (by rw [hz]; dsimp only; omega)
    have hN := h.inv.next o (by omega) (by omega)
    generalize ledNextN D M step n o = R at *
    obtain ⟨D2, M2, s2, e2⟩ := R
    dsimp only at *
    subst h1
    rcases hN with ⟨he, _⟩ | ⟨_, _, _, hs, _, ceil, hM, _⟩
    · exact absurd rfl he
    · subst hs hM
      refine ⟨_, _, by rw [hz], ?_⟩
      rw [lgOf_put, if_neg ho]
      exact h.count
set_option maxRecDepth 100000 in
set_option maxHeartbeats 4000000 in
theorem ledgerSpent_walk (step high : Int) (key other : Bs) (W : World) (hs : 0 ≤ step ∧ step ≤ 65535) (hh : 0 ≤ high ∧ high ≤ 255) (hk : key.length ≤ maxLen) (ho : other.length ≤ maxLen) :
    Calls Try.prog 4 #[.int .u16 step, .int .u8 high, .string ⟨key.toArray⟩, .string ⟨other.toArray⟩] W fun e w2 => e = .returned (.bool true) ∧ Ext [] W w2 := by
  obtain ⟨step, rfl⟩ : ∃ k : Nat, step = k := ⟨step.toNat, by omega⟩
  obtain ⟨high, rfl⟩ : ∃ k : Nat, high = k := ⟨high.toNat, by omega⟩
  have HS0 := Lib.hid (Sp.nil W [])
  obtain ⟨hs1, hs2⟩ := hs
  obtain ⟨hh1, hh2⟩ := hh
  have HKM := Lib.hid hk
  have HOM := Lib.hid ho
  clear hk ho
  obtain ⟨sn, hsn⟩ : ∃ n : Nat, (step : Int) % 1000 + 1 = n := ⟨step % 1000 + 1, by omega⟩
  obtain ⟨n, hn⟩ : ∃ n : Nat, (high : Int) % 101 = n := ⟨high % 101, by omega⟩
  have HST : Hid (1 ≤ sn ∧ sn ≤ 1000) := by unfold Hid; omega
  have HNN : Hid (n ≤ 100) := by unfold Hid; omega
  have HSN := Lib.hid hsn
  have HN := Lib.hid hn
  clear hsn hn
  go_enter Try.func4, Try.ntmps4
  go_wp2_with fail
  refine (awake13S HS0.out).mono ?_
  rintro e w1 ⟨rfl, S⟩
  have HS1 := Lib.hid S
  clear S
  by_cases g1 : 300 < key.length
  · have g1' : (300 : Int) < key.length := by omega
    go_wp2
    go_ret
    exact ⟨rfl, HS1.out.ext⟩
  have g1' : (key.length : Int) ≤ 300 := by omega
  by_cases g2 : 300 < other.length
  · have g2' : (300 : Int) < other.length := by omega
    go_wp2
    go_ret
    exact ⟨rfl, HS1.out.ext⟩
  have g2' : (other.length : Int) ≤ 300 := by omega
  have HK3 : Hid (key.length ≤ 300) := by unfold Hid; omega
  have HO3 : Hid (other.length ≤ 300) := by unfold Hid; omega
  clear g1 g2
  by_cases g3 : key = other
  · have hbq : (key == other) = true := by simpa using g3
    clear g3
    go_wp2
    go_ret
    exact ⟨rfl, HS1.out.ext⟩
  have hbq : (key == other) = false := by simpa using g3
  have HNE := Lib.hid (fun e : other = key => g3 e.symm)
  clear g3
  go_wp2_with fail
  refine (newS HS1.out).mono ?_
  rintro e w2 ⟨d, rfl, S⟩
  have HS2 := Lib.hid S
  clear S HS1
  go_wp2_with fail
  rw [HSN.out, HN.out]
  clear HSN HN hbq
  refine (ledOpenS sn n 100 Dk.new HS2.out HST.out.1 HST.out.2 (by have := HNN.out; omega) aw13_rn (by decide)).mono ?_
  rw [aw13_1]
  rintro e w3 ⟨p, rfl, S⟩
  have HS3 := Lib.hid S
  have HI0 := Lib.hid (pinv_new n sn key HST.out.1)
  generalize aw13a = D0 at *
  dsimp only
  clear S HS2
  have hn100 : (n : Int) ≤ 100 := by have := HNN.out; omega
  go_wp2_with fail
  go_loopw [12] (fun v wr => ∃ (i : Nat) (D : Dk) (M : Mp Cnt) (l : List LRow), v = .int .u64 i ∧ i ≤ n ∧ PInv i n sn D M l key ∧ Sp W [] wr (ledR p d sn n M :: diskR d D :: [])) (fun v _ => n - (intOf v).toNat)
  case atStart => exact ⟨0, D0, [], [], rfl, by omega, HI0.out, HS3.out⟩
  case round =>
    clear HS3 HI0
    obtain ⟨i, D, M, l, rfl, hi1, hI, S6⟩ := hrel
    have HI := Lib.hid hI
    have HS6 := Lib.hid S6
    have HRM := Lib.hid (hI.inv.roomy (by omega))
    clear hI S6
    by_cases hlt : i < n
    · have hlt' : (i : Int) < n := by omega
      obtain ⟨D2, M2, l2, hN, hI2, hc, hc1, hc2⟩ := HI.out.next hlt HNN.out HK3.out
      have HNX := Lib.hid hN
      have HI2 := Lib.hid hI2
      have HC := Lib.hid hc
      clear hN hI2 hc
      go_wp2_with fail
      refine (ledNextNS key 1000000 D HS6.out (by have := HK3.out; omega) HI.out.inv.ok HST.out.2 (by have := HNN.out; omega) HRM.out (by decide)).mono ?_
      rw [HNX.out]
      dsimp only
      rintro e w7 ⟨rfl, S7⟩
      have HS7 := Lib.hid S7
      clear S7 HS6
      go_wp2_with fail
      refine (r13NonceS i HS7.out (by have := HNN.out; omega)).mono ?_
      rintro e w8 ⟨rfl, S8⟩
      have HS8 := Lib.hid S8
      clear S8 HS7
      generalize nonceB i = nb at *
      go_wp2_with fail
      refine (ledCounterS key HS8.out HKM.out).mono ?_
      rw [HC.out]
      rintro e wq ⟨rfl, rfl⟩
      generalize hcc : (lgOf M2 key).ceil = C at *
      have HCC := Lib.hid hcc
      clear hcc
      have hc1' : (i : Int) + 1 ≤ C := by omega
      have hc2' : (C : Int) ≤ n := by omega
      go_wp2_with fail
      refine (ledCeilingS key HS8.out HKM.out).mono ?_
      rw [HCC.out]
      rintro e wq ⟨rfl, rfl⟩
      go_wp2_with fail
      refine (ledCeilingS key HS8.out HKM.out).mono ?_
      rw [HCC.out]
      rintro e wq ⟨rfl, rfl⟩
      go_wp2_with fail
      go_roundw
      case rel => exact ⟨i + 1, _, _, _, by go_num, by omega, HI2.out, HS8.out⟩
      case measure => simp [intOf]; omega
    · obtain rfl : i = n := by omega
      go_wp2_with fail
      refine (ledNextNS key 1000000 D HS6.out (by have := HK3.out; omega) HI.out.inv.ok HST.out.2 (by have := HNN.out; omega) HRM.out (by decide)).mono ?_
      rw [HI.out.full HK3.out]
      dsimp only
      rintro e w7 ⟨rfl, S7⟩
      have HS7 := Lib.hid S7
      clear S7 HS6
      go_wp2_with fail
      refine (ledNextNS other 1000000 D HS7.out (by have := HO3.out; omega) HI.out.inv.ok HST.out.2 (by have := HNN.out; omega) HRM.out (by decide)).mono ?_
      rcases HI.out.others HNN.out other HNE.out HO3.out with ⟨h0, hN, hc⟩ | ⟨h0, D2, M2, hN, hc⟩
      · subst h0
        rw [hN]
        dsimp only
        rintro e w8 ⟨rfl, S8⟩
        have HS8 := Lib.hid S8
        have HC := Lib.hid hc
        clear S8 HS7 hN hc
        go_wp2_with fail
        refine (ledSpentS key HS8.out HKM.out).mono ?_
        rw [HC.out]
        rintro e w9 ⟨rfl, S9⟩
        have HS9 := Lib.hid S9
        clear S9 HS8
        go_wp2
        go_ret
        exact ⟨rfl, HS9.out.ext⟩
      · rw [hN]
        dsimp only
        rintro e w8 ⟨rfl, S8⟩
        have HS8 := Lib.hid S8
        have HC := Lib.hid hc
        clear S8 HS7 hN hc
        go_wp2_with fail
        refine (ledSpentS key HS8.out HKM.out).mono ?_
        rw [HC.out, decide_eq_true (Nat.le_refl _)]
        rintro e w9 ⟨rfl, S9⟩
        have HS9 := Lib.hid S9
        clear S9 HS8
        have h0' : (0 : Int) < i := by omega
        have h0q : ((i : Int) == 0) = false := by simp; omega
        go_wp2_with fail
        refine (r13NonceS 0 HS9.out (by decide)).mono ?_
        rintro e w10 ⟨rfl, S10⟩
        have HS10 := Lib.hid S10
        clear S10 HS9
        generalize nonceB 0 = nb at *
        go_wp2
        go_ret
        exact ⟨rfl, HS10.out.ext⟩
end Go.Proofs.Ytpkolkgndhagiaa
