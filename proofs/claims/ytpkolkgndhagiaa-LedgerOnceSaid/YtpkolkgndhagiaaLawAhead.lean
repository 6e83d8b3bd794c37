/- LedgerAhead: its walk: a ceiling is sure ahead of its nonces. -/
import Derived.Test.YtpkolkgndhagiaaLgP
import Derived.Test.YtpkolkgndhagiaaAw13
import Derived.Test.YtpkolkgndhagiaaSame
import Derived.Test.YtpkolkgndhagiaaRangeS
namespace Go.Proofs.Ytpkolkgndhagiaa
open Go.RowKit Go.Maps Go.Sort

abbrev encU (n : Nat) : Value := .int .u64 n
theorem zeroU (w : World) : (zeroValue 22).run Try.prog w = .ok (.int .u64 0) w := by kernel_rfl
theorem getU (T : Mp Nat) (k : Bs) : ((T.get k).map encU).getD (.int .u64 0) = .int .u64 ((T.get k).getD 0 : Nat) := by cases T.get k <;> rfl
theorem LD.setFuse {D : Dk} {l t : List LRow} (h : LD D l t) (n : Int) (hn : n ≤ 9223372036854775807) : LD (D.setFuse n) l t := ⟨h.fd.setFuse n hn, h.ok⟩
theorem lsetFuse_trace (D : Dk) (n : Int) : (D.setFuse n).trace = D.trace := by unfold Dk.setFuse; split <;> rfl
theorem linv_new (step most : Nat) (h : 1 ≤ step) : LInv 0 step most aw13a [] [] [] := ⟨⟨⟨rfl, rfl, rfl, by simp, by decide⟩, by simp⟩, fun k => ⟨by simp [lgOf, Mp.get], rfl, by simp [lgOf, Mp.get]; omega⟩, ledOk_0, by simp, by decide, by simp⟩
theorem LInv.fuse {b step most : Nat} {D : Dk} {M : Mp Cnt} {l t : List LRow} (h : LInv b step most D M l t) (n : Int) (hn : n ≤ 9223372036854775807) : LInv b step most (D.setFuse n) M l t :=
  ⟨h.ld.setFuse n hn, h.cnt, h.ok, h.len, by rw [lsetFuse_trace]; exact h.trace, h.rows⟩
theorem getD_put (T : Mp Nat) (x : Bs) (v : Nat) (k : Bs) : ((T.put x v).get k).getD 0 = if x = k then v else (T.get k).getD 0 := by
  rw [Mp.get_put]
  split <;> rfl

theorem get_of_mem {T : Mp Nat} (hs : T.Pairwise fun p q => bytesBefore p.1 q.1 = true) {x : Bs} {n : Nat} (h : (x, n) ∈ T) : T.get x = some n := by
  have hne := rising_ne hs
  clear hs
  induction T with
  | nil => cases h
  | cons y r ih =>
    rw [List.pairwise_cons] at hne
    rw [Mp.get_cons]
    rcases List.mem_cons.1 h with rfl | h
    · rw [if_pos rfl]
    · rw [if_neg (hne.1 _ h)]
      exact ih h hne.2
set_option maxRecDepth 100000 in
set_option maxHeartbeats 4000000 in
theorem ledgerAhead_walk (step high : Int) (v : Value) (keys : List Bs) (fuse : Int) (W : World) (hs : 0 ≤ step ∧ step ≤ 18446744073709551615) (hh : 0 ≤ high ∧ high ≤ 18446744073709551615) (hv : TextsAt W v keys) (hfu : 0 ≤ fuse ∧ fuse ≤ 255) :
    Calls Try.prog 6 #[.int .u64 step, .int .u64 high, v, .int .u8 fuse] W fun e w2 => e = .returned (.bool true) ∧ Ext [] W w2 := by
  obtain ⟨step, rfl⟩ : ∃ k : Nat, step = k := ⟨step.toNat, by omega⟩
  obtain ⟨high, rfl⟩ : ∃ k : Nat, high = k := ⟨high.toNat, by omega⟩
  have HS0 := Lib.hid (Sp.nil W [])
  have HV := Lib.hid hv
  obtain ⟨a, cap, rfl, hlen, _⟩ := hv
  have HLEN := Lib.hid hlen
  unfold maxLen at hlen
  have hlen' : (keys.length : Int) ≤ 9223372036854775807 := by omega
  obtain ⟨hfu1, hfu2⟩ := hfu
  have hmm := @run_makeMap Try.prog
  clear hlen
  go_enter Try.func6, Try.ntmps6
  go_wp2_with fail
  refine (awake13S HS0.out).mono ?_
  rintro e w1 ⟨rfl, S⟩
  have HS1 := Lib.hid S
  clear S
  go_wp2_with fail
  refine (newS HS1.out).mono ?_
  rintro e w2 ⟨d, rfl, S⟩
  have HS2 := Lib.hid S
  clear S HS1
  by_cases harg : step < 1 ∨ 1000 < step ∨ 1099511627776 < high
  · go_wp2_with fail
    refine (ledOpen_arg step high HS2.out harg).mono ?_
    rintro e w3 ⟨rfl, S3⟩
    have HS3 := Lib.hid S3
    clear S3
    by_cases g1 : step < 1
    · go_wp2
      go_ret
      exact ⟨rfl, HS3.out.ext⟩
    · by_cases g2 : 1000 < step
      · have g1' : (1 : Int) ≤ step := by omega
        have g2' : (1000 : Int) < step := by omega
        clear harg
        go_wp2
        all_goals (go_ret; exact ⟨ret_bool (by first | rfl | simp [g2']), HS3.out.ext⟩)
      · have g3 : (1099511627776 : Int) < high := by omega
        have g1' : (1 : Int) ≤ step := by omega
        have g2' : (step : Int) ≤ 1000 := by omega
        clear harg
        go_wp2
        all_goals (go_ret; exact ⟨ret_bool (by first | rfl | simp [g3]), HS3.out.ext⟩)
  have hs1 : 1 ≤ step := by omega
  have hs2 : step ≤ 1000 := by omega
  have hh2 : high ≤ 1099511627776 := by omega
  have HST : Hid (1 ≤ step ∧ step ≤ 1000 ∧ high ≤ 1099511627776) := ⟨hs1, hs2, hh2⟩
  have i1 : (1 : Int) ≤ step := by omega
  have i2 : (step : Int) ≤ 1000 := by omega
  have i3 : (high : Int) ≤ 1099511627776 := by omega
  clear harg hs hh hs1 hs2 hh2
  go_wp2_with fail
  refine (ledOpenS step high 100 Dk.new HS2.out HST.out.1 HST.out.2.1 HST.out.2.2 aw13_rn (by decide)).mono ?_
  rw [aw13_1]
  rintro e w3 ⟨p, rfl, S⟩
  have HS3 := Lib.hid S
  clear S HS2
  dsimp only
  go_wp2_with fail
  refine (fuseS fuse HS3.out.pull1).mono ?_
  rintro e w4 ⟨rfl, S4⟩
  have HI0 := Lib.hid ((linv_new step high HST.out.1).fuse fuse (by omega))
  generalize aw13a.setFuse fuse = D0 at *
  have HS4 := Lib.hid S4.pull1
  clear S4 HS3
  go_wp2_with fail
  have S5 := HS4.out.mapMade 9 encU
  have HS5 := Lib.hid S5.pull2.pull2
  clear S5 HS4 hmm
  generalize w4.alloc (.map #[] 0) = w5 at *
  generalize w4.heap.size = km at *
  go_loopw [13] (fun v wr => ∃ (i : Nat) (D : Dk) (M : Mp Cnt) (l t : List LRow) (T : Mp Nat), v = .int .i64 i ∧ i ≤ keys.length ∧ i ≤ 60 ∧ LInv i step high D M l t ∧ (∀ k, (T.get k).getD 0 = (lgOf M k).c) ∧ T.length ≤ i ∧ Sp W [] wr (ledR p d step high M :: diskR d D :: mapR 9 encU km T :: [])) (fun v _ => 60 - (intOf v).toNat)
  case atStart => exact ⟨0, D0, [], [], [], [], rfl, by omega, by omega, HI0.out, fun k => rfl, by simp, HS5.out⟩
  case round =>
    clear HS5 HI0
    obtain ⟨i, D, M, l, t, T, rfl, hi1, hi2, hI, hT, hTl, S6⟩ := hrel
    have HI := Lib.hid hI
    have HT := Lib.hid hT
    have HTL := Lib.hid hTl
    have HS6 := Lib.hid S6
    clear hI hT hTl S6
    have HRM := Lib.hid (HI.out.roomy (by omega))
    by_cases hlt : i < keys.length ∧ i < 60
    · obtain ⟨hlt1, hlt2⟩ := hlt
      have hlt1' : (i : Int) < keys.length := by omega
      have hlt2' : (i : Int) < 60 := by omega
      have HROW : Hid (∀ w2, Ext [] W w2 → RowsAt w2 a 1 (keys.map fun s => [.string ⟨s.toArray⟩])) := fun w2 hx2 => by
        obtain ⟨a', cap', he, _, hrow⟩ := HV.out.ext hx2
        cases he
        exact hrow
      obtain ⟨b, off, rfl⟩ := (HROW.out _ HS6.out.ext).addr (i := i) (by simpa using hlt1)
      obtain ⟨x, hx⟩ : ∃ x, x = keys[i] := ⟨_, rfl⟩
      have HCE : Hid (∀ w2, Ext [] W w2 → w2.cell? ⟨b, off + i, none⟩ = some (.string ⟨x.toArray⟩)) := fun w2 hx2 => by
        rw [hx]
        exact texts_cell (HROW.out w2 hx2) i hlt1
      have c6 := HCE.out _ HS6.out.ext
      clear hx HROW
      by_cases hbig : 1000 < x.length
      · have hb' : (1000 : Int) < x.length := by omega
        go_wp2
        go_ret
        exact ⟨rfl, HS6.out.ext⟩
      · have HX : Hid (x.length ≤ 1000) := by unfold Hid; omega
        have hb' : (x.length : Int) ≤ 1000 := by omega
        have HXM : Hid (x.length ≤ maxLen) := by unfold Hid maxLen; omega
        clear hbig
        have HN := Lib.hid (HI.out.next x (by omega) HST.out.2.2)
        go_wp2_with fail
        refine (ledNextNS x 1000000 D HS6.out (by have := HX.out; omega) HI.out.ok HST.out.2.1 HST.out.2.2 HRM.out (by decide)).mono ?_
        generalize ledNextN D M step high x = R at *
        obtain ⟨D2, M2, s2, e2⟩ := R
        dsimp only at *
        rintro e w7 ⟨rfl, S7⟩
        have c7 := HCE.out _ S7.ext
        have HS7 := Lib.hid S7
        clear c6 HS6
        rcases HN.out with ⟨he, _, rfl, _, t2, hI2⟩ | ⟨rfl, _, _, _, _, ceil, rfl, hI2⟩
        · have te : (e2 == 0) = false := by simpa using he
          have HI2 := Lib.hid hI2
          clear he hI2 S7 HN
          go_wp2_with fail
          go_roundw
          case rel => exact ⟨i + 1, _, _, _, _, _, by go_num, by omega, by omega, HI2.out, HT.out, by have := HTL.out; omega, HS7.out⟩
          case measure => simp [intOf]; omega
        · have HI2 : Hid (∃ l2 t2, LInv (i + 1) step high D2 (M.put x ⟨(lgOf M x).c + 1, ceil⟩) l2 t2) := by
            rcases hI2 with ⟨_, _, rfl, h⟩ | ⟨_, _, _, _, _, _, h⟩
            · exact ⟨_, _, h⟩
            · exact ⟨_, _, h⟩
          have hlook := ((Sp.pick [_, _, _] [2] (by decide) (S7))).map.look (t := 48) keyedStrL Try.underlying48 (zeroU _) (keyStrL x HXM.out)
          rw [getU, HT.out x] at hlook
          obtain ⟨w8, hrun, S8, _⟩ := ((Sp.pick [_, _, _] [2, 0, 1] (by decide) (S7))).mapPut (t := 48) keyedStrL Try.underlying48 (by have := HTL.out; unfold maxLen; omega) (keyStrL x HXM.out) ((lgOf M x).c + 1)
          have hcb : ((lgOf M x).c : Int) ≤ 1099511627776 := by have := HI.out.ok.of x; omega
          have HT2 : Hid (∀ k, ((T.put x ((lgOf M x).c + 1)).get k).getD 0 = (lgOf (M.put x ⟨(lgOf M x).c + 1, ceil⟩) k).c) := fun k => by
            rw [getD_put, lgOf_put]
            split
            · rfl
            · exact HT.out k
          have HS8 := Lib.hid S8.pull2.pull2
          have HTL2 : Hid ((T.put x ((lgOf M x).c + 1)).length ≤ i + 1) := by have := Mp.length_put_le T x ((lgOf M x).c + 1); have := HTL.out; unfold Hid; omega
          generalize (lgOf M x).c = n at *
          have hrun' : (Instr.mapUpdate 48 (.map (some km)) (.string ⟨x.toArray⟩) (.int .u64 ((n : Int) + 1))).run Try.prog w7 = .ok () w8 := hrun
          clear S7 S8 hI2 HN hrun HS7 HTL
          go_wp2_with fail
          go_roundw
          case rel =>
            obtain ⟨l2, t2, h⟩ := HI2.out
            exact ⟨i + 1, _, _, _, _, _, by go_num, by omega, by omega, h, HT2.out, HTL2.out, HS8.out⟩
          case measure => simp [intOf]; omega
    · have HCF := Lib.hid (HI.out.ld.crashFit (by have := HI.out.rows; omega))
      have HLD := Lib.hid (HI.out.ld.crash 0)
      rw [show (0 : Int).toNat = 0 from rfl, List.take_zero, List.append_nil] at HLD
      have HOP := Lib.hid HLD.out.open
      rw [List.append_nil] at HOP
      have HRM2 : Hid ((D.crash 0).Roomy 1000000) := HLD.out.roomy (by have := HI.out.trace; simp only [Dk.crash]; omega) (by have := HI.out.rows; simp at this ⊢; omega)
      have HPO : Hid (∀ k, (lgOf (ledPuts l) k).c = (lgOf (ledPuts l) k).ceil) := ledPuts_same l
      go_wp2_with fail
      all_goals
        refine (crashS 0 HS6.out.pull1 HCF.out).mono ?_
        rintro e w7 ⟨rfl, S7⟩
        have HS7 := Lib.hid S7
        clear S7 HS6
        go_wp2_with fail
        refine (ledOpenS step high 1000000 (D.crash 0) HS7.out HST.out.1 HST.out.2.1 HST.out.2.2 HRM2.out (by decide)).mono ?_
        rw [HOP.out]
        rintro e w8 ⟨p2, rfl, S8⟩
        obtain ⟨w9, cnt, hrun, S9⟩ := ((Sp.pick [_, _, _, _] [3, 0, 1, 2] (by decide) (S8))).rangeMade (t := 48) keyedStrL Try.underlying48
        have HS9 := Lib.hid S9
        clear S8 S9 HS7
        dsimp only
        generalize w8.heap.size = ri at *
        go_wp2_with fail
        go_loopw [] (fun wr => ∃ (N : Mp Nat) (cnt : Nat), Sp W [] wr (rangeR 9 encU km ri T N cnt :: ledR p2 d step high (ledPuts l) :: diskR d (D.crash 0) :: ledR p d step high M :: [])) (fun wr => wr.rangeLeft km ri)
        case atStart => exact ⟨T, cnt, HS9.out⟩
        case round =>
          clear hrun HS9
          obtain ⟨N, cnt, S10⟩ := hrel
          have HLE := Lib.hid S10.range.left_eq
          have HMS := Lib.hid (S10.range.owns.sorted keyedStrL)
          have HS10 := Lib.hid S10
          rcases S10.rangeNext Try.underlying9 with ⟨rfl, hnx⟩ | ⟨x, n, w11, N1, cnt1, hperm, hmem, hxl, hnx, S11, hlt2, hnot, hent⟩
          · clear S10
            go_wp2
            go_ret
            exact ⟨rfl, HS10.out.ext⟩
          · have HXL := Lib.hid hxl
            have HLT := Lib.hid hlt2
            have hn : n = (lgOf M x).c := by
              rw [← HT.out x, get_of_mem HMS.out hmem]
              rfl
            have hcn := HI.out.cnt x
            rw [← hn] at hcn
            have HNC := Lib.hid hn
            have hob := HI.out.ok.of x
            obtain ⟨C, hC⟩ : ∃ C, C = (lgOf (ledPuts l) x).c := ⟨_, rfl⟩
            have hC2 : (lgOf (ledPuts l) x).ceil = C := by rw [hC]; exact (HPO.out x).symm
            have HC1 : Hid ((lgOf (ledPuts l) x).c = C) := hC.symm
            have HC2 := Lib.hid hC2
            have g1 : ¬ C < n := by omega
            have g2 : ¬ n + step ≤ C := by omega
            have g2' : ¬ (n : Int) + step ≤ C := by omega
            have g3 : (C : Int) ≤ 1099511627776 := by omega
            have g4 : (n : Int) ≤ 1099511627776 := by omega
            have HS11 := Lib.hid S11
            have HA1 := Lib.hid S11.pull1
            have HA2 := Lib.hid S11.pull3
            clear hn hcn hob hC hC2 S10 S11 hperm hmem hxl hlt2 hnot
            go_wp2_with fail
            refine (ledCounterS x HA1.out HXL.out).mono ?_
            rw [HC1.out]
            rintro e wq ⟨rfl, rfl⟩
            go_wp2_with fail
            refine (ledCounterS x HA1.out HXL.out).mono ?_
            rw [HC1.out]
            rintro e wq ⟨rfl, rfl⟩
            go_wp2_with fail
            refine (ledCeilingS x HA1.out HXL.out).mono ?_
            rw [HC2.out]
            rintro e wq ⟨rfl, rfl⟩
            go_wp2_with fail
            refine (ledCounterS x HA2.out HXL.out).mono ?_
            rw [← HNC.out]
            rintro e wq ⟨rfl, rfl⟩
            go_wp2_with fail
            refine (ledCounterS x HA1.out HXL.out).mono ?_
            rw [HC1.out]
            rintro e wq ⟨rfl, rfl⟩
            go_wp2_with fail
            go_roundw
            case rel => exact ⟨N1, cnt1, HS11.out⟩
            case measure =>
              have h1 := HS11.out.range.left_eq
              have h2 := HLE.out
              have h3 := HLT.out
              omega
end Go.Proofs.Ytpkolkgndhagiaa
