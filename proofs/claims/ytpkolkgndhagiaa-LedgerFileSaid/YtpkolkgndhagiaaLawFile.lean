/- LedgerFile: its walk: the file tells the ceilings, and grows by one row for each step. -/
import Derived.Test.YtpkolkgndhagiaaLfP
import Derived.Test.YtpkolkgndhagiaaLawAhead
namespace Go.Proofs.Ytpkolkgndhagiaa
open Go.RowKit Go.Maps Go.Sort

theorem finv_new (step : Nat) (h : 1 ≤ step) : FInv 0 step aw13a [] [] [] :=
  ⟨linv_new step 1073741824 h, rfl, by decide, by decide, fun _ => rfl, fun _ => by simp [lgOf, Mp.get], by simp, by simp, fun j hj => by simp at hj, fun _ => rfl⟩
theorem FInv.file {i step : Nat} {D : Dk} {M : Mp Cnt} {l : List LRow} {T : Mp Nat} (h : FInv i step D M l T) : D.now.get ledB = some (l.map LRow.text).flatten ∧ D.now.has ledB = true := by
  have := h.inv.ld.fd.now
  simp only [List.map_nil, List.append_nil] at this
  rw [this, fget_one, fhas_one]
  exact ⟨rfl, rfl⟩
theorem u64_quo (a b q : Nat) (h : a / b = q) : Int.tdiv (a : Int) (b : Int) = q := by rw [← h]; rfl

set_option maxRecDepth 100000 in
set_option maxHeartbeats 4000000 in
theorem ledgerFile_walk (step : Int) (v : Value) (keys : List Bs) (W : World) (hs : 0 ≤ step ∧ step ≤ 65535) (hv : TextsAt W v keys) :
    Calls Try.prog 5 #[.int .u16 step, v] W fun e w2 => e = .returned (.bool true) ∧ Ext [] W w2 := by
  obtain ⟨step, rfl⟩ : ∃ k : Nat, step = k := ⟨step.toNat, by omega⟩
  have HS0 := Lib.hid (Sp.nil W [])
  have HV := Lib.hid hv
  obtain ⟨a, cap, rfl, hlen, _⟩ := hv
  unfold maxLen at hlen
  have hlen' : (keys.length : Int) ≤ 9223372036854775807 := by omega
  obtain ⟨hs1, hs2⟩ := hs
  have hmm := @run_makeMap Try.prog
  obtain ⟨n, hn⟩ : ∃ n : Nat, (step : Int) % 1000 + 1 = n := ⟨step % 1000 + 1, by omega⟩
  have HST : Hid (1 ≤ n ∧ n ≤ 1000) := by unfold Hid; omega
  have HN := Lib.hid hn
  clear hlen hn
  go_enter Try.func5, Try.ntmps5
  go_wp2_with fail
  refine (awake13S HS0.out).mono ?_
  rintro e w1 ⟨rfl, S⟩
  have HS1 := Lib.hid S
  clear S
  go_wp2_with fail
  refine (newS HS1.out).mono ?_
  rintro e w2 ⟨d, rfl, S⟩
  have HS2 := Lib.hid S
  clear S HS1
  go_wp2_with fail
  rw [HN.out]
  clear HN
  have HNI : Hid ((1 : Int) ≤ n ∧ (n : Int) ≤ 1000) := by have := HST.out; unfold Hid; omega
  refine (ledOpenS n 1073741824 100 Dk.new HS2.out HST.out.1 HST.out.2 (by decide) aw13_rn (by decide)).mono ?_
  rw [aw13_1]
  rintro e w3 ⟨p, rfl, S⟩
  have HS3 := Lib.hid S
  have HI0 := Lib.hid (finv_new n HST.out.1)
  generalize aw13a = D0 at *
  dsimp only
  clear S HS2
  go_wp2_with fail
  have S5 := HS3.out.mapMade 9 encU
  have HS5 := Lib.hid S5.pull2.pull2
  clear S5 HS3
  have HMM := Lib.hid hmm
  clear hmm
  generalize w3.alloc (.map #[] 0) = w5 at *
  generalize w3.heap.size = km at *
  go_loopw [10] (fun v wr => ∃ (i : Nat) (D : Dk) (M : Mp Cnt) (l : List LRow) (T : Mp Nat), v = .int .i64 i ∧ i ≤ keys.length ∧ i ≤ 60 ∧ FInv i n D M l T ∧ Sp W [] wr (ledR p d n 1073741824 M :: diskR d D :: mapR 9 encU km T :: [])) (fun v _ => 60 - (intOf v).toNat)
  case atStart => exact ⟨0, D0, [], [], [], rfl, by omega, by omega, HI0.out, HS5.out⟩
  case round =>
    clear HS5 HI0
    obtain ⟨i, D, M, l, T, rfl, hi1, hi2, hI, S6⟩ := hrel
    have HI := Lib.hid hI
    have HS6 := Lib.hid S6
    clear hI S6
    have HRM := Lib.hid (HI.out.inv.roomy (by omega))
    by_cases hlt : i < keys.length ∧ i < 60
    · obtain ⟨hlt1, hlt2⟩ := hlt
      have hlt1' : (i : Int) < keys.length := by omega
      have hlt2' : (i : Int) < 60 := by omega
      have HROW : Hid (∀ w2, Ext [] W w2 → RowsAt w2 a 1 (keys.map fun s => [.string ⟨s.toArray⟩])) := fun w2 hx2 => by
        obtain ⟨a', cap', he, _, hrow⟩ := HV.out.ext hx2
        cases he
        exact hrow
      obtain ⟨b, off, rfl⟩ := (HROW.out _ HS6.out.ext).addr (i := i) (by simpa using hlt1)
      obtain ⟨x, hx⟩ : ∃ x, x = keys[i] := ⟨_, rfl⟩
      have HCE : Hid (∀ w2, Ext [] W w2 → w2.cell? ⟨b, off + i, none⟩ = some (.string ⟨x.toArray⟩)) := fun w2 hx2 => by
        rw [hx]
        exact texts_cell (HROW.out w2 hx2) i hlt1
      have c6 := HCE.out _ HS6.out.ext
      clear hx HROW
      by_cases hbig : 300 < x.length
      · have hb' : (300 : Int) < x.length := by omega
        go_wp2
        go_ret
        exact ⟨rfl, HS6.out.ext⟩
      · have HX : Hid (x.length ≤ 300) := by unfold Hid; omega
        have hb' : (x.length : Int) ≤ 300 := by omega
        have HXM : Hid (x.length ≤ maxLen) := by unfold Hid maxLen; omega
        clear hbig
        obtain ⟨D2, M2, s2, l2, hN, hI2⟩ := HI.out.next (by omega) HST.out.2 x HX.out
        have HNX := Lib.hid hN
        have HI2 := Lib.hid hI2
        clear hN hI2
        go_wp2_with fail
        refine (ledNextNS x 1000000 D HS6.out (by have := HX.out; omega) HI.out.inv.ok HST.out.2 (by decide) HRM.out (by decide)).mono ?_
        rw [HNX.out]
        dsimp only
        rintro e w7 ⟨rfl, S7⟩
        have c7 := HCE.out _ S7.ext
        have hlook := ((Sp.pick [_, _, _] [2] (by decide) (S7))).map.look (t := 48) keyedStrL Try.underlying48 (zeroU _) (keyStrL x HXM.out)
        rw [getU] at hlook
        have hcb : ((T.get x).getD 0 : Int) ≤ 1000 := by have := HI.out.asked x; have := HI.out.low x; omega
        obtain ⟨w8, hrun, S8, _⟩ := ((Sp.pick [_, _, _] [2, 0, 1] (by decide) (S7))).mapPut (t := 48) keyedStrL Try.underlying48 (by have := HI.out.tlen; unfold maxLen; omega) (keyStrL x HXM.out) ((T.get x).getD 0 + 1)
        have HS8 := Lib.hid S8.pull2.pull2
        generalize (T.get x).getD 0 = m at *
        have hrun' : (Instr.mapUpdate 48 (.map (some km)) (.string ⟨x.toArray⟩) (.int .u64 ((m : Int) + 1))).run Try.prog w7 = .ok () w8 := hrun
        clear S7 S8 hrun HS6 c6 HNX HI
        go_wp2_with fail
        go_roundw
        case rel => exact ⟨i + 1, _, _, _, _, by go_num, by omega, by omega, HI2.out, HS8.out⟩
        case measure => simp [intOf]; omega
    · have HF := Lib.hid HI.out.file
      have HBK := Lib.hid (lrows_back l (fun q hq => HI.out.inv.ld.ok q (by simp [hq])))
      have HBL : Hid ((l.map LRow.text).flatten.length ≤ 1000000) := by
        have h1 := lrows_len l (fun q hq => HI.out.inv.ld.ok q (by simp [hq]))
        have h2 := HI.out.inv.rows
        simp at h2
        unfold Hid
        omega
      have HLL : Hid (l.length ≤ 60) := by
        have h2 := HI.out.inv.rows
        simp at h2
        unfold Hid
        omega
      have HLK : Hid (∀ r ∈ l, r.key.length ≤ 300) := fun r hr => (HI.out.inv.ld.ok r (by simp [hr])).1
      generalize (l.map LRow.text).flatten = s at *
      have hsl : (s.length : Int) ≤ 1000000 := by have := HBL.out; omega
      go_wp2_with fail
      all_goals
        refine (readS ledB HS6.out.pull1 (by decide)).mono ?_
        rw [HF.out.1, HF.out.2]
        rintro e w7 ⟨rfl, rfl⟩
        dsimp only [Option.getD_some]
        go_wp2_with fail
        refine (ledRowsS s HS6.out (by have := HBL.out; omega)).mono ?_
        rw [HBK.out.1, HBK.out.2, show ((s.length : Int) - (([] : Bs).length : Nat)) = s.length by simp]
        rintro e w8 ⟨rv, rfl, S8⟩
        obtain ⟨ra, rcap, rfl⟩ : ∃ ra rcap, rv = .slice ra l.length rcap := by
          rcases S8.rowForm with ⟨h, h0⟩ | ⟨g, cap, h⟩
          · exact ⟨none, 0, by rw [h, h0]⟩
          · exact ⟨_, _, h⟩
        have S9 := (S8.mapMade 9 encU).mapMade 9 encU
        simp only [World.size_alloc] at S9
        have HS9 := Lib.hid S9
        clear S8 HS6 S9
        have hmm := HMM.out
        go_wp2_with fail
        clear hmm
        generalize (w8.alloc (.map #[] 0)).alloc (.map #[] 0) = w9 at *
        generalize w8.heap.size + 1 = kb at *
        generalize w8.heap.size = ka at *
        have HROW : Hid (∀ {wz : World} {i : Nat} {x : LRow} {K : List Res}, Sp W [] wz (lrowsR (.slice ra l.length rcap) l :: K) → l[i]? = some x → ∃ g, ra = some ⟨g, 0, none⟩ ∧ wz.cell? ⟨g, i * 2, none⟩ = some (.string ⟨x.key.toArray⟩) ∧ wz.cell? ⟨g, i * 2 + 1, none⟩ = some (.int .u64 x.ceil)) := fun {wz i x K} S hx => by
          rcases S.rowForm with ⟨h, h0⟩ | ⟨g, cap, h⟩
          · have : l = [] := List.eq_nil_of_length_eq_zero h0
            rw [this] at hx
            cases hx
          · simp only [Value.slice.injEq, true_and] at h
            obtain ⟨rfl, rfl⟩ := h
            have hm : (l.map LRow.vals)[i]? = some x.vals := by simp [hx]
            have hl2 : ∀ y ∈ l.map LRow.vals, y.length = 2 := by
              intro y hy
              obtain ⟨z, _, rfl⟩ := List.mem_map.1 hy
              rfl
            exact ⟨g, rfl, S.rowCell hl2 hm (j := 0) rfl, S.rowCell hl2 hm (j := 1) rfl⟩
        have hrn : (l.length : Int) ≤ 60 := by have := HLL.out; omega
        go_loopw [88] (fun v wr => ∃ (j : Nat) (A B : Mp Nat), v = .int .i64 j ∧ j ≤ l.length ∧ Seen (l.take j) A B ∧ Sp W [] wr (mapR 9 encU kb B :: mapR 9 encU ka A :: lrowsR (.slice ra l.length rcap) l :: ledR p d n 1073741824 M :: diskR d D :: mapR 9 encU km T :: [])) (fun v _ => l.length - (intOf v).toNat)
        case atStart => exact ⟨0, [], [], rfl, by omega, Seen.nil, HS9.out⟩
        case round =>
          obtain ⟨j, A, B, rfl, hj, hz, S10⟩ := hrel
          have HS10 := Lib.hid S10
          have HZ := Lib.hid hz
          clear S10 HS9 hz
          by_cases hjl : j < l.length
          · have hjl' : (j : Int) < l.length := by omega
            obtain ⟨x, hx⟩ : ∃ x, l[j]? = some x := ⟨_, List.getElem?_eq_getElem hjl⟩
            obtain ⟨g, rfl, c0, c1⟩ := HROW.out ((Sp.pick [_, _, _] [2, 0, 1] (by decide) (HS10.out))) hx
            have hxe : l[j] = x := by
              obtain ⟨_, h⟩ := List.getElem?_eq_some_iff.1 hx
              exact h
            have HTK : Hid (l.take (j + 1) = l.take j ++ [x]) := by
              unfold Hid
              rw [List.take_succ_eq_append_getElem hjl, hxe]
            have HSTP : Hid (x.ceil = (A.get x.key).getD 0 + n) := by
              have h1 := HI.out.steps j hjl
              rw [hxe] at h1
              unfold Hid
              rw [h1, HZ.out.last]
            have HKL : Hid (x.key.length ≤ maxLen) := by
              have h1 := HLK.out x (List.mem_of_getElem? hx)
              unfold Hid maxLen
              omega
            have hce : x.ceil ≤ 1099511627776 := (HI.out.inv.ld.ok x (by simp [List.mem_of_getElem? hx])).2
            have HZ2 := Lib.hid (HZ.out.snoc x)
            rw [← HTK.out] at HZ2
            have hbn : (B.get x.key).getD 0 ≤ 60 := by
              rw [HZ.out.many]
              have h1 : cntOf (l.take j) x.key ≤ (l.take j).length := List.countP_le_length
              rw [List.length_take] at h1
              have := HLL.out
              omega
            obtain ⟨key, ceil⟩ := x
            dsimp only at *
            have S11 := HS10.out.box #[.string ⟨key.toArray⟩, .int .u64 ceil] 33
            have c8 := S11.cell
            have hl1 := ((Sp.pick [_, _, _] [2] (by decide) (S11))).map.look (t := 48) keyedStrL Try.underlying48 (zeroU _) (keyStrL key HKL.out)
            rw [getU] at hl1
            obtain ⟨w12, hrun1, S12, _⟩ := ((Sp.pick [_, _, _, _, _, _, _] [2, 0, 1, 3, 4, 5, 6] (by decide) (S11))).mapPut (t := 48) keyedStrL Try.underlying48 (by have := HZ.out.alen; rw [List.length_take] at this; have := HLL.out; unfold maxLen; omega) (keyStrL key HKL.out) ceil
            have c12 := S12.pull1.cell
            have hl2 := ((Sp.pick [_, _, _] [2] (by decide) (S12))).map.look (t := 48) keyedStrL Try.underlying48 (zeroU _) (keyStrL key HKL.out)
            rw [getU] at hl2
            obtain ⟨w13, hrun2, S13, _⟩ := ((Sp.pick [_, _, _, _, _, _, _] [2, 0, 1, 3, 4, 5, 6] (by decide) (S12))).mapPut (t := 48) keyedStrL Try.underlying48 (by have := HZ.out.blen; rw [List.length_take] at this; have := HLL.out; unfold maxLen; omega) (keyStrL key HKL.out) ((B.get key).getD 0 + 1)
            have HS13 := Lib.hid ((Sp.pick [_, _, _, _, _, _, _] [0, 1, 3, 4, 5, 6] (by decide) (S13)))
            have hceq := HSTP.out
            have hna := HNI.out
            generalize (A.get key).getD 0 = la at *
            generalize (B.get key).getD 0 = mb at *
            have hceq' : ((la : Int) + n) = ceil := by omega
            have hla : (la : Int) ≤ 1099511627776 := by omega
            have hmb : (mb : Int) ≤ 60 := by omega
            have hrun2' : (Instr.mapUpdate 48 (.map (some kb)) (.string ⟨key.toArray⟩) (.int .u64 ((mb : Int) + 1))).run Try.prog w12 = .ok () w13 := hrun2
            obtain ⟨hn1, hn2⟩ := hna
            clear hx hxe S11 S12 S13 HS10 hrun2 hceq hce hbn
            go_wp2_with fail
            go_roundw
            case rel => exact ⟨j + 1, _, _, by go_num, by omega, HZ2.out, HS13.out⟩
            case measure => simp [intOf]; omega
          · have HZ1 : Hid (Seen l A B) := by
              have := HZ.out
              rw [List.take_of_length_le (by omega)] at this
              exact this
            obtain ⟨w9', cnt, hrun, S9⟩ := ((Sp.pick [_, _, _, _, _, _] [5, 0, 1, 3, 4] (by decide) (HS10.out))).rangeMade (t := 48) keyedStrL Try.underlying48
            have HS11 := Lib.hid S9
            clear S9 HS10 HZ
            go_wp2_with fail
            clear hrun
            generalize wr.heap.size = ri at *
            go_loopw [] (fun wr => ∃ (N : Mp Nat) (cnt : Nat), Sp W [] wr (rangeR 9 encU km ri T N cnt :: mapR 9 encU kb B :: mapR 9 encU ka A :: ledR p d n 1073741824 M :: diskR d D :: [])) (fun wr => wr.rangeLeft km ri)
            case atStart => exact ⟨T, cnt, HS11.out⟩
            case round =>
              clear HS11
              obtain ⟨N, cnt, S12⟩ := hrel
              have HLE := Lib.hid S12.range.left_eq
              have HMS := Lib.hid (S12.range.owns.sorted keyedStrL)
              have HS12 := Lib.hid S12
              rcases S12.rangeNext Try.underlying9 with ⟨rfl, hnx⟩ | ⟨x, m, w13, N1, cnt1, hperm, hmem, hxl, hnx, S13, hlt2, hnot, hent⟩
              · have HT2 := Lib.hid (HS12.out.range.owns.sorted keyedStrL)
                have S14 := HS12.out.rangeEnd
                have HB2 := Lib.hid (S14.pull1.map.sorted keyedStrL)
                have hlT := fun ty => S14.map.len (t := 48) (e := 22) Try.underlying48 ty
                have hlB := fun ty => S14.pull1.map.len (t := 48) (e := 22) Try.underlying48 ty
                rw [HI.out.len2 HST.out.1 HZ1.out HT2.out HB2.out] at hlB
                obtain ⟨m', S15⟩ := S14.pull3.exOpen
                have HM2 := Lib.hid (S15.part.pull1.map.sorted keyedStrL)
                have HS14 := Lib.hid S14.pull3
                have HL1 := Lib.hid (HI.out.len1 HST.out.1 HM2.out HT2.out)
                have HML : Hid (M.length ≤ 1000000) := by have := HI.out.inv.len; unfold Hid; omega
                clear S12 S14 S15
                go_wp2_with fail
                refine (ledKeysS HS14.out HML.out).mono ?_
                rintro e w14 ⟨kv, rfl, S16⟩
                obtain ⟨kk, kcap, rfl⟩ : ∃ a cap, kv = .slice a T.length cap := by
                  rcases S16.rowForm with ⟨h, h0⟩ | ⟨g, cap, h⟩
                  · exact ⟨none, 0, by rw [h, ← HL1.out, h0]⟩
                  · exact ⟨_, cap, by rw [h, HL1.out]⟩
                have hlT2 := fun ty => ((Sp.pick [_, _, _] [2] (by decide) (S16))).map.len (t := 48) (e := 22) Try.underlying48 ty
                have HE := Lib.hid S16.ext
                clear S16 HS14 hlT hlB
                go_wp2
                go_ret
                exact ⟨rfl, HE.out⟩
              · have HXL := Lib.hid hxl
                have HLT := Lib.hid hlt2
                have hmv : (T.get x).getD 0 = m := by rw [get_of_mem HMS.out hmem]; rfl
                have hq := HI.out.div HST.out.1 x
                rw [hmv] at hq
                have hcl : (A.get x).getD 0 = (lgOf M x).ceil := by rw [HZ1.out.last, (HI.out.inv.cnt x).2.1]
                have hmb : m ≤ 60 := by have h1 := HI.out.asked x; have h2 := HI.out.low x; omega
                have hBq : (B.get x).getD 0 = (m + n - 1) / n := by rw [HZ1.out.many, hq]
                have HLB : Hid (∀ wz, Sp W [] wz (rangeR 9 encU km ri T N1 cnt1 :: mapR 9 encU kb B :: mapR 9 encU ka A :: ledR p d n 1073741824 M :: diskR d D :: []) → (Instr.lookup 48 (.map (some kb)) (.string ⟨x.toArray⟩) false).run Try.prog wz = .ok (.int .u64 ((m + n - 1) / n : Nat)) wz) := fun wz S => by
                  have h := S.pull1.map.look (t := 48) keyedStrL Try.underlying48 (zeroU _) (keyStrL x HXL.out)
                  rw [getU, hBq] at h
                  exact h
                have HLA : Hid (∀ wz, Sp W [] wz (rangeR 9 encU km ri T N1 cnt1 :: mapR 9 encU kb B :: mapR 9 encU ka A :: ledR p d n 1073741824 M :: diskR d D :: []) → (Instr.lookup 48 (.map (some ka)) (.string ⟨x.toArray⟩) false).run Try.prog wz = .ok (.int .u64 ((lgOf M x).ceil : Nat)) wz) := fun wz S => by
                  have h := S.pull2.map.look (t := 48) keyedStrL Try.underlying48 (zeroU _) (keyStrL x HXL.out)
                  rw [getU, hcl] at h
                  exact h
                have HC : Hid (∀ wz, Sp W [] wz (rangeR 9 encU km ri T N1 cnt1 :: mapR 9 encU kb B :: mapR 9 encU ka A :: ledR p d n 1073741824 M :: diskR d D :: []) → Calls Try.prog 22 #[.pointer (some ⟨p, 0, none⟩), .string ⟨x.toArray⟩] wz fun e w2 => e = .returned (.int .u64 ((lgOf M x).ceil : Nat)) ∧ Sp W [] w2 (rangeR 9 encU km ri T N1 cnt1 :: mapR 9 encU kb B :: mapR 9 encU ka A :: ledR p d n 1073741824 M :: diskR d D :: [])) := fun wz S =>
                  (ledCeilingS x S.pull3 HXL.out).mono fun _ _ ⟨he, hw⟩ => ⟨he, hw ▸ S⟩
                have HS13 := Lib.hid S13
                have hnn := HST.out
                obtain ⟨a1, ha1⟩ : ∃ a1 : Nat, m + n = a1 := ⟨_, rfl⟩
                obtain ⟨a2, ha2⟩ : ∃ a2 : Nat, a1 - 1 = a2 := ⟨_, rfl⟩
                obtain ⟨q, hq'⟩ : ∃ q : Nat, a2 / n = q := ⟨_, rfl⟩
                rw [ha1, ha2, hq'] at HLB
                generalize (lgOf M x).ceil = C at *
                have e1 : IntKind.u64.wrap ((m : Int) + n) = a1 := by rw [IntKind.wrap_u64]; omega
                have e2 : IntKind.u64.wrap ((a1 : Int) - 1) = a2 := by rw [IntKind.wrap_u64]; omega
                have e3 : Int.tdiv (a2 : Int) (n : Int) = q := u64_quo a2 n q hq'
                have e5 : IntKind.u64.wrap (q : Int) = q := by
                  have h1 : q ≤ a2 := by rw [← hq']; exact Nat.div_le_self _ _
                  rw [IntKind.wrap_u64]
                  omega
                have e4 : ((n : Int) == 0) = false := by simp; omega
                have hn0 : ¬ ((n : Int) = 0) := by omega
                have hn0' : ¬ n = 0 := by omega
                have HNN := Lib.hid hnn
                clear hmv hq hcl hmb hBq S12 S13 hperm hmem hxl hlt2 hnot ha1 ha2 hq' hnn
                go_wp2_with fail
                refine wp_region_text (S := fun wx => Sp W [] wx (rangeR 9 encU km ri T N1 cnt1 :: mapR 9 encU kb B :: mapR 9 encU ka A :: ledR p d n 1073741824 M :: diskR d D :: []) ∧ ((Instr.lookup 48 (.map (some kb)) (.string ⟨x.toArray⟩) false).run Try.prog wx = .ok (.int .u64 q) wx) ∧ ((Instr.lookup 48 (.map (some ka)) (.string ⟨x.toArray⟩) false).run Try.prog wx = .ok (.int .u64 C) wx)) (by kernel_rfl) (by kernel_rfl) ⟨(HS13.out).drew, HLB.out _ HS13.out.drew, HLA.out _ HS13.out.drew⟩ ?_
                repeat
                  refine Exists.intro ?_ (And.intro (fun wS hS K hK => ?_) (And.intro ?_ ?_))
                  rotate_left 1
                  · obtain ⟨hS1, hS2, hS3⟩ := hS
                    first
                      | (refine if_unwanted rfl ?_; simp only [Act.put, List.setIfInBounds_toArray, List.set_cons_zero, List.set_cons_succ]; exact hK.out _ ⟨hS1, hS2, hS3⟩)
                      | (refine if_wanted rfl ?_; go_simp; exact hK.out _ ⟨hS1, hS2, hS3⟩)
                      | (refine if_wanted rfl ?_; go_simp; go_at_call 22; refine (HC.out _ hS1).mono ?_; rintro e w12 ⟨rfl, S12⟩; exact hK.out _ ⟨S12, HLB.out _ S12, HLA.out _ S12⟩)
                  · rfl
                intro wE hE
                have HSE := Lib.hid hE.1
                clear hE
                go_wp2_with fail
                go_roundw
                case rel => exact ⟨N1, cnt1, HSE.out⟩
                case measure =>
                  have h1 := HSE.out.range.left_eq
                  have h2 := HLE.out
                  have h3 := HLT.out
                  omega
end Go.Proofs.Ytpkolkgndhagiaa
