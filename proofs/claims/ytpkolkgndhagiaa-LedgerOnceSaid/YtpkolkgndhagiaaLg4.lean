/- ledger: Open. Conditions: the lengths fit. -/
import Derived.Test.YtpkolkgndhagiaaLg3
namespace Go.Proofs.Ytpkolkgndhagiaa
open Go.RowKit Go.Maps

def ledPuts (l : List LRow) : Mp Cnt := l.foldl (fun M p => M.put p.key ⟨p.ceil, p.ceil⟩) []
def ledFile (D : Dk) : Bs := (D.now.get ledB).getD []
/-- What opening does behind the arguments were looked at. -/
def ledOpen (D : Dk) : Dk × Option (Mp Cnt) × Int :=
  if D.now.has ledB = true ∧ ledRest (ledFile D) = [] then (D, some (ledPuts (ledRows (ledFile D))), 0)
  else if (D.write ledB ((ledFile D).take ((ledFile D).length - (ledRest (ledFile D)).length))).2 ≠ 0 then ((D.write ledB ((ledFile D).take ((ledFile D).length - (ledRest (ledFile D)).length))).1, none, (D.write ledB ((ledFile D).take ((ledFile D).length - (ledRest (ledFile D)).length))).2)
  else if (D.write ledB ((ledFile D).take ((ledFile D).length - (ledRest (ledFile D)).length))).1.sync.2 ≠ 0 then ((D.write ledB ((ledFile D).take ((ledFile D).length - (ledRest (ledFile D)).length))).1.sync.1, none, (D.write ledB ((ledFile D).take ((ledFile D).length - (ledRest (ledFile D)).length))).1.sync.2)
  else ((D.write ledB ((ledFile D).take ((ledFile D).length - (ledRest (ledFile D)).length))).1.sync.1, some (ledPuts (ledRows (ledFile D))), 0)
def LedPost (w0 : World) (F0 : List Nat) (L : List Res) (d step most : Nat) (R : Dk × Option (Mp Cnt) × Int) (e : Ending) (w2 : World) : Prop :=
  match R.2.1 with
  | none => e = .returned (.tuple #[.pointer none, .int .i64 R.2.2]) ∧ Sp w0 F0 w2 (diskR d R.1 :: L)
  | some M => ∃ p, e = .returned (.tuple #[.pointer (some ⟨p, 0, none⟩), .int .i64 R.2.2]) ∧ Sp w0 F0 w2 (ledR p d step most M :: diskR d R.1 :: L)
theorem ledPuts_snoc (l : List LRow) (x : LRow) : ledPuts (l ++ [x]) = (ledPuts l).put x.key ⟨x.ceil, x.ceil⟩ := by simp [ledPuts]
theorem ledPuts_length (l : List LRow) : (ledPuts l).length ≤ l.length := by
  have : ∀ (l : List LRow) (M : Mp Cnt), (l.foldl (fun M p => M.put p.key ⟨p.ceil, p.ceil⟩) M).length ≤ M.length + l.length := by
    intro l
    induction l with
    | nil => intro M; simp
    | cons x l ih =>
      intro M
      have h1 := ih (M.put x.key ⟨x.ceil, x.ceil⟩)
      have h2 := Mp.length_put_le M x.key (⟨x.ceil, x.ceil⟩ : Cnt)
      simp only [List.foldl_cons, List.length_cons]
      omega
  have := this l []
  simpa [ledPuts] using this
theorem ledScan_len : ∀ (f : Nat) (s : Bs), (ledScan f s).2.length + (ledScan f s).1.length ≤ s.length ∧ ∀ x ∈ (ledScan f s).1, lrowOk x
  | 0, s => by simp [ledScan]
  | f + 1, s => by
    rw [ledScan]
    split
    · rename_i h
      obtain ⟨_, _, h2, h3⟩ := rowNext_spec h
      have ih := ledScan_len f (rowNext ⟨s, false⟩).2.2.s
      refine ⟨by simp only [List.length_cons]; omega, fun x hx => ?_⟩
      rcases List.mem_cons.1 hx with rfl | hx
      · exact h3
      · exact ih.2 x hx
    · simp

section
variable {w0 w : World} {F0 : List Nat} {L : List Res} {d : Nat}
set_option maxRecDepth 100000 in
set_option maxHeartbeats 400000 in
theorem ledOpen_nil (step most : Nat) (S : Sp w0 F0 w L) : Calls Try.prog 18 #[.pointer none, .int .u64 step, .int .u64 most] w fun e w2 => e = .returned (.tuple #[.pointer none, .int .i64 1]) ∧ Sp w0 F0 w2 L := by
  have HS := Lib.hid S
  clear S
  go_enter Try.func18, Try.ntmps18
  go_wp2
  go_ret2
  exact ⟨rfl, HS.out⟩
set_option maxRecDepth 100000 in
set_option maxHeartbeats 400000 in
theorem ledOpen_arg (step most : Nat) (S : Sp w0 F0 w L) (h : step < 1 ∨ 1000 < step ∨ 1099511627776 < most) : Calls Try.prog 18 #[.pointer (some ⟨d, 0, none⟩), .int .u64 step, .int .u64 most] w fun e w2 => e = .returned (.tuple #[.pointer none, .int .i64 1]) ∧ Sp w0 F0 w2 L := by
  have HS := Lib.hid S
  clear S
  by_cases h1 : step < 1
  · go_enter Try.func18, Try.ntmps18
    go_wp2
    go_ret2
    exact ⟨rfl, HS.out⟩
  · by_cases h2 : 1000 < step
    · have h1' : (1 : Int) ≤ step := by omega
      have h2' : (1000 : Int) < step := by omega
      clear h h1 h2
      go_enter Try.func18, Try.ntmps18
      go_wp2
      all_goals (go_ret2; exact ⟨rfl, HS.out⟩)
    · have h3 : (1099511627776 : Int) < most := by omega
      have h1' : (1 : Int) ≤ step := by omega
      have h2' : (step : Int) ≤ 1000 := by omega
      clear h h1 h2
      go_enter Try.func18, Try.ntmps18
      go_wp2
      all_goals (go_ret2; exact ⟨rfl, HS.out⟩)

set_option maxRecDepth 100000 in
set_option maxHeartbeats 4000000 in
theorem ledOpenS (step most k : Nat) (D : Dk) (S : Sp w0 F0 w (diskR d D :: L)) (h1 : 1 ≤ step) (h2 : step ≤ 1000) (h3 : most ≤ 1099511627776) (hD : D.Roomy k) (hk : k ≤ 400000000) :
    Calls Try.prog 18 #[.pointer (some ⟨d, 0, none⟩), .int .u64 step, .int .u64 most] w fun e w2 => LedPost w0 F0 L d step most (ledOpen D) e w2 := by
  have HO : Hid (ledOpen D = _) := Lib.hid (ledOpen.eq_1 D)
  have HF : Hid (ledFile D = (D.now.get ledB).getD []) := rfl
  have hl : (ledFile D).length ≤ k := hD.file ledB
  have HL : Hid ((ledFile D).length ≤ 400000000) := Nat.le_trans hl hk
  have HW : Hid (D.Small ∧ ∀ x : Bs, x.length ≤ 400000000 → (D.write ledB x).1.Small) :=
    ⟨hD.small (by omega), fun x hx => (hD.write ledB x).small (by omega)⟩
  have HS := Lib.hid S
  have i1 : (1 : Int) ≤ step := by omega
  have i2 : (step : Int) ≤ 1000 := by omega
  have i3 : (most : Int) ≤ 1099511627776 := by omega
  have hmm := @run_makeMap Try.prog
  clear S hD hk hl h1 h2 h3
  go_enter Try.func18, Try.ntmps18
  go_wp2_with fail
  refine (readS ledB HS.out (by decide)).mono ?_
  rw [← HF.out]
  rintro e w2 ⟨rfl, rfl⟩
  generalize ledFile D = s at *
  obtain ⟨ec, hec⟩ : ∃ c : Int, (if D.now.has ledB then 0 else 10) = c := ⟨_, rfl⟩
  rw [hec]
  have HEC : Hid ((D.now.has ledB = true ∧ ec = 0) ∨ (D.now.has ledB = false ∧ ec = 10)) := by
    cases hh : D.now.has ledB <;> simp [hh] at hec <;> simp [hec.symm, Hid]
  clear hec
  go_wp2_with fail
  refine (ledRowsS s HS.out (by have := HL.out; omega)).mono ?_
  rintro e w3 ⟨rv, rfl, S3⟩
  have hrl := ledScan_len (s.length + 1) s
  have HRL : Hid ((ledRest s).length + (ledRows s).length ≤ s.length) := hrl.1
  have HOKR : Hid (∀ x ∈ ledRows s, lrowOk x) := hrl.2
  have hr1 : ((ledRest s).length : Int) ≤ s.length := by have := hrl.1; unfold ledRest; omega
  have hs4 : (s.length : Int) ≤ 400000000 := by have := HL.out; omega
  generalize ledRows s = rows at *
  generalize ledRest s = rest at *
  have HS3 := Lib.hid S3
  clear S3 HS hrl
  obtain ⟨bad, hbad⟩ : ∃ bad : Bool, bad = !decide (D.now.has ledB = true ∧ rest = []) := ⟨_, rfl⟩
  go_upto_region 5 with (fail)
  go_cut [48] (fun v wx => v = .bool bad ∧ Sp w0 F0 wx (lrowsR rv rows :: diskR d D :: L))
  case first =>
    rcases HEC.out with ⟨hh, rfl⟩ | ⟨hh, rfl⟩
    · by_cases hrest : rest = []
      · have hb0 : bad = false := by rw [hbad, hh, hrest]; rfl
        have hge : ¬ ((s.length : Int) - (rest.length : Int) < s.length) := by rw [hrest]; simp
        clear hrest
        go_wp2_with fail
        go_meet
        exact ⟨by rw [hb0], HS3.out⟩
      · have hb0 : bad = true := by rw [hbad]; simp [hrest]
        have hlt : ((s.length : Int) - (rest.length : Int) < s.length) := by have := List.length_pos_iff.2 hrest; omega
        clear hrest
        go_wp2_with fail
        go_meet
        exact ⟨by rw [hb0], HS3.out⟩
    · have hb0 : bad = true := by rw [hbad, hh]; simp
      go_wp2_with fail
      go_meet
      exact ⟨by rw [hb0], HS3.out⟩
  case rest =>
    obtain ⟨rfl, S4⟩ := hcut
    have HS4 := Lib.hid S4
    clear S4 HS3
    have HC := Lib.hid (cut_head s (s.length - rest.length))
    have HWL : Hid ((s.take (s.length - rest.length)).length ≤ 400000000) := by have := HL.out; rw [List.length_take]; unfold Hid; omega
    go_upto_if 48 with (fail)
    go_cut [] (fun wx => ∃ D2, ledOpen D = (D2, some (ledPuts rows), 0) ∧ Sp w0 F0 wx (lrowsR rv rows :: diskR d D2 :: L))
    case first =>
      cases bad with
      | false =>
        have hgood : D.now.has ledB = true ∧ rest = [] := by
          by_cases h : D.now.has ledB = true ∧ rest = []
          · exact h
          · rw [decide_eq_false h] at hbad; cases hbad
        have HV : Hid (ledOpen D = (D, some (ledPuts rows), 0)) := by rw [HO.out, if_pos hgood]; trivial
        clear hbad hgood hr1
        go_wp2_with fail
        go_meet
        exact ⟨D, HV.out, HS4.out⟩
      | true =>
        have hno : ¬ (D.now.has ledB = true ∧ rest = []) := fun h => by rw [decide_eq_true h] at hbad; cases hbad
        rw [if_neg hno] at HO
        clear hno hbad
        go_wp2_with fail
        rw [HC.out]
        refine (writeS ledB _ HS4.out.pull1 HW.out.1 (by decide) (by have := HWL.out; omega)).mono ?_
        have HW1 := Lib.hid (HW.out.2 _ HWL.out)
        generalize D.write ledB (s.take (s.length - rest.length)) = A at *
        obtain ⟨D1, e1⟩ := A
        dsimp only at *
        rintro e w5 ⟨rfl, S6⟩
        have HS6 := Lib.hid S6
        clear S6 HS4
        by_cases he1 : e1 = 0
        · subst he1
          rw [if_neg (by simp)] at HO
          go_wp2_with fail
          refine (syncS HS6.out HW1.out).mono ?_
          generalize D1.sync = B at *
          obtain ⟨D2, e2⟩ := B
          dsimp only at *
          rintro e w6 ⟨rfl, S7⟩
          have HS7 := Lib.hid S7
          clear S7 HS6
          by_cases he2 : e2 = 0
          · subst he2
            rw [if_neg (by simp)] at HO
            go_wp2_with fail
            go_meet
            exact ⟨D2, HO.out, HS7.out.pull1⟩
          · have t2 : (e2 != 0) = true := by simpa using he2
            have HV : Hid (ledOpen D = (D2, none, e2)) := by rw [HO.out, if_pos he2]; trivial
            clear he2 HO
            go_wp2
            go_ret2
            rw [HV.out]
            exact ⟨rfl, (Sp.pick [_, _] [0] (by decide) (HS7.out))⟩
        · have t1 : (e1 != 0) = true := by simpa using he1
          have HV : Hid (ledOpen D = (D1, none, e1)) := by rw [HO.out, if_pos he1]; trivial
          clear he1 HO
          go_wp2
          go_ret2
          rw [HV.out]
          exact ⟨rfl, (Sp.pick [_, _] [0] (by decide) (HS6.out))⟩
    case rest =>
      obtain ⟨D2, hV, S5⟩ := hcut
      have HV := Lib.hid hV
      have HS5 := Lib.hid S5
      obtain ⟨ra, rcap, rfl⟩ : ∃ a cap, rv = .slice a rows.length cap := by
        rcases S5.rowForm with ⟨rfl, h0⟩ | ⟨g, cap, rfl⟩
        · exact ⟨none, 0, by rw [h0]⟩
        · exact ⟨_, _, rfl⟩
      have HROW : Hid (∀ {wz : World} {i : Nat} {x : LRow} {K : List Res}, Sp w0 F0 wz (lrowsR (.slice ra rows.length rcap) rows :: K) → rows[i]? = some x → ∃ g, ra = some ⟨g, 0, none⟩ ∧ wz.cell? ⟨g, i * 2, none⟩ = some (.string ⟨x.key.toArray⟩) ∧ wz.cell? ⟨g, i * 2 + 1, none⟩ = some (.int .u64 x.ceil)) := fun {wz i x K} S hx => by
        rcases S.rowForm with ⟨h, h0⟩ | ⟨g, cap, h⟩
        · have : rows = [] := List.eq_nil_of_length_eq_zero h0
          rw [this] at hx
          cases hx
        · simp only [Value.slice.injEq, true_and] at h
          obtain ⟨rfl, rfl⟩ := h
          have hm : (rows.map LRow.vals)[i]? = some x.vals := by simp [hx]
          have hl2 : ∀ y ∈ rows.map LRow.vals, y.length = 2 := by
            intro y hy
            obtain ⟨z, _, rfl⟩ := List.mem_map.1 hy
            rfl
          exact ⟨g, rfl, S.rowCell hl2 hm (j := 0) rfl, S.rowCell hl2 hm (j := 1) rfl⟩
      have hrn : (rows.length : Int) ≤ 400000000 := by have := HRL.out; have := HL.out; omega
      clear hV S5 HS4 HO hbad
      go_wp2_with fail
      have S6 := (HS5.out.mapMade 9 encC).box #[.pointer (some ⟨d, 0, none⟩), .int .u64 step, .int .u64 most, .map (some wc.heap.size)] 104
      simp only [World.size_alloc] at S6
      have HS6 := Lib.hid S6
      clear S6 HS5 hmm
      generalize (wc.alloc (.map #[] 0)).alloc (.cells #[.pointer (some ⟨d, 0, none⟩), .int .u64 step, .int .u64 most, .map (some wc.heap.size)] 104) = w6 at *
      generalize wc.heap.size + 1 = p at *
      generalize wc.heap.size = m at *
      go_loopw [70] (fun v wr => ∃ j : Nat, v = .int .i64 j ∧ j ≤ rows.length ∧ Sp w0 F0 wr (boxR p #[.pointer (some ⟨d, 0, none⟩), .int .u64 step, .int .u64 most, .map (some m)] 104 :: mapR 9 encC m (ledPuts (rows.take j)) :: lrowsR (.slice ra rows.length rcap) rows :: diskR d D2 :: L)) (fun v _ => rows.length - (intOf v).toNat)
      case atStart => exact ⟨0, rfl, by omega, HS6.out⟩
      case round =>
        obtain ⟨j, rfl, hj, S7⟩ := hrel
        have HS7 := Lib.hid S7
        clear S7 HS6
        by_cases hlt : j < rows.length
        · have hlt' : (j : Int) < rows.length := by omega
          obtain ⟨x, hx⟩ : ∃ x, rows[j]? = some x := ⟨_, List.getElem?_eq_getElem hlt⟩
          obtain ⟨g, rfl, c0, c1⟩ := HROW.out ((Sp.pick [_, _, _] [2, 0, 1] (by decide) (HS7.out))) hx
          have HTK : Hid (rows.take (j + 1) = rows.take j ++ [x]) := by
            obtain ⟨_, h⟩ := List.getElem?_eq_some_iff.1 hx
            unfold Hid
            rw [List.take_succ_eq_append_getElem hlt, h]
          obtain ⟨key, ceil⟩ := x
          dsimp only at *
          have hkl : key.length ≤ maxLen := by
            have := (HOKR.out _ (List.mem_of_getElem? hx)).1
            unfold maxLen
            dsimp only at this
            omega
          have S8 := HS7.out.box #[.string ⟨key.toArray⟩, .int .u64 ceil] 33
          have c8 := S8.cell
          have p8 := S8.pull1.cell
          obtain ⟨w9, hrun, S9, _⟩ := ((Sp.pick [_, _, _, _, _] [2, 1, 3, 4] (by decide) (S8))).drew.mapPut (t := 102) keyedStrL Try.underlying102 (by have := ledPuts_length (rows.take j); have := HRL.out; have := HL.out; rw [List.length_take] at *; unfold maxLen; omega) (keyStrL key hkl) ⟨ceil, ceil⟩
          rw [← ledPuts_snoc (rows.take j) ⟨key, ceil⟩, ← HTK.out] at S9
          have HS9 := Lib.hid S9.pull1
          have HRUN := Lib.hid hrun
          have HC8 := Lib.hid c8
          have HP8 := Lib.hid p8
          clear hx S8 S9 hrun c8 p8 hkl HS7
          go_wp2_with fail
          clear c0 c1
          generalize wr.alloc (.cells #[.string ⟨key.toArray⟩, .int .u64 ceil] 33) = wz at *
          generalize wr.heap.size = q at *
          have c8 := HC8.out
          have p8 := HP8.out
          have hrun := HRUN.out
          clear HC8 HP8 HRUN
          go_region
          all_goals
            clear hrun c8 p8
            go_wp2_with fail
            go_roundw
            case rel => exact ⟨j + 1, by go_num, by omega, HS9.out⟩
            case measure => simp [intOf]; omega
        · have ht : rows.take j = rows := List.take_of_length_le (by omega)
          have HT := Lib.hid ht
          clear ht
          go_wp2
          go_ret2
          rw [HV.out]
          rw [HT.out] at HS7
          exact ⟨p, rfl, ((Sp.pick [_, _, _, _] [0, 1, 3] (by decide) (HS7.out))).glue.exShut m⟩
end
end Go.Proofs.Ytpkolkgndhagiaa
