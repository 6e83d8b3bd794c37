/- ring: a domain's state (State, Live), and how it is set (set, Begin, End). Conditions: the lengths fit. -/
import Derived.Test.YtpkolkgndhagiaaRing
import Derived.Deep.QuietTactic
import Derived.BigQuiet
namespace Go.Proofs.Ytpkolkgndhagiaa
open Go.RowKit Go.Maps
open Go.WideMaps (keyOf_string_mk)

def ringState (M : Mp RSt) (d : Bs) : RSt := (M.get d).getD ⟨1, 0⟩
abbrev ringR (p d : Nat) (M : Mp RSt) : Res := Res.ex fun m : Nat => (boxR p #[.pointer (some ⟨d, 0, none⟩), .map (some m)] 120).and (mapR 9 RSt.agg m M)
theorem keyStr (x : Bs) (hx : x.length ≤ maxLen) : keyOf Try.prog 9 (.string ⟨x.toArray⟩) = some (.string x) := keyOf_string_mk Try.underlying9 (s := ⟨x.toArray⟩) hx
theorem keyedStr : Keyed Try.prog 9 := string_keyed Try.underlying9
theorem zeroRSt (w : World) : (zeroValue 67).run Try.prog w = .ok (RSt.agg ⟨0, 0⟩) w := by kernel_rfl

section
variable {w0 w : World} {F0 : List Nat} {L : List Res} {p d : Nat} {M : Mp RSt}
set_option maxRecDepth 100000 in
set_option maxHeartbeats 400000 in
theorem firstS (S : Sp w0 F0 w L) : Calls Try.prog 62 #[] w fun e w2 => e = .returned (.agg #[.int .u64 1, .int .u64 0]) ∧ Sp w0 F0 w2 L := by
  have HS := Lib.hid S
  clear S
  go_enter Try.func62, Try.ntmps62
  go_wp2
  exact bodyPost_ret (v := .agg #[.int .u64 1, .int .u64 0]) (by simp [results, Try.results62, go_sem]) rfl ⟨rfl, HS.out.new _⟩

set_option maxRecDepth 100000 in
set_option maxHeartbeats 400000 in
theorem ringStateS (x : Bs) (S : Sp w0 F0 w (ringR p d M :: L)) (hx : x.length ≤ maxLen) :
    Calls Try.prog 33 #[.pointer (some ⟨p, 0, none⟩), .string ⟨x.toArray⟩] w fun e w2 => e = .returned (ringState M x).agg ∧ Sp w0 F0 w2 (ringR p d M :: L) := by
  obtain ⟨m, S1⟩ := S.exOpen
  have S2 := (S1.part.box #[.int .u64 0, .int .u64 0] 67).pull2
  have hl := S2.map.lookOk (t := 118) keyedStr Try.underlying118 (zeroRSt _) (keyStr x hx)
  have c := S1.part.cell
  have hlt := S1.part.boxlt
  have HS := Lib.hid S
  clear S S1 S2 hx
  cases hg : M.get x with
  | none =>
    have hh : M.has x = false := by rw [Mp.has_eq, hg]; rfl
    rw [hg, hh] at hl
    have HE : Hid (ringState M x = ⟨1, 0⟩) := by simp [ringState, hg, Hid]
    clear hg hh
    dsimp only [Option.map_none, Option.getD_none] at hl
    go_enter Try.func33, Try.ntmps33
    go_wp2_with (go_at_call 62; refine (firstS ((HS.out.box #[.int .u64 0, .int .u64 0] 67).new _)).mono ?_; rintro e w2 ⟨rfl, S2⟩; have c2 := S2.cell; have f2 := S2.free; have HS2 := Lib.hid S2; clear S2)
    have S3 := (HS2.out.set (o := 0) (.int .u64 1)).set (o := 1) (.int .u64 0)
    have c3 := S3.cell
    exact bodyPost_ret (v := .agg #[.int .u64 1, .int .u64 0]) (by simp [results, Try.results33, go_sem, c3]) rfl ⟨by rw [HE.out]; rfl, S3.drop⟩
  | some s =>
    obtain ⟨n, o⟩ := s
    have hh : M.has x = true := by rw [Mp.has_eq, hg]; rfl
    rw [hg, hh] at hl
    have HE : Hid (ringState M x = ⟨n, o⟩) := by simp [ringState, hg, Hid]
    clear hg hh
    dsimp only [Option.map_some, Option.getD_some] at hl
    go_enter Try.func33, Try.ntmps33
    go_wp2
    exact bodyPost_ret (v := .agg #[.int .u64 n, .int .u64 o]) (by simp [results, Try.results33, go_sem]) rfl ⟨by rw [HE.out], (HS.out.new _).new _⟩

set_option maxRecDepth 100000 in
set_option maxHeartbeats 400000 in
theorem ringLiveS (x : Bs) (n : Nat) (S : Sp w0 F0 w (ringR p d M :: L)) (hx : x.length ≤ maxLen) (hn : n < 18446744073709551616) :
    Calls Try.prog 36 #[.pointer (some ⟨p, 0, none⟩), .string ⟨x.toArray⟩, .int .u64 n] w fun e w2 => e = .returned (.bool (decide (0 < n) && (decide (n = (ringState M x).now) || decide (n = (ringState M x).old)))) ∧ Sp w0 F0 w2 (ringR p d M :: L) := by
  have HS := Lib.hid S
  have HX := Lib.hid hx
  clear S hx
  go_enter Try.func36, Try.ntmps36
  go_wp2_with fail
  refine (ringStateS x HS.out HX.out).mono ?_
  rintro e w2 ⟨rfl, S2⟩
  have HS2 := Lib.hid (S2.new (.cells #[.int .u64 (ringState M x).now, .int .u64 (ringState M x).old] 67))
  clear S2
  generalize hs : ringState M x = s at *
  have HE := Lib.hid hs
  clear hs
  obtain ⟨a, b⟩ := s
  dsimp only at *
  go_wp2
  all_goals
    go_ret
    refine ⟨ret_bool ?_, HS2.out⟩
    rw [HE.out, Bool.eq_iff_iff]
    simp
    omega

def ringB : Bs := [114, 105, 110, 103]
def ringSet (D : Dk) (M : Mp RSt) (x : Bs) (s : RSt) : Dk × Mp RSt × Int :=
  if s = ringState M x then (D, M, 0)
  else if (D.append ringB (ringRow x s)).2 ≠ 0 then ((D.append ringB (ringRow x s)).1, M, (D.append ringB (ringRow x s)).2)
  else if (D.append ringB (ringRow x s)).1.sync.2 ≠ 0 then ((D.append ringB (ringRow x s)).1.sync.1, M, (D.append ringB (ringRow x s)).1.sync.2)
  else ((D.append ringB (ringRow x s)).1.sync.1, M.put x s, 0)

theorem ringRow_length_le (x : Bs) (s : RSt) : (ringRow x s).length ≤ x.length + 36 := by
  unfold ringRow
  have h1 := textB_length_le (textB x ++ (numB s.now ++ numB s.old))
  have h2 := textB_length_le x
  have h3 := numB_length_le s.now
  have h4 := numB_length_le s.old
  simp only [List.length_append] at h1
  omega

set_option maxRecDepth 100000 in
set_option maxHeartbeats 1000000 in
theorem ringSetS (x : Bs) (n o k : Nat) (D : Dk) (S : Sp w0 F0 w (ringR p d M :: diskR d D :: L)) (hx : x.length ≤ 1000000) (hn : n < 18446744073709551616) (ho : o < 18446744073709551616) (hD : D.Roomy k) (hk : k ≤ 800000000) (hM : M.length ≤ 1000000) :
    Calls Try.prog 63 #[.pointer (some ⟨p, 0, none⟩), .string ⟨x.toArray⟩, .agg #[.int .u64 n, .int .u64 o]] w fun e w2 => e = .returned (.int .i64 (ringSet D M x ⟨n, o⟩).2.2) ∧ Sp w0 F0 w2 (ringR p d (ringSet D M x ⟨n, o⟩).2.1 :: diskR d (ringSet D M x ⟨n, o⟩).1 :: L) := by
  have HX := Lib.hid hx
  have HN := Lib.hid hn
  have HO := Lib.hid ho
  have HM := Lib.hid hM
  have HA : Hid (D.Small ∧ (D.append ringB (ringRow x ⟨n, o⟩)).1.Small) := by
    have h1 := hD.append ringB (ringRow x ⟨n, o⟩)
    have h2 := ringRow_length_le x ⟨n, o⟩
    exact ⟨hD.small (by omega), h1.small (by omega)⟩
  obtain ⟨⟨a, b⟩, hs⟩ : ∃ s, ringState M x = s := ⟨_, rfl⟩
  have HE := Lib.hid hs
  have S1 := S.box #[.int .u64 n, .int .u64 o] 67
  have c1 := S1.cell
  have HS1 := Lib.hid S1.pull1
  clear hx hn ho hM hD hk S S1 hs
  go_enter Try.func63, Try.ntmps63
  go_wp2_with fail
  generalize w.alloc (.cells #[.int .u64 n, .int .u64 o] 67) = W at *
  generalize w.heap.size = q at *
  have hcase : (((n : Int) == (a : Int)) = true ∧ ((o : Int) == (b : Int)) = true) ∨ ((n : Int) == (a : Int)) = false ∨ (((n : Int) == (a : Int)) = true ∧ ((o : Int) == (b : Int)) = false) := by
    cases (n : Int) == (a : Int) <;> cases (o : Int) == (b : Int) <;> simp
  rcases hcase with ⟨e1, e2⟩ | hne
  · have HV : Hid (ringSet D M x ⟨n, o⟩ = (D, M, 0)) := by
      simp only [beq_iff_eq, Int.ofNat_inj] at e1 e2
      unfold ringSet
      rw [if_pos (by rw [HE.out, e1, e2])]
      trivial
    go_region_with (go_at_call 33; refine (ringStateS x HS1.out.drew (by have := HX.out; unfold maxLen; omega)).mono ?_; rw [HE.out]; rintro e w2 ⟨rfl, S2⟩; have c2 := S2.pull1.cell; have HS2 := Lib.hid S2; clear S2)
    all_goals
      go_wp2
      go_ret
      rw [HV.out]
      exact ⟨rfl, (Sp.pick [_, _, _] [0, 2] (by decide) (HS2.out))⟩
  · have HV : Hid (ringSet D M x ⟨n, o⟩ = if (D.append ringB (ringRow x ⟨n, o⟩)).2 ≠ 0 then ((D.append ringB (ringRow x ⟨n, o⟩)).1, M, (D.append ringB (ringRow x ⟨n, o⟩)).2)
        else if (D.append ringB (ringRow x ⟨n, o⟩)).1.sync.2 ≠ 0 then ((D.append ringB (ringRow x ⟨n, o⟩)).1.sync.1, M, (D.append ringB (ringRow x ⟨n, o⟩)).1.sync.2)
        else ((D.append ringB (ringRow x ⟨n, o⟩)).1.sync.1, M.put x ⟨n, o⟩, 0)) := by
      unfold ringSet
      rw [if_neg]
      · trivial
      · rw [HE.out, RSt.mk.injEq]
        rcases hne with h | ⟨_, h⟩ <;> simp at h <;> omega
    go_cut [13] (fun v wx => v = .bool false ∧ Sp w0 F0 wx (ringR p d M :: boxR q #[.int .u64 n, .int .u64 o] 67 :: diskR d D :: L))
    case first =>
      rcases hne with e1 | ⟨e1, e2⟩
      all_goals
        go_region_with (go_at_call 33; refine (ringStateS x HS1.out.drew (by have := HX.out; unfold maxLen; omega)).mono ?_; rw [HE.out]; rintro e w2 ⟨rfl, S2⟩; have c2 := S2.pull1.cell; have HS2 := Lib.hid S2; clear S2)
        all_goals
          clear c1 c2
          go_wp2_with fail
          go_meet
          exact ⟨rfl, HS2.out⟩
    case rest =>
      obtain ⟨rfl, S3⟩ := hcut
      clear hne HS1 c1
      obtain ⟨m, S4⟩ := S3.exOpen
      have c4 := S4.part.cell
      have l4 := S4.part.boxlt
      have HS4 := Lib.hid S4.part
      have q4 := (Sp.pick [_, _, _, _] [2] (by decide) (S4.part)).cell
      have HS3 := Lib.hid S3
      clear S3 S4
      go_wp2_with fail
      go_cut [7] (fun v wx => v = .int .i64 (D.append ringB (ringRow x ⟨n, o⟩)).2 ∧ Sp w0 F0 wx (ringR p d M :: boxR q #[.int .u64 n, .int .u64 o] 67 :: diskR d (D.append ringB (ringRow x ⟨n, o⟩)).1 :: L))
      case first =>
        go_region_with (first | (go_at_call 85; refine (ringRowS x n o HS4.out.drew HX.out HN.out HO.out).mono ?_; rintro e w2 ⟨rfl, S5⟩; have c5 := S5.cell; have q5 := (Sp.pick [_, _, _, _] [2] (by decide) (S5)).cell; have HS5 := Lib.hid S5; clear S5) | (go_at_call 79; refine (appendS ringB (ringRow x ⟨n, o⟩) HS5.out.pull3 HA.out.1 (by decide) (by have := ringRow_length_le x ⟨n, o⟩; have := HX.out; omega)).mono ?_; rintro e w3 ⟨rfl, S6⟩; have HS6 := Lib.hid (Sp.pick [_, _, _, _] [1, 2, 3, 0] (by decide) (S6)); clear S6))
        all_goals
          clear c4 q4 c5 q5
          go_wp2_with fail
          go_meet
          exact ⟨rfl, HS6.out.glue.exShut m⟩
      case rest =>
        obtain ⟨rfl, S7⟩ := hcut
        clear HS3 HS4 c4 q4 l4
        obtain ⟨m7, S8⟩ := S7.exOpen
        have HA1 := Lib.hid HA.out.2
        clear HA
        generalize D.append ringB (ringRow x ⟨n, o⟩) = A at *
        obtain ⟨D1, e1⟩ := A
        dsimp only at *
        have c8 := S8.part.cell
        have HS8 := Lib.hid S8.part
        clear S7 S8
        by_cases he : e1 = 0
        · subst he
          go_wp2_with fail
          refine (syncS HS8.out.pull3 HA1.out).mono ?_
          rintro e w3 ⟨rfl, S9⟩
          generalize D1.sync = B at *
          obtain ⟨D2, e2⟩ := B
          dsimp only at *
          by_cases he : e2 = 0
          · subst he
            have c9 := (Sp.pick [_, _, _, _] [1] (by decide) (S9)).cell
            have q9 := (Sp.pick [_, _, _, _] [3] (by decide) (S9)).cell
            obtain ⟨w4, hrun, S10, _⟩ := ((Sp.pick [_, _, _, _] [2, 1, 0] (by decide) (S9))).drew.mapPut (t := 118) keyedStr Try.underlying118 (by have := HM.out; unfold maxLen; omega) (keyStr x (by have := HX.out; unfold maxLen; omega)) ⟨n, o⟩
            have HS10 := Lib.hid S10.pull1
            have HV3 : Hid (ringSet D M x ⟨n, o⟩ = (D2, M.put x ⟨n, o⟩, 0)) := by rw [HV.out]; simp [Hid]
            clear S9 S10 c8 HS8
            go_wp2_with fail
            go_region
            all_goals
              go_wp2
              go_ret
              rw [HV3.out]
              exact ⟨rfl, HS10.out.glue.exShut m7⟩
          · have t2 : (e2 != 0) = true := by simpa using he
            have HS9 := Lib.hid (Sp.pick [_, _, _, _] [1, 2, 0] (by decide) (S9))
            have HV2 : Hid (ringSet D M x ⟨n, o⟩ = (D2, M, e2)) := by rw [HV.out]; simp [he, Hid]
            clear S9 he
            go_wp2
            go_ret
            rw [HV2.out]
            exact ⟨rfl, HS9.out.glue.exShut m7⟩
        · have t1 : (e1 != 0) = true := by simpa using he
          have HV1 : Hid (ringSet D M x ⟨n, o⟩ = (D1, M, e1)) := by rw [HV.out]; simp [he, Hid]
          clear he
          go_wp2
          go_ret
          rw [HV1.out]
          exact ⟨rfl, ((Sp.pick [_, _, _, _] [0, 1, 3] (by decide) (HS8.out))).glue.exShut m7⟩
end
end Go.Proofs.Ytpkolkgndhagiaa
