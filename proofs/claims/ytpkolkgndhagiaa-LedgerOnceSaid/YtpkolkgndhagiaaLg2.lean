/- ledger: Counter, Ceiling, Spent, reserve. Conditions: the lengths fit. -/
import Derived.Test.YtpkolkgndhagiaaLg1
import Derived.Test.YtpkolkgndhagiaaReg
namespace Go.Proofs.Ytpkolkgndhagiaa
open Go.RowKit Go.Maps
open Go.WideMaps (keyOf_string_mk)

abbrev encC (c : Cnt) : Value := .agg #[.int .u64 c.c, .int .u64 c.ceil]
def lgOf (M : Mp Cnt) (k : Bs) : Cnt := (M.get k).getD ⟨0, 0⟩
def ledB : Bs := [108, 101, 100, 103, 101, 114]
abbrev ledR (p d step most : Nat) (M : Mp Cnt) : Res := Res.ex fun m : Nat => (boxR p #[.pointer (some ⟨d, 0, none⟩), .int .u64 step, .int .u64 most, .map (some m)] 104).and (mapR 9 encC m M)
theorem keyStrL (x : Bs) (hx : x.length ≤ maxLen) : keyOf Try.prog 9 (.string ⟨x.toArray⟩) = some (.string x) := keyOf_string_mk Try.underlying9 (s := ⟨x.toArray⟩) hx
theorem keyedStrL : Keyed Try.prog 9 := string_keyed Try.underlying9
theorem zeroCnt (w : World) : (zeroValue 106).run Try.prog w = .ok (encC ⟨0, 0⟩) w := by kernel_rfl
theorem fieldCnt0 (a b : Int) (w : World) : (Instr.field 106 (.agg #[.int .u64 a, .int .u64 b]) 0).run Try.prog w = .ok (.int .u64 a) w := by
  simp [Instr.field, run_underlying Try.underlying106, part, asAgg, go_sem]
theorem fieldCnt1 (a b : Int) (w : World) : (Instr.field 106 (.agg #[.int .u64 a, .int .u64 b]) 1).run Try.prog w = .ok (.int .u64 b) w := by
  simp [Instr.field, run_underlying Try.underlying106, part, asAgg, go_sem]
theorem getCnt (M : Mp Cnt) (k : Bs) : ((M.get k).map encC).getD (encC ⟨0, 0⟩) = .agg #[.int .u64 (lgOf M k).c, .int .u64 (lgOf M k).ceil] := by unfold lgOf; cases M.get k <;> rfl

section
variable {w0 w : World} {F0 : List Nat} {L : List Res} {p d step most : Nat} {M : Mp Cnt}
set_option maxRecDepth 100000 in
set_option maxHeartbeats 400000 in
theorem ledCounterS (x : Bs) (S : Sp w0 F0 w (ledR p d step most M :: L)) (hx : x.length ≤ maxLen) :
    Calls Try.prog 21 #[.pointer (some ⟨p, 0, none⟩), .string ⟨x.toArray⟩] w fun e w2 => e = .returned (.int .u64 (lgOf M x).c) ∧ w = w2 := by
  obtain ⟨m, S1⟩ := S.exOpen
  have hl := ((Sp.pick [_, _] [1] (by decide) (S1.part))).map.look (t := 102) keyedStrL Try.underlying102 (zeroCnt _) (keyStrL x hx)
  rw [getCnt] at hl
  have c := S1.part.cell
  generalize lgOf M x = y at *
  obtain ⟨a, b⟩ := y
  clear S S1 hx
  dsimp only at *
  have hf := fieldCnt0
  go_enter Try.func21, Try.ntmps21
  go_wp2
  go_ret
  exact ⟨rfl, rfl⟩
set_option maxRecDepth 100000 in
set_option maxHeartbeats 400000 in
theorem ledCeilingS (x : Bs) (S : Sp w0 F0 w (ledR p d step most M :: L)) (hx : x.length ≤ maxLen) :
    Calls Try.prog 22 #[.pointer (some ⟨p, 0, none⟩), .string ⟨x.toArray⟩] w fun e w2 => e = .returned (.int .u64 (lgOf M x).ceil) ∧ w = w2 := by
  obtain ⟨m, S1⟩ := S.exOpen
  have hl := ((Sp.pick [_, _] [1] (by decide) (S1.part))).map.look (t := 102) keyedStrL Try.underlying102 (zeroCnt _) (keyStrL x hx)
  rw [getCnt] at hl
  have c := S1.part.cell
  generalize lgOf M x = y at *
  obtain ⟨a, b⟩ := y
  clear S S1 hx
  dsimp only at *
  have hf := fieldCnt1
  go_enter Try.func22, Try.ntmps22
  go_wp2
  go_ret
  exact ⟨rfl, rfl⟩
set_option maxRecDepth 100000 in
set_option maxHeartbeats 400000 in
theorem ledSpentS (x : Bs) (S : Sp w0 F0 w (ledR p d step most M :: L)) (hx : x.length ≤ maxLen) :
    Calls Try.prog 23 #[.pointer (some ⟨p, 0, none⟩), .string ⟨x.toArray⟩] w fun e w2 => e = .returned (.bool (decide (most ≤ (lgOf M x).c))) ∧ Sp w0 F0 w2 (ledR p d step most M :: L) := by
  obtain ⟨m, S1⟩ := S.exOpen
  have HS := Lib.hid S1.part
  have HX := Lib.hid hx
  clear S S1 hx
  have HC : Hid (∀ {w}, Sp w0 F0 w (boxR p #[.pointer (some ⟨d, 0, none⟩), .int .u64 step, .int .u64 most, .map (some m)] 104 :: mapR 9 encC m M :: L) → Calls Try.prog 21 #[.pointer (some ⟨p, 0, none⟩), .string ⟨x.toArray⟩] w fun e w2 => e = .returned (.int .u64 (lgOf M x).c) ∧ Sp w0 F0 w2 (boxR p #[.pointer (some ⟨d, 0, none⟩), .int .u64 step, .int .u64 most, .map (some m)] 104 :: mapR 9 encC m M :: L)) := fun {w} S => by
    refine (ledCounterS (p := p) (d := d) (step := step) (most := most) (M := M) x (S.glue.exShut m) HX.out).mono ?_
    rintro e w2 ⟨rfl, rfl⟩
    exact ⟨rfl, S⟩
  go_enter Try.func23, Try.ntmps23
  go_wp2_with fail
  refine wp_region_text (S := fun wx => Sp w0 F0 wx (boxR p #[.pointer (some ⟨d, 0, none⟩), .int .u64 step, .int .u64 most, .map (some m)] 104 :: mapR 9 encC m M :: L) ∧ (∀ o, wx.cell? ⟨p, o, none⟩ = (#[.pointer (some ⟨d, 0, none⟩), .int .u64 step, .int .u64 most, .map (some m)])[o]?)) (by kernel_rfl) (by kernel_rfl) ⟨(HS.out).drew, (Sp.pick [_, _] [0] (by decide) ((HS.out).drew)).cell⟩ ?_
  repeat
    refine Exists.intro ?_ (And.intro (fun wS hS K hK => ?_) (And.intro ?_ ?_))
    rotate_left 1
    · obtain ⟨hS1, hS2⟩ := hS
      first
        | (refine if_unwanted rfl ?_; simp only [Act.put, List.setIfInBounds_toArray, List.set_cons_zero, List.set_cons_succ]; exact hK.out _ ⟨hS1, hS2⟩)
        | (refine if_wanted rfl ?_; go_simp; exact hK.out _ ⟨hS1, hS2⟩)
        | (refine if_wanted rfl ?_; go_simp; go_at_call 21; refine (HC.out hS1).mono ?_; rintro e w12 ⟨rfl, S12⟩; exact hK.out _ ⟨S12, (Sp.pick [_, _] [0] (by decide) (S12)).cell⟩)
    · rfl
  intro wE hE
  have HSE := Lib.hid hE.1
  clear hE
  go_wp2
  go_ret
  exact ⟨ret_bool (by first | rfl | (rw [Bool.eq_iff_iff]; simp)), HSE.out.glue.exShut m⟩

def ledReserve (D : Dk) (key : Bs) (ceil : Nat) : Dk × Int :=
  if (D.append ledB (LRow.text ⟨key, ceil⟩)).2 ≠ 0 then D.append ledB (LRow.text ⟨key, ceil⟩) else (D.append ledB (LRow.text ⟨key, ceil⟩)).1.sync
theorem lrow_length_le (x : LRow) : x.text.length ≤ x.key.length + 27 := by
  unfold LRow.text
  have h1 := textB_length_le (textB x.key ++ numB x.ceil)
  have h2 := textB_length_le x.key
  have h3 := numB_length_le x.ceil
  simp only [List.length_append] at h1
  omega
set_option maxRecDepth 100000 in
set_option maxHeartbeats 1000000 in
theorem ledReserveS (x : Bs) (n k : Nat) (D : Dk) (S : Sp w0 F0 w (ledR p d step most M :: diskR d D :: L)) (hx : x.length ≤ 1000000) (hn : n < 18446744073709551616) (hD : D.Roomy k) (hk : k ≤ 800000000) :
    Calls Try.prog 54 #[.pointer (some ⟨p, 0, none⟩), .string ⟨x.toArray⟩, .int .u64 n] w fun e w2 => e = .returned (.int .i64 (ledReserve D x n).2) ∧ Sp w0 F0 w2 (ledR p d step most M :: diskR d (ledReserve D x n).1 :: L) := by
  obtain ⟨m, S1⟩ := S.exOpen
  have HS := Lib.hid S1.part
  have HX := Lib.hid hx
  have HN := Lib.hid hn
  have HA : Hid (D.Small ∧ (D.append ledB (LRow.text ⟨x, n⟩)).1.Small) := by
    have h1 := hD.append ledB (LRow.text ⟨x, n⟩)
    have h2 := lrow_length_le ⟨x, n⟩
    dsimp only at h2
    exact ⟨hD.small (by omega), h1.small (by omega)⟩
  have HR : Hid (ledReserve D x n = _) := Lib.hid (ledReserve.eq_1 D x n)
  have c0 := S1.part.cell
  clear S S1 hx hn hD hk
  go_enter Try.func54, Try.ntmps54
  go_wp2_with fail
  go_cut [7] (fun v wx => v = .int .i64 (D.append ledB (LRow.text ⟨x, n⟩)).2 ∧ Sp w0 F0 wx (boxR p #[.pointer (some ⟨d, 0, none⟩), .int .u64 step, .int .u64 most, .map (some m)] 104 :: mapR 9 encC m M :: diskR d (D.append ledB (LRow.text ⟨x, n⟩)).1 :: L))
  case first =>
    go_region_with (first | (go_at_call 80; refine (rowTextS ⟨x, n⟩ HS.out.drew HX.out HN.out).mono ?_; rintro e w2 ⟨rfl, S5⟩; have c5 := S5.cell; have HS5 := Lib.hid S5; clear S5) | (go_at_call 79; refine (appendS ledB (LRow.text ⟨x, n⟩) HS5.out.pull2 HA.out.1 (by decide) (by have := lrow_length_le ⟨x, n⟩; have := HX.out; dsimp only at *; omega)).mono ?_; rintro e w3 ⟨rfl, S6⟩; have HS6 := Lib.hid (Sp.pick [_, _, _] [1, 2, 0] (by decide) (S6)); clear S6))
    all_goals
      clear c0 c5
      go_wp2_with fail
      go_meet
      exact ⟨rfl, HS6.out⟩
  case rest =>
    obtain ⟨rfl, S7⟩ := hcut
    have c7 := S7.cell
    have HS7 := Lib.hid S7
    have HA1 := Lib.hid HA.out.2
    clear HS c0 S7 HA
    generalize D.append ledB (LRow.text ⟨x, n⟩) = A at *
    obtain ⟨D1, e1⟩ := A
    dsimp only at *
    by_cases he : e1 = 0
    · subst he
      go_wp2_with (go_at_call 53; refine (syncS HS7.out.pull2 HA1.out).mono ?_; rintro e w6 ⟨rfl, S8⟩; have HS8 := Lib.hid S8; clear S8)
      go_ret
      rw [HR.out, if_neg (by simp)]
      exact ⟨rfl, ((Sp.pick [_, _, _] [1, 2, 0] (by decide) (HS8.out))).glue.exShut m⟩
    · have t1 : (e1 != 0) = true := by simpa using he
      have HE := Lib.hid he
      clear he
      go_wp2
      go_ret
      rw [HR.out, if_pos HE.out]
      exact ⟨rfl, HS7.out.glue.exShut m⟩
end
end Go.Proofs.Ytpkolkgndhagiaa
