/- law 22: some, awake, large, same. Conditions: what Go's variables hold; the lengths fit. -/
import Derived.Test.YtldlbiodllgflaaGreatDoorClZ
set_option linter.unusedSimpArgs false
set_option linter.unusedVariables false
set_option linter.unnecessarySimpa false
namespace Go.Proofs.YtldlbiodllgflaaGreatDoor
open Go.RowKit

theorem infoBox : (Tryz.prog.info? 23).map (fun i => (i.zero, i.size, i.bytes)) = some (some (.agg #[.string ⟨#[]⟩, .string ⟨#[]⟩]), 2, 32) := by kernel_rfl
abbrev bxsR (v : Value) (l : List Mb) : Res := rowR 23 2 v l.length (l.map Mb.vals).flatten
theorem mbVals_len (l : List Mb) : ∀ x ∈ l.map Mb.vals, x.length = 2 := fun x hx => by
  obtain ⟨r, _, rfl⟩ := List.mem_map.1 hx
  rfl
def some2 : List Mb := [([120], [99]), ([121], [99])]
section
variable {w0 w : World} {L : List Res} {F0 : List Nat} {p b : Nat} {v : Value} {C : Cl}
theorem Sp.bxAt {l : List Mb} (S : Sp w0 F0 w (bxsR v l :: L)) : BxAt w v l := by
  rcases S.rowForm with ⟨rfl, h⟩ | ⟨g, cap, rfl⟩
  · have : l = [] := List.eq_nil_of_length_eq_zero h
    subst this
    exact ⟨none, 0, rfl, .inl rfl⟩
  · refine ⟨_, cap, rfl, .inr ⟨g, 0, rfl, fun i r hr j u hu => ?_⟩⟩
    rw [Nat.zero_add]
    exact S.rowCell (mbVals_len l) hr hu
theorem Sp.ixAt {l : List Int} (S : Sp w0 F0 w (intsR v l :: L)) : IxAt w v l := by
  rcases S.rowForm with ⟨rfl, h⟩ | ⟨g, cap, rfl⟩
  · have : l = [] := List.eq_nil_of_length_eq_zero h
    subst this
    exact ⟨none, 0, rfl, .inl rfl⟩
  · refine ⟨_, cap, rfl, .inr ⟨g, 0, rfl, fun i hi => ?_⟩⟩
    have h := S.row.cells (g := g) rfl i (.int .i64 l[i]) (by rw [List.getElem?_map, List.getElem?_eq_getElem hi]; rfl)
    have hadd : (⟨g, 0, none⟩ : Addr).add i = ⟨g, 0 + i, none⟩ := by unfold Addr.add; split <;> simp_all
    rw [hadd] at h
    exact h
/-- A row laid at once. -/
theorem Sp.rowMade (S : Sp w0 F0 w L) (e k n : Nat) (xs : List Value) (hx : xs.length = n * k) (hn : n ≤ maxLen) : Sp w0 F0 (w.alloc (.cells xs.toArray e)) (rowR e k (.slice (some ⟨w.heap.size, 0, none⟩) n n) n xs :: L) :=
  S.gain (G := [w.heap.size]) ((Ext.refl [] w).alloc _) ⟨rfl, hx, .inr ⟨w.heap.size, n, xs.toArray, rfl, Nat.zero_le _, (MapKept.heap_alloc w _).1, Nat.le_refl _, hn, by simpa using hx, by rw [← hx]; simp⟩⟩ (by simp)
set_option maxRecDepth 100000 in
theorem someS (S : Sp w0 F0 w L) : Calls Tryz.prog 26 #[] w fun e w2 => ∃ g, e = .returned (.slice (some ⟨g, 0, none⟩) 2 2) ∧ Sp w0 F0 w2 (bxsR (.slice (some ⟨g, 0, none⟩) 2 2) some2 :: L) := by
  have HS := Lib.hid (S.rowMade 23 2 2 (some2.map Mb.vals).flatten rfl (by decide))
  clear S
  go_enter Tryz.func26, Tryz.ntmps26
  go_wp2
  go_ret
  exact ⟨_, rfl, HS.out⟩
def aw1 : Cl := ⟨[104, 46, 120], ([], []), some2.map rc0, [46, 97, 13, 10], 0, 0⟩
def aw2 : Cl := ⟨[104, 46, 120], ([], []), some2.map rc0, [], 0, 0⟩
theorem aw1_new : clNew [104, 46, 120] ([], []) some2 [46, 97, 13, 10] = (some aw1, 0) := by kernel_rfl
theorem aw2_new : clNew [104, 46, 120] ([], []) some2 [] = (some aw2, 0) := by kernel_rfl
theorem aw3_new : clNew [104, 46, 120] ([], []) [] [] = (none, 1) := by kernel_rfl
theorem aw4_new : clNew [104, 46, 120] ([], []) some2 [120] = (none, 2) := by kernel_rfl
def awCodes : List Int := [220, 250, 250, 250, 550, 354, 250, 221]
def awText : Bs := [69, 72, 76, 79, 32, 104, 46, 120, 13, 10, 77, 65, 73, 76, 32, 70, 82, 79, 77, 58, 60, 62, 32, 83, 73, 90, 69, 61, 52, 13, 10, 82, 67, 80, 84, 32, 84, 79, 58, 60, 120, 64, 99, 62, 13, 10, 82, 67, 80, 84, 32, 84, 79, 58, 60, 121, 64, 99, 62, 13, 10, 68, 65, 84, 65, 13, 10, 46, 46, 97, 13, 10, 46, 13, 10, 81, 85, 73, 84, 13, 10]
set_option maxRecDepth 100000 in
theorem aw1_play : (aw1.play awCodes).2 = awText ∧ (aw1.play awCodes).1.tos.map Rc.state = [1, 2] ∧ (aw1.play awCodes).1.phase = 8 := by decide +kernel
def aw2a : Cl := (aw2.take 220).1
def aw2b : Cl := (aw2a.take 500).1
def aw2c : Cl := (aw2b.take 250).1
def aw2d : Cl := (aw2c.take 451).1
theorem aw2_says : (aw2.take 220).2 = [69, 72, 76, 79, 32, 104, 46, 120, 13, 10] ∧ (aw2a.take 500).2 = [72, 69, 76, 79, 32, 104, 46, 120, 13, 10] ∧ (aw2b.take 250).2 = [77, 65, 73, 76, 32, 70, 82, 79, 77, 58, 60, 62, 13, 10] ∧ (aw2c.take 451).2 = [81, 85, 73, 84, 13, 10] ∧ aw2d.phase = 7 ∧ aw2d.tos.map Rc.state = [0, 0] := by decide +kernel
theorem aw1_ok : aw1.Ok := (clNew_ok aw1_new (by decide) (by decide) (by decide) (by decide) (by decide)).1
theorem aw2_ok : aw2.Ok := (clNew_ok aw2_new (by decide) (by decide) (by decide) (by decide) (by decide)).1
theorem aw2a_ok : aw2a.Ok := (take_goes aw2_ok 220).1
theorem aw2b_ok : aw2b.Ok := (take_goes aw2a_ok 500).1
theorem aw2c_ok : aw2c.Ok := (take_goes aw2b_ok 250).1
set_option maxRecDepth 100000 in
set_option maxHeartbeats 8000000 in
theorem awake22S (S : Sp w0 [] w L) (E : Env w0) : Calls Tryz.prog 8 #[] w fun e w2 => e = .returned (.bool true) ∧ Sp w0 [] w2 L := by
  have HS0 := Lib.hid S
  have HE := Lib.hid E
  clear S E
  go_enter Tryz.func8, Tryz.ntmps8
  go_wp2_with fail
  refine (someS HS0.out).mono ?_
  rintro e w1 ⟨g1, rfl, S⟩
  have HS1 := Lib.hid S
  clear S HS0
  go_wp2_with fail
  refine (clNewS [104, 46, 120] ([], []) _ some2 [46, 97, 13, 10] (by decide) (by decide) (by decide) (by decide) (by decide) (by decide) HE.out HS1.out.bxAt HS1.out).mono ?_
  rw [aw1_new]
  rintro e w2 ⟨p1, v1, rfl, S⟩
  have HS2 := Lib.hid ((Sp.pick [_, _, _] [0, 1] (by decide) (S)))
  clear S HS1
  go_wp2_with fail
  refine (someS HS2.out).mono ?_
  rintro e w3 ⟨g3, rfl, S⟩
  have HS3 := Lib.hid S
  clear S HS2
  go_wp2_with fail
  refine (clNewS [104, 46, 120] ([], []) _ some2 [] (by decide) (by decide) (by decide) (by decide) (by decide) (by decide) HE.out HS3.out.bxAt HS3.out).mono ?_
  rw [aw2_new]
  rintro e w4 ⟨p2, v2, rfl, S⟩
  have HS4 := Lib.hid ((Sp.pick [_, _, _, _, _] [0, 1, 3, 4] (by decide) (S)))
  clear S HS3
  go_wp2_with fail
  refine (clNewS [104, 46, 120] ([], []) (.slice none 0 0) [] [] (by decide) (by decide) (by decide) (by decide) (by decide) (by decide) HE.out ⟨none, 0, rfl, .inl rfl⟩ HS4.out).mono ?_
  rw [aw3_new]
  rintro e w5 ⟨rfl, S⟩
  have HS5 := Lib.hid S
  clear S HS4
  go_wp2_with fail
  refine (someS HS5.out).mono ?_
  rintro e w6 ⟨g6, rfl, S⟩
  have HS6 := Lib.hid S
  clear S HS5
  go_wp2_with fail
  refine (clNewS [104, 46, 120] ([], []) _ some2 [120] (by decide) (by decide) (by decide) (by decide) (by decide) (by decide) HE.out HS6.out.bxAt HS6.out).mono ?_
  rw [aw4_new]
  rintro e w7 ⟨rfl, S⟩
  have HS7 := Lib.hid (S.drop.rowMade 3 1 8 (awCodes.map fun z => .int .i64 z) rfl (by decide))
  clear S HS6
  go_wp2_with fail
  have HS8 : Hid (Sp w0 [] _ (clR p1 aw1 v1 (intsR (.slice (some ⟨w7.heap.size, 0, none⟩) 8 8) awCodes :: clB p2 aw2 v2 :: rcsR v2 aw2.tos :: L))) := Lib.hid ((Sp.pick [_, _, _, _, _] [3, 4, 0, 1, 2] (by decide) (HS7.out)))
  refine (clPlayS (.slice (some ⟨w7.heap.size, 0, none⟩) 8 8) awCodes (by decide) (by decide) aw1_ok rfl (fun wx h => h.ixAt) HS8.out HE.out).mono ?_
  rw [aw1_play.1]
  have HST1 : Hid ((aw1.play awCodes).1.tos.map Rc.state = [1, 2]) := aw1_play.2.1
  have HPH1 : Hid ((aw1.play awCodes).1.phase = 8) := aw1_play.2.2
  generalize (aw1.play awCodes).1 = D1 at *
  generalize w7.heap.size = gq at *
  rintro e w8 ⟨rfl, S⟩
  have HS9 := Lib.hid S
  clear S HS7 HS8
  unfold awText
  go_wp2_with fail
  refine (clStatesS (C := D1) (by have := congrArg List.length HST1.out; simp at this; omega) HS9.out).mono ?_
  rw [HST1.out]
  rintro e w9 ⟨v3, rfl, S⟩
  have HS10 := Lib.hid S
  obtain ⟨a3, cap3, rfl⟩ := S.ixAt.form
  have HX3 := Lib.hid S.ixAt
  clear S HS9
  go_wp2_with fail
  refine (clTakeS (C := aw2) (v := v2) 220 (by decide) (by decide) aw2_ok ((Sp.pick [_, _, _, _, _, _] [4, 5, 0, 1, 2, 3] (by decide) (HS10.out))) HE.out).mono ?_
  rintro e w11 ⟨he, S⟩
  rw [aw2_says.1] at he
  subst he
  have HS11 : Hid (Sp w0 [] w11 (clR p2 aw2a v2 (intsR (.slice a3 2 cap3) [1, 2] :: clR p1 D1 v1 (intsR (.slice (some ⟨gq, 0, none⟩) 8 8) awCodes :: L)))) := Lib.hid S
  clear S HS10
  go_wp2_with fail
  refine (clTakeS (C := aw2a) (v := v2) 500 (by decide) (by decide) aw2a_ok HS11.out HE.out).mono ?_
  rintro e w12 ⟨he, S⟩
  rw [aw2_says.2.1] at he
  subst he
  have HS12 : Hid (Sp w0 [] w12 (clR p2 aw2b v2 (intsR (.slice a3 2 cap3) [1, 2] :: clR p1 D1 v1 (intsR (.slice (some ⟨gq, 0, none⟩) 8 8) awCodes :: L)))) := Lib.hid S
  clear S HS11
  have a1 : ∀ W, (Op.stringOp .add ⟨#[69, 72, 76, 79, 32, 104, 46, 120, 13, 10]⟩ ⟨#[72, 69, 76, 79, 32, 104, 46, 120, 13, 10]⟩).run Tryz.prog W = .ok (.string ⟨#[69, 72, 76, 79, 32, 104, 46, 120, 13, 10, 72, 69, 76, 79, 32, 104, 46, 120, 13, 10]⟩) W := fun W => add_str [69, 72, 76, 79, 32, 104, 46, 120, 13, 10] [72, 69, 76, 79, 32, 104, 46, 120, 13, 10] (by decide) W
  go_wp2_with fail
  refine (clTakeS (C := aw2b) (v := v2) 250 (by decide) (by decide) aw2b_ok HS12.out HE.out).mono ?_
  rintro e w13 ⟨he, S⟩
  rw [aw2_says.2.2.1] at he
  subst he
  have HS13 : Hid (Sp w0 [] w13 (clR p2 aw2c v2 (intsR (.slice a3 2 cap3) [1, 2] :: clR p1 D1 v1 (intsR (.slice (some ⟨gq, 0, none⟩) 8 8) awCodes :: L)))) := Lib.hid S
  clear S HS12
  have a2 : ∀ W, (Op.stringOp .add ⟨#[69, 72, 76, 79, 32, 104, 46, 120, 13, 10, 72, 69, 76, 79, 32, 104, 46, 120, 13, 10]⟩ ⟨#[77, 65, 73, 76, 32, 70, 82, 79, 77, 58, 60, 62, 13, 10]⟩).run Tryz.prog W = .ok (.string ⟨#[69, 72, 76, 79, 32, 104, 46, 120, 13, 10, 72, 69, 76, 79, 32, 104, 46, 120, 13, 10, 77, 65, 73, 76, 32, 70, 82, 79, 77, 58, 60, 62, 13, 10]⟩) W := fun W => add_str [69, 72, 76, 79, 32, 104, 46, 120, 13, 10, 72, 69, 76, 79, 32, 104, 46, 120, 13, 10] [77, 65, 73, 76, 32, 70, 82, 79, 77, 58, 60, 62, 13, 10] (by decide) W
  go_wp2_with fail
  refine (clTakeS (C := aw2c) (v := v2) 451 (by decide) (by decide) aw2c_ok HS13.out HE.out).mono ?_
  rintro e w14 ⟨he, S⟩
  rw [aw2_says.2.2.2.1] at he
  subst he
  have HS14 : Hid (Sp w0 [] w14 (clR p2 aw2d v2 (intsR (.slice a3 2 cap3) [1, 2] :: clR p1 D1 v1 (intsR (.slice (some ⟨gq, 0, none⟩) 8 8) awCodes :: L)))) := Lib.hid S
  clear S HS13
  have a3s : ∀ W, (Op.stringOp .add ⟨#[69, 72, 76, 79, 32, 104, 46, 120, 13, 10, 72, 69, 76, 79, 32, 104, 46, 120, 13, 10, 77, 65, 73, 76, 32, 70, 82, 79, 77, 58, 60, 62, 13, 10]⟩ ⟨#[81, 85, 73, 84, 13, 10]⟩).run Tryz.prog W = .ok (.string ⟨#[69, 72, 76, 79, 32, 104, 46, 120, 13, 10, 72, 69, 76, 79, 32, 104, 46, 120, 13, 10, 77, 65, 73, 76, 32, 70, 82, 79, 77, 58, 60, 62, 13, 10, 81, 85, 73, 84, 13, 10]⟩) W := fun W => add_str [69, 72, 76, 79, 32, 104, 46, 120, 13, 10, 72, 69, 76, 79, 32, 104, 46, 120, 13, 10, 77, 65, 73, 76, 32, 70, 82, 79, 77, 58, 60, 62, 13, 10] [81, 85, 73, 84, 13, 10] (by decide) W
  have HPH2 : Hid (aw2d.phase = 7) := aw2_says.2.2.2.2.1
  have HST2 : Hid (aw2d.tos.map Rc.state = [0, 0]) := aw2_says.2.2.2.2.2
  generalize aw2d = D2 at *
  go_wp2_with fail
  refine (clPhase_any (C := D2) HS14.out).mono ?_
  rw [HPH2.out]
  rintro e wq ⟨rfl, rfl⟩
  go_wp2_with fail
  refine (clLoseS (C := D2) HS14.out).mono ?_
  rintro e w15 ⟨rfl, S⟩
  have HS15 : Hid (Sp w0 [] w15 (clR p2 { D2 with phase := 8 } v2 (intsR (.slice a3 2 cap3) [1, 2] :: clR p1 D1 v1 (intsR (.slice (some ⟨gq, 0, none⟩) 8 8) awCodes :: L)))) := Lib.hid S
  clear S HS14
  go_wp2_with fail
  refine (clStatesS (C := { D2 with phase := 8 }) (by have := congrArg List.length HST2.out; simp at this; show D2.tos.length ≤ _; omega) HS15.out).mono ?_
  rw [show ({ D2 with phase := 8 } : Cl).tos.map Rc.state = [0, 0] from HST2.out]
  rintro e w16 ⟨v4, rfl, S⟩
  obtain ⟨a4, cap4, rfl⟩ := S.ixAt.form
  have HX4 := S.ixAt
  have HX3 := ((Sp.pick [_, _, _, _] [3, 0, 1, 2] (by decide) (S))).ixAt
  have HS16 := Lib.hid S
  clear S HS15
  obtain ⟨b4, o4, rfl, y0⟩ := HX4.at (i := 0) (by decide)
  obtain ⟨b3, o3, rfl, x0⟩ := HX3.at (i := 0) (by decide)
  have x1 : w16.cell? ⟨b3, o3 + 1, none⟩ = some (.int .i64 2) := by
    obtain ⟨b, o, e, h⟩ := HX3.at (i := 1) (by decide)
    cases e
    exact h
  have x0' : w16.cell? ⟨b3, o3, none⟩ = some (.int .i64 1) := x0
  have y0' : w16.cell? ⟨b4, o4, none⟩ = some (.int .i64 0) := y0
  clear HX3 HX4 x0 y0
  go_wp2_with fail
  refine (clOver_any (C := D1) ((Sp.pick [_, _, _, _, _, _] [4, 0, 1, 2, 3, 5] (by decide) (HS16.out)))).mono ?_
  rw [HPH1.out]
  rintro e wq ⟨rfl, rfl⟩
  go_wp2_with fail
  refine (clOver_any (C := { D2 with phase := 8 }) ((Sp.pick [_, _, _, _, _, _] [1, 0, 2, 3, 4, 5] (by decide) (HS16.out)))).mono ?_
  rintro e wq ⟨rfl, rfl⟩
  go_wp2
  go_ret
  exact ⟨rfl, ((Sp.pick [_, _, _, _, _, _, _] [] (by decide) (HS16.out)))⟩
end
end Go.Proofs.YtldlbiodllgflaaGreatDoor
