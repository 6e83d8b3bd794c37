/- CmdWrites: its walk, with the plain law. Conditions: what Go's variables hold; the argument fits. -/
import Derived.Test.YtpclhkjladbooaaGreatDoorActC
import Derived.Test.YtpclhkjladbooaaGreatDoorR10e
set_option linter.unusedSimpArgs false
set_option linter.unusedVariables false
set_option linter.unnecessarySimpa false
namespace Go.Proofs.YtpclhkjladbooaaGreatDoor
open Go.RowKit

theorem large_fit {c : Cm} (h : largeC c = false) : c.text.length ≤ 2048 ∧ c.box.1.length ≤ 2048 ∧ c.box.2.length ≤ 2048 := by
  unfold largeC at h
  simp only [Bool.or_eq_false_iff, decide_eq_false_iff_not] at h
  omega
set_option maxRecDepth 100000 in
set_option maxHeartbeats 2000000 in
theorem own_any (c : Cm) (w : World) : Calls Tryz.prog 12 #[cmAgg c] w fun e w2 => e = .returned (cmAgg c) ∧ Ext [] w w2 := by
  obtain ⟨v, t, ⟨l, d⟩, z, b8⟩ := c
  have HS0 := Lib.hid (((Sp.nil w []).box (cmCells ⟨v, t, (l, d), z, b8⟩) 25).box #[.int .i64 0, .string ⟨#[]⟩, .string ⟨#[]⟩, .string ⟨#[]⟩, .int .i64 0, .bool false] 34)
  unfold cmCells at HS0
  unfold cmAgg
  dsimp only at *
  have c0 := HS0.out.pull1.cell
  have d0 := HS0.out.cell
  have f0 := HS0.out.free
  have l0 := HS0.out.boxlt
  have hsz : (w.alloc (.cells #[.int .i64 v, .string ⟨t.toArray⟩, .string ⟨l.toArray⟩, .string ⟨d.toArray⟩, .int .i64 z, .bool b8] 25)).heap.size = w.heap.size + 1 := by simp
  rw [hsz] at HS0 d0 f0 l0
  clear c0 d0 f0 l0
  go_enter Tryz.func12, Tryz.ntmps12
  go_upto_region 1 with (fail)
  generalize (w.alloc (.cells #[.int .i64 v, .string ⟨t.toArray⟩, .string ⟨l.toArray⟩, .string ⟨d.toArray⟩, .int .i64 z, .bool b8] 25)).alloc (.cells #[.int .i64 0, .string ⟨#[]⟩, .string ⟨#[]⟩, .string ⟨#[]⟩, .int .i64 0, .bool false] 34) = w1 at *
  generalize w.heap.size + 1 = q1 at *
  generalize w.heap.size = q0 at *
  have c0 := HS0.out.pull1.cell
  have d0 := HS0.out.cell
  have f0 := HS0.out.free
  have l0 := HS0.out.boxlt
  have HS6 := Lib.hid ((((((HS0.out.set (o := 0) (.int .i64 v)).set (o := 1) (.string ⟨t.toArray⟩)).set (o := 2) (.string ⟨l.toArray⟩)).set (o := 3) (.string ⟨d.toArray⟩)).set (o := 4) (.int .i64 z)).set (o := 5) (.bool b8))
  go_wp2
  exact bodyPost_ret (v := .agg #[.int .i64 v, .string ⟨t.toArray⟩, .string ⟨l.toArray⟩, .string ⟨d.toArray⟩, .int .i64 z, .bool b8]) (by simp [results, Tryz.results12, go_sem, d0]) rfl ⟨rfl, HS6.out.ext⟩
section
variable {w0 w : World} {L : List Res} {b pc : Nat} {v : Value}
set_option maxRecDepth 100000 in
set_option maxHeartbeats 8000000 in
theorem cmdWrites_walk (c : Cm) (w : World) (E : Env w) (F : c.Wf) :
    Calls Tryz.prog 3 #[cmAgg c] w fun e w2 => e = .returned (.bool true) ∧ Ext [] w w2 := by
  have HE := Lib.hid E
  have HF := Lib.hid F
  have HLG := Lib.hid (fun w' => large_any c w')
  have HOW := Lib.hid (fun w' => own_any c w')
  have HS0 := Lib.hid ((Sp.nil w []).box (cmCells c) 25)
  have HFIT : Hid (largeC c = false → CmFit c ∧ c.text.length ≤ 1000000 ∧ c.box.1.length ≤ 1000000 ∧ c.box.2.length ≤ 1000000 ∧ -9223372036854775808 ≤ c.size ∧ c.size ≤ 9223372036854775807) := fun h => by
    obtain ⟨h1, h2, h3⟩ := large_fit h
    exact ⟨⟨by omega, by omega, by omega, F.size1, F.size2⟩, by omega, by omega, by omega, F.size1, F.size2⟩
  have HWS := Lib.hid (fun (w' : World) (L' : List Res) (S : Sp w [] w' L') (F : CmFit c) => cmWriteS c S E F)
  have HRS := Lib.hid (fun (w' : World) (L' : List Res) (S : Sp w [] w' L') (F : c.text.length ≤ 1000000 ∧ c.box.1.length ≤ 1000000 ∧ c.box.2.length ≤ 1000000 ∧ -9223372036854775808 ≤ c.size ∧ c.size ≤ 9223372036854775807) => r10WriteS c S F.1 F.2.1 F.2.2.1 F.2.2.2.1 F.2.2.2.2)
  clear E F
  obtain ⟨vb, t, ⟨l, d⟩, z, e8⟩ := c
  unfold cmAgg cmCells at *
  dsimp only at *
  generalize largeC ⟨vb, t, (l, d), z, e8⟩ = lg at *
  generalize hwr : cmWrite ⟨vb, t, (l, d), z, e8⟩ = wr at *
  obtain ⟨x, ex⟩ := wr
  dsimp only at *
  clear hwr
  go_enter Tryz.func3, Tryz.ntmps3
  go_wp2_with fail
  refine (awake10S HS0.out HE.out).mono ?_
  generalize w.heap.size = q at *
  rintro e w1 ⟨rfl, S⟩
  have HS1 := Lib.hid S
  have c1 := S.cell
  clear S HS0
  go_wp2_with fail
  refine (HLG.out w1).mono ?_
  rintro e w2 ⟨rfl, hx⟩
  have S := HS1.out.ext0 hx
  have HS2 := Lib.hid S
  have c2 := S.cell
  clear S HS1 c1 hx HLG
  cases lg with
  | true =>
    go_wp2
    go_ret
    exact ⟨rfl, HS2.out.ext⟩
  | false =>
    obtain ⟨F, G⟩ := HFIT.out rfl
    have HF := Lib.hid F
    have HG := Lib.hid G
    clear F G HFIT
    go_wp2_with fail
    refine (HWS.out _ _ HS2.out HF.out).mono ?_
    rintro e w3 ⟨rfl, S⟩
    have HS3 := Lib.hid S
    have c3 := S.cell
    clear S HS2 c2
    go_wp2_with fail
    refine (HOW.out _).mono ?_
    rintro e w4 ⟨rfl, hx⟩
    have HS4 := Lib.hid (HS3.out.ext0 hx)
    clear hx HS3 c3
    go_wp2_with fail
    refine (HRS.out _ _ HS4.out HG.out).mono ?_
    rintro e w5 ⟨rfl, S⟩
    have HS5 := Lib.hid S
    clear S HS4
    have h1 : (x == x) = true := by simp
    have h2 : (ex == ex) = true := by simp
    go_wp2
    go_ret
    exact ⟨rfl, HS5.out.ext⟩
end
end Go.Proofs.YtpclhkjladbooaaGreatDoor
