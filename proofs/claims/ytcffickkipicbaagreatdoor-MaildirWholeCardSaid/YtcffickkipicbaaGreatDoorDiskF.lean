/- disk: Append and Write. Conditions: the lengths fit. -/
import Derived.Test.YtcffickkipicbaaGreatDoorDiskE
set_option linter.unusedSimpArgs false
set_option linter.unusedVariables false
set_option linter.unnecessarySimpa false
namespace Go.Proofs.YtcffickkipicbaaGreatDoor
open Go.RowKit Go.Maps

set_option maxRecDepth 100000 in
set_option maxHeartbeats 2000000 in
theorem write_any (p : Nat) (F : List Nat) (D : Dk) (n d : Bs) (w : World) (h : Disk w p F D) (hs : D.Small) (hn : n.length < 1000000000000000000) (hd : d.length < 1000000000000000000) :
    Calls Tryz.prog 21 #[.pointer (some ⟨p, 0, none⟩), .string ⟨n.toArray⟩, .string ⟨d.toArray⟩] w fun r w2 => r = .returned (.int .i64 (D.write n d).2) ∧ DiskTo F w p w2 (D.write n d).1 := by
  have H := Lib.hid h
  have HS := Lib.hid (hs.fit ⟨1, n, [], d⟩ (by simp) hn (by simp) hd)
  have hn' : n.length ≤ maxLen := by unfold maxLen; omega
  have hb : D.now.bytes ≤ 9223372036854775807 := by have := hs.bytes; omega
  have hg := get_le D.now n
  have hb0 : (0 : Int) ≤ (D.now.bytes : Int) - ((D.now.get n).getD []).length := by omega
  have hb1 : (D.now.bytes : Int) - ((D.now.get n).getD []).length + d.length ≤ 9223372036854775807 := by have := hs.bytes; omega
  obtain ⟨mn, ms, pv, tv, h, rfl⟩ := h
  have hl : ∀ w2, Ext [] w w2 → w2.cell? ⟨p, 0, none⟩ = some (.map (some mn)) ∧ w2.cell? ⟨p, 4, none⟩ = some (.int .i64 D.quota) ∧ (Instr.lookup 69 (.map (some mn)) (.string ⟨n.toArray⟩) false).run Tryz.prog w2 = .ok (.string ⟨((D.now.get n).getD []).toArray⟩) w2 := by
    intro w2 hx
    have h' := h.ext hx (by simp)
    exact ⟨h'.cells.1, h'.cells.2.2.2.2.1, h'.now.look (t := 69) Tryz.underlying9 Tryz.underlying9 Tryz.underlying69 (zeroStr _) n hn'⟩
  have HC := Lib.hid hl
  have hc0 := h.cells.1
  have hlen := fun ty => h.now.len (t := 69) Tryz.underlying69 ty
  clear h hs hn hd hl hg
  unfold Dk.write
  by_cases hm : may n = true
  · rw [if_pos hm]
    by_cases hc : (!D.now.has n && decide (200 ≤ D.now.length)) = true
    · rw [if_pos hc]
      simp only [Bool.and_eq_true, Bool.not_eq_true', decide_eq_true_eq] at hc
      obtain ⟨hh, h200⟩ := hc
      have h200' : (200 : Int) ≤ D.now.length := by omega
      go_enter Tryz.func21, Tryz.ntmps21
      go_wp2_with (first | (go_at_call 57; refine (has_any p _ D n _ H.out hn').mono ?_; rintro r w2 ⟨rfl, rfl⟩) | (go_at_call 56; refine (may_any n _ hn').mono ?_; rintro r w2 ⟨rfl, rfl⟩))
      go_ret
      exact ⟨rfl, _, H.out, Moved.refl _ w⟩
    · rw [if_neg hc]
      generalize (D.now.get n).getD [] = old at *
      have hcase : D.now.has n = true ∨ (D.now.has n = false ∧ (D.now.length : Int) < 200) := by
        cases hh : D.now.has n
        · right; simp [hh] at hc; exact ⟨rfl, by omega⟩
        · left; rfl
      clear hc
      rcases hcase with hh | ⟨hh, h200⟩
      all_goals
        by_cases hq : D.quota < (D.now.bytes : Int) - old.length + d.length
        · rw [if_pos hq]
          go_enter Tryz.func21, Tryz.ntmps21
          go_upto_region 5 with (first | (go_at_call 57; refine (has_any p _ D n _ H.out hn').mono ?_; rintro r w2 ⟨rfl, rfl⟩) | (go_at_call 56; refine (may_any n _ hn').mono ?_; rintro r w2 ⟨rfl, rfl⟩))
          go_cut [24] (fun b wx => b = .bool true ∧ Ext [] w wx)
          case first =>
            have hw1 := IntWalk.i64_in ((D.now.bytes : Int) - old.length) (by omega)
            have hw2 := IntWalk.i64_in ((D.now.bytes : Int) - old.length + d.length) (by omega)
            go_region_held3 (fun w' => w'.cell? ⟨p, 0, none⟩ = some (.map (some mn)) ∧ w'.cell? ⟨p, 4, none⟩ = some (.int .i64 D.quota) ∧ (Instr.lookup 69 (.map (some mn)) (.string ⟨n.toArray⟩) false).run Tryz.prog w' = .ok (.string ⟨old.toArray⟩) w')
              (first | exact HC.out _ hx1.out | exact HC.out _ (Ext.refl [] w).drew)
              ((go_at_call 58; refine (size_any p _ D _ H.out.drew hb).mono ?_; rintro r w1 ⟨rfl, hx0⟩; have hx1 := Lib.hid ((Ext.refl [] w).drew.trans hx0 (by simp)); clear hx0))
            all_goals (go_wp2_with fail; go_meet; exact ⟨rfl, hx1.out⟩)
          case rest =>
            obtain ⟨rfl, hx1⟩ := hcut
            have HX := Lib.hid hx1
            clear hx1
            go_wp2
            go_ret
            exact ⟨rfl, _, H.out.ext HX.out (by simp), Moved.of_new HX.out⟩
        · rw [if_neg hq]
          go_enter Tryz.func21, Tryz.ntmps21
          go_upto_region 5 with (first | (go_at_call 57; refine (has_any p _ D n _ H.out hn').mono ?_; rintro r w2 ⟨rfl, rfl⟩) | (go_at_call 56; refine (may_any n _ hn').mono ?_; rintro r w2 ⟨rfl, rfl⟩))
          go_cut [24] (fun b wx => b = .bool false ∧ Ext [] w wx)
          case first =>
            have hw1 := IntWalk.i64_in ((D.now.bytes : Int) - old.length) (by omega)
            have hw2 := IntWalk.i64_in ((D.now.bytes : Int) - old.length + d.length) (by omega)
            go_region_held3 (fun w' => w'.cell? ⟨p, 0, none⟩ = some (.map (some mn)) ∧ w'.cell? ⟨p, 4, none⟩ = some (.int .i64 D.quota) ∧ (Instr.lookup 69 (.map (some mn)) (.string ⟨n.toArray⟩) false).run Tryz.prog w' = .ok (.string ⟨old.toArray⟩) w')
              (first | exact HC.out _ hx1.out | exact HC.out _ (Ext.refl [] w).drew)
              ((go_at_call 58; refine (size_any p _ D _ H.out.drew hb).mono ?_; rintro r w1 ⟨rfl, hx0⟩; have hx1 := Lib.hid ((Ext.refl [] w).drew.trans hx0 (by simp)); clear hx0))
            all_goals (go_wp2_with fail; go_meet; exact ⟨by simp [hq], hx1.out⟩)
          case rest =>
            obtain ⟨rfl, hx1⟩ := hcut
            have HX := Lib.hid hx1
            clear hx1
            go_wp2_with fail
            refine (done_any p _ D ⟨1, n, [], d⟩ _ (H.out.ext HX.out (by simp)) HS.out).mono ?_
            rintro r w2 ⟨rfl, F2, h2, m2⟩
            have H2 := Lib.hid h2
            have M2 := Lib.hid m2
            clear h2 m2
            go_wp2
            go_ret
            exact ⟨rfl, F2, H2.out, (Moved.of_new HX.out).trans M2.out⟩
  · rw [if_neg hm]
    have hm : may n = false := by simpa using hm
    go_enter Tryz.func21, Tryz.ntmps21
    go_wp2_with (go_at_call 56; refine (may_any n _ hn').mono ?_; rintro r w2 ⟨rfl, rfl⟩)
    go_ret
    exact ⟨rfl, _, H.out, Moved.refl _ w⟩
end Go.Proofs.YtcffickkipicbaaGreatDoor
