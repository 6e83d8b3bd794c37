/- disk: New and Trace. Conditions: the lengths fit. -/
import Derived.Test.YtcffickkipicbaaGreatDoorDiskF
set_option linter.unusedSimpArgs false
set_option linter.unusedVariables false
set_option linter.unnecessarySimpa false
namespace Go.Proofs.YtcffickkipicbaaGreatDoor
open Go.RowKit Go.Maps

def Dk.new : Dk := ⟨[], [], [], [], 1048576, -1, false⟩

set_option maxRecDepth 100000 in
set_option maxHeartbeats 400000 in
theorem new_any (w : World) : Calls Tryz.prog 14 #[] w fun r w2 => ∃ p F, r = .returned (.pointer (some ⟨p, 0, none⟩)) ∧ Disk w2 p F Dk.new ∧ Ext [] w w2 ∧ ∀ x ∈ F, w.heap.size ≤ x := by
  have hmm := @run_makeMap Tryz.prog
  go_enter Tryz.func14, Tryz.ntmps14
  go_wp2
  go_ret
  refine ⟨w.heap.size + 2, _, rfl, ⟨w.heap.size, w.heap.size + 1, .slice none 0 0, .slice none 0 0, ⟨?_, ?_, ?_, World.ownsRow_nil _ _ _ _, World.ownsRow_nil _ _ _ _, ?_⟩, rfl⟩, (((Ext.refl [] w).alloc _).alloc _).alloc _, ?_⟩
  · have := heap_alloc_new ((w.alloc (.map #[] 0)).alloc (.map #[] 0)) (.cells (diskCells w.heap.size (w.heap.size + 1) (.slice none 0 0) (.slice none 0 0) 1048576 (-1) false) 71 (0, 0))
    rw [show ((w.alloc (.map #[] 0)).alloc (.map #[] 0)).heap.size = w.heap.size + 2 by simp] at this
    exact this
  · exact ((MapAt.made w).ext ((Ext.refl [] _).alloc _) (by simp)).ext ((Ext.refl [] _).alloc _) (by simp)
  · have := MapAt.made (P := Tryz.prog) (k := 9) (e := 9) (w.alloc (.map #[] 0))
    rw [show (w.alloc (.map #[] 0)).heap.size = w.heap.size + 1 by simp] at this
    exact this.ext ((Ext.refl [] _).alloc _) (by simp)
  · simp [footOf, Value.ownBlock]
  · simp [footOf, Value.ownBlock]

set_option maxRecDepth 100000 in
set_option maxHeartbeats 1000000 in
theorem clone_evs (v : Value) (l : List Ev) (w : World) (h : Evs w v l) (hl : l.length < 1000000000000) :
    Calls Tryz.prog 61 #[v] w fun r w2 => ∃ v2, r = .returned v2 ∧ Evs w2 v2 l ∧ Ext [] w w2 ∧ ∀ k, v2.ownBlock = some k → w.heap.size ≤ k := by
  have H := Lib.hid h
  rcases h.2 with ⟨rfl, hn⟩ | ⟨g, cap, cur, rfl, _, hg, h1, h2, h3, h4⟩
  · have hq := fun w => Lib.run_eql_slice_nil (P := Tryz.prog) w 48 82 none 0 0 0 0 Tryz.underlying48
    clear h hn hl
    go_enter Tryz.func61, Tryz.ntmps61
    go_wp2
    go_ret
    exact ⟨_, rfl, H.out, Ext.refl [] w, by simp [Value.ownBlock]⟩
  · have hq := fun w => Lib.run_eql_slice_nil (P := Tryz.prog) w 48 82 (some ⟨g, 0, none⟩) l.length cap 0 0 Tryz.underlying48
    obtain ⟨i0, hi0, hz0, hz1, hz2⟩ := info_parts infoEv
    have hx : Ext [] w (w.alloc (.cells #[] 82)) := (Ext.refl [] w).alloc _
    have hown0 : (w.alloc (.cells #[] 82)).ownsRow 0 82 4 (.slice (some ⟨w.heap.size, 0, none⟩) 0 0) 0 [] := World.ownsRow_made w #[] 0 (Nat.zero_le _) (Nat.zero_le _) rfl
    have hsrc := row_ext h hx (by simp)
    obtain ⟨v2, w2, hr, ho, hgr, _, h5⟩ := run_append_own_at (P := Tryz.prog) (w.alloc (.cells #[] 82)) 0 48 0 82 i0 _ 4 56 Tryz.underlying48 hi0 hz0 hz1 hz2 rfl (by omega) _ 0 [] hown0
      ⟨g, 0, none⟩ l.length cap (evVals l) (evVals_length l) (hsrc.cells rfl) (by intro u hu; obtain ⟨e, _, he⟩ := List.mem_flatMap.1 hu; simp [Ev.vals] at he; rcases he with rfl | rfl | rfl | rfl <;> rfl) (by unfold maxLen; omega) (by omega) (Nat.zero_le _)
    have ho' : Evs w2 v2 l := by simpa using ho
    have HO := Lib.hid ho'
    have H5 : Hid (∀ k, v2.ownBlock = some k → w.heap.size ≤ k) := fun k hk => by rcases h5 with h5 | h5 <;> rw [h5] at hk <;> simp [Value.ownBlock] at hk <;> omega
    have HX : Hid (Ext [] w w2) := hx.grown hgr (fun k hk => by simp [Value.ownBlock] at hk; right; omega)
    have hr' : ∀ ty, (Builtin.append_ #[48, 48] ty #[.slice (some ⟨w.heap.size, 0, none⟩) 0 0, .slice (some ⟨g, 0, none⟩) l.length cap]).run Tryz.prog (w.alloc (.cells #[] 82)) = .ok v2 w2 := fun _ => hr
    have HR := Lib.hid hr'
    clear h hl hg h1 h2 h3 h4 hx hown0 hsrc hr ho hgr ho' hr' h5
    go_enter Tryz.func61, Tryz.ntmps61
    go_wp2_with (at_builtin; refine wpList_append_run (by rfl) (by rfl) (by rfl) (by rfl) (HR.out _) ?_)
    go_ret
    exact ⟨v2, rfl, HO.out, HX.out, H5.out⟩

set_option maxRecDepth 100000 in
set_option maxHeartbeats 400000 in
theorem trace_any (p : Nat) (F : List Nat) (D : Dk) (w : World) (h : Disk w p F D) (hl : D.trace.length < 1000000000000) :
    Calls Tryz.prog 24 #[.pointer (some ⟨p, 0, none⟩)] w fun r w2 => ∃ v2, r = .returned v2 ∧ Evs w2 v2 D.trace ∧ Ext [] w w2 ∧ ∀ k, v2.ownBlock = some k → w.heap.size ≤ k := by
  obtain ⟨mn, ms, pv, tv, h, rfl⟩ := h
  have H := Lib.hid h.trace
  obtain ⟨h0, h1, h2, h3, h4, h5, h6⟩ := h.cells
  clear h h0 h1 h2 h4 h5 h6
  go_enter Tryz.func24, Tryz.ntmps24
  go_wp2_with fail
  refine (clone_evs tv D.trace w H.out hl).mono ?_
  rintro r w2 ⟨v2, rfl, h2⟩
  have H2 := Lib.hid h2
  clear h2
  go_wp2
  go_ret
  exact ⟨v2, rfl, H2.out⟩
end Go.Proofs.YtcffickkipicbaaGreatDoor
