/- disk: New and Trace. Conditions: the lengths fit. -/
import Derived.Test.YtpkolkgndhagiaaGreatDiskF
set_option linter.unusedSimpArgs false
set_option linter.unusedVariables false
set_option linter.unnecessarySimpa false
namespace Go.Proofs.YtpkolkgndhagiaaGreat
open Go.RowKit Go.Maps

def Dk.new : Dk := ⟨[], [], [], [], 1048576, -1, false⟩

set_option maxRecDepth 100000 in
set_option maxHeartbeats 400000 in
theorem new_any (w : World) : Calls Tryz.prog 5 #[] w fun r w2 => ∃ p F, r = .returned (.pointer (some ⟨p, 0, none⟩)) ∧ Disk w2 p F Dk.new ∧ Ext [] w w2 ∧ ∀ x ∈ F, w.heap.size ≤ x := by
  have hmm := @run_makeMap Tryz.prog
  go_enter Tryz.func5, Tryz.ntmps5
  go_wp2
  go_ret
  refine ⟨w.heap.size + 2, _, rfl, ⟨w.heap.size, w.heap.size + 1, .slice none 0 0, .slice none 0 0, ⟨?_, ?_, ?_, World.ownsRow_nil _ _ _ _, World.ownsRow_nil _ _ _ _, ?_⟩, rfl⟩, (((Ext.refl [] w).alloc _).alloc _).alloc _, ?_⟩
  · have := heap_alloc_new ((w.alloc (.map #[] 0)).alloc (.map #[] 0)) (.cells (diskCells w.heap.size (w.heap.size + 1) (.slice none 0 0) (.slice none 0 0) 1048576 (-1) false) 62 (0, 0))
    rw [show ((w.alloc (.map #[] 0)).alloc (.map #[] 0)).heap.size = w.heap.size + 2 by simp] at this
    exact this
  · exact ((MapAt.made w).ext ((Ext.refl [] _).alloc _) (by simp)).ext ((Ext.refl [] _).alloc _) (by simp)
  · have := MapAt.made (P := Tryz.prog) (k := 9) (e := 9) (w.alloc (.map #[] 0))
    rw [show (w.alloc (.map #[] 0)).heap.size = w.heap.size + 1 by simp] at this
    exact this.ext ((Ext.refl [] _).alloc _) (by simp)
  · simp [footOf, Value.ownBlock]
  · simp [footOf, Value.ownBlock]

end Go.Proofs.YtpkolkgndhagiaaGreat
