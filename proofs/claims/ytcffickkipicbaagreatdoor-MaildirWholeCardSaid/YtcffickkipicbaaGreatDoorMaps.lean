/- maps.Clone at the disk's maps. No condition. -/
import Derived.Test.YtcffickkipicbaaGreatDoorDiskA
import Derived.Laws.Externs
import Derived.MapKept
import Derived.Shelf.SlMaps.Clone
set_option linter.unusedSimpArgs false
set_option linter.unusedVariables false
set_option linter.unnecessarySimpa false
namespace Go.Proofs.YtcffickkipicbaaGreatDoor
open Go.RowKit Go.Maps

section
variable {P : Program} (w : World)
theorem eqIn_map_nil (d : Nat) (t k e : TypeId) (p : Option Nat) (h : P.underlying t = some (.map k e)) : (Op.equalIn (d + 1) t (.map p) (.map none)).run P w = .ok p.isNone w := by
  cases p <;> simp [Op.equalIn, run_underlying h]
theorem eql_map_nil (t k e : TypeId) (p : Option Nat) (h : P.underlying t = some (.map k e)) : (binOp .eql t (.map p) (.map none)).run P w = .ok (.bool p.isNone) w := by
  simp only [binOp]
  simp [show Op.equal t (.map p) (.map none) = Op.equalIn (9999 + 1) t (.map p) (.map none) from rfl, eqIn_map_nil w 9999 t k e p h]
theorem assert_map (t xT k e : TypeId) (v : Value) (h : P.underlying t = some (.map k e)) : (Instr.typeAssert (.iface t v) xT t false).run P w = .ok v w := by
  simp [Instr.typeAssert, run_underlying h, go_sem, Result.andThen]
end

set_option maxRecDepth 100000 in
set_option maxHeartbeats 1000000 in
theorem clone_any (m : Nat) (F : Fs) (w : World) (hm : MapA w m F) :
    Calls Tryz.prog 66 #[.map (some m)] w fun r w2 => r = .returned (.map (some w.heap.size)) ∧ MapA w2 w.heap.size F ∧ Ext [] w w2 ∧ w2.heap.size = w.heap.size + 1 := by
  obtain ⟨es, clock, hb, hm1⟩ := hm.clone
  have H1 := Lib.hid hm1
  have hq := fun w => eql_map_nil (P := Tryz.prog) w 69 _ _ (some m) Tryz.underlying69
  clear hm hm1
  go_enter Tryz.func66, Tryz.ntmps66
  go_wp2
  rw [run_callFunc_extern Tryz.func88 (by kernel_rfl) (by kernel_rfl) (by kernel_rfl) (e := Extern.MapsClone.clone) (by kernel_rfl), run_maps_clone_sl w 69 hb]
  simp only [Result.andThen]
  rw [Oper.upon_value]
  go_wp2
  rw [assert_map _ 69 20 _ _ _ Tryz.underlying69]
  simp only [Result.andThen]
  rw [Oper.upon_value]
  go_wp2
  go_ret
  exact ⟨rfl, H1.out, (Ext.refl [] w).alloc _, by simp⟩
end Go.Proofs.YtcffickkipicbaaGreatDoor
