/- What Go's own variables hold where strconv and strings are called, and worlds that have only grown. No condition. -/
import Derived.Test.YtcffickkipicbaaGreatDoorSp
import Derived.Test.YtcffickkipicbaaGreatDoorShelf
import Derived.Sort.Grow
import Derived.Lib.LaidTab
import Derived.Lib.ConvBytes
import Derived.Lib.SmallJoins
import Derived.Deep.Draws
set_option linter.unusedSimpArgs false
set_option linter.unusedVariables false
set_option linter.unnecessarySimpa false
namespace Go.Proofs.YtcffickkipicbaaGreatDoor
open Go.RowKit Go.Sort

theorem add_str (a b : Bs) (h : a.length + b.length ≤ maxLen) (W : World) : (Op.stringOp .add ⟨a.toArray⟩ ⟨b.toArray⟩).run Tryz.prog W = .ok (.string ⟨(a ++ b).toArray⟩) W := by
  have := run_string_add_sum (P := Tryz.prog) W ⟨a.toArray⟩ ⟨b.toArray⟩ h
  rw [ByteArray.mk_append_mk] at this
  exact this
/-- Nothing was written: some blocks were laid, some draws were made. -/
def Grown (w w2 : World) : Prop := ∃ q os, w2 = grow (w.drewN q) os
theorem Grown.refl (w : World) : Grown w w := ⟨0, #[], by rw [grow_empty]; rfl⟩
theorem Grown.trans {a b c : World} (h : Grown a b) (k : Grown b c) : Grown a c := by
  obtain ⟨q, os, rfl⟩ := h
  obtain ⟨r, os2, rfl⟩ := k
  refine ⟨q + r, os ++ os2, ?_⟩
  simp only [grow, World.drewN, Array.append_assoc, Nat.add_assoc]
theorem Grown.alloc {a b : World} (h : Grown a b) (o : Obj) : Grown a (b.alloc o) := h.trans ⟨0, #[o], by rw [alloc_eq_grow]; rfl⟩
theorem Grown.drewN {a b : World} (h : Grown a b) (n : Nat) : Grown a (b.drewN n) := h.trans ⟨n, #[], by rw [grow_empty]⟩
theorem Grown.drew {a b : World} (h : Grown a b) : Grown a b.drew := h.drewN 1
theorem Grown.ext {a b : World} (h : Grown a b) : Ext [] a b := by
  obtain ⟨q, os, rfl⟩ := h
  refine ⟨rfl, rfl, rfl, by simp [grow, World.drewN], fun k hk _ => ?_⟩
  simp only [grow, World.drewN, Array.getElem?_append_left hk]
theorem Grown.of_ext {a b : World} (h : Ext [] a b) (hd : a.drawn ≤ b.drawn) : Grown a b := by
  refine ⟨b.drawn - a.drawn, b.heap.extract a.heap.size b.heap.size, ?_⟩
  obtain ⟨heap, tape, drawn, os, output⟩ := b
  obtain ⟨h1, h2, h3, h4, h5⟩ := h
  dsimp only at *
  subst h1 h2 h3
  have e1 : a.drawn + (drawn - a.drawn) = drawn := by omega
  have e2 : a.heap ++ heap.extract a.heap.size heap.size = heap := by
    apply Array.ext_getElem?
    intro i
    by_cases hi : i < a.heap.size
    · rw [Array.getElem?_append_left hi, h5 i hi (by simp)]
    · rw [Array.getElem?_append_right (by omega), Array.getElem?_extract]
      by_cases hj : i < heap.size
      · rw [if_pos (by omega)]
        congr 1
        omega
      · rw [if_neg (by omega), Array.getElem?_eq_none (by omega)]
  unfold grow World.drewN
  rw [e1, e2]
theorem Grown.bytes (w : World) (e : TypeId) (s : ByteArray) : Grown w (Lib.bytesWorld w e s) := by
  refine Grown.of_ext (Ext.of_below (Joins.below_bytesWorld _ w e s (Nat.le_refl _))) ?_
  unfold Lib.bytesWorld World.freeze
  rw [if_neg (by decide)]
  exact Nat.le_succ _
/-- The variables of Go's library that are read. -/
structure Env (w : World) : Prop where
  tab : Lib.TabIs Tryz.prog w "internal/strconv.uint64pow10" .u64 Lib.pow10Tab
  max : ∃ m, w.cell? ⟨1, 0, none⟩ = some (.int .i64 m)
  syn : ∃ ev, w.cell? ⟨2, 0, none⟩ = some ev ∧ (ev = .nilIface ∨ ∃ te pe, ev = .iface te pe)
  ran : ∃ ev, w.cell? ⟨3, 0, none⟩ = some ev ∧ (ev = .nilIface ∨ ∃ te pe, ev = .iface te pe)
theorem Ext.var {w w2 : World} (hx : Ext [] w w2) {P : Program} {n : String} {cs : Array Value} (h : w.var? P n = some cs) : w2.var? P n = some cs := by
  unfold World.var? at h ⊢
  cases hg : P.globalNamed n with
  | none => rw [hg] at h; cases h
  | some g =>
    rw [hg] at h
    simp only [Option.bind_some] at h ⊢
    cases hh : w.heap[g]? with
    | none => rw [hh] at h; cases h
    | some o => rw [hx.heap hh (by simp)]; rw [hh] at h; exact h
theorem Ext.cellOf {w w2 : World} (hx : Ext [] w w2) {p : Addr} {v : Value} (h : w.cell? p = some v) : w2.cell? p = some v := hx.cell h (by simp)
theorem Env.ext {w w2 : World} (h : Env w) (hx : Ext [] w w2) : Env w2 := by
  obtain ⟨m, hm⟩ := h.max
  obtain ⟨a, ha, ha2⟩ := h.syn
  obtain ⟨b, hb, hb2⟩ := h.ran
  exact ⟨hx.var h.tab, ⟨m, hx.cellOf hm⟩, ⟨a, hx.cellOf ha, ha2⟩, ⟨b, hx.cellOf hb, hb2⟩⟩
theorem Env.sp {w w2 : World} {L : List Res} (h : Env w) (S : Sp w [] w2 L) : Env w2 := h.ext S.ext
end Go.Proofs.YtcffickkipicbaaGreatDoor
