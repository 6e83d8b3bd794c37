/- How slices of BoxT lie in memory, and how they come as arguments. No condition. -/
import Derived.Test.YtldlbiodllgflaaGreatDoorArgs0
set_option linter.unusedSimpArgs false
set_option linter.unusedVariables false
set_option linter.unnecessarySimpa false
namespace Go.Proofs.YtldlbiodllgflaaGreatDoor
open Go.ChangeShapes Go.WideShapes Go.ChangeAt Go.RowKit Go.Deep
open Go.ChangeMaps (open_string shut_string)

structure BoxT where
  loc : Bs
  dom : Bs
def BoxT.vals (x : BoxT) : List Value := [.string ⟨x.loc.toArray⟩, .string ⟨x.dom.toArray⟩]
structure BoxT.Wf (x : BoxT) : Prop where
  locL : x.loc.length ≤ maxLen
  domL : x.dom.length ≤ maxLen
theorem BoxT.vals_get (x : BoxT) : x.vals[0]? = some (.string ⟨x.loc.toArray⟩) ∧ x.vals[1]? = some (.string ⟨x.dom.toArray⟩) := ⟨rfl, rfl⟩
/-- A slice value that holds such structs. -/
def BoxTsAt (w : World) (v : Value) (l : List BoxT) : Prop := ∃ a cap, v = .slice a l.length cap ∧ l.length ≤ maxLen ∧ (∀ i, (h : i < l.length) → l[i].Wf) ∧ RowsAt w a 2 (l.map BoxT.vals)
theorem BoxTsAt.ext {w w2 : World} {v : Value} {l : List BoxT} (h : BoxTsAt w v l) (hx : Ext [] w w2) : BoxTsAt w2 v l := by
  obtain ⟨a, cap, h1, h2, h3, h4⟩ := h
  exact ⟨a, cap, h1, h2, h3, h4.ext hx⟩
theorem boxT_cells {w : World} {b off : Nat} {l : List BoxT} (h : RowsAt w (some ⟨b, off, none⟩) 2 (l.map BoxT.vals)) (i : Nat) (hi : i < l.length) : w.cell? ⟨b, off + i * 2, none⟩ = some (.string ⟨(l[i]).loc.toArray⟩) ∧ w.cell? ⟨b, off + i * 2 + 1, none⟩ = some (.string ⟨(l[i]).dom.toArray⟩) := by
  have g := h.at i (l[i]).vals (by simp [hi])
  exact ⟨g 0 _ rfl, g 1 _ rfl⟩
theorem boxTs_of_trod0 {H : Type} {enc : TypeId × Value → H} {w : World} {base : Nat} {spare : Nat → Bool} {held : Bool} {fuel : Nat} {v : Value} {x : DataW H × List MemPlace} (h : DataW.trod enc Tryz.prog w base spare held fuel 24 [v] = some x) : ∃ l, BoxTsAt w v l := by
  refine rows_of_trod Tryz.underlying24 Tryz.underlying23 (by kernel_rfl) (by kernel_rfl) h BoxT.vals BoxT.Wf 2 rfl (fun a i hf => ?_) ⟨[], []⟩
  obtain ⟨v0, y0, n0, c0, t0⟩ := hf 0 _ rfl
  obtain ⟨z0, e0, _, w0⟩ := DataW.trod_string Tryz.underlying9 t0
  obtain ⟨v1, y1, n1, c1, t1⟩ := hf 1 _ rfl
  obtain ⟨z1, e1, _, w1⟩ := DataW.trod_string Tryz.underlying9 t1
  simp only [List.cons.injEq, and_true] at e0 e1
  subst e0 e1
  refine ⟨⟨z0.data.toList, z1.data.toList⟩, ⟨by simpa using w0, by simpa using w1⟩, fun j u hj => ?_⟩
  have hj2 : j < 2 := (List.getElem?_eq_some_iff.1 hj).1
  obtain rfl | rfl : j = 0 ∨ j = 1 := by omega
  · cases hj; exact c0
  · cases hj; exact c1
end Go.Proofs.YtldlbiodllgflaaGreatDoor
