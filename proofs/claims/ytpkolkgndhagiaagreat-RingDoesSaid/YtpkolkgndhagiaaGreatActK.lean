/- How slices of ActK lie in memory, and how they come as arguments. No condition. -/
import Derived.Test.YtpkolkgndhagiaaGreatArgs0
set_option linter.unusedSimpArgs false
set_option linter.unusedVariables false
set_option linter.unnecessarySimpa false
namespace Go.Proofs.YtpkolkgndhagiaaGreat
open Go.ChangeShapes Go.WideShapes Go.ChangeAt Go.RowKit Go.Deep
open Go.ChangeMaps (open_string shut_string)

structure ActK where
  kind : Int
  n : Int
  key : Bs
def ActK.vals (x : ActK) : List Value := [.int .i64 x.kind, .int .i64 x.n, .string ⟨x.key.toArray⟩]
structure ActK.Wf (x : ActK) : Prop where
  kind1 : -9223372036854775808 ≤ x.kind
  kind2 : x.kind ≤ 9223372036854775807
  n1 : -9223372036854775808 ≤ x.n
  n2 : x.n ≤ 9223372036854775807
  keyL : x.key.length ≤ maxLen
theorem ActK.vals_get (x : ActK) : x.vals[0]? = some (.int .i64 x.kind) ∧ x.vals[1]? = some (.int .i64 x.n) ∧ x.vals[2]? = some (.string ⟨x.key.toArray⟩) := ⟨rfl, rfl, rfl⟩
/-- A slice value that holds such structs. -/
def ActKsAt (w : World) (v : Value) (l : List ActK) : Prop := ∃ a cap, v = .slice a l.length cap ∧ l.length ≤ maxLen ∧ (∀ i, (h : i < l.length) → l[i].Wf) ∧ RowsAt w a 3 (l.map ActK.vals)
theorem ActKsAt.ext {w w2 : World} {v : Value} {l : List ActK} (h : ActKsAt w v l) (hx : Ext [] w w2) : ActKsAt w2 v l := by
  obtain ⟨a, cap, h1, h2, h3, h4⟩ := h
  exact ⟨a, cap, h1, h2, h3, h4.ext hx⟩
theorem actK_cells {w : World} {b off : Nat} {l : List ActK} (h : RowsAt w (some ⟨b, off, none⟩) 3 (l.map ActK.vals)) (i : Nat) (hi : i < l.length) : w.cell? ⟨b, off + i * 3, none⟩ = some (.int .i64 (l[i]).kind) ∧ w.cell? ⟨b, off + i * 3 + 1, none⟩ = some (.int .i64 (l[i]).n) ∧ w.cell? ⟨b, off + i * 3 + 2, none⟩ = some (.string ⟨(l[i]).key.toArray⟩) := by
  have g := h.at i (l[i]).vals (by simp [hi])
  exact ⟨g 0 _ rfl, g 1 _ rfl, g 2 _ rfl⟩
theorem actKs_of_trod1 {H : Type} {enc : TypeId × Value → H} {w : World} {base : Nat} {spare : Nat → Bool} {held : Bool} {fuel : Nat} {v : Value} {x : DataW H × List MemPlace} (h : DataW.trod enc Tryz.prog w base spare held fuel 22 [v] = some x) : ∃ l, ActKsAt w v l := by
  refine rows_of_trod Tryz.underlying22 Tryz.underlying37 (by kernel_rfl) (by kernel_rfl) h ActK.vals ActK.Wf 3 rfl (fun a i hf => ?_) ⟨0, 0, []⟩
  obtain ⟨v0, y0, n0, c0, t0⟩ := hf 0 _ rfl
  obtain ⟨z0, e0, _, w0⟩ := DataW.trod_int Tryz.underlying3 t0
  obtain ⟨v1, y1, n1, c1, t1⟩ := hf 1 _ rfl
  obtain ⟨z1, e1, _, w1⟩ := DataW.trod_int Tryz.underlying3 t1
  obtain ⟨v2, y2, n2, c2, t2⟩ := hf 2 _ rfl
  obtain ⟨z2, e2, _, w2⟩ := DataW.trod_string Tryz.underlying9 t2
  simp only [List.cons.injEq, and_true] at e0 e1 e2
  subst e0 e1 e2
  have b0 : -9223372036854775808 ≤ z0 ∧ z0 ≤ 9223372036854775807 := by simpa [Lit.wf, IntKind.min, IntKind.max, IntKind.signed, IntKind.bits] using w0
  have b1 : -9223372036854775808 ≤ z1 ∧ z1 ≤ 9223372036854775807 := by simpa [Lit.wf, IntKind.min, IntKind.max, IntKind.signed, IntKind.bits] using w1
  refine ⟨⟨z0, z1, z2.data.toList⟩, ⟨b0.1, b0.2, b1.1, b1.2, by simpa using w2⟩, fun j u hj => ?_⟩
  have hj3 : j < 3 := (List.getElem?_eq_some_iff.1 hj).1
  obtain rfl | rfl | rfl : j = 0 ∨ j = 1 ∨ j = 2 := by omega
  · cases hj; exact c0
  · cases hj; exact c1
  · cases hj; exact c2
end Go.Proofs.YtpkolkgndhagiaaGreat
