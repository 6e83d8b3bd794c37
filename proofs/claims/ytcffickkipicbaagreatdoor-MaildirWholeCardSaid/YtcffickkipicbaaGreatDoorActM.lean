/- How slices of ActM lie in memory, and how they come as arguments. No condition. -/
import Derived.Test.YtcffickkipicbaaGreatDoorArgs0
set_option linter.unusedSimpArgs false
set_option linter.unusedVariables false
set_option linter.unnecessarySimpa false
namespace Go.Proofs.YtcffickkipicbaaGreatDoor
open Go.ChangeShapes Go.WideShapes Go.ChangeAt Go.RowKit Go.Deep
open Go.ChangeMaps (open_string shut_string)

structure ActM where
  kind : Int
  n : Int
  box : Int
  rc : Int
  id : Int
  text : Bs
  name : Bs
def ActM.vals (x : ActM) : List Value := [.int .i64 x.kind, .int .i64 x.n, .int .i64 x.box, .int .i64 x.rc, .int .u64 x.id, .string ⟨x.text.toArray⟩, .string ⟨x.name.toArray⟩]
structure ActM.Wf (x : ActM) : Prop where
  kind1 : -9223372036854775808 ≤ x.kind
  kind2 : x.kind ≤ 9223372036854775807
  n1 : -9223372036854775808 ≤ x.n
  n2 : x.n ≤ 9223372036854775807
  box1 : -9223372036854775808 ≤ x.box
  box2 : x.box ≤ 9223372036854775807
  rc1 : -9223372036854775808 ≤ x.rc
  rc2 : x.rc ≤ 9223372036854775807
  id1 : 0 ≤ x.id
  id2 : x.id ≤ 18446744073709551615
  textL : x.text.length ≤ maxLen
  nameL : x.name.length ≤ maxLen
theorem ActM.vals_get (x : ActM) : x.vals[0]? = some (.int .i64 x.kind) ∧ x.vals[1]? = some (.int .i64 x.n) ∧ x.vals[2]? = some (.int .i64 x.box) ∧ x.vals[3]? = some (.int .i64 x.rc) ∧ x.vals[4]? = some (.int .u64 x.id) ∧ x.vals[5]? = some (.string ⟨x.text.toArray⟩) ∧ x.vals[6]? = some (.string ⟨x.name.toArray⟩) := ⟨rfl, rfl, rfl, rfl, rfl, rfl, rfl⟩
/-- A slice value that holds such structs. -/
def ActMsAt (w : World) (v : Value) (l : List ActM) : Prop := ∃ a cap, v = .slice a l.length cap ∧ l.length ≤ maxLen ∧ (∀ i, (h : i < l.length) → l[i].Wf) ∧ RowsAt w a 7 (l.map ActM.vals)
theorem ActMsAt.ext {w w2 : World} {v : Value} {l : List ActM} (h : ActMsAt w v l) (hx : Ext [] w w2) : ActMsAt w2 v l := by
  obtain ⟨a, cap, h1, h2, h3, h4⟩ := h
  exact ⟨a, cap, h1, h2, h3, h4.ext hx⟩
theorem actM_cells {w : World} {b off : Nat} {l : List ActM} (h : RowsAt w (some ⟨b, off, none⟩) 7 (l.map ActM.vals)) (i : Nat) (hi : i < l.length) : w.cell? ⟨b, off + i * 7, none⟩ = some (.int .i64 (l[i]).kind) ∧ w.cell? ⟨b, off + i * 7 + 1, none⟩ = some (.int .i64 (l[i]).n) ∧ w.cell? ⟨b, off + i * 7 + 2, none⟩ = some (.int .i64 (l[i]).box) ∧ w.cell? ⟨b, off + i * 7 + 3, none⟩ = some (.int .i64 (l[i]).rc) ∧ w.cell? ⟨b, off + i * 7 + 4, none⟩ = some (.int .u64 (l[i]).id) ∧ w.cell? ⟨b, off + i * 7 + 5, none⟩ = some (.string ⟨(l[i]).text.toArray⟩) ∧ w.cell? ⟨b, off + i * 7 + 6, none⟩ = some (.string ⟨(l[i]).name.toArray⟩) := by
  have g := h.at i (l[i]).vals (by simp [hi])
  exact ⟨g 0 _ rfl, g 1 _ rfl, g 2 _ rfl, g 3 _ rfl, g 4 _ rfl, g 5 _ rfl, g 6 _ rfl⟩
theorem actMs_of_trod0 {H : Type} {enc : TypeId × Value → H} {w : World} {base : Nat} {spare : Nat → Bool} {held : Bool} {fuel : Nat} {v : Value} {x : DataW H × List MemPlace} (h : DataW.trod enc Tryz.prog w base spare held fuel 30 [v] = some x) : ∃ l, ActMsAt w v l := by
  refine rows_of_trod Tryz.underlying30 Tryz.underlying35 (by kernel_rfl) (by kernel_rfl) h ActM.vals ActM.Wf 7 rfl (fun a i hf => ?_) ⟨0, 0, 0, 0, 0, [], []⟩
  obtain ⟨v0, y0, n0, c0, t0⟩ := hf 0 _ rfl
  obtain ⟨z0, e0, _, w0⟩ := DataW.trod_int Tryz.underlying3 t0
  obtain ⟨v1, y1, n1, c1, t1⟩ := hf 1 _ rfl
  obtain ⟨z1, e1, _, w1⟩ := DataW.trod_int Tryz.underlying3 t1
  obtain ⟨v2, y2, n2, c2, t2⟩ := hf 2 _ rfl
  obtain ⟨z2, e2, _, w2⟩ := DataW.trod_int Tryz.underlying3 t2
  obtain ⟨v3, y3, n3, c3, t3⟩ := hf 3 _ rfl
  obtain ⟨z3, e3, _, w3⟩ := DataW.trod_int Tryz.underlying3 t3
  obtain ⟨v4, y4, n4, c4, t4⟩ := hf 4 _ rfl
  obtain ⟨z4, e4, _, w4⟩ := DataW.trod_int Tryz.underlying22 t4
  obtain ⟨v5, y5, n5, c5, t5⟩ := hf 5 _ rfl
  obtain ⟨z5, e5, _, w5⟩ := DataW.trod_string Tryz.underlying9 t5
  obtain ⟨v6, y6, n6, c6, t6⟩ := hf 6 _ rfl
  obtain ⟨z6, e6, _, w6⟩ := DataW.trod_string Tryz.underlying9 t6
  simp only [List.cons.injEq, and_true] at e0 e1 e2 e3 e4 e5 e6
  subst e0 e1 e2 e3 e4 e5 e6
  have b0 : -9223372036854775808 ≤ z0 ∧ z0 ≤ 9223372036854775807 := by simpa [Lit.wf, IntKind.min, IntKind.max, IntKind.signed, IntKind.bits] using w0
  have b1 : -9223372036854775808 ≤ z1 ∧ z1 ≤ 9223372036854775807 := by simpa [Lit.wf, IntKind.min, IntKind.max, IntKind.signed, IntKind.bits] using w1
  have b2 : -9223372036854775808 ≤ z2 ∧ z2 ≤ 9223372036854775807 := by simpa [Lit.wf, IntKind.min, IntKind.max, IntKind.signed, IntKind.bits] using w2
  have b3 : -9223372036854775808 ≤ z3 ∧ z3 ≤ 9223372036854775807 := by simpa [Lit.wf, IntKind.min, IntKind.max, IntKind.signed, IntKind.bits] using w3
  have b4 : 0 ≤ z4 ∧ z4 ≤ 18446744073709551615 := by simpa [Lit.wf, IntKind.min, IntKind.max, IntKind.signed, IntKind.bits] using w4
  refine ⟨⟨z0, z1, z2, z3, z4, z5.data.toList, z6.data.toList⟩, ⟨b0.1, b0.2, b1.1, b1.2, b2.1, b2.2, b3.1, b3.2, b4.1, b4.2, by simpa using w5, by simpa using w6⟩, fun j u hj => ?_⟩
  have hj7 : j < 7 := (List.getElem?_eq_some_iff.1 hj).1
  obtain rfl | rfl | rfl | rfl | rfl | rfl | rfl : j = 0 ∨ j = 1 ∨ j = 2 ∨ j = 3 ∨ j = 4 ∨ j = 5 ∨ j = 6 := by omega
  · cases hj; exact c0
  · cases hj; exact c1
  · cases hj; exact c2
  · cases hj; exact c3
  · cases hj; exact c4
  · cases hj; exact c5
  · cases hj; exact c6
end Go.Proofs.YtcffickkipicbaaGreatDoor
