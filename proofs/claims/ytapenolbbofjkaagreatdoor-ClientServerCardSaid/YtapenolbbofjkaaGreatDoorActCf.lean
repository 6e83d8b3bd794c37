/- server: how configs, rules and mailboxes come as arguments. No condition. -/
import Derived.Test.YtapenolbbofjkaaGreatDoorArgs0
import Derived.Test.YtapenolbbofjkaaGreatDoorSvB
import Derived.Lib.SmallJoins
set_option linter.unusedSimpArgs false
set_option linter.unusedVariables false
set_option linter.unnecessarySimpa false
namespace Go.Proofs.YtapenolbbofjkaaGreatDoor
open Go.ChangeShapes Go.WideShapes Go.ChangeAt Go.RowKit Go.Deep

/-- What any argument is. -/
structure Rl.Arg (r : Rl) : Prop where
  dom : r.1.length ≤ maxLen
  kind : -9223372036854775808 ≤ r.2.1 ∧ r.2.1 ≤ 9223372036854775807
  host : -9223372036854775808 ≤ r.2.2 ∧ r.2.2 ≤ 9223372036854775807
def RlsArg (w : World) (v : Value) (l : List Rl) : Prop := RlsAt w v l ∧ l.length ≤ maxLen ∧ ∀ r ∈ l, r.Arg
def BxsArg (w : World) (v : Value) (l : List Mb) : Prop := BxsAt w v l ∧ l.length ≤ maxLen ∧ ∀ m ∈ l, m.1.length ≤ maxLen ∧ m.2.length ≤ maxLen
section
variable {H : Type} {enc : TypeId × Value → H} {w : World} {base : Nat} {spare : Nat → Bool} {held : Bool}
theorem list4 {α : Type} {cs : List α} (h : cs.length = 4) : ∃ c0 c1 c2 c3, cs = [c0, c1, c2, c3] := by
  match cs, h with
  | [c0, c1, c2, c3], _ => exact ⟨c0, c1, c2, c3, rfl⟩
theorem array4 {α : Type} {cs : Array α} (h : cs.size = 4) : ∃ c0 c1 c2 c3, cs = #[c0, c1, c2, c3] := by
  obtain ⟨l⟩ := cs
  match l, h with
  | [c0, c1, c2, c3], _ => exact ⟨c0, c1, c2, c3, rfl⟩
theorem int_bd {z : Int} (h : (Lit.int .i64 z).wf = true) : -9223372036854775808 ≤ z ∧ z ≤ 9223372036854775807 := by simpa [Lit.wf, IntKind.min, IntKind.max, IntKind.signed, IntKind.bits] using h
theorem rls_of_trod {fuel : Nat} {v : Value} {x : DataW H × List MemPlace} (h : DataW.trod enc Tryz.prog w base spare held fuel 28 [v] = some x) : ∃ l, RlsArg w v l := by
  obtain ⟨l, a, cap, rfl, h2, h3, h4⟩ := rows_of_trod Tryz.underlying28 Tryz.underlying65 (by kernel_rfl) (by kernel_rfl) h Rl.vals Rl.Arg 3 rfl (fun a i hf => by
    obtain ⟨v0, y0, n0, c0, t0⟩ := hf 0 _ rfl
    obtain ⟨z0, e0, _, w0⟩ := DataW.trod_string Tryz.underlying9 t0
    obtain ⟨v1, y1, n1, c1, t1⟩ := hf 1 _ rfl
    obtain ⟨z1, e1, _, w1⟩ := DataW.trod_int Tryz.underlying3 t1
    obtain ⟨v2, y2, n2, c2, t2⟩ := hf 2 _ rfl
    obtain ⟨z2, e2, _, w2⟩ := DataW.trod_int Tryz.underlying3 t2
    simp only [List.cons.injEq, and_true] at e0 e1 e2
    subst e0 e1 e2
    refine ⟨(z0.data.toList, z1, z2), ⟨by simpa using w0, int_bd w1, int_bd w2⟩, fun j u hj => ?_⟩
    have hj2 : j < 3 := (List.getElem?_eq_some_iff.1 hj).1
    obtain rfl | rfl | rfl : j = 0 ∨ j = 1 ∨ j = 2 := by omega
    · cases hj; exact c0
    · cases hj; exact c1
    · cases hj; exact c2) ([], 0, 0)
  refine ⟨l, ⟨a, cap, rfl, ?_⟩, h2, fun r hr => ?_⟩
  · rcases h4 with h4 | ⟨b, off, rfl, h5⟩
    · exact .inl (List.map_eq_nil_iff.1 h4)
    · exact .inr ⟨b, off, rfl, fun i r j u hi hj => h5 i (Rl.vals r) (by rw [List.getElem?_map, hi]; rfl) j u hj⟩
  · obtain ⟨i, hi, rfl⟩ := List.mem_iff_getElem.1 hr
    exact h3 i hi
def Mb.Arg (m : Mb) : Prop := m.1.length ≤ maxLen ∧ m.2.length ≤ maxLen
theorem bxs_of_trod {fuel : Nat} {v : Value} {x : DataW H × List MemPlace} (h : DataW.trod enc Tryz.prog w base spare held fuel 29 [v] = some x) : ∃ l, BxsArg w v l := by
  obtain ⟨l, a, cap, rfl, h2, h3, h4⟩ := rows_of_trod Tryz.underlying29 Tryz.underlying37 (by kernel_rfl) (by kernel_rfl) h mbVals Mb.Arg 2 rfl (fun a i hf => by
    obtain ⟨v0, y0, n0, c0, t0⟩ := hf 0 _ rfl
    obtain ⟨z0, e0, _, w0⟩ := DataW.trod_string Tryz.underlying9 t0
    obtain ⟨v1, y1, n1, c1, t1⟩ := hf 1 _ rfl
    obtain ⟨z1, e1, _, w1⟩ := DataW.trod_string Tryz.underlying9 t1
    simp only [List.cons.injEq, and_true] at e0 e1
    subst e0 e1
    refine ⟨(z0.data.toList, z1.data.toList), ⟨by simpa using w0, by simpa using w1⟩, fun j u hj => ?_⟩
    have hj2 : j < 2 := (List.getElem?_eq_some_iff.1 hj).1
    obtain rfl | rfl : j = 0 ∨ j = 1 := by omega
    · cases hj; exact c0
    · cases hj; exact c1) ([], [])
  exact ⟨l, ⟨a, cap, rfl, h4⟩, h2, fun r hr => by obtain ⟨i, hi, rfl⟩ := List.mem_iff_getElem.1 hr; exact h3 i hi⟩
set_option maxRecDepth 100000 in
theorem cfg_of_trod {r : Reach} {b0 : Nat} {v : Value} {d : DataW H} {p : List MemPlace} (hv : Value.okWide Tryz.prog w r b0 31 v) (h : DataW.Trod enc Tryz.prog w base spare held 31 v d p) :
    ∃ (host : Bs) (most : Int) (rv bv : Value) (rl : List Rl) (bl : List Mb), v = .agg #[.string ⟨host.toArray⟩, .int .i64 most, rv, bv] ∧ host.length ≤ maxLen ∧ (-9223372036854775808 ≤ most ∧ most ≤ 9223372036854775807) ∧ RlsArg w rv rl ∧ BxsArg w bv bl := by
  obtain ⟨cs, rfl, hsz⟩ := okWide_struct Tryz.underlying31 hv
  obtain ⟨c0, c1, c2, c3, rfl⟩ := array4 (hsz.trans (show Tryz.prog.cellsOf 31 = 4 by kernel_rfl))
  obtain ⟨fuel, hf⟩ := h
  obtain ⟨xs, n, _, _, _, hlen, hat⟩ := DataW.trod_struct Tryz.underlying31 hf
  obtain ⟨y0, y1, y2, y3, rfl⟩ := list4 (show xs.length = 4 from hlen)
  have h0 : DataW.trod enc Tryz.prog w base spare held n 9 [c0] = some y0 := hat 0 _ rfl
  have h1 : DataW.trod enc Tryz.prog w base spare held n 3 [c1] = some y1 := hat 1 _ rfl
  have h2 : DataW.trod enc Tryz.prog w base spare held n 28 [c2] = some y2 := hat 2 _ rfl
  have h3 : DataW.trod enc Tryz.prog w base spare held n 29 [c3] = some y3 := hat 3 _ rfl
  obtain ⟨z0, e0, _, w0⟩ := DataW.trod_string Tryz.underlying9 h0
  obtain ⟨z1, e1, _, w1⟩ := DataW.trod_int Tryz.underlying3 h1
  obtain ⟨rl, hr⟩ := rls_of_trod h2
  obtain ⟨bl, hb⟩ := bxs_of_trod h3
  simp only [List.cons.injEq, and_true] at e0 e1
  subst e0 e1
  exact ⟨z0.data.toList, z1, c2, c3, rl, bl, rfl, by simpa using w0, int_bd w1, hr, hb⟩
set_option maxRecDepth 100000 in
theorem box_of_trod {r : Reach} {b0 : Nat} {v : Value} {d : DataW H} {p : List MemPlace} (hv : Value.okWide Tryz.prog w r b0 37 v) (h : DataW.Trod enc Tryz.prog w base spare held 37 v d p) : ∃ m : Mb, v = mbAgg m ∧ (m.1.length ≤ maxLen ∧ m.2.length ≤ maxLen) := by
  obtain ⟨v0, v1, y0, y1, n, rfl, _, _, h0, h1⟩ := Go.Joins.open_agg2 Tryz.underlying37 (by kernel_rfl) (by kernel_rfl) hv h
  obtain ⟨z0, e0, _, w0⟩ := DataW.trod_string Tryz.underlying9 h0
  obtain ⟨z1, e1, _, w1⟩ := DataW.trod_string Tryz.underlying9 h1
  simp only [List.cons.injEq, and_true] at e0 e1
  subst e0 e1
  exact ⟨(z0.data.toList, z1.data.toList), rfl, by simpa using w0, by simpa using w1⟩
end
end Go.Proofs.YtapenolbbofjkaaGreatDoor
