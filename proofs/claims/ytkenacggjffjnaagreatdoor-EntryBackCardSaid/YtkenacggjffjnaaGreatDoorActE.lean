/- entry: how entries, and keys of 32 bytes, come as arguments. No condition. -/
import Derived.Test.YtkenacggjffjnaaGreatDoorArgs0
import Derived.Test.YtkenacggjffjnaaGreatDoorEnS
import Derived.Lib.SmallJoins
set_option linter.unusedSimpArgs false
set_option linter.unusedVariables false
set_option linter.unnecessarySimpa false
namespace Go.Proofs.YtkenacggjffjnaaGreatDoor
open Go.ChangeShapes Go.WideShapes Go.ChangeAt Go.RowKit Go.Deep

/-- What any argument is. -/
def Rcp.Wf (x : Rcp) : Prop := x.1.1.length ≤ maxLen ∧ x.1.2.length ≤ maxLen ∧ -9223372036854775808 ≤ x.2 ∧ x.2 ≤ 9223372036854775807
structure En.Wf (e : En) : Prop where
  id : e.id < 18446744073709551616
  ep : e.ep < 18446744073709551616
  cnt : e.cnt < 18446744073709551616
  born : e.born < 18446744073709551616
  nxt : e.nxt < 18446744073709551616
  tries : -9223372036854775808 ≤ e.tries ∧ e.tries ≤ 9223372036854775807
  dom : e.dom.length ≤ maxLen
  frm : e.frm.1.length ≤ maxLen ∧ e.frm.2.length ≤ maxLen
  rcs : e.rcs.length ≤ maxLen
  each : ∀ x ∈ e.rcs, x.Wf
section
variable {H : Type} {enc : TypeId × Value → H} {w : World} {base : Nat} {spare : Nat → Bool} {held : Bool}
theorem list2 {α : Type} {cs : List α} (h : cs.length = 2) : ∃ c0 c1, cs = [c0, c1] := by
  match cs, h with
  | [c0, c1], _ => exact ⟨c0, c1, rfl⟩
theorem list3 {α : Type} {cs : List α} (h : cs.length = 3) : ∃ c0 c1 c2, cs = [c0, c1, c2] := by
  match cs, h with
  | [c0, c1, c2], _ => exact ⟨c0, c1, c2, rfl⟩
theorem list9 {α : Type} {cs : List α} (h : cs.length = 9) : ∃ c0 c1 c2 c3 c4 c5 c6 c7 c8, cs = [c0, c1, c2, c3, c4, c5, c6, c7, c8] := by
  match cs, h with
  | [c0, c1, c2, c3, c4, c5, c6, c7, c8], _ => exact ⟨c0, c1, c2, c3, c4, c5, c6, c7, c8, rfl⟩
theorem array10 {α : Type} {cs : Array α} (h : cs.size = 10) : ∃ c0 c1 c2 c3 c4 c5 c6 c7 c8 c9, cs = #[c0, c1, c2, c3, c4, c5, c6, c7, c8, c9] := by
  obtain ⟨l⟩ := cs
  match l, h with
  | [c0, c1, c2, c3, c4, c5, c6, c7, c8, c9], _ => exact ⟨c0, c1, c2, c3, c4, c5, c6, c7, c8, c9, rfl⟩
set_option maxRecDepth 100000 in
theorem mb_of_cells {fuel : Nat} {c0 c1 : Value} {x : DataW H × List MemPlace} (h : DataW.trod enc Tryz.prog w base spare held fuel 24 [c0, c1] = some x) : ∃ m : Mb, c0 = .string ⟨m.1.toArray⟩ ∧ c1 = .string ⟨m.2.toArray⟩ ∧ m.1.length ≤ maxLen ∧ m.2.length ≤ maxLen := by
  obtain ⟨xs, n, _, _, _, hlen, hat⟩ := DataW.trod_struct Tryz.underlying24 h
  obtain ⟨y0, y1, rfl⟩ := list2 (show xs.length = 2 from hlen)
  have h0 : DataW.trod enc Tryz.prog w base spare held n 9 [c0] = some y0 := hat 0 _ rfl
  have h1 : DataW.trod enc Tryz.prog w base spare held n 9 [c1] = some y1 := hat 1 _ rfl
  obtain ⟨z0, e0, _, w0⟩ := DataW.trod_string Tryz.underlying9 h0
  obtain ⟨z1, e1, _, w1⟩ := DataW.trod_string Tryz.underlying9 h1
  simp only [List.cons.injEq, and_true] at e0 e1
  subst e0 e1
  exact ⟨(z0.data.toList, z1.data.toList), rfl, rfl, w0, w1⟩
set_option maxRecDepth 100000 in
theorem to_of_cells {fuel : Nat} {cs : List Value} {x : DataW H × List MemPlace} (h : DataW.trod enc Tryz.prog w base spare held fuel 62 cs = some x) : ∃ r : Rcp, r.Wf ∧ cs = r.vals := by
  obtain ⟨xs, n, _, _, hcl, hlen, hat⟩ := DataW.trod_struct Tryz.underlying62 h
  rw [show Tryz.prog.cellsOf 62 = 3 by kernel_rfl] at hcl
  obtain ⟨c0, c1, c2, rfl⟩ := list3 hcl
  obtain ⟨y0, y1, rfl⟩ := list2 (show xs.length = 2 from hlen)
  have h0 : DataW.trod enc Tryz.prog w base spare held n 24 [c0, c1] = some y0 := hat 0 _ rfl
  have h1 : DataW.trod enc Tryz.prog w base spare held n 3 [c2] = some y1 := hat 1 _ rfl
  obtain ⟨m, rfl, rfl, w0, w1⟩ := mb_of_cells h0
  obtain ⟨z, e1, _, wz⟩ := DataW.trod_int Tryz.underlying3 h1
  simp only [List.cons.injEq, and_true] at e1
  subst e1
  have bz : -9223372036854775808 ≤ z ∧ z ≤ 9223372036854775807 := by simpa [Lit.wf, IntKind.min, IntKind.max, IntKind.signed, IntKind.bits] using wz
  exact ⟨(m, z), ⟨w0, w1, bz.1, bz.2⟩, rfl⟩
theorem tos_of_trod {fuel : Nat} {v : Value} {x : DataW H × List MemPlace} (h : DataW.trod enc Tryz.prog w base spare held fuel 25 [v] = some x) : ∃ l : List Rcp, TosAt w v l ∧ l.length ≤ maxLen ∧ ∀ r ∈ l, r.Wf := by
  rcases open_slice Tryz.underlying25 h with ⟨h0, _⟩ | ⟨a, len, cap, m, n, D, Pl, hcs, hb, hl, hm, hmm, hx, hi⟩
  · simp only [List.cons.injEq, and_true] at h0
    subst h0
    exact ⟨[], TosAt.nil w, Nat.zero_le _, by simp⟩
  · simp only [List.cons.injEq, and_true] at hcs
    subst hcs
    by_cases h0 : len = 0
    · subst h0
      exact ⟨[], ⟨_, _, rfl, .inl rfl⟩, Nat.zero_le _, by simp⟩
    · obtain ⟨l, h1, h2, h3⟩ := rows_all (w := w) (a := a) (len := len) (k := 3) Rcp.vals Rcp.Wf (fun _ => rfl) (([], []), 0) (fun i hil => by
        obtain ⟨cs', hc, ht'⟩ := hi i (by rw [hmm]; split <;> omega)
        rw [show Tryz.prog.cellsOf 62 = 3 by kernel_rfl] at hc
        obtain ⟨r, hr, rfl⟩ := to_of_cells ht'
        obtain ⟨_, _, hat⟩ := World.cells?_some hc
        refine ⟨r, hr, fun j u hj => ?_⟩
        have hj3 : j < 3 := (List.getElem?_eq_some_iff.1 hj).1
        rw [← Go.Deep.add_add]
        exact (hat j hj3).trans hj) (Nat.pos_of_ne_zero h0)
      refine ⟨l, ⟨some a, cap, by rw [h1], h3⟩, by omega, fun r hr => ?_⟩
      obtain ⟨i, hil, rfl⟩ := List.mem_iff_getElem.1 hr
      exact h2 i hil
theorem u64_of {z : Int} (h : (Lit.int .u64 z).wf = true) : ∃ n : Nat, z = n ∧ n < 18446744073709551616 := by
  have b : 0 ≤ z ∧ z ≤ 18446744073709551615 := by simpa [Lit.wf, IntKind.min, IntKind.max, IntKind.signed, IntKind.bits] using h
  exact ⟨z.toNat, by omega, by omega⟩
set_option maxRecDepth 100000 in
theorem en_of_trod {r : Reach} {b0 : Nat} {v : Value} {d : DataW H} {p : List MemPlace} (hv : Value.okWide Tryz.prog w r b0 27 v) (h : DataW.Trod enc Tryz.prog w base spare held 27 v d p) : ∃ (e : En) (tv : Value), v = enAgg e tv ∧ e.Wf ∧ TosAt w tv e.rcs := by
  obtain ⟨cs, rfl, hsz⟩ := okWide_struct Tryz.underlying27 hv
  obtain ⟨c0, c1, c2, c3, c4, c5, c6, c7, c8, c9, rfl⟩ := array10 (hsz.trans (show Tryz.prog.cellsOf 27 = 10 by kernel_rfl))
  obtain ⟨fuel, hf⟩ := h
  obtain ⟨xs, n, _, _, _, hlen, hat⟩ := DataW.trod_struct Tryz.underlying27 hf
  obtain ⟨y0, y1, y2, y3, y4, y5, y6, y7, y8, rfl⟩ := list9 (show xs.length = 9 from hlen)
  have h0 : DataW.trod enc Tryz.prog w base spare held n 22 [c0] = some y0 := hat 0 _ rfl
  have h1 : DataW.trod enc Tryz.prog w base spare held n 9 [c1] = some y1 := hat 1 _ rfl
  have h2 : DataW.trod enc Tryz.prog w base spare held n 22 [c2] = some y2 := hat 2 _ rfl
  have h3 : DataW.trod enc Tryz.prog w base spare held n 22 [c3] = some y3 := hat 3 _ rfl
  have h4 : DataW.trod enc Tryz.prog w base spare held n 24 [c4, c5] = some y4 := hat 4 _ rfl
  have h5 : DataW.trod enc Tryz.prog w base spare held n 25 [c6] = some y5 := hat 5 _ rfl
  have h6 : DataW.trod enc Tryz.prog w base spare held n 22 [c7] = some y6 := hat 6 _ rfl
  have h7 : DataW.trod enc Tryz.prog w base spare held n 22 [c8] = some y7 := hat 7 _ rfl
  have h8 : DataW.trod enc Tryz.prog w base spare held n 3 [c9] = some y8 := hat 8 _ rfl
  obtain ⟨z0, e0, _, w0⟩ := DataW.trod_int Tryz.underlying22 h0
  obtain ⟨z1, e1, _, w1⟩ := DataW.trod_string Tryz.underlying9 h1
  obtain ⟨z2, e2, _, w2⟩ := DataW.trod_int Tryz.underlying22 h2
  obtain ⟨z3, e3, _, w3⟩ := DataW.trod_int Tryz.underlying22 h3
  obtain ⟨m, e4, e5, w4, w5⟩ := mb_of_cells h4
  obtain ⟨l, hT, hl, hw⟩ := tos_of_trod h5
  obtain ⟨z6, e6, _, w6⟩ := DataW.trod_int Tryz.underlying22 h6
  obtain ⟨z7, e7, _, w7⟩ := DataW.trod_int Tryz.underlying22 h7
  obtain ⟨z8, e8, _, w8⟩ := DataW.trod_int Tryz.underlying3 h8
  simp only [List.cons.injEq, and_true] at e0 e1 e2 e3 e6 e7 e8
  obtain ⟨n0, rfl, g0⟩ := u64_of w0
  obtain ⟨n2, rfl, g2⟩ := u64_of w2
  obtain ⟨n3, rfl, g3⟩ := u64_of w3
  obtain ⟨n6, rfl, g6⟩ := u64_of w6
  obtain ⟨n7, rfl, g7⟩ := u64_of w7
  have b8 : -9223372036854775808 ≤ z8 ∧ z8 ≤ 9223372036854775807 := by simpa [Lit.wf, IntKind.min, IntKind.max, IntKind.signed, IntKind.bits] using w8
  subst e0 e1 e2 e3 e4 e5 e6 e7 e8
  exact ⟨⟨n0, z1.data.toList, n2, n3, m, l, n6, n7, z8⟩, c6, rfl, ⟨g0, g2, g3, g6, g7, b8, by simpa using w1, ⟨w4, w5⟩, hl, hw⟩, hT⟩
/-- A key of 32 bytes. -/
def k32Agg (k : Bs) : Value := .agg (k.map fun c => Value.int .u8 c.toNat).toArray
theorem u8_of {z : Int} (h : (Lit.int .u8 z).wf = true) : ∃ c : UInt8, z = c.toNat := by
  have b : 0 ≤ z ∧ z ≤ 255 := by simpa [Lit.wf, IntKind.min, IntKind.max, IntKind.signed, IntKind.bits] using h
  exact ⟨UInt8.ofNat z.toNat, by simp; omega⟩
theorem bytes_of_cells : ∀ {cs : List Value}, (∀ i, i < cs.length → ∃ c : UInt8, cs[i]? = some (.int .u8 c.toNat)) → ∃ k : Bs, cs = k.map fun c => Value.int .u8 c.toNat
  | [], _ => ⟨[], rfl⟩
  | a :: cs, h => by
    obtain ⟨c, hc⟩ := h 0 (by simp)
    obtain ⟨k, rfl⟩ := bytes_of_cells (cs := cs) fun i hi => by
      obtain ⟨c, hc⟩ := h (i + 1) (by simp; omega)
      exact ⟨c, by simpa using hc⟩
    exact ⟨c :: k, by simpa using hc⟩
set_option maxRecDepth 100000 in
theorem k32_of_trod {v : Value} {d : DataW H} {p : List MemPlace} {r : Reach} {b0 : Nat} (hv : Value.okWide Tryz.prog w r b0 41 v) (h : DataW.Trod enc Tryz.prog w base spare held 41 v d p) : ∃ k : Bs, v = k32Agg k ∧ k.length = 32 := by
  obtain ⟨cs, rfl, hsz⟩ : ∃ cs, v = .agg cs ∧ cs.size = Tryz.prog.cellsOf 41 := by
    simp only [Value.okWide, Tryz.underlying41] at hv
    obtain ⟨cs, h1, h2, _⟩ := hv
    exact ⟨cs, h1, h2⟩
  rw [show Tryz.prog.cellsOf 41 = 32 by kernel_rfl] at hsz
  obtain ⟨fuel, hf⟩ := h
  obtain ⟨xs, m, _, _, _, hlen, hat⟩ := DataW.trod_array Tryz.underlying41 hf
  obtain ⟨k, hk⟩ := bytes_of_cells (cs := cs.toList) fun i hi => by
    have hi' : i < 32 := by rw [← hsz]; simpa using hi
    have h1 := hat i hi'
    rw [show Tryz.prog.cellsOf 5 = 1 by kernel_rfl, Nat.mul_one] at h1
    have hx : xs[i]? = some (xs[i]'(by omega)) := List.getElem?_eq_getElem (by omega)
    have hone : ((Value.agg cs).cells.toList.drop i).take 1 = [cs.toList[i]] := by
      show (cs.toList.drop i).take 1 = _
      rw [List.drop_eq_getElem_cons hi]
      rfl
    rw [hx] at h1
    have h2 : DataW.trod enc Tryz.prog w base spare held m 5 [cs.toList[i]] = some (xs[i]'(by omega)) := by rw [← hone]; exact h1
    obtain ⟨z, e0, _, w0⟩ := DataW.trod_int Tryz.underlying5 h2
    simp only [List.cons.injEq, and_true] at e0
    obtain ⟨c, rfl⟩ := u8_of w0
    exact ⟨c, by rw [List.getElem?_eq_getElem hi, e0]⟩
  refine ⟨k, ?_, ?_⟩
  · unfold k32Agg
    rw [← hk]
  · have := congrArg List.length hk
    simp at this
    omega
end
end Go.Proofs.YtkenacggjffjnaaGreatDoor
