/- How commands, replies, texts and bools come as arguments of the statements of layer 10. No condition. -/
import Derived.Test.YtpclhkjladbooaaGreatDoorArgs0
import Derived.Test.YtpclhkjladbooaaGreatDoorCmA
import Derived.Lib.SmallJoins
import Derived.Deep.Strs
import Derived.Deep.Grids
set_option linter.unusedSimpArgs false
set_option linter.unusedVariables false
set_option linter.unnecessarySimpa false
namespace Go.Proofs.YtpclhkjladbooaaGreatDoor
open Go.ChangeShapes Go.WideShapes Go.ChangeAt Go.RowKit Go.Deep

structure Cm.Wf (c : Cm) : Prop where
  verb1 : -9223372036854775808 ≤ c.verb
  verb2 : c.verb ≤ 9223372036854775807
  text : c.text.length ≤ maxLen
  loc : c.box.1.length ≤ maxLen
  dom : c.box.2.length ≤ maxLen
  size1 : -9223372036854775808 ≤ c.size
  size2 : c.size ≤ 9223372036854775807
section
variable {H : Type} {enc : TypeId × Value → H} {w : World} {base : Nat} {spare : Nat → Bool} {held : Bool}
theorem array6 {α : Type} {cs : Array α} (h : cs.size = 6) : ∃ c0 c1 c2 c3 c4 c5, cs = #[c0, c1, c2, c3, c4, c5] := by
  obtain ⟨l⟩ := cs
  match l, h with
  | [c0, c1, c2, c3, c4, c5], _ => exact ⟨c0, c1, c2, c3, c4, c5, rfl⟩
set_option maxRecDepth 100000 in
theorem cm_of_trod {r : Reach} {b0 : Nat} {v : Value} {d : DataW H} {p : List MemPlace} (hv : Value.okWide Tryz.prog w r b0 25 v) (h : DataW.Trod enc Tryz.prog w base spare held 25 v d p) : ∃ c : Cm, v = cmAgg c ∧ c.Wf := by
  obtain ⟨cs, rfl, hsz⟩ := okWide_struct Tryz.underlying25 hv
  obtain ⟨c0, c1, c2, c3, c4, c5, rfl⟩ := array6 (hsz.trans (show Tryz.prog.cellsOf 25 = 6 by kernel_rfl))
  obtain ⟨fuel, hf⟩ := h
  obtain ⟨xs, n, _, _, _, hlen, hat⟩ := DataW.trod_struct Tryz.underlying25 hf
  have hl : xs.length = 5 := hlen
  obtain ⟨y0, y1, y2, y3, y4, rfl⟩ : ∃ y0 y1 y2 y3 y4, xs = [y0, y1, y2, y3, y4] := by
    match xs, hl with
    | [y0, y1, y2, y3, y4], _ => exact ⟨y0, y1, y2, y3, y4, rfl⟩
  have h0 : DataW.trod enc Tryz.prog w base spare held n 3 [c0] = some y0 := hat 0 _ rfl
  have h1 : DataW.trod enc Tryz.prog w base spare held n 9 [c1] = some y1 := hat 1 _ rfl
  have h2 : DataW.trod enc Tryz.prog w base spare held n 23 [c2, c3] = some y2 := hat 2 _ rfl
  have h3 : DataW.trod enc Tryz.prog w base spare held n 2 [c4] = some y3 := hat 3 _ rfl
  have h4 : DataW.trod enc Tryz.prog w base spare held n 4 [c5] = some y4 := hat 4 _ rfl
  obtain ⟨z0, e0, _, w0⟩ := DataW.trod_int Tryz.underlying3 h0
  obtain ⟨z1, e1, _, w1⟩ := DataW.trod_string Tryz.underlying9 h1
  obtain ⟨z3, e3, _, w3⟩ := DataW.trod_int Tryz.underlying2 h3
  obtain ⟨z4, e4, _⟩ := DataW.trod_bool Tryz.underlying4 h4
  obtain ⟨bs, m, _, _, _, hblen, hbat⟩ := DataW.trod_struct Tryz.underlying23 h2
  have hbl : bs.length = 2 := hblen
  obtain ⟨u0, u1, rfl⟩ : ∃ u0 u1, bs = [u0, u1] := by
    match bs, hbl with
    | [u0, u1], _ => exact ⟨u0, u1, rfl⟩
  have g0 : DataW.trod enc Tryz.prog w base spare held m 9 [c2] = some u0 := hbat 0 _ rfl
  have g1 : DataW.trod enc Tryz.prog w base spare held m 9 [c3] = some u1 := hbat 1 _ rfl
  obtain ⟨k0, f0, _, x0⟩ := DataW.trod_string Tryz.underlying9 g0
  obtain ⟨k1, f1, _, x1⟩ := DataW.trod_string Tryz.underlying9 g1
  simp only [List.cons.injEq, and_true] at e0 e1 e3 e4 f0 f1
  subst e0 e1 e3 e4 f0 f1
  have b0 : -9223372036854775808 ≤ z0 ∧ z0 ≤ 9223372036854775807 := by simpa [Lit.wf, IntKind.min, IntKind.max, IntKind.signed, IntKind.bits] using w0
  have b3 : -9223372036854775808 ≤ z3 ∧ z3 ≤ 9223372036854775807 := by simpa [Lit.wf, IntKind.min, IntKind.max, IntKind.signed, IntKind.bits] using w3
  exact ⟨⟨z0, z1.data.toList, (k0.data.toList, k1.data.toList), z3, z4⟩, rfl, b0.1, b0.2, by simpa using w1, by simpa using x0, by simpa using x1, b3.1, b3.2⟩
/-- A slice value that holds texts (an argument). -/
def TextsAt (w : World) (v : Value) (l : List Bs) : Prop := TxAt w v l ∧ ∀ s ∈ l, s.length ≤ maxLen
theorem strs_of_trod {fuel : Nat} {v : Value} {x : DataW H × List MemPlace} (h : DataW.trod enc Tryz.prog w base spare held fuel 36 [v] = some x) : ∃ l, TextsAt w v l := by
  rcases open_strs Tryz.underlying36 Tryz.underlying9 (by kernel_rfl) h with ⟨h0, _⟩ | ⟨a, len, cap, m, Sx, hcs, _, hl, hm, hmm, _, hat⟩
  · simp only [List.cons.injEq, and_true] at h0
    subst h0
    exact ⟨[], TxAt.nil w, by simp⟩
  · simp only [List.cons.injEq, and_true] at hcs
    subst hcs
    have hlm : len ≤ m := by rw [hmm]; split <;> omega
    obtain ⟨b, off, sp⟩ := a
    have hsp : 0 < len → sp = none := fun h0 => by
      have hc := (hat 0 (by omega)).1
      cases sp with
      | none => rfl
      | some z =>
        have : ((⟨b, off, some z⟩ : Addr).add 0) = ⟨b, off, some z⟩ := by simp [Addr.add]
        rw [this] at hc
        simp [World.cell?] at hc
        split at hc <;> simp at hc
    refine ⟨(List.range len).map fun i => (Sx i).data.toList, ⟨some ⟨b, off, sp⟩, cap, by simp, by simpa using ⟨hl, hm⟩, ?_⟩, ?_⟩
    · by_cases h0 : len = 0
      · subst h0; exact .inl rfl
      · have := hsp (by omega)
        subst this
        refine .inr ⟨b, off, rfl, fun i hi => ?_⟩
        have hi' : i < len := by simpa using hi
        have hc := (hat i (by omega)).1
        have add : (⟨b, off, none⟩ : Addr).add i = ⟨b, off + i, none⟩ := by unfold Addr.add; split <;> simp_all
        rw [add] at hc
        rw [hc]
        simp
    · intro s hs
      obtain ⟨i, hi, rfl⟩ := List.mem_map.1 hs
      have hi' := List.mem_range.1 hi
      simpa using (hat i (by omega)).2
set_option maxRecDepth 100000 in
theorem rp_of_trod {r : Reach} {b0 : Nat} {v : Value} {d : DataW H} {p : List MemPlace} (hv : Value.okWide Tryz.prog w r b0 41 v) (h : DataW.Trod enc Tryz.prog w base spare held 41 v d p) :
    ∃ (code : Int) (lv : Value) (l : List Bs), v = .agg #[.int .i64 code, lv] ∧ (-9223372036854775808 ≤ code ∧ code ≤ 9223372036854775807) ∧ TextsAt w lv l := by
  obtain ⟨v0, v1, y0, y1, n, rfl, _, _, h0, h1⟩ := Go.Joins.open_agg2 Tryz.underlying41 (by kernel_rfl) (by kernel_rfl) hv h
  obtain ⟨z0, e0, _, w0⟩ := DataW.trod_int Tryz.underlying3 h0
  simp only [List.cons.injEq, and_true] at e0
  subst e0
  have b0 : -9223372036854775808 ≤ z0 ∧ z0 ≤ 9223372036854775807 := by simpa [Lit.wf, IntKind.min, IntKind.max, IntKind.signed, IntKind.bits] using w0
  obtain ⟨l, hl⟩ := strs_of_trod h1
  exact ⟨z0, v1, l, rfl, b0, hl⟩
/-- A slice value that holds bools. -/
def BoolsAt (w : World) (v : Value) (l : List Bool) : Prop := ∃ a cap, v = .slice a l.length cap ∧ l.length ≤ maxLen ∧ (l = [] ∨ ∃ b off, a = some ⟨b, off, none⟩ ∧ ∀ i, (h : i < l.length) → w.cell? ⟨b, off + i, none⟩ = some (.bool l[i]))
theorem BoolsAt.ext {w2 : World} {v : Value} {l : List Bool} (h : BoolsAt w v l) (hx : Ext [] w w2) : BoolsAt w2 v l := by
  obtain ⟨a, cap, h1, h2, h3⟩ := h
  refine ⟨a, cap, h1, h2, ?_⟩
  rcases h3 with h3 | ⟨b, off, h3, h4⟩
  · exact .inl h3
  · exact .inr ⟨b, off, h3, fun i hi => hx.cell (h4 i hi) (by simp)⟩
theorem bools_of_trod {fuel : Nat} {v : Value} {x : DataW H × List MemPlace} (h : DataW.trod enc Tryz.prog w base (fun _ => true) held fuel 55 [v] = some x) : ∃ l, BoolsAt w v l := by
  rcases open_bools Tryz.underlying55 Tryz.underlying4 (by kernel_rfl) h with ⟨h0, _⟩ | ⟨a, len, cap, B, hcs, _, hl, hm, _, hat⟩
  · simp only [List.cons.injEq, and_true] at h0
    subst h0
    exact ⟨[], none, 0, rfl, Nat.zero_le _, .inl rfl⟩
  · simp only [List.cons.injEq, and_true] at hcs
    subst hcs
    obtain ⟨b, off, sp⟩ := a
    have hsp : 0 < len → sp = none := fun h0 => by
      have hc := (hat 0 (by omega))
      cases sp with
      | none => rfl
      | some z =>
        have : ((⟨b, off, some z⟩ : Addr).add 0) = ⟨b, off, some z⟩ := by simp [Addr.add]
        rw [this] at hc
        simp [World.cell?] at hc
        split at hc <;> simp at hc
    refine ⟨(List.range len).map B, some ⟨b, off, sp⟩, cap, by simp, by simp; omega, ?_⟩
    by_cases h0 : len = 0
    · subst h0; exact .inl rfl
    · have := hsp (by omega)
      subst this
      refine .inr ⟨b, off, rfl, fun i hi => ?_⟩
      have hi' : i < len := by simpa using hi
      have hc := (hat i (by omega))
      have add : (⟨b, off, none⟩ : Addr).add i = ⟨b, off + i, none⟩ := by unfold Addr.add; split <;> simp_all
      rw [add] at hc
      rw [hc]
      simp
end
end Go.Proofs.YtpclhkjladbooaaGreatDoor
