/- How the statements' arguments come: slices of acts; and how a statement is shut once its walk is proved. No condition. -/
import Derived.Test.YtngbmofocochaaaRows
import Derived.Test.YtngbmofocochaaaAwake
import Derived.ProofKit
import Derived.OpenShut
import Derived.ShutString
import Derived.ChangeOld
import Derived.ChangeSame
import Derived.Deep.Slices
import Derived.Deep.Fields
namespace Go.Proofs.Ytngbmofocochaaa
open Go.ChangeShapes Go.WideShapes Go.ChangeAt Go.RowKit Go.Deep
open Go.ChangeMaps (open_string shut_string)

theorem ownNone : ownKnob Try.prog.godebug = none := by kernel_rfl
theorem laidOut : laidOutB Try.prog = true := by kernel_rfl

section
variable {H : Type} {enc : TypeId × Value → H} {P : Program} {w : World} {base : Nat} {spare : Nat → Bool} {held : Bool}
theorem open_slice_fields {t e : TypeId} {fs : Array Field} {fuel : Nat} {cs : List Value} {x : DataW H × List MemPlace} (ht : P.underlying t = some (.slice e)) (he : P.underlying e = some (.struct fs))
    (hone : oneCellFields P fs = true) (hC : P.cellsOf e = fs.size) (h : DataW.trod enc P w base spare held fuel t cs = some x) :
    (cs = [.slice none 0 0]) ∨
    ∃ (a : Addr) (len cap : Nat), cs = [.slice (some a) len cap] ∧ len ≤ cap ∧ cap ≤ maxLen ∧
      ∀ i, i < len → ∃ (ys : List (DataW H × List MemPlace)) (n : Nat), ys.length = fs.size ∧
        ∀ (j : Nat) (f : Field), fs[j]? = some f → ∃ (v : Value) (y : DataW H × List MemPlace), w.cell? (a.add (i * fs.size + j)) = some v ∧ DataW.trod enc P w base spare held n f.type [v] = some y := by
  rcases open_slice ht h with h0 | ⟨a, len, cap, m, n, D, Pl, hcs, hb, hl, hm, hmm, hx, hi⟩
  · exact .inl h0.1
  · refine .inr ⟨a, len, cap, hcs, hl, hm, fun i him => ?_⟩
    obtain ⟨cs', hc, ht'⟩ := hi i (by rw [hmm]; split <;> omega)
    rw [hC] at hc
    obtain ⟨ys, n', hn', hy, hlen, hyl, hf⟩ := DataW.trod_struct he ht'
    obtain ⟨_, hcl, hat⟩ := World.cells?_some hc
    refine ⟨ys, n', hyl, fun j f hj => ?_⟩
    obtain ⟨ho, hk⟩ := hone_of hone j f hj
    have hjl : j < fs.size := (Array.getElem?_eq_some_iff.1 hj).1
    have hcell := hat j hjl
    have hv : cs'[j]? = some (cs'[j]'(by omega)) := List.getElem?_eq_getElem (by omega)
    have h1 := hf j f hj
    rw [ho, hk] at h1
    have hone' : (cs'.drop j).take 1 = [cs'[j]'(by omega)] := by
      rw [List.drop_eq_getElem_cons (by omega)]
      rfl
    rw [hone'] at h1
    have hys : ys[j]? = some (ys[j]'(by omega)) := List.getElem?_eq_getElem (by omega)
    refine ⟨_, _, ?_, h1.trans hys⟩
    rw [← Go.Deep.add_add, hcell, hv]
end

/-- An act's numbers are ints, its texts as long as texts may be. -/
structure Act11.Wf (x : Act11) : Prop where
  k1 : -9223372036854775808 ≤ x.kind
  k2 : x.kind ≤ 9223372036854775807
  n1 : -9223372036854775808 ≤ x.n
  n2 : x.n ≤ 9223372036854775807
  a : x.a.length ≤ maxLen
  b : x.b.length ≤ maxLen

/-- A slice value that holds acts. -/
def ActsAt (w : World) (v : Value) (l : List Act11) : Prop :=
  (l = [] ∧ ∃ a cap, v = .slice a 0 cap) ∨
  ∃ b off cap, v = .slice (some ⟨b, off, none⟩) l.length cap ∧ l.length ≤ maxLen ∧ ∀ i, (h : i < l.length) → l[i].Wf ∧ w.cell? ⟨b, off + i * 4, none⟩ = some (.int .i64 l[i].kind) ∧ w.cell? ⟨b, off + i * 4 + 1, none⟩ = some (.int .i64 l[i].n) ∧
    w.cell? ⟨b, off + i * 4 + 2, none⟩ = some (.string ⟨l[i].a.toArray⟩) ∧ w.cell? ⟨b, off + i * 4 + 3, none⟩ = some (.string ⟨l[i].b.toArray⟩)

theorem acts_of_trod {H : Type} {enc : TypeId × Value → H} {w : World} {base : Nat} {spare : Nat → Bool} {held : Bool} {fuel : Nat} {v : Value} {x : DataW H × List MemPlace} (h : DataW.trod enc Try.prog w base spare held fuel 22 [v] = some x) :
    ∃ l, ActsAt w v l := by
  rcases open_slice_fields Try.underlying22 Try.underlying27 (by kernel_rfl) (by kernel_rfl) h with h0 | ⟨a, len, cap, hcs, hl, hm, hi⟩
  · simp only [List.cons.injEq, and_true] at h0
    exact ⟨[], .inl ⟨rfl, none, 0, h0⟩⟩
  · simp only [List.cons.injEq, and_true] at hcs
    subst hcs
    by_cases h0 : len = 0
    · subst h0
      exact ⟨[], .inl ⟨rfl, _, _, rfl⟩⟩
    · have hx : ∀ i, i < len → ∃ y : Act11, y.Wf ∧ w.cell? (a.add (i * 4)) = some (.int .i64 y.kind) ∧ w.cell? (a.add (i * 4 + 1)) = some (.int .i64 y.n) ∧
          w.cell? (a.add (i * 4 + 2)) = some (.string ⟨y.a.toArray⟩) ∧ w.cell? (a.add (i * 4 + 3)) = some (.string ⟨y.b.toArray⟩) := by
        intro i hil
        obtain ⟨ys, n, hys, hf⟩ := hi i hil
        obtain ⟨v0, y0, c0, t0⟩ := hf 0 _ rfl
        obtain ⟨v1, y1, c1, t1⟩ := hf 1 _ rfl
        obtain ⟨v2, y2, c2, t2⟩ := hf 2 _ rfl
        obtain ⟨v3, y3, c3, t3⟩ := hf 3 _ rfl
        obtain ⟨k, e0, _, wk⟩ := DataW.trod_int Try.underlying3 t0
        obtain ⟨nn, e1, _, wn⟩ := DataW.trod_int Try.underlying3 t1
        obtain ⟨s, e2, _, ws⟩ := DataW.trod_string Try.underlying9 t2
        obtain ⟨r, e3, _, wr⟩ := DataW.trod_string Try.underlying9 t3
        simp only [List.cons.injEq, and_true] at e0 e1 e2 e3
        subst e0 e1 e2 e3
        have bk : -9223372036854775808 ≤ k ∧ k ≤ 9223372036854775807 := by simpa [Lit.wf, IntKind.min, IntKind.max, IntKind.signed, IntKind.bits] using wk
        have bn : -9223372036854775808 ≤ nn ∧ nn ≤ 9223372036854775807 := by simpa [Lit.wf, IntKind.min, IntKind.max, IntKind.signed, IntKind.bits] using wn
        exact ⟨⟨k, nn, s.data.toList, r.data.toList⟩, ⟨bk.1, bk.2, bn.1, bn.2, by simpa using ws, by simpa using wr⟩, c0, c1, c2, c3⟩
      obtain ⟨b, off, sp⟩ := a
      have hsp : sp = none := by
        obtain ⟨y, _, hc, _⟩ := hx 0 (by omega)
        cases sp with
        | none => rfl
        | some z =>
          have : ((⟨b, off, some z⟩ : Addr).add (0 * 4)) = ⟨b, off, some z⟩ := by simp [Addr.add]
          rw [this] at hc
          simp [World.cell?] at hc
          split at hc <;> simp at hc
      subst hsp
      have add : ∀ z, (⟨b, off, none⟩ : Addr).add z = ⟨b, off + z, none⟩ := fun z => by unfold Addr.add; split <;> simp_all
      have : Inhabited Act11 := ⟨⟨0, 0, [], []⟩⟩
      obtain ⟨f, hfx⟩ := choose_lt hx
      refine ⟨(List.range len).map f, .inr ⟨b, off, cap, by simp, by simp; omega, fun i hil => ?_⟩⟩
      have hi' : i < len := by simpa using hil
      have := hfx i hi'
      simp only [add] at this
      simp only [List.getElem_map, List.getElem_range]
      rw [show off + i * 4 + 1 = off + (i * 4 + 1) by omega, show off + i * 4 + 2 = off + (i * 4 + 2) by omega, show off + i * 4 + 3 = off + (i * 4 + 3) by omega]
      exact this

/-- The act of index i, in a world in which nothing old was written. -/
structure ActAt (w : World) (a : Option Addr) (l : List Act11) (i : Nat) (x : Act11) : Prop where
  wf : x.Wf
  len : l.length ≤ maxLen
  at' : ∃ b off, a = some ⟨b, off, none⟩ ∧ w.cell? ⟨b, off + i * 4, none⟩ = some (.int .i64 x.kind) ∧ w.cell? ⟨b, off + i * 4 + 1, none⟩ = some (.int .i64 x.n) ∧ w.cell? ⟨b, off + i * 4 + 2, none⟩ = some (.string ⟨x.a.toArray⟩) ∧ w.cell? ⟨b, off + i * 4 + 3, none⟩ = some (.string ⟨x.b.toArray⟩)

theorem acts_view {w : World} {v : Value} {l : List Act11} (ha : ActsAt w v l) : ∃ a cap, v = .slice a l.length cap ∧ ∀ w2, Ext [] w w2 → ∀ i, (h : i < l.length) → ActAt w2 a l i l[i] := by
  rcases ha with ⟨rfl, a, cap, rfl⟩ | ⟨b, off, cap, rfl, hl, hc⟩
  · exact ⟨a, cap, rfl, fun _ _ i h => absurd h (Nat.not_lt_zero _)⟩
  · refine ⟨_, _, rfl, fun w2 hx i h => ⟨(hc i h).1, hl, b, off, rfl, ?_⟩⟩
    obtain ⟨_, c0, c1, c2, c3⟩ := hc i h
    exact ⟨hx.cell c0 (by simp), hx.cell c1 (by simp), hx.cell c2 (by simp), hx.cell c3 (by simp)⟩

/-! ### the methods that only look, of a disk that lives -/
section
variable {w0 w : World} {p : Nat} {F : List Nat} {D : Dk}
theorem dead_l (h : Hid (Lives w0 w p F D)) : Calls Try.prog 18 #[.pointer (some ⟨p, 0, none⟩)] w fun e w2 => e = .returned (.bool D.dead) ∧ w = w2 := dead_any p F D w h.out.disk
theorem pending_l (h : Hid (Lives w0 w p F D)) : Calls Try.prog 15 #[.pointer (some ⟨p, 0, none⟩)] w fun e w2 => e = .returned (.int .i64 D.pend.length) ∧ w = w2 := pending_any p F D w h.out.disk
theorem trace_l (h : Hid (Lives w0 w p F D)) (hs : Hid D.Small) : Calls Try.prog 12 #[.pointer (some ⟨p, 0, none⟩)] w fun e w2 => ∃ a c, e = .returned (.slice a D.trace.length c) ∧ Hid (Lives w0 w2 p F D) ∧ Hid (Ext [] w w2) := by
  refine (trace_any p F D w h.out.disk hs.out.trace).mono ?_
  rintro r w4 ⟨vt, rfl, ht4, hx4, hv4⟩
  rcases ht4.2 with ⟨rfl, h0⟩ | ⟨g, cap, cur, rfl, _⟩
  · exact ⟨none, 0, by rw [h0], h.out.more hx4, hx4⟩
  · exact ⟨_, _, rfl, h.out.more hx4, hx4⟩
theorem size_l (h : Hid (Lives w0 w p F D)) (hs : Hid D.Small) : Calls Try.prog 19 #[.pointer (some ⟨p, 0, none⟩)] w fun e w2 => e = .returned (.int .i64 D.now.bytes) ∧ Hid (Lives w0 w2 p F D) ∧ Hid (Ext [] w w2) := by
  refine (size_any p F D w h.out.disk (by have := hs.out.bytes; omega)).mono ?_
  rintro r w4 ⟨rfl, hx⟩
  exact ⟨rfl, h.out.more hx, hx⟩
end
end Go.Proofs.Ytngbmofocochaaa
