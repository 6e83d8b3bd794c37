/- How a statement's arguments come: slices of structs of one-cell fields, slices of texts; what shuts a statement. No condition. -/
import Derived.Test.YtcffickkipicbaaGreatDoorRows
import Derived.Test.YtcffickkipicbaaGreatDoorBase
import Derived.ProofKit
import Derived.OpenShut
import Derived.ShutString
import Derived.ChangeOld
import Derived.ChangeSame
import Derived.Deep.Slices
import Derived.Deep.Fields
set_option linter.unusedSimpArgs false
set_option linter.unusedVariables false
set_option linter.unnecessarySimpa false
namespace Go.Proofs.YtcffickkipicbaaGreatDoor
open Go.ChangeShapes Go.WideShapes Go.ChangeAt Go.RowKit Go.Deep
open Go.ChangeMaps (open_string shut_string)

theorem ownNone : ownKnob Tryz.prog.godebug = none := by kernel_rfl
theorem laidOut : laidOutB Tryz.prog = true := by kernel_rfl

/-- From address a on lie rows of k cells each. -/
def RowsAt (w : World) (a : Option Addr) (k : Nat) (rows : List (List Value)) : Prop := rows = [] ∨ ∃ b off, a = some ⟨b, off, none⟩ ∧ ∀ i r, rows[i]? = some r → ∀ j v, r[j]? = some v → w.cell? ⟨b, off + i * k + j, none⟩ = some v
theorem RowsAt.ext {w w2 : World} {a : Option Addr} {k : Nat} {rows : List (List Value)} (h : RowsAt w a k rows) (hx : Ext [] w w2) : RowsAt w2 a k rows := by
  rcases h with h | ⟨b, off, h1, h2⟩
  · exact .inl h
  · exact .inr ⟨b, off, h1, fun i r hr j v hv => hx.cell (h2 i r hr j v hv) (by simp)⟩
theorem RowsAt.at {w : World} {b off k : Nat} {rows : List (List Value)} (h : RowsAt w (some ⟨b, off, none⟩) k rows) (i : Nat) (r : List Value) (hr : rows[i]? = some r) (j : Nat) (v : Value) (hv : r[j]? = some v) : w.cell? ⟨b, off + i * k + j, none⟩ = some v := by
  rcases h with rfl | ⟨b', off', h1, h2⟩
  · cases hr
  · simp only [Option.some.injEq, Addr.mk.injEq, and_true] at h1
    obtain ⟨rfl, rfl⟩ := h1
    exact h2 i r hr j v hv
theorem RowsAt.addr {w : World} {a : Option Addr} {k : Nat} {rows : List (List Value)} (h : RowsAt w a k rows) {i : Nat} (hi : i < rows.length) : ∃ b off, a = some ⟨b, off, none⟩ := by
  rcases h with rfl | ⟨b, off, h1, _⟩
  · cases hi
  · exact ⟨b, off, h1⟩

section
variable {H : Type} {enc : TypeId × Value → H} {P : Program} {w : World} {base : Nat} {spare : Nat → Bool} {held : Bool}
theorem open_slice_fields {t e : TypeId} {fs : Array Field} {fuel : Nat} {cs : List Value} {x : DataW H × List MemPlace} (ht : P.underlying t = some (.slice e)) (he : P.underlying e = some (.struct fs))
    (hone : oneCellFields P fs = true) (hC : P.cellsOf e = fs.size) (h : DataW.trod enc P w base spare held fuel t cs = some x) :
    (cs = [.slice none 0 0]) ∨
    ∃ (a : Addr) (len cap : Nat), cs = [.slice (some a) len cap] ∧ len ≤ cap ∧ cap ≤ maxLen ∧
      ∀ i, i < len → ∃ (ys : List (DataW H × List MemPlace)) (n : Nat), ys.length = fs.size ∧
        ∀ (j : Nat) (f : Field), fs[j]? = some f → ∃ (v : Value) (y : DataW H × List MemPlace), w.cell? (a.add (i * fs.size + j)) = some v ∧ DataW.trod enc P w base spare held n f.type [v] = some y := by
  rcases open_slice ht h with h0 | ⟨a, len, cap, m, n, D, Pl, hcs, hb, hl, hm, hmm, hx, hi⟩
  · exact .inl h0.1
  · refine .inr ⟨a, len, cap, hcs, hl, hm, fun i him => ?_⟩
    obtain ⟨cs', hc, ht'⟩ := hi i (by rw [hmm]; split <;> omega)
    rw [hC] at hc
    obtain ⟨ys, n', hn', hy, hlen, hyl, hf⟩ := DataW.trod_struct he ht'
    obtain ⟨_, hcl, hat⟩ := World.cells?_some hc
    refine ⟨ys, n', hyl, fun j f hj => ?_⟩
    obtain ⟨ho, hk⟩ := hone_of hone j f hj
    have hjl : j < fs.size := (Array.getElem?_eq_some_iff.1 hj).1
    have hcell := hat j hjl
    have hv : cs'[j]? = some (cs'[j]'(by omega)) := List.getElem?_eq_getElem (by omega)
    have h1 := hf j f hj
    rw [ho, hk] at h1
    have hone' : (cs'.drop j).take 1 = [cs'[j]'(by omega)] := by
      rw [List.drop_eq_getElem_cons (by omega)]
      rfl
    rw [hone'] at h1
    have hys : ys[j]? = some (ys[j]'(by omega)) := List.getElem?_eq_getElem (by omega)
    refine ⟨_, _, ?_, h1.trans hys⟩
    rw [← Go.Deep.add_add, hcell, hv]

/-- What all rows of a slice are, once each is known. -/
theorem rows_all {α : Type} {a : Addr} {len k : Nat} (vals : α → List Value) (wf : α → Prop) (hvl : ∀ x, (vals x)[0]?.isSome = true) (d : α)
    (hx : ∀ i, i < len → ∃ y : α, wf y ∧ ∀ j u, (vals y)[j]? = some u → w.cell? (a.add (i * k + j)) = some u) (h0 : 0 < len) :
    ∃ l : List α, l.length = len ∧ (∀ i, (h : i < l.length) → wf l[i]) ∧ RowsAt w (some a) k (l.map vals) := by
  obtain ⟨b, off, sp⟩ := a
  have hsp : sp = none := by
    obtain ⟨y, _, hc⟩ := hx 0 h0
    obtain ⟨u, hu⟩ := Option.isSome_iff_exists.1 (hvl y)
    have hc := hc 0 u hu
    cases sp with
    | none => rfl
    | some z =>
      have : ((⟨b, off, some z⟩ : Addr).add (0 * k + 0)) = ⟨b, off, some z⟩ := by simp [Addr.add]
      rw [this] at hc
      simp [World.cell?] at hc
      split at hc <;> simp at hc
  subst hsp
  have add : ∀ z, (⟨b, off, none⟩ : Addr).add z = ⟨b, off + z, none⟩ := fun z => by unfold Addr.add; split <;> simp_all
  have : Inhabited α := ⟨d⟩
  obtain ⟨f, hfx⟩ := choose_lt hx
  refine ⟨(List.range len).map f, by simp, fun i hil => ?_, .inr ⟨b, off, rfl, fun i r hr j v hv => ?_⟩⟩
  · have hi' : i < len := by simpa using hil
    simpa using (hfx i hi').1
  · simp only [List.getElem?_map, Option.map_eq_some_iff] at hr
    obtain ⟨x, ⟨q, hq, rfl⟩, rfl⟩ := hr
    obtain ⟨hq1, hq2⟩ := List.getElem?_eq_some_iff.1 hq
    simp only [List.getElem_range] at hq2
    subst hq2
    have := (hfx i (by simpa using hq1)).2 j v hv
    rw [add] at this
    rw [show off + i * k + j = off + (i * k + j) by omega]
    exact this
theorem rows_of_trod {α : Type} {t e : TypeId} {fs : Array Field} {fuel : Nat} {v : Value} {x : DataW H × List MemPlace} (ht : P.underlying t = some (.slice e)) (he : P.underlying e = some (.struct fs))
    (hone : oneCellFields P fs = true) (hC : P.cellsOf e = fs.size) (h : DataW.trod enc P w base spare held fuel t [v] = some x) (vals : α → List Value) (wf : α → Prop) (k : Nat) (hk : fs.size = k)
    (hrow : ∀ (a : Addr) (i : Nat), (∀ (j : Nat) (f : Field), fs[j]? = some f → ∃ (v : Value) (y : DataW H × List MemPlace) (n : Nat), w.cell? (a.add (i * k + j)) = some v ∧ DataW.trod enc P w base spare held n f.type [v] = some y) → ∃ y : α, wf y ∧ ∀ j u, (vals y)[j]? = some u → w.cell? (a.add (i * k + j)) = some u)
    (d : α) (hvl : ∀ x, (vals x)[0]?.isSome = true := by intro _; rfl) : ∃ l : List α, ∃ a cap, v = .slice a l.length cap ∧ l.length ≤ maxLen ∧ (∀ i, (h : i < l.length) → wf l[i]) ∧ RowsAt w a k (l.map vals) := by
  subst hk
  rcases open_slice_fields ht he hone hC h with h0 | ⟨a, len, cap, hcs, hl, hm, hi⟩
  · simp only [List.cons.injEq, and_true] at h0
    exact ⟨[], none, 0, h0, Nat.zero_le _, (fun i h => absurd h (Nat.not_lt_zero i)), .inl rfl⟩
  · simp only [List.cons.injEq, and_true] at hcs
    subst hcs
    by_cases h0 : len = 0
    · subst h0
      exact ⟨[], _, _, rfl, Nat.zero_le _, (fun i h => absurd h (Nat.not_lt_zero i)), .inl rfl⟩
    · obtain ⟨l, h1, h2, h3⟩ := rows_all vals wf hvl d (fun i hil => hrow a i (fun j f hj => by
        obtain ⟨ys, n, _, hf⟩ := hi i hil
        obtain ⟨u, y, c, tr⟩ := hf j f hj
        exact ⟨u, y, n, c, tr⟩)) (by omega)
      exact ⟨l, some a, cap, by rw [h1], by omega, h2, h3⟩
end
end Go.Proofs.YtcffickkipicbaaGreatDoor
