/- entry: what entries and their recipients are in memory. No condition. -/
import Derived.Test.YtkenacggjffjnaaGreatDoorEnP
import Derived.Test.YtkenacggjffjnaaGreatDoorAdW
import Derived.Test.YtkenacggjffjnaaGreatDoorSpD
import Derived.Test.YtkenacggjffjnaaGreatDoorArgs0
set_option linter.unusedSimpArgs false
set_option linter.unusedVariables false
set_option linter.unnecessarySimpa false
namespace Go.Proofs.YtkenacggjffjnaaGreatDoor
open Go.RowKit

/-! ### rows -/
theorem infoTo : (Tryz.prog.info? 62).map (fun i => (i.zero, i.size, i.bytes)) = some (some (.agg #[.string ⟨#[]⟩, .string ⟨#[]⟩, .int .i64 0]), 3, 40) := by kernel_rfl
def Rcp.vals (x : Rcp) : List Value := [.string ⟨x.1.1.toArray⟩, .string ⟨x.1.2.toArray⟩, .int .i64 x.2]
theorem rcpVals_len (l : List Rcp) : ∀ x ∈ l.map Rcp.vals, x.length = 3 := fun x hx => by
  obtain ⟨r, _, rfl⟩ := List.mem_map.1 hx
  rfl
/-- A slice value that holds recipients, in blocks of its own. -/
abbrev tosR (v : Value) (l : List Rcp) : Res := rowR 62 3 v l.length (l.map Rcp.vals).flatten
/-- A slice value that holds recipients, only read. -/
def TosAt (w : World) (v : Value) (l : List Rcp) : Prop := ∃ a cap, v = .slice a l.length cap ∧ RowsAt w a 3 (l.map Rcp.vals)
theorem TosAt.ext {w w2 : World} {v : Value} {l : List Rcp} (h : TosAt w v l) (hx : Ext [] w w2) : TosAt w2 v l := by
  obtain ⟨a, cap, h1, h2⟩ := h
  exact ⟨a, cap, h1, h2.ext hx⟩
theorem TosAt.form {w : World} {v : Value} {l : List Rcp} (h : TosAt w v l) : ∃ a cap, v = .slice a l.length cap := by
  obtain ⟨a, cap, h1, _⟩ := h
  exact ⟨a, cap, h1⟩
theorem TosAt.at {w : World} {a : Option Addr} {n cap : Nat} {l : List Rcp} (h : TosAt w (.slice a n cap) l) {i : Nat} (hi : i < l.length) : ∃ b off, a = some ⟨b, off, none⟩ ∧ w.cell? ⟨b, off + i * 3, none⟩ = some (.string ⟨l[i].1.1.toArray⟩) ∧ w.cell? ⟨b, off + i * 3 + 1, none⟩ = some (.string ⟨l[i].1.2.toArray⟩) ∧ w.cell? ⟨b, off + i * 3 + 2, none⟩ = some (.int .i64 l[i].2) := by
  obtain ⟨a2, cap2, h1, h2⟩ := h
  cases h1
  obtain ⟨b, off, rfl⟩ := h2.addr (i := i) (by simpa using hi)
  have hr : (l.map Rcp.vals)[i]? = some (Rcp.vals l[i]) := by rw [List.getElem?_map, List.getElem?_eq_getElem hi]; rfl
  exact ⟨b, off, rfl, h2.at i _ hr 0 _ rfl, h2.at i _ hr 1 _ rfl, h2.at i _ hr 2 _ rfl⟩
theorem TosAt.nil (w : World) : TosAt w (.slice none 0 0) [] := ⟨none, 0, rfl, .inl rfl⟩

/-- An entry as a value: its recipients lie at v. -/
def enAgg (e : En) (v : Value) : Value := .agg #[.int .u64 e.id, .string ⟨e.dom.toArray⟩, .int .u64 e.ep, .int .u64 e.cnt, .string ⟨e.frm.1.toArray⟩, .string ⟨e.frm.2.toArray⟩, v, .int .u64 e.born, .int .u64 e.nxt, .int .i64 e.tries]
def enCells (e : En) (v : Value) : Array Value := #[.int .u64 e.id, .string ⟨e.dom.toArray⟩, .int .u64 e.ep, .int .u64 e.cnt, .string ⟨e.frm.1.toArray⟩, .string ⟨e.frm.2.toArray⟩, v, .int .u64 e.born, .int .u64 e.nxt, .int .i64 e.tries]
/-- An entry that is only read. -/
structure EnAt (w : World) (e : En) (v : Value) : Prop where
  fit : e.Fit
  tos : TosAt w v e.rcs
theorem EnAt.ext {w w2 : World} {e : En} {v : Value} (h : EnAt w e v) (hx : Ext [] w w2) : EnAt w2 e v := ⟨h.fit, h.tos.ext hx⟩
theorem En.zero_fit : En.zero.Fit := ⟨by decide, by decide, by decide, by decide, by decide, by decide, by decide, by decide, by decide, by intro x hx; cases hx⟩
theorem EnAt.zero (w : World) : EnAt w En.zero (.slice none 0 0) := ⟨En.zero_fit, TosAt.nil w⟩

section
variable {w0 w : World} {F0 : List Nat} {L : List Res} {b : Nat} {v : Value} {l : List Rcp}
theorem Sp.tosNil (S : Sp w0 F0 w L) : Sp w0 F0 w (tosR (.slice none 0 0) [] :: L) := S.rowNil 62 3
theorem Sp.appendTo (ty : TypeId) (r : Rcp) (hn : l.length < 10000000000) (S : Sp w0 F0 w (boxR b r.vals.toArray 62 :: tosR v l :: L)) :
    ∃ g cap w2, (Builtin.append_ #[25, 25] ty #[v, .slice (some ⟨b, 0, none⟩) 1 1]).run Tryz.prog w = .ok (.slice (some ⟨g, 0, none⟩) (l.length + 1) cap) w2 ∧ Sp w0 F0 w2 (tosR (.slice (some ⟨g, 0, none⟩) (l.length + 1) cap) (l ++ [r]) :: L) := by
  obtain ⟨g, cap, w2, h1, S2⟩ := Sp.appendOne 25 ty r.vals.toArray _ 40 infoTo rfl Tryz.underlying25 (by decide) (by decide) rfl (by simp [Rcp.vals, Value.oneCell']) hn S
  refine ⟨g, cap, w2, h1, ?_⟩
  have e1 : ((l ++ [r]).map Rcp.vals).flatten = (l.map Rcp.vals).flatten ++ r.vals := by simp
  have e2 : (l ++ [r]).length = l.length + 1 := by simp
  unfold tosR
  rw [e1, e2]
  exact S2.drop
theorem Sp.tosAt (S : Sp w0 F0 w (tosR v l :: L)) : TosAt w v l := by
  rcases S.rowForm with ⟨rfl, h0⟩ | ⟨g, cap, rfl⟩
  · obtain rfl := List.eq_nil_of_length_eq_zero h0
    exact TosAt.nil w
  · refine ⟨_, cap, rfl, .inr ⟨g, 0, rfl, fun i r hr j x hx => ?_⟩⟩
    have := S.rowCell (rcpVals_len l) hr hx
    simpa using this
/-- A call that writes nothing old, in words of parts. -/
theorem Calls.sp {f : FuncId} {args : Array Value} {P : Ending → Prop} (h : Calls Tryz.prog f args w fun e w2 => P e ∧ Ext [] w w2) (S : Sp w0 F0 w L) : Calls Tryz.prog f args w fun e w2 => P e ∧ Sp w0 F0 w2 L :=
  h.mono fun _ _ ⟨h1, h2⟩ => ⟨h1, S.ext0 h2⟩
end
end Go.Proofs.YtkenacggjffjnaaGreatDoor
