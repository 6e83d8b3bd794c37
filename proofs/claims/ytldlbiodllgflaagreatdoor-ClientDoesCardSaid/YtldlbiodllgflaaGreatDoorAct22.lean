/- How numbers and mailboxes come as arguments of the statements of layer 22. No condition. -/
import Derived.Test.YtldlbiodllgflaaGreatDoorActB
import Derived.Test.YtldlbiodllgflaaGreatDoorLawDone
import Derived.ChangeSlices
set_option linter.unusedSimpArgs false
set_option linter.unusedVariables false
set_option linter.unnecessarySimpa false
namespace Go.Proofs.YtldlbiodllgflaaGreatDoor
open Go.ChangeShapes Go.WideShapes Go.ChangeAt Go.RowKit Go.Deep

section
variable {H : Type} {enc : TypeId × Value → H} {w : World} {base : Nat} {spare : Nat → Bool} {held : Bool}
theorem ints_of_trod {fuel : Nat} {v : Value} {x : DataW H × List MemPlace} (h : DataW.trod enc Tryz.prog w base (fun _ => true) held fuel 25 [v] = some x) : ∃ l, Codes22 w v l := by
  rcases Go.ChangeShapes.open_ints Tryz.underlying25 Tryz.underlying3 (by kernel_rfl) h with ⟨h0, _⟩ | ⟨a, len, cap, zs, hcs, _, hl, hm, hzl, _, hat, hwf⟩
  · simp only [List.cons.injEq, and_true] at h0
    subst h0
    exact ⟨[], ⟨none, 0, rfl, .inl rfl⟩, Nat.zero_le _, fun c hc => by cases hc⟩
  · simp only [List.cons.injEq, and_true] at hcs
    subst hcs
    obtain ⟨b, off, sp⟩ := a
    rw [if_pos rfl] at hzl
    have hsp : 0 < len → sp = none := fun h0 => by
      have hc := (hat 0 (by omega))
      cases sp with
      | none => rfl
      | some z =>
        have : ((⟨b, off, some z⟩ : Addr).add 0) = ⟨b, off, some z⟩ := by simp [Addr.add]
        rw [this] at hc
        simp [World.cell?] at hc
        split at hc <;> simp at hc
    have hln : (zs.take len).length = len := by rw [List.length_take]; omega
    refine ⟨zs.take len, ⟨some ⟨b, off, sp⟩, cap, by rw [hln], ?_⟩, by rw [hln]; omega, fun c hc => ?_⟩
    · by_cases h0 : len = 0
      · subst h0; exact .inl (by simp)
      · have := hsp (by omega)
        subst this
        refine .inr ⟨b, off, rfl, fun i hi => ?_⟩
        rw [hln] at hi
        have hc := (hat i (by omega))
        have add : (⟨b, off, none⟩ : Addr).add i = ⟨b, off + i, none⟩ := by unfold Addr.add; split <;> simp_all
        rw [add] at hc
        rw [hc, List.getElem_take]
        congr 2
        rw [List.getD_eq_getElem?_getD, List.getElem?_eq_getElem (by omega)]
        rfl
    · have := hwf c (List.mem_of_mem_take hc)
      simpa [Lit.wf, IntKind.min, IntKind.max, IntKind.signed, IntKind.bits] using this
def BoxT.mb (x : BoxT) : Mb := (x.loc, x.dom)
theorem BoxTsAt.args {v : Value} {l : List BoxT} (h : BoxTsAt w v l) {s : Bs} (hs : s.length ≤ maxLen) : Args22 w v (l.map BoxT.mb) s := by
  obtain ⟨a, cap, rfl, h2, h3, h4⟩ := h
  have e : (l.map BoxT.mb).map Mb.vals = l.map BoxT.vals := by rw [List.map_map]; rfl
  refine ⟨⟨a, cap, by rw [List.length_map], by rw [e]; exact h4⟩, by rw [List.length_map]; exact h2, fun b hb => ?_, hs⟩
  obtain ⟨x, hx, rfl⟩ := List.mem_map.1 hb
  obtain ⟨i, hi, rfl⟩ := List.mem_iff_getElem.1 hx
  exact ⟨(h3 i hi).locL, (h3 i hi).domL⟩
theorem clientDone_walk2 (tv : Value) (l : List BoxT) (body : Bs) (cv : Value) (codes : List Int) (w : World) (E : Env w) (A : BoxTsAt w tv l) (hb : body.length ≤ maxLen) (I : Codes22 w cv codes) :
    Calls Tryz.prog 4 #[tv, .string ⟨body.toArray⟩, cv] w fun e w2 => e = .returned (.bool true) ∧ Ext [] w w2 := clientDone_walk tv _ body cv codes w E (A.args hb) I
end
end Go.Proofs.YtldlbiodllgflaaGreatDoor
