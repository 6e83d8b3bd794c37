/- How texts come as arguments. No condition. -/
import Derived.Test.YtapenolbbofjkaaGreatDoorArgs0
import Derived.Test.YtapenolbbofjkaaGreatDoorTx
import Derived.Lib.SmallJoins
import Derived.Deep.Strs
import Derived.Deep.Grids
set_option linter.unusedSimpArgs false
set_option linter.unusedVariables false
set_option linter.unnecessarySimpa false
namespace Go.Proofs.YtapenolbbofjkaaGreatDoor
open Go.ChangeShapes Go.WideShapes Go.ChangeAt Go.RowKit Go.Deep

section
variable {H : Type} {enc : TypeId × Value → H} {w : World} {base : Nat} {spare : Nat → Bool} {held : Bool}
/-- A slice value that holds texts (an argument). -/
def TextsAt (w : World) (v : Value) (l : List Bs) : Prop := TxAt w v l ∧ ∀ s ∈ l, s.length ≤ maxLen
theorem strs_of_trod {fuel : Nat} {v : Value} {x : DataW H × List MemPlace} (h : DataW.trod enc Tryz.prog w base spare held fuel 22 [v] = some x) : ∃ l, TextsAt w v l := by
  rcases open_strs Tryz.underlying22 Tryz.underlying9 (by kernel_rfl) h with ⟨h0, _⟩ | ⟨a, len, cap, m, Sx, hcs, _, hl, hm, hmm, _, hat⟩
  · simp only [List.cons.injEq, and_true] at h0
    subst h0
    exact ⟨[], TxAt.nil w, by simp⟩
  · simp only [List.cons.injEq, and_true] at hcs
    subst hcs
    have hlm : len ≤ m := by rw [hmm]; split <;> omega
    obtain ⟨b, off, sp⟩ := a
    have hsp : 0 < len → sp = none := fun h0 => by
      have hc := (hat 0 (by omega)).1
      cases sp with
      | none => rfl
      | some z =>
        have : ((⟨b, off, some z⟩ : Addr).add 0) = ⟨b, off, some z⟩ := by simp [Addr.add]
        rw [this] at hc
        simp [World.cell?] at hc
        split at hc <;> simp at hc
    refine ⟨(List.range len).map fun i => (Sx i).data.toList, ⟨some ⟨b, off, sp⟩, cap, by simp, by simpa using ⟨hl, hm⟩, ?_⟩, ?_⟩
    · by_cases h0 : len = 0
      · subst h0; exact .inl rfl
      · have := hsp (by omega)
        subst this
        refine .inr ⟨b, off, rfl, fun i hi => ?_⟩
        have hi' : i < len := by simpa using hi
        have hc := (hat i (by omega)).1
        have add : (⟨b, off, none⟩ : Addr).add i = ⟨b, off + i, none⟩ := by unfold Addr.add; split <;> simp_all
        rw [add] at hc
        rw [hc]
        simp
    · intro s hs
      obtain ⟨i, hi, rfl⟩ := List.mem_map.1 hs
      have hi' := List.mem_range.1 hi
      simpa using (hat i (by omega)).2
end
end Go.Proofs.YtapenolbbofjkaaGreatDoor
