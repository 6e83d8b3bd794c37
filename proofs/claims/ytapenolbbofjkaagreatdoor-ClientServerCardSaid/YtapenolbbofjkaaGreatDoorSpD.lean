/- The contracts of disk, pack and strings.Builder, in the words of parts. Conditions: the lengths fit. -/
import Derived.Test.YtapenolbbofjkaaGreatDoorSp
import Derived.Test.YtapenolbbofjkaaGreatDoorChecked
import Derived.Test.YtapenolbbofjkaaGreatDoorMap
set_option linter.unusedSimpArgs false
set_option linter.unusedVariables false
set_option linter.unnecessarySimpa false
namespace Go.Proofs.YtapenolbbofjkaaGreatDoor
open Go.RowKit Go.Maps

abbrev mapR {V : Type} (k : TypeId) (enc : V → Value) (b : Nat) (M : Mp V) : Res where
  holds := fun F w => F = [b] ∧ MapOf Tryz.prog k enc w b M
  keeps := fun h hx hd => ⟨h.1, h.2.ext hx (hd b (by simp [h.1]))⟩
  inside := fun h x hx => by rw [h.1] at hx; simp at hx; subst hx; exact h.2.lt

section
variable {V : Type} {enc : V → Value} {t k e b : Nat} {w0 w : World} {F0 : List Nat} {L : List Res} {M : Mp V}
theorem Sp.map (S : Sp w0 F0 w (mapR k enc b M :: L)) : MapOf Tryz.prog k enc w b M := by
  obtain ⟨F, ⟨rfl, h⟩, _⟩ := S.take
  exact h
theorem Sp.mapMade (S : Sp w0 F0 w L) (k : TypeId) (enc : V → Value) : Sp w0 F0 (w.alloc (.map #[] 0)) (mapR k enc w.heap.size [] :: L) :=
  S.gain (G := [w.heap.size]) ((Ext.refl [] w).alloc _) ⟨rfl, MapOf.made w⟩ (by simp)
theorem Sp.mapTo {M2 : Mp V} {w2 : World} (S : Sp w0 F0 w (mapR k enc b M :: L)) (h : MapOf Tryz.prog k enc w2 b M2) (hx : Ext [b] w w2) : Sp w0 F0 w2 (mapR k enc b M2 :: L) := by
  obtain ⟨F, ⟨rfl, _⟩, h2⟩ := S.take
  exact h2 _ _ [b] ⟨rfl, h⟩ (Moved.of_ext hx)
theorem Sp.mapPut (S : Sp w0 F0 w (mapR k enc b M :: L)) (hk : Keyed Tryz.prog k) (ht : Tryz.prog.underlying t = some (.map k e)) (hn : M.length < maxLen) {key : Value} {x : Bs} (hx : keyOf Tryz.prog k key = some (.string x)) (v : V) :
    ∃ w2, (Instr.mapUpdate t (.map (some b)) key (enc v)).run Tryz.prog w = .ok () w2 ∧ Sp w0 F0 w2 (mapR k enc b (M.put x v) :: L) ∧ w2.heap.size = w.heap.size := by
  obtain ⟨w2, h1, h2, h3, h4⟩ := S.map.update hk ht hn hx v
  exact ⟨w2, h1, S.mapTo h2 h3, h4⟩
end
section
variable {w0 w w2 : World} {F0 : List Nat} {L : List Res} {T b p : Nat} {l s : Bs}
end
end Go.Proofs.YtapenolbbofjkaaGreatDoor
