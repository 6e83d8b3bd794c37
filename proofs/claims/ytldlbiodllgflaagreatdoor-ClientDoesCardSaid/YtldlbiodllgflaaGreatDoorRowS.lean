/- Rows of structs as parts: a cell stored. No condition. -/
import Derived.Test.YtldlbiodllgflaaGreatDoorRow0
import Derived.Test.YtldlbiodllgflaaGreatDoorBv
set_option linter.unusedSimpArgs false
set_option linter.unusedVariables false
set_option linter.unnecessarySimpa false
namespace Go.Proofs.YtldlbiodllgflaaGreatDoor
open Go.RowKit

theorem flat_set : ∀ (rs : List (List Value)) (k i j : Nat) (r : List Value) (u : Value), (∀ x ∈ rs, x.length = k) → rs[i]? = some r → j < k → rs.flatten.set (i * k + j) u = (rs.set i (r.set j u)).flatten
  | [], _, _, _, _, _, _, h, _ => by simp at h
  | x :: rs, k, 0, j, r, u, hl, h, hj => by
    simp only [List.getElem?_cons_zero, Option.some.injEq] at h
    subst h
    rw [List.flatten_cons, List.set_cons_zero, List.flatten_cons, Nat.zero_mul, Nat.zero_add, List.set_append_left _ _ (by rw [hl x (by simp)]; exact hj)]
  | x :: rs, k, i + 1, j, r, u, hl, h, hj => by
    simp only [List.getElem?_cons_succ] at h
    have h1 := flat_set rs k i j r u (fun y hy => hl y (by simp [hy])) h hj
    have hx := hl x (by simp)
    rw [List.flatten_cons, List.set_cons_succ, List.flatten_cons, List.set_append_right _ _ (by rw [hx, Nat.add_mul]; omega), hx, ← h1]
    congr 2
    rw [Nat.add_mul]
    omega
theorem flat_len : ∀ (rs : List (List Value)) (k : Nat), (∀ x ∈ rs, x.length = k) → rs.flatten.length = rs.length * k
  | [], k, _ => by simp
  | x :: rs, k, h => by
    rw [List.flatten_cons, List.length_append, flat_len rs k (fun y hy => h y (by simp [hy])), h x (by simp), List.length_cons, Nat.add_mul]
    omega
section
variable {w0 w : World} {F0 : List Nat} {L : List Res} {e k n g cap : Nat}
theorem Sp.rowFree {xs : List Value} (S : Sp w0 F0 w (rowR e k (.slice (some ⟨g, 0, none⟩) n cap) n xs :: L)) (o : Nat) : w.frozen? ⟨g, o, none⟩ = false := by
  rcases S.row.2 with ⟨h, _⟩ | ⟨g2, cap2, cur, h, _, hg, _⟩
  · cases h
  · cases h
    simp [World.frozen?, hg]
theorem Sp.rowLt {xs : List Value} (S : Sp w0 F0 w (rowR e k (.slice (some ⟨g, 0, none⟩) n cap) n xs :: L)) : g < w.heap.size := (S.row.lt g rfl).2
/-- One cell of a row is stored. -/
theorem Sp.rowSet {rs : List (List Value)} (S : Sp w0 F0 w (rowR e k (.slice (some ⟨g, 0, none⟩) n cap) n rs.flatten :: L)) (hl : ∀ x ∈ rs, x.length = k) {i : Nat} {r : List Value} (hr : rs[i]? = some r) {j : Nat} (hj : j < k) (u : Value) :
    Sp w0 F0 (w.setCell ⟨g, i * k + j, none⟩ u) (rowR e k (.slice (some ⟨g, 0, none⟩) n cap) n (rs.set i (r.set j u)).flatten :: L) := by
  obtain ⟨F, ⟨rfl, h⟩, hk⟩ := S.take
  rcases h.2 with ⟨h1, _⟩ | ⟨g2, cap2, cur, h1, h2, h3, h4, h5, h6, h7⟩
  · cases h1
  · cases h1
    refine hk _ _ [g] ⟨rfl, ?_, .inr ⟨g, cap, cur.setIfInBounds (i * k + j) u, rfl, h2, heap_setCell_same h3 u, h4, h5, by simpa using h6, ?_⟩⟩ (Moved.of_ext ((Ext.refl _ w).setCell (by simp [Value.ownBlock]) u))
    · rw [← flat_set rs k i j r u hl hr hj, List.length_set]
      exact h.1
    · rw [← flat_set rs k i j r u hl hr hj, ← h7, Array.toList_setIfInBounds, List.take_set]
end
end Go.Proofs.YtldlbiodllgflaaGreatDoor
