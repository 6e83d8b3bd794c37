/- Bytes in a row of their own, in which a part behind all may be marked: stores, append, back to a text. No condition but that the lengths fit. -/
import Derived.Test.YtpclhkjladbooaaGreatDoorAdW
import Derived.ArgAppend
set_option linter.unusedSimpArgs false
set_option linter.unusedVariables false
set_option linter.unnecessarySimpa false
namespace Go.Proofs.YtpclhkjladbooaaGreatDoor
open Go.RowKit

abbrev bufR (v : Value) (l : Bs) : Res where
  holds := fun F w => ∃ (b cap : Nat) (C : Array Value) (fz : Nat × Nat), v = .slice (some ⟨b, 0, none⟩) l.length cap ∧ F = [b] ∧ w.heap[b]? = some (.cells C 5 fz) ∧ C.size = cap ∧ l.length ≤ cap ∧ cap ≤ maxLen ∧ (∀ (j : Nat) (h : j < l.length), C[j]? = some (bv l[j])) ∧ (cap ≤ fz.1 ∨ fz.2 = 0)
  keeps := fun ⟨b, cap, C, fz, h1, h2, h3, h4⟩ hx hd => ⟨b, cap, C, fz, h1, h2, hx.heap h3 (hd b (by simp [h2])), h4⟩
  inside := fun ⟨b, cap, C, fz, h1, h2, h3, h4⟩ x hx => by rw [h2] at hx; simp at hx; subst hx; exact heap_lt h3
section
variable {w0 w : World} {F0 : List Nat} {L : List Res} {v : Value} {l : Bs} {b cap q n : Nat}
theorem Sp.convBuf (S : Sp w0 F0 w L) (l : Bs) (hl : l.length ≤ 1000000000) : Sp w0 F0 (Lib.bytesWorld w 5 ⟨l.toArray⟩) (bufR (.slice (some ⟨w.heap.size, 0, none⟩) l.length (grownCap w l.length 0 5)) l :: L) := by
  have hge : l.length ≤ grownCap w l.length 0 5 := grownCap_ge w l.length 0 5
  have hsz : (Lib.bytesCells w 5 ⟨l.toArray⟩).size = grownCap w l.length 0 5 := by
    simp [Lib.bytesCells, show (ByteArray.mk l.toArray).size = l.length from rfl]
    omega
  refine S.gain (G := [w.heap.size]) (Grown.bytes w 5 ⟨l.toArray⟩).ext ⟨w.heap.size, _, Lib.bytesCells w 5 ⟨l.toArray⟩, _, rfl, rfl, Lib.bytesWorld_at_new w 5 ⟨l.toArray⟩, hsz, hge, grownCap_le_maxLen w l.length 0 5 (by unfold maxLen; omega), fun j hj => ?_, .inl ?_⟩ (by simp)
  · simp [Lib.bytesCells, Array.getElem?_append, hj]
  · rw [hsz]
    exact Nat.le_refl _
theorem Sp.bufForm (S : Sp w0 F0 w (bufR v l :: L)) : ∃ b cap, v = .slice (some ⟨b, 0, none⟩) l.length cap ∧ l.length ≤ cap ∧ cap ≤ maxLen := by
  obtain ⟨F, ⟨b, cap, C, fz, h1, _, _, _, h5, h6, _⟩, _⟩ := S.take
  exact ⟨b, cap, h1, h5, h6⟩
theorem Sp.bufCell (S : Sp w0 F0 w (bufR (.slice (some ⟨b, 0, none⟩) n cap) l :: L)) (j : Nat) (h : j < l.length) : w.cell? ⟨b, j, none⟩ = some (bv l[j]) := by
  obtain ⟨F, ⟨b, cap, C, fz, h1, _, h3, _, _, _, h7, _⟩, _⟩ := S.take
  cases h1
  simp [World.cell?, h3, h7 j h]
theorem Sp.bufFree (S : Sp w0 F0 w (bufR (.slice (some ⟨b, 0, none⟩) n cap) l :: L)) (j : Nat) (h : j < cap) : w.frozen? ⟨b, j, none⟩ = false := by
  obtain ⟨F, ⟨b, cap, C, fz, h1, _, h3, _, _, _, _, h8⟩, _⟩ := S.take
  cases h1
  simp [World.frozen?, h3]
  omega
theorem Sp.bufSet {l2 : Bs} (S : Sp w0 F0 w (bufR (.slice (some ⟨b, 0, none⟩) n cap) l :: L)) (j : Nat) (h : j < l.length) (c : UInt8) (h2 : l2 = l.set j c) : Sp w0 F0 (w.setCell ⟨b, j, none⟩ (bv c)) (bufR (.slice (some ⟨b, 0, none⟩) n cap) l2 :: L) := by
  subst h2
  obtain ⟨F, ⟨b, cap, C, fz, h1, rfl, h3, h4, h5, h6, h7, h8⟩, hk⟩ := S.take
  cases h1
  refine hk _ _ [b] ⟨b, cap, C.setIfInBounds j (bv c), fz, by simp, rfl, ?_, by simpa using h4, by simpa using h5, h6, fun i hi => ?_, h8⟩ (Moved.of_ext ((Ext.refl _ w).setCell (by simp) _))
  · rw [heap_setCell_same h3]
  · rw [Array.getElem?_setIfInBounds]
    rw [List.length_set] at hi
    by_cases e : j = i
    · subst e
      rw [if_pos rfl, if_pos (by omega)]
      simp
    · rw [if_neg e, h7 i hi, List.getElem_set_ne e]
theorem Sp.bufBack (S : Sp w0 F0 w (bufR v l :: L)) : (convert 56 9 v).run Tryz.prog w = .ok (.string ⟨l.toArray⟩) w := by
  obtain ⟨b, cap, rfl, _, _⟩ := S.bufForm
  exact run_convert_bytes_back w _ _ 5 ⟨b, 0, none⟩ cap l Tryz.underlying56 Tryz.underlying5 Tryz.underlying9 (fun j hj => by
    have hadd : (⟨b, 0, none⟩ : Addr).add j = ⟨b, j, none⟩ := by unfold Addr.add; split <;> simp_all
    rw [hadd]
    exact S.bufCell j hj)
/-- append(v, x): one byte, lying in the box q. -/
theorem Sp.bufAppend (ty : TypeId) (x : UInt8) (hl : l.length ≤ 1000000000) (S : Sp w0 F0 w (boxR q #[bv x] 5 :: bufR v l :: L)) :
    ∃ v2 w2, (Builtin.append_ #[56, 56] ty #[v, .slice (some ⟨q, 0, none⟩) 1 1]).run Tryz.prog w = .ok v2 w2 ∧ Sp w0 F0 w2 (bufR v2 (l ++ [x]) :: L) := by
  obtain ⟨i0, hi0, hz0, hz1, hz2⟩ := info_parts infoByte
  have hq := S.cell 0
  have S2 := S.drop
  have S1 := S.pull1
  obtain ⟨F, ⟨b, cap, C, fz, rfl, rfl, h3, h4, h5, h6, h7, h8⟩, hk⟩ := S2.take
  have hnews : ∀ j u, [bv x][j]? = some u → w.cell? ((⟨q, 0, none⟩ : Addr).add j) = some u := fun j u hj => by
    have : j = 0 := by have := (List.getElem?_eq_some_iff.1 hj).1; simp at this; omega
    subst this
    have hadd : (⟨q, 0, none⟩ : Addr).add 0 = ⟨q, 0, none⟩ := by unfold Addr.add; split <;> simp_all
    rw [hadd, hq, ← hj]
    rfl
  by_cases hroom : l.length + 1 ≤ cap
  · have hr := run_append_room_cells (P := Tryz.prog) w 56 ty 5 i0 Tryz.underlying56 hi0 b 0 l.length cap ⟨q, 0, none⟩ 1 1 [bv x] (by simp [hz1]) hnews (by simp [Value.oneCell']) hroom
      (fun j hj => by
        have : j = 0 := by simp at hj; omega
        subst this
        simp [World.cell?, h3, hz1]
        omega)
      (fun j hj => by
        have : j = 0 := by simp at hj; omega
        subst this
        simp [World.frozen?, h3, hz1]
        omega)
    refine ⟨_, _, hr, ?_⟩
    have he : w.setCells b (0 + l.length * i0.size) [bv x] = w.setCell ⟨b, l.length, none⟩ (bv x) := by
      simp [World.setCells, hz1]
    rw [he]
    refine hk _ _ [b] ⟨b, cap, C.setIfInBounds l.length (bv x), fz, by simp, rfl, ?_, by simpa using h4, by simpa using hroom, h6, fun i hi => ?_, h8⟩ (Moved.of_ext ((Ext.refl _ w).setCell (by simp) _))
    · rw [heap_setCell_same h3]
    · rw [Array.getElem?_setIfInBounds]
      by_cases e : l.length = i
      · subst e
        rw [if_pos rfl, if_pos (by omega)]
        simp
      · have hi' : i < l.length := by simp at hi; omega
        rw [if_neg e, h7 i hi', List.getElem_append_left hi']
  · have holds : ∀ j u, (l.map bv)[j]? = some u → w.cell? ((⟨b, 0, none⟩ : Addr).add j) = some u := fun j u hj => by
      rw [List.getElem?_map] at hj
      cases hm : l[j]? with
      | none => rw [hm] at hj; cases hj
      | some y =>
        rw [hm] at hj
        obtain ⟨hj2, rfl⟩ := List.getElem?_eq_some_iff.1 hm
        have hadd : (⟨b, 0, none⟩ : Addr).add j = ⟨b, j, none⟩ := by unfold Addr.add; split <;> simp_all
        rw [hadd]
        simp only [World.cell?, h3]
        rw [h7 j hj2]
        exact hj
    have hr := run_append_grow (P := Tryz.prog) w 56 ty 5 i0 _ Tryz.underlying56 hi0 hz0 ⟨b, 0, none⟩ l.length cap (l.map bv) (by simp [hz1]) holds ⟨q, 0, none⟩ 1 1 [bv x] (by simp [hz1]) hnews (by omega) (by omega) (growslice_fits (by omega) (by rw [hz2]; omega))
    refine ⟨_, _, hr, ?_⟩
    have hge := grownCap_ge w (l.length + 1) cap 5
    have hlm := grownCap_le_maxLen w (l.length + 1) cap 5 (by unfold maxLen; omega)
    refine S2.drop.gain (G := [w.heap.size]) (((Ext.refl [] w).drew).alloc _) ⟨w.heap.size, _, _, (0, 0), by simp, rfl, heap_alloc_new w.drew _, ?_, by simpa using hge, hlm, fun j hj => ?_, .inr rfl⟩ (by simp)
    · simp only [Array.size_append, List.size_toArray, List.length_map, List.length_cons, List.length_nil, size_zeroCells]
      simp [Value.cells]
      omega
    · simp only [List.length_append, List.length_cons, List.length_nil] at hj
      by_cases e : j < l.length
      · rw [List.getElem_append_left e, Array.getElem?_append_left (by simp; omega), Array.getElem?_append_left (by simpa using e)]
        simp [e]
      · have : j = l.length := by omega
        subst this
        simp [Array.getElem?_append]
end
end Go.Proofs.YtpclhkjladbooaaGreatDoor
