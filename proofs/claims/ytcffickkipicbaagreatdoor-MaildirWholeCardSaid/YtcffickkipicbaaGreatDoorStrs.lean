/- Slices of strings, and slices.Sort over them. Condition: fewer than 2^62 strings. -/
import Derived.Test.YtcffickkipicbaaGreatDoorBase
import Derived.Test.YtcffickkipicbaaGreatDoorShelf
import Derived.Lib.OwnBridge
set_option linter.unusedSimpArgs false
set_option linter.unusedVariables false
set_option linter.unnecessarySimpa false
namespace Go.Proofs.YtcffickkipicbaaGreatDoor
open Go.RowKit Go.Maps Go.Sort

abbrev Strs (w : World) (v : Value) (l : List Bs) : Prop := w.ownsRow 0 9 1 v l.length (l.map encStr)

theorem encStr_eq (l : Bs) : encStr l = .string ⟨l.toArray⟩ := rfl

theorem bytesBefore_eq : ∀ x y : Bs, bytesBefore x y = decide (x < y)
  | [], [] => by simp [bytesBefore]
  | [], _ :: _ => by simp [bytesBefore]
  | _ :: _, [] => by simp [bytesBefore]
  | a :: r, b :: s => by
    simp only [bytesBefore, bytesBefore_eq r s, List.cons_lt_cons_iff]
    rw [Bool.eq_iff_iff]
    simp

def sortB (l : List Bs) : List Bs := l.mergeSort fun x y => decide (x ≤ y)

theorem sortB_perm {l m : List Bs} (h : l.Perm m) (hm : m.Pairwise fun x y => x ≤ y) : sortB l = m := by
  have tr : ∀ a b c : Bs, decide (a ≤ b) = true → decide (b ≤ c) = true → decide (a ≤ c) = true := fun a b c h1 h2 => by
    simp only [decide_eq_true_eq] at *; exact List.le_trans h1 h2
  have to : ∀ a b : Bs, (decide (a ≤ b) || decide (b ≤ a)) = true := fun a b => by
    simp only [Bool.or_eq_true, decide_eq_true_eq]; exact List.le_total a b
  refine List.Perm.eq_of_pairwise (le := fun a b : Bs => decide (a ≤ b) = true) (fun a b _ _ h1 h2 => ?_) (List.pairwise_mergeSort tr to l) ?_ ((List.mergeSort_perm _ _).trans h)
  · simp only [decide_eq_true_eq] at h1 h2
    exact List.le_antisymm h1 h2
  · simpa using hm

theorem sort_strs (v : Value) (l : List Bs) (w : World) (h : Strs w v l) (hl : l.length < 4611686018427387904) :
    Calls Tryz.prog 55 #[v] w fun r w2 => r = .returned (.tuple #[]) ∧ Strs w2 v (sortB l) ∧ Ext v.ownBlock.toList w w2 := by
  by_cases hv : v = .slice none 0 0
  · subst hv
    have h0 : l = [] := by
      rcases h.2 with ⟨_, h1⟩ | ⟨g, cap, cur, he, _⟩
      · exact List.eq_nil_of_length_eq_zero h1
      · cases he
    subst h0
    refine (Tryz.slices_Sort_string_none none 0 w).mono fun r w2 h2 => ?_
    obtain ⟨rfl, rfl⟩ := h2
    exact ⟨rfl, by simpa [sortB] using h, Ext.refl _ _⟩
  · obtain ⟨g, cap, rfl, _, hg, hn, hm, hz, hH⟩ := Lib.holds_of_ownsRow h hv
    refine (Tryz.slices_Sort_string g 0 cap l w hH hg hl).mono fun r w2 h2 => ?_
    obtain ⟨rfl, n, os, rfl⟩ := h2
    have hlen : (sortB l).length = l.length := by simp [sortB]
    have h3 := Lib.ownsRow_putRow (q := n) h hlen (Nat.le_refl _)
    rw [List.take_of_length_le (by omega)] at h3
    refine ⟨rfl, ?_, ?_⟩
    · have x1 : Ext [] (putRow encStr (Sort.ahead w n) g 0 (sortB l).toArray) (grow (putRow encStr (Sort.ahead w n) g 0 (sortB l).toArray) os) :=
        ⟨rfl, rfl, rfl, by simp, fun k hk _ => heap_grow_old _ _ hk⟩
      have := row_ext h3 x1 (by simp)
      rw [← hlen] at this
      show World.ownsRow _ 0 9 1 _ (sortB l).length ((sortB l).map encStr)
      rw [hlen] at this ⊢
      exact this
    · refine ⟨rfl, rfl, rfl, by simp [Sort.ahead], fun k hk hn => ?_⟩
      rw [heap_grow_old _ _ (by simpa [Sort.ahead] using hk)]
      have hne : g ≠ k := fun e => hn (by simp [Value.ownBlock, e])
      simp only [putRow, mapBlock, Array.getElem?_modify, if_neg hne]
      rfl
end Go.Proofs.YtcffickkipicbaaGreatDoor
