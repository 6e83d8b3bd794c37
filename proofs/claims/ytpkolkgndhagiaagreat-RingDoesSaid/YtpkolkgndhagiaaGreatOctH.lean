/- octet: High. Conditions: lengths fit. -/
import Derived.Test.YtpkolkgndhagiaaGreatOct
import Derived.Test.YtpkolkgndhagiaaGreatDiskB
set_option linter.unusedSimpArgs false
set_option linter.unusedVariables false
set_option linter.unnecessarySimpa false
namespace Go.Proofs.YtpkolkgndhagiaaGreat
open Go.RowKit Go.Maps

/-- The list with its first k and its last k exchanged in mirror. -/
def swapped (l : Bs) (k : Nat) : Bs := (List.range l.length).map fun i => if i < k ∨ l.length - k ≤ i then l.getD (l.length - 1 - i) 0 else l.getD i 0
theorem swapped_length (l : Bs) (k : Nat) : (swapped l k).length = l.length := by simp [swapped]
theorem swapped_get (l : Bs) (k i : Nat) (h : i < l.length) : (swapped l k)[i]? = some (if i < k ∨ l.length - k ≤ i then l.getD (l.length - 1 - i) 0 else l.getD i 0) := by
  simp [swapped, h]
theorem swapped_zero (l : Bs) : swapped l 0 = l := by
  apply List.ext_getElem?
  intro i
  by_cases h : i < l.length
  · rw [swapped_get _ _ _ h, if_neg (by omega)]
    simp [h]
  · rw [List.getElem?_eq_none (by rw [swapped_length]; omega), List.getElem?_eq_none (by omega)]
theorem swapped_half (l : Bs) : swapped l (l.length / 2) = l.reverse := by
  apply List.ext_getElem?
  intro i
  by_cases h : i < l.length
  · rw [swapped_get _ _ _ h, List.getElem?_reverse h]
    split
    · simp only [List.getD_eq_getElem?_getD]; rw [List.getElem?_eq_getElem (by omega)]; simp
    · have : l.length - 1 - i = i := by omega
      rw [this]
      simp [h]
  · rw [List.getElem?_eq_none (by rw [swapped_length]; omega), List.getElem?_eq_none (by simp; omega)]
theorem swapped_step (l : Bs) (k : Nat) (h : k < l.length / 2) :
    ((rowB (swapped l k)).setIfInBounds k (bv (l.getD (l.length - 1 - k) 0))).setIfInBounds (l.length - 1 - k) (bv (l.getD k 0)) = rowB (swapped l (k + 1)) := by
  apply Array.ext_getElem?
  intro i
  rw [Array.getElem?_setIfInBounds, Array.getElem?_setIfInBounds, rowB_get, rowB_get]
  simp only [Array.size_setIfInBounds]
  have hsz : (rowB (swapped l k)).size = l.length := by simp [rowB, swapped_length]
  rw [hsz]
  by_cases hi : i < l.length
  · rw [swapped_get _ _ _ hi, swapped_get _ _ _ hi]
    by_cases h1 : l.length - 1 - k = i
    · rw [if_pos h1, if_pos (by omega), if_pos (by omega), show l.length - 1 - i = k by omega]
      rfl
    · rw [if_neg h1]
      by_cases h2 : k = i
      · subst h2
        rw [if_pos rfl, if_pos hi, if_pos (by omega)]
        rfl
      · rw [if_neg h2]
        by_cases h3 : i < k ∨ l.length - k ≤ i
        · rw [if_pos h3, if_pos (by omega)]
        · rw [if_neg h3, if_neg (by omega)]
  · rw [if_neg (by omega), if_neg (by omega), List.getElem?_eq_none (by rw [swapped_length]; omega), List.getElem?_eq_none (by rw [swapped_length]; omega)]

set_option maxRecDepth 100000 in
set_option maxHeartbeats 2000000 in
theorem high_any (x n : Nat) (w : World) (hn : n ≤ 64) :
    Calls Tryz.prog 76 #[.int .u64 x, .int .i64 n] w fun e w2 => e = .returned (.string ⟨(highB x n).toArray⟩) ∧ Ext [] w w2 := by
  have HN := Lib.hid hn
  have hn64 : (n : Int) ≤ 64 := by omega
  clear hn
  go_enter Tryz.func76, Tryz.ntmps76
  go_wp2_with fail
  refine (bytes_any x n w HN.out).mono ?_
  rintro e w1 ⟨rfl, rfl⟩
  have HL := Lib.hid (lowB_length n x)
  have HR : Hid ((lowBs x n).reverse = highB x n) := by rw [← high_rev]; simp [Hid]
  have HB : Hid ((w.alloc (.cells (rowB (lowBs x n)) 5)).heap[w.heap.size]? = some (.cells (rowB (lowBs x n)) 5 (0, 0))) := heap_alloc_new _ _
  have HX : Hid (Ext [] w (w.alloc (.cells (rowB (lowBs x n)) 5))) := (Ext.refl [] w).alloc _
  generalize w.alloc (.cells (rowB (lowBs x n)) 5) = w1 at *
  generalize lowBs x n = l at *
  go_wp2
  go_loopw [13] (fun i wr => ∃ k : Nat, k ≤ n / 2 ∧ i = .int .i64 k ∧ wr.heap[w.heap.size]? = some (.cells (rowB (swapped l k)) 5 (0, 0)) ∧ Ext [] w wr) (fun i _ => n - (intOf i).toNat)
  case atStart => exact ⟨0, Nat.zero_le _, rfl, by rw [swapped_zero]; exact HB.out, HX.out⟩
  case round =>
    obtain ⟨k, hk, rfl, hb, hx⟩ := hrel
    have HB2 := Lib.hid hb
    have HX2 := Lib.hid hx
    clear hb hx HB HX
    by_cases hlt : k < n / 2
    · obtain ⟨j, hj⟩ : ∃ j : Nat, (n : Int) - 1 - k = j := ⟨n - 1 - k, by omega⟩
      have c1 : wr.cell? ⟨w.heap.size, k, none⟩ = some (bv (l.getD k 0)) := by
        rw [box_cell HB2.out, rowB_get, swapped_get _ _ _ (by have := HL.out; omega), if_neg (by have := HL.out; omega)]; rfl
      have c2 : wr.cell? ⟨w.heap.size, j, none⟩ = some (bv (l.getD j 0)) := by
        rw [box_cell HB2.out, rowB_get, swapped_get _ _ _ (by have := HL.out; omega), if_neg (by have := HL.out; omega)]; rfl
      have f : ∀ i, wr.frozen? ⟨w.heap.size, i, none⟩ = false := fun i => box_free HB2.out
      have f1 := f k
      have f2 := f j
      have hkj : k ≠ j := by omega
      have HJ : Hid (l.length - 1 - k = j) := by have := HL.out; unfold Hid; omega
      have hjn : j < n := by omega
      have hkn : k < n := by omega
      have hjI : (j : Int) < n := by omega
      have hkI : (k : Int) < n := by omega
      have HB3 : Hid (((wr.setCell ⟨w.heap.size, k, none⟩ (.int .u8 ↑(l[j]?.getD 0).toNat)).setCell ⟨w.heap.size, j, none⟩ (.int .u8 ↑(l[k]?.getD 0).toNat)).drew.heap[w.heap.size]? = some (.cells (rowB (swapped l (k + 1))) 5 (0, 0))) := by
        have := heap_setCell_same (o := j) (heap_setCell_same (o := k) HB2.out (.int .u8 ↑(l[j]?.getD 0).toNat)) (.int .u8 ↑(l[k]?.getD 0).toNat)
        have h2 := swapped_step l k (by have := HL.out; omega)
        rw [HJ.out, List.getD_eq_getElem?_getD, List.getD_eq_getElem?_getD] at h2
        rw [h2] at this
        exact this
      have HX3 : Hid (Ext [] w ((wr.setCell ⟨w.heap.size, k, none⟩ (.int .u8 ↑(l[j]?.getD 0).toNat)).setCell ⟨w.heap.size, j, none⟩ (.int .u8 ↑(l[k]?.getD 0).toNat)).drew) :=
        ((HX2.out.setCell (.inr (Nat.le_refl _)) _).setCell (.inr (Nat.le_refl _)) _).drew
      clear f
      go_wp2
      go_region
      generalize ((wr.setCell ⟨w.heap.size, k, none⟩ (.int .u8 ↑(l[j]?.getD 0).toNat)).setCell ⟨w.heap.size, j, none⟩ (.int .u8 ↑(l[k]?.getD 0).toNat)).drew = w3 at *
      clear c1 c2 f1 f2
      go_wp2
      go_roundw
      case rel => exact ⟨k + 1, by omega, by go_num, HB3.out, HX3.out⟩
      case measure => simp [intOf]; omega
    · have hk2 : k = n / 2 := by omega
      have hcv := run_convert_bytes_back (P := Tryz.prog) wr 121 9 5 ⟨w.heap.size, 0, none⟩ n (swapped l k) Tryz.underlying121 Tryz.underlying5 Tryz.underlying9 (fun j hj => by
        have : (⟨w.heap.size, 0, none⟩ : Addr).add j = ⟨w.heap.size, j, none⟩ := by unfold Addr.add; split <;> simp_all
        rw [this, box_cell HB2.out, rowB_get, List.getElem?_eq_getElem hj]; rfl)
      have HE : Hid (swapped l k = highB x n) := by rw [← HR.out, hk2, ← HL.out]; exact swapped_half l
      rw [swapped_length, HL.out, HE.out] at hcv
      clear hk2
      go_wp2
      go_ret
      exact ⟨rfl, HX2.out⟩
end Go.Proofs.YtpkolkgndhagiaaGreat
