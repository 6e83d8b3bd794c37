/- ledger: a row's bytes (text), and the row that bytes are (read). Conditions: the lengths fit. -/
import Derived.Test.YtpkolkgndhagiaaLed
import Derived.Test.YtpkolkgndhagiaaSpD
namespace Go.Proofs.Ytpkolkgndhagiaa
open Go.RowKit Go.Maps

set_option maxRecDepth 100000 in
set_option maxHeartbeats 1000000 in
theorem rowText_any (x : LRow) (w : World) (hk : x.key.length ≤ 1000000) (hc : x.ceil < 18446744073709551616) :
    Calls Try.prog 80 #[.agg #[.string ⟨x.key.toArray⟩, .int .u64 x.ceil]] w fun e w2 => e = .returned (.string ⟨x.text.toArray⟩) ∧ Ext [] w w2 := by
  have HT : Hid (x.text = textB (textB x.key ++ numB x.ceil)) := rfl
  obtain ⟨key, ceil⟩ := x
  dsimp only at hk hc HT ⊢
  have HK := Lib.hid hk
  have HC := Lib.hid hc
  clear hk hc
  go_enter Try.func80, Try.ntmps80
  go_wp2_with fail
  have hB0 := Bld.fresh (w.alloc (.cells #[.string ⟨key.toArray⟩, .int .u64 ceil] 33)) 147
  have hX0 : Ext [] w ((w.alloc (.cells #[.string ⟨key.toArray⟩, .int .u64 ceil] 33)).alloc (.cells #[.pointer none, .slice none 0 0] 147)) := ((Ext.refl [] w).alloc _).alloc _
  have hr0 : ((w.alloc (.cells #[.string ⟨key.toArray⟩, .int .u64 ceil] 33)).alloc (.cells #[.pointer none, .slice none 0 0] 147)).heap[w.heap.size]? = some (.cells #[.string ⟨key.toArray⟩, .int .u64 ceil] 33 (0, 0)) := ((Ext.refl [] _).alloc _).heap (heap_alloc_new w _) (by simp)
  rw [show (w.alloc (.cells #[.string ⟨key.toArray⟩, .int .u64 ceil] 33)).heap.size = w.heap.size + 1 by simp] at hB0
  refine (outText_any (w.heap.size + 1) [w.heap.size + 1] [] key _ hB0 (by decide) (by have := HK.out; omega)).mono ?_
  rintro e w1 ⟨rfl, F1, hB1, m1⟩
  rw [List.nil_append] at hB1
  have HB1 := Lib.hid hB1
  have HX1 := Lib.hid (hX0.trans m1.ext (by simp))
  have hn1 : w.heap.size ∉ F1 := fun h => by
    rcases m1.new _ h with h | h
    · simp at h
    · simp at h; omega
  have hr1 := m1.ext.heap hr0 (by simp)
  have HR1 := Lib.hid hr1
  have HF1 : Hid (∀ x ∈ F1, w.heap.size < x) := fun x hx => by
    rcases m1.new x hx with h | h
    · simp at h; omega
    · simp at h; omega
  have c1 : w1.cell? ⟨w.heap.size, 1, none⟩ = some (.int .u64 ceil) := by rw [box_cell hr1]; rfl
  clear hB0 hX0 hr0 hB1 m1 hr1 hn1
  go_wp2_with fail
  refine (outNum_any (w.heap.size + 1) F1 (textB key) ceil _ HB1.out (by have := textB_length_le key; have := HK.out; simp; omega) HC.out).mono ?_
  rintro e w2 ⟨rfl, F2, hB2, m2⟩
  have HB2 := Lib.hid hB2
  have HX2 := Lib.hid (HX1.out.trans m2.ext (fun x hx => .inr (by have := HF1.out x hx; omega)))
  have HF2 : Hid (∀ x ∈ F2, w.heap.size ≤ x) := fun x hx => by
    rcases m2.new x hx with h | h
    · have := HF1.out x h; omega
    · have := HX1.out.size; omega
  clear hB2 m2 c1
  go_wp2_with fail
  refine (bldString_any 147 (w.heap.size + 1) F2 (textB key ++ numB ceil) _ HB2.out (by simp [textB, numB])).mono ?_
  rintro e w3 ⟨rfl, hx3⟩
  have HX3 := Lib.hid (HX2.out.trans hx3 (fun x hx => .inr (HF2.out x hx)))
  clear hx3
  go_wp2_with fail
  refine (packText_any (textB key ++ numB ceil) _ (by have := textB_length_le key; have := numB_length_le ceil; have := HK.out; simp; omega)).mono ?_
  rintro e w4 ⟨rfl, hx4⟩
  have HX4 := Lib.hid (HX3.out.trans hx4 (by simp))
  clear hx4
  go_wp2
  go_ret
  exact ⟨by rw [HT.out]; rfl, HX4.out⟩

end Go.Proofs.Ytpkolkgndhagiaa
