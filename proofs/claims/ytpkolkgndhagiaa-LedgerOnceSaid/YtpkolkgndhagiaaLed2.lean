/- ledger: the row that bytes are (read). Conditions: the lengths fit. -/
import Derived.Test.YtpkolkgndhagiaaLed
namespace Go.Proofs.Ytpkolkgndhagiaa
open Go.RowKit Go.Maps

theorem Ext.old1 {a w : World} {c : Nat} (h : Ext [c] a w) : ∀ b o, b < a.heap.size → b ≠ c → w.cell? ⟨b, o, none⟩ = a.cell? ⟨b, o, none⟩ := fun b o hb hc => World.cell?_of_block (h.block b hb (by simpa using hc))
theorem Ext.oldz {F : List Nat} {a w : World} (h : Ext F a w) : ∀ k, k < a.heap.size → k < w.heap.size := fun _ hk => Nat.lt_of_lt_of_le hk h.size
theorem Ext.old1f {a w : World} {c : Nat} (h : Ext [c] a w) : ∀ b o, b < a.heap.size → b ≠ c → w.frozen? ⟨b, o, none⟩ = a.frozen? ⟨b, o, none⟩ := fun b o hb hc => by
  have := h.block b hb (by simpa using hc)
  simp only [World.frozen?, this]

set_option maxRecDepth 100000 in
set_option maxHeartbeats 2000000 in
theorem ledRead_any (s : Bs) (w : World) (hs : s.length ≤ 1000000000) :
    Calls Try.prog 45 #[.string ⟨s.toArray⟩] w fun e w2 => e = .returned (.tuple #[.agg #[.string ⟨(readRow s).1.key.toArray⟩, .int .u64 (readRow s).1.ceil], .bool (readRow s).2]) ∧ Ext [] w w2 := by
  have HS := Lib.hid hs
  clear hs
  go_enter Try.func45, Try.ntmps45
  go_wp2_with fail
  refine (from_any s _).mono ?_
  rintro e w1 ⟨rfl, h1, hx1, hs1⟩
  simp only [World.size_alloc] at h1 hs1 ⊢
  have hx0 : Ext [] w w1 := ((Ext.refl [] w).alloc _).trans hx1 (by simp)
  have hb0 : w1.heap[w.heap.size]? = some (.cells #[.string ⟨#[]⟩, .int .u64 0] 33 (0, 0)) := hx1.heap (heap_alloc_new w _) (by simp)
  have H1 := Lib.hid h1
  have HX0 := Lib.hid hx0
  have HB0 := Lib.hid hb0
  have HS1 := Lib.hid hs1
  have hn1 : w1.heap.size ≠ w.heap.size + 1 := by omega
  clear h1 hx1 hx0 hb0 hs1
  go_upto_region 2 with (fail)
  have HRT : Hid (readRow s = (⟨(Rd.text ⟨s, false⟩ 300).1, ((Rd.text ⟨s, false⟩ 300).2.num 1099511627776).1⟩, decide (((Rd.text ⟨s, false⟩ 300).2.num 1099511627776).2.done = 0))) := rfl
  have HL1 : Hid ((Rd.text ⟨s, false⟩ 300).2.s.length ≤ 1000000000000) := by have := (text_len ⟨s, false⟩ 300).1; have := HS.out; unfold Hid; dsimp only at *; omega
  go_cut [5] (fun v wx => ∃ q, v = .pointer (some ⟨q, 0, none⟩) ∧ wx.heap[q]? = some (.cells #[.string ⟨(Rd.text ⟨s, false⟩ 300).1.toArray⟩, .int .u64 ((Rd.text ⟨s, false⟩ 300).2.num 1099511627776).1] 33 (0, 0)) ∧ RdAt 89 wx (w.heap.size + 1) ((Rd.text ⟨s, false⟩ 300).2.num 1099511627776).2 ∧ wx.heap[w.heap.size]? = some (.cells #[.string ⟨#[]⟩, .int .u64 0] 33 (0, 0)) ∧ Ext [] w wx)
  case first =>
    go_region_with (first | (go_at_call 44; refine (rdTextL 89 (w.heap.size + 1) ⟨s, false⟩ 300 300 _ rfl (by first | exact H1.out.ext (Ext.refl [] w1).drew (by simp) | exact H1.out.ext ((Ext.refl [] w1).drew.alloc _) (by simp) | exact H1.out.ext (((Ext.refl [] w1).alloc _).drew) (by simp)) (by have := HS.out; dsimp only; omega) (by omega)).mono ?_; rintro e w2 ⟨rfl, h2, hx2⟩; have H2 := Lib.hid h2; have HX2 := Lib.hid hx2; have hc2 := hx2.old1; have hf2 := hx2.old1f; have hz2 := hx2.oldz; have hn2 : w2.heap.size ≠ w.heap.size + 1 := (by have := h2.lt; omega); clear h2 hx2) | (go_at_call 68; refine (rdNumL 89 (w.heap.size + 1) (Rd.text ⟨s, false⟩ 300).2 1099511627776 1099511627776 _ rfl (by first | exact H2.out | exact H2.out.ext ((Ext.refl [] w2).alloc _) (by simp)) HL1.out).mono ?_; rintro e w3 ⟨rfl, h3, hx3⟩; have H3 := Lib.hid h3; have HX3 := Lib.hid hx3; have hc3 := hx3.old1; have hf3 := hx3.old1f; have hz3 := hx3.oldz; clear h3 hx3))
    all_goals
      clear hc2 hf2 hz2 hc3 hf3 hz3
      go_wp2_with fail
      go_meet
      first
        | (have E := (((Ext.refl [w.heap.size + 1] w1).drew.trans HX2.out (by simp)).trans HX3.out (by simp)).alloc (.cells #[.string ⟨(Rd.text ⟨s, false⟩ 300).1.toArray⟩, .int .u64 ((Rd.text ⟨s, false⟩ 300).2.num 1099511627776).1] 33)
           exact ⟨_, rfl, heap_alloc_new _ _, H3.out.ext ((Ext.refl [] w3).alloc _) (by simp), E.heap HB0.out (by simp), HX0.out.trans E (by simp)⟩)
        | (have z2 : w1.heap.size ≤ w2.heap.size := HX2.out.size
           have E := (((((Ext.refl [w.heap.size + 1] w1).drew.trans HX2.out (by simp)).alloc _).trans HX3.out (by simp)).setCell (p := ⟨w2.heap.size, 0, none⟩) (.inr z2) (.string ⟨(Rd.text ⟨s, false⟩ 300).1.toArray⟩)).setCell (p := ⟨w2.heap.size, 1, none⟩) (.inr z2) (.int .u64 ((Rd.text ⟨s, false⟩ 300).2.num 1099511627776).1)
           have hq3 := HX3.out.heap (heap_alloc_new w2 _) (by simpa using hn2)
           exact ⟨_, rfl, heap_setCell_same (heap_setCell_same hq3 _) _, H3.out.ext (((Ext.refl [w2.heap.size] w3).setCell (by simp) _).setCell (by simp) _) (by simpa using Ne.symm hn2), E.heap HB0.out (by simp), HX0.out.trans E (by simp)⟩)
        | (have z2 : w1.heap.size ≤ w1.heap.size := Nat.le_refl _
           have E := ((((((Ext.refl [w.heap.size + 1] w1).alloc _).drew).trans HX2.out (by simp)).trans HX3.out (by simp)).setCell (p := ⟨w1.heap.size, 0, none⟩) (.inr z2) (.string ⟨(Rd.text ⟨s, false⟩ 300).1.toArray⟩)).setCell (p := ⟨w1.heap.size, 1, none⟩) (.inr z2) (.int .u64 ((Rd.text ⟨s, false⟩ 300).2.num 1099511627776).1)
           have hq2 := HX2.out.heap ((Ext.refl [] _).drew.heap (heap_alloc_new w1 _) (by simp)) (by simpa using hn1)
           have hq3 := HX3.out.heap hq2 (by simpa using hn1)
           exact ⟨_, rfl, heap_setCell_same (heap_setCell_same hq3 _) _, H3.out.ext (((Ext.refl [w1.heap.size] w3).setCell (by simp) _).setCell (by simp) _) (by simpa using Ne.symm hn1), E.heap HB0.out (by simp), HX0.out.trans E (by simp)⟩)
  case rest =>
    obtain ⟨q, rfl, hq, hr, hb, hx⟩ := hcut
    clear hn1 H1 HX0 HB0 HS1 HL1
    generalize (Rd.text ⟨s, false⟩ 300).1 = key at *
    generalize ((Rd.text ⟨s, false⟩ 300).2.num 1099511627776).1 = ceil at *
    generalize ((Rd.text ⟨s, false⟩ 300).2.num 1099511627776).2 = r at *
    have q0 : wc.cell? ⟨q, 0, none⟩ = some (.string ⟨key.toArray⟩) := by rw [box_cell hq]; rfl
    have q1 : wc.cell? ⟨q, 1, none⟩ = some (.int .u64 ceil) := by rw [box_cell hq]; rfl
    have b0 : wc.cell? ⟨w.heap.size, 0, none⟩ = some (.string ⟨#[]⟩) := by rw [box_cell hb]; rfl
    have b1 : wc.cell? ⟨w.heap.size, 1, none⟩ = some (.int .u64 0) := by rw [box_cell hb]; rfl
    have f0 : wc.frozen? ⟨w.heap.size, 0, none⟩ = false := box_free hb
    have f1 : wc.frozen? ⟨w.heap.size, 1, none⟩ = false := box_free hb
    have HR := Lib.hid hr
    have HX := Lib.hid hx
    have hblt := heap_lt hb
    have HBB := Lib.hid hb
    clear hr hx hq hb
    go_wp2_with fail
    go_region_with (go_at_call 69; refine (rdDone_any 89 (w.heap.size + 1) r _ (HR.out.ext (Ext.refl [] wc).drew (by simp))).mono ?_; rintro e w2 ⟨rfl, rfl⟩)
    all_goals
      go_wp2
      have hfin := heap_setCell_same (o := 1) (heap_setCell_same (o := 0) HBB.out (.string ⟨key.toArray⟩)) (.int .u64 ceil)
      have hfin' : ((wc.setCell ⟨w.heap.size, 0, none⟩ (.string ⟨key.toArray⟩)).setCell ⟨w.heap.size, 1, none⟩ (.int .u64 ceil)).drew.heap[w.heap.size]? = some (.cells #[.string ⟨key.toArray⟩, .int .u64 ceil] 33 (0, 0)) := hfin
      have HXF : Hid (Ext [] w ((wc.setCell ⟨w.heap.size, 0, none⟩ (.string ⟨key.toArray⟩)).setCell ⟨w.heap.size, 1, none⟩ (.int .u64 ceil)).drew) := ((HX.out.setCell (.inr (Nat.le_refl _)) _).setCell (.inr (Nat.le_refl _)) _).drew
      clear hfin
      generalize ((wc.setCell ⟨w.heap.size, 0, none⟩ (.string ⟨key.toArray⟩)).setCell ⟨w.heap.size, 1, none⟩ (.int .u64 ceil)).drew = W at *
      have d0 : W.cell? ⟨w.heap.size, 0, none⟩ = some (.string ⟨key.toArray⟩) := by rw [box_cell hfin']; rfl
      have d1 : W.cell? ⟨w.heap.size, 1, none⟩ = some (.int .u64 ceil) := by rw [box_cell hfin']; rfl
      clear hfin'
      refine bodyPost_ret (v := .tuple #[.agg #[.string ⟨key.toArray⟩, .int .u64 ceil], .bool (decide (r.done = 0))]) ?_ rfl ⟨by rw [HRT.out], HXF.out⟩
      simp [results, Try.results45, go_sem, d0, d1]
      try rfl
end Go.Proofs.Ytpkolkgndhagiaa
