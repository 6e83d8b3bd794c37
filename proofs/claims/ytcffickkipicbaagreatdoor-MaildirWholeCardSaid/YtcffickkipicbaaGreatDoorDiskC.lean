/- disk: what (*Disk).done does. Conditions: the lengths fit. -/
import Derived.Test.YtcffickkipicbaaGreatDoorDiskB
import Derived.Test.YtcffickkipicbaaGreatDoorMaps
import Derived.Deep.RegionHeld3
import Derived.Deep.AppendLies
import Derived.StillTailTactics
import Derived.BigQuiet
set_option linter.unusedSimpArgs false
set_option linter.unusedVariables false
set_option linter.unnecessarySimpa false
namespace Go.Proofs.YtcffickkipicbaaGreatDoor
open Go.RowKit Go.Maps

def Dk.done (D : Dk) (e : Ev) : Dk × Int :=
  if D.dead || D.fuse == 0 then ({ D with dead := true }, 13)
  else if e.op = 5 then ({ D with fuse := (if 0 < D.fuse then D.fuse - 1 else D.fuse), trace := D.trace ++ [e], sure := D.now, pend := [] }, 0)
  else ({ D with fuse := (if 0 < D.fuse then D.fuse - 1 else D.fuse), trace := D.trace ++ [e], now := D.now.did e, pend := D.pend ++ [e] }, 0)

theorem infoEv : (Tryz.prog.info? 82).map (fun i => (i.zero, i.size, i.bytes)) = some (some (.agg #[.int .i64 0, .string ⟨#[]⟩, .string ⟨#[]⟩, .string ⟨#[]⟩]), 4, 56) := by kernel_rfl

section
variable {w wA w1 : World} {p mn ms : Nat} {pv tv : Value} {D : Dk}
theorem apart_parts (h : (footOf p mn ms pv tv).Nodup) : p ≠ mn ∧ p ≠ ms ∧ mn ≠ ms ∧ pv.ownBlock ≠ some p ∧ tv.ownBlock ≠ some p ∧ pv.ownBlock ≠ some mn ∧ tv.ownBlock ≠ some mn ∧ pv.ownBlock ≠ some ms ∧ tv.ownBlock ≠ some ms ∧ ∀ k, pv.ownBlock = some k → tv.ownBlock ≠ some k := by
  unfold footOf at h
  rw [List.nodup_append, List.nodup_append] at h
  obtain ⟨⟨h1, h2, h3⟩, h4, h5⟩ := h
  simp only [List.nodup_cons, List.mem_cons, List.not_mem_nil, or_false, not_or] at h1
  simp only [List.mem_append, List.mem_cons, List.not_mem_nil, or_false, Option.mem_toList] at h3 h5
  refine ⟨h1.1.1, h1.1.2, h1.2.1, fun e => h3 p (by simp) p e rfl, fun e => h5 p (by simp) p e rfl, fun e => h3 mn (by simp) mn e rfl, fun e => h5 mn (by simp) mn e rfl, fun e => h3 ms (by simp) ms e rfl, fun e => h5 ms (by simp) ms e rfl, fun k hk e => h5 k (by simp [hk]) k e rfl⟩
theorem apart_mk (h : p ≠ mn ∧ p ≠ ms ∧ mn ≠ ms ∧ pv.ownBlock ≠ some p ∧ tv.ownBlock ≠ some p ∧ pv.ownBlock ≠ some mn ∧ tv.ownBlock ≠ some mn ∧ pv.ownBlock ≠ some ms ∧ tv.ownBlock ≠ some ms ∧ ∀ k, pv.ownBlock = some k → tv.ownBlock ≠ some k) : (footOf p mn ms pv tv).Nodup := by
  obtain ⟨a1, a2, a3, a4, a5, a6, a7, a8, a9, a10⟩ := h
  unfold footOf
  generalize pv.ownBlock = x at *
  generalize tv.ownBlock = y at *
  cases x <;> cases y <;> simp_all <;> omega

/-- Behind 'd.trace = append(d.trace, e)'. -/
theorem DiskAt.traced (h : DiskAt w p mn ms pv tv D) (hx : Ext [] w wA) (e : Ev) {g cap : Nat} (hown : Evs w1 (.slice (some ⟨g, 0, none⟩) (D.trace.length + 1) cap) (D.trace ++ [e]))
    (hgrow : Ext tv.ownBlock.toList wA w1) (hat : tv.ownBlock = some g ∨ w.heap.size ≤ g) :
    DiskAt (w1.setCell ⟨p, 3, none⟩ (.slice (some ⟨g, 0, none⟩) (D.trace.length + 1) cap)) p mn ms pv (.slice (some ⟨g, 0, none⟩) (D.trace.length + 1) cap) { D with trace := D.trace ++ [e] } ∧
    Ext (footOf p mn ms pv tv) w (w1.setCell ⟨p, 3, none⟩ (.slice (some ⟨g, 0, none⟩) (D.trace.length + 1) cap)) := by
  obtain ⟨a1, a2, a3, a4, a5, a6, a7, a8, a9, a10⟩ := apart_parts h.apart
  have hlt := h.lt
  have lp := hlt p (by simp [footOf]); have lmn := hlt mn (by simp [footOf]); have lms := hlt ms (by simp [footOf])
  have lpv : ∀ k, pv.ownBlock = some k → k < w.heap.size := fun k hk => hlt k (by simp [footOf, hk])
  have x1 : Ext tv.ownBlock.toList w w1 := (hx.mono (by simp)).trans hgrow (fun k hk => .inl hk)
  have x2 : Ext [p] w1 (w1.setCell ⟨p, 3, none⟩ (.slice (some ⟨g, 0, none⟩) (D.trace.length + 1) cap)) := (Ext.refl [p] w1).setCell (by simp) _
  have gne : ∀ b, b < w.heap.size → tv.ownBlock ≠ some b → g ≠ b := fun b hb hne e => by exact hat.elim (fun h1 => hne (e ▸ h1)) (fun h1 => by omega)
  have nin : ∀ b, tv.ownBlock ≠ some b → b ∉ tv.ownBlock.toList := fun b hb => by simpa using hb
  refine ⟨⟨?_, ?_, ?_, ?_, ?_, ?_⟩, ?_⟩
  · have hb := x1.heap h.box (nin p a5)
    rw [heap_setCell_same hb]; rfl
  · exact (h.now.ext x1 (nin mn a7)).ext x2 (by simpa using Ne.symm a1)
  · exact (h.sure.ext x1 (nin ms a9)).ext x2 (by simpa using Ne.symm a2)
  · exact row_ext (row_ext h.pend x1 (fun k hk => nin k (a10 k hk))) x2 (fun k hk => by simp; rintro rfl; exact a4 hk)
  · have := row_ext hown x2 (fun k hk => by simp [Value.ownBlock] at hk; subst hk; simpa using gne p lp a5)
    exact this
  · refine apart_mk ⟨a1, a2, a3, a4, ?_, a6, ?_, a8, ?_, ?_⟩
    · simp [Value.ownBlock]; exact gne p lp a5
    · simp [Value.ownBlock]; exact gne mn lmn a7
    · simp [Value.ownBlock]; exact gne ms lms a9
    · intro k hk; simp [Value.ownBlock]; exact gne k (lpv k hk) (a10 k hk)
  · exact (x1.mono (fun x hx => .inl (by simp only [footOf, List.mem_append]; exact .inr hx))).trans x2 (fun x hx => .inl (by simp only [List.mem_singleton] at hx; simp [footOf, hx]))

theorem DiskAt.pended (h : DiskAt w p mn ms pv tv D) (hx : Ext [] w wA) (e : Ev) {g cap : Nat} (hown : Evs w1 (.slice (some ⟨g, 0, none⟩) (D.pend.length + 1) cap) (D.pend ++ [e]))
    (hgrow : Ext pv.ownBlock.toList wA w1) (hat : pv.ownBlock = some g ∨ w.heap.size ≤ g) :
    DiskAt (w1.setCell ⟨p, 2, none⟩ (.slice (some ⟨g, 0, none⟩) (D.pend.length + 1) cap)) p mn ms (.slice (some ⟨g, 0, none⟩) (D.pend.length + 1) cap) tv { D with pend := D.pend ++ [e] } ∧
    Ext (footOf p mn ms pv tv) w (w1.setCell ⟨p, 2, none⟩ (.slice (some ⟨g, 0, none⟩) (D.pend.length + 1) cap)) := by
  obtain ⟨a1, a2, a3, a4, a5, a6, a7, a8, a9, a10⟩ := apart_parts h.apart
  have hlt := h.lt
  have lp := hlt p (by simp [footOf]); have lmn := hlt mn (by simp [footOf]); have lms := hlt ms (by simp [footOf])
  have ltv : ∀ k, tv.ownBlock = some k → k < w.heap.size := fun k hk => hlt k (by simp [footOf, hk])
  have x1 : Ext pv.ownBlock.toList w w1 := (hx.mono (by simp)).trans hgrow (fun k hk => .inl hk)
  have x2 : Ext [p] w1 (w1.setCell ⟨p, 2, none⟩ (.slice (some ⟨g, 0, none⟩) (D.pend.length + 1) cap)) := (Ext.refl [p] w1).setCell (by simp) _
  have gne : ∀ b, b < w.heap.size → pv.ownBlock ≠ some b → g ≠ b := fun b hb hne e => by exact hat.elim (fun h1 => hne (e ▸ h1)) (fun h1 => by omega)
  have nin : ∀ b, pv.ownBlock ≠ some b → b ∉ pv.ownBlock.toList := fun b hb => by simpa using hb
  refine ⟨⟨?_, ?_, ?_, ?_, ?_, ?_⟩, ?_⟩
  · have hb := x1.heap h.box (nin p a4)
    rw [heap_setCell_same hb]; rfl
  · exact (h.now.ext x1 (nin mn a6)).ext x2 (by simpa using Ne.symm a1)
  · exact (h.sure.ext x1 (nin ms a8)).ext x2 (by simpa using Ne.symm a2)
  · have := row_ext hown x2 (fun k hk => by simp [Value.ownBlock] at hk; subst hk; simpa using gne p lp a4)
    exact this
  · exact row_ext (row_ext h.trace x1 (fun k hk => nin k (fun e => a10 k e hk))) x2 (fun k hk => by simp; rintro rfl; exact a5 hk)
  · refine apart_mk ⟨a1, a2, a3, ?_, a5, ?_, a7, ?_, a9, ?_⟩
    · simp [Value.ownBlock]; exact gne p lp a4
    · simp [Value.ownBlock]; exact gne mn lmn a6
    · simp [Value.ownBlock]; exact gne ms lms a8
    · intro k hk; simp [Value.ownBlock] at hk; intro ht; exact gne k (ltv k ht) (fun e => a10 k e ht) hk
  · exact (x1.mono (fun x hx => .inl (by simp only [footOf, List.mem_append]; exact .inl (.inr hx)))).trans x2 (fun x hx => .inl (by simp only [List.mem_singleton] at hx; simp [footOf, hx]))
end

abbrev evBox (e : Ev) : Obj := .cells #[.int .i64 e.op, .string ⟨e.name.toArray⟩, .string ⟨e.to.toArray⟩, .string ⟨e.data.toArray⟩] 82

set_option maxRecDepth 100000 in
set_option maxHeartbeats 1000000 in
theorem done_dead (p mn ms : Nat) (pv tv : Value) (D : Dk) (e : Ev) (w : World) (h : DiskAt w p mn ms pv tv D) (hd : D.dead = true ∨ D.fuse = 0) :
    Calls Tryz.prog 59 #[.pointer (some ⟨p, 0, none⟩), e.agg] w fun r w2 => r = .returned (.int .i64 13) ∧ DiskAt w2 p mn ms pv tv { D with dead := true } ∧ Ext [p] w w2 := by
  have hA := h.alloc (evBox e)
  have hs := (h.setNum D.quota D.fuse true 6 (.bool true) (by simp [diskCells])).alloc (evBox e)
  have hx : Ext [p] w ((w.setCell ⟨p, 6, none⟩ (.bool true)).alloc (evBox e)) := ((Ext.refl [p] w).setCell (by simp) _).alloc _
  have H1 := Lib.hid hs
  have H2 := Lib.hid hx
  obtain ⟨h0, h1, h2, h3, h4, h5, h6⟩ := h.cells
  have hlt := h.lt p (by simp [footOf])
  have hf6 := h.free 6
  have hf6' := hA.free 6
  clear hs hx h hA h0 h1 h2 h3 h4
  by_cases hdd : D.dead = true
  · rw [hdd] at h6
    clear hd hdd
    go_enter Tryz.func59, Tryz.ntmps59
    go_wp2
    go_ret
    exact ⟨rfl, H1.out, H2.out⟩
  · have hdd : D.dead = false := by simpa using hdd
    rw [hdd] at h6
    have hf : D.fuse = 0 := by rcases hd with h | h <;> simp_all
    rw [hf] at h5
    clear hd hdd hf
    go_enter Tryz.func59, Tryz.ntmps59
    go_wp2
    go_ret
    exact ⟨rfl, H1.out, H2.out⟩

theorem DiskAt.synced {w w1 : World} {p mn ms : Nat} {pv tv : Value} {D : Dk} (h : DiskAt w p mn ms pv tv D) (hx : Ext [] w w1) (hm : MapA w1 w.heap.size D.now) :
    DiskAt ((w1.setCell ⟨p, 1, none⟩ (.map (some w.heap.size))).setCell ⟨p, 2, none⟩ (.slice none 0 0)) p mn w.heap.size (.slice none 0 0) tv { D with sure := D.now, pend := [] } ∧
    Ext [p] w ((w1.setCell ⟨p, 1, none⟩ (.map (some w.heap.size))).setCell ⟨p, 2, none⟩ (.slice none 0 0)) := by
  obtain ⟨a1, a2, a3, a4, a5, a6, a7, a8, a9, a10⟩ := apart_parts h.apart
  have hlt := h.lt
  have lp := hlt p (by simp [footOf]); have lmn := hlt mn (by simp [footOf])
  have ltv : ∀ k, tv.ownBlock = some k → k < w.heap.size := fun k hk => hlt k (by simp [footOf, hk])
  have x2 : Ext [p] w1 ((w1.setCell ⟨p, 1, none⟩ (.map (some w.heap.size))).setCell ⟨p, 2, none⟩ (.slice none 0 0)) := ((Ext.refl [p] w1).setCell (by simp) _).setCell (by simp) _
  refine ⟨⟨?_, ?_, ?_, ?_, ?_, ?_⟩, ?_⟩
  · have hb := hx.heap h.box (by simp)
    rw [heap_setCell_same (heap_setCell_same hb _)]; rfl
  · exact (h.now.ext hx (by simp)).ext x2 (by simpa using Ne.symm a1)
  · exact hm.ext x2 (by simp; omega)
  · exact World.ownsRow_nil _ _ _ _
  · exact row_ext (row_ext h.trace hx (by simp)) x2 (fun k hk => by simp; rintro rfl; exact a5 hk)
  · refine apart_mk ⟨a1, by omega, by omega, by simp [Value.ownBlock], a5, by simp [Value.ownBlock], a7, by simp [Value.ownBlock], fun e => by have := ltv _ e; omega, by simp [Value.ownBlock]⟩
  · exact (hx.mono (by simp)).trans x2 (by simp)

theorem append_ev (w : World) (v : Value) (l : List Ev) (e : Ev) (b : Nat) (hown : Evs w v l) (hb : w.heap[b]? = some (evBox e)) (hl : l.length < 1000000000000) (ty : TypeId) :
    ∃ g cap w1, (Builtin.append_ #[48, 48] ty #[v, .slice (some ⟨b, 0, none⟩) 1 1]).run Tryz.prog w = .ok (.slice (some ⟨g, 0, none⟩) (l.length + 1) cap) w1 ∧
      Evs w1 (.slice (some ⟨g, 0, none⟩) (l.length + 1) cap) (l ++ [e]) ∧ Ext v.ownBlock.toList w w1 ∧ (v.ownBlock = some g ∨ g = w.heap.size) := by
  obtain ⟨i0, hi0, hz0, hz1, hz2⟩ := info_parts infoEv
  obtain ⟨g, cap, w1, hr, ho, hg, hat, _⟩ := run_append_lies (P := Tryz.prog) w 48 ty 0 82 i0 _ 4 56 Tryz.underlying48 hi0 hz0 hz1 hz2 rfl (by omega) v l.length (evVals l) hown
    ⟨b, 0, none⟩ 1 1 e.vals rfl (World.news_of_block (cs := #[.int .i64 e.op, .string ⟨e.name.toArray⟩, .string ⟨e.to.toArray⟩, .string ⟨e.data.toArray⟩]) (t := 82) (fr := (0, 0)) hb) (by simp [Value.oneCell', Ev.vals]) (by omega) (by unfold maxLen; omega) (by omega) (Nat.zero_le _) _ rfl
  refine ⟨g, cap, w1, hr, ?_, ⟨hg.os, hg.tape, hg.output, hg.size, fun k hk hn => hg.block k hk (fun e => hn (by simp [← e]))⟩, hat⟩
  show w1.ownsRow 0 82 4 _ (l ++ [e]).length (evVals (l ++ [e]))
  rw [List.length_append, evVals_append]
  exact ho

/-- The event's box, and what 'd.trace = append(d.trace, e)' comes to, ahead of the walk. -/
theorem trace_ahead (w0 : World) (p mn ms : Nat) (pv tv : Value) (D : Dk) (e : Ev) (h : DiskAt w0 p mn ms pv tv D) (hl : D.trace.length < 1000000000000) :
    ∃ g cap w1, (∀ ty, (Builtin.append_ #[48, 48] ty #[tv, .slice (some ⟨w0.heap.size + 1, 0, none⟩) 1 1]).run Tryz.prog ((w0.alloc (evBox e)).alloc (evBox e)).drew = .ok (.slice (some ⟨g, 0, none⟩) (D.trace.length + 1) cap) w1) ∧
      w1.cell? ⟨p, 3, none⟩ = some tv ∧ w1.frozen? ⟨p, 3, none⟩ = false ∧ (∀ j v, (w0.alloc (evBox e)).cell? ⟨w0.heap.size, j, none⟩ = some v → w1.cell? ⟨w0.heap.size, j, none⟩ = some v) ∧
      DiskAt (w1.setCell ⟨p, 3, none⟩ (.slice (some ⟨g, 0, none⟩) (D.trace.length + 1) cap)) p mn ms pv (.slice (some ⟨g, 0, none⟩) (D.trace.length + 1) cap) { D with trace := D.trace ++ [e] } ∧
      Ext (footOf p mn ms pv tv) w0 (w1.setCell ⟨p, 3, none⟩ (.slice (some ⟨g, 0, none⟩) (D.trace.length + 1) cap)) ∧ (tv.ownBlock = some g ∨ w0.heap.size ≤ g) ∧ w0.heap.size + 2 ≤ w1.heap.size ∧
      (w1.setCell ⟨p, 3, none⟩ (.slice (some ⟨g, 0, none⟩) (D.trace.length + 1) cap)).heap[w0.heap.size]? = some (evBox e) := by
  have hx : Ext [] w0 ((w0.alloc (evBox e)).alloc (evBox e)).drew := (((Ext.refl [] w0).alloc _).alloc _).drew
  have hb : ((w0.alloc (evBox e)).alloc (evBox e)).drew.heap[w0.heap.size + 1]? = some (evBox e) := by
    have := heap_alloc_new (w0.alloc (evBox e)) (evBox e)
    rw [show (w0.alloc (evBox e)).heap.size = w0.heap.size + 1 by simp] at this
    exact this
  have hT : Evs ((w0.alloc (evBox e)).alloc (evBox e)).drew tv D.trace := row_ext h.trace hx (by simp)
  obtain ⟨g, cap, w1, hr, ho, hg, hat⟩ := append_ev _ tv D.trace e _ hT hb hl 48
  have hsz : (((w0.alloc (evBox e)).alloc (evBox e)).drew).heap.size = w0.heap.size + 2 := by simp
  have hat' : tv.ownBlock = some g ∨ w0.heap.size ≤ g := hat.elim .inl (fun h1 => .inr (by omega))
  obtain ⟨t1, t2⟩ := h.traced hx e ho hg hat'
  have a5 := (apart_parts h.apart).2.2.2.2.1
  have lp := h.lt p (by simp [footOf])
  have lT : ∀ k, tv.ownBlock = some k → k < w0.heap.size := fun k hk => h.lt k (by simp [footOf, hk])
  have x0 : Ext [] (w0.alloc (evBox e)) ((w0.alloc (evBox e)).alloc (evBox e)).drew := ((Ext.refl [] _).alloc _).drew
  have nb : w0.heap.size ∉ tv.ownBlock.toList := fun hh => by have := lT _ (by simpa using hh); omega
  have hbx : w1.heap[w0.heap.size]? = some (evBox e) := hg.heap (x0.heap (heap_alloc_new w0 (evBox e)) (by simp)) nb
  have hbp := hg.heap (hx.heap h.box (by simp)) (by simpa using a5)
  refine ⟨g, cap, w1, fun ty => hr, ?_, ?_, fun j v hv => ?_, t1, t2, hat', ?_, ?_⟩
  · rw [box_cell hbp]; rfl
  · exact box_free hbp
  · exact hg.cell (x0.cell hv (by simp)) nb
  · have := hg.size; omega
  · exact (Below.heap_setCell _ _ _ _ (by simp; omega)).trans hbx

theorem DiskAt.nowTo {w w1 : World} {p mn ms : Nat} {pv tv : Value} {D : Dk} {F : Fs} (h : DiskAt w p mn ms pv tv D) (hx : Ext [mn] w w1) (hm : MapA w1 mn F) : DiskAt w1 p mn ms pv tv { D with now := F } := by
  obtain ⟨a1, a2, a3, a4, a5, a6, a7, a8, a9, a10⟩ := apart_parts h.apart
  exact ⟨hx.heap h.box (by simpa using a1), hm, h.sure.ext hx (by simpa using Ne.symm a3), row_ext h.pend hx (fun k hk => by simp; rintro rfl; exact a6 hk), row_ext h.trace hx (fun k hk => by simp; rintro rfl; exact a7 hk), h.apart⟩
theorem DiskAt.sureTo {w w1 : World} {p mn ms : Nat} {pv tv : Value} {D : Dk} {F : Fs} (h : DiskAt w p mn ms pv tv D) (hx : Ext [ms] w w1) (hm : MapA w1 ms F) : DiskAt w1 p mn ms pv tv { D with sure := F } := by
  obtain ⟨a1, a2, a3, a4, a5, a6, a7, a8, a9, a10⟩ := apart_parts h.apart
  exact ⟨hx.heap h.box (by simpa using a2), h.now.ext hx (by simpa using a3), hm, row_ext h.pend hx (fun k hk => by simp; rintro rfl; exact a8 hk), row_ext h.trace hx (fun k hk => by simp; rintro rfl; exact a9 hk), h.apart⟩

/-- What 'd.pending = append(d.pending, e)' comes to, ahead of the walk. -/
theorem pend_ahead (wB : World) (p mn ms : Nat) (pv tv : Value) (D : Dk) (e : Ev) (h : DiskAt wB p mn ms pv tv D) (hl : D.pend.length < 1000000000000) :
    ∃ g cap w1, (∀ ty, (Builtin.append_ #[48, 48] ty #[pv, .slice (some ⟨wB.heap.size, 0, none⟩) 1 1]).run Tryz.prog (wB.alloc (evBox e)).drew = .ok (.slice (some ⟨g, 0, none⟩) (D.pend.length + 1) cap) w1) ∧
      w1.cell? ⟨p, 2, none⟩ = some pv ∧ w1.frozen? ⟨p, 2, none⟩ = false ∧
      DiskAt (w1.setCell ⟨p, 2, none⟩ (.slice (some ⟨g, 0, none⟩) (D.pend.length + 1) cap)) p mn ms (.slice (some ⟨g, 0, none⟩) (D.pend.length + 1) cap) tv { D with pend := D.pend ++ [e] } ∧
      Moved (footOf p mn ms pv tv) wB (w1.setCell ⟨p, 2, none⟩ (.slice (some ⟨g, 0, none⟩) (D.pend.length + 1) cap)) (footOf p mn ms (.slice (some ⟨g, 0, none⟩) (D.pend.length + 1) cap) tv) := by
  have hx : Ext [] wB (wB.alloc (evBox e)).drew := ((Ext.refl [] wB).alloc _).drew
  have hT : Evs (wB.alloc (evBox e)).drew pv D.pend := row_ext h.pend hx (by simp)
  obtain ⟨g, cap, w1, hr, ho, hg, hat⟩ := append_ev _ pv D.pend e _ hT (heap_alloc_new wB (evBox e)) hl 48
  have hsz : ((wB.alloc (evBox e)).drew).heap.size = wB.heap.size + 1 := by simp
  have hat' : pv.ownBlock = some g ∨ wB.heap.size ≤ g := hat.elim .inl (fun h1 => .inr (by omega))
  obtain ⟨t1, t2⟩ := h.pended hx e ho hg hat'
  have a4 := (apart_parts h.apart).2.2.2.1
  have hbp := hg.heap (hx.heap h.box (by simp)) (by simpa using a4)
  refine ⟨g, cap, w1, fun ty => hr, ?_, box_free hbp, t1, ⟨t2, fun x hx => ?_⟩⟩
  · rw [box_cell hbp]; rfl
  · simp only [footOf, List.mem_append, List.mem_cons, List.not_mem_nil, or_false, Option.mem_toList, Value.ownBlock] at hx ⊢
    rcases hx with (h | h) | h
    · exact .inl (.inl (.inl h))
    · rcases hat' with h1 | h1
      · exact .inl (.inl (.inr (h1.trans h)))
      · simp at h; right; omega
    · exact .inl (.inr h)

theorem evVals_get : ∀ (l : List Ev) (j i : Nat) (h : j < l.length), i < 4 → (evVals l)[j * 4 + i]? = (l[j].vals)[i]?
  | [], _, _, h, _ => absurd h (Nat.not_lt_zero _)
  | e :: l, 0, i, _, hi => by
    have : evVals (e :: l) = e.vals ++ evVals l := rfl
    rw [this, Nat.zero_mul, Nat.zero_add, List.getElem?_append_left (by simpa [Ev.vals] using hi)]
    rfl
  | e :: l, j + 1, i, h, hi => by
    have : evVals (e :: l) = e.vals ++ evVals l := rfl
    rw [this, List.getElem?_append_right (by simp [Ev.vals]; omega)]
    have h2 := evVals_get l j i (by simpa using h) hi
    rw [show (j + 1) * 4 + i - e.vals.length = j * 4 + i by simp [Ev.vals]; omega, h2]
    simp
theorem Evs.at {w : World} {g n cap : Nat} {l : List Ev} (h : Evs w (.slice (some ⟨g, 0, none⟩) n cap) l) (j : Nat) (hj : j < l.length) :
    w.cell? ⟨g, j * 4, none⟩ = some (.int .i64 l[j].op) ∧ w.cell? ⟨g, j * 4 + 1, none⟩ = some (.string ⟨l[j].name.toArray⟩) ∧ w.cell? ⟨g, j * 4 + 2, none⟩ = some (.string ⟨l[j].to.toArray⟩) ∧ w.cell? ⟨g, j * 4 + 3, none⟩ = some (.string ⟨l[j].data.toArray⟩) := by
  have hc := World.ownsRow.cells h (g := g) rfl
  have add : ∀ x, (⟨g, 0, none⟩ : Addr).add x = ⟨g, x, none⟩ := fun x => by unfold Addr.add; split <;> simp_all
  have g0 := hc (j * 4 + 0) _ ((evVals_get l j 0 hj (by omega)).trans rfl)
  have g1 := hc (j * 4 + 1) _ ((evVals_get l j 1 hj (by omega)).trans rfl)
  have g2 := hc (j * 4 + 2) _ ((evVals_get l j 2 hj (by omega)).trans rfl)
  have g3 := hc (j * 4 + 3) _ ((evVals_get l j 3 hj (by omega)).trans rfl)
  rw [add] at g0 g1 g2 g3
  exact ⟨g0, g1, g2, g3⟩
end Go.Proofs.YtcffickkipicbaaGreatDoor
