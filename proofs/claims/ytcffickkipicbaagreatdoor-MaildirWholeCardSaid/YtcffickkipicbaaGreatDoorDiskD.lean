/- disk: what (*Disk).done does (the walk). Conditions: the lengths fit. -/
import Derived.Test.YtcffickkipicbaaGreatDoorDiskC
import Derived.Deep.RegionLaw
import Derived.Deep.DeepCutAuto
set_option linter.unusedSimpArgs false
set_option linter.unusedVariables false
set_option linter.unnecessarySimpa false
namespace Go.Proofs.YtcffickkipicbaaGreatDoor
open Go.RowKit Go.Maps

def Dk.burnt (D : Dk) : Dk := { D with fuse := (if 0 < D.fuse then D.fuse - 1 else D.fuse) }

set_option maxRecDepth 100000 in
set_option maxHeartbeats 4000000 in
theorem done_live (p mn ms : Nat) (pv tv : Value) (D : Dk) (e : Ev) (w : World) (h : DiskAt w p mn ms pv tv D) (hd : D.dead = false) (hf : D.fuse ≠ 0) (hfm : D.fuse ≤ 9223372036854775807) (hl : D.trace.length < 1000000000000) (hpl : D.pend.length < 1000000000000) (hF : D.now.length < maxLen) (he : e.op = 5 ∨ e.Fit D.now) :
    Calls Tryz.prog 59 #[.pointer (some ⟨p, 0, none⟩), e.agg] w fun r w2 => r = .returned (.int .i64 0) ∧ ∃ F2, Disk w2 p F2 (D.done e).1 ∧ Moved (footOf p mn ms pv tv) w w2 F2 := by
  have HDN : Hid ((D.done e).1 = if e.op = 5 then { D.burnt with trace := D.trace ++ [e], sure := D.now, pend := [] } else { D.burnt with trace := D.trace ++ [e], now := D.now.did e, pend := D.pend ++ [e] }) := by
    unfold Dk.done Dk.burnt
    rw [if_neg (by simp [hd, hf])]
    split <;> rfl
  have HE := Lib.hid he
  have HF := Lib.hid hF
  have HPL := Lib.hid hpl
  clear he hF hpl
  obtain ⟨h0, h1, h2, h3, h4, h5, h6⟩ := h.cells
  have hlt := h.lt p (by simp [footOf])
  have hfz := h.free 5
  rw [hd] at h6
  have hf0 : (D.fuse == 0) = false := beq_eq_false_iff_ne.2 hf
  have HL := Lib.hid hl
  have HH := Lib.hid h
  clear hl h0 h1 h2 h3 h4 h
  go_enter Tryz.func59, Tryz.ntmps59
  go_upto_if 23 with (fail)
  go_cut [] (fun wx => ∃ w0, wx = w0.alloc (evBox e) ∧ DiskAt w0 p mn ms pv tv D.burnt ∧ Ext [p] w w0 ∧ w0.heap.size = w.heap.size)
  case first =>
    go_wp2
    · go_meet
      rename_i hpos
      refine ⟨w.setCell ⟨p, 5, none⟩ (.int .i64 (D.fuse - 1)), rfl, ?_, (Ext.refl [p] w).setCell (by simp) _, by simp⟩
      unfold Dk.burnt
      rw [if_pos hpos]
      exact HH.out.setNum D.quota (D.fuse - 1) D.dead 5 _ (by simp [diskCells])
    · go_meet
      rename_i hpos
      refine ⟨w, rfl, ?_, Ext.refl [p] w, rfl⟩
      unfold Dk.burnt
      rw [if_neg (by omega)]
      exact HH.out
  case rest =>
    obtain ⟨w0, rfl, hA, hx0, hsz⟩ := hcut
    rw [← hsz]
    clear h5 h6 hfz hf0 hlt hd hf hfm
    obtain ⟨h0, h1, h2, h3, h4, h5, h6⟩ := hA.cells
    have hlt := hA.lt p (by simp [footOf])
    obtain ⟨g, cap, w1, hr, c3, f3, cb, t1, t2, hat, hs2, hbx⟩ := trace_ahead w0 p mn ms pv tv D.burnt e hA HL.out
    have HR := Lib.hid hr
    have T1 := Lib.hid t1
    have T2 := Lib.hid t2
    have HB := Lib.hid hbx
    have HAT := Lib.hid hat
    have HX0 := Lib.hid hx0
    have HSZ := Lib.hid hsz
    clear t1 t2 hbx hat cb h0 h1 h2 h4 h5 h6 hA hx0 hsz hr
    go_upto_region 6 with (fail)
    go_cut [] (fun wx => wx = w1.setCell ⟨p, 3, none⟩ (.slice (some ⟨g, 0, none⟩) (D.burnt.trace.length + 1) cap))
    case first =>
      go_region_law ((refine step_append_run (by rfl) (by rfl) (by rfl) (by rfl) (HR.out _) ?_))
      all_goals (go_wp2_with fail; go_meet; exact rfl)
    case rest =>
      subst hcut
      generalize w1.setCell ⟨p, 3, none⟩ (.slice (some ⟨g, 0, none⟩) (D.burnt.trace.length + 1) cap) = w2 at *
      have M2 : Hid (Moved (footOf p mn ms pv tv) w w2 (footOf p mn ms pv (.slice (some ⟨g, 0, none⟩) (D.burnt.trace.length + 1) cap))) := by
        refine (Moved.of_ext (HX0.out.mono (by simp [footOf]))).trans ⟨T2.out, fun x hx => ?_⟩
        simp only [footOf, List.mem_append, List.mem_cons, List.not_mem_nil, or_false, Option.mem_toList, Value.ownBlock] at hx ⊢
        rcases hx with h | h
        · exact .inl (.inl h)
        · rcases HAT.out with h1 | h1
          · exact .inl (.inr (h1.trans h))
          · simp at h; right; omega
      clear c3 f3 HR h3 hlt hs2 T2 HAT HX0
      obtain ⟨h0, h1, h2, h3, h4, h5, h6⟩ := T1.out.cells
      have hlt := T1.out.lt p (by simp [footOf])
      have hn : p ≠ w0.heap.size := by have := HSZ.out; have := (HH.out.lt p (by simp [footOf])); omega
      have b0 : w2.cell? ⟨w0.heap.size, 0, none⟩ = some (.int .i64 e.op) := by rw [box_cell HB.out]; rfl
      have b1 : w2.cell? ⟨w0.heap.size, 1, none⟩ = some (.string ⟨e.name.toArray⟩) := by rw [box_cell HB.out]; rfl
      have b2 : w2.cell? ⟨w0.heap.size, 2, none⟩ = some (.string ⟨e.to.toArray⟩) := by rw [box_cell HB.out]; rfl
      have b3 : w2.cell? ⟨w0.heap.size, 3, none⟩ = some (.string ⟨e.data.toArray⟩) := by rw [box_cell HB.out]; rfl
      clear h1 h2 h3 h4 h5 h6
      by_cases h5 : e.op = 5
      · have h5b : (e.op == 5) = true := by simp [h5]
        have H5 := Lib.hid h5
        clear h5 b1 b2 b3
        go_wp2_with fail
        refine (clone_any mn D.now _ T1.out.now).mono ?_
        rintro r w3 ⟨rfl, hm3, hx3, hs3⟩
        obtain ⟨s1, s2⟩ := T1.out.synced hx3 hm3
        have hb := hx3.heap T1.out.box (by simp)
        have c1 : w3.cell? ⟨p, 1, none⟩ = some (.map (some ms)) := by rw [box_cell hb]; rfl
        have c2 : w3.cell? ⟨p, 2, none⟩ = some pv := by rw [box_cell hb]; rfl
        have f1 : w3.frozen? ⟨p, 1, none⟩ = false := box_free hb
        have f2 : w3.frozen? ⟨p, 2, none⟩ = false := box_free hb
        have S1 := Lib.hid s1
        have S2 := Lib.hid s2
        clear s1 s2 hb hm3 hx3 hs3
        go_wp2
        go_ret
        refine ⟨rfl, _, ⟨_, _, _, _, by rw [HDN.out, if_pos H5.out]; exact S1.out, rfl⟩, M2.out.trans ⟨S2.out.mono (by simp [footOf]), fun x hx => ?_⟩⟩
        simp only [footOf, List.mem_append, List.mem_cons, List.not_mem_nil, or_false, Value.ownBlock, Option.toList] at hx ⊢
        rcases hx with (rfl | rfl | rfl) | rfl <;> simp
      · have h5b : (e.op == 5) = false := by simp [h5]
        have H5 := Lib.hid h5
        clear h5
        go_upto_region 10 with (fail)
        go_still_tail 5, (by kernel_rfl)
        go_wp2_with fail
        refine (do_any mn D.now e _ (T1.out.now.ext (Ext.refl [] w2).drew (by simp)) HF.out (HE.out.resolve_left H5.out)).mono ?_
        rintro r w3 ⟨rfl, hm3, hx3⟩
        have hx3' : Ext [mn] w2 w3 := (Ext.refl [mn] w2).drew.trans hx3 (by simp)
        have hA3 := T1.out.nowTo hx3' hm3
        have hb3 := hx3'.heap HB.out (by have := T1.out.lt mn (by simp [footOf]); have := HSZ.out; have := HH.out.lt mn (by simp [footOf]); simp; omega)
        have M3 : Hid (Moved (footOf p mn ms pv tv) w w3 (footOf p mn ms pv (.slice (some ⟨g, 0, none⟩) (D.burnt.trace.length + 1) cap))) := M2.out.trans (Moved.of_ext (hx3'.mono (by simp [footOf])))
        have HSZ3 : w0.heap.size < w3.heap.size := heap_lt hb3
        clear b0 b1 b2 b3 hx3 hm3 hx3' h0 hlt M2 HB
        have b0 : w3.cell? ⟨w0.heap.size, 0, none⟩ = some (.int .i64 e.op) := by rw [box_cell hb3]; rfl
        have b1 : w3.cell? ⟨w0.heap.size, 1, none⟩ = some (.string ⟨e.name.toArray⟩) := by rw [box_cell hb3]; rfl
        have b2 : w3.cell? ⟨w0.heap.size, 2, none⟩ = some (.string ⟨e.to.toArray⟩) := by rw [box_cell hb3]; rfl
        have b3 : w3.cell? ⟨w0.heap.size, 3, none⟩ = some (.string ⟨e.data.toArray⟩) := by rw [box_cell hb3]; rfl
        clear hb3
        obtain ⟨h0, h1, h2, h3, h4, h5, h6⟩ := hA3.cells
        have hlt := hA3.lt p (by simp [footOf])
        obtain ⟨g4, cap4, w4, hr, c2, f2, t1, m4⟩ := pend_ahead w3 p mn ms pv _ _ e hA3 HPL.out
        have HR := Lib.hid hr
        have T4 := Lib.hid t1
        have M4 := Lib.hid m4
        clear t1 m4 h0 h1 h3 h4 h5 h6 hA3 hr T1 h5b hn
        go_upto_region 11 with (fail)
        go_cut [] (fun wx => wx = w4.setCell ⟨p, 2, none⟩ (.slice (some ⟨g4, 0, none⟩) (D.pend.length + 1) cap4))
        case first =>
          go_region_law ((refine step_append_run (by rfl) (by rfl) (by rfl) (by rfl) (HR.out _) ?_))
          all_goals (go_wp2_with fail; go_meet; exact rfl)
        case rest =>
          subst hcut
          clear c2 f2 HR h2 hlt b0 b1 b2 b3
          go_wp2
          go_ret
          exact ⟨rfl, _, ⟨_, _, _, _, by rw [HDN.out, if_neg H5.out]; exact T4.out, rfl⟩, M3.out.trans M4.out⟩

/-- What fits for 'done': the lists are short, the fuse is an int, and what is done fits. -/
structure Dk.DoFit (D : Dk) (e : Ev) : Prop where
  fuse : D.fuse ≤ 9223372036854775807
  trace : D.trace.length < 1000000000000
  pend : D.pend.length < 1000000000000
  now : D.now.length < maxLen
  ev : e.op = 5 ∨ e.Fit D.now

/-- There is a disk at p again, in blocks of F and new ones. -/
def DiskTo (F : List Nat) (w : World) (p : Nat) (w2 : World) (D : Dk) : Prop := ∃ F2, Disk w2 p F2 D ∧ Moved F w w2 F2

theorem done_any (p : Nat) (F : List Nat) (D : Dk) (e : Ev) (w : World) (h : Disk w p F D) (hf : D.DoFit e) :
    Calls Tryz.prog 59 #[.pointer (some ⟨p, 0, none⟩), e.agg] w fun r w2 => r = .returned (.int .i64 (D.done e).2) ∧ DiskTo F w p w2 (D.done e).1 := by
  obtain ⟨mn, ms, pv, tv, h, rfl⟩ := h
  by_cases hd : D.dead = true ∨ D.fuse = 0
  · have e1 : D.done e = ({ D with dead := true }, 13) := by unfold Dk.done; rw [if_pos (by simpa using hd)]
    rw [e1]
    refine (done_dead p mn ms pv tv D e w h hd).mono ?_
    rintro r w2 ⟨rfl, h2, hx⟩
    exact ⟨rfl, _, ⟨mn, ms, pv, tv, h2, rfl⟩, Moved.of_ext (hx.mono (by simp [footOf]))⟩
  · have hd' : D.dead = false := by cases hdd : D.dead <;> simp_all
    have hf0 : D.fuse ≠ 0 := fun e => hd (.inr e)
    have e1 : (D.done e).2 = 0 := by
      unfold Dk.done
      rw [if_neg (by simp [hd', hf0])]
      split <;> rfl
    rw [e1]
    exact done_live p mn ms pv tv D e w h hd' hf0 hf.fuse hf.trace hf.pend hf.now hf.ev
end Go.Proofs.YtcffickkipicbaaGreatDoor
