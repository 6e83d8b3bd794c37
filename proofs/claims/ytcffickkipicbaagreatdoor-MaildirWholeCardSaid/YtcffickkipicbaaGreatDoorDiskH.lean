/- disk: Crash. Conditions: the lengths fit. -/
import Derived.Test.YtcffickkipicbaaGreatDoorDiskG
import Derived.Deep.QuietTactic
import Derived.BigQuiet
set_option linter.unusedSimpArgs false
set_option linter.unusedVariables false
set_option linter.unnecessarySimpa false
namespace Go.Proofs.YtcffickkipicbaaGreatDoor
open Go.RowKit Go.Maps

def Dk.replay (D : Dk) (k : Nat) : Fs := (D.pend.take k).foldl Fs.did D.sure
def Dk.crash (D : Dk) (n : Int) : Dk := { D with now := D.replay n.toNat, sure := D.replay n.toNat, pend := [], dead := false, fuse := -1 }
def Dk.CrashFit (D : Dk) : Prop := D.pend.length < 1000000000000 ∧ ∀ j, (h : j < D.pend.length) → (D.pend[j]).Fit (D.replay j) ∧ (D.replay j).length < maxLen

theorem DiskAt.nowClone {w w1 : World} {p mn ms : Nat} {pv tv : Value} {D : Dk} (h : DiskAt w p mn ms pv tv D) (hx : Ext [] w w1) (hm : MapA w1 w.heap.size D.sure) :
    DiskAt (w1.setCell ⟨p, 0, none⟩ (.map (some w.heap.size))) p w.heap.size ms pv tv { D with now := D.sure } ∧ Moved (footOf p mn ms pv tv) w (w1.setCell ⟨p, 0, none⟩ (.map (some w.heap.size))) (footOf p w.heap.size ms pv tv) := by
  obtain ⟨a1, a2, a3, a4, a5, a6, a7, a8, a9, a10⟩ := apart_parts h.apart
  have hlt := h.lt
  have lp := hlt p (by simp [footOf]); have lms := hlt ms (by simp [footOf])
  have ltv : ∀ k, tv.ownBlock = some k → k < w.heap.size := fun k hk => hlt k (by simp [footOf, hk])
  have lpv : ∀ k, pv.ownBlock = some k → k < w.heap.size := fun k hk => hlt k (by simp [footOf, hk])
  have x2 : Ext [p] w1 (w1.setCell ⟨p, 0, none⟩ (.map (some w.heap.size))) := (Ext.refl [p] w1).setCell (by simp) _
  refine ⟨⟨?_, ?_, ?_, ?_, ?_, ?_⟩, ⟨?_, fun x hx => ?_⟩⟩
  · have hb := hx.heap h.box (by simp)
    rw [heap_setCell_same hb _]; rfl
  · exact hm.ext x2 (by simp; omega)
  · exact (h.sure.ext hx (by simp)).ext x2 (by simpa using Ne.symm a2)
  · exact row_ext (row_ext h.pend hx (by simp)) x2 (fun k hk => by simp; rintro rfl; exact a4 hk)
  · exact row_ext (row_ext h.trace hx (by simp)) x2 (fun k hk => by simp; rintro rfl; exact a5 hk)
  · refine apart_mk ⟨by omega, a2, by omega, a4, a5, fun e => by have := lpv _ e; omega, fun e => by have := ltv _ e; omega, a8, a9, a10⟩
  · exact (hx.mono (by simp)).trans x2 (by simp [footOf])
  · simp only [footOf, List.mem_append, List.mem_cons, List.not_mem_nil, or_false, Option.mem_toList] at hx ⊢
    rcases hx with ((rfl | rfl | rfl) | hx) | hx
    · simp
    · simp
    · simp
    · simp [hx]
    · simp [hx]

set_option maxRecDepth 100000 in
set_option maxHeartbeats 2000000 in
theorem crash_any (p : Nat) (F : List Nat) (D : Dk) (n : Int) (w : World) (h : Disk w p F D) (hf : D.CrashFit) :
    Calls Tryz.prog 30 #[.pointer (some ⟨p, 0, none⟩), .int .i64 n] w fun r w2 => r = .returned (.tuple #[]) ∧ DiskTo F w p w2 (D.crash n) := by
  obtain ⟨mn, ms, pv, tv, h, rfl⟩ := h
  have H := Lib.hid h
  have HF := Lib.hid hf
  obtain ⟨h0, h1, h2, h3, h4, h5, h6⟩ := h.cells
  clear h hf h0 h2 h3 h4 h5 h6
  go_enter Tryz.func30, Tryz.ntmps30
  go_wp2_with fail
  refine (clone_any ms D.sure _ H.out.sure).mono ?_
  rintro r w1 ⟨rfl, hm1, hx1, hs1⟩
  obtain ⟨n1, m1⟩ := H.out.nowClone hx1 hm1
  have hb := hx1.heap H.out.box (by simp)
  have c0 : w1.cell? ⟨p, 0, none⟩ = some (.map (some mn)) := by rw [box_cell hb]; rfl
  have f0 : w1.frozen? ⟨p, 0, none⟩ = false := box_free hb
  have N1 := Lib.hid n1
  have M1 := Lib.hid m1
  clear hb hm1 hx1 hs1 n1 m1 h1
  go_upto_region 1 with (fail)
  generalize w1.setCell ⟨p, 0, none⟩ (.map (some w.heap.size)) = w2 at *
  generalize w.heap.size = m2 at N1 M1
  clear c0 f0
  obtain ⟨h0, h1, h2, h3, h4, h5, h6⟩ := N1.out.cells
  clear h0 h1 h3 h4 h5 h6
  have hpv := N1.out.pend.2
  obtain ⟨k, hk⟩ : ∃ k : Nat, k = min n.toNat D.pend.length := ⟨_, rfl⟩
  have HK : Hid (D.replay n.toNat = D.replay k ∧ k ≤ D.pend.length) := by
    refine ⟨?_, by omega⟩
    unfold Dk.replay
    rw [hk]
    rcases Nat.le_total n.toNat D.pend.length with h | h
    · rw [Nat.min_eq_left h]
    · rw [Nat.min_eq_right h, List.take_of_length_le (Nat.le_refl _), List.take_of_length_le h]
  go_cut [26, 27, 28] (fun a b c wx => ((a = .slice none 0 0 ∧ k = 0) ∨ ∃ g cap, a = .slice (some ⟨g, 0, none⟩) k cap ∧ pv = .slice (some ⟨g, 0, none⟩) D.pend.length cap) ∧ b = .int .i64 k ∧ c = .int .i64 0 ∧ Ext [] w2 wx)
  case first =>
    rcases hpv with ⟨rfl, hn0⟩ | ⟨g, cap, cur, rfl, _, hg, hnc, hcm, hcs, htk⟩
    · have hk0 : Hid (k = 0) := by simp only at hn0; unfold Hid; omega
      have HN0 := Lib.hid hn0
      clear hk hn0
      go_quiet (fail)
      go_wp2_with fail
      go_meet
      rw [hk0.out]
      exact ⟨by simp; omega, congrArg (Value.int .i64) (by simp; omega), rfl, ((Ext.refl [] w2).drewN _)⟩
    · simp only at hg hnc hcm
      have hcm' : (cap : Int) ≤ 9223372036854775807 := by unfold maxLen at hcm; omega
      have HK0 := Lib.hid hk
      clear hcm hg hcs htk hk
      go_quiet (fail)
      go_wp2_with fail
      go_meet
      have hk := HK0.out
      refine ⟨.inr ⟨g, cap, ?_, rfl⟩, congrArg (Value.int .i64) (by omega), rfl, ((Ext.refl [] w2).drewN _)⟩
      congr 1
      omega
  case rest =>
    obtain ⟨hsv, rfl, rfl, hx2⟩ := hcut
    have HSV := Lib.hid hsv
    have N3 : Hid (DiskAt wc p m2 ms pv tv { D with now := D.sure }) := N1.out.ext hx2 (by simp)
    have M3 : Hid (Moved (footOf p mn ms pv tv) w wc (footOf p m2 ms pv tv)) := M1.out.trans (Moved.of_new hx2)
    have hk63 : (k : Int) ≤ 1000000000000 := by have := HK.out.2; have := HF.out.1; omega
    clear hsv hx2 hpv N1 M1 h2 hk
    generalize hwc : wc = w3 at *
    clear hwc
    go_wp2_with fail
    go_loopw [28] (fun c wr => ∃ j : Nat, j ≤ k ∧ c = .int .i64 j ∧ DiskAt wr p m2 ms pv tv { D with now := D.replay j } ∧ Moved (footOf p mn ms pv tv) w wr (footOf p m2 ms pv tv)) (fun c _ => k - (intOf c).toNat)
    case atStart => exact ⟨0, Nat.zero_le _, rfl, N3.out, M3.out⟩
    case round =>
      obtain ⟨j, hj, rfl, hA, hM⟩ := hrel
      have HA := Lib.hid hA
      have HM := Lib.hid hM
      by_cases hlt : j < k
      · rcases HSV.out with ⟨_, h0⟩ | ⟨g, cap, rfl, rfl⟩
        · exact absurd h0 (by omega)
        have hjl : j < D.pend.length := by have := HK.out.2; omega
        obtain ⟨e0, e1, e2, e3⟩ := Evs.at hA.pend j hjl
        have hsucc : Hid (D.replay (j + 1) = (D.replay j).did D.pend[j]) := by
          unfold Dk.replay Hid
          rw [List.take_succ_eq_append_getElem hjl, List.foldl_append]
          rfl
        obtain ⟨hfit, hflen⟩ := HF.out.2 j hjl
        have HFIT := Lib.hid hfit
        have HFLEN := Lib.hid hflen
        generalize D.pend[j] = e at *
        obtain ⟨h0, h1, h2, h3, h4, h5, h6⟩ := hA.cells
        have hlt0 := hA.lt p (by simp [footOf])
        have HB : Hid (DiskAt (wr.alloc (evBox e)) p m2 ms (.slice (some ⟨g, 0, none⟩) D.pend.length cap) tv { D with now := D.replay j }) := hA.alloc _
        clear hA hM hfit hflen h1 h2 h3 h4 h5 h6 hjl
        go_upto_region 4 with (fail)
        clear e0 e1 e2 e3 h0
        have h0 := HB.out.cells.1
        have b0 : (wr.alloc (evBox e)).cell? ⟨wr.heap.size, 0, none⟩ = some (.int .i64 e.op) := by simp
        have b1 : (wr.alloc (evBox e)).cell? ⟨wr.heap.size, 1, none⟩ = some (.string ⟨e.name.toArray⟩) := by simp
        have b2 : (wr.alloc (evBox e)).cell? ⟨wr.heap.size, 2, none⟩ = some (.string ⟨e.to.toArray⟩) := by simp
        have b3 : (wr.alloc (evBox e)).cell? ⟨wr.heap.size, 3, none⟩ = some (.string ⟨e.data.toArray⟩) := by simp
        have MB : Hid (Moved (footOf p mn ms (.slice (some ⟨g, 0, none⟩) D.pend.length cap) tv) w (wr.alloc (evBox e)) (footOf p m2 ms (.slice (some ⟨g, 0, none⟩) D.pend.length cap) tv)) := HM.out.trans (Moved.of_new ((Ext.refl [] wr).alloc _))
        generalize wr.alloc (evBox e) = wB at *
        go_still_tail 5, (by kernel_rfl)
        go_wp2_with fail
        refine (do_any m2 (D.replay j) e _ (HB.out.now.ext (Ext.refl [] _).drew (by simp)) HFLEN.out HFIT.out).mono ?_
        rintro r w4 ⟨rfl, hm4, hx4⟩
        have hx4' : Ext [m2] wB w4 := (Ext.refl [m2] _).drew.trans hx4 (by simp)
        have H4 : Hid (DiskAt w4 p m2 ms (.slice (some ⟨g, 0, none⟩) D.pend.length cap) tv { D with now := D.replay (j + 1) }) := by rw [hsucc.out]; exact HB.out.nowTo hx4' hm4
        have M4 : Hid (Moved (footOf p mn ms (.slice (some ⟨g, 0, none⟩) D.pend.length cap) tv) w w4 (footOf p m2 ms (.slice (some ⟨g, 0, none⟩) D.pend.length cap) tv)) :=
          MB.out.trans (Moved.of_ext (hx4'.mono (by simp [footOf])))
        clear hm4 hx4 hx4' h0 hlt0 b0 b1 b2 b3
        go_wp2
        go_roundw
        case rel => exact ⟨j + 1, by omega, by go_num, H4.out, M4.out⟩
        case measure => simp [intOf]; omega
      · have hjk : j = k := by omega
        have h4 := hA
        rw [hjk, ← HK.out.1] at h4
        clear hA hM hjk
        have H4 := Lib.hid h4
        obtain ⟨h0, h1, h2, h3, h4, h5, h6⟩ := h4.cells
        clear h1 h2 h3 h4 h5 h6
        go_wp2_with fail
        refine (clone_any m2 (D.replay n.toNat) _ H4.out.now).mono ?_
        rintro r w5 ⟨rfl, hm5, hx5, hs5⟩
        obtain ⟨s1, s2⟩ := H4.out.synced hx5 hm5
        have s3 := s1.setNum D.quota D.fuse false 6 (.bool false) (by simp [diskCells])
        have s4 := s3.setNum D.quota (-1) false 5 (.int .i64 (-1)) (by simp [diskCells])
        have hb := hx5.heap H4.out.box (by simp)
        have c1 : w5.cell? ⟨p, 1, none⟩ = some (.map (some ms)) := by rw [box_cell hb]; rfl
        have c2 : w5.cell? ⟨p, 2, none⟩ = some pv := by rw [box_cell hb]; rfl
        have c5 : w5.cell? ⟨p, 5, none⟩ = some (.int .i64 D.fuse) := by rw [box_cell hb]; rfl
        have c6 : w5.cell? ⟨p, 6, none⟩ = some (.bool D.dead) := by rw [box_cell hb]; rfl
        have fz : ∀ o, w5.frozen? ⟨p, o, none⟩ = false := fun o => box_free hb
        have x4 := fun W : World => ((Ext.refl [p] W).setCell (p := ⟨p, 6, none⟩) (by simp) (.bool false)).setCell (p := ⟨p, 5, none⟩) (by simp) (.int .i64 (-1))
        have S4 := Lib.hid s4
        have X4 := Lib.hid (s2.trans (x4 _) (by simp))
        clear s1 s2 s3 s4 hb hm5 hx5 hs5 h0 x4
        go_wp2
        go_end0
        refine ⟨rfl, _, ⟨_, _, _, _, S4.out, rfl⟩, HM.out.trans ⟨X4.out.mono (by simp [footOf]), fun x hx => ?_⟩⟩
        simp only [footOf, List.mem_append, List.mem_cons, List.not_mem_nil, or_false, Value.ownBlock, Option.toList] at hx ⊢
        rcases hx with (rfl | rfl | rfl) | hx
        · simp
        · simp
        · simp
        · simp [hx]
end Go.Proofs.YtcffickkipicbaaGreatDoor
