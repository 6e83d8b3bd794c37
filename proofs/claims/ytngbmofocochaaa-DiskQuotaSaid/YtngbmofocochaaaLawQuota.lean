/- DiskQuota's walk and its plain law: files never have more bytes than the quota let be laid. -/
import Derived.Test.YtngbmofocochaaaArgs
import Derived.Test.YtngbmofocochaaaHist
namespace Go.Proofs.Ytngbmofocochaaa
open Go.RowKit Go.Maps Go.Sort

def Fs.Fits (n : Int) (F : Fs) : Prop := F.Sorted ∧ (F.bytes : Int) ≤ n
structure Dk.Within (n : Int) (D : Dk) : Prop where
  dead : D.dead = false
  fuse : D.fuse < 0
  quota : D.quota = n
  hist : Hist (Fs.Fits n) D

theorem within_done {n : Int} {D : Dk} (h : D.Within n) (e : Ev) (hq : e.op ≠ 5 → Fs.Fits n (D.now.did e)) : (D.done e).1.Within n ∧ (D.done e).2 = 0 := by
  have hh := h.hist.done e hq
  have hd := h.dead; have hf := h.fuse; have hqu := h.quota
  unfold Dk.done at *
  rw [if_neg (by simp [hd]; omega)] at *
  have hif : (if 0 < D.fuse then D.fuse - 1 else D.fuse) = D.fuse := if_neg (by omega)
  split at hh
  · rename_i h5
    rw [if_pos h5]
    exact ⟨⟨hd, by simp only [hif]; exact hf, hqu, hh⟩, rfl⟩
  · rename_i h5
    rw [if_neg h5]
    exact ⟨⟨hd, by simp only [hif]; exact hf, hqu, hh⟩, rfl⟩

theorem fits_del {n : Int} {F : Fs} (h : F.Fits n) (k : Bs) : (F.del k).Fits n := ⟨h.1.del k, by have := bytes_del h.1 k; have := h.2; omega⟩

theorem within_play {n : Int} {D : Dk} (h : D.Within n) (x : Act11) (h5 : x.kind ≠ 5) (h6 : x.kind ≠ 6) (h8 : x.kind ≠ 8) :
    (D.play x).1.Within n ∧ ((D.play x).2 = 12 → (D.play x).1 = D ∧ n < (D.now.bytes : Int) + x.b.length) := by
  have hg := h.hist.good
  unfold Dk.play
  split
  · unfold Dk.write
    split
    · split
      · exact ⟨h, fun e => by simp at e⟩
      · split
        · rename_i hq
          refine ⟨h, fun _ => ⟨rfl, ?_⟩⟩
          have := h.quota
          omega
        · rename_i hq
          obtain ⟨h1, h2⟩ := within_done h ⟨1, x.a, [], x.b⟩ (fun _ => by
            have hp := bytes_put hg.1 x.a x.b
            have := h.quota
            refine ⟨hg.1.did _, ?_⟩
            simp only [Fs.did, if_true]
            omega)
          exact ⟨h1, fun e => by rw [h2] at e; simp at e⟩
    · exact ⟨h, fun e => by simp at e⟩
  · split
    · unfold Dk.append
      split
      · split
        · rename_i hq
          refine ⟨h, fun _ => ⟨rfl, ?_⟩⟩
          have := h.quota
          omega
        · rename_i hq
          obtain ⟨h1, h2⟩ := within_done h ⟨2, x.a, [], x.b⟩ (fun _ => by
            have hp := bytes_put hg.1 x.a ((D.now.get x.a).getD [] ++ x.b)
            have := h.quota
            refine ⟨hg.1.did _, ?_⟩
            simp only [Fs.did]
            rw [List.length_append] at hp
            simp
            omega)
          exact ⟨h1, fun e => by rw [h2] at e; simp at e⟩
      · exact ⟨h, fun e => by simp at e⟩
    · split
      · unfold Dk.rename
        split
        · split
          · obtain ⟨h1, h2⟩ := within_done h ⟨3, x.a, x.b, []⟩ (fun _ => by
              have hp := bytes_put (hg.1.del x.a) x.b ((D.now.get x.a).getD [])
              have hd := bytes_del hg.1 x.a
              have := hg.2
              refine ⟨hg.1.did _, ?_⟩
              simp only [Fs.did]
              simp
              omega)
            exact ⟨h1, fun e => by rw [h2] at e; simp at e⟩
          · exact ⟨h, fun e => by simp at e⟩
        · exact ⟨h, fun e => by simp at e⟩
      · split
        · unfold Dk.remove
          split
          · obtain ⟨h1, h2⟩ := within_done h ⟨4, x.a, [], []⟩ (fun _ => by
              have := fits_del hg x.a
              simpa [Fs.did] using this)
            exact ⟨h1, fun e => by rw [h2] at e; simp at e⟩
          · exact ⟨h, fun e => by simp at e⟩
        · split
          · obtain ⟨h1, h2⟩ := within_done h ⟨5, [], [], []⟩ (fun e => absurd rfl e)
            exact ⟨h1, fun e => by unfold Dk.sync at e; rw [h2] at e; simp at e⟩
          · split
            · exact ⟨⟨rfl, by simp [Dk.crash], h.quota, h.hist.crash x.n⟩, fun e => by simp at e⟩
            · exact ⟨h, fun e => by simp at e⟩

set_option maxRecDepth 100000 in
set_option maxHeartbeats 4000000 in
theorem diskQuota_walk (v0 : Value) (l : List Act11) (n : Int) (w : World) (ha : ActsAt w v0 l) (hn : 0 ≤ n ∧ n ≤ 65535) :
    Calls Try.prog 6 #[v0, .int .u16 n] w fun e w2 => e = .returned (.bool true) ∧ Ext [] w w2 := by
  obtain ⟨a0, cap0, rfl, hcells⟩ := acts_view ha
  have HC := Lib.hid hcells
  clear ha hcells
  go_enter Try.func6, Try.ntmps6
  go_wp2_with fail
  refine (awake_any w).mono ?_
  rintro r w1 ⟨rfl, hx1⟩
  have X1 := Lib.hid hx1
  clear hx1
  obtain ⟨hn1, hn2⟩ := hn
  go_wp2_with fail
  refine (new_any w1).mono ?_
  rintro r w2 ⟨p, F0, rfl, hd, hx, hk⟩
  have L0 : Hid (Lives w w2 p F0 Dk.new) := ⟨hd, X1.out.trans hx (by simp), fun x hh => by have := hk x hh; have := X1.out.size; omega⟩
  clear hd hx hk
  go_wp2_with fail
  refine (quota_any p F0 Dk.new n w2 L0.out.disk).mono ?_
  rintro r w2b ⟨rfl, hdq, hxq⟩
  have L0b := Lib.hid (L0.out.step (Moved.of_ext hxq) hdq)
  have HW0 : Hid (Dk.Within n { Dk.new with quota := max n 0 }) := ⟨rfl, by simp [Dk.new], by simp only; omega, ⟨fun k => by simp [Dk.replay, Dk.new, Fs.Fits, Fs.Sorted, Fs.bytes]; omega, rfl⟩⟩
  have HO0 : Hid (Dk.Ok { Dk.new with quota := max n 0 } 0) := ⟨ok_new.fuse, ok_new.trace, ok_new.now, ok_new.sure, ok_new.nowU, ok_new.sureU, ok_new.pendE⟩
  clear hdq hxq L0 hn1
  go_wp2_with fail
  go_loopw [6] (fun i wr => ∃ k : Nat, i = .int .i64 k ∧ k ≤ 100 ∧ ∃ F D, Lives w wr p F D ∧ D.Ok (1300 * k) ∧ D.Within n) (fun i _ => 100 - (intOf i).toNat)
  case atStart => exact ⟨0, rfl, by omega, F0, _, L0b.out, HO0.out, HW0.out⟩
  case round =>
    obtain ⟨k, rfl, hk, F, D, hL, hO, hWi⟩ := hrel
    have HL := Lib.hid hL
    have HO := Lib.hid hO
    have HWI := Lib.hid hWi
    clear hL hO X1 hWi
    by_cases hk1 : k < l.length
    · by_cases hk2 : k < 100
      · obtain ⟨hwf, hll, b, off, rfl, c0, c1, c2, c3⟩ := HC.out wr HL.out.ext k hk1
        unfold maxLen at hll
        generalize l[k] = x at *
        have HWF := Lib.hid hwf
        clear hwf
        have hbx : (wr.alloc (actBox x)).heap[wr.heap.size]? = some (actBox x) := heap_alloc_new _ _
        have HB0 := Lib.hid hbx
        have L1 : Hid (Lives w (wr.alloc (actBox x)) p F D) := HL.out.more ((Ext.refl [] wr).alloc _)
        have HN : Hid (wr.heap.size ∉ F) := fun h => Nat.lt_irrefl _ (HL.out.disk.lt _ h)
        clear hbx
        go_wp2_with fail
        refine (large_any x _ HWF.out.a HWF.out.b).mono ?_
        rintro r w3 ⟨rfl, hx3⟩
        have L3 := Lib.hid (L1.out.more hx3)
        have HB3 := Lib.hid (hx3.heap HB0.out (by simp))
        clear hx3 c0 c1 c2 c3 HB0 L1

        by_cases hlg : x.large = true
        · go_wp2
          go_ret
          exact ⟨rfl, L3.out.ext⟩
        · have hlg : x.large = false := by simpa using hlg
          generalize hN : wr.heap.size = N at *
          have HSM : Hid D.Small := HO.out.small (by omega)
          have b0 : w3.cell? ⟨N, 0, none⟩ = some (.int .i64 x.kind) := by rw [box_cell HB3.out]; rfl
          have b1 : w3.cell? ⟨N, 1, none⟩ = some (.int .i64 x.n) := by rw [box_cell HB3.out]; rfl
          have b2 : w3.cell? ⟨N, 2, none⟩ = some (.string ⟨x.a.toArray⟩) := by rw [box_cell HB3.out]; rfl
          have b3 : w3.cell? ⟨N, 3, none⟩ = some (.string ⟨x.b.toArray⟩) := by rw [box_cell HB3.out]; rfl
          by_cases hskip : x.kind = 5 ∨ x.kind = 6 ∨ x.kind = 8
          · have HL3 : Hid (D.Ok (1300 * (k + 1))) := HO.out.mono (by omega)
            rcases hskip with hs | hs | hs
            all_goals
              rw [hs] at b0
              go_wp2_with fail
              go_roundw
              case rel => exact ⟨k + 1, by go_num, by omega, F, D, L3.out, HL3.out, HWI.out⟩
              case measure => simp [intOf]; omega
          · have s5 : (x.kind == 5) = false := beq_eq_false_iff_ne.2 (by omega)
            have s6 : (x.kind == 6) = false := beq_eq_false_iff_ne.2 (by omega)
            have s8 : (x.kind == 8) = false := beq_eq_false_iff_ne.2 (by omega)
            have HPW := Lib.hid (within_play HWI.out x (by omega) (by omega) (by omega))
            clear hskip
            go_wp2_with fail
            refine (size_l L3 HSM).mono ?_
            rintro r w4 ⟨rfl, L4, X4⟩
            have HB4 := Lib.hid (X4.out.heap HB3.out (by simp))
            clear b0 b1 b2 b3 HB3 L3 X4
            go_wp2_with fail
            refine (trace_l L4 HSM).mono ?_
            rintro r w5 ⟨at5, cp5, rfl, L5, X5⟩
            have HB5 := Lib.hid (X5.out.heap HB4.out (by simp))
            clear HB4 L4 X5
            have b0 : w5.cell? ⟨N, 0, none⟩ = some (.int .i64 x.kind) := by rw [box_cell HB5.out]; rfl
            have b1 : w5.cell? ⟨N, 1, none⟩ = some (.int .i64 x.n) := by rw [box_cell HB5.out]; rfl
            have b2 : w5.cell? ⟨N, 2, none⟩ = some (.string ⟨x.a.toArray⟩) := by rw [box_cell HB5.out]; rfl
            have b3 : w5.cell? ⟨N, 3, none⟩ = some (.string ⟨x.b.toArray⟩) := by rw [box_cell HB5.out]; rfl
            go_wp2_with fail
            refine (play_any p F D x _ L5.out.disk (HO.out.playFit (by omega) hlg)).mono ?_
            clear b0 b1 b2 b3
            have HO6 : Hid ((D.play x).1.Ok (1300 * (k + 1))) := HO.out.play hlg HWF.out.n2
            generalize hpl : D.play x = pl at *
            obtain ⟨D2, c⟩ := pl
            clear hpl
            rintro r w6 ⟨rfl, F2, hd6, hm6⟩
            have L6 := Lib.hid (L5.out.step hm6 hd6)
            have HB6 := Lib.hid (hm6.ext.heap HB5.out HN.out)
            clear hd6 hm6 L5 HB5 s5 s6 s8
            simp only at HPW HO6 L6 ⊢
            have HSM2 : Hid D2.Small := HO6.out.small (by omega)
            have b0 : w6.cell? ⟨N, 0, none⟩ = some (.int .i64 x.kind) := by rw [box_cell HB6.out]; rfl
            have b1 : w6.cell? ⟨N, 1, none⟩ = some (.int .i64 x.n) := by rw [box_cell HB6.out]; rfl
            have b2 : w6.cell? ⟨N, 2, none⟩ = some (.string ⟨x.a.toArray⟩) := by rw [box_cell HB6.out]; rfl
            have b3 : w6.cell? ⟨N, 3, none⟩ = some (.string ⟨x.b.toArray⟩) := by rw [box_cell HB6.out]; rfl
            have q0 : (D2.now.bytes : Int) ≤ n := HPW.out.1.hist.good.2
            have hlb : (x.b.length : Int) ≤ 1000 := by simp [Act11.large] at hlg; omega
            have hsb : (D.now.bytes : Int) ≤ 65535 := by have := HWI.out.hist.good.2; omega
            clear b1 b2 hlg
            by_cases h12 : c = 12
            · obtain ⟨rfl, q1⟩ := HPW.out.2 h12
              have c12 : (c == 12) = true := by simp [h12]
              clear h12
              by_cases h7 : x.kind = 7
              · have k7 : (x.kind != 7) = false := by simp [h7]
                clear h7
                go_wp2_with (first | (go_at_call 12; refine (trace_l ‹Hid (Lives w _ p F2 D2)› HSM2).mono ?_; rintro r wz ⟨atz, cpz, rfl, LZ, XZ⟩; have bz := XZ.out.cell (p := ⟨N, 3, none⟩) (v := .string ⟨x.b.toArray⟩) (by assumption) (by simp)) | (go_at_call 19; refine (size_l ‹Hid (Lives w _ p F2 D2)› HSM2).mono ?_; rintro r wz ⟨rfl, LZ, XZ⟩; have bz := XZ.out.cell (p := ⟨N, 3, none⟩) (v := .string ⟨x.b.toArray⟩) (by assumption) (by simp)))
                all_goals
                  go_roundw
                  case rel => exact ⟨k + 1, by go_num, by omega, F2, D2, ‹Hid (Lives w _ p F2 D2)›.out, HO6.out, HPW.out.1⟩
                  case measure => simp [intOf]; omega
              · have k7 : (x.kind != 7) = true := by simp [h7]
                clear h7
                go_wp2_with (first | (go_at_call 12; refine (trace_l ‹Hid (Lives w _ p F2 D2)› HSM2).mono ?_; rintro r wz ⟨atz, cpz, rfl, LZ, XZ⟩; have bz := XZ.out.cell (p := ⟨N, 3, none⟩) (v := .string ⟨x.b.toArray⟩) (by assumption) (by simp)) | (go_at_call 19; refine (size_l ‹Hid (Lives w _ p F2 D2)› HSM2).mono ?_; rintro r wz ⟨rfl, LZ, XZ⟩; have bz := XZ.out.cell (p := ⟨N, 3, none⟩) (v := .string ⟨x.b.toArray⟩) (by assumption) (by simp)))
                all_goals
                  go_roundw
                  case rel => exact ⟨k + 1, by go_num, by omega, F2, D2, ‹Hid (Lives w _ p F2 D2)›.out, HO6.out, HPW.out.1⟩
                  case measure => simp [intOf]; omega
            · have c12 : (c == 12) = false := beq_eq_false_iff_ne.2 h12
              clear h12
              by_cases h7 : x.kind = 7
              · have k7 : (x.kind != 7) = false := by simp [h7]
                clear h7
                go_wp2_with (first | (go_at_call 12; refine (trace_l ‹Hid (Lives w _ p F2 D2)› HSM2).mono ?_; rintro r wz ⟨atz, cpz, rfl, LZ, XZ⟩; have bz := XZ.out.cell (p := ⟨N, 3, none⟩) (v := .string ⟨x.b.toArray⟩) (by assumption) (by simp)) | (go_at_call 19; refine (size_l ‹Hid (Lives w _ p F2 D2)› HSM2).mono ?_; rintro r wz ⟨rfl, LZ, XZ⟩; have bz := XZ.out.cell (p := ⟨N, 3, none⟩) (v := .string ⟨x.b.toArray⟩) (by assumption) (by simp)))
                all_goals
                  go_roundw
                  case rel => exact ⟨k + 1, by go_num, by omega, F2, D2, ‹Hid (Lives w _ p F2 D2)›.out, HO6.out, HPW.out.1⟩
                  case measure => simp [intOf]; omega
              · have k7 : (x.kind != 7) = true := by simp [h7]
                clear h7
                go_wp2_with (first | (go_at_call 12; refine (trace_l ‹Hid (Lives w _ p F2 D2)› HSM2).mono ?_; rintro r wz ⟨atz, cpz, rfl, LZ, XZ⟩; have bz := XZ.out.cell (p := ⟨N, 3, none⟩) (v := .string ⟨x.b.toArray⟩) (by assumption) (by simp)) | (go_at_call 19; refine (size_l ‹Hid (Lives w _ p F2 D2)› HSM2).mono ?_; rintro r wz ⟨rfl, LZ, XZ⟩; have bz := XZ.out.cell (p := ⟨N, 3, none⟩) (v := .string ⟨x.b.toArray⟩) (by assumption) (by simp)))
                all_goals
                  go_roundw
                  case rel => exact ⟨k + 1, by go_num, by omega, F2, D2, ‹Hid (Lives w _ p F2 D2)›.out, HO6.out, HPW.out.1⟩
                  case measure => simp [intOf]; omega
      · have hk100 : k = 100 := by omega
        subst hk100
        go_wp2_with fail
        go_ret
        exact ⟨rfl, HL.out.ext⟩
    · go_wp2_with fail
      go_ret
      exact ⟨rfl, HL.out.ext⟩
end Go.Proofs.Ytngbmofocochaaa
