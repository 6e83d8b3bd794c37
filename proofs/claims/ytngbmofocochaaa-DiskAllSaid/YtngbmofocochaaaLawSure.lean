/- DiskSure's walk: what was synced stays, with a beginning of what was done since. -/
import Derived.Test.YtngbmofocochaaaLawNames
import Derived.Test.YtngbmofocochaaaSure
namespace Go.Proofs.Ytngbmofocochaaa
open Go.RowKit Go.Maps Go.Sort

theorem Lives.beside {w0 w w2 : World} {p : Nat} {F G : List Nat} {D : Dk} (h : Lives w0 w p F D) (hx : Ext G w w2) (hG : ∀ g ∈ G, g ∉ F ∧ w0.heap.size ≤ g) : Lives w0 w2 p F D :=
  ⟨h.disk.ext hx (fun x hf hg => (hG x hg).1 hf), h.ext.trans hx (fun x hg => .inr (hG x hg).2), h.new⟩
theorem keys_len_le (F : Fs) : F.keys.length = F.length := keys_length F

set_option maxRecDepth 100000 in
set_option maxHeartbeats 4000000 in
theorem diskSure_walk (v0 : Value) (l : List Act11) (n : Int) (w : World) (ha : ActsAt w v0 l) (hn : -9223372036854775808 ≤ n ∧ n ≤ 9223372036854775807) :
    Calls Try.prog 3 #[v0, .int .i64 n] w fun e w2 => e = .returned (.bool true) ∧ Ext [] w w2 := by
  obtain ⟨a0, cap0, rfl, hcells⟩ := acts_view ha
  have HC := Lib.hid hcells
  clear ha hcells
  go_enter Try.func3, Try.ntmps3
  go_wp2_with fail
  refine (awake_any w).mono ?_
  rintro r w1 ⟨rfl, hx1⟩
  have X1 := Lib.hid hx1
  clear hx1
  go_wp2_with fail
  refine (new_any w1).mono ?_
  rintro r w2 ⟨p, F0, rfl, hd, hx, hk⟩
  have L0 : Hid (Lives w w2 p F0 Dk.new) := ⟨hd, X1.out.trans hx (by simp), fun x hh => by have := hk x hh; have := X1.out.size; omega⟩
  clear hd hx hk
  go_wp2_with fail
  go_loopw [6, 7] (fun s i wr => ∃ (k last : Nat), i = .int .i64 k ∧ s = .int .i64 last ∧ k ≤ 100 ∧ ∃ F D, Lives w wr p F D ∧ D.Ok (1300 * k) ∧ SInv D last k) (fun _ i _ => 100 - (intOf i).toNat)
  case atStart => exact ⟨0, 0, rfl, rfl, by omega, F0, _, L0.out, ok_new, SInv.new⟩
  case round =>
    obtain ⟨k, last, rfl, rfl, hk, F, D, hL, hO, hS⟩ := hrel
    have HL := Lib.hid hL
    have HO := Lib.hid hO
    have HS := Lib.hid hS
    clear hL hO X1 hS
    by_cases hcont : k < l.length ∧ k < 100
    · obtain ⟨hk1, hk2⟩ := hcont
      obtain ⟨hwf, hll, b, off, rfl, c0, c1, c2, c3⟩ := HC.out wr HL.out.ext k hk1
      unfold maxLen at hll
      generalize l[k] = x at *
      have HWF := Lib.hid hwf
      clear hwf
      have hbx : (wr.alloc (actBox x)).heap[wr.heap.size]? = some (actBox x) := heap_alloc_new _ _
      have HB0 := Lib.hid hbx
      have L1 : Hid (Lives w (wr.alloc (actBox x)) p F D) := HL.out.more ((Ext.refl [] wr).alloc _)
      have HN : Hid (wr.heap.size ∉ F) := fun h => Nat.lt_irrefl _ (HL.out.disk.lt _ h)
      clear hbx
      go_wp2_with fail
      refine (large_any x _ HWF.out.a HWF.out.b).mono ?_
      rintro r w3 ⟨rfl, hx3⟩
      have L3 := Lib.hid (L1.out.more hx3)
      have HB3 := Lib.hid (hx3.heap HB0.out (by simp))
      clear hx3 c0 c1 c2 c3 HB0 L1

      by_cases hlg : x.large = true
      · go_wp2
        go_ret
        exact ⟨rfl, L3.out.ext⟩
      · have hlg : x.large = false := by simpa using hlg
        generalize hN : wr.heap.size = N at *
        have HSM : Hid D.Small := HO.out.small (by omega)
        have b0 : w3.cell? ⟨N, 0, none⟩ = some (.int .i64 x.kind) := by rw [box_cell HB3.out]; rfl
        have b1 : w3.cell? ⟨N, 1, none⟩ = some (.int .i64 x.n) := by rw [box_cell HB3.out]; rfl
        have b2 : w3.cell? ⟨N, 2, none⟩ = some (.string ⟨x.a.toArray⟩) := by rw [box_cell HB3.out]; rfl
        have b3 : w3.cell? ⟨N, 3, none⟩ = some (.string ⟨x.b.toArray⟩) := by rw [box_cell HB3.out]; rfl
        by_cases hk5 : 5 ≤ x.kind
        · have HL3 : Hid (D.Ok (1300 * (k + 1))) := HO.out.mono (by omega)
          go_wp2_with fail
          go_roundw
          case rel => exact ⟨k + 1, last, by go_num, rfl, by omega, F, D, L3.out, HL3.out, HS.out.mono⟩
          case measure => simp [intOf]; omega
        · have hk5' : x.kind < 5 := by omega
          have HSP := Lib.hid (HS.out.play x hlg hk5')
          go_wp2_with fail
          refine (play_any p F D x _ L3.out.disk (HO.out.playFit (by omega) hlg)).mono ?_
          clear b0 b1 b2 b3
          have HO6 : Hid ((D.play x).1.Ok (1300 * (k + 1))) := HO.out.play hlg HWF.out.n2
          generalize hpl : D.play x = pl at *
          obtain ⟨D2, c⟩ := pl
          clear hpl
          rintro r w6 ⟨rfl, F2, hd6, hm6⟩
          have L6 := Lib.hid (L3.out.step hm6 hd6)
          have HB6 := Lib.hid (hm6.ext.heap HB3.out HN.out)
          clear hd6 hm6 L3 HB3 hk5
          simp only at HSP HO6 L6 ⊢
          have HSM2 : Hid D2.Small := HO6.out.small (by omega)
          have b0 : w6.cell? ⟨N, 0, none⟩ = some (.int .i64 x.kind) := by rw [box_cell HB6.out]; rfl
          by_cases hc4 : c = 0 ∧ x.kind = 4
          · have hs := HSP.out
            rw [if_pos hc4] at hs
            have HS2 := Lib.hid hs
            have q1 : (c == 0) = true := by simp [hc4.1]
            have q2 : (x.kind == 4) = true := by simp [hc4.2]
            clear hs hc4 HSP
            go_wp2_with fail
            refine (trace_l L6 HSM2).mono ?_
            rintro r w7 ⟨at7, cp7, rfl, L7, X7⟩
            go_wp2_with fail
            go_roundw
            case rel => exact ⟨k + 1, D2.trace.length, by go_num, rfl, by omega, F2, D2, L7.out, HO6.out, HS2.out⟩
            case measure => simp [intOf]; omega
          · have hs := HSP.out
            rw [if_neg hc4] at hs
            have HS2 := Lib.hid hs
            have hq : (c == 0) = false ∨ ((c == 0) = true ∧ (x.kind == 4) = false) := by
              by_cases h0 : c = 0
              · exact .inr ⟨by simp [h0], beq_eq_false_iff_ne.2 (fun h4 => hc4 ⟨h0, h4⟩)⟩
              · exact .inl (beq_eq_false_iff_ne.2 h0)
            clear hs hc4 HSP
            rcases hq with q1 | ⟨q1, q2⟩
            all_goals
              go_wp2_with fail
              go_roundw
              case rel => exact ⟨k + 1, last, by go_num, rfl, by omega, F2, D2, L6.out, HO6.out, HS2.out⟩
              case measure => simp [intOf]; omega
    · have hstop : l.length ≤ k ∨ (k < l.length ∧ 100 ≤ k) := by omega
      have HSM : Hid D.Small := HO.out.small (by omega)
      clear hcont
      rcases hstop with hs | ⟨hs, hs2⟩
      all_goals
        go_wp2_with fail
        refine (trace_any p F D _ HL.out.disk HSM.out.trace).mono ?_
        rintro r wt ⟨vt, rfl, ht, hxt, hvt⟩
        have Lt := Lib.hid (HL.out.more hxt)
        have HT := Lib.hid ht
        have HVT : Hid (∀ g, vt.ownBlock = some g → g ∉ F ∧ w.heap.size ≤ g ∧ g < wt.heap.size) := fun g hg => by
          have h1 := hvt g hg
          have h2 := ownBlock_lt ht g hg
          refine ⟨fun h => ?_, ?_, h2⟩
          · have := HL.out.disk.lt g h; omega
          · have := HL.out.ext.size; omega
        have HCF : Hid D.CrashFit := HO.out.crashFit (by omega)
        obtain ⟨hlt, hcr⟩ := HS.out.crash n
        obtain ⟨kk, hkk⟩ : ∃ kk : Nat, kk = last + min n.toNat (D.trace.length - last) := ⟨_, rfl⟩
        rw [← hkk] at hcr
        have HCR := Lib.hid hcr
        have hkl : kk ≤ D.trace.length := by omega
        have htl : (D.trace.length : Int) ≤ 100 := by have := HS.out.len; omega
        have hk1 : (last : Int) + min (max n 0) ((D.trace.length : Int) - last) = kk := by omega
        have HK1 := Lib.hid hk1
        have hll : (last : Int) ≤ D.trace.length := by omega
        obtain ⟨atv, ct, rfl, hat⟩ : ∃ a c, vt = .slice a D.trace.length c ∧ (a = none ∧ D.trace.length = 0 ∨ ∃ g, a = some ⟨g, 0, none⟩ ∧ D.trace.length ≤ c ∧ c ≤ maxLen) := by
          rcases ht.2 with ⟨rfl, h0⟩ | ⟨g, cap, cur, rfl, _, _, h1, h2, _⟩
          · exact ⟨none, 0, by rw [h0], .inl ⟨rfl, h0⟩⟩
          · exact ⟨_, _, rfl, .inr ⟨g, rfl, h1, h2⟩⟩
        have HAT := Lib.hid hat
        clear ht hxt hvt hcr hk1 hkk HL HO hlt hat
        go_upto_region 15 with (fail)
        go_cut [10] (fun s10 wx => s10 = .int .i64 kk ∧ wt = wx)
        case first =>
          go_wp2
          go_meet
          have hk1 := HK1.out
          exact ⟨congrArg (Value.int .i64) (by omega), rfl⟩
        case rest =>
          obtain ⟨rfl, rfl⟩ := hcut
          have hmm := @run_makeMap Try.prog
          have M0 : Hid (MapAt Try.prog 9 9 (wt.alloc (.map #[] 0)) wt.heap.size []) := MapAt.made wt
          have L5 : Hid (Lives w (wt.alloc (.map #[] 0)) p F D) := Lt.out.more ((Ext.refl [] wt).alloc _)
          have HT5 : Hid (Evs (wt.alloc (.map #[] 0)) (.slice atv D.trace.length ct) D.trace) := row_ext HT.out ((Ext.refl [] wt).alloc _) (by simp)
          have HMN : Hid (wt.heap.size ∉ F ∧ w.heap.size ≤ wt.heap.size ∧ atv ≠ some ⟨wt.heap.size, 0, none⟩) := ⟨fun h => Nat.lt_irrefl _ (Lt.out.disk.lt _ h), Lt.out.ext.size, fun h => by have := (HVT.out wt.heap.size (by rw [h]; rfl)).2.2; omega⟩
          go_upto_region 17 with (fail)
          generalize hw5 : wt.alloc (.map #[] 0) = w5 at *
          generalize hm5 : wt.heap.size = m at *
          clear hw5 hm5 hmm Lt HT HVT HK1
          go_cut [70, 71, 72] (fun sv ln ix wx => (((∃ c, sv = .slice none 0 c) ∧ kk = 0) ∨ ∃ g, atv = some ⟨g, 0, none⟩ ∧ sv = .slice (some ⟨g, 0, none⟩) kk ct) ∧ ln = .int .i64 kk ∧ ix = .int .i64 0 ∧ w5 = wx)
          case first =>
            rcases HAT.out with ⟨rfl, h0⟩ | ⟨g, rfl, h1, h2⟩
            · have hk0 : kk = 0 := by omega
              subst hk0
              have HX0 := Lib.hid h0
              clear h0
              go_wp2
              go_meet
              exact ⟨.inl ⟨⟨_, rfl⟩, by trivial⟩, rfl, rfl, rfl⟩
            · have h2' : (ct : Int) ≤ 9223372036854775807 := by unfold maxLen at h2; omega
              have h3 : kk ≤ ct := by omega
              clear h2
              go_wp2
              go_meet
              exact ⟨.inr ⟨g, rfl, rfl⟩, rfl, rfl, rfl⟩
          case rest =>
            obtain ⟨hsv, rfl, rfl, rfl⟩ := hcut
            have HSV := Lib.hid hsv
            clear hsv HAT
            go_wp2_with fail
            go_loopw [72] (fun ix wr => ∃ j : Nat, j ≤ kk ∧ ix = .int .i64 j ∧ MapAt Try.prog 9 9 wr m (run (D.trace.take j)) ∧ Ext [m] w5 wr) (fun ix _ => kk - (intOf ix).toNat)
            case atStart => exact ⟨0, Nat.zero_le _, rfl, M0.out, Ext.refl _ _⟩
            case round =>
              obtain ⟨j, hj, rfl, hM, hX⟩ := hrel
              have HM := Lib.hid hM
              have HX := Lib.hid hX
              clear hM hX
              by_cases hjk : j < kk
              · have hjt : j < D.trace.length := by omega
                rcases HSV.out with ⟨_, h0⟩ | ⟨g, rfl, rfl⟩
                · exact absurd h0 (by omega)
                have hEv : Evs wr (.slice (some ⟨g, 0, none⟩) D.trace.length ct) D.trace := row_ext HT5.out HX.out (fun x hx => by simp [Value.ownBlock] at hx; simp; intro e; exact HMN.out.2.2 (by rw [hx, e]))
                obtain ⟨e0, e1, e2, e3⟩ := Evs.at hEv j hjt
                obtain ⟨ho, hn1, ht1⟩ := HS.out.evs D.trace[j] (List.getElem_mem hjt)
                have hsum := dataSum_take D.trace (j + 1)
                have hsnoc : run (D.trace.take (j + 1)) = (run (D.trace.take j)).did D.trace[j] := by rw [List.take_succ_eq_append_getElem hjt, run_snoc]
                rw [List.take_succ_eq_append_getElem hjt] at hsum
                have hund := run_under (D.trace.take j) [] 0 (by intro p hp; cases hp)
                have hget := Fs.Under.get hund D.trace[j].name
                have hlen := run_length (D.trace.take j) []
                have hsm := HS.out.sum
                simp only [dataSum, List.map_append, List.sum_append, List.map_cons, List.map_nil, List.sum_cons, List.sum_nil] at hsum hget hsm
                have hd1 : (((run (D.trace.take j)).get D.trace[j].name).getD []).length + D.trace[j].data.length ≤ 1000000 := by unfold run; omega
                have hfl : (run (D.trace.take j)).length < 1000000 := by
                  have h1 := List.length_take_le j D.trace
                  unfold run
                  simp only [List.length_nil] at hlen
                  omega
                have HSN := Lib.hid hsnoc
                generalize D.trace[j] = e at *
                generalize run (D.trace.take j) = R at *
                clear hsum hund hget hlen hsm hsnoc hEv
                have HXB : Hid (Ext [m] w5 (wr.alloc (evBox e))) := HX.out.alloc _
                have hMB := HM.out.ext ((Ext.refl [] wr).alloc (evBox e)) (by simp)
                have hmw := HM.out.lt
                have hF' : R.length < maxLen := by unfold maxLen; omega
                have hn' : e.name.length ≤ maxLen := by unfold maxLen; omega
                have ht' : e.to.length ≤ maxLen := by unfold maxLen; omega
                have hd' : e.data.length ≤ maxLen := by unfold maxLen; omega
                have hs' : ((R.get e.name).getD []).length + e.data.length ≤ maxLen := by unfold maxLen; omega
                have hkk100 : (kk : Int) ≤ 100 := by omega
                clear hd1 hfl hn1 ht1
                obtain ⟨op, nm, tq, dt⟩ := e
                simp only at *
                rcases ho with rfl | rfl | rfl | rfl | rfl
                · have hRd : R.did ⟨5, nm, tq, dt⟩ = R := did_sync R rfl
                  have HMB := Lib.hid hMB
                  clear hMB hmw hF' hn' ht' hd' hs'
                  go_wp2_with fail
                  go_roundw
                  case rel => exact ⟨j + 1, by omega, by go_num, by rw [HSN.out, hRd]; exact HMB.out, HXB.out⟩
                  case measure => simp [intOf]; omega
                · obtain ⟨w7, hrun, hm7, hx7, hs7⟩ := hMB.update (t := 33) Try.underlying9 Try.underlying9 Try.underlying33 hF' nm dt hn' hd'
                  have HM7 := Lib.hid hm7
                  have HX7 : Hid (Ext [m] w5 w7) := HXB.out.trans hx7 (by simp)
                  clear hMB hmw hF' hn' ht' hd' hs' hm7 hx7 hs7
                  go_wp2_with fail
                  go_roundw
                  case rel => exact ⟨j + 1, by omega, by go_num, by rw [HSN.out]; exact HM7.out, HX7.out⟩
                  case measure => simp [intOf]; omega
                · have hl := hMB.look (t := 33) Try.underlying9 Try.underlying9 Try.underlying33 (zeroStr _) nm hn'
                  have hd2 : ((R.get nm).getD [] ++ dt).length ≤ maxLen := by simpa using hs'
                  obtain ⟨w7, hrun, hm7, hx7, hs7⟩ := hMB.update (t := 33) Try.underlying9 Try.underlying9 Try.underlying33 hF' nm ((R.get nm).getD [] ++ dt) hn' hd2
                  have hap := ByteArray.mk_append_mk ((R.get nm).getD []) dt
                  have hadd := fun w => run_string_add_sum (P := Try.prog) w ⟨((R.get nm).getD []).toArray⟩ ⟨dt.toArray⟩ hs'
                  rw [hap] at hadd
                  have HM7 := Lib.hid hm7
                  have HX7 : Hid (Ext [m] w5 w7) := HXB.out.trans hx7 (by simp)
                  clear hMB hmw hF' hn' ht' hd' hs' hm7 hx7 hs7 hap hd2
                  generalize hold : (R.get nm).getD [] = old at *
                  have HOLD := Lib.hid hold
                  clear hold
                  go_wp2_with fail
                  go_roundw
                  case rel => exact ⟨j + 1, by omega, by go_num, by rw [HSN.out]; have h := HM7.out; rw [← HOLD.out] at h; exact h, HX7.out⟩
                  case measure => simp [intOf]; omega
                · have hl := hMB.look (t := 33) Try.underlying9 Try.underlying9 Try.underlying33 (zeroStr _) nm hn'
                  obtain ⟨w6, hrun1, hm6, hx6, hs6⟩ := hMB.delete (t := 33) Try.underlying9 Try.underlying33 nm hn' 0
                  have hc2 := hx6.cell (p := ⟨wr.heap.size, 2, none⟩) (v := .string ⟨tq.toArray⟩) (by simp) (by simp; omega)
                  obtain ⟨w7, hrun2, hm7, hx7, hs7⟩ := hm6.update (t := 33) Try.underlying9 Try.underlying9 Try.underlying33 (by have := length_del_le R nm; omega) tq ((R.get nm).getD []) ht' (by omega)
                  have HM7 := Lib.hid hm7
                  have HX7 : Hid (Ext [m] w5 w7) := (HXB.out.trans hx6 (by simp)).trans hx7 (by simp)
                  clear hMB hmw hF' hn' ht' hd' hs' hm6 hx6 hs6 hm7 hx7 hs7
                  generalize hold : (R.get nm).getD [] = old at *
                  have HOLD := Lib.hid hold
                  clear hold
                  go_wp2_with fail
                  go_roundw
                  case rel => exact ⟨j + 1, by omega, by go_num, by rw [HSN.out]; have h := HM7.out; rw [← HOLD.out] at h; exact h, HX7.out⟩
                  case measure => simp [intOf]; omega
                · obtain ⟨w7, hrun, hm7, hx7, hs7⟩ := hMB.delete (t := 33) Try.underlying9 Try.underlying33 nm hn' 0
                  have HM7 := Lib.hid hm7
                  have HX7 : Hid (Ext [m] w5 w7) := HXB.out.trans hx7 (by simp)
                  clear hMB hmw hF' hn' ht' hd' hs' hm7 hx7 hs7
                  go_wp2_with fail
                  go_roundw
                  case rel => exact ⟨j + 1, by omega, by go_num, by rw [HSN.out]; exact HM7.out, HX7.out⟩
                  case measure => simp [intOf]; omega
              · have hjk' : j = kk := by omega
                have hM := HM.out
                rw [hjk'] at hM
                have HM9 := Lib.hid hM
                clear hM HM
                have L6 : Hid (Lives w wr p F D) := L5.out.beside HX.out (by simp; exact ⟨HMN.out.1, HMN.out.2.1⟩)
                go_wp2_with fail
                refine (crash_any p F D n _ L6.out.disk HCF.out).mono ?_
                rintro r w10 ⟨rfl, F10, hd10, hm10⟩
                have L10 := Lib.hid (L6.out.step hm10 hd10)
                have hm10' : m ∉ F := HMN.out.1
                have HM10 := Lib.hid (HM9.out.ext hm10.ext hm10')
                have hcn := HCR.out
                have hWl : (run (D.trace.take kk)).length < 1000000 := by
                  have h1 := run_length (D.trace.take kk) []
                  have h2 := List.length_take_le kk D.trace
                  unfold run
                  simp only [List.length_nil] at h1
                  omega
                have hp10 : (D.crash n).pend = [] := rfl
                generalize D.crash n = Dc at *
                have HP10 := Lib.hid hp10
                have HCN := Lib.hid hcn
                clear hd10 hm10 hm10' hcn hp10 HM9
                go_wp2_with fail
                refine (list_any p F10 Dc [] _ L10.out.disk (by rw [HCN.out]; omega)).mono ?_
                rintro r w11 ⟨vn, rfl, hsn, hx11, _⟩
                rw [names_nil, HCN.out] at hsn
                have HWS := Lib.hid (run_sorted (D.trace.take kk))
                generalize run (D.trace.take kk) = W at *
                obtain ⟨an, capn, rfl, hln, hvn⟩ := Strs.view hsn
                have L11 := Lib.hid (L10.out.more hx11)
                have hM11 := HM10.out.ext hx11 (by simp)
                have HV11 := Lib.hid (hvn w11 (Ext.refl [] w11))
                have hlenm := fun ty => hM11.len (t := 33) Try.underlying33 ty
                have HM11 := Lib.hid hM11
                have hWk : (W.keys.length : Int) = W.length := by rw [keys_length]
                have hq1 : ((W.keys.length : Int) != (W.length : Int)) = false := bne_eq_false_iff_eq.2 hWk
                have hq2 : ((Dc.pend.length : Int) != 0) = false := by rw [HP10.out]; rfl
                have hW6 : (W.keys.length : Int) < 1000000 := by omega
                clear hsn hx11 hvn hln hM11 hWk HM10 L10
                go_wp2_with (go_at_call 15; refine (pending_l L11).mono ?_; rintro r wz ⟨rfl, rfl⟩)
                clear hlenm hq1 hq2
                go_loopw [130] (fun ix wr => ∃ j : Nat, j ≤ W.keys.length ∧ ix = .int .i64 j ∧ w11 = wr) (fun ix _ => W.keys.length - (intOf ix).toNat)
                case atStart => exact ⟨0, Nat.zero_le _, rfl, rfl⟩
                case round =>
                  obtain ⟨j, hj, rfl, rfl⟩ := hrel
                  by_cases hjk : j < W.keys.length
                  · obtain ⟨gn, rfl, cn⟩ := HV11.out j hjk
                    have hmem : W.keys[j] ∈ W.keys := List.getElem_mem hjk
                    have hhas : W.has W.keys[j] = true := keys_has.2 hmem
                    have hkl : W.keys[j].length ≤ maxLen := by
                      obtain ⟨q, hq, he⟩ := List.mem_map.1 hmem
                      have := (HM11.out.lens Try.underlying9 Try.underlying9 q hq).1
                      rw [← he]; exact this
                    have hcon := read_any p F10 Dc W.keys[j] w11 L11.out.disk hkl
                    rw [HCN.out, if_pos hhas] at hcon
                    have hlk := HM11.out.lookOk (t := 33) Try.underlying9 Try.underlying9 Try.underlying33 (zeroStr _) W.keys[j] hkl
                    rw [hhas] at hlk
                    have HCON := Lib.hid hcon
                    clear hmem hhas hcon
                    generalize W.keys[j] = nm at *
                    generalize (W.get nm).getD [] = vl at *
                    go_wp2_with (go_at_call 16; refine HCON.out.mono ?_; rintro r wz ⟨rfl, rfl⟩)
                    go_roundw
                    case rel => exact ⟨j + 1, by omega, by go_num, by trivial⟩
                    case measure => simp [intOf]; omega
                  · go_wp2_with fail
                    go_ret
                    exact ⟨rfl, L11.out.ext⟩
end Go.Proofs.Ytngbmofocochaaa
