/- DiskAll's walk: a crash that keeps all changes nothing of the files; and what is edited then stays. -/
import Derived.Test.YtngbmofocochaaaLawSure
import Derived.Test.YtngbmofocochaaaAll
namespace Go.Proofs.Ytngbmofocochaaa
open Go.RowKit Go.Maps Go.Sort

/-- Two slices of strings beside a disk. -/
structure Beside (w0 w : World) (F : List Nat) (va vw : Value) (K V : List Bs) : Prop where
  names : Strs w va K
  want : Strs w vw V
  apart : ∀ g, va.ownBlock = some g → g ∉ F ∧ w0.heap.size ≤ g ∧ vw.ownBlock ≠ some g
  new : ∀ g, vw.ownBlock = some g → g ∉ F ∧ w0.heap.size ≤ g
theorem Beside.moved {w0 w w2 : World} {F F2 : List Nat} {va vw : Value} {K V : List Bs} (h : Beside w0 w F va vw K V) (m : Moved F w w2 F2) : Beside w0 w2 F2 va vw K V := by
  refine ⟨row_ext h.names m.ext (fun k hk => (h.apart k hk).1), row_ext h.want m.ext (fun k hk => (h.new k hk).1), fun g hg => ⟨fun hf => ?_, (h.apart g hg).2⟩, fun g hg => ⟨fun hf => ?_, (h.new g hg).2⟩⟩
  · rcases m.new g hf with h1 | h1
    · exact (h.apart g hg).1 h1
    · have := ownBlock_lt h.names g hg; omega
  · rcases m.new g hf with h1 | h1
    · exact (h.new g hg).1 h1
    · have := ownBlock_lt h.want g hg; omega
/-- A cell of a slice of strings, by its slice value. -/
theorem Strs.cell {w : World} {v : Value} {l : List Bs} (h : Strs w v l) (j : Nat) (hj : j < l.length) : ∃ g cap, v = .slice (some ⟨g, 0, none⟩) l.length cap ∧ cap ≤ maxLen ∧ w.cell? ⟨g, j, none⟩ = some (.string ⟨l[j].toArray⟩) := by
  obtain ⟨a, cap, rfl, hl, hv⟩ := Strs.view h
  obtain ⟨g, rfl, hc⟩ := hv w (Ext.refl [] w) j hj
  rcases h.2 with ⟨he, _⟩ | ⟨g', cap', cur, he, _, _, _, hm, _⟩
  · cases he
  · injection he with h1 h2 h3
    exact ⟨g, cap, rfl, by omega, hc⟩
theorem Strs.form {w : World} {v : Value} {l : List Bs} (h : Strs w v l) : ∃ a cap, v = .slice a l.length cap := by
  obtain ⟨a, cap, he, _⟩ := Strs.view h
  exact ⟨a, cap, he⟩

set_option maxRecDepth 100000 in
set_option maxHeartbeats 4000000 in
theorem diskAll_walk (v0 : Value) (l : List Act11) (n : Int) (data : Bs) (w : World) (ha : ActsAt w v0 l) (_hn : -9223372036854775808 ≤ n ∧ n ≤ 9223372036854775807) (hdl : data.length ≤ maxLen) :
    Calls Try.prog 4 #[v0, .int .i64 n, .string ⟨data.toArray⟩] w fun e w2 => e = .returned (.bool true) ∧ Ext [] w w2 := by
  obtain ⟨a0, cap0, rfl, hcells⟩ := acts_view ha
  have HC := Lib.hid hcells
  clear ha hcells
  go_enter Try.func4, Try.ntmps4
  go_wp2_with fail
  refine (awake_any w).mono ?_
  rintro r w1 ⟨rfl, hx1⟩
  have X1 := Lib.hid hx1
  clear hx1

  have HDL := Lib.hid hdl
  unfold maxLen at hdl
  by_cases h1000 : 1000 < data.length
  · go_wp2
    go_ret
    exact ⟨rfl, X1.out⟩
  · have hbig : decide ((1000 : Int) < data.length) = false := by simp; omega
    clear h1000 hdl
    go_wp2_with fail
    refine (new_any w1).mono ?_
    rintro r w2 ⟨p, F0, rfl, hd, hx, hk⟩
    have L0 : Hid (Lives w w2 p F0 Dk.new) := ⟨hd, X1.out.trans hx (by simp), fun x hh => by have := hk x hh; have := X1.out.size; omega⟩
    clear hd hx hk
    go_wp2_with fail
    go_loopw [8] (fun i wr => ∃ k : Nat, i = .int .i64 k ∧ k ≤ 100 ∧ ∃ F D, Lives w wr p F D ∧ D.Ok (1300 * k) ∧ Hist Fs.Sorted D) (fun i _ => 100 - (intOf i).toNat)
    case atStart => exact ⟨0, rfl, by omega, F0, _, L0.out, ok_new, Hist.new List.Pairwise.nil⟩
    case round =>
      obtain ⟨k, rfl, hk, F, D, hL, hO, hH⟩ := hrel
      have HL := Lib.hid hL
      have HO := Lib.hid hO
      have HH := Lib.hid hH
      clear hL hO X1 hH
      by_cases hcont : k < l.length ∧ k < 100
      · obtain ⟨hk1, hk2⟩ := hcont
        obtain ⟨hwf, hll, b, off, rfl, c0, c1, c2, c3⟩ := HC.out wr HL.out.ext k hk1
        have HACT := Lib.hid (fun w2 hx => HC.out w2 hx k hk1)
        unfold maxLen at hll
        generalize l[k] = x at *
        have HWF := Lib.hid hwf
        clear hwf
        go_wp2_with fail
        refine (large_any x _ HWF.out.a HWF.out.b).mono ?_
        rintro r w3 ⟨rfl, hx3⟩
        have L3 := Lib.hid (HL.out.more hx3)
        clear hx3 c0 c1 c2 c3
        by_cases hlg : x.large = true
        · go_wp2
          go_ret
          exact ⟨rfl, L3.out.ext⟩
        · have hlg : x.large = false := by simpa using hlg
          obtain ⟨_, _, b', off', hbo, c0, c1, c2, c3⟩ := HACT.out w3 L3.out.ext
          obtain ⟨rfl, rfl⟩ : b = b' ∧ off = off' := by injection hbo with h; injection h with h1 h2; exact ⟨h1, h2⟩
          clear hbo
          by_cases h58 : x.kind = 5 ∨ x.kind = 8
          · have HL3 : Hid (D.Ok (1300 * (k + 1))) := HO.out.mono (by omega)
            rcases h58 with h5 | h8
            · rw [h5] at c0
              go_wp2_with fail
              go_roundw
              case rel => exact ⟨k + 1, by go_num, by omega, F, D, L3.out, HL3.out, HH.out⟩
              case measure => simp [intOf]; omega
            · rw [h8] at c0
              go_wp2_with fail
              go_roundw
              case rel => exact ⟨k + 1, by go_num, by omega, F, D, L3.out, HL3.out, HH.out⟩
              case measure => simp [intOf]; omega
          · have k5 : (x.kind != 5) = true := by simp; omega
            have k8 : (x.kind != 8) = true := by simp; omega
            have h8 : x.kind ≠ 8 := by omega
            have HK6 : Hid (Hist Fs.Sorted (D.play x).1) := hist_play HH.out x h8
            clear h58 h8
            go_wp2_with fail
            refine (play_any p F D x _ L3.out.disk (HO.out.playFit (by omega) hlg)).mono ?_
            clear c0 c1 c2 c3
            have HO6 : Hid ((D.play x).1.Ok (1300 * (k + 1))) := HO.out.play hlg HWF.out.n2
            generalize hpl2 : D.play x = pl at *
            obtain ⟨D2, c⟩ := pl
            clear hpl2
            rintro r w6 ⟨rfl, F2, hd6, hm6⟩
            have L6 := Lib.hid (L3.out.step hm6 hd6)
            clear hd6 hm6 L3
            go_wp2_with fail
            go_roundw
            case rel => exact ⟨k + 1, by go_num, by omega, F2, D2, L6.out, HO6.out, HK6.out⟩
            case measure => simp [intOf]; omega
      · have hstop : l.length ≤ k ∨ (k < l.length ∧ 100 ≤ k) := by omega
        obtain ⟨A, hA⟩ : ∃ A, D.now = A := ⟨_, rfl⟩
        have HAS : Hid A.Sorted := by rw [← hA]; exact HH.out.good
        have hal : A.length < 1000000 := by rw [← hA]; have := HO.out.now; omega
        have HCR : Hid ((D.crash 1073741824).now = A ∧ (D.crash 1073741824).sure = A ∧ (D.crash 1073741824).pend = []) := by
          have hp := HO.out.sure
          have : D.replay 1073741824 = A := by rw [replay_all D (by omega), ← HH.out.now, hA]
          exact ⟨this, this, rfl⟩
        have HCF : Hid D.CrashFit := HO.out.crashFit (by omega)
        have HA := Lib.hid hA
        clear hcont hA
        rcases hstop with hs | ⟨hs, hs2⟩
        all_goals
          go_wp2_with fail
          refine (list_any p F D [] _ HL.out.disk (by rw [HA.out]; omega)).mono ?_
          rintro r w3 ⟨va, rfl, hsa, hx3, hvfa⟩
          rw [names_nil, HA.out] at hsa
          have L3 := Lib.hid (HL.out.more hx3)
          have HSA := Lib.hid hsa
          have HVA : Hid (∀ g, va.ownBlock = some g → g ∉ F ∧ w.heap.size ≤ g ∧ g < w3.heap.size) := fun g hg => by
            have h1 := hvfa g hg
            have h2 := ownBlock_lt hsa g hg
            refine ⟨fun h => ?_, ?_, h2⟩
            · have := HL.out.disk.lt g h; omega
            · have := HL.out.ext.size; omega
          obtain ⟨aa, capa, hvaf⟩ := Strs.form hsa
          have hK6 : (A.keys.length : Int) < 1000000 := by rw [keys_length]; omega
          subst hvaf
          clear hsa hx3 hvfa
          go_upto_region 15 with (fail)
          have S0 : Hid (Strs (w3.alloc (.cells #[] 9)) (.slice (some ⟨w3.heap.size, 0, none⟩) 0 0) ((vals A).take 0)) := World.ownsRow_made w3 #[] 0 (Nat.zero_le _) (Nat.zero_le _) rfl
          go_wp2_with fail
          go_loopw [10, 67] (fun vw ix wr => ∃ q : Nat, q ≤ A.keys.length ∧ ix = .int .i64 q ∧ Strs wr vw ((vals A).take q) ∧ Ext [] w3 wr ∧ (∀ g, vw.ownBlock = some g → w3.heap.size ≤ g)) (fun _ ix _ => A.keys.length - (intOf ix).toNat)
          case atStart => exact ⟨0, Nat.zero_le _, rfl, S0.out, (Ext.refl [] w3).alloc _, by simp [Value.ownBlock]⟩
          case round =>
            obtain ⟨q, hq, rfl, hS, hX, hV⟩ := hrel
            have HS := Lib.hid hS
            have HX := Lib.hid hX
            have HV := Lib.hid hV
            clear hS hX hV
            have L4 := Lib.hid (L3.out.more HX.out)
            have HSA4 := Lib.hid (row_ext HSA.out HX.out (by simp))
            by_cases hqk : q < A.keys.length
            · obtain ⟨ga, capx, hgx, hcm, cq⟩ := Strs.cell HSA4.out q hqk
              obtain ⟨rfl, rfl⟩ : aa = some ⟨ga, 0, none⟩ ∧ capa = capx := by injection hgx with h1 h2 h3; exact ⟨h1, h3⟩
              have hvl : (vals A).length = A.keys.length := by rw [vals_length, keys_length]
              have hhas : A.has A.keys[q] = true := keys_has.2 (List.getElem_mem hqk)
              obtain ⟨h2, hval⟩ := vals_get HAS.out q hqk
              have hkl : A.keys[q].length ≤ maxLen := by
                obtain ⟨mn, ms, pv, tv, hd, _⟩ := L4.out.disk
                obtain ⟨z, hz, he⟩ := List.mem_map.1 (List.getElem_mem hqk)
                have := (hd.now.lens Try.underlying9 Try.underlying9 z (by rw [HA.out]; exact hz)).1
                rw [← he]; exact this
              have hcon := read_any p F D A.keys[q] wr L4.out.disk hkl
              rw [HA.out, if_pos hhas, hval] at hcon
              have HCON := Lib.hid hcon
              have htk : (vals A).take (q + 1) = (vals A).take q ++ [(vals A)[q]] := List.take_succ_eq_append_getElem h2
              have hl2 : ((vals A).take q).length = q := by rw [List.length_take]; omega
              obtain ⟨g2, cap2, w5, hr, hs5, hx5, hat⟩ := append_str wr u10 ((vals A).take q) (vals A)[q] HS.out (by omega)
              rw [hl2] at hr hs5
              rw [← htk] at hs5
              have HRR := Lib.hid hr
              have HS5 := Lib.hid hs5
              have HX5 : Hid (Ext [] w3 w5) := HX.out.trans hx5 (fun k hk => .inr (HV.out k (by simpa using hk)))
              have HV5 : Hid (w3.heap.size ≤ g2) := hat.elim (fun e => HV.out g2 e) (fun e => by have := HX.out.size; unfold Hid; omega)
              clear hgx hcm hvl hhas hval hkl hcon htk hl2 hr hs5 hx5 hat
              generalize A.keys[q] = nm at *
              generalize (vals A)[q] = vl at *
              go_wp2_with (first | (go_at_call 16; refine HCON.out.mono ?_; rintro r wz ⟨rfl, rfl⟩) | (at_builtin; refine wpList_append_run (by rfl) (by rfl) (by rfl) (by rfl) (HRR.out _) ?_))
              go_roundw
              case rel => exact ⟨q + 1, by omega, by go_num, HS5.out, HX5.out, fun g hg => by simp [Value.ownBlock] at hg; subst hg; exact HV5.out⟩
              case measure => simp [intOf]; omega
            · have hvl : (vals A).take q = vals A := List.take_of_length_le (by rw [vals_length, ← keys_length]; omega)
              have hS := HS.out
              rw [hvl] at hS
              obtain ⟨aw, capw, hvw⟩ := Strs.form hS
              rw [hvw] at hS
              have hB : Beside w wr F (.slice aa A.keys.length capa) (.slice aw (vals A).length capw) A.keys (vals A) := by
                refine ⟨HSA4.out, hS, fun g hg => ⟨(HVA.out g hg).1, (HVA.out g hg).2.1, fun h => ?_⟩, fun g hg => ⟨fun h => ?_, ?_⟩⟩
                · have h1 := HV.out g (by rw [hvw]; exact h); have := (HVA.out g hg).2.2; omega
                · have h1 := HV.out g (by rw [hvw]; exact hg); have := L3.out.disk.lt g h; omega
                · have h1 := HV.out g (by rw [hvw]; exact hg); have := L3.out.ext.size; omega
              have HB := Lib.hid hB
              rw [hvw]
              clear hvl hS hB HS HV HVA hvw
              go_wp2_with fail
              refine (crash_any p F D 1073741824 _ L4.out.disk HCF.out).mono ?_
              rintro r w5 ⟨rfl, F5, hd5, hm5⟩
              have L5 := Lib.hid (L4.out.step hm5 hd5)
              have HB5 := Lib.hid (HB.out.moved hm5)
              have hcr := HCR.out
              generalize D.crash 1073741824 = D1 at *
              have HCR1 := Lib.hid hcr
              clear hd5 hm5 hcr HCR HB L4 HSA4 HX L3 HSA HL HO HH HA HCF
              go_wp2_with fail
              go_loopw [86] (fun ix wr => ∃ (q : Nat) (Fq : List Nat), q ≤ A.keys.length ∧ ix = .int .i64 q ∧ Lives w wr p Fq { D1 with now := edits A data q, sure := edits A data q } ∧ Beside w wr Fq (.slice aa A.keys.length capa) (.slice aw (vals A).length capw) A.keys (vals (edits A data q))) (fun ix _ => A.keys.length - (intOf ix).toNat)
              case atStart =>
                refine ⟨0, F5, Nat.zero_le _, rfl, ?_, by rw [edits_zero]; exact HB5.out⟩
                rw [edits_zero]
                obtain ⟨h1, h2, h3⟩ := HCR1.out
                have : ({ D1 with now := A, sure := A } : Dk) = D1 := by cases D1; simp_all
                rw [this]
                exact L5.out
              case round =>
                obtain ⟨q, Fq, hq, rfl, hLq, hBq⟩ := hrel
                have LQ := Lib.hid hLq
                have BQ := Lib.hid hBq
                clear hLq hBq
                by_cases hqk : q < A.keys.length
                · have hql : q < A.length := by rw [← keys_length]; exact hqk
                  obtain ⟨ga, capx, hgx, hcm, cq⟩ := Strs.cell BQ.out.names q hqk
                  obtain ⟨rfl, rfl⟩ : aa = some ⟨ga, 0, none⟩ ∧ capa = capx := by injection hgx with h1 h2 h3; exact ⟨h1, h3⟩
                  have hkeq : A.keys[q] = A[q].1 := key_at A q hqk
                  by_cases hodd : q % 2 = 1
                  · have ho : ((q : Int) % 2 == 1) = true := by simp; omega
                    have hed := edits_odd HAS.out data q hql hodd
                    have hvo := vals_odd A data q hql hodd
                    have hhas : (edits A data q).has A.keys[q] = true := keys_has.2 (by rw [edits_keys]; exact List.getElem_mem hqk)
                    have hkl : A.keys[q].length ≤ maxLen := by
                      obtain ⟨mn, ms, pv, tv, hd, _⟩ := LQ.out.disk
                      obtain ⟨z, hz, he⟩ := List.mem_map.1 (show A.keys[q] ∈ (edits A data q).keys by rw [edits_keys]; exact List.getElem_mem hqk)
                      have := (hd.now.lens Try.underlying9 Try.underlying9 z hz).1
                      rw [← he]; exact this
                    have hvl : (vals (edits A data q)).length = A.length := by rw [vals_length, edits_length]
                    have hcon := edit_any p Fq { D1 with now := edits A data q, sure := edits A data q } A.keys[q] data wr LQ.out.disk (by simp only; rw [edits_length]; omega) (by simp only; rw [edits_length]; omega) hkl HDL.out
                    have he1 : Dk.edit { D1 with now := edits A data q, sure := edits A data q } A.keys[q] data = ({ D1 with now := edits A data (q + 1), sure := edits A data (q + 1) }, 0) := by
                      unfold Dk.edit
                      simp only [hhas, if_true]
                      rw [hkeq, hed]
                    rw [he1] at hcon
                    have HCON := Lib.hid hcon
                    have HVO := Lib.hid hvo
                    obtain ⟨gw, capv, hgw, hcmw, cw0⟩ := Strs.cell BQ.out.want q (by omega)
                    obtain ⟨ov, cw⟩ : ∃ ov, wr.cell? ⟨gw, q, none⟩ = some (.string ov) := ⟨_, cw0⟩
                    clear cw0
                    obtain ⟨rfl, rfl⟩ : aw = some ⟨gw, 0, none⟩ ∧ capw = capv := by injection hgw with h1 h2 h3; exact ⟨h1, h3⟩
                    have HQV : Hid (q < (vals A).length) := by unfold Hid; rw [vals_length]; exact hql
                    have hqv : (q : Int) < (vals A).length := by have := HQV.out; omega
                    clear hgx hkeq hodd hed hvo hhas hkl hvl hcon he1 hgw
                    generalize A.keys[q] = nm at *
                    go_wp2_with fail
                    refine HCON.out.mono ?_
                    rintro r w6 ⟨rfl, F6, hd6, hm6⟩
                    have L6 := Lib.hid (LQ.out.step hm6 hd6)
                    have hB6 := BQ.out.moved hm6
                    have hcw := hm6.ext.cell cw (BQ.out.new gw rfl).1
                    obtain ⟨hS7, hfz⟩ := Strs.set hB6.want q data
                    rw [HVO.out] at hS7
                    have hx7 : Ext [gw] w6 (w6.setCell ⟨gw, q, none⟩ (.string ⟨data.toArray⟩)) := (Ext.refl [gw] w6).setCell (by simp) _
                    have L7 := Lib.hid (L6.out.beside hx7 (by simp; exact ⟨(hB6.new gw rfl).1, (hB6.new gw rfl).2⟩))
                    have HB7 : Hid (Beside w (w6.setCell ⟨gw, q, none⟩ (.string ⟨data.toArray⟩)) F6 (.slice (some ⟨ga, 0, none⟩) A.keys.length capa) (.slice (some ⟨gw, 0, none⟩) (vals A).length capw) A.keys (vals (edits A data (q + 1)))) :=
                      ⟨row_ext hB6.names hx7 (fun k hk => by simp; rintro rfl; exact (hB6.apart _ hk).2.2 rfl), hS7, hB6.apart, hB6.new⟩
                    clear hd6 hm6 hB6 hS7 hx7 cw cq
                    go_wp2_with fail
                    go_roundw
                    case rel => exact ⟨q + 1, F6, by omega, by go_num, L7.out, HB7.out⟩
                    case measure => simp [intOf]; omega
                  · have ho : ((q : Int) % 2 == 1) = false := beq_eq_false_iff_ne.2 (by omega)
                    have hev := edits_even A data q hodd
                    have HEV := Lib.hid hev
                    clear hgx hkeq hodd hev
                    generalize A.keys[q] = nm at *
                    go_wp2_with fail
                    go_roundw
                    case rel => exact ⟨q + 1, Fq, by omega, by go_num, by rw [HEV.out]; exact LQ.out, by rw [HEV.out]; exact BQ.out⟩
                    case measure => simp [intOf]; omega
                · have hqe : q = A.keys.length := by omega
                  obtain ⟨E, hE⟩ : ∃ E, edits A data q = E := ⟨_, rfl⟩
                  have HEK : Hid (E.keys = A.keys) := by rw [← hE]; exact edits_keys A data q
                  have HES : Hid E.Sorted := by rw [← hE]; exact edits_sorted HAS.out data q
                  have hLq := LQ.out
                  have hBq := BQ.out
                  rw [hE] at hLq hBq
                  have LE := Lib.hid hLq
                  have BE := Lib.hid hBq
                  have hcf : Dk.CrashFit { D1 with now := E, sure := E } := ⟨by simp only; rw [HCR1.out.2.2]; decide, fun j hj => by simp only [HCR1.out.2.2] at hj; exact absurd hj (Nat.not_lt_zero _)⟩
                  have hcn : (Dk.crash { D1 with now := E, sure := E } n).now = E := by simp only [Dk.crash, Dk.replay]; rw [HCR1.out.2.2]; simp
                  have HCF := Lib.hid hcf
                  have HCN := Lib.hid hcn
                  clear hqe hE hLq hBq LQ BQ hcf hcn
                  go_wp2_with fail
                  refine (crash_any p Fq _ n _ LE.out.disk HCF.out).mono ?_
                  rintro r w8 ⟨rfl, F8, hd8, hm8⟩
                  have L8 := Lib.hid (LE.out.step hm8 hd8)
                  have HB8 := Lib.hid (BE.out.moved hm8)
                  have hcn := HCN.out
                  generalize Dk.crash { D1 with now := E, sure := E } n = D2 at *
                  have HCN2 := Lib.hid hcn
                  clear hd8 hm8 hcn HCN LE BE HCF HCR1
                  go_wp2_with fail
                  refine (list_any p F8 D2 [] _ L8.out.disk (by rw [HCN2.out, ← keys_length, HEK.out]; omega)).mono ?_
                  rintro r w9 ⟨vn, rfl, hsn, hx9, _⟩
                  rw [names_nil, HCN2.out, HEK.out] at hsn
                  obtain ⟨an, capn, hvn⟩ := Strs.form hsn
                  subst hvn
                  have L9 := Lib.hid (L8.out.more hx9)
                  have HSN := Lib.hid hsn
                  have HNA := Lib.hid (row_ext HB8.out.names hx9 (by simp))
                  have HWA := Lib.hid (row_ext HB8.out.want hx9 (by simp))
                  clear hsn hx9 HB8 L8
                  go_wp2_with fail
                  go_loopw [118] (fun ix wr => ∃ q : Nat, q ≤ A.keys.length ∧ ix = .int .i64 q ∧ Ext [] w9 wr) (fun ix _ => A.keys.length - (intOf ix).toNat)
                  case atStart => exact ⟨0, Nat.zero_le _, rfl, Ext.refl _ _⟩
                  case round =>
                    obtain ⟨j, hj, rfl, hXj⟩ := hrel
                    have HXJ := Lib.hid hXj
                    clear hXj
                    by_cases hjk : j < A.keys.length
                    · obtain ⟨gn, capx, hgx, _, cn⟩ := Strs.cell (row_ext HSN.out HXJ.out (by simp)) j hjk
                      obtain ⟨rfl, rfl⟩ : an = some ⟨gn, 0, none⟩ ∧ capn = capx := by injection hgx with h1 h2 h3; exact ⟨h1, h3⟩
                      obtain ⟨ga, capy, hgy, _, ca⟩ := Strs.cell (row_ext HNA.out HXJ.out (by simp)) j hjk
                      obtain ⟨rfl, rfl⟩ : aa = some ⟨ga, 0, none⟩ ∧ capa = capy := by injection hgy with h1 h2 h3; exact ⟨h1, h3⟩
                      have hEl : E.keys.length = A.keys.length := by rw [HEK.out]
                      obtain ⟨h2, hval⟩ := vals_get HES.out j (by omega)
                      obtain ⟨gw, capz, hgw, _, cw⟩ := Strs.cell (row_ext HWA.out HXJ.out (by simp)) j h2
                      have hvv : (vals E).length = (vals A).length := by rw [vals_length, vals_length, ← keys_length, ← keys_length]; exact hEl
                      obtain ⟨rfl, rfl⟩ : aw = some ⟨gw, 0, none⟩ ∧ capw = capz := by injection hgw with h1 h2 h3; exact ⟨h1, h3⟩
                      have hkey : E.keys[j]'(by omega) = A.keys[j] := by congr 1 <;> simp [HEK.out]
                      rw [hkey] at hval
                      have hhas : E.has A.keys[j] = true := keys_has.2 (by rw [HEK.out]; exact List.getElem_mem hjk)
                      have Lj := Lib.hid (L9.out.more HXJ.out)
                      have hkl : A.keys[j].length ≤ maxLen := by
                        obtain ⟨mn, ms, pv, tv, hd, _⟩ := Lj.out.disk
                        obtain ⟨z, hz, he⟩ := List.mem_map.1 (show A.keys[j] ∈ D2.now.keys by rw [HCN2.out, HEK.out]; exact List.getElem_mem hjk)
                        have := (hd.now.lens Try.underlying9 Try.underlying9 z hz).1
                        rw [← he]; exact this
                      have hcon := read_any p F8 D2 A.keys[j] wr Lj.out.disk hkl
                      rw [HCN2.out, if_pos hhas, hval] at hcon
                      have HCON := Lib.hid hcon
                      have hjv : (j : Int) < (vals A).length := by omega
                      clear hgx hgy hEl hval hgw hvv hkey hhas hkl hcon
                      generalize A.keys[j] = nm at *
                      generalize (vals E)[j] = vl at *
                      go_wp2_with (go_at_call 16; refine HCON.out.mono ?_; rintro r wz ⟨rfl, rfl⟩)
                      go_quiet (fail)
                      go_wp2_with fail
                      go_roundw
                      case rel => exact ⟨j + 1, by omega, by go_num, HXJ.out.drewN _⟩
                      case measure => simp [intOf]; omega
                    · go_wp2_with fail
                      go_ret
                      exact ⟨rfl, (L9.out.more HXJ.out).ext⟩
end Go.Proofs.Ytngbmofocochaaa
