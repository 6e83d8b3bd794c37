/- disk: List. Conditions: the lengths fit. -/
import Derived.Test.YtcffickkipicbaaGreatDoorDiskH
import Derived.Test.YtcffickkipicbaaGreatDoorStrs
set_option linter.unusedSimpArgs false
set_option linter.unusedVariables false
set_option linter.unnecessarySimpa false
namespace Go.Proofs.YtcffickkipicbaaGreatDoor
open Go.RowKit Go.Maps Go.Sort

def Fs.names (F : Fs) (pre : Bs) : List Bs := (F.map (·.1)).filter fun k => pre.isPrefixOf k

theorem names_sorted {F : Fs} (h : F.Pairwise fun p q => bytesBefore p.1 q.1 = true) (pre : Bs) : (F.names pre).Pairwise fun x y => x ≤ y := by
  unfold Fs.names
  refine List.Pairwise.filter _ ?_
  rw [List.pairwise_map]
  induction F with
  | nil => exact List.Pairwise.nil
  | cons x r ih =>
    rw [List.pairwise_cons] at h ⊢
    refine ⟨fun p hp => ?_, ih h.2⟩
    have := h.1 p hp
    rw [bytesBefore_eq] at this
    exact List.le_of_lt (of_decide_eq_true this)

theorem names_le (F : Fs) (pre : Bs) : (F.names pre).length ≤ F.length := by
  unfold Fs.names
  refine Nat.le_trans (List.length_filter_le _ _) ?_
  simp
theorem infoStr : (Tryz.prog.info? 9).map (fun i => (i.zero, i.size, i.bytes)) = some (some (.string ⟨#[]⟩), 1, 16) := by kernel_rfl

/-- 'l = append(l, x)', ahead of the walk. -/
theorem append_str (w : World) (v : Value) (l : List Bs) (x : Bs) (h : Strs w v l) (hl : l.length < 1000000000000) :
    ∃ g cap w1, (∀ ty, (Builtin.append_ #[38, 38] ty #[v, .slice (some ⟨w.heap.size, 0, none⟩) 1 1]).run Tryz.prog (w.alloc (.cells #[.string ⟨x.toArray⟩] 9)) = .ok (.slice (some ⟨g, 0, none⟩) (l.length + 1) cap) w1) ∧
      Strs w1 (.slice (some ⟨g, 0, none⟩) (l.length + 1) cap) (l ++ [x]) ∧ Ext v.ownBlock.toList w w1 ∧ (v.ownBlock = some g ∨ w.heap.size ≤ g) := by
  obtain ⟨i0, hi0, hz0, hz1, hz2⟩ := info_parts infoStr
  have hx : Ext [] w (w.alloc (.cells #[.string ⟨x.toArray⟩] 9)) := (Ext.refl [] w).alloc _
  obtain ⟨g, cap, w1, hr, ho, hg, hat, _⟩ := run_append_lies (P := Tryz.prog) (w.alloc (.cells #[.string ⟨x.toArray⟩] 9)) 38 0 0 9 i0 _ 1 16 Tryz.underlying38 hi0 hz0 hz1 hz2 rfl (by omega) v l.length (l.map encStr) (row_ext h hx (by simp))
    ⟨w.heap.size, 0, none⟩ 1 1 [encStr x] rfl (World.news_of_block (cs := #[encStr x]) (t := 9) (fr := (0, 0)) (heap_alloc_new _ _)) (by simp [Value.oneCell']) (by omega) (by unfold maxLen; omega) (by omega) (Nat.zero_le _) _ rfl
  refine ⟨g, cap, w1, fun _ => hr, ?_, (hx.mono (by simp)).grown hg (fun k hk => by simp [hk]), hat.elim .inl (fun e => .inr (by simp at e; omega))⟩
  show w1.ownsRow 0 9 1 _ (l ++ [x]).length ((l ++ [x]).map encStr)
  rw [List.length_append, List.map_append]
  exact ho

set_option maxRecDepth 100000 in
set_option maxHeartbeats 1000000 in
theorem list_any (p : Nat) (F : List Nat) (D : Dk) (pre : Bs) (w : World) (h : Disk w p F D) (hl : D.now.length < 1000000000000) :
    Calls Tryz.prog 19 #[.pointer (some ⟨p, 0, none⟩), .string ⟨pre.toArray⟩] w fun r w2 => ∃ v, r = .returned v ∧ Strs w2 v (D.now.names pre) ∧ Ext [] w w2 ∧ ∀ k, v.ownBlock = some k → w.heap.size ≤ k := by
  obtain ⟨mn, ms, pv, tv, h, rfl⟩ := h
  obtain ⟨h0, h1, h2, h3, h4, h5, h6⟩ := h.cells
  obtain ⟨w0, cnt0, hrun, hR0, hx0, hs0⟩ := h.now.range (t := 69) Tryz.underlying9 Tryz.underlying69
  have HSO := Lib.hid (names_sorted (h.now.sorted Tryz.underlying9) pre)
  have HR0 := Lib.hid hR0
  have HX0 := Lib.hid hx0
  have HL := Lib.hid hl
  have HN := Lib.hid h.now.lt
  clear h1 h2 h3 h4 h5 h6 h hR0 hx0 hs0 hl
  go_enter Tryz.func19, Tryz.ntmps19
  go_wp2
  go_loopw [5] (fun v wr => ∃ L cnt acc, RangeAt Tryz.prog 9 9 wr mn w.heap.size D.now L cnt ∧ Strs wr v acc ∧ (acc ++ L.names pre).Perm (D.now.names pre) ∧ Ext [] w wr ∧ (∀ k, v.ownBlock = some k → w.heap.size < k)) (fun _ wr => wr.rangeLeft mn w.heap.size)
  case atStart => exact ⟨D.now, cnt0, [], HR0.out, World.ownsRow_nil _ _ _ _, by simp, HX0.out, by simp [Value.ownBlock]⟩
  case round =>
    obtain ⟨L, cnt, acc, hR, hS, hP, hx, hv⟩ := hrel
    have HR := Lib.hid hR
    have HS := Lib.hid hS
    have HP := Lib.hid hP
    have HX := Lib.hid hx
    have HV := Lib.hid hv
    rcases hR.next Tryz.underlying9 Tryz.underlying9 with ⟨rfl, hn⟩ | ⟨x, c, w1, L1, cnt1, hp, hm, hx1, hc1, hn, hR1, hlt, hxx, hsz, hen⟩
    · clear hR hS hP hx hv
      have hal : acc.length < 4611686018427387904 := by
        have h1 := HP.out.length_eq
        have h2 := names_le D.now pre
        have h3 := HL.out
        rw [List.length_append] at h1
        omega
      have HSB : Hid (sortB acc = D.now.names pre) := sortB_perm (by simpa [Fs.names] using HP.out) HSO.out
      go_wp2_with fail
      refine (sort_strs u5 acc _ HS.out hal).mono ?_
      rintro r w2 ⟨rfl, hs2, hx2⟩
      have HS2 := Lib.hid hs2
      have HX2 := Lib.hid hx2
      clear hs2 hx2
      go_wp2
      go_ret
      refine ⟨_, rfl, by rw [← HSB.out]; exact HS2.out, HX.out.trans HX2.out (fun k hk => .inr (by have := HV.out k (by simpa using hk); omega)), fun k hk => by have := HV.out k hk; omega⟩
    · have HP1 : Hid ((L.names pre).Perm ((if pre.isPrefixOf x then [x] else []) ++ Fs.names L1 pre)) := by
        unfold Fs.names Hid
        refine ((hp.map _).filter _).trans ?_
        rw [List.map_cons, List.filter_cons]
        split <;> simp
      have HR1 := Lib.hid hR1
      have HX1 : Hid (Ext [] w w1) := hx.trans hxx (by simp)
      have HLT := Lib.hid hlt
      have HS1 : Hid (Strs w1 u5 acc) := row_ext hS hxx (fun k hk => by have := hv k hk; simp; omega)
      clear hR hS hP hx hv hR1 hlt hxx hp hm hx1 hc1 hsz
      have hcon := Tryz.strings_HasPrefix ⟨x.toArray⟩ ⟨pre.toArray⟩ w1
      rw [show Lib.hasPrefix (ByteArray.mk x.toArray).data.toList (ByteArray.mk pre.toArray).data.toList = pre.isPrefixOf x from rfl] at hcon
      have HCON := Lib.hid hcon
      clear hcon
      by_cases hpre : pre.isPrefixOf x = true
      · have hal : acc.length < 1000000000000 := by
          have h1 := HP.out.length_eq
          have h2 := names_le D.now pre
          have h3 := HL.out
          rw [List.length_append] at h1
          omega
        obtain ⟨g, cap, w2, hr, hs2, hx2, hat⟩ := append_str w1 u5 acc x HS1.out hal
        have HRR := Lib.hid hr
        have HS2 := Lib.hid hs2
        have HX2 : Hid (Ext [] w w2) := HX1.out.trans hx2 (fun k hk => .inr (by have := HV.out k (by simpa using hk); omega))
        have hnm : mn ∉ u5.ownBlock.toList := fun hk => by have := HV.out mn (by simpa using hk); have := HN.out; omega
        have hnr : w.heap.size ∉ u5.ownBlock.toList := fun hk => by have := HV.out _ (by simpa using hk); omega
        have HR2 : Hid (RangeAt Tryz.prog 9 9 w2 mn w.heap.size D.now L1 cnt1) := HR1.out.ext hx2 hnm hnr
        have HAT : Hid (w.heap.size < g) := hat.elim (fun e => HV.out g e) (fun e => by have := HR1.out.lt; unfold Hid; omega)
        have HP2 : Hid ((acc ++ [x] ++ Fs.names L1 pre).Perm (D.now.names pre)) := by
          have h1 := HP1.out
          rw [if_pos hpre] at h1
          rw [List.append_assoc]
          exact (h1.symm.append_left acc).trans HP.out
        have hpre' : Hid (pre.isPrefixOf x = true) := hpre
        have hc2 := HCON.out
        rw [hpre] at hc2
        have HC2 := Lib.hid hc2
        clear hr hs2 hx2 hat hal hnm hnr hc2 hpre
        go_wp2_with (first | (go_at_call 54; refine HC2.out.mono ?_; rintro r wz ⟨rfl, rfl⟩) | (at_builtin; go_must (refine wpList_append_run (by rfl) (by rfl) (by rfl) (by rfl) (HRR.out _) ?_)))
        go_roundw
        case rel => exact ⟨L1, cnt1, acc ++ [x], HR2.out, HS2.out, HP2.out, HX2.out, fun k hk => by simp [Value.ownBlock] at hk; subst hk; exact HAT.out⟩
        case measure => rw [HR.out.left_eq, HR2.out.left_eq]; exact HLT.out
      · have hpre : pre.isPrefixOf x = false := Bool.eq_false_iff.2 hpre
        have HP2 : Hid ((acc ++ Fs.names L1 pre).Perm (D.now.names pre)) := by
          have h1 := HP1.out
          rw [if_neg (by simp [hpre])] at h1
          exact (h1.symm.append_left acc).trans HP.out
        have hc2 := HCON.out
        rw [hpre] at hc2
        have HC2 := Lib.hid hc2
        clear hc2 hpre
        go_wp2_with (first | (go_at_call 54; refine HC2.out.mono ?_; rintro r wz ⟨rfl, rfl⟩))
        go_roundw
        case rel => exact ⟨L1, cnt1, acc, HR1.out, HS1.out, HP2.out, HX1.out, HV.out⟩
        case measure => rw [HR.out.left_eq, HR1.out.left_eq]; exact HLT.out
end Go.Proofs.YtcffickkipicbaaGreatDoor
