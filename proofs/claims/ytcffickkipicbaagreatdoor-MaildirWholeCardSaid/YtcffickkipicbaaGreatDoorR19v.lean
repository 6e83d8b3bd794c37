/- The document's mailboxes over its disk: Texts. Conditions: the lengths fit. MaildirDoes, plainly: what stays small, act by act. No program. -/
import Derived.Test.YtcffickkipicbaaGreatDoorR19m
import Derived.Test.YtcffickkipicbaaGreatDoorMdV
import Derived.Test.YtcffickkipicbaaGreatDoorHist
/-! R19u -/
/-! R19u -/
set_option linter.unusedSimpArgs false
set_option linter.unusedVariables false
set_option linter.unnecessarySimpa false
namespace Go.Proofs.YtcffickkipicbaaGreatDoor
open Go.RowKit Go.Sort Go.Maps

section
variable {w0 w : World} {L : List Res} {F0 : List Nat} {x m : Nat} {D : Dk} {K : List Rom} {v : Value} {l : List Bs}
set_option maxRecDepth 100000 in
set_option maxHeartbeats 8000000 in
theorem r19TextsS (box : Int) (hF : D.now.length ≤ 100000) (hn : ∀ n ∈ D.now.names newB, n.length ≤ 1000) (S : Sp w0 F0 w (rkR x D :: L)) :
    Calls Tryz.prog 38 #[.pointer (some ⟨x, 0, none⟩), .int .i64 box] w fun e w2 => ∃ v l', e = .returned v ∧ MdSorted (mdNames D.now box) l' ∧ Sp w0 F0 w2 (textsR v (l'.map (mdText D.now)) :: rkR x D :: L) := by
  have HLS := Lib.hid (fun (W : World) (L' : List Res) (S : Sp w0 F0 W (rkR x D :: L')) => r19ListS box hF hn S)
  have HLN : Hid ((mdNames D.now box).length ≤ 100000) := by
    have h1 := names_le D.now newB
    have h3 := List.length_filter_le (mdPick box) ((D.now.names newB).map (List.drop 4))
    have h4 : ((D.now.names newB).map (List.drop 4)).length = (D.now.names newB).length := List.length_map _
    unfold Hid mdNames
    omega
  have HIS : Hid (∀ y ∈ mdNames D.now box, mdIs y = true) := fun y hy => mdNames_is hy
  have HFN := Lib.hid (show D.now.length ≤ 1000000 by omega)
  have HS0 : Hid (Sp w0 F0 (w.alloc (.cells #[] 9)) (rkR x D :: textsR (.slice (some ⟨w.heap.size, 0, none⟩) 0 0) [] :: L)) := Lib.hid (S.rowLaid 9 1 0 [] rfl (by unfold maxLen; omega)).pull1
  clear S hn hF
  go_enter Tryz.func38, Tryz.ntmps38
  go_wp2_with fail
  generalize w.alloc _ = w1 at *
  generalize w.heap.size = g0 at *
  refine (HLS.out _ _ HS0.out).mono ?_
  rintro e w2 ⟨v, l, rfl, hs, S1⟩
  obtain ⟨K, hq, S2⟩ := S1.tkOpen
  obtain ⟨a, cap, rfl⟩ := S2.romForm hq
  have HQ := Lib.hid hq
  have HS1 := Lib.hid ((Sp.pick [_, _, _] [2, 0, 1] (by decide) (S2)))
  have hll : l.length ≤ 100000 := by have := hs.1.length_eq; have := HLN.out; omega
  have hl' : (l.length : Int) ≤ 100000 := by omega
  have HLL := Lib.hid hll
  have HX : Hid (∀ y ∈ l, y.length ≤ 18) := fun y hy => mdIs_len (HIS.out y (hs.1.mem_iff.1 hy))
  have HSRT := Lib.hid hs
  clear S1 S2 HLS hs hll HIS HLN HS0 hq
  go_wp2_with fail
  go_loopw [5, 7] (fun o z wr => ∃ (i : Nat), z = .int .i64 i ∧ i ≤ l.length ∧ Sp w0 F0 wr (textsR o ((l.take i).map (mdText D.now)) :: romR K :: rkR x D :: L)) (fun _ z _ => l.length - (intOf z).toNat)
  case atStart => exact ⟨0, rfl, by omega, HS1.out⟩
  case round =>
    obtain ⟨i, rfl, hi, S2⟩ := hrel
    clear HS1
    have HS2 := Lib.hid S2
    by_cases hlt : i < l.length
    · have hlt' : (i : Int) < l.length := by omega
      obtain ⟨a2, cap2, e1, _, hra⟩ := S2.drop.romTx HQ.out
      simp only [Value.slice.injEq] at e1
      obtain ⟨rfl, _, hcap⟩ := e1
      subst hcap
      obtain ⟨b1, o1, rfl⟩ := hra.addr (i := i) (by simpa using hlt)
      have c1 := texts_cell hra i hlt
      obtain ⟨y, hy⟩ : ∃ y, y = l[i] := ⟨_, rfl⟩
      have HXL := Lib.hid (HX.out y (hy ▸ List.getElem_mem hlt))
      have HTK : Hid ((l.take (i + 1)).map (mdText D.now) = (l.take i).map (mdText D.now) ++ [mdText D.now y]) := by
        unfold Hid
        rw [List.take_succ_eq_append_getElem hlt, List.map_append, hy]
        rfl
      have HOL : Hid (((l.take i).map (mdText D.now)).length ≤ 100000) := by
        rw [List.length_map, List.length_take]
        have := HLL.out
        unfold Hid
        omega
      have HTX : Hid (mdText D.now y = (D.now.get (newB ++ y)).getD []) := rfl
      rw [← hy] at c1
      generalize (l.take i).map (mdText D.now) = o at *
      have hadd := add_str newB y (by have := HXL.out; simp [newB, maxLen]; omega)
      unfold newB at hadd
      generalize hz : newB ++ y = z at *
      have hz2 : [110, 101, 119, 47] ++ y = z := hz
      rw [hz2] at hadd
      have hrd := rReadS z HFN.out ((Sp.pick [_, _, _] [2, 0, 1] (by decide) (S2)))
      rw [← HTX.out] at hrd
      generalize mdText D.now y = t at *
      generalize (if D.now.has z then (0 : Int) else 10) = ec at hrd
      have HRD := Lib.hid hrd
      clear S2 hz hz2 hy hra hrd HTX
      go_wp2_with fail
      refine HRD.out.mono ?_
      rintro e w3 ⟨rfl, S3⟩
      have S5 := ((Sp.pick [_, _, _] [1, 2, 0] (by decide) (S3))).box #[.string ⟨t.toArray⟩] 9
      obtain ⟨g2, cap2, w6, hrun, S6⟩ := Sp.appendText 38 t (by have := HOL.out; omega) S5
      have HS6 := Lib.hid S6
      have HRUN := Lib.hid hrun
      clear S3 S5 S6 hrun c1 hadd HRD HS2
      go_wp2_with (at_builtin; refine wpList_append_run (by rfl) (by rfl) (by rfl) (by rfl) HRUN.out ?_)
      go_roundw
      case rel => exact ⟨i + 1, by go_num, by omega, by rw [HTK.out]; exact HS6.out⟩
      case measure => simp [intOf]; omega
    · obtain rfl : i = l.length := by omega
      rw [List.take_length] at S2
      have HS3 := Lib.hid S2
      clear S2 HS2
      go_wp2
      go_ret
      exact ⟨_, l, rfl, HSRT.out, (Sp.pick [_, _, _] [0, 2] (by decide) (HS3.out))⟩
end
end Go.Proofs.YtcffickkipicbaaGreatDoor

/-! RmP -/
/-! RmP -/
namespace Go.Proofs.YtcffickkipicbaaGreatDoor
open Go.RowKit Go.Sort Go.Maps

/-- n files at most, of names that are no longer than 80. -/
def QF (n : Nat) (F : Fs) : Prop := F.length ≤ n ∧ ∀ p ∈ F, p.1.length ≤ 80
theorem QF.mono {n k : Nat} {F : Fs} (h : QF n F) (hk : n ≤ k) : QF k F := ⟨Nat.le_trans h.1 hk, h.2⟩
theorem QF.put {n : Nat} {F : Fs} (h : QF n F) {k v : Bs} (hk : k.length ≤ 80) : QF (n + 1) (F.put k v) := ⟨Nat.le_trans (length_put_le _ _ _) (by have := h.1; omega), fun p hp => by
  rcases mem_put.1 hp with rfl | ⟨h1, _⟩
  · exact hk
  · exact h.2 p h1⟩
theorem QF.del {n : Nat} {F : Fs} (h : QF n F) (k : Bs) : QF n (F.del k) := ⟨Nat.le_trans (length_del_le _ _) h.1, fun p hp => h.2 p (mem_del.1 hp).1⟩
theorem del_lt {F : Fs} {k : Bs} (h : F.has k = true) : (F.del k).length + 1 ≤ F.length := by
  obtain ⟨p, hp, he⟩ := has_iff.1 h
  have h1 : (F.del k).length < F.length := List.length_filter_lt_length_iff_exists.2 ⟨p, hp, by simp [he]⟩
  omega
theorem QF.ren {n : Nat} {F : Fs} (h : QF n F) {k t v : Bs} (hk : F.has k = true) (ht : t.length ≤ 80) : QF n ((F.del k).put t v) := by
  have h1 := del_lt hk
  have h2 : QF (F.del k).length (F.del k) := ⟨Nat.le_refl _, (h.del k).2⟩
  exact (h2.put ht).mono (by have := h.1; omega)
theorem Hist.imp {Q R : Fs → Prop} {D : Dk} (h : Hist Q D) (hi : ∀ F, Q F → R F) : Hist R D := ⟨fun k => hi _ (h.all k), h.now⟩
/-- What is true of the disk behind each act. -/
structure MInv (D : Dk) (n m : Nat) : Prop where
  ok : D.Ok m
  hist : Hist (QF n) D
theorem MInv.mono {D : Dk} {n m n2 m2 : Nat} (h : MInv D n m) (hn : n ≤ n2) (hm : m ≤ m2) : MInv D n2 m2 := ⟨h.ok.mono hm, h.hist.imp fun _ q => q.mono hn⟩
theorem MInv.sync {D : Dk} {n m : Nat} (h : MInv D n m) : MInv D.sync.1 n (m + 1) := ⟨h.ok.sync, h.hist.done _ (fun h => absurd rfl h)⟩
theorem may_80 {s : Bs} (h : may s = true) : s.length ≤ 80 := by
  unfold may at h
  simp only [Bool.and_eq_true, decide_eq_true_eq] at h
  exact h.2
theorem MInv.write {D : Dk} {n m : Nat} (h : MInv D n m) (s d : Bs) : MInv (D.write s d).1 (n + 1) (m + 1 + s.length + d.length) := by
  refine ⟨h.ok.write s d, ?_⟩
  have h0 : Hist (QF (n + 1)) D := h.hist.imp fun _ q => q.mono (by omega)
  unfold Dk.write
  split
  · rename_i hm
    split
    · exact h0
    · split
      · exact h0
      · exact h0.done _ fun _ => h.hist.good.put (may_80 hm)
  · exact h0
theorem MInv.rename {D : Dk} {n m : Nat} (h : MInv D n m) (s t : Bs) : MInv (D.rename s t).1 n (m + 1 + s.length + t.length) := by
  refine ⟨h.ok.rename s t, ?_⟩
  unfold Dk.rename
  split
  · rename_i hh
    split
    · rename_i hm
      exact h.hist.done _ fun _ => h.hist.good.ren hh (may_80 hm)
    · exact h.hist
  · exact h.hist
theorem MInv.remove {D : Dk} {n m : Nat} (h : MInv D n m) (s : Bs) : MInv (D.remove s).1 n (m + 1 + s.length) := by
  refine ⟨h.ok.remove s, ?_⟩
  unfold Dk.remove
  split
  · exact h.hist.done _ fun _ => h.hist.good.del s
  · exact h.hist
theorem MInv.lay {D : Dk} {n m : Nat} (h : MInv D n m) (nm text : Bs) : MInv (mdLay D nm text).1 (n + 1) (m + 20 + 3 * nm.length + text.length) := by
  have h1 := h.write (tmpB ++ nm) text
  have h2 := h1.sync
  have h3 := h2.rename (tmpB ++ nm) (newB ++ nm)
  have h4 := h3.sync
  simp only [List.length_append] at h1 h2 h3 h4
  unfold mdLay
  split
  · exact h1.mono (by omega) (by simp [tmpB]; omega)
  · split
    · exact h2.mono (by omega) (by simp [tmpB]; omega)
    · split
      · exact h3.mono (by omega) (by simp [tmpB, newB]; omega)
      · exact h4.mono (by omega) (by simp [tmpB, newB]; omega)
theorem MInv.deliver {D : Dk} {n m : Nat} (h : MInv D n m) (box : Int) (id : Nat) (rc : Int) (text : Bs) : MInv (mdDeliver D box id rc text).1 (n + 1) (m + 100 + text.length) := by
  have hl := mdName_len box id rc
  unfold mdDeliver
  split
  · exact h.mono (by omega) (by omega)
  · split
    · exact h.mono (by omega) (by omega)
    · exact (h.lay _ _).mono (by omega) (by omega)
theorem MInv.removes {n : Nat} : ∀ (l : List Bs) (D : Dk) (m : Nat), MInv D n m → (∀ x ∈ l, x.length ≤ 80) → MInv (mdRemoves l D).1 n (m + 81 * l.length)
  | [], D, m, h, _ => h
  | x :: r, D, m, h, hn => by
    have h1 := h.remove x
    have hl := hn x (by simp)
    unfold mdRemoves
    split
    · exact h1.mono (by omega) (by simp only [List.length_cons]; omega)
    · exact (MInv.removes r _ _ h1 (fun y hy => hn y (by simp [hy]))).mono (by omega) (by simp only [List.length_cons]; omega)
theorem MInv.names {D : Dk} {n m : Nat} (h : MInv D n m) (pre : Bs) : (D.now.names pre).length ≤ n ∧ ∀ x ∈ D.now.names pre, x.length ≤ 80 := by
  have hq := h.hist.good
  refine ⟨Nat.le_trans (names_le D.now pre) hq.1, fun x hx => ?_⟩
  unfold Fs.names at hx
  obtain ⟨p, hp, rfl⟩ := List.mem_map.1 (List.mem_filter.1 hx).1
  exact hq.2 p hp
theorem MInv.recover {D : Dk} {n m : Nat} (h : MInv D n m) : MInv (mdRecover D).1 n (m + 81 * n + 1) := by
  obtain ⟨hl, hn⟩ := h.names tmpB
  have h1 := MInv.removes _ D m h hn
  have h2 := h1.sync
  unfold mdRecover
  split
  · exact h1.mono (by omega) (by omega)
  · split
    · exact h1.mono (by omega) (by omega)
    · exact h2.mono (by omega) (by omega)
theorem MInv.crash {D : Dk} {n m : Nat} (h : MInv D n m) (k : Int) : MInv (D.crash k) n m := ⟨h.ok.crash k, h.hist.crash k⟩
theorem MInv.quota {D : Dk} {n m : Nat} (h : MInv D n m) (q : Int) : MInv { D with quota := q } n m := ⟨⟨h.ok.fuse, h.ok.trace, h.ok.now, h.ok.sure, h.ok.nowU, h.ok.sureU, h.ok.pendE⟩, ⟨h.hist.all, h.hist.now⟩⟩
theorem MInv.fuse {D : Dk} {n m : Nat} (h : MInv D n m) (k : Int) (hk : k ≤ 9223372036854775807) : MInv (D.setFuse k) n m := by
  unfold Dk.setFuse
  split
  · exact h
  · exact ⟨⟨by dsimp only; omega, h.ok.trace, h.ok.now, h.ok.sure, h.ok.nowU, h.ok.sureU, h.ok.pendE⟩, ⟨h.hist.all, h.hist.now⟩⟩
theorem minv_new : MInv Dk.new 0 0 := ⟨ok_new, Hist.new ⟨by simp, by simp⟩⟩
end Go.Proofs.YtcffickkipicbaaGreatDoor
