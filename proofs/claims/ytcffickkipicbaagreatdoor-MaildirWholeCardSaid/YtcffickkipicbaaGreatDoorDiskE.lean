/- disk: the methods that do things: Sync, Remove, Rename, Append, Write, Read, Edit, Fuse. Conditions: the lengths fit. -/
import Derived.Test.YtcffickkipicbaaGreatDoorDiskS
import Derived.Test.YtcffickkipicbaaGreatDoorDiskM
set_option linter.unusedSimpArgs false
set_option linter.unusedVariables false
set_option linter.unnecessarySimpa false
namespace Go.Proofs.YtcffickkipicbaaGreatDoor
open Go.RowKit Go.Maps

def Dk.sync (D : Dk) : Dk × Int := D.done ⟨5, [], [], []⟩
def Dk.remove (D : Dk) (n : Bs) : Dk × Int := if D.now.has n then D.done ⟨4, n, [], []⟩ else (D, 10)
def Dk.rename (D : Dk) (n t : Bs) : Dk × Int := if D.now.has n then (if may t then D.done ⟨3, n, t, []⟩ else (D, 1)) else (D, 10)
def Dk.append (D : Dk) (n d : Bs) : Dk × Int := if D.now.has n then (if D.quota < (D.now.bytes : Int) + d.length then (D, 12) else D.done ⟨2, n, [], d⟩) else (D, 10)
def Dk.write (D : Dk) (n d : Bs) : Dk × Int :=
  if may n then
    if !D.now.has n && decide (200 ≤ D.now.length) then (D, 4)
    else if D.quota < (D.now.bytes : Int) - ((D.now.get n).getD []).length + d.length then (D, 12)
    else D.done ⟨1, n, [], d⟩
  else (D, 1)
def Dk.edit (D : Dk) (n d : Bs) : Dk × Int := if D.now.has n then ({ D with now := D.now.put n d, sure := if D.sure.has n then D.sure.put n d else D.sure }, 0) else (D, 10)
def Dk.setFuse (D : Dk) (n : Int) : Dk := if D.dead then D else { D with fuse := max n (-1) }

structure Dk.Small (D : Dk) : Prop where
  fuse : D.fuse ≤ 9223372036854775807
  trace : D.trace.length < 1000000000000
  pend : D.pend.length < 1000000000000
  now : D.now.length < 1000000000000
  bytes : D.now.bytes < 1000000000000000000

theorem get_le (F : Fs) (k : Bs) : ((F.get k).getD []).length ≤ F.bytes := by
  unfold Fs.get Fs.bytes
  induction F with
  | nil => simp
  | cons y r ih =>
    by_cases h : (y.1 == k) = true
    · simp [h]
    · simp [h]; omega

theorem Dk.Small.fit {D : Dk} (h : D.Small) (e : Ev) (he : e.op = 5 ∨ e.op = 1 ∨ e.op = 2 ∨ e.op = 3 ∨ e.op = 4) (hn : e.name.length < 1000000000000000000) (ht : e.to.length < 1000000000000000000) (hd : e.data.length < 1000000000000000000) : D.DoFit e := by
  have hg := get_le D.now e.name
  have hb := h.bytes
  refine ⟨h.fuse, h.trace, h.pend, by have := h.now; unfold maxLen; omega, he.elim .inl fun he => .inr ⟨he, ?_, ?_, ?_⟩⟩
  all_goals (unfold maxLen; omega)

set_option maxRecDepth 100000 in
set_option maxHeartbeats 400000 in
theorem sync_any (p : Nat) (F : List Nat) (D : Dk) (w : World) (h : Disk w p F D) (hs : D.Small) :
    Calls Tryz.prog 49 #[.pointer (some ⟨p, 0, none⟩)] w fun r w2 => r = .returned (.int .i64 D.sync.2) ∧ DiskTo F w p w2 D.sync.1 := by
  have H := Lib.hid h
  have HS := Lib.hid (hs.fit ⟨5, [], [], []⟩ (by simp) (by simp) (by simp) (by simp))
  clear h hs
  go_enter Tryz.func49, Tryz.ntmps49
  go_wp2_with fail
  refine (done_any p F D ⟨5, [], [], []⟩ _ H.out HS.out).mono ?_
  rintro r w2 ⟨rfl, h2⟩
  have H2 := Lib.hid h2
  clear h2
  go_wp2
  go_ret
  exact ⟨rfl, H2.out⟩

set_option maxRecDepth 100000 in
set_option maxHeartbeats 400000 in
theorem remove_any (p : Nat) (F : List Nat) (D : Dk) (n : Bs) (w : World) (h : Disk w p F D) (hs : D.Small) (hn : n.length < 1000000000000000000) :
    Calls Tryz.prog 60 #[.pointer (some ⟨p, 0, none⟩), .string ⟨n.toArray⟩] w fun r w2 => r = .returned (.int .i64 (D.remove n).2) ∧ DiskTo F w p w2 (D.remove n).1 := by
  have H := Lib.hid h
  have HS := Lib.hid (hs.fit ⟨4, n, [], []⟩ (by simp) hn (by simp) (by simp))
  have hn' : n.length ≤ maxLen := by unfold maxLen; omega
  clear h hs hn
  unfold Dk.remove
  by_cases hh : D.now.has n = true
  · rw [if_pos hh]
    go_enter Tryz.func60, Tryz.ntmps60
    go_wp2_with (go_at_call 57; refine (has_any p F D n _ H.out hn').mono ?_; rintro r w2 ⟨rfl, rfl⟩)
    refine (done_any p F D ⟨4, n, [], []⟩ _ H.out HS.out).mono ?_
    rintro r w2 ⟨rfl, h2⟩
    have H2 := Lib.hid h2
    clear h2
    go_wp2
    go_ret
    exact ⟨rfl, H2.out⟩
  · rw [if_neg hh]
    have hh : D.now.has n = false := by simpa using hh
    go_enter Tryz.func60, Tryz.ntmps60
    go_wp2_with (go_at_call 57; refine (has_any p F D n _ H.out hn').mono ?_; rintro r w2 ⟨rfl, rfl⟩)
    go_ret
    exact ⟨rfl, F, H.out, Moved.refl F w⟩

set_option maxRecDepth 100000 in
set_option maxHeartbeats 400000 in
theorem read_any (p : Nat) (F : List Nat) (D : Dk) (n : Bs) (w : World) (h : Disk w p F D) (hn : n.length ≤ maxLen) :
    Calls Tryz.prog 22 #[.pointer (some ⟨p, 0, none⟩), .string ⟨n.toArray⟩] w fun r w2 => r = .returned (.tuple #[.string ⟨((D.now.get n).getD []).toArray⟩, .int .i64 (if D.now.has n then 0 else 10)]) ∧ w = w2 := by
  have H := Lib.hid h
  have HN := Lib.hid hn
  obtain ⟨mn, ms, pv, tv, h, rfl⟩ := h
  obtain ⟨h0, h1, h2, h3, h4, h5, h6⟩ := h.cells
  have hl := h.now.look (t := 69) Tryz.underlying9 Tryz.underlying9 Tryz.underlying69 (zeroStr _) n hn
  clear h h1 h2 h3 h4 h5 h6 hn
  by_cases hh : D.now.has n = true
  · rw [if_pos hh]
    go_enter Tryz.func22, Tryz.ntmps22
    go_wp2_with (go_at_call 57; refine (has_any p _ D n _ H.out HN.out).mono ?_; rintro r w2 ⟨rfl, rfl⟩)
    go_ret2
    exact ⟨rfl, rfl⟩
  · rw [if_neg hh]
    have hh : D.now.has n = false := by simpa using hh
    have hg : (D.now.get n).getD [] = [] := by
      rw [Fs.has_eq] at hh
      cases hx : D.now.get n <;> simp_all
    rw [hg]
    clear hg hl
    go_enter Tryz.func22, Tryz.ntmps22
    go_wp2_with (go_at_call 57; refine (has_any p _ D n _ H.out HN.out).mono ?_; rintro r w2 ⟨rfl, rfl⟩)
    go_ret2
    exact ⟨rfl, rfl⟩

set_option maxRecDepth 100000 in
set_option maxHeartbeats 400000 in
theorem rename_any (p : Nat) (F : List Nat) (D : Dk) (n t : Bs) (w : World) (h : Disk w p F D) (hs : D.Small) (hn : n.length < 1000000000000000000) (ht : t.length < 1000000000000000000) :
    Calls Tryz.prog 50 #[.pointer (some ⟨p, 0, none⟩), .string ⟨n.toArray⟩, .string ⟨t.toArray⟩] w fun r w2 => r = .returned (.int .i64 (D.rename n t).2) ∧ DiskTo F w p w2 (D.rename n t).1 := by
  have H := Lib.hid h
  have HS := Lib.hid (hs.fit ⟨3, n, t, []⟩ (by simp) hn ht (by simp))
  have hn' : n.length ≤ maxLen := by unfold maxLen; omega
  have ht' : t.length ≤ maxLen := by unfold maxLen; omega
  clear h hs hn ht
  unfold Dk.rename
  by_cases hh : D.now.has n = true
  · rw [if_pos hh]
    by_cases hm : may t = true
    · rw [if_pos hm]
      go_enter Tryz.func50, Tryz.ntmps50
      go_wp2_with (first | (go_at_call 57; refine (has_any p F D n _ H.out hn').mono ?_; rintro r w2 ⟨rfl, rfl⟩) | (go_at_call 56; refine (may_any t _ ht').mono ?_; rintro r w2 ⟨rfl, rfl⟩))
      refine (done_any p F D ⟨3, n, t, []⟩ _ H.out HS.out).mono ?_
      rintro r w2 ⟨rfl, h2⟩
      have H2 := Lib.hid h2
      clear h2
      go_wp2
      go_ret
      exact ⟨rfl, H2.out⟩
    · rw [if_neg hm]
      have hm : may t = false := by simpa using hm
      go_enter Tryz.func50, Tryz.ntmps50
      go_wp2_with (first | (go_at_call 57; refine (has_any p F D n _ H.out hn').mono ?_; rintro r w2 ⟨rfl, rfl⟩) | (go_at_call 56; refine (may_any t _ ht').mono ?_; rintro r w2 ⟨rfl, rfl⟩))
      go_ret
      exact ⟨rfl, F, H.out, Moved.refl F w⟩
  · rw [if_neg hh]
    have hh : D.now.has n = false := by simpa using hh
    go_enter Tryz.func50, Tryz.ntmps50
    go_wp2_with (first | (go_at_call 57; refine (has_any p F D n _ H.out hn').mono ?_; rintro r w2 ⟨rfl, rfl⟩))
    go_ret
    exact ⟨rfl, F, H.out, Moved.refl F w⟩

set_option maxRecDepth 100000 in
set_option maxHeartbeats 400000 in
theorem fuse_any (p : Nat) (F : List Nat) (D : Dk) (n : Int) (w : World) (h : Disk w p F D) : Calls Tryz.prog 28 #[.pointer (some ⟨p, 0, none⟩), .int .i64 n] w fun e w2 => e = .returned (.tuple #[]) ∧ Disk w2 p F (D.setFuse n) ∧ Ext F w w2 := by
  obtain ⟨mn, ms, pv, tv, h, rfl⟩ := h
  have HH := Lib.hid h
  obtain ⟨h0, h1, h2, h3, h4, h5, h6⟩ := h.cells
  have hf := h.free 5
  have hs : ∀ q : Int, DiskAt (w.setCell ⟨p, 5, none⟩ (.int .i64 q)) p mn ms pv tv { D with fuse := q } := fun q => h.setNum D.quota q D.dead 5 (.int .i64 q) (by simp [diskCells])
  have hx : ∀ v, Ext (footOf p mn ms pv tv) w (w.setCell ⟨p, 5, none⟩ v) := (Ext.refl (footOf p mn ms pv tv) w).setCell (p := ⟨p, 5, none⟩) (by simp [footOf])
  have H1 := Lib.hid hs
  have H2 := Lib.hid hx
  clear h h0 h1 h2 h3 h4 hs hx
  unfold Dk.setFuse
  by_cases hd : D.dead = true
  · rw [if_pos hd]
    rw [hd] at h6
    clear hd
    go_enter Tryz.func28, Tryz.ntmps28
    go_wp2
    go_end0
    exact ⟨rfl, ⟨mn, ms, pv, tv, HH.out, rfl⟩, Ext.refl _ _⟩
  · rw [if_neg hd]
    have hd : D.dead = false := by simpa using hd
    rw [hd] at h6
    clear hd
    go_enter Tryz.func28, Tryz.ntmps28
    go_wp2
    all_goals
      go_end0
      exact ⟨rfl, ⟨mn, ms, pv, tv, H1.out _, rfl⟩, H2.out _⟩

end Go.Proofs.YtcffickkipicbaaGreatDoor
