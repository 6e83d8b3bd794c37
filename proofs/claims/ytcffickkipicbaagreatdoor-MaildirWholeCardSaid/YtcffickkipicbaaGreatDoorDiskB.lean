/- disk: what a Disk is in memory, and its small methods. Conditions: the lengths fit. -/
import Derived.Test.YtcffickkipicbaaGreatDoorDiskA
import Derived.Test.YtcffickkipicbaaGreatDoorBv
set_option linter.unusedSimpArgs false
set_option linter.unusedVariables false
set_option linter.unnecessarySimpa false
namespace Go.Proofs.YtcffickkipicbaaGreatDoor
open Go.RowKit Go.Maps

structure Dk where
  now : Fs
  sure : Fs
  pend : List Ev
  trace : List Ev
  quota : Int
  fuse : Int
  dead : Bool

def evVals (l : List Ev) : List Value := l.flatMap Ev.vals
theorem evVals_length (l : List Ev) : (evVals l).length = l.length * 4 := by
  induction l with
  | nil => rfl
  | cons e l ih =>
    have : evVals (e :: l) = e.vals ++ evVals l := rfl
    rw [this, List.length_append, ih]; simp [Ev.vals]; omega
theorem evVals_append (l m : List Ev) : evVals (l ++ m) = evVals l ++ evVals m := by simp [evVals]

abbrev Evs (w : World) (v : Value) (l : List Ev) : Prop := w.ownsRow 0 82 4 v l.length (evVals l)
def footOf (p mn ms : Nat) (pv tv : Value) : List Nat := [p, mn, ms] ++ pv.ownBlock.toList ++ tv.ownBlock.toList
def diskCells (mn ms : Nat) (pv tv : Value) (q f : Int) (d : Bool) : Array Value := #[.map (some mn), .map (some ms), pv, tv, .int .i64 q, .int .i64 f, .bool d]

structure DiskAt (w : World) (p mn ms : Nat) (pv tv : Value) (D : Dk) : Prop where
  box : w.heap[p]? = some (.cells (diskCells mn ms pv tv D.quota D.fuse D.dead) 71 (0, 0))
  now : MapA w mn D.now
  sure : MapA w ms D.sure
  pend : Evs w pv D.pend
  trace : Evs w tv D.trace
  apart : (footOf p mn ms pv tv).Nodup

/-- There is a disk at block p, in the blocks F. -/
def Disk (w : World) (p : Nat) (F : List Nat) (D : Dk) : Prop := ∃ mn ms pv tv, DiskAt w p mn ms pv tv D ∧ F = footOf p mn ms pv tv

section
variable {w w2 : World} {p mn ms : Nat} {pv tv : Value} {D : Dk}
theorem ownBlock_lt {v : Value} {base e size n : Nat} {xs : List Value} (h : w.ownsRow base e size v n xs) : ∀ k, v.ownBlock = some k → k < w.heap.size := fun k hk => (h.lt k hk).2
theorem DiskAt.lt (h : DiskAt w p mn ms pv tv D) : ∀ x ∈ footOf p mn ms pv tv, x < w.heap.size := by
  intro x hx
  simp only [footOf, List.mem_append, List.mem_cons, List.not_mem_nil, or_false, Option.mem_toList] at hx
  rcases hx with ((rfl | rfl | rfl) | hx) | hx
  · exact heap_lt h.box
  · exact h.now.lt
  · exact h.sure.lt
  · exact ownBlock_lt h.pend _ hx
  · exact ownBlock_lt h.trace _ hx
theorem DiskAt.ext {G : List Nat} (h : DiskAt w p mn ms pv tv D) (hx : Ext G w w2) (hd : ∀ x ∈ footOf p mn ms pv tv, x ∉ G) : DiskAt w2 p mn ms pv tv D where
  box := hx.heap h.box (hd _ (by simp [footOf]))
  now := h.now.ext hx (hd _ (by simp [footOf]))
  sure := h.sure.ext hx (hd _ (by simp [footOf]))
  pend := row_ext h.pend hx fun k hk => hd _ (by simp [footOf, hk])
  trace := row_ext h.trace hx fun k hk => hd _ (by simp [footOf, hk])
  apart := h.apart
theorem Disk.ext {F G : List Nat} (h : Disk w p F D) (hx : Ext G w w2) (hd : ∀ x ∈ F, x ∉ G) : Disk w2 p F D := by
  obtain ⟨mn, ms, pv, tv, h, rfl⟩ := h
  exact ⟨mn, ms, pv, tv, h.ext hx hd, rfl⟩
theorem Disk.lt {F : List Nat} (h : Disk w p F D) : ∀ x ∈ F, x < w.heap.size := by
  obtain ⟨mn, ms, pv, tv, h, rfl⟩ := h
  exact h.lt
theorem Disk.alloc {F : List Nat} (h : Disk w p F D) (o : Obj) : Disk (w.alloc o) p F D := h.ext ((Ext.refl [] w).alloc o) (by simp)
theorem DiskAt.alloc (h : DiskAt w p mn ms pv tv D) (o : Obj) : DiskAt (w.alloc o) p mn ms pv tv D := h.ext ((Ext.refl [] w).alloc o) (by simp)
theorem DiskAt.drew (h : DiskAt w p mn ms pv tv D) : DiskAt w.drew p mn ms pv tv D := h.ext (Ext.refl [] w).drew (by simp)
theorem Disk.drew {F : List Nat} (h : Disk w p F D) : Disk w.drew p F D := h.ext (Ext.refl [] w).drew (by simp)
/-- The seven cells, and that they may be written. -/
theorem DiskAt.cells (h : DiskAt w p mn ms pv tv D) : w.cell? ⟨p, 0, none⟩ = some (.map (some mn)) ∧ w.cell? ⟨p, 1, none⟩ = some (.map (some ms)) ∧ w.cell? ⟨p, 2, none⟩ = some pv ∧ w.cell? ⟨p, 3, none⟩ = some tv ∧
    w.cell? ⟨p, 4, none⟩ = some (.int .i64 D.quota) ∧ w.cell? ⟨p, 5, none⟩ = some (.int .i64 D.fuse) ∧ w.cell? ⟨p, 6, none⟩ = some (.bool D.dead) := by
  simp [box_cell h.box, diskCells]
theorem DiskAt.free (h : DiskAt w p mn ms pv tv D) (o : Nat) : w.frozen? ⟨p, o, none⟩ = false := box_free h.box
/-- A cell of the box is written; the parts are as they were. -/
theorem DiskAt.setNum (h : DiskAt w p mn ms pv tv D) (q f : Int) (d : Bool) (o : Nat) (v : Value) (hc : (diskCells mn ms pv tv D.quota D.fuse D.dead).setIfInBounds o v = diskCells mn ms pv tv q f d) :
    DiskAt (w.setCell ⟨p, o, none⟩ v) p mn ms pv tv { D with quota := q, fuse := f, dead := d } := by
  have ha := h.apart
  simp only [footOf, List.cons_append, List.nil_append, List.nodup_cons, List.mem_cons, List.mem_append, Option.mem_toList, not_or] at ha
  have hx : Ext [p] w (w.setCell ⟨p, o, none⟩ v) := (Ext.refl [p] w).setCell (by simp) v
  refine ⟨by rw [heap_setCell_same h.box, hc], h.now.ext hx (by simp; exact fun e => ha.1.1 e.symm), h.sure.ext hx (by simp; exact fun e => ha.1.2.1 e.symm), row_ext h.pend hx (fun k hk => ?_), row_ext h.trace hx (fun k hk => ?_), h.apart⟩
  · simp only [List.mem_singleton]; rintro rfl; exact ha.1.2.2.1 hk
  · simp only [List.mem_singleton]; rintro rfl; exact ha.1.2.2.2 hk
end

/-! ### the small methods -/
set_option maxRecDepth 100000 in
set_option maxHeartbeats 400000 in
theorem dead_any (p : Nat) (F : List Nat) (D : Dk) (w : World) (h : Disk w p F D) : Calls Tryz.prog 41 #[.pointer (some ⟨p, 0, none⟩)] w fun e w2 => e = .returned (.bool D.dead) ∧ w = w2 := by
  obtain ⟨mn, ms, pv, tv, h, rfl⟩ := h
  obtain ⟨h0, h1, h2, h3, h4, h5, h6⟩ := h.cells
  clear h h0 h1 h2 h3 h4 h5
  go_enter Tryz.func41, Tryz.ntmps41
  go_wp2
  go_ret
  exact ⟨rfl, rfl⟩

set_option maxRecDepth 100000 in
set_option maxHeartbeats 400000 in
theorem has_any (p : Nat) (F : List Nat) (D : Dk) (x : Bs) (w : World) (h : Disk w p F D) (hx : x.length ≤ maxLen) : Calls Tryz.prog 57 #[.pointer (some ⟨p, 0, none⟩), .string ⟨x.toArray⟩] w fun e w2 => e = .returned (.bool (D.now.has x)) ∧ w = w2 := by
  obtain ⟨mn, ms, pv, tv, h, rfl⟩ := h
  obtain ⟨h0, h1, h2, h3, h4, h5, h6⟩ := h.cells
  have hl := h.now.lookOk (t := 69) Tryz.underlying9 Tryz.underlying9 Tryz.underlying69 (zeroStr _) x hx
  clear h h1 h2 h3 h4 h5 h6 hx
  go_enter Tryz.func57, Tryz.ntmps57
  go_wp2
  go_ret
  exact ⟨rfl, rfl⟩

set_option maxRecDepth 100000 in
set_option maxHeartbeats 400000 in
theorem quota_any (p : Nat) (F : List Nat) (D : Dk) (n : Int) (w : World) (h : Disk w p F D) : Calls Tryz.prog 32 #[.pointer (some ⟨p, 0, none⟩), .int .i64 n] w fun e w2 => e = .returned (.tuple #[]) ∧ Disk w2 p F { D with quota := max n 0 } ∧ Ext F w w2 := by
  obtain ⟨mn, ms, pv, tv, h, rfl⟩ := h
  obtain ⟨h0, h1, h2, h3, h4, h5, h6⟩ := h.cells
  have hf := h.free 4
  have hs : ∀ q : Int, DiskAt (w.setCell ⟨p, 4, none⟩ (.int .i64 q)) p mn ms pv tv { D with quota := q } := fun q => h.setNum q D.fuse D.dead 4 (.int .i64 q) (by simp [diskCells])
  have hx : ∀ v, Ext (footOf p mn ms pv tv) w (w.setCell ⟨p, 4, none⟩ v) := (Ext.refl (footOf p mn ms pv tv) w).setCell (p := ⟨p, 4, none⟩) (by simp [footOf])
  have H1 := Lib.hid hs
  have H2 := Lib.hid hx
  clear h h0 h1 h2 h3 h5 h6 hs hx
  rcases Int.lt_or_le n 0 with hn | hn
  · rw [show max n 0 = 0 by omega]
    go_enter Tryz.func32, Tryz.ntmps32
    go_wp2
    go_end0
    exact ⟨rfl, ⟨mn, ms, pv, tv, H1.out _, rfl⟩, H2.out _⟩
  · rw [show max n 0 = n by omega]
    go_enter Tryz.func32, Tryz.ntmps32
    go_wp2
    go_end0
    exact ⟨rfl, ⟨mn, ms, pv, tv, H1.out _, rfl⟩, H2.out _⟩

set_option maxRecDepth 100000 in
set_option maxHeartbeats 400000 in
theorem pending_any (p : Nat) (F : List Nat) (D : Dk) (w : World) (h : Disk w p F D) : Calls Tryz.prog 20 #[.pointer (some ⟨p, 0, none⟩)] w fun e w2 => e = .returned (.int .i64 D.pend.length) ∧ w = w2 := by
  obtain ⟨mn, ms, pv, tv, h, rfl⟩ := h
  obtain ⟨h0, h1, h2, h3, h4, h5, h6⟩ := h.cells
  have hp := h.pend.2
  clear h h0 h1 h3 h4 h5 h6
  rcases hp with ⟨rfl, hn⟩ | ⟨g, cap, cur, rfl, _⟩
  · rw [hn]
    clear hn
    go_enter Tryz.func20, Tryz.ntmps20
    go_wp2
    go_ret
    exact ⟨rfl, rfl⟩
  · go_enter Tryz.func20, Tryz.ntmps20
    go_wp2
    go_ret
    exact ⟨rfl, rfl⟩
end Go.Proofs.YtcffickkipicbaaGreatDoor
