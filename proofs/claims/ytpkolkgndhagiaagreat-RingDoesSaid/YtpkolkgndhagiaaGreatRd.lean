/- pack: what is taken: take, Num, Text, Done, Left, From. Conditions: the lengths fit. -/
import Derived.Test.YtpkolkgndhagiaaGreatPack
import Derived.Deep.QuietTactic
import Derived.BigQuiet
set_option linter.unusedSimpArgs false
set_option linter.unusedVariables false
set_option linter.unnecessarySimpa false
namespace Go.Proofs.YtpkolkgndhagiaaGreat
open Go.RowKit Go.Maps

/-- A reader at block b (of type T). -/
def RdAt (T : TypeId) (w : World) (b : Nat) (r : Rd) : Prop := w.heap[b]? = some (.cells #[.string ⟨r.s.toArray⟩, .bool r.bad] T (0, 0))
theorem RdAt.ext {T : TypeId} {w w2 : World} {b : Nat} {G : List Nat} {r : Rd} (h : RdAt T w b r) (hx : Ext G w w2) (hd : b ∉ G) : RdAt T w2 b r := hx.heap h hd
theorem RdAt.lt {T : TypeId} {w : World} {b : Nat} {r : Rd} (h : RdAt T w b r) : b < w.heap.size := heap_lt h
theorem RdAt.cells {T : TypeId} {w : World} {b : Nat} {r : Rd} (h : RdAt T w b r) : w.cell? ⟨b, 0, none⟩ = some (.string ⟨r.s.toArray⟩) ∧ w.cell? ⟨b, 1, none⟩ = some (.bool r.bad) ∧ w.frozen? ⟨b, 0, none⟩ = false ∧ w.frozen? ⟨b, 1, none⟩ = false :=
  ⟨by rw [box_cell h]; rfl, by rw [box_cell h]; rfl, box_free h, box_free h⟩
theorem RdAt.set {T : TypeId} {w : World} {b : Nat} {r : Rd} (h : RdAt T w b r) (s : Bs) : RdAt T (w.setCell ⟨b, 0, none⟩ (.string ⟨s.toArray⟩)) b ⟨s, r.bad⟩ := by
  unfold RdAt; rw [heap_setCell_same h]; rfl
theorem RdAt.setBad {T : TypeId} {w : World} {b : Nat} {r : Rd} (h : RdAt T w b r) (x : Bool) : RdAt T (w.setCell ⟨b, 1, none⟩ (.bool x)) b ⟨r.s, x⟩ := by
  unfold RdAt; rw [heap_setCell_same h]; rfl

set_option maxRecDepth 100000 in
set_option maxHeartbeats 400000 in
theorem rdFail_any (T b : Nat) (r : Rd) (w : World) (h : RdAt T w b r) :
    Calls Tryz.prog 82 #[.pointer (some ⟨b, 0, none⟩)] w fun e w2 => e = .returned (.tuple #[]) ∧ RdAt T w2 b Rd.failed ∧ Ext [b] w w2 := by
  obtain ⟨c0, c1, f0, f1⟩ := h.cells
  have H1 : Hid (RdAt T ((w.setCell ⟨b, 0, none⟩ (.string ⟨#[]⟩)).setCell ⟨b, 1, none⟩ (.bool true)) b Rd.failed) := (h.set []).setBad true
  have H2 : Hid (Ext [b] w ((w.setCell ⟨b, 0, none⟩ (.string ⟨#[]⟩)).setCell ⟨b, 1, none⟩ (.bool true))) := ((Ext.refl [b] w).setCell (by simp) _).setCell (by simp) _
  clear h
  go_enter Tryz.func82, Tryz.ntmps82
  go_wp2
  go_end0
  exact ⟨rfl, H1.out, H2.out⟩

set_option maxRecDepth 100000 in
set_option maxHeartbeats 400000 in
theorem rdLeft_any (T b : Nat) (r : Rd) (w : World) (h : RdAt T w b r) :
    Calls Tryz.prog 35 #[.pointer (some ⟨b, 0, none⟩)] w fun e w2 => e = .returned (.int .i64 r.s.length) ∧ w = w2 := by
  obtain ⟨c0, c1, f0, f1⟩ := h.cells
  clear h
  go_enter Tryz.func35, Tryz.ntmps35
  go_wp2
  go_ret
  exact ⟨rfl, rfl⟩

set_option maxRecDepth 100000 in
set_option maxHeartbeats 400000 in
theorem rdDone_any (T b : Nat) (r : Rd) (w : World) (h : RdAt T w b r) :
    Calls Tryz.prog 59 #[.pointer (some ⟨b, 0, none⟩)] w fun e w2 => e = .returned (.int .i64 r.done) ∧ w = w2 := by
  obtain ⟨c0, c1, f0, f1⟩ := h.cells
  obtain ⟨s, bad⟩ := r
  clear h
  cases bad
  · cases s
    · dsimp only at c0 c1
      go_enter Tryz.func59, Tryz.ntmps59
      go_wp2
      go_ret
      exact ⟨rfl, rfl⟩
    · rename_i c t
      dsimp only at c0 c1
      have h1 : (ByteArray.mk (c :: t).toArray).toList.isEmpty = false := by rw [ByteArray.toList_eq]; rfl
      have h2 : (!(ByteArray.mk (c :: t).toArray).toList.isEmpty) = true := by rw [h1]; rfl
      go_enter Tryz.func59, Tryz.ntmps59
      go_wp2
      all_goals go_ret
      all_goals exact ⟨rfl, rfl⟩
  · dsimp only at c0 c1
    go_enter Tryz.func59, Tryz.ntmps59
    go_wp2
    go_ret
    exact ⟨rfl, rfl⟩

theorem cut_head (s : Bs) (n : Nat) : (ByteArray.mk s.toArray).extract 0 n = ⟨(s.take n).toArray⟩ := by
  apply ByteArray.ext
  simp [ByteArray.data_extract]
theorem cut_tail (s : Bs) (n m : Nat) (h : m = s.length) : (ByteArray.mk s.toArray).extract n m = ⟨(s.drop n).toArray⟩ := by
  subst h
  apply ByteArray.ext
  simp only [ByteArray.data_extract]
  rw [List.extract_toArray, List.extract_eq_take_drop, List.take_of_length_le (by simp)]

set_option maxRecDepth 100000 in
set_option maxHeartbeats 400000 in
theorem rdTake_any (T b : Nat) (r : Rd) (n : Nat) (w : World) (h : RdAt T w b r) (hs : r.s.length ≤ 1000000000000) (_hn : n ≤ 9223372036854775807) :
    Calls Tryz.prog 81 #[.pointer (some ⟨b, 0, none⟩), .int .i64 n] w fun e w2 => e = .returned (.string ⟨(r.take n).1.toArray⟩) ∧ RdAt T w2 b (r.take n).2 ∧ Ext [b] w w2 := by
  have H := Lib.hid h
  obtain ⟨c0, c1, f0, f1⟩ := h.cells
  clear h
  have hs' : (r.s.length : Int) ≤ 1000000000000 := by omega
  by_cases hb : r.bad = true
  · have e1 : r.take n = ([], Rd.failed) := by unfold Rd.take; simp [hb]
    rw [e1]
    rw [hb] at c1
    clear hb e1
    go_enter Tryz.func81, Tryz.ntmps81
    go_wp2_with (go_at_call 82; refine (rdFail_any T b r _ H.out).mono ?_; rintro e w2 ⟨rfl, h2, hx⟩; have H2 := Lib.hid h2; have HX := Lib.hid hx; clear h2 hx)
    go_ret
    exact ⟨rfl, H2.out, HX.out⟩
  · have hb : r.bad = false := by simpa using hb
    rw [hb] at c1
    by_cases hl : r.s.length < n
    · have e1 : r.take n = ([], Rd.failed) := by unfold Rd.take; simp [hl]
      rw [e1]
      have hl' : (r.s.length : Int) < n := by omega
      clear hb e1
      go_enter Tryz.func81, Tryz.ntmps81
      go_wp2_with (go_at_call 82; refine (rdFail_any T b r _ H.out).mono ?_; rintro e w2 ⟨rfl, h2, hx⟩; have H2 := Lib.hid h2; have HX := Lib.hid hx; clear h2 hx)
      go_ret
      exact ⟨rfl, H2.out, HX.out⟩
    · have e1 : r.take n = (r.s.take n, ⟨r.s.drop n, false⟩) := by unfold Rd.take; simp [hb, hl]
      have HD : Hid (RdAt T (w.setCell ⟨b, 0, none⟩ (.string ⟨(r.s.drop n).toArray⟩)) b ⟨r.s.drop n, false⟩) := by have := H.out.set (r.s.drop n); rw [hb] at this; exact this
      have HX : Hid (Ext [b] w (w.setCell ⟨b, 0, none⟩ (.string ⟨(r.s.drop n).toArray⟩))) := (Ext.refl [b] w).setCell (by simp) _
      rw [e1]
      have hl' : ¬ (r.s.length : Int) < n := by omega
      have hl'' : n ≤ r.s.length := by omega
      clear hb e1 hl
      go_enter Tryz.func81, Tryz.ntmps81
      go_wp2
      go_ret
      rw [cut_tail _ _ _ rfl]
      exact ⟨congrArg (fun x => Ending.returned (.string x)) (cut_head r.s n), HD.out, HX.out⟩

theorem quiet_left {P : Program} {f : FuncId} {args : Array Value} {w : World} {n : Nat} {v : Value}
    (h : Calls P f args (w.drewN n) fun e w' => e = .returned v ∧ w.drewN n = w') : Calls P f args (w.drewN n) fun e w'' => e = .returned v ∧ ∃ m, w'' = w.drewN m :=
  h.mono fun _ _ ⟨he, hm⟩ => ⟨he, n, hm.symm⟩

theorem idx_one (c : UInt8) (w : World) : (Instr.index 9 (.string ⟨#[c]⟩) (.int .i64 0)).run Tryz.prog w = .ok (.int .u8 (c.toNat : Int)) w := by
  simp [go_sem]
  rfl
theorem w64_byte (c : UInt8) : wrap64 (c.toNat : Int) = (c.toNat : Int) := by
  have := c.toNat_lt
  unfold wrap64
  omega
/-- What Num does where the first byte is c and t is behind it. -/
theorem num_cons (c : UInt8) (t : Bs) (most : Nat) : Rd.num ⟨c :: t, false⟩ most = if c.toNat ≤ 8 ∧ c.toNat ≤ t.length ∧ need (fromH (t.take c.toNat)) = c.toNat ∧ fromH (t.take c.toNat) ≤ most then (fromH (t.take c.toNat), ⟨t.drop c.toNat, false⟩) else (0, Rd.failed) := rfl

set_option maxRecDepth 100000 in
set_option maxHeartbeats 1000000 in
theorem rdNum_stop (T b : Nat) (r : Rd) (most : Nat) (w : World) (h : RdAt T w b r) (hs : r.s.length ≤ 1000000000000) (ht : r.take 1 = ([], Rd.failed)) :
    Calls Tryz.prog 58 #[.pointer (some ⟨b, 0, none⟩), .int .u64 most] w fun e w2 => e = .returned (.int .u64 0) ∧ RdAt T w2 b Rd.failed ∧ Ext [b] w w2 := by
  have H := Lib.hid h
  have HT := Lib.hid ht
  clear h ht
  go_enter Tryz.func58, Tryz.ntmps58
  go_wp2_with fail
  refine (rdTake_any T b r 1 _ H.out hs (by decide)).mono ?_
  rw [HT.out]
  rintro e w1 ⟨rfl, h1, hx1⟩
  obtain ⟨c0, c1, f0, f1⟩ := h1.cells
  have H1 := Lib.hid h1
  have HX1 := Lib.hid hx1
  have c1' : w1.cell? ⟨b, 1, none⟩ = some (.bool true) := c1
  clear h1 hx1 c0 c1 f0 f1
  go_wp2_with (go_at_call 82; refine (rdFail_any T b _ _ H1.out).mono ?_; rintro e w2 ⟨rfl, h2, hx⟩; have H2 := Lib.hid h2; have HX := Lib.hid hx; clear h2 hx)
  go_ret
  exact ⟨rfl, H2.out, HX1.out.trans HX.out (by simp)⟩

set_option maxRecDepth 100000 in
set_option maxHeartbeats 1000000 in
theorem rdNum_wide (T b : Nat) (c : UInt8) (t : Bs) (most : Nat) (w : World) (h : RdAt T w b ⟨c :: t, false⟩) (hs : t.length + 1 ≤ 1000000000000) (hc : 8 < c.toNat) :
    Calls Tryz.prog 58 #[.pointer (some ⟨b, 0, none⟩), .int .u64 most] w fun e w2 => e = .returned (.int .u64 0) ∧ RdAt T w2 b Rd.failed ∧ Ext [b] w w2 := by
  have H := Lib.hid h
  have hc' : (8 : Int) < c.toNat := by omega
  have hc2 := c.toNat_lt
  have hix := idx_one c
  have hwc := w64_byte c
  clear h
  go_enter Tryz.func58, Tryz.ntmps58
  go_wp2_with fail
  refine (rdTake_any T b ⟨c :: t, false⟩ 1 _ H.out hs (by decide)).mono ?_
  rw [show Rd.take ⟨c :: t, false⟩ 1 = ([c], ⟨t, false⟩) by simp [Rd.take]]
  rintro e w1 ⟨rfl, h1, hx1⟩
  obtain ⟨c0, c1, f0, f1⟩ := h1.cells
  have H1 := Lib.hid h1
  have HX1 := Lib.hid hx1
  have c1' : w1.cell? ⟨b, 1, none⟩ = some (.bool false) := c1
  clear h1 hx1 c0 c1 f0 f1
  go_wp2_with (go_at_call 82; refine (rdFail_any T b _ _ H1.out).mono ?_; rintro e w2 ⟨rfl, h2, hx⟩; have H2 := Lib.hid h2; have HX := Lib.hid hx; clear h2 hx)
  go_ret
  exact ⟨rfl, H2.out, HX1.out.trans HX.out (by simp)⟩

set_option maxRecDepth 100000 in
set_option maxHeartbeats 1000000 in
theorem rdNum_short (T b : Nat) (c : UInt8) (t : Bs) (most : Nat) (w : World) (h : RdAt T w b ⟨c :: t, false⟩) (hs : t.length + 1 ≤ 1000000000000) (hc : c.toNat ≤ 8) (hl : t.length < c.toNat) :
    Calls Tryz.prog 58 #[.pointer (some ⟨b, 0, none⟩), .int .u64 most] w fun e w2 => e = .returned (.int .u64 0) ∧ RdAt T w2 b Rd.failed ∧ Ext [b] w w2 := by
  have H := Lib.hid h
  have HL := Lib.hid hl
  have hc' : (c.toNat : Int) ≤ 8 := by omega
  have hc2 := c.toNat_lt
  have hix := idx_one c
  have hwc := w64_byte c
  clear h hl
  go_enter Tryz.func58, Tryz.ntmps58
  go_wp2_with fail
  refine (rdTake_any T b ⟨c :: t, false⟩ 1 _ H.out hs (by decide)).mono ?_
  rw [show Rd.take ⟨c :: t, false⟩ 1 = ([c], ⟨t, false⟩) by simp [Rd.take]]
  rintro e w1 ⟨rfl, h1, hx1⟩
  obtain ⟨c0, c1, f0, f1⟩ := h1.cells
  have H1 := Lib.hid h1
  have HX1 := Lib.hid hx1
  have c1' : w1.cell? ⟨b, 1, none⟩ = some (.bool false) := c1
  clear h1 hx1 c0 c1 f0 f1
  go_wp2_with fail
  refine (rdTake_any T b ⟨t, false⟩ c.toNat _ H1.out (by simp only; omega) (by omega)).mono ?_
  rw [show Rd.take ⟨t, false⟩ c.toNat = ([], Rd.failed) by simp [Rd.take, HL.out]]
  rintro e w2 ⟨rfl, h2, hx2⟩
  obtain ⟨c0, c1, f0, f1⟩ := h2.cells
  have H2 := Lib.hid h2
  have HX2 := Lib.hid hx2
  have c2' : w2.cell? ⟨b, 1, none⟩ = some (.bool true) := c1
  clear h2 hx2 c0 c1 f0 f1 c1'
  go_wp2_with fail
  refine (fromHigh_any [] _ (by decide)).mono ?_
  rintro e w3 ⟨rfl, rfl⟩
  go_wp2_with fail
  go_quiet (fail)
  go_wp2_with (go_at_call 82; refine (rdFail_any T b _ _ (H2.out.ext ((Ext.refl [] w2).drewN _) (by simp))).mono ?_; rintro e w3 ⟨rfl, h3, hx⟩; have H3 := Lib.hid h3; have HX := Lib.hid hx; clear h3 hx)
  go_ret
  exact ⟨rfl, H3.out, ((HX1.out.trans HX2.out (by simp)).drewN _).trans HX.out (by simp)⟩

set_option maxRecDepth 100000 in
set_option maxHeartbeats 2000000 in
theorem rdNum_long (T b : Nat) (c : UInt8) (t : Bs) (most : Nat) (w : World) (h : RdAt T w b ⟨c :: t, false⟩) (hs : t.length + 1 ≤ 1000000000000) (hc : c.toNat ≤ 8) (hl : c.toNat ≤ t.length) :
    Calls Tryz.prog 58 #[.pointer (some ⟨b, 0, none⟩), .int .u64 most] w fun e w2 => e = .returned (.int .u64 (Rd.num ⟨c :: t, false⟩ most).1) ∧ RdAt T w2 b (Rd.num ⟨c :: t, false⟩ most).2 ∧ Ext [b] w w2 := by
  have H := Lib.hid h
  have HL := Lib.hid hl
  have hc' : (c.toNat : Int) ≤ 8 := by omega
  have hix := idx_one c
  have hwc := w64_byte c
  have HNC := Lib.hid (num_cons c t most)
  have HC := Lib.hid hc
  clear h hl
  go_enter Tryz.func58, Tryz.ntmps58
  go_wp2_with fail
  refine (rdTake_any T b ⟨c :: t, false⟩ 1 _ H.out hs (by decide)).mono ?_
  rw [show Rd.take ⟨c :: t, false⟩ 1 = ([c], ⟨t, false⟩) by simp [Rd.take]]
  rintro e w1 ⟨rfl, h1, hx1⟩
  obtain ⟨c0, c1, f0, f1⟩ := h1.cells
  have H1 := Lib.hid h1
  have HX1 := Lib.hid hx1
  have c1' : w1.cell? ⟨b, 1, none⟩ = some (.bool false) := c1
  clear h1 hx1 c0 c1 f0 f1
  go_wp2_with fail
  refine (rdTake_any T b ⟨t, false⟩ c.toNat _ H1.out (by simp only; omega) (by omega)).mono ?_
  rw [show Rd.take ⟨t, false⟩ c.toNat = (t.take c.toNat, ⟨t.drop c.toNat, false⟩) by have := HL.out; simp [Rd.take]; intro hh; omega]
  rintro e w2 ⟨rfl, h2, hx2⟩
  obtain ⟨c0, c1, f0, f1⟩ := h2.cells
  have H2 := Lib.hid h2
  have HX2 := Lib.hid (HX1.out.trans hx2 (by simp))
  have c2' : w2.cell? ⟨b, 1, none⟩ = some (.bool false) := c1
  have hf8 : (t.take c.toNat).length ≤ 8 := by rw [List.length_take]; omega
  have HF : Hid (fromH (t.take c.toNat) < 18446744073709551616) := by
    have h2 := fromH_lt _ (t.take c.toNat) rfl
    have h3 : 256 ^ (t.take c.toNat).length ≤ 256 ^ 8 := Nat.pow_le_pow_right (by omega) hf8
    unfold Hid
    omega
  have HF8 := Lib.hid hf8
  clear h2 hx2 c0 c1 f0 f1 c1' hf8
  go_wp2_with fail
  generalize t.take c.toNat = u at *
  generalize t.drop c.toNat = rest at *
  refine (fromHigh_any u _ HF8.out).mono ?_
  rintro e w3 ⟨rfl, rfl⟩
  generalize fromH u = n at *
  by_cases hne : need n = c.toNat
  · by_cases hle : n ≤ most
    · have HV : Hid (Rd.num ⟨c :: t, false⟩ most = (n, ⟨rest, false⟩)) := by rw [HNC.out, if_pos ⟨HC.out, HL.out, hne, hle⟩]; trivial
      have t1 : ((need n : Int) != (c.toNat : Int)) = false := by simp [hne]
      have t2 : decide (most < n) = false := by simp; omega
      have HNE := Lib.hid hne
      clear hne hle
      go_wp2_with fail
      go_quiet ((go_at_call 75; exact quiet_left (need_any n _ HF.out)))
      go_wp2
      go_ret
      rw [HV.out]
      exact ⟨rfl, H2.out.ext ((Ext.refl [] w2).drewN _) (by simp), HX2.out.drewN _⟩
    · have HV : Hid (Rd.num ⟨c :: t, false⟩ most = (0, Rd.failed)) := by rw [HNC.out, if_neg (fun h => hle h.2.2.2)]; trivial
      have t1 : ((need n : Int) != (c.toNat : Int)) = false := by simp [hne]
      have t2 : decide (most < n) = true := by simp; omega
      clear hne hle
      go_wp2_with fail
      go_quiet ((go_at_call 75; exact quiet_left (need_any n _ HF.out)))
      go_wp2_with (go_at_call 82; refine (rdFail_any T b _ _ (H2.out.ext ((Ext.refl [] w2).drewN _) (by simp))).mono ?_; rintro e w3 ⟨rfl, h3, hx⟩; have H3 := Lib.hid h3; have HX := Lib.hid hx; clear h3 hx)
      go_ret
      rw [HV.out]
      exact ⟨rfl, H3.out, (HX2.out.drewN _).trans HX.out (by simp)⟩
  · have HV : Hid (Rd.num ⟨c :: t, false⟩ most = (0, Rd.failed)) := by rw [HNC.out, if_neg (fun h => hne h.2.2.1)]; trivial
    have t1 : ((need n : Int) != (c.toNat : Int)) = true := by simp; omega
    clear hne
    go_wp2_with fail
    go_quiet ((go_at_call 75; exact quiet_left (need_any n _ HF.out)))
    go_wp2_with (go_at_call 82; refine (rdFail_any T b _ _ (H2.out.ext ((Ext.refl [] w2).drewN _) (by simp))).mono ?_; rintro e w3 ⟨rfl, h3, hx⟩; have H3 := Lib.hid h3; have HX := Lib.hid hx; clear h3 hx)
    go_ret
    rw [HV.out]
    exact ⟨rfl, H3.out, (HX2.out.drewN _).trans HX.out (by simp)⟩

theorem rdNum_any (T b : Nat) (r : Rd) (most : Nat) (w : World) (h : RdAt T w b r) (hs : r.s.length ≤ 1000000000000) :
    Calls Tryz.prog 58 #[.pointer (some ⟨b, 0, none⟩), .int .u64 most] w fun e w2 => e = .returned (.int .u64 (r.num most).1) ∧ RdAt T w2 b (r.num most).2 ∧ Ext [b] w w2 := by
  obtain ⟨s, bad⟩ := r
  cases bad
  · cases s with
    | nil => exact rdNum_stop T b _ most w h hs rfl
    | cons c t =>
      by_cases hc : c.toNat ≤ 8
      · by_cases hl : c.toNat ≤ t.length
        · exact rdNum_long T b c t most w h hs hc hl
        · rw [num_cons, if_neg (fun h => hl h.2.1)]
          exact rdNum_short T b c t most w h hs hc (by omega)
      · rw [num_cons, if_neg (fun h => hc h.1)]
        exact rdNum_wide T b c t most w h hs (by omega)
  · exact rdNum_stop T b _ most w h hs rfl

set_option maxRecDepth 100000 in
set_option maxHeartbeats 1000000 in
theorem rdText_any (T b : Nat) (r : Rd) (most : Nat) (w : World) (h : RdAt T w b r) (hs : r.s.length ≤ 1000000000000) (hm : most ≤ 1000000000000) :
    Calls Tryz.prog 57 #[.pointer (some ⟨b, 0, none⟩), .int .i64 most] w fun e w2 => e = .returned (.string ⟨(r.text most).1.toArray⟩) ∧ RdAt T w2 b (r.text most).2 ∧ Ext [b] w w2 := by
  have H := Lib.hid h
  have h0 : (0 : Int) ≤ most := by omega
  have h1 : (most : Int) ≤ 1000000000000 := by omega
  clear h
  go_enter Tryz.func57, Tryz.ntmps57
  go_wp2_with fail
  refine (rdNum_any T b r most _ H.out hs).mono ?_
  rintro e w1 ⟨rfl, h1, hx1⟩
  have hle := num_le r most
  have hlen := num_len r most
  have HT : Hid (r.text most = (r.num most).2.take (r.num most).1) := rfl
  generalize r.num most = q at *
  obtain ⟨n, r1⟩ := q
  have H1 := Lib.hid h1
  have HX1 := Lib.hid hx1
  have hn1 : (n : Int) ≤ 1000000000000 := by simp only at hle; omega
  have HLE : Hid (n ≤ 1000000000000) := by simp only at hle; unfold Hid; omega
  have HLEN : Hid (r1.s.length ≤ 1000000000000) := by simp only at hlen; unfold Hid; omega
  clear h1 hx1 hle hlen
  dsimp only
  go_wp2_with fail
  refine (rdTake_any T b r1 n _ H1.out HLEN.out (by have := HLE.out; omega)).mono ?_
  rintro e w2 ⟨rfl, h2, hx2⟩
  have H2 := Lib.hid h2
  have HX2 := Lib.hid hx2
  clear h2 hx2
  go_wp2
  go_ret
  rw [HT.out]
  exact ⟨rfl, H2.out, HX1.out.trans HX2.out (by simp)⟩

theorem rdTextL (T b : Nat) (r : Rd) (most : Nat) (mi : Int) (w : World) (hmi : mi = most) (h : RdAt T w b r) (hs : r.s.length ≤ 1000000000000) (hm : most ≤ 1000000000000) :
    Calls Tryz.prog 57 #[.pointer (some ⟨b, 0, none⟩), .int .i64 mi] w fun e w2 => e = .returned (.string ⟨(r.text most).1.toArray⟩) ∧ RdAt T w2 b (r.text most).2 ∧ Ext [b] w w2 := by
  subst hmi
  exact rdText_any T b r most w h hs hm
theorem rdNumL (T b : Nat) (r : Rd) (most : Nat) (mi : Int) (w : World) (hmi : mi = most) (h : RdAt T w b r) (hs : r.s.length ≤ 1000000000000) :
    Calls Tryz.prog 58 #[.pointer (some ⟨b, 0, none⟩), .int .u64 mi] w fun e w2 => e = .returned (.int .u64 (r.num most).1) ∧ RdAt T w2 b (r.num most).2 ∧ Ext [b] w w2 := by
  subst hmi
  exact rdNum_any T b r most w h hs

set_option maxRecDepth 100000 in
set_option maxHeartbeats 1000000 in
theorem from_any (s : Bs) (w : World) :
    Calls Tryz.prog 33 #[.string ⟨s.toArray⟩] w fun e w2 => e = .returned (.pointer (some ⟨w.heap.size, 0, none⟩)) ∧ RdAt 78 w2 w.heap.size ⟨s, false⟩ ∧ Ext [] w w2 ∧ w2.heap.size = w.heap.size + 1 := by
  go_enter Tryz.func33, Tryz.ntmps33
  go_wp2
  go_ret
  exact ⟨rfl, heap_alloc_new _ _, (Ext.refl [] w).alloc _, by simp⟩
end Go.Proofs.YtpkolkgndhagiaaGreat
