/- The acts on a disk that the statements of layer 11 play (play, large). Conditions: the lengths fit. -/
import Derived.Test.YtngbmofocochaaaDiskP
namespace Go.Proofs.Ytngbmofocochaaa
open Go.RowKit Go.Maps

structure Act11 where
  kind : Int
  n : Int
  a : Bs
  b : Bs
abbrev Act11.agg (x : Act11) : Value := .agg #[.int .i64 x.kind, .int .i64 x.n, .string ⟨x.a.toArray⟩, .string ⟨x.b.toArray⟩]
abbrev actBox (x : Act11) : Obj := .cells #[.int .i64 x.kind, .int .i64 x.n, .string ⟨x.a.toArray⟩, .string ⟨x.b.toArray⟩] 27
def Act11.large (x : Act11) : Bool := decide (200 < x.a.length) || decide (1000 < x.b.length)

def Dk.play (D : Dk) (x : Act11) : Dk × Int :=
  if x.kind = 0 then D.write x.a x.b
  else if x.kind = 1 then D.append x.a x.b
  else if x.kind = 2 then D.rename x.a x.b
  else if x.kind = 3 then D.remove x.a
  else if x.kind = 4 then D.sync
  else if x.kind = 5 then (D.setFuse x.n, 0)
  else if x.kind = 6 then ({ D with quota := max x.n 0 }, 0)
  else if x.kind = 7 then (D.crash x.n, 0)
  else if x.kind = 8 then D.edit x.a x.b
  else (D, 0)

set_option maxHeartbeats 400000 in
theorem large_any (x : Act11) (w : World) (ha : x.a.length ≤ maxLen) (hb : x.b.length ≤ maxLen) : Calls Try.prog 10 #[x.agg] w fun r w2 => r = .returned (.bool x.large) ∧ Ext [] w w2 := by
  unfold maxLen at ha hb
  by_cases h1 : 200 < x.a.length
  · have e : x.large = true := by simp [Act11.large, h1]
    rw [e]
    clear e
    go_enter Try.func10, Try.ntmps10
    go_wp2
    go_ret
    exact ⟨rfl, (Ext.refl [] w).alloc _⟩
  · have h1b : decide (200 < x.a.length) = false := by simpa using h1
    have e : x.large = decide (1000 < x.b.length) := by simp [Act11.large, h1b]
    rw [e]
    clear e
    go_enter Try.func10, Try.ntmps10
    go_wp2
    go_ret
    refine ⟨ret_bool ?_, (Ext.refl [] w).alloc _⟩
    rw [show decide ((200 : Int) < x.a.length) = false by simp; omega, Bool.false_or]
    exact decide_eq_decide.2 (by omega)

/-- What fits for an act. -/
structure Dk.PlayFit (D : Dk) (x : Act11) : Prop where
  small : D.Small
  crash : D.CrashFit
  sure : D.sure.length < 1000000000000
  a : x.a.length < 1000000000000000000
  b : x.b.length < 1000000000000000000

set_option maxHeartbeats 1000000 in
theorem play_0 (p : Nat) (F : List Nat) (D : Dk) (n : Int) (a b : Bs) (w : World) (h : Disk w p F D) (hf : D.PlayFit ⟨0, n, a, b⟩) :
    Calls Try.prog 11 #[.pointer (some ⟨p, 0, none⟩), (Act11.mk 0 n a b).agg] w fun r w2 => r = .returned (.int .i64 (D.play ⟨0, n, a, b⟩).2) ∧ DiskTo F w p w2 (D.play ⟨0, n, a, b⟩).1 := by
  have e : D.play ⟨0, n, a, b⟩ = D.write a b := by simp [Dk.play]
  rw [e]
  clear e
  have H := Lib.hid (h.alloc (actBox ⟨0, n, a, b⟩))
  have HF := Lib.hid hf
  have HX : Hid (Ext [] w (w.alloc (actBox ⟨0, n, a, b⟩))) := (Ext.refl [] w).alloc _
  clear h hf
  go_enter Try.func11, Try.ntmps11
  go_wp2_with fail
  refine (write_any p F D a b _ H.out HF.out.small HF.out.a HF.out.b).mono ?_
  rintro r w2 ⟨rfl, F2, hd, hm⟩
  have H2 := Lib.hid hd
  have M2 := Lib.hid hm
  clear hd hm
  go_wp2
  go_ret
  exact ⟨rfl, F2, H2.out, (Moved.of_new HX.out).trans M2.out⟩

set_option maxHeartbeats 1000000 in
theorem play_1 (p : Nat) (F : List Nat) (D : Dk) (n : Int) (a b : Bs) (w : World) (h : Disk w p F D) (hf : D.PlayFit ⟨1, n, a, b⟩) :
    Calls Try.prog 11 #[.pointer (some ⟨p, 0, none⟩), (Act11.mk 1 n a b).agg] w fun r w2 => r = .returned (.int .i64 (D.play ⟨1, n, a, b⟩).2) ∧ DiskTo F w p w2 (D.play ⟨1, n, a, b⟩).1 := by
  have e : D.play ⟨1, n, a, b⟩ = D.append a b := by simp [Dk.play]
  rw [e]
  clear e
  have H := Lib.hid (h.alloc (actBox ⟨1, n, a, b⟩))
  have HF := Lib.hid hf
  have HX : Hid (Ext [] w (w.alloc (actBox ⟨1, n, a, b⟩))) := (Ext.refl [] w).alloc _
  clear h hf
  go_enter Try.func11, Try.ntmps11
  go_wp2_with fail
  refine (append_any p F D a b _ H.out HF.out.small HF.out.a HF.out.b).mono ?_
  rintro r w2 ⟨rfl, F2, hd, hm⟩
  have H2 := Lib.hid hd
  have M2 := Lib.hid hm
  clear hd hm
  go_wp2
  go_ret
  exact ⟨rfl, F2, H2.out, (Moved.of_new HX.out).trans M2.out⟩

set_option maxHeartbeats 1000000 in
theorem play_2 (p : Nat) (F : List Nat) (D : Dk) (n : Int) (a b : Bs) (w : World) (h : Disk w p F D) (hf : D.PlayFit ⟨2, n, a, b⟩) :
    Calls Try.prog 11 #[.pointer (some ⟨p, 0, none⟩), (Act11.mk 2 n a b).agg] w fun r w2 => r = .returned (.int .i64 (D.play ⟨2, n, a, b⟩).2) ∧ DiskTo F w p w2 (D.play ⟨2, n, a, b⟩).1 := by
  have e : D.play ⟨2, n, a, b⟩ = D.rename a b := by simp [Dk.play]
  rw [e]
  clear e
  have H := Lib.hid (h.alloc (actBox ⟨2, n, a, b⟩))
  have HF := Lib.hid hf
  have HX : Hid (Ext [] w (w.alloc (actBox ⟨2, n, a, b⟩))) := (Ext.refl [] w).alloc _
  clear h hf
  go_enter Try.func11, Try.ntmps11
  go_wp2_with fail
  refine (rename_any p F D a b _ H.out HF.out.small HF.out.a HF.out.b).mono ?_
  rintro r w2 ⟨rfl, F2, hd, hm⟩
  have H2 := Lib.hid hd
  have M2 := Lib.hid hm
  clear hd hm
  go_wp2
  go_ret
  exact ⟨rfl, F2, H2.out, (Moved.of_new HX.out).trans M2.out⟩

set_option maxHeartbeats 1000000 in
theorem play_3 (p : Nat) (F : List Nat) (D : Dk) (n : Int) (a b : Bs) (w : World) (h : Disk w p F D) (hf : D.PlayFit ⟨3, n, a, b⟩) :
    Calls Try.prog 11 #[.pointer (some ⟨p, 0, none⟩), (Act11.mk 3 n a b).agg] w fun r w2 => r = .returned (.int .i64 (D.play ⟨3, n, a, b⟩).2) ∧ DiskTo F w p w2 (D.play ⟨3, n, a, b⟩).1 := by
  have e : D.play ⟨3, n, a, b⟩ = D.remove a := by simp [Dk.play]
  rw [e]
  clear e
  have H := Lib.hid (h.alloc (actBox ⟨3, n, a, b⟩))
  have HF := Lib.hid hf
  have HX : Hid (Ext [] w (w.alloc (actBox ⟨3, n, a, b⟩))) := (Ext.refl [] w).alloc _
  clear h hf
  go_enter Try.func11, Try.ntmps11
  go_wp2_with fail
  refine (remove_any p F D a _ H.out HF.out.small HF.out.a).mono ?_
  rintro r w2 ⟨rfl, F2, hd, hm⟩
  have H2 := Lib.hid hd
  have M2 := Lib.hid hm
  clear hd hm
  go_wp2
  go_ret
  exact ⟨rfl, F2, H2.out, (Moved.of_new HX.out).trans M2.out⟩

set_option maxHeartbeats 1000000 in
theorem play_4 (p : Nat) (F : List Nat) (D : Dk) (n : Int) (a b : Bs) (w : World) (h : Disk w p F D) (hf : D.PlayFit ⟨4, n, a, b⟩) :
    Calls Try.prog 11 #[.pointer (some ⟨p, 0, none⟩), (Act11.mk 4 n a b).agg] w fun r w2 => r = .returned (.int .i64 (D.play ⟨4, n, a, b⟩).2) ∧ DiskTo F w p w2 (D.play ⟨4, n, a, b⟩).1 := by
  have e : D.play ⟨4, n, a, b⟩ = D.sync := by simp [Dk.play]
  rw [e]
  clear e
  have H := Lib.hid (h.alloc (actBox ⟨4, n, a, b⟩))
  have HF := Lib.hid hf
  have HX : Hid (Ext [] w (w.alloc (actBox ⟨4, n, a, b⟩))) := (Ext.refl [] w).alloc _
  clear h hf
  go_enter Try.func11, Try.ntmps11
  go_wp2_with fail
  refine (sync_any p F D _ H.out HF.out.small).mono ?_
  rintro r w2 ⟨rfl, F2, hd, hm⟩
  have H2 := Lib.hid hd
  have M2 := Lib.hid hm
  clear hd hm
  go_wp2
  go_ret
  exact ⟨rfl, F2, H2.out, (Moved.of_new HX.out).trans M2.out⟩

set_option maxHeartbeats 1000000 in
theorem play_5 (p : Nat) (F : List Nat) (D : Dk) (n : Int) (a b : Bs) (w : World) (h : Disk w p F D) (hf : D.PlayFit ⟨5, n, a, b⟩) :
    Calls Try.prog 11 #[.pointer (some ⟨p, 0, none⟩), (Act11.mk 5 n a b).agg] w fun r w2 => r = .returned (.int .i64 (D.play ⟨5, n, a, b⟩).2) ∧ DiskTo F w p w2 (D.play ⟨5, n, a, b⟩).1 := by
  have e : D.play ⟨5, n, a, b⟩ = (D.setFuse n, 0) := by simp [Dk.play]
  rw [e]
  clear e
  have H := Lib.hid (h.alloc (actBox ⟨5, n, a, b⟩))
  have HF := Lib.hid hf
  have HX : Hid (Ext [] w (w.alloc (actBox ⟨5, n, a, b⟩))) := (Ext.refl [] w).alloc _
  clear h hf
  go_enter Try.func11, Try.ntmps11
  go_wp2_with fail
  refine (fuse_any p F D n _ H.out).mono ?_
  rintro r w2 ⟨rfl, hd, hx⟩
  have H2 := Lib.hid hd
  have X2 := Lib.hid hx
  clear hd hx
  go_wp2
  go_ret
  exact ⟨rfl, F, H2.out, (Moved.of_new HX.out).trans (Moved.of_ext X2.out)⟩

set_option maxHeartbeats 1000000 in
theorem play_6 (p : Nat) (F : List Nat) (D : Dk) (n : Int) (a b : Bs) (w : World) (h : Disk w p F D) (hf : D.PlayFit ⟨6, n, a, b⟩) :
    Calls Try.prog 11 #[.pointer (some ⟨p, 0, none⟩), (Act11.mk 6 n a b).agg] w fun r w2 => r = .returned (.int .i64 (D.play ⟨6, n, a, b⟩).2) ∧ DiskTo F w p w2 (D.play ⟨6, n, a, b⟩).1 := by
  have e : D.play ⟨6, n, a, b⟩ = ({ D with quota := max n 0 }, 0) := by simp [Dk.play]
  rw [e]
  clear e
  have H := Lib.hid (h.alloc (actBox ⟨6, n, a, b⟩))
  have HF := Lib.hid hf
  have HX : Hid (Ext [] w (w.alloc (actBox ⟨6, n, a, b⟩))) := (Ext.refl [] w).alloc _
  clear h hf
  go_enter Try.func11, Try.ntmps11
  go_wp2_with fail
  refine (quota_any p F D n _ H.out).mono ?_
  rintro r w2 ⟨rfl, hd, hx⟩
  have H2 := Lib.hid hd
  have X2 := Lib.hid hx
  clear hd hx
  go_wp2
  go_ret
  exact ⟨rfl, F, H2.out, (Moved.of_new HX.out).trans (Moved.of_ext X2.out)⟩

set_option maxHeartbeats 1000000 in
theorem play_7 (p : Nat) (F : List Nat) (D : Dk) (n : Int) (a b : Bs) (w : World) (h : Disk w p F D) (hf : D.PlayFit ⟨7, n, a, b⟩) :
    Calls Try.prog 11 #[.pointer (some ⟨p, 0, none⟩), (Act11.mk 7 n a b).agg] w fun r w2 => r = .returned (.int .i64 (D.play ⟨7, n, a, b⟩).2) ∧ DiskTo F w p w2 (D.play ⟨7, n, a, b⟩).1 := by
  have e : D.play ⟨7, n, a, b⟩ = (D.crash n, 0) := by simp [Dk.play]
  rw [e]
  clear e
  have H := Lib.hid (h.alloc (actBox ⟨7, n, a, b⟩))
  have HF := Lib.hid hf
  have HX : Hid (Ext [] w (w.alloc (actBox ⟨7, n, a, b⟩))) := (Ext.refl [] w).alloc _
  clear h hf
  go_enter Try.func11, Try.ntmps11
  go_wp2_with fail
  refine (crash_any p F D n _ H.out HF.out.crash).mono ?_
  rintro r w2 ⟨rfl, F2, hd, hm⟩
  have H2 := Lib.hid hd
  have M2 := Lib.hid hm
  clear hd hm
  go_wp2
  go_ret
  exact ⟨rfl, F2, H2.out, (Moved.of_new HX.out).trans M2.out⟩

set_option maxHeartbeats 1000000 in
theorem play_8 (p : Nat) (F : List Nat) (D : Dk) (n : Int) (a b : Bs) (w : World) (h : Disk w p F D) (hf : D.PlayFit ⟨8, n, a, b⟩) :
    Calls Try.prog 11 #[.pointer (some ⟨p, 0, none⟩), (Act11.mk 8 n a b).agg] w fun r w2 => r = .returned (.int .i64 (D.play ⟨8, n, a, b⟩).2) ∧ DiskTo F w p w2 (D.play ⟨8, n, a, b⟩).1 := by
  have e : D.play ⟨8, n, a, b⟩ = D.edit a b := by simp [Dk.play]
  rw [e]
  clear e
  have H := Lib.hid (h.alloc (actBox ⟨8, n, a, b⟩))
  have HF := Lib.hid hf
  have HX : Hid (Ext [] w (w.alloc (actBox ⟨8, n, a, b⟩))) := (Ext.refl [] w).alloc _
  clear h hf
  go_enter Try.func11, Try.ntmps11
  go_wp2_with fail
  refine (edit_any p F D a b _ H.out HF.out.small.now HF.out.sure (by have := HF.out.a; unfold maxLen; simp only at this; omega) (by have := HF.out.b; unfold maxLen; simp only at this; omega)).mono ?_
  rintro r w2 ⟨rfl, F2, hd, hm⟩
  have H2 := Lib.hid hd
  have M2 := Lib.hid hm
  clear hd hm
  go_wp2
  go_ret
  exact ⟨rfl, F2, H2.out, (Moved.of_new HX.out).trans M2.out⟩

set_option maxHeartbeats 1000000 in
theorem play_else (p : Nat) (F : List Nat) (D : Dk) (x : Act11) (w : World) (h : Disk w p F D) (h0 : x.kind ≠ 0) (h1 : x.kind ≠ 1) (h2 : x.kind ≠ 2) (h3 : x.kind ≠ 3) (h4 : x.kind ≠ 4) (h5 : x.kind ≠ 5) (h6 : x.kind ≠ 6) (h7 : x.kind ≠ 7) (h8 : x.kind ≠ 8) :
    Calls Try.prog 11 #[.pointer (some ⟨p, 0, none⟩), x.agg] w fun r w2 => r = .returned (.int .i64 (D.play x).2) ∧ DiskTo F w p w2 (D.play x).1 := by
  have e : D.play x = (D, 0) := by simp [Dk.play, h0, h1, h2, h3, h4, h5, h6, h7, h8]
  rw [e]
  clear e
  have H := Lib.hid (h.alloc (actBox x))
  have HX : Hid (Ext [] w (w.alloc (actBox x))) := (Ext.refl [] w).alloc _
  have k0 : (x.kind == 0) = false := beq_eq_false_iff_ne.2 h0
  have k1 : (x.kind == 1) = false := beq_eq_false_iff_ne.2 h1
  have k2 : (x.kind == 2) = false := beq_eq_false_iff_ne.2 h2
  have k3 : (x.kind == 3) = false := beq_eq_false_iff_ne.2 h3
  have k4 : (x.kind == 4) = false := beq_eq_false_iff_ne.2 h4
  have k5 : (x.kind == 5) = false := beq_eq_false_iff_ne.2 h5
  have k6 : (x.kind == 6) = false := beq_eq_false_iff_ne.2 h6
  have k7 : (x.kind == 7) = false := beq_eq_false_iff_ne.2 h7
  have k8 : (x.kind == 8) = false := beq_eq_false_iff_ne.2 h8
  clear h h0 h1 h2 h3 h4 h5 h6 h7 h8
  go_enter Try.func11, Try.ntmps11
  go_wp2
  go_ret
  exact ⟨rfl, F, H.out, Moved.of_new HX.out⟩

theorem play_any (p : Nat) (F : List Nat) (D : Dk) (x : Act11) (w : World) (h : Disk w p F D) (hf : D.PlayFit x) :
    Calls Try.prog 11 #[.pointer (some ⟨p, 0, none⟩), x.agg] w fun r w2 => r = .returned (.int .i64 (D.play x).2) ∧ DiskTo F w p w2 (D.play x).1 := by
  obtain ⟨k, n, a, b⟩ := x
  by_cases h0 : k = 0
  · subst h0; exact play_0 p F D n a b w h hf
  by_cases h1 : k = 1
  · subst h1; exact play_1 p F D n a b w h hf
  by_cases h2 : k = 2
  · subst h2; exact play_2 p F D n a b w h hf
  by_cases h3 : k = 3
  · subst h3; exact play_3 p F D n a b w h hf
  by_cases h4 : k = 4
  · subst h4; exact play_4 p F D n a b w h hf
  by_cases h5 : k = 5
  · subst h5; exact play_5 p F D n a b w h hf
  by_cases h6 : k = 6
  · subst h6; exact play_6 p F D n a b w h hf
  by_cases h7 : k = 7
  · subst h7; exact play_7 p F D n a b w h hf
  by_cases h8 : k = 8
  · subst h8; exact play_8 p F D n a b w h hf
  exact play_else p F D ⟨k, n, a, b⟩ w h h0 h1 h2 h3 h4 h5 h6 h7 h8

theorem Dk.Ok.playFit {D : Dk} {m : Nat} {x : Act11} (h : D.Ok m) (hm : m ≤ 900000000) (hx : x.large = false) : D.PlayFit x := by
  simp only [Act11.large, Bool.or_eq_false_iff, decide_eq_false_iff_not] at hx
  have := h.sure
  exact ⟨h.small hm, h.crashFit hm, by omega, by omega, by omega⟩

theorem Dk.Ok.play {D : Dk} {m : Nat} {x : Act11} (h : D.Ok m) (hx : x.large = false) (hn : x.n ≤ 9223372036854775807) : (D.play x).1.Ok (m + 1300) := by
  simp only [Act11.large, Bool.or_eq_false_iff, decide_eq_false_iff_not] at hx
  have hm : D.Ok (m + 1300) := h.mono (by omega)
  unfold Dk.play
  split
  · unfold Dk.write
    split
    · split
      · exact hm
      · split
        · exact hm
        · exact (h.done ⟨1, x.a, [], x.b⟩ (by simp)).mono (by simp; omega)
    · exact hm
  · split
    · unfold Dk.append
      split
      · split
        · exact hm
        · exact (h.done ⟨2, x.a, [], x.b⟩ (by simp)).mono (by simp; omega)
      · exact hm
    · split
      · unfold Dk.rename
        split
        · split
          · rename_i hm2 
            have h80 : x.b.length ≤ 80 := by simp only [may, Bool.and_eq_true, decide_eq_true_eq] at hm2; exact hm2.2
            exact (h.done ⟨3, x.a, x.b, []⟩ (by simp)).mono (by simp; omega)
          · exact hm
        · exact hm
      · split
        · unfold Dk.remove
          split
          · exact (h.done ⟨4, x.a, [], []⟩ (by simp)).mono (by simp; omega)
          · exact hm
        · split
          · exact (h.done ⟨5, [], [], []⟩ (by simp)).mono (by simp)
          · split
            · unfold Dk.setFuse
              split
              · exact hm
              · exact ⟨by simp only; omega, hm.trace, hm.now, hm.sure, hm.nowU, hm.sureU, hm.pendE⟩
            · split
              · exact ⟨hm.fuse, hm.trace, hm.now, hm.sure, hm.nowU, hm.sureU, hm.pendE⟩
              · split
                · exact hm.crash x.n
                · split
                  · unfold Dk.edit
                    split
                    · obtain ⟨b, h1, h2⟩ := h.sureU
                      have hs := h.sure; have hnow := h.now
                      refine ⟨hm.fuse, hm.trace, ?_, ?_, hm.nowU.put (by omega), ⟨b + 1000, ?_, by simp only; omega⟩, hm.pendE⟩
                      · have := length_put_le D.now x.a x.b; simp only; omega
                      · simp only
                        split
                        · have := length_put_le D.sure x.a x.b; omega
                        · omega
                      · simp only
                        split
                        · exact (h1.mono (by omega)).put (by omega)
                        · exact h1.mono (by omega)
                    · exact hm
                  · exact hm
end Go.Proofs.Ytngbmofocochaaa
