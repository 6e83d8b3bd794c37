/- The statements of layer 11 begin with calls whose answers the document fixes (awake): it tells true. No condition. -/
import Derived.Test.YtngbmofocochaaaPlay
namespace Go.Proofs.Ytngbmofocochaaa
open Go.RowKit Go.Maps Go.Sort

def aw0 : Dk := ⟨[], [], [], [], 1048576, -1, false⟩
def aw1 : Dk := ⟨[([97], [120])], [], [⟨1, [97], [], [120]⟩], [⟨1, [97], [], [120]⟩], 1048576, -1, false⟩
def aw2 : Dk := ⟨[([97], [120])], [([97], [120])], [], [⟨1, [97], [], [120]⟩, ⟨5, [], [], []⟩], 1048576, -1, false⟩
def aw3 : Dk := ⟨[([97], [120, 121])], [([97], [120])], [⟨2, [97], [], [121]⟩], [⟨1, [97], [], [120]⟩, ⟨5, [], [], []⟩, ⟨2, [97], [], [121]⟩], 1048576, -1, false⟩
def aw4 : Dk := ⟨[([98], [120, 121])], [([97], [120])], [⟨2, [97], [], [121]⟩, ⟨3, [97], [98], []⟩], [⟨1, [97], [], [120]⟩, ⟨5, [], [], []⟩, ⟨2, [97], [], [121]⟩, ⟨3, [97], [98], []⟩], 1048576, -1, false⟩
def aw5 : Dk := ⟨[([97], [120, 121])], [([97], [120, 121])], [], [⟨1, [97], [], [120]⟩, ⟨5, [], [], []⟩, ⟨2, [97], [], [121]⟩, ⟨3, [97], [98], []⟩], 1048576, -1, false⟩
def aw6 : Dk := ⟨[([97], [120, 121])], [([97], [120, 121])], [], [⟨1, [97], [], [120]⟩, ⟨5, [], [], []⟩, ⟨2, [97], [], [121]⟩, ⟨3, [97], [98], []⟩], 1048576, 0, false⟩
def aw7 : Dk := ⟨[([97], [120, 121])], [([97], [120, 121])], [], [⟨1, [97], [], [120]⟩, ⟨5, [], [], []⟩, ⟨2, [97], [], [121]⟩, ⟨3, [97], [98], []⟩], 1048576, 0, true⟩
def aw8 : Dk := ⟨[([97], [120, 121])], [([97], [120, 121])], [], [⟨1, [97], [], [120]⟩, ⟨5, [], [], []⟩, ⟨2, [97], [], [121]⟩, ⟨3, [97], [98], []⟩], 1048576, -1, false⟩
def aw9 : Dk := ⟨[([97], [120, 121])], [([97], [120, 121])], [], [⟨1, [97], [], [120]⟩, ⟨5, [], [], []⟩, ⟨2, [97], [], [121]⟩, ⟨3, [97], [98], []⟩], 3, -1, false⟩
def aw10 : Dk := ⟨[([97], [113])], [([97], [113])], [], [⟨1, [97], [], [120]⟩, ⟨5, [], [], []⟩, ⟨2, [97], [], [121]⟩, ⟨3, [97], [98], []⟩], 3, -1, false⟩
theorem awE0 : aw0.write [97] [120] = (aw1, 0) := by kernel_rfl
theorem awE1 : aw1.sync = (aw2, 0) := by kernel_rfl
theorem awE2 : aw2.append [97] [121] = (aw3, 0) := by kernel_rfl
theorem awE3 : aw3.rename [97] [98] = (aw4, 0) := by kernel_rfl
theorem awE4 : aw4.crash 1 = aw5 := by kernel_rfl
theorem awE5 : aw5.setFuse 0 = aw6 := by kernel_rfl
theorem awE6 : aw6.remove [97] = (aw7, 13) := by kernel_rfl
theorem awE7 : aw7.crash 0 = aw8 := by kernel_rfl
theorem awE8 : ({ aw8 with quota := max 3 0 } : Dk) = aw9 := by kernel_rfl
theorem awE9 : aw9.append [97] [122, 122] = (aw9, 12) := by kernel_rfl
theorem awE10 : aw9.edit [97] [113] = (aw10, 0) := by kernel_rfl
theorem awE11 : aw10.write [65] [] = (aw10, 1) := by kernel_rfl
theorem awE12 : aw10.remove [122] = (aw10, 10) := by kernel_rfl
theorem awS0 : aw0.Small := ⟨by decide +kernel, by decide +kernel, by decide +kernel, by decide +kernel, by decide +kernel⟩
theorem awS1 : aw1.Small := ⟨by decide +kernel, by decide +kernel, by decide +kernel, by decide +kernel, by decide +kernel⟩
theorem awS2 : aw2.Small := ⟨by decide +kernel, by decide +kernel, by decide +kernel, by decide +kernel, by decide +kernel⟩
theorem awS3 : aw3.Small := ⟨by decide +kernel, by decide +kernel, by decide +kernel, by decide +kernel, by decide +kernel⟩
theorem awS4 : aw4.Small := ⟨by decide +kernel, by decide +kernel, by decide +kernel, by decide +kernel, by decide +kernel⟩
theorem awS5 : aw5.Small := ⟨by decide +kernel, by decide +kernel, by decide +kernel, by decide +kernel, by decide +kernel⟩
theorem awS6 : aw6.Small := ⟨by decide +kernel, by decide +kernel, by decide +kernel, by decide +kernel, by decide +kernel⟩
theorem awS7 : aw7.Small := ⟨by decide +kernel, by decide +kernel, by decide +kernel, by decide +kernel, by decide +kernel⟩
theorem awS8 : aw8.Small := ⟨by decide +kernel, by decide +kernel, by decide +kernel, by decide +kernel, by decide +kernel⟩
theorem awS9 : aw9.Small := ⟨by decide +kernel, by decide +kernel, by decide +kernel, by decide +kernel, by decide +kernel⟩
theorem awS10 : aw10.Small := ⟨by decide +kernel, by decide +kernel, by decide +kernel, by decide +kernel, by decide +kernel⟩
theorem awC4 : aw4.CrashFit := by
  have h1 : aw1.Ok 3 := ok_new.done ⟨1, [97], [], [120]⟩ (by decide)
  have h2 : aw2.Ok 4 := h1.done ⟨5, [], [], []⟩ (by decide)
  have h3 : aw3.Ok 7 := h2.done ⟨2, [97], [], [121]⟩ (by decide)
  have h4 : aw4.Ok 10 := h3.done ⟨3, [97], [98], []⟩ (by decide)
  exact h4.crashFit (by decide)
theorem awC7 : aw7.CrashFit := ⟨by decide +kernel, fun j hj => absurd hj (Nat.not_lt_zero _)⟩

/-- A disk that was made behind w0. -/
structure Lives (w0 w : World) (p : Nat) (F : List Nat) (D : Dk) : Prop where
  disk : Disk w p F D
  ext : Ext [] w0 w
  new : ∀ x ∈ F, w0.heap.size ≤ x
theorem Lives.step {w0 w w2 : World} {p : Nat} {F F2 : List Nat} {D D2 : Dk} (h : Lives w0 w p F D) (m : Moved F w w2 F2) (hd : Disk w2 p F2 D2) : Lives w0 w2 p F2 D2 :=
  ⟨hd, h.ext.trans m.ext (fun x hx => .inr (h.new x hx)), fun x hx => (m.new x hx).elim (fun h1 => h.new x h1) (fun h1 => by have := h.ext.size; omega)⟩
theorem Lives.more {w0 w w2 : World} {p : Nat} {F : List Nat} {D : Dk} (h : Lives w0 w p F D) (hx : Ext [] w w2) : Lives w0 w2 p F D :=
  ⟨h.disk.ext hx (by simp), h.ext.trans hx (by simp), h.new⟩

set_option maxRecDepth 100000 in
set_option maxHeartbeats 4000000 in
theorem awake_any (w : World) : Calls Try.prog 8 #[] w fun r w2 => r = .returned (.bool true) ∧ Ext [] w w2 := by
  go_enter Try.func8, Try.ntmps8
  go_wp2_with fail
  refine (new_any w).mono ?_
  rintro r w0 ⟨p, F0, rfl, hd, hx, hk⟩
  have L0 := Lib.hid (Lives.mk hd hx hk)
  clear hd hx hk
  go_wp2_with fail
  have c := write_any p F0 aw0 [97] [120] w0 L0.out.disk awS0 (by decide) (by decide)
  rw [awE0] at c
  refine c.mono ?_
  clear c
  rintro r w1 ⟨rfl, F1, hd, hm⟩
  have L1 := Lib.hid (L0.out.step hm hd)
  clear hd hm
  go_wp2_with fail
  have c := sync_any p F1 aw1 w1 L1.out.disk awS1
  rw [awE1] at c
  refine c.mono ?_
  clear c
  rintro r w2 ⟨rfl, F2, hd, hm⟩
  have L2 := Lib.hid (L1.out.step hm hd)
  clear hd hm
  go_wp2_with fail
  have c := append_any p F2 aw2 [97] [121] w2 L2.out.disk awS2 (by decide) (by decide)
  rw [awE2] at c
  refine c.mono ?_
  clear c
  rintro r w3 ⟨rfl, F3, hd, hm⟩
  have L3 := Lib.hid (L2.out.step hm hd)
  clear hd hm
  go_wp2_with fail
  have c := rename_any p F3 aw3 [97] [98] w3 L3.out.disk awS3 (by decide) (by decide)
  rw [awE3] at c
  refine c.mono ?_
  clear c
  rintro r w4 ⟨rfl, F4, hd, hm⟩
  have L4 := Lib.hid (L3.out.step hm hd)
  clear hd hm
  go_wp2_with fail
  refine (pending_any p F4 aw4 w4 L4.out.disk).mono ?_
  rintro r wz ⟨rfl, rfl⟩
  go_wp2_with fail
  have c := crash_any p F4 aw4 1 w4 L4.out.disk awC4
  rw [awE4] at c
  refine c.mono ?_
  clear c
  rintro r w5 ⟨rfl, F5, hd, hm⟩
  have L5 := Lib.hid (L4.out.step hm hd)
  clear hd hm
  go_wp2_with fail
  refine (list_any p F5 aw5 [] w5 L5.out.disk (by decide +kernel)).mono ?_
  rintro r w6 ⟨vl, rfl, hs, hx, hv⟩
  rw [show aw5.now.names [] = [[97]] from by kernel_rfl] at hs
  have S := Lib.hid hs
  have L6 := Lib.hid (L5.out.more hx)
  obtain ⟨gl, capl, curl, hvl, _, hgl, hnl, hml, hsl, htl⟩ := hs.2.resolve_left (fun e => absurd e.2 (by decide))
  subst hvl
  have HG : Hid (w5.heap.size ≤ gl ∧ gl < w6.heap.size) := ⟨hv gl rfl, heap_lt hgl⟩
  have HN6 : Hid (gl ∉ F5) := fun h => by have := L5.out.disk.lt gl h; have := HG.out.1; omega
  obtain ⟨F6, rfl⟩ : ∃ x, x = F5 := ⟨_, rfl⟩
  clear hs hx hv hgl hnl hml hsl htl
  go_wp2_with fail
  refine (read_any p F6 aw5 [97] w6 L6.out.disk (by decide)).mono ?_
  rintro r wz ⟨rfl, rfl⟩
  go_wp2_with fail
  have c := fuse_any p F6 aw5 0 w6 L6.out.disk
  rw [awE5] at c
  refine c.mono ?_
  clear c
  rintro r w7 ⟨rfl, hd, hm0⟩
  have hm := Moved.of_ext hm0
  obtain ⟨F7, rfl⟩ : ∃ x, x = F6 := ⟨_, rfl⟩
  have L7 := Lib.hid (L6.out.step hm hd)
  have S' := Lib.hid (row_ext S.out hm.ext (fun k hk => by simp [Value.ownBlock] at hk; subst hk; exact HN6.out))
  have HG' : Hid (gl < w7.heap.size) := by have := HG.out.2; have := hm.ext.size; unfold Hid; omega
  have HN7 : Hid (gl ∉ F7) := fun h => (hm.new gl h).elim HN6.out (fun h1 => by have := HG.out.2; omega)
  clear hd hm S HG HN6 hm0
  have S := S'
  have HG := HG'
  clear S' HG'
  go_wp2_with fail
  have c := remove_any p F7 aw6 [97] w7 L7.out.disk awS6 (by decide)
  rw [awE6] at c
  refine c.mono ?_
  clear c
  rintro r w8 ⟨rfl, F8, hd, hm⟩
  have L8 := Lib.hid (L7.out.step hm hd)
  have S' := Lib.hid (row_ext S.out hm.ext (fun k hk => by simp [Value.ownBlock] at hk; subst hk; exact HN7.out))
  have HG' : Hid (gl < w8.heap.size) := by have := HG.out; have := hm.ext.size; unfold Hid; omega
  have HN8 : Hid (gl ∉ F8) := fun h => (hm.new gl h).elim HN7.out (fun h1 => by have := HG.out; omega)
  clear hd hm S HG HN7
  have S := S'
  have HG := HG'
  clear S' HG'
  go_wp2_with fail
  refine (dead_any p F8 aw7 w8 L8.out.disk).mono ?_
  rintro r wz ⟨rfl, rfl⟩
  go_wp2_with fail
  have c := crash_any p F8 aw7 0 w8 L8.out.disk awC7
  rw [awE7] at c
  refine c.mono ?_
  clear c
  rintro r w9 ⟨rfl, F9, hd, hm⟩
  have L9 := Lib.hid (L8.out.step hm hd)
  have S' := Lib.hid (row_ext S.out hm.ext (fun k hk => by simp [Value.ownBlock] at hk; subst hk; exact HN8.out))
  have HG' : Hid (gl < w9.heap.size) := by have := HG.out; have := hm.ext.size; unfold Hid; omega
  have HN9 : Hid (gl ∉ F9) := fun h => (hm.new gl h).elim HN8.out (fun h1 => by have := HG.out; omega)
  clear hd hm S HG HN8
  have S := S'
  have HG := HG'
  clear S' HG'
  go_wp2_with fail
  have c := quota_any p F9 aw8 3 w9 L9.out.disk
  rw [awE8] at c
  refine c.mono ?_
  clear c
  rintro r w10 ⟨rfl, hd, hm0⟩
  have hm := Moved.of_ext hm0
  obtain ⟨F10, rfl⟩ : ∃ x, x = F9 := ⟨_, rfl⟩
  have L10 := Lib.hid (L9.out.step hm hd)
  have S' := Lib.hid (row_ext S.out hm.ext (fun k hk => by simp [Value.ownBlock] at hk; subst hk; exact HN9.out))
  have HG' : Hid (gl < w10.heap.size) := by have := HG.out; have := hm.ext.size; unfold Hid; omega
  have HN10 : Hid (gl ∉ F10) := fun h => (hm.new gl h).elim HN9.out (fun h1 => by have := HG.out; omega)
  clear hd hm S HG HN9 hm0
  have S := S'
  have HG := HG'
  clear S' HG'
  go_wp2_with fail
  have c := append_any p F10 aw9 [97] [122, 122] w10 L10.out.disk awS9 (by decide) (by decide)
  rw [awE9] at c
  refine c.mono ?_
  clear c
  rintro r w11 ⟨rfl, F11, hd, hm⟩
  have L11 := Lib.hid (L10.out.step hm hd)
  have S' := Lib.hid (row_ext S.out hm.ext (fun k hk => by simp [Value.ownBlock] at hk; subst hk; exact HN10.out))
  have HG' : Hid (gl < w11.heap.size) := by have := HG.out; have := hm.ext.size; unfold Hid; omega
  have HN11 : Hid (gl ∉ F11) := fun h => (hm.new gl h).elim HN10.out (fun h1 => by have := HG.out; omega)
  clear hd hm S HG HN10
  have S := S'
  have HG := HG'
  clear S' HG'
  go_wp2_with fail
  have c := edit_any p F11 aw9 [97] [113] w11 L11.out.disk (by decide +kernel) (by decide +kernel) (by decide) (by decide)
  rw [awE10] at c
  refine c.mono ?_
  clear c
  rintro r w12 ⟨rfl, F12, hd, hm⟩
  have L12 := Lib.hid (L11.out.step hm hd)
  have S' := Lib.hid (row_ext S.out hm.ext (fun k hk => by simp [Value.ownBlock] at hk; subst hk; exact HN11.out))
  have HG' : Hid (gl < w12.heap.size) := by have := HG.out; have := hm.ext.size; unfold Hid; omega
  have HN12 : Hid (gl ∉ F12) := fun h => (hm.new gl h).elim HN11.out (fun h1 => by have := HG.out; omega)
  clear hd hm S HG HN11
  have S := S'
  have HG := HG'
  clear S' HG'
  go_wp2_with fail
  refine (read_any p F12 aw10 [97] w12 L12.out.disk (by decide)).mono ?_
  rintro r wz ⟨rfl, rfl⟩
  go_wp2_with fail
  refine (trace_any p F12 aw10 w12 L12.out.disk (by decide +kernel)).mono ?_
  rintro r w13 ⟨vt, rfl, ht, hx, hv⟩
  obtain ⟨gt, capt, curt, hvt, _, hgt, hnt, hmt, hst, htt⟩ := ht.2.resolve_left (fun e => absurd e.2 (by decide))
  have hnt' : (4 : Int) ≤ capt := by have : aw10.trace.length = 4 := rfl; omega
  have hmt' : (capt : Int) ≤ 9223372036854775807 := by unfold maxLen at hmt; omega
  subst hvt
  have e0 : w13.cell? ⟨gt, 12, none⟩ = some (.int .i64 3) := (Evs.at ht 3 (by decide)).1
  have e1 : w13.cell? ⟨gt, 13, none⟩ = some (.string ⟨#[97]⟩) := (Evs.at ht 3 (by decide)).2.1
  have e2 : w13.cell? ⟨gt, 14, none⟩ = some (.string ⟨#[98]⟩) := (Evs.at ht 3 (by decide)).2.2.1
  have e3 : w13.cell? ⟨gt, 15, none⟩ = some (.string ⟨#[]⟩) := (Evs.at ht 3 (by decide)).2.2.2
  have L13 := Lib.hid (L12.out.more hx)
  obtain ⟨F13, rfl⟩ : ∃ x, x = F12 := ⟨_, rfl⟩
  have S' := row_ext S.out hx (by simp)
  have s0 : w13.cell? ⟨gl, 0, none⟩ = some (.string ⟨#[97]⟩) := World.ownsRow.cells S' (g := gl) rfl 0 _ rfl
  have hl4 : aw10.trace.length = 4 := rfl
  rw [hl4]
  have hl1 : List.length [([97] : Bs)] = 1 := rfl
  have heq : ∀ w, (binOp .eql 35 (.agg #[.int .i64 3, .string ⟨#[97]⟩, .string ⟨#[98]⟩, .string ⟨#[]⟩]) (.agg #[.int .i64 3, .string ⟨#[97]⟩, .string ⟨#[98]⟩, .string ⟨#[]⟩])).run Try.prog w = .ok (.bool true) w := fun _ => by kernel_rfl
  clear ht hx hv hgt hnt hmt hst htt S' S hl4 HG HN12
  go_wp2_with fail
  have c := size_any p F13 aw10 w13 L13.out.disk (by decide +kernel)
  rw [show aw10.now.bytes = 1 from by kernel_rfl] at c
  refine c.mono ?_
  clear c
  rintro r wa ⟨rfl, hx⟩
  have La := Lib.hid (L13.out.more hx)
  have a0 := hx.cell e0 (by simp)
  have a1 := hx.cell e1 (by simp)
  have a2 := hx.cell e2 (by simp)
  have a3 := hx.cell e3 (by simp)
  clear hx e0 e1 e2 e3 s0 hl1
  go_wp2_with fail
  have c := write_any p F13 aw10 [65] [] wa La.out.disk awS10 (by decide) (by decide)
  rw [awE11] at c
  refine c.mono ?_
  clear c
  rintro r wb ⟨rfl, Fb, hd, hm⟩
  have Lb := Lib.hid (La.out.step hm hd)
  clear hd hm a0 a1 a2 a3 heq
  go_wp2_with fail
  have c := remove_any p Fb aw10 [122] wb Lb.out.disk awS10 (by decide)
  rw [awE12] at c
  refine c.mono ?_
  clear c
  rintro r wc ⟨rfl, Fc, hd, hm⟩
  have Lc := Lib.hid (Lb.out.step hm hd)
  clear hd hm
  go_wp2_with fail
  have c := may_any [97, 47, 98, 45, 99, 95, 100, 46, 101] wc (by decide)
  rw [show may [97, 47, 98, 45, 99, 95, 100, 46, 101] = true from by kernel_rfl] at c
  refine c.mono ?_
  clear c
  rintro r wd ⟨rfl, rfl⟩
  go_wp2_with fail
  have c := may_any [] wc (by decide)
  rw [show may [] = false from by kernel_rfl] at c
  refine c.mono ?_
  clear c
  rintro r we ⟨rfl, rfl⟩
  go_wp2_with fail
  go_ret
  exact ⟨rfl, Lc.out.ext⟩
end Go.Proofs.Ytngbmofocochaaa
