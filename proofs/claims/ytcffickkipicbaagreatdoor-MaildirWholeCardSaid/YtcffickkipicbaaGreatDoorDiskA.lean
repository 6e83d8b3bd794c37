/- disk: the model of what is done to files, and what (files).do does. Conditions: the lengths fit. -/
import Derived.Test.YtcffickkipicbaaGreatDoorChecked
import Derived.Test.YtcffickkipicbaaGreatDoorBase
set_option linter.unusedSimpArgs false
set_option linter.unusedVariables false
set_option linter.unnecessarySimpa false
namespace Go.Proofs.YtcffickkipicbaaGreatDoor
open Go.RowKit Go.Maps

structure Ev where
  op : Int
  name : Bs
  to : Bs
  data : Bs
def Ev.vals (e : Ev) : List Value := [.int .i64 e.op, .string ⟨e.name.toArray⟩, .string ⟨e.to.toArray⟩, .string ⟨e.data.toArray⟩]
abbrev Ev.agg (e : Ev) : Value := .agg #[.int .i64 e.op, .string ⟨e.name.toArray⟩, .string ⟨e.to.toArray⟩, .string ⟨e.data.toArray⟩]
def Fs.did (F : Fs) (e : Ev) : Fs :=
  if e.op = 1 then F.put e.name e.data
  else if e.op = 2 then F.put e.name ((F.get e.name).getD [] ++ e.data)
  else if e.op = 3 then (F.del e.name).put e.to ((F.get e.name).getD [])
  else if e.op = 4 then F.del e.name
  else F

theorem zeroStr (w : World) : (zeroValue 9).run Tryz.prog w = .ok (.string ⟨#[]⟩) w := by kernel_rfl
abbrev MapA (w : World) (b : Nat) (F : Fs) : Prop := MapAt Tryz.prog 9 9 w b F

set_option maxRecDepth 100000 in
set_option maxHeartbeats 400000 in
theorem do_write (m : Nat) (F : Fs) (n t d : Bs) (w : World) (hm : MapA w m F) (hF : F.length < maxLen) (hn : n.length ≤ maxLen) (hd : d.length ≤ maxLen) :
    Calls Tryz.prog 67 #[.map (some m), (Ev.mk 1 n t d).agg] w fun e w2 => e = .returned (.tuple #[]) ∧ MapA w2 m (F.put n d) ∧ Ext [m] w w2 := by
  have hm0 := fun o => hm.ext ((Ext.refl [] w).alloc o) (by simp)
  obtain ⟨w1, hrun, hm1, hx1, hs1⟩ := (hm0 (.cells #[.int .i64 1, .string ⟨n.toArray⟩, .string ⟨t.toArray⟩, .string ⟨d.toArray⟩] 82)).update (t := 69) Tryz.underlying9 Tryz.underlying9 Tryz.underlying69 hF n d hn hd
  have H1 := Lib.hid hm1
  have H2 := Lib.hid (((Ext.refl [m] w).alloc _).trans hx1 (by simp))
  clear hm hF hn hd hm0 hm1 hx1 hs1
  go_enter Tryz.func67, Tryz.ntmps67
  go_wp2
  go_end0
  exact ⟨rfl, H1.out, H2.out⟩

set_option maxRecDepth 100000 in
set_option maxHeartbeats 400000 in
theorem do_lay (m : Nat) (F : Fs) (n t d : Bs) (w : World) (hm : MapA w m F) (hF : F.length < maxLen) (hn : n.length ≤ maxLen) (hd : ((F.get n).getD []).length + d.length ≤ maxLen) :
    Calls Tryz.prog 67 #[.map (some m), (Ev.mk 2 n t d).agg] w fun e w2 => e = .returned (.tuple #[]) ∧ MapA w2 m (F.put n ((F.get n).getD [] ++ d)) ∧ Ext [m] w w2 := by
  have hm0 := fun o => hm.ext ((Ext.refl [] w).alloc o) (by simp)
  have hl := (hm0 (.cells #[.int .i64 2, .string ⟨n.toArray⟩, .string ⟨t.toArray⟩, .string ⟨d.toArray⟩] 82)).look (t := 69) Tryz.underlying9 Tryz.underlying9 Tryz.underlying69 (zeroStr _) n hn
  have hd' : ((F.get n).getD [] ++ d).length ≤ maxLen := by simpa using hd
  obtain ⟨w1, hrun, hm1, hx1, hs1⟩ := (hm0 (.cells #[.int .i64 2, .string ⟨n.toArray⟩, .string ⟨t.toArray⟩, .string ⟨d.toArray⟩] 82)).update (t := 69) Tryz.underlying9 Tryz.underlying9 Tryz.underlying69 hF n ((F.get n).getD [] ++ d) hn hd'
  have H1 := Lib.hid hm1
  have H2 := Lib.hid (((Ext.refl [m] w).alloc _).trans hx1 (by simp))
  have hap := ByteArray.mk_append_mk ((F.get n).getD []) d
  have hadd := fun w => run_string_add_sum (P := Tryz.prog) w ⟨((F.get n).getD []).toArray⟩ ⟨d.toArray⟩ hd
  rw [hap] at hadd
  clear hm hF hn hd hd' hm0 hm1 hx1 hs1 hap
  generalize (F.get n).getD [] = old at *
  go_enter Tryz.func67, Tryz.ntmps67
  go_wp2
  go_end0
  exact ⟨rfl, H1.out, H2.out⟩

set_option maxRecDepth 100000 in
set_option maxHeartbeats 400000 in
theorem do_rename (m : Nat) (F : Fs) (n t d : Bs) (w : World) (hm : MapA w m F) (hF : F.length < maxLen) (hn : n.length ≤ maxLen) (ht : t.length ≤ maxLen) (ho : ((F.get n).getD []).length ≤ maxLen) :
    Calls Tryz.prog 67 #[.map (some m), (Ev.mk 3 n t d).agg] w fun e w2 => e = .returned (.tuple #[]) ∧ MapA w2 m ((F.del n).put t ((F.get n).getD [])) ∧ Ext [m] w w2 := by
  have hm0 := hm.ext ((Ext.refl [] w).alloc (.cells #[.int .i64 3, .string ⟨n.toArray⟩, .string ⟨t.toArray⟩, .string ⟨d.toArray⟩] 82)) (by simp)
  have hl := hm0.look (t := 69) Tryz.underlying9 Tryz.underlying9 Tryz.underlying69 (zeroStr _) n hn
  obtain ⟨w1, hrun1, hm1, hx1, hs1⟩ := hm0.delete (t := 69) Tryz.underlying9 Tryz.underlying69 n hn 0
  have hlt := hm.lt
  have hcell : ∀ j v, (w.alloc (.cells #[.int .i64 3, .string ⟨n.toArray⟩, .string ⟨t.toArray⟩, .string ⟨d.toArray⟩] 82)).cell? ⟨w.heap.size, j, none⟩ = some v → w1.cell? ⟨w.heap.size, j, none⟩ = some v := fun j v h => hx1.cell h (by simp; omega)
  have hc2 := hcell 2 (.string ⟨t.toArray⟩) (by simp)
  obtain ⟨w2, hrun2, hm2, hx2, hs2⟩ := hm1.update (t := 69) Tryz.underlying9 Tryz.underlying9 Tryz.underlying69 (by have := List.length_filter_le (fun p : Bs × Bs => !(p.1 == n)) F; unfold Fs.del; omega) t ((F.get n).getD []) ht ho
  have H1 := Lib.hid hm2
  have H2 := Lib.hid ((((Ext.refl [m] w).alloc _).trans hx1 (by simp)).trans hx2 (by simp))
  clear hm hF hn ht ho hm0 hm1 hx1 hs1 hm2 hx2 hs2 hcell hlt
  generalize (F.get n).getD [] = old at *
  go_enter Tryz.func67, Tryz.ntmps67
  go_wp2
  go_end0
  exact ⟨rfl, H1.out, H2.out⟩

set_option maxRecDepth 100000 in
set_option maxHeartbeats 400000 in
theorem do_remove (m : Nat) (F : Fs) (n t d : Bs) (w : World) (hm : MapA w m F) (hn : n.length ≤ maxLen) :
    Calls Tryz.prog 67 #[.map (some m), (Ev.mk 4 n t d).agg] w fun e w2 => e = .returned (.tuple #[]) ∧ MapA w2 m (F.del n) ∧ Ext [m] w w2 := by
  have hm0 := hm.ext ((Ext.refl [] w).alloc (.cells #[.int .i64 4, .string ⟨n.toArray⟩, .string ⟨t.toArray⟩, .string ⟨d.toArray⟩] 82)) (by simp)
  obtain ⟨w1, hrun1, hm1, hx1, hs1⟩ := hm0.delete (t := 69) Tryz.underlying9 Tryz.underlying69 n hn 0
  have H1 := Lib.hid hm1
  have H2 := Lib.hid (((Ext.refl [m] w).alloc _).trans hx1 (by simp))
  clear hm hn hm0 hm1 hx1 hs1
  go_enter Tryz.func67, Tryz.ntmps67
  go_wp2
  go_end0
  exact ⟨rfl, H1.out, H2.out⟩

/-- What was done fits: the lengths of what it names and of what it leaves. -/
structure Ev.Fit (e : Ev) (F : Fs) : Prop where
  op : e.op = 1 ∨ e.op = 2 ∨ e.op = 3 ∨ e.op = 4
  name : e.name.length ≤ maxLen
  to : e.to.length ≤ maxLen
  sum : ((F.get e.name).getD []).length + e.data.length ≤ maxLen

theorem do_any (m : Nat) (F : Fs) (e : Ev) (w : World) (hm : MapA w m F) (hF : F.length < maxLen) (he : e.Fit F) :
    Calls Tryz.prog 67 #[.map (some m), e.agg] w fun r w2 => r = .returned (.tuple #[]) ∧ MapA w2 m (F.did e) ∧ Ext [m] w w2 := by
  obtain ⟨op, n, t, d⟩ := e
  obtain ⟨hop, hn, ht, hs⟩ := he
  dsimp only at hop hn ht hs
  unfold Fs.did
  rcases hop with rfl | rfl | rfl | rfl
  · exact do_write m F n t d w hm hF hn (by omega)
  · exact do_lay m F n t d w hm hF hn hs
  · exact do_rename m F n t d w hm hF hn ht (by omega)
  · exact do_remove m F n t d w hm hn
end Go.Proofs.YtcffickkipicbaaGreatDoor
