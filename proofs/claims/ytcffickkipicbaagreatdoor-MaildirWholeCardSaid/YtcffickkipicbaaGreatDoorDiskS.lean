/- disk: how many bytes there are (Size). Condition: they are fewer than an int tells. -/
import Derived.Test.YtcffickkipicbaaGreatDoorDiskD
import Derived.Test.YtcffickkipicbaaGreatDoorRange
set_option linter.unusedSimpArgs false
set_option linter.unusedVariables false
set_option linter.unnecessarySimpa false
namespace Go.Proofs.YtcffickkipicbaaGreatDoor
open Go.RowKit Go.Maps

def Fs.bytes (F : Fs) : Nat := (F.map fun p => p.2.length).sum
theorem bytes_perm {F G : Fs} (h : F.Perm G) : F.bytes = G.bytes := by
  unfold Fs.bytes
  exact (h.map _).sum_nat

set_option maxRecDepth 100000 in
set_option maxHeartbeats 1000000 in
theorem size_any (p : Nat) (F : List Nat) (D : Dk) (w : World) (h : Disk w p F D) (hb : D.now.bytes ≤ 9223372036854775807) :
    Calls Tryz.prog 58 #[.pointer (some ⟨p, 0, none⟩)] w fun e w2 => e = .returned (.int .i64 D.now.bytes) ∧ Ext [] w w2 := by
  obtain ⟨mn, ms, pv, tv, h, rfl⟩ := h
  obtain ⟨h0, h1, h2, h3, h4, h5, h6⟩ := h.cells
  obtain ⟨w0, cnt0, hrun, hR0, hx0, hs0⟩ := h.now.range (t := 69) Tryz.underlying9 Tryz.underlying69
  have HR0 := Lib.hid hR0
  have HX0 := Lib.hid hx0
  have HB := Lib.hid hb
  have HN := Lib.hid h.now.lt
  clear h1 h2 h3 h4 h5 h6 h hR0 hx0 hs0 hb
  go_enter Tryz.func58, Tryz.ntmps58
  go_wp2
  go_loopw [3] (fun n wr => ∃ L cnt, RangeAt Tryz.prog 9 9 wr mn w.heap.size D.now L cnt ∧ n = .int .i64 ((D.now.bytes : Int) - L.bytes) ∧ L.bytes ≤ D.now.bytes ∧ Ext [] w wr) (fun _ wr => wr.rangeLeft mn w.heap.size)
  case atStart => exact ⟨D.now, cnt0, HR0.out, by simp, Nat.le_refl _, HX0.out⟩
  case round =>
    obtain ⟨L, cnt, hR, rfl, hle, hx⟩ := hrel
    have HR := Lib.hid hR
    have HX := Lib.hid hx
    rcases hR.next Tryz.underlying9 Tryz.underlying9 with ⟨rfl, hn⟩ | ⟨x, c, w1, L1, cnt1, hp, hm, hx1, hc1, hn, hR1, hlt, hxx, hsz, hen⟩
    · clear hR hx
      go_wp2
      go_ret
      exact ⟨ret_int (by simp [Fs.bytes]), HX.out⟩
    · have hb1 : L.bytes = c.length + Fs.bytes L1 := by rw [bytes_perm hp]; simp [Fs.bytes]
      have HB1 := Lib.hid hb1
      have HR1 := Lib.hid hR1
      have HX1 : Hid (Ext [] w w1) := hx.trans hxx (by simp)
      have l1 : (0 : Int) ≤ (D.now.bytes : Int) - L.bytes := by omega
      have l2 : (D.now.bytes : Int) - L.bytes + c.length ≤ 9223372036854775807 := by have := HB.out; omega
      have HLT := Lib.hid hlt
      clear hR hx hp hm hx1 hc1 hb1 hR1 hlt hxx hsz
      go_wp2
      go_roundw
      case rel => exact ⟨L1, cnt1, HR1.out, (by have := HB1.out; congr 1; omega), by have := HB1.out; omega, HX1.out⟩
      case measure => rw [HR.out.left_eq, HR1.out.left_eq]; exact HLT.out
end Go.Proofs.YtcffickkipicbaaGreatDoor
