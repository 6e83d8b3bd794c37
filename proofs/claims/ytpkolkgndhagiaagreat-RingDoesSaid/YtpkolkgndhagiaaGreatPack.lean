/- pack: what is packed: Num, Text. Conditions: lengths fit. -/
import Derived.Test.YtpkolkgndhagiaaGreatOctH
import Derived.Deep.RegionWith
set_option linter.unusedSimpArgs false
set_option linter.unusedVariables false
set_option linter.unnecessarySimpa false
namespace Go.Proofs.YtpkolkgndhagiaaGreat
open Go.RowKit Go.Maps

theorem Ext.old {a w : World} (h : Ext [] a w) : ∀ b o, b < a.heap.size → w.cell? ⟨b, o, none⟩ = a.cell? ⟨b, o, none⟩ := fun b o hb => World.cell?_of_block (h.block b hb (by simp))
theorem conv_one (W : World) (b : Nat) (c : UInt8) (h : W.cell? ⟨b, 0, none⟩ = some (.int .u8 (c.toNat : Int))) : (convert 121 9 (.slice (some ⟨b, 0, none⟩) 1 1)).run Tryz.prog W = .ok (.string ⟨[c].toArray⟩) W :=
  run_convert_bytes_back (P := Tryz.prog) W 121 9 5 ⟨b, 0, none⟩ 1 [c] Tryz.underlying121 Tryz.underlying5 Tryz.underlying9 (fun j hj => by
    obtain rfl : j = 0 := by simpa using hj
    exact h)

theorem add_str (a b : Bs) (h : a.length + b.length ≤ maxLen) (W : World) : (Op.stringOp .add ⟨a.toArray⟩ ⟨b.toArray⟩).run Tryz.prog W = .ok (.string ⟨(a ++ b).toArray⟩) W := by
  have := run_string_add_sum (P := Tryz.prog) W ⟨a.toArray⟩ ⟨b.toArray⟩ h
  rw [ByteArray.mk_append_mk] at this
  exact this

set_option maxRecDepth 100000 in
set_option maxHeartbeats 2000000 in
theorem packNum_any (n : Nat) (w : World) (hn : n < 18446744073709551616) :
    Calls Tryz.prog 51 #[.int .u64 n] w fun e w2 => e = .returned (.string ⟨(numB n).toArray⟩) ∧ Ext [] w w2 := by
  have HN := Lib.hid hn
  clear hn
  go_enter Tryz.func51, Tryz.ntmps51
  go_wp2_with fail
  refine (need_any n w HN.out).mono ?_
  rintro e w1 ⟨rfl, rfl⟩
  have hk8 : need n ≤ 8 := need_le n
  have hk : (need n : Int) ≤ 8 := by omega
  have HNB : Hid (numB n = UInt8.ofNat (need n) :: highB n (need n)) := rfl
  have hcv : ∀ (W : World) (b : Nat), W.cell? ⟨b, 0, none⟩ = some (.int .u8 (need n : Int)) → (convert 121 9 (.slice (some ⟨b, 0, none⟩) 1 1)).run Tryz.prog W = .ok (.string ⟨[UInt8.ofNat (need n)].toArray⟩) W := fun W b h => conv_one W b _ (by rw [h]; congr 2; simp; omega)
  have hwr : IntKind.u8.wrap (need n : Int) = (need n : Int) := by rw [IntKind.wrap_u8]; omega
  have hadd := add_str [UInt8.ofNat (need n)] (highB n (need n)) (by rw [highB_length]; simp [maxLen]; omega)
  generalize need n = k at *
  go_wp2
  go_region_with (first | (go_at_call 76; refine (high_any n k _ (by omega)).mono ?_; rintro e w2 ⟨rfl, hx⟩; have hcx := hx.old))
  all_goals
    have HX := Lib.hid hx
    clear hx hcx hcv hwr hadd
    go_wp2
    go_ret
    refine ⟨by rw [HNB.out]; rfl, ?_⟩
    first
      | exact ((Ext.refl [] w).drew).trans HX.out (by simp)
      | exact (((Ext.refl [] w).drew).trans HX.out (by simp)).alloc _
      | exact (((Ext.refl [] w).alloc _).drew).trans HX.out (by simp)

theorem u64_of_i64 (n : Nat) (h : n ≤ 9223372036854775807) : IntKind.u64.wrap (n : Int) = (n : Int) := by rw [IntKind.wrap_u64]; omega

set_option maxRecDepth 100000 in
set_option maxHeartbeats 2000000 in
theorem packText_any (s : Bs) (w : World) (hs : s.length ≤ 1000000000000) :
    Calls Tryz.prog 50 #[.string ⟨s.toArray⟩] w fun e w2 => e = .returned (.string ⟨(textB s).toArray⟩) ∧ Ext [] w w2 := by
  have HS := Lib.hid hs
  have hb1 : (s.length : Int) ≤ 1000000000000 := by omega
  have hadd := add_str (numB s.length) s (by have := numB_length_le s.length; simp [maxLen]; omega)
  have HT : Hid (textB s = numB s.length ++ s) := rfl
  clear hs
  go_enter Tryz.func50, Tryz.ntmps50
  go_wp2_with fail
  refine (packNum_any s.length w (by have := HS.out; omega)).mono ?_
  rintro e w1 ⟨rfl, hx⟩
  have HX := Lib.hid hx
  clear hx
  generalize numB s.length = nb at *
  go_wp2
  go_ret
  exact ⟨by rw [HT.out]; rfl, HX.out⟩
end Go.Proofs.YtpkolkgndhagiaaGreat
