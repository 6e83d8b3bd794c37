/- ledger: rows of bytes (text, read, Rows), nonces. Conditions: the lengths fit. -/
import Derived.Test.YtpkolkgndhagiaaBld
import Derived.Test.YtpkolkgndhagiaaRd
import Derived.Test.YtpkolkgndhagiaaLedP
import Derived.Deep.DeepCutAuto
namespace Go.Proofs.Ytpkolkgndhagiaa
open Go.RowKit Go.Maps

set_option maxRecDepth 100000 in
set_option maxHeartbeats 1000000 in
theorem nonce_any (n : Nat) (w : World) (_hn : n < 18446744073709551616) :
    Calls Try.prog 16 #[.int .u64 n] w fun e w2 => e = .returned (.string ⟨(nonceB n).toArray⟩) ∧ Ext [] w w2 := by
  have hmk : ∀ W, (Instr.makeSlice 99 (.int .i64 4) (.int .i64 4)).run Try.prog W = .ok (.slice (some ⟨W.heap.size, 0, none⟩) 4 4) (W.alloc (.cells #[.int .u8 0, .int .u8 0, .int .u8 0, .int .u8 0] 5)) := fun W => by
    have := run_make_row' (P := Try.prog) 99 5 (.int .u8 0) 1 Try.underlying99 (by kernel_rfl) rfl .i64 .i64 4 (by omega) (by omega) W
    rw [made_rowB] at this
    exact this
  have hcv : ∀ (W : World) (b : Nat), W.cell? ⟨b, 0, none⟩ = some (.int .u8 0) → W.cell? ⟨b, 1, none⟩ = some (.int .u8 0) → W.cell? ⟨b, 2, none⟩ = some (.int .u8 0) → W.cell? ⟨b, 3, none⟩ = some (.int .u8 0) →
      (convert 99 9 (.slice (some ⟨b, 0, none⟩) 4 4)).run Try.prog W = .ok (.string ⟨#[0, 0, 0, 0]⟩) W := fun W b h0 h1 h2 h3 =>
    run_convert_bytes_back (P := Try.prog) W 99 9 5 ⟨b, 0, none⟩ 4 [0, 0, 0, 0] Try.underlying99 Try.underlying5 Try.underlying9 (fun j hj => by
      have hj4 : j < 4 := hj
      obtain rfl | rfl | rfl | rfl : j = 0 ∨ j = 1 ∨ j = 2 ∨ j = 3 := by omega
      · exact h0
      · exact h1
      · exact h2
      · exact h3)
  have hadd := add_str [0, 0, 0, 0] (highB n 8) (by rw [highB_length]; decide)
  have HN : Hid (nonceB n = [0, 0, 0, 0] ++ highB n 8) := rfl
  go_enter Try.func16, Try.ntmps16
  go_wp2
  go_region_with (first | (go_at_call 50; refine (high_any n 8 _ (by omega)).mono ?_; rintro e w2 ⟨rfl, hx⟩; have hcx := hx.old))
  all_goals
    have HX := Lib.hid hx
    clear hx hcx hcv hmk hadd
    go_wp2
    go_ret
    refine ⟨by rw [HN.out]; rfl, ?_⟩
    first
      | exact ((Ext.refl [] w).drew).trans HX.out (by simp)
      | exact (((Ext.refl [] w).drew).trans HX.out (by simp)).alloc _
      | exact (((Ext.refl [] w).alloc _).drew).trans HX.out (by simp)

end Go.Proofs.Ytpkolkgndhagiaa
