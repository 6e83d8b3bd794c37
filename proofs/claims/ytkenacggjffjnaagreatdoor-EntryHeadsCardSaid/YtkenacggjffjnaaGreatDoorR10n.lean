/- The document's Num (posthornref10): a number's digits. Condition: the number is an int. -/
import Derived.Test.YtkenacggjffjnaaGreatDoorSp
import Derived.Test.YtkenacggjffjnaaGreatDoorEnv
import Derived.Lib.AppendIntMem
import Derived.Lib.ItoaMem
import Derived.Test.YtkenacggjffjnaaGreatDoorPack
import Derived.Deep.RegionWith
set_option linter.unusedSimpArgs false
set_option linter.unusedVariables false
set_option linter.unnecessarySimpa false
namespace Go.Proofs.YtkenacggjffjnaaGreatDoor
open Go.RowKit
open Go.Lib (decDigits)

theorem dec_len (n : Nat) (h : n ≤ 9223372036854775807) : (decDigits n).length ≤ 30 := by
  by_cases h1 : 1 ≤ n
  · rw [Lib.decDigits_length]
    have := Lib.numDigits_eq n h1 (by omega)
    split at this <;> omega
  · obtain rfl : n = 0 := by omega
    rw [Lib.decDigits_one (by decide)]
    decide
set_option maxRecDepth 100000 in
set_option maxHeartbeats 4000000 in
theorem r10Num_any (n : Nat) : ∀ (w : World), n ≤ 9223372036854775807 →
    Calls Tryz.prog 78 #[.int .i64 n] w fun e w2 => e = .returned (.string ⟨(decDigits n).toArray⟩) ∧ Ext [] w w2 := by
  induction n using Nat.strongRecOn with
  | _ n ih =>
    intro w hn
    have hcv : ∀ (k : Nat), k < 10 → ∀ (W : World) (b : Nat), W.cell? ⟨b, 0, none⟩ = some (.int .u8 (48 + k : Int)) → (convert 44 9 (.slice (some ⟨b, 0, none⟩) 1 1)).run Tryz.prog W = .ok (.string ⟨[UInt8.ofNat (48 + k)].toArray⟩) W := fun k hk W b h => conv_one W b _ (by rw [h]; congr 2; simp; omega)
    by_cases h10 : n < 10
    · have h10' : (n : Int) < 10 := by omega
      have hcv := hcv n h10
      have HD : Hid (decDigits n = [UInt8.ofNat (48 + n)]) := by rw [decDigits, dif_pos h10]; exact Eq.refl _
      have hwr : IntKind.u8.wrap (48 + n : Int) = (48 + n : Int) := by rw [IntKind.wrap_u8]; omega
      generalize UInt8.ofNat (48 + n) = cc at *
      clear ih h10 hn
      go_enter Tryz.func78, Tryz.ntmps78
      go_wp2
      go_ret
      rw [HD.out]
      exact ⟨rfl, (Ext.refl [] w).alloc _⟩
    · have h10' : ¬ (n : Int) < 10 := by omega
      have IH := Lib.hid (ih (n / 10) (by omega))
      have HN : Hid (n / 10 ≤ 9223372036854775807) := by unfold Hid; omega
      have HD : Hid (decDigits n = decDigits (n / 10) ++ [UInt8.ofNat (48 + n % 10)]) := by rw [decDigits, dif_neg h10]; exact Eq.refl _
      have hdl := dec_len (n / 10) (by omega)
      have hadd := add_str (decDigits (n / 10)) [UInt8.ofNat (48 + n % 10)] (by simp [maxLen]; omega)
      have hdiv : (n : Int).tdiv 10 = ((n / 10 : Nat) : Int) := by simp [Int.tdiv]
      have hmod : (n : Int).tmod 10 = ((n % 10 : Nat) : Int) := by simp [Int.tmod]
      have hcv := hcv (n % 10) (by omega)
      have hm10 : n % 10 < 10 := by omega
      have hm10' : ((n % 10 : Nat) : Int) < 10 := by omega
      have hwr : IntKind.u8.wrap (48 + (n % 10 : Nat) : Int) = (48 + (n % 10 : Nat) : Int) := by rw [IntKind.wrap_u8]; omega
      generalize UInt8.ofNat (48 + n % 10) = cc at *
      clear ih h10 hn hdl
      generalize n / 10 = q at *
      generalize n % 10 = r at *
      have hw1 : IntKind.i64.wrap (48 + (r : Int)) = 48 + (r : Int) := IntWalk.i64_in _ (by omega)
      have hw2 : IntKind.i64.wrap (q : Int) = (q : Int) := IntWalk.i64_in _ (by have := HN.out; omega)
      have hw3 : IntKind.i64.wrap (r : Int) = (r : Int) := IntWalk.i64_in _ (by omega)
      go_enter Tryz.func78, Tryz.ntmps78
      go_wp2
      go_region_with (first | (go_at_call 78; refine (IH.out _ HN.out).mono ?_; rintro e w2 ⟨rfl, hx⟩; have hcx := hx.old))
      all_goals
        have HX := Lib.hid hx
        clear hx hcx hcv hwr hadd hw1 hw2 hw3
        go_wp2
        go_ret
        refine ⟨by rw [HD.out]; rfl, ?_⟩
        first
          | exact ((Ext.refl [] w).drew).trans HX.out (by simp)
          | exact (((Ext.refl [] w).drew).trans HX.out (by simp)).alloc _
          | exact (((Ext.refl [] w).alloc _).drew).trans HX.out (by simp)
end Go.Proofs.YtkenacggjffjnaaGreatDoor
