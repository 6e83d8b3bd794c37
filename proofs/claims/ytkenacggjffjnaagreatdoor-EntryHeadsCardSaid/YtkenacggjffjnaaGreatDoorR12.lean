/- The reference's numbers and texts that are taken (posthornref12.In), in the words of parts. Conditions: the lengths fit. -/
import Derived.Test.YtkenacggjffjnaaGreatDoorByt
import Derived.Deep.RegionWith
import Derived.Test.YtkenacggjffjnaaGreatDoorReg
set_option linter.unusedSimpArgs false
set_option linter.unusedVariables false
set_option linter.unnecessarySimpa false
namespace Go.Proofs.YtkenacggjffjnaaGreatDoor
open Go.RowKit Go.Maps Go.Sort

/-! ### plainly -/
theorem needF_all : ∀ f k n, k ≤ f → (∀ j, j < k → n / 256 ^ j ≠ 0) → (k = f ∨ n / 256 ^ k = 0) → needF f n = k
  | 0, k, n, hk, _, _ => by simp [needF]; omega
  | f + 1, 0, n, _, _, h => by
    have : n = 0 := by simpa using h
    rw [needF, if_pos this]
  | f + 1, k + 1, n, hk, h1, h2 => by
    have h0 : n ≠ 0 := by simpa using h1 0 (by omega)
    have e : ∀ j, n / 256 / 256 ^ j = n / 256 ^ (j + 1) := fun j => by rw [Nat.pow_succ, Nat.mul_comm, ← Nat.div_div_eq_div_mul]
    have h3 : k = f ∨ n / 256 / 256 ^ k = 0 := by
      rcases h2 with h2 | h2
      · exact .inl (by omega)
      · exact .inr (by rw [e]; exact h2)
    rw [needF, if_neg h0, needF_all f k (n / 256) (by omega) (fun j hj => by rw [e]; exact h1 (j + 1) (by omega)) h3]
theorem need_all {n k : Nat} (hk : k ≤ 8) (h1 : ∀ j, j < k → n / 256 ^ j ≠ 0) (h2 : k = 8 ∨ n / 256 ^ k = 0) : need n = k := needF_all 8 k n hk h1 h2
theorem numB_is (c : UInt8) (u : Bs) (hu : u.length = c.toNat) : (numB (fromH u) == c :: u) = decide (need (fromH u) = c.toNat) := by
  have hn := need_le (fromH u)
  rw [Bool.eq_iff_iff, beq_iff_eq, decide_eq_true_eq]
  unfold numB
  constructor
  · intro h
    have h1 := (List.cons.inj h).1
    have h2 := congrArg UInt8.toNat h1
    simp at h2
    omega
  · intro h
    rw [h, high_fromH _ _ hu]
    congr 1
    rw [UInt8.ofNat_toNat]

section
variable {w0 w : World} {F0 : List Nat} {L : List Res} {T b : Nat} {r : Rd}
set_option maxRecDepth 100000 in
set_option maxHeartbeats 400000 in
theorem r12FailS (S : Sp w0 F0 w (rdR T b r :: L)) : Calls Tryz.prog 74 #[.pointer (some ⟨b, 0, none⟩)] w fun e w2 => e = .returned (.tuple #[]) ∧ Sp w0 F0 w2 (rdR T b Rd.failed :: L) := by
  have c := S.cell
  have f := S.free
  have HS := Lib.hid ((S.set (o := 1) (.bool true)).set (o := 0) (.string ⟨#[]⟩))
  clear S
  go_enter Tryz.func74, Tryz.ntmps74
  go_wp2
  go_end0
  exact ⟨rfl, HS.out⟩
set_option maxRecDepth 100000 in
set_option maxHeartbeats 400000 in
theorem r12DoneS (S : Sp w0 F0 w (rdR T b r :: L)) : Calls Tryz.prog 45 #[.pointer (some ⟨b, 0, none⟩)] w fun e w2 => e = .returned (.int .i64 r.done) ∧ w = w2 := by
  have c := S.cell
  obtain ⟨s, bad⟩ := r
  clear S
  cases bad
  · cases s
    · go_enter Tryz.func45, Tryz.ntmps45
      go_wp2
      go_ret
      exact ⟨rfl, rfl⟩
    · go_enter Tryz.func45, Tryz.ntmps45
      go_wp2
      all_goals first
        | (go_ret; exact ⟨rfl, rfl⟩)
        | (exfalso; simp at *; omega)
  · go_enter Tryz.func45, Tryz.ntmps45
    go_wp2
    go_ret
    exact ⟨rfl, rfl⟩
set_option maxRecDepth 100000 in
set_option maxHeartbeats 1000000 in
theorem r01FromHighS (s : Bs) (w : World) (hs : s.length ≤ 8) : Calls Tryz.prog 75 #[.string ⟨s.toArray⟩] w fun e w2 => e = .returned (.tuple #[.int .u64 (fromH s), .int .i64 0]) ∧ w = w2 := by
  have HS := Lib.hid hs
  have hs' : (s.length : Int) ≤ 8 := by omega
  clear hs
  go_enter Tryz.func75, Tryz.ntmps75
  go_wp2
  go_loop [4, 5] (fun x i => ∃ k : Nat, k ≤ s.length ∧ i = .int .i64 k ∧ x = .int .u64 (fromH (s.take k))) (fun _ i => s.length - (intOf i).toNat)
  case atStart => exact ⟨0, Nat.zero_le _, rfl, rfl⟩
  case round =>
    obtain ⟨k, hk, rfl, rfl⟩ := hrel
    by_cases hlt : k < s.length
    · have hlt' : (k : Int) < s.length := by omega
      have hf := fromH_lt _ (s.take k) rfl
      have hf7 : (fromH (s.take k) : Int) < 72057594037927936 := by
        have h1 : (s.take k).length ≤ 7 := by rw [List.length_take]; have := HS.out; omega
        have h3 : 256 ^ (s.take k).length ≤ 256 ^ 7 := Nat.pow_le_pow_right (by omega) h1
        omega
      have HST : Hid (fromH (s.take (k + 1)) = fromH (s.take k) * 256 + s[k].toNat) := by rw [take_next s k hlt, fromH_snoc]; exact Eq.refl _
      have hix := idx_str s k hlt (k : Int) rfl
      have hc := s[k].toNat_lt
      clear hf
      generalize s[k] = c at *
      generalize fromH (s.take k) = x at *
      go_wp2
      go_round
      case rel => exact ⟨k + 1, by omega, by go_num, by rw [HST.out]; go_num⟩
      case measure => simp [intOf]; omega
    · obtain rfl : k = s.length := by omega
      go_wp2
      go_ret2
      exact ⟨ret_u64 (by simp), rfl⟩
theorem r01High_any (x n : Nat) (w : World) (hx : x < 18446744073709551616) (hn : n ≤ 64) : Calls Tryz.prog 69 #[.int .u64 x, .int .i64 n] w fun e w2 => e = .returned (.string ⟨(highB x n).toArray⟩) ∧ Ext [] w w2 :=
  (r01HighS x n (Sp.nil w []) hx hn).mono fun _ _ ⟨he, S⟩ => ⟨he, S.ext⟩
set_option maxRecDepth 100000 in
set_option maxHeartbeats 1000000 in
theorem r12NumS (n : Nat) (S : Sp w0 F0 w L) (hn : n < 18446744073709551616) : Calls Tryz.prog 37 #[.int .u64 n] w fun e w2 => e = .returned (.string ⟨(numB n).toArray⟩) ∧ Sp w0 F0 w2 L := by
  have HS := Lib.hid S
  have HN := Lib.hid hn
  clear S hn
  go_enter Tryz.func37, Tryz.ntmps37
  go_wp2
  go_loop [3] (fun k => ∃ j : Nat, k = .int .i64 j ∧ j ≤ 8 ∧ (∀ i, i < j → n / 256 ^ i ≠ 0)) (fun k => 8 - (intOf k).toNat)
  case atStart => exact ⟨0, rfl, by omega, by omega⟩
  case round =>
    obtain ⟨j, rfl, hj, hall⟩ := hrel
    have HALL := Lib.hid hall
    clear hall
    have hdiv : (n : Int) / 2 ^ (8 * j) = ((n / 256 ^ j : Nat) : Int) := by
      have h1 : (2 : Int) ^ (8 * j) = ((2 ^ (8 * j) : Nat) : Int) := by push_cast; rfl
      rw [h1, Nat.pow_mul]
      exact (Int.natCast_ediv _ _).symm
    by_cases hgo : j < 8 ∧ n / 256 ^ j ≠ 0
    · obtain ⟨hj8, hne⟩ := hgo
      have hj8' : (j : Int) < 8 := by omega
      have HA2 : Hid (∀ i, i < j + 1 → n / 256 ^ i ≠ 0) := fun i hi => by
        by_cases h : i = j
        · rw [h]; exact hne
        · exact HALL.out i (by omega)
      have hpos : (0 : Int) < (n : Int) / 2 ^ (8 * j) := by rw [hdiv]; exact Int.ofNat_lt.2 (Nat.pos_of_ne_zero hne)
      clear hdiv hne
      go_wp2_with fail
      go_round
      case rel => exact ⟨j + 1, by go_num, by omega, HA2.out⟩
      case measure => simp [intOf]; omega
    · have hk : need n = j := need_all hj HALL.out (by
        by_cases h8 : j = 8
        · exact .inl h8
        · exact .inr (by have : ¬ n / 256 ^ j ≠ 0 := fun h => hgo ⟨by omega, h⟩; omega))
      have hcase : (8 : Int) ≤ j ∨ ((j : Int) < 8 ∧ (n : Int) / 2 ^ (8 * j) ≤ 0) := by
        by_cases h8 : j = 8
        · exact .inl (by omega)
        · refine .inr ⟨by omega, ?_⟩
          have : ¬ n / 256 ^ j ≠ 0 := fun h => hgo ⟨by omega, h⟩
          rw [hdiv]
          have : n / 256 ^ j = 0 := by omega
          rw [this]
          exact Int.le_refl _
      have hk : (j : Int) ≤ 8 := by omega
      have HNB : Hid (numB n = UInt8.ofNat j :: highB n j) := by rw [← ‹need n = j›]; exact Eq.refl _
      have hcv : ∀ (W : World) (b : Nat), W.cell? ⟨b, 0, none⟩ = some (.int .u8 (j : Int)) → (convert 44 9 (.slice (some ⟨b, 0, none⟩) 1 1)).run Tryz.prog W = .ok (.string ⟨[UInt8.ofNat j].toArray⟩) W := fun W b h => conv_one W b _ (by rw [h]; congr 2; simp; omega)
      have hwr : IntKind.u8.wrap (j : Int) = (j : Int) := by rw [IntKind.wrap_u8]; omega
      have hadd := add_str [UInt8.ofNat j] (highB n j) (by rw [highB_length]; simp [maxLen]; omega)
      clear hdiv hgo HALL ‹need n = j›
      rcases hcase with h8 | ⟨h8, h0⟩
      all_goals
        go_wp2_with fail
        go_region_with (first | (go_at_call 69; refine (r01High_any n j _ HN.out (by omega)).mono ?_; rintro e w2 ⟨rfl, hx⟩; have hcx := hx.old))
      all_goals
        have HX := Lib.hid hx
        clear hx hcx hcv hwr hadd
        go_wp2
        go_ret
        refine ⟨by rw [HNB.out]; rfl, ?_⟩
        first
          | exact HS.out.ext0 (((Ext.refl [] w).drew).trans HX.out (by simp))
          | exact HS.out.ext0 ((((Ext.refl [] w).drew).trans HX.out (by simp)).alloc _)
          | exact HS.out.ext0 ((((Ext.refl [] w).alloc _).drew).trans HX.out (by simp))
end
end Go.Proofs.YtkenacggjffjnaaGreatDoor
