/- The reference's numbers and texts that are taken (posthornref12.In), in the words of parts. Conditions: the lengths fit. The reference's numbers and texts that are taken: Num, Text (posthornref12.In). Conditions: the lengths fit. The document's bytes taken (posthornref12): a number, a text, in words of parts. Conditions: the lengths fit. -/
import Derived.Test.YtpkolkgndhagiaaGreatByt
import Derived.Deep.RegionWith
import Derived.Test.YtpkolkgndhagiaaGreatReg
/-! R12 -/
set_option linter.unusedSimpArgs false
set_option linter.unusedVariables false
set_option linter.unnecessarySimpa false
namespace Go.Proofs.YtpkolkgndhagiaaGreat
open Go.RowKit Go.Maps Go.Sort

/-! ### plainly -/
theorem needF_all : ∀ f k n, k ≤ f → (∀ j, j < k → n / 256 ^ j ≠ 0) → (k = f ∨ n / 256 ^ k = 0) → needF f n = k
  | 0, k, n, hk, _, _ => by simp [needF]; omega
  | f + 1, 0, n, _, _, h => by
    have : n = 0 := by simpa using h
    rw [needF, if_pos this]
  | f + 1, k + 1, n, hk, h1, h2 => by
    have h0 : n ≠ 0 := by simpa using h1 0 (by omega)
    have e : ∀ j, n / 256 / 256 ^ j = n / 256 ^ (j + 1) := fun j => by rw [Nat.pow_succ, Nat.mul_comm, ← Nat.div_div_eq_div_mul]
    have h3 : k = f ∨ n / 256 / 256 ^ k = 0 := by
      rcases h2 with h2 | h2
      · exact .inl (by omega)
      · exact .inr (by rw [e]; exact h2)
    rw [needF, if_neg h0, needF_all f k (n / 256) (by omega) (fun j hj => by rw [e]; exact h1 (j + 1) (by omega)) h3]
theorem need_all {n k : Nat} (hk : k ≤ 8) (h1 : ∀ j, j < k → n / 256 ^ j ≠ 0) (h2 : k = 8 ∨ n / 256 ^ k = 0) : need n = k := needF_all 8 k n hk h1 h2
theorem numB_is (c : UInt8) (u : Bs) (hu : u.length = c.toNat) : (numB (fromH u) == c :: u) = decide (need (fromH u) = c.toNat) := by
  have hn := need_le (fromH u)
  rw [Bool.eq_iff_iff, beq_iff_eq, decide_eq_true_eq]
  unfold numB
  constructor
  · intro h
    have h1 := (List.cons.inj h).1
    have h2 := congrArg UInt8.toNat h1
    simp at h2
    omega
  · intro h
    rw [h, high_fromH _ _ hu]
    congr 1
    rw [UInt8.ofNat_toNat]

section
variable {w0 w : World} {F0 : List Nat} {L : List Res} {T b : Nat} {r : Rd}
set_option maxRecDepth 100000 in
set_option maxHeartbeats 400000 in
theorem r12FailS (S : Sp w0 F0 w (rdR T b r :: L)) : Calls Tryz.prog 85 #[.pointer (some ⟨b, 0, none⟩)] w fun e w2 => e = .returned (.tuple #[]) ∧ Sp w0 F0 w2 (rdR T b Rd.failed :: L) := by
  have c := S.cell
  have f := S.free
  have HS := Lib.hid ((S.set (o := 1) (.bool true)).set (o := 0) (.string ⟨#[]⟩))
  clear S
  go_enter Tryz.func85, Tryz.ntmps85
  go_wp2
  go_end0
  exact ⟨rfl, HS.out⟩
set_option maxRecDepth 100000 in
set_option maxHeartbeats 400000 in
theorem r12DoneS (S : Sp w0 F0 w (rdR T b r :: L)) : Calls Tryz.prog 65 #[.pointer (some ⟨b, 0, none⟩)] w fun e w2 => e = .returned (.int .i64 r.done) ∧ w = w2 := by
  have c := S.cell
  obtain ⟨s, bad⟩ := r
  clear S
  cases bad
  · cases s
    · go_enter Tryz.func65, Tryz.ntmps65
      go_wp2
      go_ret
      exact ⟨rfl, rfl⟩
    · go_enter Tryz.func65, Tryz.ntmps65
      go_wp2
      all_goals first
        | (go_ret; exact ⟨rfl, rfl⟩)
        | (exfalso; simp at *; omega)
  · go_enter Tryz.func65, Tryz.ntmps65
    go_wp2
    go_ret
    exact ⟨rfl, rfl⟩
set_option maxRecDepth 100000 in
set_option maxHeartbeats 1000000 in
theorem r01FromHighS (s : Bs) (w : World) (hs : s.length ≤ 8) : Calls Tryz.prog 86 #[.string ⟨s.toArray⟩] w fun e w2 => e = .returned (.tuple #[.int .u64 (fromH s), .int .i64 0]) ∧ w = w2 := by
  have HS := Lib.hid hs
  have hs' : (s.length : Int) ≤ 8 := by omega
  clear hs
  go_enter Tryz.func86, Tryz.ntmps86
  go_wp2
  go_loop [4, 5] (fun x i => ∃ k : Nat, k ≤ s.length ∧ i = .int .i64 k ∧ x = .int .u64 (fromH (s.take k))) (fun _ i => s.length - (intOf i).toNat)
  case atStart => exact ⟨0, Nat.zero_le _, rfl, rfl⟩
  case round =>
    obtain ⟨k, hk, rfl, rfl⟩ := hrel
    by_cases hlt : k < s.length
    · have hlt' : (k : Int) < s.length := by omega
      have hf := fromH_lt _ (s.take k) rfl
      have hf7 : (fromH (s.take k) : Int) < 72057594037927936 := by
        have h1 : (s.take k).length ≤ 7 := by rw [List.length_take]; have := HS.out; omega
        have h3 : 256 ^ (s.take k).length ≤ 256 ^ 7 := Nat.pow_le_pow_right (by omega) h1
        omega
      have HST : Hid (fromH (s.take (k + 1)) = fromH (s.take k) * 256 + s[k].toNat) := by rw [take_next s k hlt, fromH_snoc]; exact Eq.refl _
      have hix := idx_str s k hlt (k : Int) rfl
      have hc := s[k].toNat_lt
      clear hf
      generalize s[k] = c at *
      generalize fromH (s.take k) = x at *
      go_wp2
      go_round
      case rel => exact ⟨k + 1, by omega, by go_num, by rw [HST.out]; go_num⟩
      case measure => simp [intOf]; omega
    · obtain rfl : k = s.length := by omega
      go_wp2
      go_ret2
      exact ⟨ret_u64 (by simp), rfl⟩
theorem r01High_any (x n : Nat) (w : World) (hx : x < 18446744073709551616) (hn : n ≤ 64) : Calls Tryz.prog 77 #[.int .u64 x, .int .i64 n] w fun e w2 => e = .returned (.string ⟨(highB x n).toArray⟩) ∧ Ext [] w w2 :=
  (r01HighS x n (Sp.nil w []) hx hn).mono fun _ _ ⟨he, S⟩ => ⟨he, S.ext⟩
set_option maxRecDepth 100000 in
set_option maxHeartbeats 1000000 in
theorem r12NumS (n : Nat) (S : Sp w0 F0 w L) (hn : n < 18446744073709551616) : Calls Tryz.prog 53 #[.int .u64 n] w fun e w2 => e = .returned (.string ⟨(numB n).toArray⟩) ∧ Sp w0 F0 w2 L := by
  have HS := Lib.hid S
  have HN := Lib.hid hn
  clear S hn
  go_enter Tryz.func53, Tryz.ntmps53
  go_wp2
  go_loop [3] (fun k => ∃ j : Nat, k = .int .i64 j ∧ j ≤ 8 ∧ (∀ i, i < j → n / 256 ^ i ≠ 0)) (fun k => 8 - (intOf k).toNat)
  case atStart => exact ⟨0, rfl, by omega, by omega⟩
  case round =>
    obtain ⟨j, rfl, hj, hall⟩ := hrel
    have HALL := Lib.hid hall
    clear hall
    have hdiv : (n : Int) / 2 ^ (8 * j) = ((n / 256 ^ j : Nat) : Int) := by
      have h1 : (2 : Int) ^ (8 * j) = ((2 ^ (8 * j) : Nat) : Int) := by push_cast; rfl
      rw [h1, Nat.pow_mul]
      exact (Int.natCast_ediv _ _).symm
    by_cases hgo : j < 8 ∧ n / 256 ^ j ≠ 0
    · obtain ⟨hj8, hne⟩ := hgo
      have hj8' : (j : Int) < 8 := by omega
      have HA2 : Hid (∀ i, i < j + 1 → n / 256 ^ i ≠ 0) := fun i hi => by
        by_cases h : i = j
        · rw [h]; exact hne
        · exact HALL.out i (by omega)
      have hpos : (0 : Int) < (n : Int) / 2 ^ (8 * j) := by rw [hdiv]; exact Int.ofNat_lt.2 (Nat.pos_of_ne_zero hne)
      clear hdiv hne
      go_wp2_with fail
      go_round
      case rel => exact ⟨j + 1, by go_num, by omega, HA2.out⟩
      case measure => simp [intOf]; omega
    · have hk : need n = j := need_all hj HALL.out (by
        by_cases h8 : j = 8
        · exact .inl h8
        · exact .inr (by have : ¬ n / 256 ^ j ≠ 0 := fun h => hgo ⟨by omega, h⟩; omega))
      have hcase : (8 : Int) ≤ j ∨ ((j : Int) < 8 ∧ (n : Int) / 2 ^ (8 * j) ≤ 0) := by
        by_cases h8 : j = 8
        · exact .inl (by omega)
        · refine .inr ⟨by omega, ?_⟩
          have : ¬ n / 256 ^ j ≠ 0 := fun h => hgo ⟨by omega, h⟩
          rw [hdiv]
          have : n / 256 ^ j = 0 := by omega
          rw [this]
          exact Int.le_refl _
      have hk : (j : Int) ≤ 8 := by omega
      have HNB : Hid (numB n = UInt8.ofNat j :: highB n j) := by rw [← ‹need n = j›]; exact Eq.refl _
      have hcv : ∀ (W : World) (b : Nat), W.cell? ⟨b, 0, none⟩ = some (.int .u8 (j : Int)) → (convert 121 9 (.slice (some ⟨b, 0, none⟩) 1 1)).run Tryz.prog W = .ok (.string ⟨[UInt8.ofNat j].toArray⟩) W := fun W b h => conv_one W b _ (by rw [h]; congr 2; simp; omega)
      have hwr : IntKind.u8.wrap (j : Int) = (j : Int) := by rw [IntKind.wrap_u8]; omega
      have hadd := add_str [UInt8.ofNat j] (highB n j) (by rw [highB_length]; simp [maxLen]; omega)
      clear hdiv hgo HALL ‹need n = j›
      rcases hcase with h8 | ⟨h8, h0⟩
      all_goals
        go_wp2_with fail
        go_region_with (first | (go_at_call 77; refine (r01High_any n j _ HN.out (by omega)).mono ?_; rintro e w2 ⟨rfl, hx⟩; have hcx := hx.old))
      all_goals
        have HX := Lib.hid hx
        clear hx hcx hcv hwr hadd
        go_wp2
        go_ret
        refine ⟨by rw [HNB.out]; rfl, ?_⟩
        first
          | exact HS.out.ext0 (((Ext.refl [] w).drew).trans HX.out (by simp))
          | exact HS.out.ext0 ((((Ext.refl [] w).drew).trans HX.out (by simp)).alloc _)
          | exact HS.out.ext0 ((((Ext.refl [] w).alloc _).drew).trans HX.out (by simp))
end
end Go.Proofs.YtpkolkgndhagiaaGreat

/-! R12b -/
namespace Go.Proofs.YtpkolkgndhagiaaGreat
open Go.RowKit Go.Maps Go.Sort

section
theorem i64_byte (c : UInt8) : IntKind.i64.wrap (c.toNat : Int) = c.toNat := by have := c.toNat_lt; rw [IntKind.wrap_i64]; omega
theorem i64_byte1 (c : UInt8) : IntKind.i64.wrap (1 + (c.toNat : Int)) = 1 + c.toNat := by have := c.toNat_lt; rw [IntKind.wrap_i64]; omega
theorem cut_mid (c : UInt8) (t : Bs) (n : Nat) : (ByteArray.mk (c :: t).toArray).extract 1 (1 + n) = ⟨(t.take n).toArray⟩ := by
  apply ByteArray.ext
  rw [ByteArray.data_extract]
  simp [Nat.add_comm 1 n]
theorem numB_iff (c : UInt8) (u : Bs) (hu : u.length = c.toNat) : numB (fromH u) = c :: u ↔ need (fromH u) = c.toNat := by
  have h := numB_is c u hu
  rw [Bool.eq_iff_iff, beq_iff_eq, decide_eq_true_eq] at h
  exact h
theorem idx_head (c : UInt8) (t : Bs) (w : World) : (Instr.index 9 (.string ⟨(c :: t).toArray⟩) (.int .i64 0)).run Tryz.prog w = .ok (.int .u8 (c.toNat : Int)) w := idx_str (c :: t) 0 (by simp) 0 rfl w
variable {w0 w : World} {F0 : List Nat} {L : List Res} {T b : Nat} {r : Rd}
set_option maxRecDepth 100000 in
set_option maxHeartbeats 1000000 in
theorem r12Num_bad (most : Nat) (s : Bs) (S : Sp w0 F0 w (rdR T b ⟨s, true⟩ :: L)) (hs : s.length ≤ 1000000000000) :
    Calls Tryz.prog 64 #[.pointer (some ⟨b, 0, none⟩), .int .u64 most] w fun e w2 => e = .returned (.int .u64 0) ∧ Sp w0 F0 w2 (rdR T b Rd.failed :: L) := by
  have HS := Lib.hid S
  have hs' : (s.length : Int) ≤ 1000000000000 := by omega
  clear S hs
  go_enter Tryz.func64, Tryz.ntmps64
  go_wp2_with fail
  refine wp_region_text (S := fun wx => Sp w0 F0 wx (boxR b #[.string ⟨s.toArray⟩, .bool true] T :: L) ∧ (∀ o, wx.cell? ⟨b, o, none⟩ = (#[.string ⟨s.toArray⟩, .bool true])[o]?)) (by kernel_rfl) (by kernel_rfl) ⟨(HS.out).drew, (Sp.pick [_] [0] (by decide) ((HS.out).drew)).cell⟩ ?_
  repeat
    refine Exists.intro ?_ (And.intro (fun wS hS K hK => ?_) (And.intro ?_ ?_))
    rotate_left 1
    · obtain ⟨hS1, hS2⟩ := hS
      first
        | (refine if_unwanted rfl ?_; simp only [Act.put, List.setIfInBounds_toArray, List.set_cons_zero, List.set_cons_succ]; exact hK.out _ ⟨hS1, hS2⟩)
        | (refine if_wanted rfl ?_; go_simp; exact hK.out _ ⟨hS1, hS2⟩)
    · rfl
  intro wE hE
  have HSE := Lib.hid hE.1
  clear hE
  go_wp2_with fail
  refine (r12FailS (r := ⟨s, true⟩) HSE.out).mono ?_
  rintro e w2 ⟨rfl, S2⟩
  have HS2 := Lib.hid S2
  clear S2
  go_wp2
  go_ret
  exact ⟨rfl, HS2.out⟩
set_option maxRecDepth 100000 in
set_option maxHeartbeats 1000000 in
theorem r12Num_nil (most : Nat) (S : Sp w0 F0 w (rdR T b ⟨[], false⟩ :: L)) :
    Calls Tryz.prog 64 #[.pointer (some ⟨b, 0, none⟩), .int .u64 most] w fun e w2 => e = .returned (.int .u64 0) ∧ Sp w0 F0 w2 (rdR T b Rd.failed :: L) := by
  have HS := Lib.hid S
  clear S 
  go_enter Tryz.func64, Tryz.ntmps64
  go_wp2_with fail
  refine wp_region_text (S := fun wx => Sp w0 F0 wx (boxR b #[.string ⟨#[]⟩, .bool false] T :: L) ∧ (∀ o, wx.cell? ⟨b, o, none⟩ = (#[.string ⟨#[]⟩, .bool false])[o]?)) (by kernel_rfl) (by kernel_rfl) ⟨(HS.out).drew, (Sp.pick [_] [0] (by decide) ((HS.out).drew)).cell⟩ ?_
  repeat
    refine Exists.intro ?_ (And.intro (fun wS hS K hK => ?_) (And.intro ?_ ?_))
    rotate_left 1
    · obtain ⟨hS1, hS2⟩ := hS
      first
        | (refine if_unwanted rfl ?_; simp only [Act.put, List.setIfInBounds_toArray, List.set_cons_zero, List.set_cons_succ]; exact hK.out _ ⟨hS1, hS2⟩)
        | (refine if_wanted rfl ?_; go_simp; exact hK.out _ ⟨hS1, hS2⟩)
    · rfl
  intro wE hE
  have HSE := Lib.hid hE.1
  clear hE
  go_wp2_with fail
  refine (r12FailS (r := ⟨[], false⟩) HSE.out).mono ?_
  rintro e w2 ⟨rfl, S2⟩
  have HS2 := Lib.hid S2
  clear S2
  go_wp2
  go_ret
  exact ⟨rfl, HS2.out⟩
set_option maxRecDepth 100000 in
set_option maxHeartbeats 1000000 in
theorem r12Num_wide (most : Nat) (c : UInt8) (t : Bs) (S : Sp w0 F0 w (rdR T b ⟨c :: t, false⟩ :: L)) (hs : t.length + 1 ≤ 1000000000000) (hc : 8 < c.toNat) :
    Calls Tryz.prog 64 #[.pointer (some ⟨b, 0, none⟩), .int .u64 most] w fun e w2 => e = .returned (.int .u64 0) ∧ Sp w0 F0 w2 (rdR T b Rd.failed :: L) := by
  have HS := Lib.hid S
  have hs' : (t.length : Int) + 1 ≤ 1000000000000 := by omega
  have hix := idx_head c t
  have hne : (((t.length : Int) + 1) == 0) = false := by simp; omega
  have hwc := i64_byte c
  have hwd := i64_byte1 c
  have hc2 : (c.toNat : Int) < 256 := by have := c.toNat_lt; omega
  have hc' : (8 : Int) < c.toNat := by omega
  have hd' : decide ((8 : Int) < c.toNat) = true := by simp; omega
  clear S hs hc
  go_enter Tryz.func64, Tryz.ntmps64
  go_wp2_with fail
  refine wp_region_text (S := fun wx => Sp w0 F0 wx (boxR b #[.string ⟨(c :: t).toArray⟩, .bool false] T :: L) ∧ (∀ o, wx.cell? ⟨b, o, none⟩ = (#[.string ⟨(c :: t).toArray⟩, .bool false])[o]?)) (by kernel_rfl) (by kernel_rfl) ⟨(HS.out).drew, (Sp.pick [_] [0] (by decide) ((HS.out).drew)).cell⟩ ?_
  repeat
    refine Exists.intro ?_ (And.intro (fun wS hS K hK => ?_) (And.intro ?_ ?_))
    rotate_left 1
    · obtain ⟨hS1, hS2⟩ := hS
      first
        | (refine if_unwanted rfl ?_; simp only [Act.put, List.setIfInBounds_toArray, List.set_cons_zero, List.set_cons_succ]; exact hK.out _ ⟨hS1, hS2⟩)
        | (refine if_wanted rfl ?_; go_simp; exact hK.out _ ⟨hS1, hS2⟩)
    · rfl
  intro wE hE
  have HSE := Lib.hid hE.1
  clear hE
  go_wp2_with fail
  refine (r12FailS (r := ⟨c :: t, false⟩) HSE.out).mono ?_
  rintro e w2 ⟨rfl, S2⟩
  have HS2 := Lib.hid S2
  clear S2
  go_wp2
  go_ret
  exact ⟨rfl, HS2.out⟩
set_option maxRecDepth 100000 in
set_option maxHeartbeats 1000000 in
theorem r12Num_short (most : Nat) (c : UInt8) (t : Bs) (S : Sp w0 F0 w (rdR T b ⟨c :: t, false⟩ :: L)) (hs : t.length + 1 ≤ 1000000000000) (hc : c.toNat ≤ 8) (hl : t.length < c.toNat) :
    Calls Tryz.prog 64 #[.pointer (some ⟨b, 0, none⟩), .int .u64 most] w fun e w2 => e = .returned (.int .u64 0) ∧ Sp w0 F0 w2 (rdR T b Rd.failed :: L) := by
  have HS := Lib.hid S
  have hs' : (t.length : Int) + 1 ≤ 1000000000000 := by omega
  have hix := idx_head c t
  have hne : (((t.length : Int) + 1) == 0) = false := by simp; omega
  have hwc := i64_byte c
  have hwd := i64_byte1 c
  have hc2 : (c.toNat : Int) < 256 := by have := c.toNat_lt; omega
  have hc' : (c.toNat : Int) ≤ 8 := by omega
  have hd' : decide ((8 : Int) < c.toNat) = false := by simp; omega
  have hl' : decide ((t.length : Int) + 1 < 1 + c.toNat) = true := by simp; omega
  clear S hs hc hl
  go_enter Tryz.func64, Tryz.ntmps64
  go_wp2_with fail
  refine wp_region_text (S := fun wx => Sp w0 F0 wx (boxR b #[.string ⟨(c :: t).toArray⟩, .bool false] T :: L) ∧ (∀ o, wx.cell? ⟨b, o, none⟩ = (#[.string ⟨(c :: t).toArray⟩, .bool false])[o]?)) (by kernel_rfl) (by kernel_rfl) ⟨(HS.out).drew, (Sp.pick [_] [0] (by decide) ((HS.out).drew)).cell⟩ ?_
  repeat
    refine Exists.intro ?_ (And.intro (fun wS hS K hK => ?_) (And.intro ?_ ?_))
    rotate_left 1
    · obtain ⟨hS1, hS2⟩ := hS
      first
        | (refine if_unwanted rfl ?_; simp only [Act.put, List.setIfInBounds_toArray, List.set_cons_zero, List.set_cons_succ]; exact hK.out _ ⟨hS1, hS2⟩)
        | (refine if_wanted rfl ?_; go_simp; exact hK.out _ ⟨hS1, hS2⟩)
    · rfl
  intro wE hE
  have HSE := Lib.hid hE.1
  clear hE
  go_wp2_with fail
  refine (r12FailS (r := ⟨c :: t, false⟩) HSE.out).mono ?_
  rintro e w2 ⟨rfl, S2⟩
  have HS2 := Lib.hid S2
  clear S2
  go_wp2
  go_ret
  exact ⟨rfl, HS2.out⟩
set_option maxRecDepth 100000 in
set_option maxHeartbeats 2000000 in
theorem r12Num_long (most : Nat) (c : UInt8) (t : Bs) (S : Sp w0 F0 w (rdR T b ⟨c :: t, false⟩ :: L)) (hs : t.length + 1 ≤ 1000000000000) (hc : c.toNat ≤ 8) (hl : c.toNat ≤ t.length) :
    Calls Tryz.prog 64 #[.pointer (some ⟨b, 0, none⟩), .int .u64 most] w fun e w2 => e = .returned (.int .u64 (Rd.num ⟨c :: t, false⟩ most).1) ∧ Sp w0 F0 w2 (rdR T b (Rd.num ⟨c :: t, false⟩ most).2 :: L) := by
  have HS := Lib.hid S
  have hs' : (t.length : Int) + 1 ≤ 1000000000000 := by omega
  have hix := idx_head c t
  have hne : (((t.length : Int) + 1) == 0) = false := by simp; omega
  have hwc := i64_byte c
  have hwd := i64_byte1 c
  have hc2 : (c.toNat : Int) < 256 := by have := c.toNat_lt; omega
  have hc' : (c.toNat : Int) ≤ 8 := by omega
  have hd' : decide ((8 : Int) < c.toNat) = false := by simp; omega
  have hl' : decide ((t.length : Int) + 1 < 1 + c.toNat) = false := by simp; omega
  have hl2 : (c.toNat : Int) ≤ t.length := by omega
  have hl3 : (0 : Int) ≤ 1 + (c.toNat : Int) := by omega
  have hl4 : 1 + (c.toNat : Int) ≤ (t.length : Int) + 1 := by omega
  have hl5 : (1 + (c.toNat : Int)).toNat = 1 + c.toNat := by omega
  have HNC := Lib.hid (num_cons c t most)
  have HC := Lib.hid hc
  have HL := Lib.hid hl
  clear S hs hc hl
  go_enter Tryz.func64, Tryz.ntmps64
  go_wp2_with fail
  refine wp_region_text (S := fun wx => Sp w0 F0 wx (boxR b #[.string ⟨(c :: t).toArray⟩, .bool false] T :: L) ∧ (∀ o, wx.cell? ⟨b, o, none⟩ = (#[.string ⟨(c :: t).toArray⟩, .bool false])[o]?)) (by kernel_rfl) (by kernel_rfl) ⟨(HS.out).drew, (Sp.pick [_] [0] (by decide) ((HS.out).drew)).cell⟩ ?_
  repeat
    refine Exists.intro ?_ (And.intro (fun wS hS K hK => ?_) (And.intro ?_ ?_))
    rotate_left 1
    · obtain ⟨hS1, hS2⟩ := hS
      first
        | (refine if_unwanted rfl ?_; simp only [Act.put, List.setIfInBounds_toArray, List.set_cons_zero, List.set_cons_succ]; exact hK.out _ ⟨hS1, hS2⟩)
        | (refine if_wanted rfl ?_; go_simp; exact hK.out _ ⟨hS1, hS2⟩)
    · rfl
  intro wE hE
  have HSE := Lib.hid hE.1
  clear hE
  have c1 := HSE.out.cell
  go_wp2_with fail
  rw [cut_mid]
  have hf8 : (t.take c.toNat).length ≤ 8 := by rw [List.length_take]; have := HC.out; omega
  have HF : Hid (fromH (t.take c.toNat) < 18446744073709551616) := by
    have h2 := fromH_lt _ (t.take c.toNat) rfl
    have h3 : 256 ^ (t.take c.toNat).length ≤ 256 ^ 8 := Nat.pow_le_pow_right (by omega) hf8
    unfold Hid
    omega
  have HF8 := Lib.hid hf8
  have hcut0 := cut_head (c :: t) (1 + c.toNat)
  have hcut1 := cut_tail (c :: t) (1 + c.toNat) (t.length + 1) rfl
  rw [Nat.add_comm 1, List.take_succ_cons] at hcut0
  rw [Nat.add_comm 1, List.drop_succ_cons] at hcut1
  rw [Nat.add_comm c.toNat 1] at hcut0 hcut1
  have HUL : Hid ((t.take c.toNat).length = c.toNat) := by rw [List.length_take]; have := HL.out; unfold Hid; omega
  have HIS : Hid (numB (fromH (t.take c.toNat)) = c :: t.take c.toNat ↔ need (fromH (t.take c.toNat)) = c.toNat) := numB_iff c _ HUL.out
  clear hf8 HUL
  generalize t.take c.toNat = u at *
  generalize t.drop c.toNat = rest at *
  refine (r01FromHighS u _ HF8.out).mono ?_
  rintro e w3 ⟨rfl, rfl⟩
  generalize fromH u = n at *
  have HNM : Hid (∀ {wz : World} {K : List Res}, Sp w0 F0 wz K → Calls Tryz.prog 53 #[.int .u64 n] wz fun e w2 => e = .returned (.string ⟨(numB n).toArray⟩) ∧ Sp w0 F0 w2 K) := fun {wz K} S => r12NumS n S HF.out
  generalize numB n = nb at *
  by_cases hne : nb = c :: u
  · have hnd := HIS.out.1 hne
    have tn : (nb == c :: u) = true := by rw [hne]; exact beq_self_eq_true _
    by_cases hle : n ≤ most
    · have HV : Hid (Rd.num ⟨c :: t, false⟩ most = (n, ⟨rest, false⟩)) := HNC.out.trans (if_pos ⟨HC.out, HL.out, hnd, hle⟩)
      have t2 : decide (most < n) = false := by simp; omega
      clear hne hle hnd c1
      have HS3 := Lib.hid HSE.out
      clear HSE
      go_wp2_with fail
      refine wp_region_text (S := fun wx => Sp w0 F0 wx (boxR b #[.string ⟨(c :: t).toArray⟩, .bool false] T :: L) ∧ (∀ o, wx.cell? ⟨b, o, none⟩ = (#[.string ⟨(c :: t).toArray⟩, .bool false])[o]?)) (by kernel_rfl) (by kernel_rfl) ⟨(HS3.out).drew, (Sp.pick [_] [0] (by decide) ((HS3.out).drew)).cell⟩ ?_
      repeat
        refine Exists.intro ?_ (And.intro (fun wS hS K hK => ?_) (And.intro ?_ ?_))
        rotate_left 1
        · obtain ⟨hS1, hS2⟩ := hS
          first
            | (refine if_unwanted rfl ?_; simp only [Act.put, List.setIfInBounds_toArray, List.set_cons_zero, List.set_cons_succ]; exact hK.out _ ⟨hS1, hS2⟩)
            | (refine if_wanted rfl ?_; go_simp; exact hK.out _ ⟨hS1, hS2⟩)
            | (refine if_wanted rfl ?_; go_simp; go_at_call 53; refine (HNM.out hS1).mono ?_; rintro e w12 ⟨rfl, S12⟩; exact hK.out _ ⟨S12, (Sp.pick [_] [0] (by decide) (S12)).cell⟩)
        · rfl
      intro wE hE
      have HSE := Lib.hid hE.1
      clear hE
      clear hl5 hcut0 tn t2 hwc hwd hix hne
      have HS5 := Lib.hid (HSE.out.set (o := 0) (.string ⟨rest.toArray⟩))
      have c1 := HSE.out.cell
      have f1 := HSE.out.free
      go_wp2
      go_ret
      rw [HV.out]
      exact ⟨rfl, HS5.out⟩
    · have HV : Hid (Rd.num ⟨c :: t, false⟩ most = (0, Rd.failed)) := HNC.out.trans (if_neg (fun h => hle h.2.2.2))
      have t2 : decide (most < n) = true := by simp; omega
      clear hne hle hnd c1
      have HS3 := Lib.hid HSE.out
      clear HSE
      go_wp2_with fail
      refine wp_region_text (S := fun wx => Sp w0 F0 wx (boxR b #[.string ⟨(c :: t).toArray⟩, .bool false] T :: L) ∧ (∀ o, wx.cell? ⟨b, o, none⟩ = (#[.string ⟨(c :: t).toArray⟩, .bool false])[o]?)) (by kernel_rfl) (by kernel_rfl) ⟨(HS3.out).drew, (Sp.pick [_] [0] (by decide) ((HS3.out).drew)).cell⟩ ?_
      repeat
        refine Exists.intro ?_ (And.intro (fun wS hS K hK => ?_) (And.intro ?_ ?_))
        rotate_left 1
        · obtain ⟨hS1, hS2⟩ := hS
          first
            | (refine if_unwanted rfl ?_; simp only [Act.put, List.setIfInBounds_toArray, List.set_cons_zero, List.set_cons_succ]; exact hK.out _ ⟨hS1, hS2⟩)
            | (refine if_wanted rfl ?_; go_simp; exact hK.out _ ⟨hS1, hS2⟩)
            | (refine if_wanted rfl ?_; go_simp; go_at_call 53; refine (HNM.out hS1).mono ?_; rintro e w12 ⟨rfl, S12⟩; exact hK.out _ ⟨S12, (Sp.pick [_] [0] (by decide) (S12)).cell⟩)
        · rfl
      intro wE hE
      have HSE := Lib.hid hE.1
      clear hE
      clear hl5 hcut0 hcut1 hwc hwd hix hne
      go_wp2_with fail
      refine (r12FailS (r := ⟨c :: t, false⟩) HSE.out).mono ?_
      rintro e w5 ⟨rfl, S2⟩
      have HS5 := Lib.hid S2
      clear S2
      go_wp2
      go_ret
      rw [HV.out]
      exact ⟨rfl, HS5.out⟩
  · have HV : Hid (Rd.num ⟨c :: t, false⟩ most = (0, Rd.failed)) := HNC.out.trans (if_neg (fun h => hne (HIS.out.2 h.2.2.1)))
    have tn : (nb == c :: u) = false := beq_eq_false_iff_ne.2 hne
    clear hne c1
    have HS3 := Lib.hid HSE.out
    clear HSE
    go_wp2_with fail
    refine wp_region_text (S := fun wx => Sp w0 F0 wx (boxR b #[.string ⟨(c :: t).toArray⟩, .bool false] T :: L) ∧ (∀ o, wx.cell? ⟨b, o, none⟩ = (#[.string ⟨(c :: t).toArray⟩, .bool false])[o]?)) (by kernel_rfl) (by kernel_rfl) ⟨(HS3.out).drew, (Sp.pick [_] [0] (by decide) ((HS3.out).drew)).cell⟩ ?_
    repeat
      refine Exists.intro ?_ (And.intro (fun wS hS K hK => ?_) (And.intro ?_ ?_))
      rotate_left 1
      · obtain ⟨hS1, hS2⟩ := hS
        first
          | (refine if_unwanted rfl ?_; simp only [Act.put, List.setIfInBounds_toArray, List.set_cons_zero, List.set_cons_succ]; exact hK.out _ ⟨hS1, hS2⟩)
          | (refine if_wanted rfl ?_; go_simp; exact hK.out _ ⟨hS1, hS2⟩)
          | (refine if_wanted rfl ?_; go_simp; go_at_call 53; refine (HNM.out hS1).mono ?_; rintro e w12 ⟨rfl, S12⟩; exact hK.out _ ⟨S12, (Sp.pick [_] [0] (by decide) (S12)).cell⟩)
      · rfl
    intro wE hE
    have HSE := Lib.hid hE.1
    clear hE
    go_wp2_with fail
    refine (r12FailS (r := ⟨c :: t, false⟩) HSE.out).mono ?_
    rintro e w5 ⟨rfl, S2⟩
    have HS5 := Lib.hid S2
    clear S2
    go_wp2
    go_ret
    rw [HV.out]
    exact ⟨rfl, HS5.out⟩
end
end Go.Proofs.YtpkolkgndhagiaaGreat

/-! R12c -/
namespace Go.Proofs.YtpkolkgndhagiaaGreat
open Go.RowKit Go.Maps Go.Sort

section
variable {w0 w : World} {F0 : List Nat} {L : List Res} {T b : Nat} {r : Rd}
theorem r12ReadS (most : Nat) (S : Sp w0 F0 w (rdR T b r :: L)) (hs : r.s.length ≤ 1000000000000) :
    Calls Tryz.prog 64 #[.pointer (some ⟨b, 0, none⟩), .int .u64 most] w fun e w2 => e = .returned (.int .u64 (r.num most).1) ∧ Sp w0 F0 w2 (rdR T b (r.num most).2 :: L) := by
  obtain ⟨s, bad⟩ := r
  cases bad
  · cases s with
    | nil => exact r12Num_nil most S
    | cons c t =>
      by_cases hc : c.toNat ≤ 8
      · by_cases hl : c.toNat ≤ t.length
        · exact r12Num_long most c t S hs hc hl
        · rw [num_cons, if_neg (fun h => hl h.2.1)]
          exact r12Num_short most c t S hs hc (by omega)
      · rw [num_cons, if_neg (fun h => hc h.1)]
        exact r12Num_wide most c t S hs (by omega)
  · exact r12Num_bad most s S hs
set_option maxRecDepth 100000 in
set_option maxHeartbeats 1000000 in
theorem r12TextS (most : Nat) (S : Sp w0 F0 w (rdR T b r :: L)) (hs : r.s.length ≤ 1000000000000) (hm : most ≤ 1000000000000) :
    Calls Tryz.prog 63 #[.pointer (some ⟨b, 0, none⟩), .int .i64 most] w fun e w2 => e = .returned (.string ⟨(r.text most).1.toArray⟩) ∧ Sp w0 F0 w2 (rdR T b (r.text most).2 :: L) := by
  have HS := Lib.hid S
  have h0 : (0 : Int) ≤ most := by omega
  have h1 : (most : Int) ≤ 1000000000000 := by omega
  have HL := Lib.hid hs
  clear S hs
  go_enter Tryz.func63, Tryz.ntmps63
  go_wp2_with fail
  refine (r12ReadS most HS.out HL.out).mono ?_
  rintro e w1 ⟨rfl, S⟩
  have hle := num_le r most
  have hlen := num_len r most
  have HT : Hid (r.text most = (r.num most).2.take (r.num most).1) := rfl
  generalize r.num most = q at *
  obtain ⟨n, s, bad⟩ := q
  dsimp only at *
  have c1 := S.cell
  have f1 := S.free
  have HS1 := Lib.hid S
  have hn1 : (n : Int) ≤ 1000000000000 := by omega
  have hs1 : (s.length : Int) ≤ 1000000000000 := by have := HL.out; omega
  clear S HS hle hlen
  cases bad with
  | true =>
    have HV : Hid (r.text most = ([], Rd.failed)) := by rw [HT.out]; exact Eq.refl _
    go_wp2_with fail
    refine (r12FailS (r := ⟨s, true⟩) HS1.out).mono ?_
    rintro e w2 ⟨rfl, S⟩
    have HS2 := Lib.hid S
    clear S
    go_wp2
    go_ret
    rw [HV.out]
    exact ⟨rfl, HS2.out⟩
  | false =>
    by_cases hl : s.length < n
    · have HV : Hid (r.text most = ([], Rd.failed)) := by rw [HT.out]; unfold Rd.take; rw [if_pos (by simp [hl])]; exact Eq.refl _
      have hl' : (s.length : Int) < n := by omega
      go_wp2_with fail
      refine (r12FailS (r := ⟨s, false⟩) HS1.out).mono ?_
      rintro e w2 ⟨rfl, S⟩
      have HS2 := Lib.hid S
      clear S
      go_wp2
      go_ret
      rw [HV.out]
      exact ⟨rfl, HS2.out⟩
    · have HV : Hid (r.text most = (s.take n, ⟨s.drop n, false⟩)) := by rw [HT.out]; unfold Rd.take; rw [if_neg (by simp [hl])]; exact Eq.refl _
      have hl' : (n : Int) ≤ s.length := by omega
      have HS2 := Lib.hid (HS1.out.set (o := 0) (.string ⟨(s.drop n).toArray⟩))
      have HC0 := Lib.hid (cut_head s n)
      have HC1 := Lib.hid (cut_tail s n s.length rfl)
      clear hl
      go_wp2
      go_ret
      rw [HV.out, HC0.out, HC1.out]
      exact ⟨rfl, HS2.out⟩

theorem r12TextL (most : Nat) (mi : Int) (hmi : mi = most) (S : Sp w0 F0 w (rdR T b r :: L)) (hs : r.s.length ≤ 1000000000000) (hm : most ≤ 1000000000000) :
    Calls Tryz.prog 63 #[.pointer (some ⟨b, 0, none⟩), .int .i64 mi] w fun e w2 => e = .returned (.string ⟨(r.text most).1.toArray⟩) ∧ Sp w0 F0 w2 (rdR T b (r.text most).2 :: L) := by
  subst hmi
  exact r12TextS most S hs hm
theorem r12ReadL (most : Nat) (mi : Int) (hmi : mi = most) (S : Sp w0 F0 w (rdR T b r :: L)) (hs : r.s.length ≤ 1000000000000) :
    Calls Tryz.prog 64 #[.pointer (some ⟨b, 0, none⟩), .int .u64 mi] w fun e w2 => e = .returned (.int .u64 (r.num most).1) ∧ Sp w0 F0 w2 (rdR T b (r.num most).2 :: L) := by
  subst hmi
  exact r12ReadS most S hs
theorem Sp.rowMade (S : Sp w0 F0 w L) (e k : Nat) : Sp w0 F0 (w.alloc (.cells #[] e)) (rowR e k (.slice (some ⟨w.heap.size, 0, none⟩) 0 0) 0 [] :: L) :=
  S.gain (G := [w.heap.size]) ((Ext.refl [] w).alloc _) ⟨rfl, by simp, .inr ⟨w.heap.size, 0, #[], rfl, Nat.zero_le _, heap_alloc_new _ _, Nat.le_refl _, Nat.zero_le _, by simp, by simp⟩⟩ (by simp)
end
end Go.Proofs.YtpkolkgndhagiaaGreat
