/- The reference's numbers and texts that are taken: Num, Text (posthornref12.In). Conditions: the lengths fit. -/
import Derived.Test.YtkenacggjffjnaaGreatDoorR12
set_option linter.unusedSimpArgs false
set_option linter.unusedVariables false
set_option linter.unnecessarySimpa false
namespace Go.Proofs.YtkenacggjffjnaaGreatDoor
open Go.RowKit Go.Maps Go.Sort

section
theorem i64_byte (c : UInt8) : IntKind.i64.wrap (c.toNat : Int) = c.toNat := by have := c.toNat_lt; rw [IntKind.wrap_i64]; omega
theorem i64_byte1 (c : UInt8) : IntKind.i64.wrap (1 + (c.toNat : Int)) = 1 + c.toNat := by have := c.toNat_lt; rw [IntKind.wrap_i64]; omega
theorem cut_mid (c : UInt8) (t : Bs) (n : Nat) : (ByteArray.mk (c :: t).toArray).extract 1 (1 + n) = ⟨(t.take n).toArray⟩ := by
  apply ByteArray.ext
  rw [ByteArray.data_extract]
  simp [Nat.add_comm 1 n]
theorem numB_iff (c : UInt8) (u : Bs) (hu : u.length = c.toNat) : numB (fromH u) = c :: u ↔ need (fromH u) = c.toNat := by
  have h := numB_is c u hu
  rw [Bool.eq_iff_iff, beq_iff_eq, decide_eq_true_eq] at h
  exact h
theorem idx_head (c : UInt8) (t : Bs) (w : World) : (Instr.index 9 (.string ⟨(c :: t).toArray⟩) (.int .i64 0)).run Tryz.prog w = .ok (.int .u8 (c.toNat : Int)) w := idx_str (c :: t) 0 (by simp) 0 rfl w
variable {w0 w : World} {F0 : List Nat} {L : List Res} {T b : Nat} {r : Rd}
set_option maxRecDepth 100000 in
set_option maxHeartbeats 1000000 in
theorem r12Num_bad (most : Nat) (s : Bs) (S : Sp w0 F0 w (rdR T b ⟨s, true⟩ :: L)) (hs : s.length ≤ 1000000000000) :
    Calls Tryz.prog 43 #[.pointer (some ⟨b, 0, none⟩), .int .u64 most] w fun e w2 => e = .returned (.int .u64 0) ∧ Sp w0 F0 w2 (rdR T b Rd.failed :: L) := by
  have HS := Lib.hid S
  have hs' : (s.length : Int) ≤ 1000000000000 := by omega
  clear S hs
  go_enter Tryz.func43, Tryz.ntmps43
  go_wp2_with fail
  refine wp_region_text (S := fun wx => Sp w0 F0 wx (boxR b #[.string ⟨s.toArray⟩, .bool true] T :: L) ∧ (∀ o, wx.cell? ⟨b, o, none⟩ = (#[.string ⟨s.toArray⟩, .bool true])[o]?)) (by kernel_rfl) (by kernel_rfl) ⟨(HS.out).drew, (Sp.pick [_] [0] (by decide) ((HS.out).drew)).cell⟩ ?_
  repeat
    refine Exists.intro ?_ (And.intro (fun wS hS K hK => ?_) (And.intro ?_ ?_))
    rotate_left 1
    · obtain ⟨hS1, hS2⟩ := hS
      first
        | (refine if_unwanted rfl ?_; simp only [Act.put, List.setIfInBounds_toArray, List.set_cons_zero, List.set_cons_succ]; exact hK.out _ ⟨hS1, hS2⟩)
        | (refine if_wanted rfl ?_; go_simp; exact hK.out _ ⟨hS1, hS2⟩)
    · rfl
  intro wE hE
  have HSE := Lib.hid hE.1
  clear hE
  go_wp2_with fail
  refine (r12FailS (r := ⟨s, true⟩) HSE.out).mono ?_
  rintro e w2 ⟨rfl, S2⟩
  have HS2 := Lib.hid S2
  clear S2
  go_wp2
  go_ret
  exact ⟨rfl, HS2.out⟩
set_option maxRecDepth 100000 in
set_option maxHeartbeats 1000000 in
theorem r12Num_nil (most : Nat) (S : Sp w0 F0 w (rdR T b ⟨[], false⟩ :: L)) :
    Calls Tryz.prog 43 #[.pointer (some ⟨b, 0, none⟩), .int .u64 most] w fun e w2 => e = .returned (.int .u64 0) ∧ Sp w0 F0 w2 (rdR T b Rd.failed :: L) := by
  have HS := Lib.hid S
  clear S 
  go_enter Tryz.func43, Tryz.ntmps43
  go_wp2_with fail
  refine wp_region_text (S := fun wx => Sp w0 F0 wx (boxR b #[.string ⟨#[]⟩, .bool false] T :: L) ∧ (∀ o, wx.cell? ⟨b, o, none⟩ = (#[.string ⟨#[]⟩, .bool false])[o]?)) (by kernel_rfl) (by kernel_rfl) ⟨(HS.out).drew, (Sp.pick [_] [0] (by decide) ((HS.out).drew)).cell⟩ ?_
  repeat
    refine Exists.intro ?_ (And.intro (fun wS hS K hK => ?_) (And.intro ?_ ?_))
    rotate_left 1
    · obtain ⟨hS1, hS2⟩ := hS
      first
        | (refine if_unwanted rfl ?_; simp only [Act.put, List.setIfInBounds_toArray, List.set_cons_zero, List.set_cons_succ]; exact hK.out _ ⟨hS1, hS2⟩)
        | (refine if_wanted rfl ?_; go_simp; exact hK.out _ ⟨hS1, hS2⟩)
    · rfl
  intro wE hE
  have HSE := Lib.hid hE.1
  clear hE
  go_wp2_with fail
  refine (r12FailS (r := ⟨[], false⟩) HSE.out).mono ?_
  rintro e w2 ⟨rfl, S2⟩
  have HS2 := Lib.hid S2
  clear S2
  go_wp2
  go_ret
  exact ⟨rfl, HS2.out⟩
set_option maxRecDepth 100000 in
set_option maxHeartbeats 1000000 in
theorem r12Num_wide (most : Nat) (c : UInt8) (t : Bs) (S : Sp w0 F0 w (rdR T b ⟨c :: t, false⟩ :: L)) (hs : t.length + 1 ≤ 1000000000000) (hc : 8 < c.toNat) :
    Calls Tryz.prog 43 #[.pointer (some ⟨b, 0, none⟩), .int .u64 most] w fun e w2 => e = .returned (.int .u64 0) ∧ Sp w0 F0 w2 (rdR T b Rd.failed :: L) := by
  have HS := Lib.hid S
  have hs' : (t.length : Int) + 1 ≤ 1000000000000 := by omega
  have hix := idx_head c t
  have hne : (((t.length : Int) + 1) == 0) = false := by simp; omega
  have hwc := i64_byte c
  have hwd := i64_byte1 c
  have hc2 : (c.toNat : Int) < 256 := by have := c.toNat_lt; omega
  have hc' : (8 : Int) < c.toNat := by omega
  have hd' : decide ((8 : Int) < c.toNat) = true := by simp; omega
  clear S hs hc
  go_enter Tryz.func43, Tryz.ntmps43
  go_wp2_with fail
  refine wp_region_text (S := fun wx => Sp w0 F0 wx (boxR b #[.string ⟨(c :: t).toArray⟩, .bool false] T :: L) ∧ (∀ o, wx.cell? ⟨b, o, none⟩ = (#[.string ⟨(c :: t).toArray⟩, .bool false])[o]?)) (by kernel_rfl) (by kernel_rfl) ⟨(HS.out).drew, (Sp.pick [_] [0] (by decide) ((HS.out).drew)).cell⟩ ?_
  repeat
    refine Exists.intro ?_ (And.intro (fun wS hS K hK => ?_) (And.intro ?_ ?_))
    rotate_left 1
    · obtain ⟨hS1, hS2⟩ := hS
      first
        | (refine if_unwanted rfl ?_; simp only [Act.put, List.setIfInBounds_toArray, List.set_cons_zero, List.set_cons_succ]; exact hK.out _ ⟨hS1, hS2⟩)
        | (refine if_wanted rfl ?_; go_simp; exact hK.out _ ⟨hS1, hS2⟩)
    · rfl
  intro wE hE
  have HSE := Lib.hid hE.1
  clear hE
  go_wp2_with fail
  refine (r12FailS (r := ⟨c :: t, false⟩) HSE.out).mono ?_
  rintro e w2 ⟨rfl, S2⟩
  have HS2 := Lib.hid S2
  clear S2
  go_wp2
  go_ret
  exact ⟨rfl, HS2.out⟩
set_option maxRecDepth 100000 in
set_option maxHeartbeats 1000000 in
theorem r12Num_short (most : Nat) (c : UInt8) (t : Bs) (S : Sp w0 F0 w (rdR T b ⟨c :: t, false⟩ :: L)) (hs : t.length + 1 ≤ 1000000000000) (hc : c.toNat ≤ 8) (hl : t.length < c.toNat) :
    Calls Tryz.prog 43 #[.pointer (some ⟨b, 0, none⟩), .int .u64 most] w fun e w2 => e = .returned (.int .u64 0) ∧ Sp w0 F0 w2 (rdR T b Rd.failed :: L) := by
  have HS := Lib.hid S
  have hs' : (t.length : Int) + 1 ≤ 1000000000000 := by omega
  have hix := idx_head c t
  have hne : (((t.length : Int) + 1) == 0) = false := by simp; omega
  have hwc := i64_byte c
  have hwd := i64_byte1 c
  have hc2 : (c.toNat : Int) < 256 := by have := c.toNat_lt; omega
  have hc' : (c.toNat : Int) ≤ 8 := by omega
  have hd' : decide ((8 : Int) < c.toNat) = false := by simp; omega
  have hl' : decide ((t.length : Int) + 1 < 1 + c.toNat) = true := by simp; omega
  clear S hs hc hl
  go_enter Tryz.func43, Tryz.ntmps43
  go_wp2_with fail
  refine wp_region_text (S := fun wx => Sp w0 F0 wx (boxR b #[.string ⟨(c :: t).toArray⟩, .bool false] T :: L) ∧ (∀ o, wx.cell? ⟨b, o, none⟩ = (#[.string ⟨(c :: t).toArray⟩, .bool false])[o]?)) (by kernel_rfl) (by kernel_rfl) ⟨(HS.out).drew, (Sp.pick [_] [0] (by decide) ((HS.out).drew)).cell⟩ ?_
  repeat
    refine Exists.intro ?_ (And.intro (fun wS hS K hK => ?_) (And.intro ?_ ?_))
    rotate_left 1
    · obtain ⟨hS1, hS2⟩ := hS
      first
        | (refine if_unwanted rfl ?_; simp only [Act.put, List.setIfInBounds_toArray, List.set_cons_zero, List.set_cons_succ]; exact hK.out _ ⟨hS1, hS2⟩)
        | (refine if_wanted rfl ?_; go_simp; exact hK.out _ ⟨hS1, hS2⟩)
    · rfl
  intro wE hE
  have HSE := Lib.hid hE.1
  clear hE
  go_wp2_with fail
  refine (r12FailS (r := ⟨c :: t, false⟩) HSE.out).mono ?_
  rintro e w2 ⟨rfl, S2⟩
  have HS2 := Lib.hid S2
  clear S2
  go_wp2
  go_ret
  exact ⟨rfl, HS2.out⟩
set_option maxRecDepth 100000 in
set_option maxHeartbeats 2000000 in
theorem r12Num_long (most : Nat) (c : UInt8) (t : Bs) (S : Sp w0 F0 w (rdR T b ⟨c :: t, false⟩ :: L)) (hs : t.length + 1 ≤ 1000000000000) (hc : c.toNat ≤ 8) (hl : c.toNat ≤ t.length) :
    Calls Tryz.prog 43 #[.pointer (some ⟨b, 0, none⟩), .int .u64 most] w fun e w2 => e = .returned (.int .u64 (Rd.num ⟨c :: t, false⟩ most).1) ∧ Sp w0 F0 w2 (rdR T b (Rd.num ⟨c :: t, false⟩ most).2 :: L) := by
  have HS := Lib.hid S
  have hs' : (t.length : Int) + 1 ≤ 1000000000000 := by omega
  have hix := idx_head c t
  have hne : (((t.length : Int) + 1) == 0) = false := by simp; omega
  have hwc := i64_byte c
  have hwd := i64_byte1 c
  have hc2 : (c.toNat : Int) < 256 := by have := c.toNat_lt; omega
  have hc' : (c.toNat : Int) ≤ 8 := by omega
  have hd' : decide ((8 : Int) < c.toNat) = false := by simp; omega
  have hl' : decide ((t.length : Int) + 1 < 1 + c.toNat) = false := by simp; omega
  have hl2 : (c.toNat : Int) ≤ t.length := by omega
  have hl3 : (0 : Int) ≤ 1 + (c.toNat : Int) := by omega
  have hl4 : 1 + (c.toNat : Int) ≤ (t.length : Int) + 1 := by omega
  have hl5 : (1 + (c.toNat : Int)).toNat = 1 + c.toNat := by omega
  have HNC := Lib.hid (num_cons c t most)
  have HC := Lib.hid hc
  have HL := Lib.hid hl
  clear S hs hc hl
  go_enter Tryz.func43, Tryz.ntmps43
  go_wp2_with fail
  refine wp_region_text (S := fun wx => Sp w0 F0 wx (boxR b #[.string ⟨(c :: t).toArray⟩, .bool false] T :: L) ∧ (∀ o, wx.cell? ⟨b, o, none⟩ = (#[.string ⟨(c :: t).toArray⟩, .bool false])[o]?)) (by kernel_rfl) (by kernel_rfl) ⟨(HS.out).drew, (Sp.pick [_] [0] (by decide) ((HS.out).drew)).cell⟩ ?_
  repeat
    refine Exists.intro ?_ (And.intro (fun wS hS K hK => ?_) (And.intro ?_ ?_))
    rotate_left 1
    · obtain ⟨hS1, hS2⟩ := hS
      first
        | (refine if_unwanted rfl ?_; simp only [Act.put, List.setIfInBounds_toArray, List.set_cons_zero, List.set_cons_succ]; exact hK.out _ ⟨hS1, hS2⟩)
        | (refine if_wanted rfl ?_; go_simp; exact hK.out _ ⟨hS1, hS2⟩)
    · rfl
  intro wE hE
  have HSE := Lib.hid hE.1
  clear hE
  have c1 := HSE.out.cell
  go_wp2_with fail
  rw [cut_mid]
  have hf8 : (t.take c.toNat).length ≤ 8 := by rw [List.length_take]; have := HC.out; omega
  have HF : Hid (fromH (t.take c.toNat) < 18446744073709551616) := by
    have h2 := fromH_lt _ (t.take c.toNat) rfl
    have h3 : 256 ^ (t.take c.toNat).length ≤ 256 ^ 8 := Nat.pow_le_pow_right (by omega) hf8
    unfold Hid
    omega
  have HF8 := Lib.hid hf8
  have hcut0 := cut_head (c :: t) (1 + c.toNat)
  have hcut1 := cut_tail (c :: t) (1 + c.toNat) (t.length + 1) rfl
  rw [Nat.add_comm 1, List.take_succ_cons] at hcut0
  rw [Nat.add_comm 1, List.drop_succ_cons] at hcut1
  rw [Nat.add_comm c.toNat 1] at hcut0 hcut1
  have HUL : Hid ((t.take c.toNat).length = c.toNat) := by rw [List.length_take]; have := HL.out; unfold Hid; omega
  have HIS : Hid (numB (fromH (t.take c.toNat)) = c :: t.take c.toNat ↔ need (fromH (t.take c.toNat)) = c.toNat) := numB_iff c _ HUL.out
  clear hf8 HUL
  generalize t.take c.toNat = u at *
  generalize t.drop c.toNat = rest at *
  refine (r01FromHighS u _ HF8.out).mono ?_
  rintro e w3 ⟨rfl, rfl⟩
  generalize fromH u = n at *
  have HNM : Hid (∀ {wz : World} {K : List Res}, Sp w0 F0 wz K → Calls Tryz.prog 37 #[.int .u64 n] wz fun e w2 => e = .returned (.string ⟨(numB n).toArray⟩) ∧ Sp w0 F0 w2 K) := fun {wz K} S => r12NumS n S HF.out
  generalize numB n = nb at *
  by_cases hne : nb = c :: u
  · have hnd := HIS.out.1 hne
    have tn : (nb == c :: u) = true := by rw [hne]; exact beq_self_eq_true _
    by_cases hle : n ≤ most
    · have HV : Hid (Rd.num ⟨c :: t, false⟩ most = (n, ⟨rest, false⟩)) := HNC.out.trans (if_pos ⟨HC.out, HL.out, hnd, hle⟩)
      have t2 : decide (most < n) = false := by simp; omega
      clear hne hle hnd c1
      have HS3 := Lib.hid HSE.out
      clear HSE
      go_wp2_with fail
      refine wp_region_text (S := fun wx => Sp w0 F0 wx (boxR b #[.string ⟨(c :: t).toArray⟩, .bool false] T :: L) ∧ (∀ o, wx.cell? ⟨b, o, none⟩ = (#[.string ⟨(c :: t).toArray⟩, .bool false])[o]?)) (by kernel_rfl) (by kernel_rfl) ⟨(HS3.out).drew, (Sp.pick [_] [0] (by decide) ((HS3.out).drew)).cell⟩ ?_
      repeat
        refine Exists.intro ?_ (And.intro (fun wS hS K hK => ?_) (And.intro ?_ ?_))
        rotate_left 1
        · obtain ⟨hS1, hS2⟩ := hS
          first
            | (refine if_unwanted rfl ?_; simp only [Act.put, List.setIfInBounds_toArray, List.set_cons_zero, List.set_cons_succ]; exact hK.out _ ⟨hS1, hS2⟩)
            | (refine if_wanted rfl ?_; go_simp; exact hK.out _ ⟨hS1, hS2⟩)
            | (refine if_wanted rfl ?_; go_simp; go_at_call 37; refine (HNM.out hS1).mono ?_; rintro e w12 ⟨rfl, S12⟩; exact hK.out _ ⟨S12, (Sp.pick [_] [0] (by decide) (S12)).cell⟩)
        · rfl
      intro wE hE
      have HSE := Lib.hid hE.1
      clear hE
      clear hl5 hcut0 tn t2 hwc hwd hix hne
      have HS5 := Lib.hid (HSE.out.set (o := 0) (.string ⟨rest.toArray⟩))
      have c1 := HSE.out.cell
      have f1 := HSE.out.free
      go_wp2
      go_ret
      rw [HV.out]
      exact ⟨rfl, HS5.out⟩
    · have HV : Hid (Rd.num ⟨c :: t, false⟩ most = (0, Rd.failed)) := HNC.out.trans (if_neg (fun h => hle h.2.2.2))
      have t2 : decide (most < n) = true := by simp; omega
      clear hne hle hnd c1
      have HS3 := Lib.hid HSE.out
      clear HSE
      go_wp2_with fail
      refine wp_region_text (S := fun wx => Sp w0 F0 wx (boxR b #[.string ⟨(c :: t).toArray⟩, .bool false] T :: L) ∧ (∀ o, wx.cell? ⟨b, o, none⟩ = (#[.string ⟨(c :: t).toArray⟩, .bool false])[o]?)) (by kernel_rfl) (by kernel_rfl) ⟨(HS3.out).drew, (Sp.pick [_] [0] (by decide) ((HS3.out).drew)).cell⟩ ?_
      repeat
        refine Exists.intro ?_ (And.intro (fun wS hS K hK => ?_) (And.intro ?_ ?_))
        rotate_left 1
        · obtain ⟨hS1, hS2⟩ := hS
          first
            | (refine if_unwanted rfl ?_; simp only [Act.put, List.setIfInBounds_toArray, List.set_cons_zero, List.set_cons_succ]; exact hK.out _ ⟨hS1, hS2⟩)
            | (refine if_wanted rfl ?_; go_simp; exact hK.out _ ⟨hS1, hS2⟩)
            | (refine if_wanted rfl ?_; go_simp; go_at_call 37; refine (HNM.out hS1).mono ?_; rintro e w12 ⟨rfl, S12⟩; exact hK.out _ ⟨S12, (Sp.pick [_] [0] (by decide) (S12)).cell⟩)
        · rfl
      intro wE hE
      have HSE := Lib.hid hE.1
      clear hE
      clear hl5 hcut0 hcut1 hwc hwd hix hne
      go_wp2_with fail
      refine (r12FailS (r := ⟨c :: t, false⟩) HSE.out).mono ?_
      rintro e w5 ⟨rfl, S2⟩
      have HS5 := Lib.hid S2
      clear S2
      go_wp2
      go_ret
      rw [HV.out]
      exact ⟨rfl, HS5.out⟩
  · have HV : Hid (Rd.num ⟨c :: t, false⟩ most = (0, Rd.failed)) := HNC.out.trans (if_neg (fun h => hne (HIS.out.2 h.2.2.1)))
    have tn : (nb == c :: u) = false := beq_eq_false_iff_ne.2 hne
    clear hne c1
    have HS3 := Lib.hid HSE.out
    clear HSE
    go_wp2_with fail
    refine wp_region_text (S := fun wx => Sp w0 F0 wx (boxR b #[.string ⟨(c :: t).toArray⟩, .bool false] T :: L) ∧ (∀ o, wx.cell? ⟨b, o, none⟩ = (#[.string ⟨(c :: t).toArray⟩, .bool false])[o]?)) (by kernel_rfl) (by kernel_rfl) ⟨(HS3.out).drew, (Sp.pick [_] [0] (by decide) ((HS3.out).drew)).cell⟩ ?_
    repeat
      refine Exists.intro ?_ (And.intro (fun wS hS K hK => ?_) (And.intro ?_ ?_))
      rotate_left 1
      · obtain ⟨hS1, hS2⟩ := hS
        first
          | (refine if_unwanted rfl ?_; simp only [Act.put, List.setIfInBounds_toArray, List.set_cons_zero, List.set_cons_succ]; exact hK.out _ ⟨hS1, hS2⟩)
          | (refine if_wanted rfl ?_; go_simp; exact hK.out _ ⟨hS1, hS2⟩)
          | (refine if_wanted rfl ?_; go_simp; go_at_call 37; refine (HNM.out hS1).mono ?_; rintro e w12 ⟨rfl, S12⟩; exact hK.out _ ⟨S12, (Sp.pick [_] [0] (by decide) (S12)).cell⟩)
      · rfl
    intro wE hE
    have HSE := Lib.hid hE.1
    clear hE
    go_wp2_with fail
    refine (r12FailS (r := ⟨c :: t, false⟩) HSE.out).mono ?_
    rintro e w5 ⟨rfl, S2⟩
    have HS5 := Lib.hid S2
    clear S2
    go_wp2
    go_ret
    rw [HV.out]
    exact ⟨rfl, HS5.out⟩
end
end Go.Proofs.YtkenacggjffjnaaGreatDoor
