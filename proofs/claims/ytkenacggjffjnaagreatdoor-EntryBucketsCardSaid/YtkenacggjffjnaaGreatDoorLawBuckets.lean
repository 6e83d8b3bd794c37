/- law 15: buckets. Conditions: what Go's variables hold. -/
import Derived.Test.YtkenacggjffjnaaGreatDoorAw15
import Derived.Test.YtkenacggjffjnaaGreatDoorR15
import Derived.Test.YtkenacggjffjnaaGreatDoorReg
set_option linter.unusedSimpArgs false
set_option linter.unusedVariables false
set_option linter.unnecessarySimpa false
namespace Go.Proofs.YtkenacggjffjnaaGreatDoor
open Go.RowKit

section
variable {w : World}
theorem fill_take (a : Bs) : (ByteArray.mk (fillB a).toArray).extract 0 (textB a).length = ⟨(textB a).toArray⟩ := by rw [cut_head, fillB_ahead]
theorem fill_zero (a : Bs) (i : Nat) (h : (textB a).length ≤ i) (h2 : i < (fillB a).length) (W : World) : (Instr.index 9 (.string ⟨(fillB a).toArray⟩) (.int .i64 i)).run Tryz.prog W = .ok (.int .u8 0) W := by
  rw [idx_str (fillB a) i h2 i rfl W]
  have := fillB_behind a i h h2
  rw [List.getElem?_eq_getElem h2, Option.some.injEq] at this
  rw [this]
  rfl
theorem bucket_test {m n N y : Nat} (hm : m ≤ 16384) (hn : n ≤ 16384) (hN : bucket m = N) (hy : bucket n = y) : (N = y) ↔ (n ≤ N ∧ (N = 256 ∨ N / 4 < n)) := by
  have h1 := bucket_same m n hm hn
  rw [hN, hy] at h1
  rw [h1]
  have : 256 ≤ N := by rcases bucket_in m with h | h | h | h <;> omega
  constructor
  · rintro ⟨h2, h3⟩; exact ⟨by omega, h3⟩
  · rintro ⟨h2, h3⟩; exact ⟨by omega, h3⟩
set_option maxRecDepth 100000 in
set_option maxHeartbeats 8000000 in
theorem entryBuckets_walk (a b : Bs) (w : World) (E : Env w) (_ha : a.length ≤ maxLen) (_hb : b.length ≤ maxLen) : Calls Tryz.prog 5 #[.string ⟨a.toArray⟩, .string ⟨b.toArray⟩] w fun e w2 => e = .returned (.bool true) ∧ Ext [] w w2 := by
  have HA := Lib.hid (awake15S (Sp.nil w []) E)
  clear E _ha _hb
  go_enter Tryz.func5, Tryz.ntmps5
  go_wp2_with fail
  refine HA.out.mono ?_
  rintro e w1 ⟨rfl, S⟩
  have HS1 := Lib.hid S
  clear S HA
  by_cases h1 : 5000 < a.length
  · have h1' : (5000 : Int) < a.length := by omega
    clear h1
    go_wp2
    go_ret
    exact ⟨rfl, HS1.out.ext⟩
  have h1' : (a.length : Int) ≤ 5000 := by omega
  by_cases h2 : 5000 < b.length
  · have h2' : (5000 : Int) < b.length := by omega
    clear h1 h2
    go_wp2
    go_ret
    exact ⟨rfl, HS1.out.ext⟩
  have h2' : (b.length : Int) ≤ 5000 := by omega
  have h3 : a.length ≤ 16000 := by omega
  have h4 : b.length ≤ 16000 := by omega
  have ea : enFill a = (fillB a, 0) := by unfold enFill; rw [if_pos h3]
  have eb : enFill b = (fillB b, 0) := by unfold enFill; rw [if_pos h4]
  have HFA := Lib.hid (fun (w' : World) (S' : Sp w [] w' []) => enFillS a S')
  have HFB := Lib.hid (fun (w' : World) (S' : Sp w [] w' []) => enFillS b S')
  rw [ea] at HFA
  rw [eb] at HFB
  have HTA := Lib.hid (fun (w' : World) (S' : Sp w [] w' []) => r12TxtS a (by omega) S')
  have HTB := Lib.hid (fun (w' : World) (S' : Sp w [] w' []) => r12TxtS b (by omega) S')
  have hcut := fill_take a
  have HZ := Lib.hid (fill_zero a)
  have HLA := Lib.hid (fillB_length h3)
  have HLB := Lib.hid (fillB_length h4)
  have hma := text_small h3
  have hmb := text_small h4
  have HBT := Lib.hid (fun N y (h1 : bucket (textB a).length = N) (h2 : bucket (textB b).length = y) => bucket_test (m := (textB a).length) (n := (textB b).length) (by omega) (by omega) h1 h2)
  have HGE := Lib.hid (bucket_ge (n := (textB a).length) (by omega))
  have HLE := Lib.hid (bucket_least (textB a).length)
  have HIN := Lib.hid (bucket_in (textB a).length)
  have HINB := Lib.hid (bucket_in (textB b).length)
  have HPA := Lib.hid (text_pos a)
  clear h1 h2 h3 h4 ea eb
  go_wp2_with fail
  refine (HFA.out _ HS1.out).mono ?_
  rintro e w2 ⟨rfl, S⟩
  have HS2 := Lib.hid S
  clear S HFA HS1
  go_wp2_with fail
  refine (HFB.out _ HS2.out).mono ?_
  rintro e w3 ⟨rfl, S⟩
  have HS3 := Lib.hid S
  clear S HFB HS2
  generalize fillB a = x at *
  generalize fillB b = y at *
  go_wp2_with fail
  refine (HTA.out _ HS3.out).mono ?_
  rintro e w4 ⟨rfl, S⟩
  have HS4 := Lib.hid S
  clear S HS3
  generalize textB a = t at *
  generalize textB b = u at *
  have ht : (t.length : Int) ≤ 16003 := by omega
  have hu : (u.length : Int) ≤ 16003 := by omega
  clear hma hmb
  go_upto_region 11 with (fail)
  have HN : Hid (x.length = 256 ∨ x.length = 1024 ∨ x.length = 4096 ∨ x.length = 16384) := by have := HIN.out; have := HLA.out; unfold Hid; omega
  have HNY : Hid (y.length = 256 ∨ y.length = 1024 ∨ y.length = 4096 ∨ y.length = 16384) := by have := HINB.out; have := HLB.out; unfold Hid; omega
  rcases HN.out with hN | hN | hN | hN
  · have hx : (x.length : Int) = 256 := by omega
    have hge : (t.length : Int) ≤ 256 := by have := HGE.out; have := HLA.out; omega
    have hge' : decide ((256 : Int) < t.length) = false := decide_eq_false (by omega)
    have HTE : Hid (((256 : Int) == y.length) = (decide ((u.length : Int) ≤ 256) && true)) := by
      have h := HBT.out _ _ HLA.out.symm HLB.out.symm
      unfold Hid
      rw [Bool.eq_iff_iff]
      simp
      omega
    have HXL := Lib.hid hN
    clear hN
    refine wp_region_text (S := fun wx => Sp w [] wx ([])) (by kernel_rfl) (by kernel_rfl) (HS4.out).drew ?_
    repeat
      refine Exists.intro ?_ (And.intro (fun wS hS K hK => ?_) (And.intro ?_ ?_))
      rotate_left 1
      · have hS1 := hS
        first
          | (refine if_unwanted rfl ?_; simp only [Act.put, List.setIfInBounds_toArray, List.set_cons_zero, List.set_cons_succ]; exact hK.out _ hS1)
          | (refine if_wanted rfl ?_; go_simp; exact hK.out _ hS1)
          | (refine if_wanted rfl ?_; go_simp; go_at_call 25; refine (HTA.out _ hS1).mono ?_; rintro e w12 ⟨rfl, S12⟩; exact hK.out _ S12)
      · rfl
    intro wE hE
    have HSE := Lib.hid hE
    clear hE
    go_wp2_with fail
    go_loopw [11] (fun z wr => ∃ k : Nat, z = .int .i64 k ∧ t.length ≤ k ∧ k ≤ 256 ∧ wr = wE) (fun z _ => 256 - (intOf z).toNat)
    case atStart => exact ⟨t.length, rfl, Nat.le_refl _, by omega, by trivial⟩
    case round =>
      obtain ⟨k, rfl, hk1, hk2, rfl⟩ := hrel
      by_cases hlt : k < 256
      · have hlt' : (k : Int) < 256 := by omega
        have hz := HZ.out k hk1 (by have := HXL.out; omega)
        go_wp2_with fail
        go_roundw
        case rel => exact ⟨k + 1, by go_num, by omega, by omega, by trivial⟩
        case measure => simp [intOf]; omega
      · have hlt' : (256 : Int) ≤ k := by omega
        clear hlt hk1 hk2
        go_wp2_with fail
        refine (HTB.out _ HSE.out).mono ?_
        rintro e w6 ⟨rfl, S⟩
        have HS6 := Lib.hid S
        clear S HSE
        by_cases hu1 : u.length ≤ 256
        · have hu1' : (u.length : Int) ≤ 256 := by omega
          have hmx : max (u.length : Int) 256 = 256 := by omega
          have hy : ((256 : Int) == y.length) = true := by rw [HTE.out, decide_eq_true hu1']; rfl
          clear hu1
          go_wp2
          go_ret
          exact ⟨rfl, HS6.out.ext⟩
        · have hu1' : (256 : Int) < u.length := by omega
          have hmx : max (u.length : Int) 256 = u.length := by omega
          have hy : ((256 : Int) == y.length) = false := by rw [HTE.out, decide_eq_false (by omega)]; rfl
          clear hu1
          go_wp2
          go_ret
          exact ⟨rfl, HS6.out.ext⟩
  · have hx : (x.length : Int) = 1024 := by omega
    have hge : (t.length : Int) ≤ 1024 := by have := HGE.out; have := HLA.out; omega
    have hge' : decide ((1024 : Int) < t.length) = false := decide_eq_false (by omega)
    have hle : (256 : Int) < t.length := by have := HLE.out; have := HLA.out; omega
    have hle' : decide ((t.length : Int) ≤ 256) = false := decide_eq_false (by omega)
    have hq1 : Int.tdiv 1024 4 = 256 := by decide
    have hq2 : IntKind.i64.wrap (Int.tdiv 1024 4) = 256 := by decide
    have hq3 : IntKind.i64.wrap (256) = 256 := by decide
    have HTE : Hid (((1024 : Int) == y.length) = (decide ((u.length : Int) ≤ 1024) && decide ((256 : Int) < u.length))) := by
      have h := HBT.out _ _ HLA.out.symm HLB.out.symm
      unfold Hid
      rw [Bool.eq_iff_iff]
      simp
      omega
    have HXL := Lib.hid hN
    clear hN
    refine wp_region_text (S := fun wx => Sp w [] wx ([])) (by kernel_rfl) (by kernel_rfl) (HS4.out).drew ?_
    repeat
      refine Exists.intro ?_ (And.intro (fun wS hS K hK => ?_) (And.intro ?_ ?_))
      rotate_left 1
      · have hS1 := hS
        first
          | (refine if_unwanted rfl ?_; simp only [Act.put, List.setIfInBounds_toArray, List.set_cons_zero, List.set_cons_succ]; exact hK.out _ hS1)
          | (refine if_wanted rfl ?_; go_simp; exact hK.out _ hS1)
          | (refine if_wanted rfl ?_; go_simp; go_at_call 25; refine (HTA.out _ hS1).mono ?_; rintro e w12 ⟨rfl, S12⟩; exact hK.out _ S12)
      · rfl
    intro wE hE
    have HSE := Lib.hid hE
    clear hE
    go_wp2_with fail
    go_loopw [11] (fun z wr => ∃ k : Nat, z = .int .i64 k ∧ t.length ≤ k ∧ k ≤ 1024 ∧ wr = wE) (fun z _ => 1024 - (intOf z).toNat)
    case atStart => exact ⟨t.length, rfl, Nat.le_refl _, by omega, by trivial⟩
    case round =>
      obtain ⟨k, rfl, hk1, hk2, rfl⟩ := hrel
      by_cases hlt : k < 1024
      · have hlt' : (k : Int) < 1024 := by omega
        have hz := HZ.out k hk1 (by have := HXL.out; omega)
        go_wp2_with fail
        go_roundw
        case rel => exact ⟨k + 1, by go_num, by omega, by omega, by trivial⟩
        case measure => simp [intOf]; omega
      · have hlt' : (1024 : Int) ≤ k := by omega
        clear hlt hk1 hk2
        go_wp2_with fail
        refine (HTB.out _ HSE.out).mono ?_
        rintro e w6 ⟨rfl, S⟩
        have HS6 := Lib.hid S
        clear S HSE
        by_cases hu1 : u.length ≤ 1024
        · have hu1' : (u.length : Int) ≤ 1024 := by omega
          have hmx : decide (max (u.length : Int) 256 ≤ 1024) = true := decide_eq_true (by omega)
          by_cases hu2 : 256 < u.length
          · have hu2' : (256 : Int) < u.length := by omega
            have hu3 : decide ((256 : Int) < u.length) = true := decide_eq_true (by omega)
            have hy : ((1024 : Int) == y.length) = true := by rw [HTE.out, decide_eq_true hu1', hu3]; rfl
            clear hu1 hu2
            go_wp2_with fail
            refine (HTB.out _ HS6.out).mono ?_
            rintro e w7 ⟨rfl, S⟩
            have HS7 := Lib.hid S
            clear S HS6
            go_wp2
            go_ret
            exact ⟨rfl, HS7.out.ext⟩
          · have hu2' : (u.length : Int) ≤ 256 := by omega
            have hu3 : decide ((256 : Int) < u.length) = false := decide_eq_false (by omega)
            have hy : ((1024 : Int) == y.length) = false := by rw [HTE.out, decide_eq_true hu1', hu3]; rfl
            clear hu1 hu2
            go_wp2_with fail
            refine (HTB.out _ HS6.out).mono ?_
            rintro e w7 ⟨rfl, S⟩
            have HS7 := Lib.hid S
            clear S HS6
            go_wp2
            go_ret
            exact ⟨rfl, HS7.out.ext⟩
        · have hu1' : (1024 : Int) < u.length := by omega
          have hmx : decide (max (u.length : Int) 256 ≤ 1024) = false := decide_eq_false (by omega)
          have hy : ((1024 : Int) == y.length) = false := by rw [HTE.out, decide_eq_false (by omega)]; rfl
          clear hu1
          go_wp2
          go_ret
          exact ⟨rfl, HS6.out.ext⟩
  · have hx : (x.length : Int) = 4096 := by omega
    have hge : (t.length : Int) ≤ 4096 := by have := HGE.out; have := HLA.out; omega
    have hge' : decide ((4096 : Int) < t.length) = false := decide_eq_false (by omega)
    have hle : (1024 : Int) < t.length := by have := HLE.out; have := HLA.out; omega
    have hle' : decide ((t.length : Int) ≤ 1024) = false := decide_eq_false (by omega)
    have hq1 : Int.tdiv 4096 4 = 1024 := by decide
    have hq2 : IntKind.i64.wrap (Int.tdiv 4096 4) = 1024 := by decide
    have hq3 : IntKind.i64.wrap (1024) = 1024 := by decide
    have HTE : Hid (((4096 : Int) == y.length) = (decide ((u.length : Int) ≤ 4096) && decide ((1024 : Int) < u.length))) := by
      have h := HBT.out _ _ HLA.out.symm HLB.out.symm
      unfold Hid
      rw [Bool.eq_iff_iff]
      simp
      omega
    have HXL := Lib.hid hN
    clear hN
    refine wp_region_text (S := fun wx => Sp w [] wx ([])) (by kernel_rfl) (by kernel_rfl) (HS4.out).drew ?_
    repeat
      refine Exists.intro ?_ (And.intro (fun wS hS K hK => ?_) (And.intro ?_ ?_))
      rotate_left 1
      · have hS1 := hS
        first
          | (refine if_unwanted rfl ?_; simp only [Act.put, List.setIfInBounds_toArray, List.set_cons_zero, List.set_cons_succ]; exact hK.out _ hS1)
          | (refine if_wanted rfl ?_; go_simp; exact hK.out _ hS1)
          | (refine if_wanted rfl ?_; go_simp; go_at_call 25; refine (HTA.out _ hS1).mono ?_; rintro e w12 ⟨rfl, S12⟩; exact hK.out _ S12)
      · rfl
    intro wE hE
    have HSE := Lib.hid hE
    clear hE
    go_wp2_with fail
    go_loopw [11] (fun z wr => ∃ k : Nat, z = .int .i64 k ∧ t.length ≤ k ∧ k ≤ 4096 ∧ wr = wE) (fun z _ => 4096 - (intOf z).toNat)
    case atStart => exact ⟨t.length, rfl, Nat.le_refl _, by omega, by trivial⟩
    case round =>
      obtain ⟨k, rfl, hk1, hk2, rfl⟩ := hrel
      by_cases hlt : k < 4096
      · have hlt' : (k : Int) < 4096 := by omega
        have hz := HZ.out k hk1 (by have := HXL.out; omega)
        go_wp2_with fail
        go_roundw
        case rel => exact ⟨k + 1, by go_num, by omega, by omega, by trivial⟩
        case measure => simp [intOf]; omega
      · have hlt' : (4096 : Int) ≤ k := by omega
        clear hlt hk1 hk2
        go_wp2_with fail
        refine (HTB.out _ HSE.out).mono ?_
        rintro e w6 ⟨rfl, S⟩
        have HS6 := Lib.hid S
        clear S HSE
        by_cases hu1 : u.length ≤ 4096
        · have hu1' : (u.length : Int) ≤ 4096 := by omega
          have hmx : decide (max (u.length : Int) 256 ≤ 4096) = true := decide_eq_true (by omega)
          by_cases hu2 : 1024 < u.length
          · have hu2' : (1024 : Int) < u.length := by omega
            have hu3 : decide ((1024 : Int) < u.length) = true := decide_eq_true (by omega)
            have hy : ((4096 : Int) == y.length) = true := by rw [HTE.out, decide_eq_true hu1', hu3]; rfl
            clear hu1 hu2
            go_wp2_with fail
            refine (HTB.out _ HS6.out).mono ?_
            rintro e w7 ⟨rfl, S⟩
            have HS7 := Lib.hid S
            clear S HS6
            go_wp2
            go_ret
            exact ⟨rfl, HS7.out.ext⟩
          · have hu2' : (u.length : Int) ≤ 1024 := by omega
            have hu3 : decide ((1024 : Int) < u.length) = false := decide_eq_false (by omega)
            have hy : ((4096 : Int) == y.length) = false := by rw [HTE.out, decide_eq_true hu1', hu3]; rfl
            clear hu1 hu2
            go_wp2_with fail
            refine (HTB.out _ HS6.out).mono ?_
            rintro e w7 ⟨rfl, S⟩
            have HS7 := Lib.hid S
            clear S HS6
            go_wp2
            go_ret
            exact ⟨rfl, HS7.out.ext⟩
        · have hu1' : (4096 : Int) < u.length := by omega
          have hmx : decide (max (u.length : Int) 256 ≤ 4096) = false := decide_eq_false (by omega)
          have hy : ((4096 : Int) == y.length) = false := by rw [HTE.out, decide_eq_false (by omega)]; rfl
          clear hu1
          go_wp2
          go_ret
          exact ⟨rfl, HS6.out.ext⟩
  · have hx : (x.length : Int) = 16384 := by omega
    have hge : (t.length : Int) ≤ 16384 := by have := HGE.out; have := HLA.out; omega
    have hge' : decide ((16384 : Int) < t.length) = false := decide_eq_false (by omega)
    have hle : (4096 : Int) < t.length := by have := HLE.out; have := HLA.out; omega
    have hle' : decide ((t.length : Int) ≤ 4096) = false := decide_eq_false (by omega)
    have hq1 : Int.tdiv 16384 4 = 4096 := by decide
    have hq2 : IntKind.i64.wrap (Int.tdiv 16384 4) = 4096 := by decide
    have hq3 : IntKind.i64.wrap (4096) = 4096 := by decide
    have HTE : Hid (((16384 : Int) == y.length) = (decide ((u.length : Int) ≤ 16384) && decide ((4096 : Int) < u.length))) := by
      have h := HBT.out _ _ HLA.out.symm HLB.out.symm
      unfold Hid
      rw [Bool.eq_iff_iff]
      simp
      omega
    have HXL := Lib.hid hN
    clear hN
    refine wp_region_text (S := fun wx => Sp w [] wx ([])) (by kernel_rfl) (by kernel_rfl) (HS4.out).drew ?_
    repeat
      refine Exists.intro ?_ (And.intro (fun wS hS K hK => ?_) (And.intro ?_ ?_))
      rotate_left 1
      · have hS1 := hS
        first
          | (refine if_unwanted rfl ?_; simp only [Act.put, List.setIfInBounds_toArray, List.set_cons_zero, List.set_cons_succ]; exact hK.out _ hS1)
          | (refine if_wanted rfl ?_; go_simp; exact hK.out _ hS1)
          | (refine if_wanted rfl ?_; go_simp; go_at_call 25; refine (HTA.out _ hS1).mono ?_; rintro e w12 ⟨rfl, S12⟩; exact hK.out _ S12)
      · rfl
    intro wE hE
    have HSE := Lib.hid hE
    clear hE
    go_wp2_with fail
    go_loopw [11] (fun z wr => ∃ k : Nat, z = .int .i64 k ∧ t.length ≤ k ∧ k ≤ 16384 ∧ wr = wE) (fun z _ => 16384 - (intOf z).toNat)
    case atStart => exact ⟨t.length, rfl, Nat.le_refl _, by omega, by trivial⟩
    case round =>
      obtain ⟨k, rfl, hk1, hk2, rfl⟩ := hrel
      by_cases hlt : k < 16384
      · have hlt' : (k : Int) < 16384 := by omega
        have hz := HZ.out k hk1 (by have := HXL.out; omega)
        go_wp2_with fail
        go_roundw
        case rel => exact ⟨k + 1, by go_num, by omega, by omega, by trivial⟩
        case measure => simp [intOf]; omega
      · have hlt' : (16384 : Int) ≤ k := by omega
        clear hlt hk1 hk2
        go_wp2_with fail
        refine (HTB.out _ HSE.out).mono ?_
        rintro e w6 ⟨rfl, S⟩
        have HS6 := Lib.hid S
        clear S HSE
        by_cases hu1 : u.length ≤ 16384
        · have hu1' : (u.length : Int) ≤ 16384 := by omega
          have hmx : decide (max (u.length : Int) 256 ≤ 16384) = true := decide_eq_true (by omega)
          by_cases hu2 : 4096 < u.length
          · have hu2' : (4096 : Int) < u.length := by omega
            have hu3 : decide ((4096 : Int) < u.length) = true := decide_eq_true (by omega)
            have hy : ((16384 : Int) == y.length) = true := by rw [HTE.out, decide_eq_true hu1', hu3]; rfl
            clear hu1 hu2
            go_wp2_with fail
            refine (HTB.out _ HS6.out).mono ?_
            rintro e w7 ⟨rfl, S⟩
            have HS7 := Lib.hid S
            clear S HS6
            go_wp2
            go_ret
            exact ⟨rfl, HS7.out.ext⟩
          · have hu2' : (u.length : Int) ≤ 4096 := by omega
            have hu3 : decide ((4096 : Int) < u.length) = false := decide_eq_false (by omega)
            have hy : ((16384 : Int) == y.length) = false := by rw [HTE.out, decide_eq_true hu1', hu3]; rfl
            clear hu1 hu2
            go_wp2_with fail
            refine (HTB.out _ HS6.out).mono ?_
            rintro e w7 ⟨rfl, S⟩
            have HS7 := Lib.hid S
            clear S HS6
            go_wp2
            go_ret
            exact ⟨rfl, HS7.out.ext⟩
        · have hu1' : (16384 : Int) < u.length := by omega
          have hmx : decide (max (u.length : Int) 256 ≤ 16384) = false := decide_eq_false (by omega)
          have hy : ((16384 : Int) == y.length) = false := by rw [HTE.out, decide_eq_false (by omega)]; rfl
          clear hu1
          go_wp2
          go_ret
          exact ⟨rfl, HS6.out.ext⟩
end
end Go.Proofs.YtkenacggjffjnaaGreatDoor
