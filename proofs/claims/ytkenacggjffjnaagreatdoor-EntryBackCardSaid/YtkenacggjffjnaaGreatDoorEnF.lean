/- entry: bodies filled up. Conditions: the lengths fit. -/
import Derived.Test.YtkenacggjffjnaaGreatDoorEnS
import Derived.Test.YtkenacggjffjnaaGreatDoorShelf
set_option linter.unusedSimpArgs false
set_option linter.unusedVariables false
set_option linter.unnecessarySimpa false
namespace Go.Proofs.YtkenacggjffjnaaGreatDoor
open Go.RowKit

theorem zeros_eq : ∀ n, Lib.repeatL [0] n = zeros n
  | 0 => rfl
  | n + 1 => by rw [Lib.repeatL, zeros_eq n]; rfl
theorem bucket_at {n : Nat} (h : n ≤ 16384) : ([256, 1024, 4096, 16384] : List Int)[(([256, 1024, 4096, 16384] : List Int).countP (· < (n : Int)))]? = some ((bucket n : Nat) : Int) := by
  unfold bucket
  simp only [List.countP_cons, List.countP_nil]
  by_cases h1 : n ≤ 256
  · rw [if_pos h1]
    have a1 : ¬ (256 : Int) < n := by omega
    have a2 : ¬ (1024 : Int) < n := by omega
    have a3 : ¬ (4096 : Int) < n := by omega
    have a4 : ¬ (16384 : Int) < n := by omega
    simp [a1, a2, a3, a4]
  · rw [if_neg h1]
    have a1 : (256 : Int) < n := by omega
    by_cases h2 : n ≤ 1024
    · rw [if_pos h2]
      have a2 : ¬ (1024 : Int) < n := by omega
      have a3 : ¬ (4096 : Int) < n := by omega
      have a4 : ¬ (16384 : Int) < n := by omega
      simp [a1, a2, a3, a4]
    · rw [if_neg h2]
      have a2 : (1024 : Int) < n := by omega
      by_cases h3 : n ≤ 4096
      · rw [if_pos h3]
        have a3 : ¬ (4096 : Int) < n := by omega
        have a4 : ¬ (16384 : Int) < n := by omega
        simp [a1, a2, a3, a4]
      · rw [if_neg h3]
        have a3 : (4096 : Int) < n := by omega
        have a4 : ¬ (16384 : Int) < n := by omega
        simp [a1, a2, a3, a4]

section
variable {w0 w : World} {F0 : List Nat} {L : List Res} {b : Nat}
theorem repeatZ (c : Nat) (ci : Int) (h : ci = c) (hc : c ≤ 1000000) (S : Sp w0 F0 w L) : Calls Tryz.prog 91 #[.string ⟨#[0]⟩, .int .i64 ci] w fun e w2 => e = .returned (.string ⟨(zeros c).toArray⟩) ∧ Sp w0 F0 w2 L := by
  subst h
  refine (Tryz.strings_Repeat ⟨#[0]⟩ c w (by omega) (by show 1 * c ≤ _; omega)).mono fun e w2 ⟨he, hb⟩ => ⟨?_, S.ext0 (Ext.of_below hb)⟩
  rw [he, ← zeros_eq]
set_option maxRecDepth 100000 in
set_option maxHeartbeats 1000000 in
theorem octFillS (s : Bs) (n : Nat) (h1 : 1 ≤ s.length) (h2 : s.length ≤ n) (hn : n ≤ 100000) (S : Sp w0 F0 w L) : Calls Tryz.prog 59 #[.string ⟨s.toArray⟩, .int .i64 n] w fun e w2 => e = .returned (.string ⟨(s ++ zeros (n - s.length)).toArray⟩) ∧ Sp w0 F0 w2 L := by
  have HS := Lib.hid S
  have hn' : (n : Int) ≤ 100000 := by omega
  have hn1 : (1 : Int) ≤ n := by omega
  have hs' : (s.length : Int) ≤ 100000 := by omega
  clear S
  by_cases he : s.length = n
  · have hm : (s.length : Int).tmod n = 0 := by rw [he]; simp
    have HZ : Hid (s ++ zeros (n - s.length) = s) := by unfold Hid; rw [he]; simp [zeros]
    go_enter Tryz.func59, Tryz.ntmps59
    go_wp2
    go_ret
    exact ⟨by rw [HZ.out]; rfl, HS.out⟩
  · have hlt : s.length < n := by omega
    have hm : (s.length : Int).tmod n = s.length := Int.tmod_eq_of_lt (by omega) (by omega)
    have hb1 : ((s.length : Int) == 0) = false := by simp; intro h; simp [h] at h1
    have hb2 : decide ((n : Int) < 1) = false := by simp; omega
    have HC : Hid (((n : Int) - s.length) = ((n - s.length : Nat) : Int)) := by unfold Hid; omega
    have HN : Hid (n - s.length ≤ 1000000) := by unfold Hid; omega
    have hadd := add_str s (zeros (n - s.length)) (by simp [zeros, maxLen]; omega)
    clear h1 h2 hlt he
    go_enter Tryz.func59, Tryz.ntmps59
    go_wp2_with fail
    refine (repeatZ _ _ HC.out HN.out HS.out).mono ?_
    rintro e w2 ⟨rfl, S⟩
    have HS2 := Lib.hid S
    clear S HS
    go_wp2
    go_ret
    exact ⟨rfl, HS2.out⟩
set_option maxRecDepth 100000 in
theorem buckets_any (w : World) : Calls Tryz.prog 57 #[] w fun e w2 => e = .returned (.agg #[.int .i64 256, .int .i64 1024, .int .i64 4096, .int .i64 16384]) ∧ Ext [] w w2 := by
  have S0 := (Sp.nil w []).box #[.int .i64 256, .int .i64 1024, .int .i64 4096, .int .i64 16384] 94
  have d0 := S0.cell
  have HS := Lib.hid S0
  clear S0
  go_enter Tryz.func57, Tryz.ntmps57
  go_wp2
  exact bodyPost_ret (v := .agg #[.int .i64 256, .int .i64 1024, .int .i64 4096, .int .i64 16384]) (by simp [results, Tryz.results57, go_sem, d0]) rfl ⟨rfl, HS.out.ext⟩
theorem bucket_kth {n : Nat} (h : n ≤ 16384) : ∃ k : Nat, (([256, 1024, 4096, 16384] : List Int).take 4).countP (· < (n : Int)) = k ∧ k < 4 ∧ (#[Value.int .i64 256, .int .i64 1024, .int .i64 4096, .int .i64 16384] : Array Value)[k]? = some (.int .i64 (bucket n : Nat)) := by
  have h1 := bucket_at h
  generalize hk : ([256, 1024, 4096, 16384] : List Int).countP (· < (n : Int)) = k at h1
  refine ⟨k, hk, ?_, ?_⟩
  · exact (List.getElem?_eq_some_iff.1 h1).1
  · match k, h1 with
    | 0, h1 => simp at h1 ⊢; exact h1
    | 1, h1 => simp at h1 ⊢; exact h1
    | 2, h1 => simp at h1 ⊢; exact h1
    | 3, h1 => simp at h1 ⊢; exact h1
    | k + 4, h1 => simp at h1
set_option maxRecDepth 100000 in
set_option maxHeartbeats 1000000 in
theorem enFillS (body : Bs) (S : Sp w0 F0 w L) : Calls Tryz.prog 21 #[.string ⟨body.toArray⟩] w fun e w2 => e = .returned (.tuple #[.string ⟨(enFill body).1.toArray⟩, .int .i64 (enFill body).2]) ∧ Sp w0 F0 w2 L := by
  have HS := Lib.hid S
  clear S
  by_cases h : body.length ≤ 16000
  · have h' : (body.length : Int) ≤ 16000 := by omega
    have HV : Hid (enFill body = (textB body ++ zeros (bucket (textB body).length - (textB body).length), 0)) := by unfold Hid enFill; rw [if_pos h]; rfl
    have HT := Lib.hid (text_small h)
    have HP := Lib.hid (text_pos body)
    obtain ⟨k, hk, hk4, hkb⟩ := bucket_kth (n := (textB body).length) (by have := text_small h; omega)
    have HK := Lib.hid hk
    have HB := Lib.hid (bucket_ge (n := (textB body).length) (by have := text_small h; omega))
    have HBL := Lib.hid (bucket_le (textB body).length)
    have hk4' : (k : Int) < 4 := by omega
    have HKB := Lib.hid hkb
    clear hk hkb
    go_enter Tryz.func21, Tryz.ntmps21
    go_wp2_with fail
    refine (packTextS HS.out body (by omega)).mono ?_
    rintro e w1 ⟨rfl, S⟩
    have HS1 := Lib.hid S
    generalize textB body = t at *
    clear S HS h
    go_wp2_with fail
    refine (buckets_any w1).mono ?_
    rintro e w2 ⟨rfl, hx⟩
    have S2 := (HS1.out.ext0 hx).box #[.int .i64 256, .int .i64 1024, .int .i64 4096, .int .i64 16384] 94
    have HS2 := Lib.hid S2
    clear hx HS1 S2
    have ht' : (t.length : Int) ≤ 16003 := by have := HT.out; omega
    go_upto_region 5 with (fail)
    generalize w2.alloc (.cells #[.int .i64 256, .int .i64 1024, .int .i64 4096, .int .i64 16384] 94) = w3 at *
    generalize w2.heap.size = q at *
    have c3 := HS2.out.cell
    go_wp2_with fail
    refine (Tryz.slices_BinarySearch_int q 0 4 4 [256, 1024, 4096, 16384] t.length w3 (by decide) (by decide) (fun j hj => ?_) (by decide)).mono ?_
    · rw [Nat.zero_add, c3 j]
      match j, hj with
      | 0, _ => rfl
      | 1, _ => rfl
      | 2, _ => rfl
      | 3, _ => rfl
      | j + 4, hj => simp at hj; omega
    rw [HK.out]
    rintro e w4 ⟨rfl, n, rfl⟩
    have HS4 := Lib.hid (HS2.out.drewN n)
    have c4 := HS4.out.cell k
    rw [HKB.out] at c4
    generalize w3.drewN n = w4 at *
    clear HS2 c3 HKB HK
    go_wp2_with fail
    refine (octFillS t (bucket t.length) HP.out HB.out (by have := HBL.out; omega) HS4.out).mono ?_
    rintro e w5 ⟨rfl, S⟩
    have HS5 := Lib.hid S.drop
    clear S HS4 c4
    go_wp2
    go_ret2
    rw [HV.out]
    exact ⟨rfl, HS5.out⟩
  · have h' : (16000 : Int) < body.length := by omega
    have HV : Hid (enFill body = ([], 5)) := by unfold Hid enFill; rw [if_neg h]
    clear h
    go_enter Tryz.func21, Tryz.ntmps21
    go_wp2
    go_ret2
    rw [HV.out]
    exact ⟨rfl, HS.out⟩
set_option maxRecDepth 100000 in
set_option maxHeartbeats 1000000 in
theorem enUnfillS (s : Bs) (hs : s.length ≤ 1000000) (S : Sp w0 F0 w L) : Calls Tryz.prog 23 #[.string ⟨s.toArray⟩] w fun e w2 => e = .returned (.tuple #[.string ⟨(enUnfill s).1.toArray⟩, .int .i64 (enUnfill s).2]) ∧ Sp w0 F0 w2 L := by
  have HS := Lib.hid S
  have HL := Lib.hid hs
  have HE : Hid (enFill (bodyOf s) = (fillB (bodyOf s), 0)) := by unfold Hid enFill; rw [if_pos (bodyOf_len s)]
  have HV : Hid (enUnfill s = if fillB (bodyOf s) = s then (bodyOf s, 0) else ([], 2)) := rfl
  clear S hs
  go_enter Tryz.func23, Tryz.ntmps23
  go_wp2_with fail
  refine (fromS HS.out s).mono ?_
  rintro e w1 ⟨b, rfl, S⟩
  have HS1 := Lib.hid S
  clear S HS
  go_wp2_with fail
  refine (rdTextS 16000 16000 rfl HS1.out (by have := HL.out; dsimp only; omega) (by omega)).mono ?_
  rw [show (Rd.text ⟨s, false⟩ 16000).1 = bodyOf s from rfl]
  rintro e w2 ⟨rfl, S⟩
  have HS2 := Lib.hid S.drop
  generalize bodyOf s = x at *
  clear S HS1
  go_wp2_with fail
  refine (enFillS x HS2.out).mono ?_
  rw [HE.out]
  rintro e w3 ⟨rfl, S⟩
  have HS3 := Lib.hid S
  clear S HS2
  by_cases h : fillB x = s
  · have HW : Hid (enUnfill s = (x, 0)) := by unfold Hid; rw [HV.out, if_pos h]
    rw [h] at *
    clear HV h HE
    go_wp2
    go_ret2
    rw [HW.out]
    exact ⟨rfl, HS3.out⟩
  · have HW : Hid (enUnfill s = ([], 2)) := by unfold Hid; rw [HV.out, if_neg h]
    clear HV HE
    generalize fillB x = y at *
    have hb : (y == s) = false := by simpa using h
    go_wp2
    go_ret2
    rw [HW.out]
    exact ⟨rfl, HS3.out⟩
end
end Go.Proofs.YtkenacggjffjnaaGreatDoor
