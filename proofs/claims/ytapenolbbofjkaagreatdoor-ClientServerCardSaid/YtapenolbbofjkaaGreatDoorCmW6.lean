/- cmd: from, beside. Conditions: the lengths fit; what Go's variables hold. cmd: beside. Conditions: the lengths fit; what Go's variables hold. cmd: verbs, Write. Conditions: the lengths fit; what Go's variables hold. -/
import Derived.Test.YtapenolbbofjkaaGreatDoorCmW5
/-! CmW6 -/
set_option linter.unusedSimpArgs false
set_option linter.unusedVariables false
set_option linter.unnecessarySimpa false
namespace Go.Proofs.YtapenolbbofjkaaGreatDoor
open Go.RowKit

/-- A command whose parts fit. -/
structure CmFit (c : Cm) : Prop where
  text : c.text.length ≤ 1000000
  loc : c.box.1.length ≤ 1000000
  dom : c.box.2.length ≤ 1000000
  lo : -9223372036854775808 ≤ c.size
  hi : c.size ≤ 9223372036854775807
section
variable {w0 w : World} {L : List Res}
theorem fromS (c : Cm) (S : Sp w0 [] w L) (E : Env w0) (F : CmFit c) : Calls Tryz.prog 172 #[cmAgg c] w fun e w2 => e = .returned (.tuple #[.string ⟨(fromC c).1.toArray⟩, .bool (fromC c).2]) ∧ Sp w0 [] w2 L := by
  have HS0 := Lib.hid (S.box (cmCells c) 131)
  have HE := Lib.hid E
  have hR := mbPathS c.box HS0.out E F.loc F.dom
  have hp := mbPath_len c.box F.loc F.dom
  have hp2 := mbPath_two c.box
  have hlo := F.lo
  have hhi := F.hi
  clear F
  obtain ⟨v, t, ⟨l, d⟩, z, e8⟩ := c
  have fin : ∀ {strs : Bs} {ok : Bool} {e : Ending} {w2 : World}, fromC ⟨v, t, (l, d), z, e8⟩ = (strs, ok) → (e = .returned (.tuple #[.string ⟨strs.toArray⟩, .bool ok]) ∧ Sp w0 [] w2 L) → e = .returned (.tuple #[.string ⟨(fromC ⟨v, t, (l, d), z, e8⟩).1.toArray⟩, .bool (fromC ⟨v, t, (l, d), z, e8⟩).2]) ∧ Sp w0 [] w2 L := fun h ⟨he, hS⟩ => by rw [h]; exact ⟨he, hS⟩
  have HV : fromC ⟨v, t, (l, d), z, e8⟩ = (fromW ++ (mbPath (l, d)).1 ++ (if 0 ≤ z then sizeW ++ Lib.decDigits z.toNat else []) ++ (if e8 then bodyW else []), (mbPath (l, d)).2 == 0 && (t == [] && (decide (-1 ≤ z) && decide (z ≤ 999999999999)))) := rfl
  unfold mbAgg at hR
  unfold cmCells at HS0 hR
  unfold cmAgg
  dsimp only at *
  generalize (mbPath (l, d)).1 = p at *
  generalize (mbPath (l, d)).2 = ec at *
  have HR := Lib.hid hR
  clear hR S E
  have hz : z < -1 ∨ z = -1 ∨ ∃ n : Nat, z = n := by
    by_cases h : 0 ≤ z
    · exact .inr (.inr ⟨z.toNat, by omega⟩)
    · by_cases h1 : z = -1
      · exact .inr (.inl h1)
      · exact .inl (by omega)
  rcases hp2 with he | ⟨he, _, _⟩
  · by_cases ht : t = []
    · subst ht
      rcases hz with hz | rfl | ⟨n, rfl⟩
      · cases e8 with
        | true => exact (from_0e_neg_T v l d p ec z hz hp he HS0 HE HR).mono fun _ _ h => fin (by rw [HV, he, if_neg (by omega)]; simp; omega) h
        | false => exact (from_0e_neg_F v l d p ec z hz hp he HS0 HE HR).mono fun _ _ h => fin (by rw [HV, he, if_neg (by omega)]; simp; omega) h
      · cases e8 with
        | true => exact (from_0e_m1_T v l d p ec hp he HS0 HE HR).mono fun _ _ h => fin (by rw [HV, he, if_neg (by omega)]; simp) h
        | false => exact (from_0e_m1_F v l d p ec hp he HS0 HE HR).mono fun _ _ h => fin (by rw [HV, he, if_neg (by omega)]; simp) h
      · by_cases hm : (n : Int) ≤ 999999999999
        · cases e8 with
          | true => exact (from_0e_ok_T v l d p ec n hhi hm hp he HS0 HE HR).mono fun _ _ h => fin (by rw [HV, he, if_pos (by omega)]; simp; omega) h
          | false => exact (from_0e_ok_F v l d p ec n hhi hm hp he HS0 HE HR).mono fun _ _ h => fin (by rw [HV, he, if_pos (by omega)]; simp; omega) h
        · have hm' : (999999999999 : Int) < n := by omega
          cases e8 with
          | true => exact (from_0e_big_T v l d p ec n hhi hm' hp he HS0 HE HR).mono fun _ _ h => fin (by rw [HV, he, if_pos (by omega)]; simp; omega) h
          | false => exact (from_0e_big_F v l d p ec n hhi hm' hp he HS0 HE HR).mono fun _ _ h => fin (by rw [HV, he, if_pos (by omega)]; simp; omega) h
    · rcases hz with hz | rfl | ⟨n, rfl⟩
      · cases e8 with
        | true => exact (from_0t_neg_T v l d p ec t ht z hz hp he HS0 HE HR).mono fun _ _ h => fin (by rw [HV, he, if_neg (by omega)]; simp [ht]) h
        | false => exact (from_0t_neg_F v l d p ec t ht z hz hp he HS0 HE HR).mono fun _ _ h => fin (by rw [HV, he, if_neg (by omega)]; simp [ht]) h
      · cases e8 with
        | true => exact (from_0t_m1_T v l d p ec t ht hp he HS0 HE HR).mono fun _ _ h => fin (by rw [HV, he, if_neg (by omega)]; simp [ht]) h
        | false => exact (from_0t_m1_F v l d p ec t ht hp he HS0 HE HR).mono fun _ _ h => fin (by rw [HV, he, if_neg (by omega)]; simp [ht]) h
      · cases e8 with
        | true => exact (from_0t_ok_T v l d p ec t ht n hhi hp he HS0 HE HR).mono fun _ _ h => fin (by rw [HV, he, if_pos (by omega)]; simp [ht]) h
        | false => exact (from_0t_ok_F v l d p ec t ht n hhi hp he HS0 HE HR).mono fun _ _ h => fin (by rw [HV, he, if_pos (by omega)]; simp [ht]) h
  · rcases hz with hz | rfl | ⟨n, rfl⟩
    · cases e8 with
      | true => exact (from_2t_neg_T v l d p ec t z hz hp he HS0 HE HR).mono fun _ _ h => fin (by rw [HV, he, if_neg (by omega)]; simp) h
      | false => exact (from_2t_neg_F v l d p ec t z hz hp he HS0 HE HR).mono fun _ _ h => fin (by rw [HV, he, if_neg (by omega)]; simp) h
    · cases e8 with
      | true => exact (from_2t_m1_T v l d p ec t hp he HS0 HE HR).mono fun _ _ h => fin (by rw [HV, he, if_neg (by omega)]; simp) h
      | false => exact (from_2t_m1_F v l d p ec t hp he HS0 HE HR).mono fun _ _ h => fin (by rw [HV, he, if_neg (by omega)]; simp) h
    · cases e8 with
      | true => exact (from_2t_ok_T v l d p ec t n hhi hp he HS0 HE HR).mono fun _ _ h => fin (by rw [HV, he, if_pos (by omega)]; simp) h
      | false => exact (from_2t_ok_F v l d p ec t n hhi hp he HS0 HE HR).mono fun _ _ h => fin (by rw [HV, he, if_pos (by omega)]; simp) h
end
end Go.Proofs.YtapenolbbofjkaaGreatDoor

/-! CmW7 -/
namespace Go.Proofs.YtapenolbbofjkaaGreatDoor
open Go.RowKit

section
variable {w0 w : World} {L : List Res} {v z : Int} {t l d : Bs} {e8 : Bool}
set_option maxRecDepth 100000 in
set_option maxHeartbeats 2000000 in
theorem beside_1 (S : Sp w0 [] w L) (E : Env w0) (F : CmFit ⟨1, t, (l, d), z, e8⟩) : Calls Tryz.prog 160 #[.agg #[.int .i64 1, .string ⟨t.toArray⟩, .string ⟨l.toArray⟩, .string ⟨d.toArray⟩, .int .i64 z, .bool e8]] w fun e w2 => e = .returned (.tuple #[.string ⟨(besideC ⟨1, t, (l, d), z, e8⟩).1.toArray⟩, .bool (besideC ⟨1, t, (l, d), z, e8⟩).2]) ∧ Sp w0 [] w2 L := by
  have HS0 := Lib.hid (S.box #[.int .i64 1, .string ⟨t.toArray⟩, .string ⟨l.toArray⟩, .string ⟨d.toArray⟩, .int .i64 z, .bool e8] 131)
  have HE := Lib.hid E
  have HF := Lib.hid F
  have HV : Hid (besideC ⟨1, t, (l, d), z, e8⟩ = greetC (⟨1, t, (l, d), z, e8⟩ : Cm)) := by unfold Hid besideC; simp
  clear S E F
  rw [HV.out]
  go_enter Tryz.func160, Tryz.ntmps160
  go_wp2_with fail
  refine (greetingS (⟨1, t, (l, d), z, e8⟩ : Cm) HS0.out HE.out HF.out.text).mono ?_
  rintro e w2 ⟨rfl, S2⟩
  have HS2 := Lib.hid S2
  clear S2
  go_wp2
  go_ret2
  exact ⟨rfl, HS2.out.drop⟩
set_option maxRecDepth 100000 in
set_option maxHeartbeats 2000000 in
theorem beside_2 (S : Sp w0 [] w L) (E : Env w0) (F : CmFit ⟨2, t, (l, d), z, e8⟩) : Calls Tryz.prog 160 #[.agg #[.int .i64 2, .string ⟨t.toArray⟩, .string ⟨l.toArray⟩, .string ⟨d.toArray⟩, .int .i64 z, .bool e8]] w fun e w2 => e = .returned (.tuple #[.string ⟨(besideC ⟨2, t, (l, d), z, e8⟩).1.toArray⟩, .bool (besideC ⟨2, t, (l, d), z, e8⟩).2]) ∧ Sp w0 [] w2 L := by
  have HS0 := Lib.hid (S.box #[.int .i64 2, .string ⟨t.toArray⟩, .string ⟨l.toArray⟩, .string ⟨d.toArray⟩, .int .i64 z, .bool e8] 131)
  have HE := Lib.hid E
  have HF := Lib.hid F
  have HV : Hid (besideC ⟨2, t, (l, d), z, e8⟩ = greetC (⟨2, t, (l, d), z, e8⟩ : Cm)) := by unfold Hid besideC; simp
  clear S E F
  rw [HV.out]
  go_enter Tryz.func160, Tryz.ntmps160
  go_wp2_with fail
  refine (greetingS (⟨2, t, (l, d), z, e8⟩ : Cm) HS0.out HE.out HF.out.text).mono ?_
  rintro e w2 ⟨rfl, S2⟩
  have HS2 := Lib.hid S2
  clear S2
  go_wp2
  go_ret2
  exact ⟨rfl, HS2.out.drop⟩
set_option maxRecDepth 100000 in
set_option maxHeartbeats 2000000 in
theorem beside_3 (S : Sp w0 [] w L) (E : Env w0) (F : CmFit ⟨3, t, (l, d), z, e8⟩) : Calls Tryz.prog 160 #[.agg #[.int .i64 3, .string ⟨t.toArray⟩, .string ⟨l.toArray⟩, .string ⟨d.toArray⟩, .int .i64 z, .bool e8]] w fun e w2 => e = .returned (.tuple #[.string ⟨(besideC ⟨3, t, (l, d), z, e8⟩).1.toArray⟩, .bool (besideC ⟨3, t, (l, d), z, e8⟩).2]) ∧ Sp w0 [] w2 L := by
  have HS0 := Lib.hid (S.box #[.int .i64 3, .string ⟨t.toArray⟩, .string ⟨l.toArray⟩, .string ⟨d.toArray⟩, .int .i64 z, .bool e8] 131)
  have HE := Lib.hid E
  have HF := Lib.hid F
  have HV : Hid (besideC ⟨3, t, (l, d), z, e8⟩ = fromC (⟨3, t, (l, d), z, e8⟩ : Cm)) := by unfold Hid besideC; simp
  clear S E F
  rw [HV.out]
  go_enter Tryz.func160, Tryz.ntmps160
  go_wp2_with fail
  refine (fromS (⟨3, t, (l, d), z, e8⟩ : Cm) HS0.out HE.out HF.out).mono ?_
  rintro e w2 ⟨rfl, S2⟩
  have HS2 := Lib.hid S2
  clear S2
  go_wp2
  go_ret2
  exact ⟨rfl, HS2.out.drop⟩
set_option maxRecDepth 100000 in
set_option maxHeartbeats 2000000 in
theorem beside_4 (S : Sp w0 [] w L) (E : Env w0) (F : CmFit ⟨4, t, (l, d), z, e8⟩) : Calls Tryz.prog 160 #[.agg #[.int .i64 4, .string ⟨t.toArray⟩, .string ⟨l.toArray⟩, .string ⟨d.toArray⟩, .int .i64 z, .bool e8]] w fun e w2 => e = .returned (.tuple #[.string ⟨(besideC ⟨4, t, (l, d), z, e8⟩).1.toArray⟩, .bool (besideC ⟨4, t, (l, d), z, e8⟩).2]) ∧ Sp w0 [] w2 L := by
  have HS0 := Lib.hid (S.box #[.int .i64 4, .string ⟨t.toArray⟩, .string ⟨l.toArray⟩, .string ⟨d.toArray⟩, .int .i64 z, .bool e8] 131)
  have HE := Lib.hid E
  have HF := Lib.hid F
  have HV : Hid (besideC ⟨4, t, (l, d), z, e8⟩ = toC (⟨4, t, (l, d), z, e8⟩ : Cm)) := by unfold Hid besideC; simp
  clear S E F
  rw [HV.out]
  go_enter Tryz.func160, Tryz.ntmps160
  go_wp2_with fail
  refine (toS (⟨4, t, (l, d), z, e8⟩ : Cm) HS0.out HE.out HF.out.loc HF.out.dom).mono ?_
  rintro e w2 ⟨rfl, S2⟩
  have HS2 := Lib.hid S2
  clear S2
  go_wp2
  go_ret2
  exact ⟨rfl, HS2.out.drop⟩
set_option maxRecDepth 100000 in
set_option maxHeartbeats 2000000 in
theorem beside_9 (S : Sp w0 [] w L) (E : Env w0) (F : CmFit ⟨9, t, (l, d), z, e8⟩) : Calls Tryz.prog 160 #[.agg #[.int .i64 9, .string ⟨t.toArray⟩, .string ⟨l.toArray⟩, .string ⟨d.toArray⟩, .int .i64 z, .bool e8]] w fun e w2 => e = .returned (.tuple #[.string ⟨(besideC ⟨9, t, (l, d), z, e8⟩).1.toArray⟩, .bool (besideC ⟨9, t, (l, d), z, e8⟩).2]) ∧ Sp w0 [] w2 L := by
  have HS0 := Lib.hid (S.box #[.int .i64 9, .string ⟨t.toArray⟩, .string ⟨l.toArray⟩, .string ⟨d.toArray⟩, .int .i64 z, .bool e8] 131)
  have HE := Lib.hid E
  have HF := Lib.hid F
  have HV : Hid (besideC ⟨9, t, (l, d), z, e8⟩ = (32 :: t, saidC (⟨9, t, (l, d), z, e8⟩ : Cm) && !(t == []))) := by unfold Hid besideC; simp
  clear S E F
  have a1 := add_str [32] t (by have : t.length ≤ 1000000 := HF.out.text; simp [maxLen]; omega)
  rw [HV.out]
  generalize hsd : saidC (⟨9, t, (l, d), z, e8⟩ : Cm) = sd
  have HSD := Lib.hid hsd
  clear hsd
  cases sd with
  | false =>
    go_enter Tryz.func160, Tryz.ntmps160
    go_wp2_with fail
    generalize w.alloc (.cells #[.int .i64 9, .string ⟨t.toArray⟩, .string ⟨l.toArray⟩, .string ⟨d.toArray⟩, .int .i64 z, .bool e8] 131) = w1 at *
    generalize w.heap.size = q at *
    refine wp_region_text (S := fun wx => Sp w0 [] wx (boxR q #[.int .i64 9, .string ⟨t.toArray⟩, .string ⟨l.toArray⟩, .string ⟨d.toArray⟩, .int .i64 z, .bool e8] 131 :: L) ∧ (∀ o, wx.cell? ⟨q, o, none⟩ = (#[.int .i64 9, .string ⟨t.toArray⟩, .string ⟨l.toArray⟩, .string ⟨d.toArray⟩, .int .i64 z, .bool e8])[o]?)) (by kernel_rfl) (by kernel_rfl) ⟨(HS0.out).drew, (Sp.pick [_] [0] (by decide) ((HS0.out).drew)).cell⟩ ?_
    repeat
      refine Exists.intro ?_ (And.intro (fun wS hS K hK => ?_) (And.intro ?_ ?_))
      rotate_left 1
      · obtain ⟨hS1, hS2⟩ := hS
        first
          | (refine if_unwanted rfl ?_; simp only [Act.put, List.setIfInBounds_toArray, List.set_cons_zero, List.set_cons_succ]; exact hK.out _ ⟨hS1, hS2⟩)
          | (refine if_wanted rfl ?_; go_simp; exact hK.out _ ⟨hS1, hS2⟩)
          | (refine if_wanted rfl ?_; go_simp; go_at_call 174; refine (saidS (⟨9, t, (l, d), z, e8⟩ : Cm) hS1 HF.out.text).mono ?_; rw [HSD.out]; rintro e w12 ⟨rfl, S12⟩; exact hK.out _ ⟨S12, (Sp.pick [_] [0] (by decide) (S12)).cell⟩)
      · rfl
    intro wE hE
    have HSE := Lib.hid hE.1
    clear hE
    go_wp2
    go_ret2
    exact ⟨by simp, HSE.out.drop⟩
  | true =>
    by_cases ht : t = []
    · have ht0 : t.isEmpty = true := by rw [ht]; rfl
      have HT := Lib.hid ht
      clear ht
      go_enter Tryz.func160, Tryz.ntmps160
      go_wp2_with fail
      generalize w.alloc (.cells #[.int .i64 9, .string ⟨t.toArray⟩, .string ⟨l.toArray⟩, .string ⟨d.toArray⟩, .int .i64 z, .bool e8] 131) = w1 at *
      generalize w.heap.size = q at *
      refine wp_region_text (S := fun wx => Sp w0 [] wx (boxR q #[.int .i64 9, .string ⟨t.toArray⟩, .string ⟨l.toArray⟩, .string ⟨d.toArray⟩, .int .i64 z, .bool e8] 131 :: L) ∧ (∀ o, wx.cell? ⟨q, o, none⟩ = (#[.int .i64 9, .string ⟨t.toArray⟩, .string ⟨l.toArray⟩, .string ⟨d.toArray⟩, .int .i64 z, .bool e8])[o]?)) (by kernel_rfl) (by kernel_rfl) ⟨(HS0.out).drew, (Sp.pick [_] [0] (by decide) ((HS0.out).drew)).cell⟩ ?_
      repeat
        refine Exists.intro ?_ (And.intro (fun wS hS K hK => ?_) (And.intro ?_ ?_))
        rotate_left 1
        · obtain ⟨hS1, hS2⟩ := hS
          first
            | (refine if_unwanted rfl ?_; simp only [Act.put, List.setIfInBounds_toArray, List.set_cons_zero, List.set_cons_succ]; exact hK.out _ ⟨hS1, hS2⟩)
            | (refine if_wanted rfl ?_; go_simp; exact hK.out _ ⟨hS1, hS2⟩)
            | (refine if_wanted rfl ?_; go_simp; go_at_call 174; refine (saidS (⟨9, t, (l, d), z, e8⟩ : Cm) hS1 HF.out.text).mono ?_; rw [HSD.out]; rintro e w12 ⟨rfl, S12⟩; exact hK.out _ ⟨S12, (Sp.pick [_] [0] (by decide) (S12)).cell⟩)
        · rfl
      intro wE hE
      have HSE := Lib.hid hE.1
      clear hE
      go_wp2
      go_ret2
      exact ⟨by simp [HT.out], HSE.out.drop⟩
    · have ht0 : t.isEmpty = false := by simpa using ht
      have HT := Lib.hid ht
      clear ht
      go_enter Tryz.func160, Tryz.ntmps160
      go_wp2_with fail
      generalize w.alloc (.cells #[.int .i64 9, .string ⟨t.toArray⟩, .string ⟨l.toArray⟩, .string ⟨d.toArray⟩, .int .i64 z, .bool e8] 131) = w1 at *
      generalize w.heap.size = q at *
      refine wp_region_text (S := fun wx => Sp w0 [] wx (boxR q #[.int .i64 9, .string ⟨t.toArray⟩, .string ⟨l.toArray⟩, .string ⟨d.toArray⟩, .int .i64 z, .bool e8] 131 :: L) ∧ (∀ o, wx.cell? ⟨q, o, none⟩ = (#[.int .i64 9, .string ⟨t.toArray⟩, .string ⟨l.toArray⟩, .string ⟨d.toArray⟩, .int .i64 z, .bool e8])[o]?)) (by kernel_rfl) (by kernel_rfl) ⟨(HS0.out).drew, (Sp.pick [_] [0] (by decide) ((HS0.out).drew)).cell⟩ ?_
      repeat
        refine Exists.intro ?_ (And.intro (fun wS hS K hK => ?_) (And.intro ?_ ?_))
        rotate_left 1
        · obtain ⟨hS1, hS2⟩ := hS
          first
            | (refine if_unwanted rfl ?_; simp only [Act.put, List.setIfInBounds_toArray, List.set_cons_zero, List.set_cons_succ]; exact hK.out _ ⟨hS1, hS2⟩)
            | (refine if_wanted rfl ?_; go_simp; exact hK.out _ ⟨hS1, hS2⟩)
            | (refine if_wanted rfl ?_; go_simp; go_at_call 174; refine (saidS (⟨9, t, (l, d), z, e8⟩ : Cm) hS1 HF.out.text).mono ?_; rw [HSD.out]; rintro e w12 ⟨rfl, S12⟩; exact hK.out _ ⟨S12, (Sp.pick [_] [0] (by decide) (S12)).cell⟩)
        · rfl
      intro wE hE
      have HSE := Lib.hid hE.1
      clear hE
      go_wp2
      go_ret2
      exact ⟨by simp [HT.out], HSE.out.drop⟩
set_option maxRecDepth 100000 in
set_option maxHeartbeats 2000000 in
theorem beside_7e (S : Sp w0 [] w L) (E : Env w0) (F : CmFit ⟨7, [], (l, d), z, e8⟩) : Calls Tryz.prog 160 #[.agg #[.int .i64 7, .string ⟨#[]⟩, .string ⟨l.toArray⟩, .string ⟨d.toArray⟩, .int .i64 z, .bool e8]] w fun e w2 => e = .returned (.tuple #[.string ⟨(besideC ⟨7, [], (l, d), z, e8⟩).1.toArray⟩, .bool (besideC ⟨7, [], (l, d), z, e8⟩).2]) ∧ Sp w0 [] w2 L := by
  have HS0 := Lib.hid (S.box #[.int .i64 7, .string ⟨#[]⟩, .string ⟨l.toArray⟩, .string ⟨d.toArray⟩, .int .i64 z, .bool e8] 131)
  have HE := Lib.hid E
  have HF := Lib.hid F
  have HV : Hid (besideC ⟨7, [], (l, d), z, e8⟩ = ([], bareC (⟨7, [], (l, d), z, e8⟩ : Cm))) := by unfold Hid besideC; simp
  clear S E F
  rw [HV.out]
  go_enter Tryz.func160, Tryz.ntmps160
  go_wp2_with fail
  refine (bareS (⟨7, [], (l, d), z, e8⟩ : Cm) HS0.out).mono ?_
  rintro e w2 ⟨rfl, S2⟩
  have HS2 := Lib.hid S2
  clear S2
  go_wp2
  go_ret2
  exact ⟨rfl, HS2.out.drop⟩
set_option maxRecDepth 100000 in
set_option maxHeartbeats 2000000 in
theorem beside_7t (S : Sp w0 [] w L) (E : Env w0) (F : CmFit ⟨7, t, (l, d), z, e8⟩) (ht : ¬ t = []) : Calls Tryz.prog 160 #[.agg #[.int .i64 7, .string ⟨t.toArray⟩, .string ⟨l.toArray⟩, .string ⟨d.toArray⟩, .int .i64 z, .bool e8]] w fun e w2 => e = .returned (.tuple #[.string ⟨(besideC ⟨7, t, (l, d), z, e8⟩).1.toArray⟩, .bool (besideC ⟨7, t, (l, d), z, e8⟩).2]) ∧ Sp w0 [] w2 L := by
  have HS0 := Lib.hid (S.box #[.int .i64 7, .string ⟨t.toArray⟩, .string ⟨l.toArray⟩, .string ⟨d.toArray⟩, .int .i64 z, .bool e8] 131)
  have HE := Lib.hid E
  have HF := Lib.hid F
  have HV : Hid (besideC ⟨7, t, (l, d), z, e8⟩ = (32 :: t, saidC (⟨7, t, (l, d), z, e8⟩ : Cm))) := by unfold Hid besideC; simp [ht]
  clear S E F
  have a1 := add_str [32] t (by have : t.length ≤ 1000000 := HF.out.text; simp [maxLen]; omega)
  have ht0 : t.isEmpty = false := by simpa using ht
  clear ht
  rw [HV.out]
  go_enter Tryz.func160, Tryz.ntmps160
  go_wp2_with fail
  generalize w.alloc (.cells #[.int .i64 7, .string ⟨t.toArray⟩, .string ⟨l.toArray⟩, .string ⟨d.toArray⟩, .int .i64 z, .bool e8] 131) = w1 at *
  generalize w.heap.size = q at *
  refine wp_region_text (S := fun wx => Sp w0 [] wx (boxR q #[.int .i64 7, .string ⟨t.toArray⟩, .string ⟨l.toArray⟩, .string ⟨d.toArray⟩, .int .i64 z, .bool e8] 131 :: L) ∧ (∀ o, wx.cell? ⟨q, o, none⟩ = (#[.int .i64 7, .string ⟨t.toArray⟩, .string ⟨l.toArray⟩, .string ⟨d.toArray⟩, .int .i64 z, .bool e8])[o]?)) (by kernel_rfl) (by kernel_rfl) ⟨(HS0.out).drew, (Sp.pick [_] [0] (by decide) ((HS0.out).drew)).cell⟩ ?_
  repeat
    refine Exists.intro ?_ (And.intro (fun wS hS K hK => ?_) (And.intro ?_ ?_))
    rotate_left 1
    · obtain ⟨hS1, hS2⟩ := hS
      first
        | (refine if_unwanted rfl ?_; simp only [Act.put, List.setIfInBounds_toArray, List.set_cons_zero, List.set_cons_succ]; exact hK.out _ ⟨hS1, hS2⟩)
        | (refine if_wanted rfl ?_; go_simp; exact hK.out _ ⟨hS1, hS2⟩)
        | (refine if_wanted rfl ?_; go_simp; go_at_call 174; refine (saidS (⟨7, t, (l, d), z, e8⟩ : Cm) hS1 HF.out.text).mono ?_; rintro e w12 ⟨rfl, S12⟩; exact hK.out _ ⟨S12, (Sp.pick [_] [0] (by decide) (S12)).cell⟩)
    · rfl
  intro wE hE
  have HSE := Lib.hid hE.1
  clear hE
  go_wp2
  go_ret2
  exact ⟨by simp, HSE.out.drop⟩
set_option maxRecDepth 100000 in
set_option maxHeartbeats 2000000 in
theorem beside_o (S : Sp w0 [] w L) (E : Env w0) (F : CmFit ⟨v, t, (l, d), z, e8⟩) (h1 : ¬ v = 1) (h2 : ¬ v = 2) (h3 : ¬ v = 3) (h4 : ¬ v = 4) (h9 : ¬ v = 9) (h7 : ¬ v = 7) : Calls Tryz.prog 160 #[.agg #[.int .i64 v, .string ⟨t.toArray⟩, .string ⟨l.toArray⟩, .string ⟨d.toArray⟩, .int .i64 z, .bool e8]] w fun e w2 => e = .returned (.tuple #[.string ⟨(besideC ⟨v, t, (l, d), z, e8⟩).1.toArray⟩, .bool (besideC ⟨v, t, (l, d), z, e8⟩).2]) ∧ Sp w0 [] w2 L := by
  have HS0 := Lib.hid (S.box #[.int .i64 v, .string ⟨t.toArray⟩, .string ⟨l.toArray⟩, .string ⟨d.toArray⟩, .int .i64 z, .bool e8] 131)
  have HE := Lib.hid E
  have HF := Lib.hid F
  have HV : Hid (besideC ⟨v, t, (l, d), z, e8⟩ = ([], bareC (⟨v, t, (l, d), z, e8⟩ : Cm))) := by unfold Hid besideC; simp [*]
  clear S E F
  rw [HV.out]
  go_enter Tryz.func160, Tryz.ntmps160
  go_wp2_with fail
  refine (bareS (⟨v, t, (l, d), z, e8⟩ : Cm) HS0.out).mono ?_
  rintro e w2 ⟨rfl, S2⟩
  have HS2 := Lib.hid S2
  clear S2
  go_wp2
  go_ret2
  exact ⟨rfl, HS2.out.drop⟩
theorem besideS (c : Cm) (S : Sp w0 [] w L) (E : Env w0) (F : CmFit c) : Calls Tryz.prog 160 #[cmAgg c] w fun e w2 => e = .returned (.tuple #[.string ⟨(besideC c).1.toArray⟩, .bool (besideC c).2]) ∧ Sp w0 [] w2 L := by
  obtain ⟨v, t, ⟨l, d⟩, z, e8⟩ := c
  unfold cmAgg
  dsimp only
  by_cases h1 : v = 1
  · subst h1; exact beside_1 S E F
  by_cases h2 : v = 2
  · subst h2; exact beside_2 S E F
  by_cases h3 : v = 3
  · subst h3; exact beside_3 S E F
  by_cases h4 : v = 4
  · subst h4; exact beside_4 S E F
  by_cases h9 : v = 9
  · subst h9; exact beside_9 S E F
  by_cases h7 : v = 7
  · subst h7
    by_cases ht : t = []
    · subst ht; exact beside_7e S E F
    · exact beside_7t S E F ht
  · exact beside_o S E F h1 h2 h3 h4 h9 h7
end
end Go.Proofs.YtapenolbbofjkaaGreatDoor

/-! CmW8 -/
namespace Go.Proofs.YtapenolbbofjkaaGreatDoor
open Go.RowKit

section
variable {w0 w : World} {L : List Res}
def verbVals : Array Value := #[.string ⟨#[]⟩, .string ⟨#[72, 69, 76, 79]⟩, .string ⟨#[69, 72, 76, 79]⟩, .string ⟨#[77, 65, 73, 76]⟩, .string ⟨#[82, 67, 80, 84]⟩, .string ⟨#[68, 65, 84, 65]⟩, .string ⟨#[82, 83, 69, 84]⟩, .string ⟨#[78, 79, 79, 80]⟩, .string ⟨#[81, 85, 73, 84]⟩, .string ⟨#[86, 82, 70, 89]⟩]
set_option maxRecDepth 100000 in
set_option maxHeartbeats 1000000 in
theorem verbsS (S : Sp w0 [] w L) : Calls Tryz.prog 118 #[] w fun e w2 => e = .returned (.agg verbVals) ∧ Sp w0 [] w2 L := by
  have HS := Lib.hid S
  clear S
  go_enter Tryz.func118, Tryz.ntmps118
  go_wp2
  exact bodyPost_ret (v := .agg verbVals) (by simp [results, Tryz.results118, go_sem, verbVals]) rfl ⟨rfl, HS.out.new _⟩
theorem verbAt1 (w : World) : (Instr.index 151 (.agg verbVals) (.int .i64 1)).run Tryz.prog w = .ok (.string ⟨#[72, 69, 76, 79]⟩) w := by kernel_rfl
theorem verbAt2 (w : World) : (Instr.index 151 (.agg verbVals) (.int .i64 2)).run Tryz.prog w = .ok (.string ⟨#[69, 72, 76, 79]⟩) w := by kernel_rfl
theorem verbAt3 (w : World) : (Instr.index 151 (.agg verbVals) (.int .i64 3)).run Tryz.prog w = .ok (.string ⟨#[77, 65, 73, 76]⟩) w := by kernel_rfl
theorem verbAt4 (w : World) : (Instr.index 151 (.agg verbVals) (.int .i64 4)).run Tryz.prog w = .ok (.string ⟨#[82, 67, 80, 84]⟩) w := by kernel_rfl
theorem verbAt5 (w : World) : (Instr.index 151 (.agg verbVals) (.int .i64 5)).run Tryz.prog w = .ok (.string ⟨#[68, 65, 84, 65]⟩) w := by kernel_rfl
theorem verbAt6 (w : World) : (Instr.index 151 (.agg verbVals) (.int .i64 6)).run Tryz.prog w = .ok (.string ⟨#[82, 83, 69, 84]⟩) w := by kernel_rfl
theorem verbAt7 (w : World) : (Instr.index 151 (.agg verbVals) (.int .i64 7)).run Tryz.prog w = .ok (.string ⟨#[78, 79, 79, 80]⟩) w := by kernel_rfl
theorem verbAt8 (w : World) : (Instr.index 151 (.agg verbVals) (.int .i64 8)).run Tryz.prog w = .ok (.string ⟨#[81, 85, 73, 84]⟩) w := by kernel_rfl
theorem verbAt9 (w : World) : (Instr.index 151 (.agg verbVals) (.int .i64 9)).run Tryz.prog w = .ok (.string ⟨#[86, 82, 70, 89]⟩) w := by kernel_rfl
theorem verbAt (v : Int) (h0 : 1 ≤ v) (h1 : v ≤ 9) (w : World) : (Instr.index 151 (.agg verbVals) (.int .i64 v)).run Tryz.prog w = .ok (.string ⟨((verbWs[v.toNat]?).getD []).toArray⟩) w := by
  have : v = 1 ∨ v = 2 ∨ v = 3 ∨ v = 4 ∨ v = 5 ∨ v = 6 ∨ v = 7 ∨ v = 8 ∨ v = 9 := by omega
  rcases this with rfl | rfl | rfl | rfl | rfl | rfl | rfl | rfl | rfl
  · exact verbAt1 w
  · exact verbAt2 w
  · exact verbAt3 w
  · exact verbAt4 w
  · exact verbAt5 w
  · exact verbAt6 w
  · exact verbAt7 w
  · exact verbAt8 w
  · exact verbAt9 w
theorem verb_len (v : Int) : ((verbWs[v.toNat]?).getD []).length ≤ 4 := by
  have : ∀ n : Nat, ((verbWs[n]?).getD []).length ≤ 4 := fun n => by
    by_cases h : n < 10
    · have : ∀ k : Fin 10, ((verbWs[k.val]?).getD []).length ≤ 4 := by decide +kernel
      exact this ⟨n, h⟩
    · rw [List.getElem?_eq_none (by simp [verbWs]; omega)]
      simp
  exact this _
theorem beside_len (c : Cm) (F : CmFit c) : (besideC c).1.length ≤ 5000000 := by
  have h1 := mbPath_len c.box F.loc F.dom
  have h2 := F.text
  have h3 : 0 ≤ c.size → (Lib.decDigits c.size.toNat).length ≤ 20 := fun h => dec_len20 (by have := F.hi; omega)
  unfold besideC greetC fromC toC
  repeat' split
  all_goals first
    | (simp; done)
    | (simp only [List.length_cons, List.length_append, List.length_nil, fromW, sizeW, bodyW, toW]; omega)
    | (rename_i hz; have := h3 (by assumption); simp only [List.length_cons, List.length_append, List.length_nil, fromW, sizeW, bodyW, toW]; omega)
set_option maxRecDepth 100000 in
set_option maxHeartbeats 2000000 in
theorem cmWriteS (c : Cm) (S : Sp w0 [] w L) (E : Env w0) (F : CmFit c) : Calls Tryz.prog 147 #[cmAgg c] w fun e w2 => e = .returned (.tuple #[.string ⟨(cmWrite c).1.toArray⟩, .int .i64 (cmWrite c).2]) ∧ Sp w0 [] w2 L := by
  have HS0 := Lib.hid (S.box (cmCells c) 131)
  have HE := Lib.hid E
  have HF := Lib.hid F
  have hbl := beside_len c F
  have HV : Hid (cmWrite c = if c.verb < 1 ∨ 9 < c.verb then ([], 1) else if (besideC c).2 then ((verbWs[c.verb.toNat]?).getD [] ++ (besideC c).1, 0) else ([], 2)) := rfl
  have HB := Lib.hid (besideS c HS0.out HE.out HF.out)
  have hvl := verb_len c.verb
  obtain ⟨v, t, ⟨l, d⟩, z, e8⟩ := c
  unfold cmAgg at *
  unfold cmCells at *
  dsimp only at *
  generalize besideC ⟨v, t, (l, d), z, e8⟩ = q0 at *
  obtain ⟨s, ok⟩ := q0
  dsimp only at *
  clear S E F
  by_cases hv : v < 1 ∨ 9 < v
  · have HV2 : Hid (cmWrite ⟨v, t, (l, d), z, e8⟩ = ([], 1)) := by unfold Hid; rw [HV.out, if_pos hv]
    rcases hv with hv | hv
    · go_enter Tryz.func147, Tryz.ntmps147
      go_wp2
      go_ret2
      rw [HV2.out]
      exact ⟨rfl, HS0.out.drop⟩
    · have hv1 : 1 ≤ v := by omega
      go_enter Tryz.func147, Tryz.ntmps147
      go_wp2
      go_ret2
      rw [HV2.out]
      exact ⟨rfl, HS0.out.drop⟩
  have hv1 : 1 ≤ v := by omega
  have hv9 : v ≤ 9 := by omega
  have hix := verbAt v hv1 hv9
  have a1 := add_str ((verbWs[v.toNat]?).getD []) s (by simp [maxLen]; omega)
  have HV1 : Hid (cmWrite ⟨v, t, (l, d), z, e8⟩ = if ok then ((verbWs[v.toNat]?).getD [] ++ s, 0) else ([], 2)) := by unfold Hid; rw [HV.out, if_neg hv]
  generalize (verbWs[v.toNat]?).getD [] = vw at *
  clear hv hbl hvl
  cases ok with
  | false =>
    go_enter Tryz.func147, Tryz.ntmps147
    go_wp2_with fail
    refine HB.out.mono ?_
    rintro e w2 ⟨rfl, S2⟩
    have HS2 := Lib.hid S2
    clear S2
    go_wp2
    go_ret2
    rw [HV1.out]
    exact ⟨rfl, HS2.out.drop⟩
  | true =>
    go_enter Tryz.func147, Tryz.ntmps147
    go_wp2_with fail
    refine HB.out.mono ?_
    generalize w.alloc (.cells #[.int .i64 v, .string ⟨t.toArray⟩, .string ⟨l.toArray⟩, .string ⟨d.toArray⟩, .int .i64 z, .bool e8] 131) = w1 at *
    generalize w.heap.size = q at *
    rintro e w2 ⟨rfl, S2⟩
    have HS2 := Lib.hid S2
    clear S2
    go_wp2_with fail
    refine wp_region_text (S := fun wx => Sp w0 [] wx (boxR q #[.int .i64 v, .string ⟨t.toArray⟩, .string ⟨l.toArray⟩, .string ⟨d.toArray⟩, .int .i64 z, .bool e8] 131 :: L) ∧ (∀ o, wx.cell? ⟨q, o, none⟩ = (#[.int .i64 v, .string ⟨t.toArray⟩, .string ⟨l.toArray⟩, .string ⟨d.toArray⟩, .int .i64 z, .bool e8])[o]?)) (by kernel_rfl) (by kernel_rfl) ⟨(HS2.out).drew, (Sp.pick [_] [0] (by decide) ((HS2.out).drew)).cell⟩ ?_
    repeat
      refine Exists.intro ?_ (And.intro (fun wS hS K hK => ?_) (And.intro ?_ ?_))
      rotate_left 1
      · obtain ⟨hS1, hS2⟩ := hS
        first
          | (refine if_unwanted rfl ?_; simp only [Act.put, List.setIfInBounds_toArray, List.set_cons_zero, List.set_cons_succ]; exact hK.out _ ⟨hS1, hS2⟩)
          | (refine if_wanted rfl ?_; go_simp; exact hK.out _ ⟨hS1, hS2⟩)
          | (refine if_wanted rfl ?_; go_simp; go_at_call 118; refine (verbsS hS1).mono ?_; rintro e w12 ⟨rfl, S12⟩; exact hK.out _ ⟨S12, (Sp.pick [_] [0] (by decide) (S12)).cell⟩)
      · rfl
    intro wE hE
    have HSE := Lib.hid hE.1
    clear hE
    go_wp2
    go_ret2
    rw [HV1.out]
    exact ⟨rfl, HSE.out.drop⟩
end
end Go.Proofs.YtapenolbbofjkaaGreatDoor
