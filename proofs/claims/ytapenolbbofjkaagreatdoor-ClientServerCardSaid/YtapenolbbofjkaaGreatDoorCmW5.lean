/- cmd: from. Conditions: the lengths fit; what Go's variables hold. -/
import Derived.Test.YtapenolbbofjkaaGreatDoorCmW
set_option linter.unusedSimpArgs false
set_option linter.unusedVariables false
set_option linter.unnecessarySimpa false
namespace Go.Proofs.YtapenolbbofjkaaGreatDoor
open Go.RowKit

section
variable {w0 w : World} {L : List Res}
theorem itoa_nat (n : Nat) : Lib.itoa (n : Int) = Lib.decDigits n := by
  unfold Lib.itoa
  rw [if_neg (by omega), Int.toNat_natCast]
theorem formatS (n : Nat) (hn : (n : Int) ≤ 9223372036854775807) (S : Sp w0 [] w L) (E : Env w0) : Calls Tryz.prog 184 #[.int .i64 n, .int .i64 10] w fun e w2 => e = .returned (.string ⟨(Lib.decDigits n).toArray⟩) ∧ Sp w0 [] w2 L :=
  (Tryz.strconv_FormatInt_10 n (by omega) hn w (E.sp S).tab).mono fun _ _ ⟨he, hg⟩ => ⟨by rw [he, itoa_nat], S.ext0 (Grown.ext hg)⟩
theorem dec_len20 {n : Nat} (h : (n : Int) ≤ 9223372036854775807) : (Lib.decDigits n).length ≤ 20 := by
  rw [Lib.decDigits_length]
  exact nDig_le (by decide) (by omega)
theorem joined (a b s : Bs) (hs : s = a ++ b) (h : a.length + b.length ≤ maxLen) : ∀ W, (Op.stringOp .add ⟨a.toArray⟩ ⟨b.toArray⟩).run Tryz.prog W = .ok (.string ⟨s.toArray⟩) W := by
  subst hs
  exact fun W => add_str a b h W
set_option maxRecDepth 100000 in
set_option maxHeartbeats 2000000 in
theorem from_0e_neg_T (v : Int) (l d p : Bs) (ec : Int) (z : Int) (hz : z < -1) (hp : p.length ≤ 3000005) (hec : ec = 0) (HS0 : Hid (Sp w0 [] (w.alloc (.cells #[.int .i64 v, .string ⟨#[]⟩, .string ⟨l.toArray⟩, .string ⟨d.toArray⟩, .int .i64 z, .bool true] 131)) (boxR w.heap.size #[.int .i64 v, .string ⟨#[]⟩, .string ⟨l.toArray⟩, .string ⟨d.toArray⟩, .int .i64 z, .bool true] 131 :: L))) (HE : Hid (Env w0))
    (HR : Hid (Calls Tryz.prog 183 #[.agg #[.string ⟨l.toArray⟩, .string ⟨d.toArray⟩]] (w.alloc (.cells #[.int .i64 v, .string ⟨#[]⟩, .string ⟨l.toArray⟩, .string ⟨d.toArray⟩, .int .i64 z, .bool true] 131)) fun e w2 => e = .returned (.tuple #[.string ⟨p.toArray⟩, .int .i64 ec]) ∧ Sp w0 [] w2 (boxR w.heap.size #[.int .i64 v, .string ⟨#[]⟩, .string ⟨l.toArray⟩, .string ⟨d.toArray⟩, .int .i64 z, .bool true] 131 :: L))) :
    Calls Tryz.prog 172 #[.agg #[.int .i64 v, .string ⟨#[]⟩, .string ⟨l.toArray⟩, .string ⟨d.toArray⟩, .int .i64 z, .bool true]] w fun e w2 => e = .returned (.tuple #[.string ⟨(fromW ++ p ++ bodyW).toArray⟩, .bool false]) ∧ Sp w0 [] w2 L := by
  subst hec
  obtain ⟨s1, hs1⟩ : ∃ s1, s1 = fromW ++ p := ⟨_, rfl⟩
  have hl1 : s1.length ≤ 3000011 := by rw [hs1]; simp [fromW]; omega
  have a1 := joined fromW p s1 hs1 (by simp [maxLen, fromW]; omega)
  unfold fromW at a1
  have H1 := Lib.hid hs1
  clear hs1
  obtain ⟨s4, hs4⟩ : ∃ s4, s4 = s1 ++ bodyW := ⟨_, rfl⟩
  have a4 := joined s1 bodyW s4 hs4 (by simp [maxLen, bodyW]; omega)
  unfold bodyW at a4
  have H4 := Lib.hid hs4
  clear hs4
  have HFIN : Hid (fromW ++ p ++ bodyW = s4) := by
    unfold Hid
    rw [← H1.out, ← H4.out]
  have z1 : decide ((-1 : Int) ≤ z) = false := by simp <;> omega
  have z0 : decide ((0 : Int) ≤ z) = false := by simp <;> omega
  clear hp
  go_enter Tryz.func172, Tryz.ntmps172
  go_wp2_with fail
  refine HR.out.mono ?_
  generalize w.alloc (.cells #[.int .i64 v, .string ⟨#[]⟩, .string ⟨l.toArray⟩, .string ⟨d.toArray⟩, .int .i64 z, .bool true] 131) = w1 at *
  generalize w.heap.size = q at *
  rintro e w2 ⟨rfl, S2⟩
  have HS2 := Lib.hid S2
  have c2 := S2.cell
  clear S2 HR HS0
  go_wp2_with fail
  clear c2
  refine wp_region_text (S := fun wx => Sp w0 [] wx (boxR q #[.int .i64 v, .string ⟨#[]⟩, .string ⟨l.toArray⟩, .string ⟨d.toArray⟩, .int .i64 z, .bool true] 131 :: L) ∧ (∀ o, wx.cell? ⟨q, o, none⟩ = (#[.int .i64 v, .string ⟨#[]⟩, .string ⟨l.toArray⟩, .string ⟨d.toArray⟩, .int .i64 z, .bool true])[o]?)) (by kernel_rfl) (by kernel_rfl) ⟨(HS2.out).drew, (Sp.pick [_] [0] (by decide) ((HS2.out).drew)).cell⟩ ?_
  repeat
    refine Exists.intro ?_ (And.intro (fun wS hS K hK => ?_) (And.intro ?_ ?_))
    rotate_left 1
    · obtain ⟨hS1, hS2⟩ := hS
      first
        | (refine if_unwanted rfl ?_; simp only [Act.put, List.setIfInBounds_toArray, List.set_cons_zero, List.set_cons_succ]; exact hK.out _ ⟨hS1, hS2⟩)
        | (refine if_wanted rfl ?_; go_simp; exact hK.out _ ⟨hS1, hS2⟩)
    · rfl
  intro wE hE
  have HSE := Lib.hid hE.1
  clear hE
  go_wp2
  go_ret2
  rw [HFIN.out]
  exact ⟨rfl, HSE.out.drop⟩
set_option maxRecDepth 100000 in
set_option maxHeartbeats 2000000 in
theorem from_0e_neg_F (v : Int) (l d p : Bs) (ec : Int) (z : Int) (hz : z < -1) (hp : p.length ≤ 3000005) (hec : ec = 0) (HS0 : Hid (Sp w0 [] (w.alloc (.cells #[.int .i64 v, .string ⟨#[]⟩, .string ⟨l.toArray⟩, .string ⟨d.toArray⟩, .int .i64 z, .bool false] 131)) (boxR w.heap.size #[.int .i64 v, .string ⟨#[]⟩, .string ⟨l.toArray⟩, .string ⟨d.toArray⟩, .int .i64 z, .bool false] 131 :: L))) (HE : Hid (Env w0))
    (HR : Hid (Calls Tryz.prog 183 #[.agg #[.string ⟨l.toArray⟩, .string ⟨d.toArray⟩]] (w.alloc (.cells #[.int .i64 v, .string ⟨#[]⟩, .string ⟨l.toArray⟩, .string ⟨d.toArray⟩, .int .i64 z, .bool false] 131)) fun e w2 => e = .returned (.tuple #[.string ⟨p.toArray⟩, .int .i64 ec]) ∧ Sp w0 [] w2 (boxR w.heap.size #[.int .i64 v, .string ⟨#[]⟩, .string ⟨l.toArray⟩, .string ⟨d.toArray⟩, .int .i64 z, .bool false] 131 :: L))) :
    Calls Tryz.prog 172 #[.agg #[.int .i64 v, .string ⟨#[]⟩, .string ⟨l.toArray⟩, .string ⟨d.toArray⟩, .int .i64 z, .bool false]] w fun e w2 => e = .returned (.tuple #[.string ⟨(fromW ++ p).toArray⟩, .bool false]) ∧ Sp w0 [] w2 L := by
  subst hec
  obtain ⟨s1, hs1⟩ : ∃ s1, s1 = fromW ++ p := ⟨_, rfl⟩
  have hl1 : s1.length ≤ 3000011 := by rw [hs1]; simp [fromW]; omega
  have a1 := joined fromW p s1 hs1 (by simp [maxLen, fromW]; omega)
  unfold fromW at a1
  have H1 := Lib.hid hs1
  clear hs1
  have HFIN : Hid (fromW ++ p = s1) := by
    unfold Hid
    rw [← H1.out]
  have z1 : decide ((-1 : Int) ≤ z) = false := by simp <;> omega
  have z0 : decide ((0 : Int) ≤ z) = false := by simp <;> omega
  clear hp
  go_enter Tryz.func172, Tryz.ntmps172
  go_wp2_with fail
  refine HR.out.mono ?_
  generalize w.alloc (.cells #[.int .i64 v, .string ⟨#[]⟩, .string ⟨l.toArray⟩, .string ⟨d.toArray⟩, .int .i64 z, .bool false] 131) = w1 at *
  generalize w.heap.size = q at *
  rintro e w2 ⟨rfl, S2⟩
  have HS2 := Lib.hid S2
  have c2 := S2.cell
  clear S2 HR HS0
  go_wp2_with fail
  clear c2
  refine wp_region_text (S := fun wx => Sp w0 [] wx (boxR q #[.int .i64 v, .string ⟨#[]⟩, .string ⟨l.toArray⟩, .string ⟨d.toArray⟩, .int .i64 z, .bool false] 131 :: L) ∧ (∀ o, wx.cell? ⟨q, o, none⟩ = (#[.int .i64 v, .string ⟨#[]⟩, .string ⟨l.toArray⟩, .string ⟨d.toArray⟩, .int .i64 z, .bool false])[o]?)) (by kernel_rfl) (by kernel_rfl) ⟨(HS2.out).drew, (Sp.pick [_] [0] (by decide) ((HS2.out).drew)).cell⟩ ?_
  repeat
    refine Exists.intro ?_ (And.intro (fun wS hS K hK => ?_) (And.intro ?_ ?_))
    rotate_left 1
    · obtain ⟨hS1, hS2⟩ := hS
      first
        | (refine if_unwanted rfl ?_; simp only [Act.put, List.setIfInBounds_toArray, List.set_cons_zero, List.set_cons_succ]; exact hK.out _ ⟨hS1, hS2⟩)
        | (refine if_wanted rfl ?_; go_simp; exact hK.out _ ⟨hS1, hS2⟩)
    · rfl
  intro wE hE
  have HSE := Lib.hid hE.1
  clear hE
  go_wp2
  go_ret2
  rw [HFIN.out]
  exact ⟨rfl, HSE.out.drop⟩
set_option maxRecDepth 100000 in
set_option maxHeartbeats 2000000 in
theorem from_0e_m1_T (v : Int) (l d p : Bs) (ec : Int) (hp : p.length ≤ 3000005) (hec : ec = 0) (HS0 : Hid (Sp w0 [] (w.alloc (.cells #[.int .i64 v, .string ⟨#[]⟩, .string ⟨l.toArray⟩, .string ⟨d.toArray⟩, .int .i64 (-1), .bool true] 131)) (boxR w.heap.size #[.int .i64 v, .string ⟨#[]⟩, .string ⟨l.toArray⟩, .string ⟨d.toArray⟩, .int .i64 (-1), .bool true] 131 :: L))) (HE : Hid (Env w0))
    (HR : Hid (Calls Tryz.prog 183 #[.agg #[.string ⟨l.toArray⟩, .string ⟨d.toArray⟩]] (w.alloc (.cells #[.int .i64 v, .string ⟨#[]⟩, .string ⟨l.toArray⟩, .string ⟨d.toArray⟩, .int .i64 (-1), .bool true] 131)) fun e w2 => e = .returned (.tuple #[.string ⟨p.toArray⟩, .int .i64 ec]) ∧ Sp w0 [] w2 (boxR w.heap.size #[.int .i64 v, .string ⟨#[]⟩, .string ⟨l.toArray⟩, .string ⟨d.toArray⟩, .int .i64 (-1), .bool true] 131 :: L))) :
    Calls Tryz.prog 172 #[.agg #[.int .i64 v, .string ⟨#[]⟩, .string ⟨l.toArray⟩, .string ⟨d.toArray⟩, .int .i64 (-1), .bool true]] w fun e w2 => e = .returned (.tuple #[.string ⟨(fromW ++ p ++ bodyW).toArray⟩, .bool true]) ∧ Sp w0 [] w2 L := by
  subst hec
  obtain ⟨s1, hs1⟩ : ∃ s1, s1 = fromW ++ p := ⟨_, rfl⟩
  have hl1 : s1.length ≤ 3000011 := by rw [hs1]; simp [fromW]; omega
  have a1 := joined fromW p s1 hs1 (by simp [maxLen, fromW]; omega)
  unfold fromW at a1
  have H1 := Lib.hid hs1
  clear hs1
  obtain ⟨s4, hs4⟩ : ∃ s4, s4 = s1 ++ bodyW := ⟨_, rfl⟩
  have a4 := joined s1 bodyW s4 hs4 (by simp [maxLen, bodyW]; omega)
  unfold bodyW at a4
  have H4 := Lib.hid hs4
  clear hs4
  have HFIN : Hid (fromW ++ p ++ bodyW = s4) := by
    unfold Hid
    rw [← H1.out, ← H4.out]
  clear hp
  go_enter Tryz.func172, Tryz.ntmps172
  go_wp2_with fail
  refine HR.out.mono ?_
  generalize w.alloc (.cells #[.int .i64 v, .string ⟨#[]⟩, .string ⟨l.toArray⟩, .string ⟨d.toArray⟩, .int .i64 (-1), .bool true] 131) = w1 at *
  generalize w.heap.size = q at *
  rintro e w2 ⟨rfl, S2⟩
  have HS2 := Lib.hid S2
  have c2 := S2.cell
  clear S2 HR HS0
  go_wp2_with fail
  clear c2
  refine wp_region_text (S := fun wx => Sp w0 [] wx (boxR q #[.int .i64 v, .string ⟨#[]⟩, .string ⟨l.toArray⟩, .string ⟨d.toArray⟩, .int .i64 (-1), .bool true] 131 :: L) ∧ (∀ o, wx.cell? ⟨q, o, none⟩ = (#[.int .i64 v, .string ⟨#[]⟩, .string ⟨l.toArray⟩, .string ⟨d.toArray⟩, .int .i64 (-1), .bool true])[o]?)) (by kernel_rfl) (by kernel_rfl) ⟨(HS2.out).drew, (Sp.pick [_] [0] (by decide) ((HS2.out).drew)).cell⟩ ?_
  repeat
    refine Exists.intro ?_ (And.intro (fun wS hS K hK => ?_) (And.intro ?_ ?_))
    rotate_left 1
    · obtain ⟨hS1, hS2⟩ := hS
      first
        | (refine if_unwanted rfl ?_; simp only [Act.put, List.setIfInBounds_toArray, List.set_cons_zero, List.set_cons_succ]; exact hK.out _ ⟨hS1, hS2⟩)
        | (refine if_wanted rfl ?_; go_simp; exact hK.out _ ⟨hS1, hS2⟩)
    · rfl
  intro wE hE
  have HSE := Lib.hid hE.1
  clear hE
  go_wp2
  go_ret2
  rw [HFIN.out]
  exact ⟨rfl, HSE.out.drop⟩
set_option maxRecDepth 100000 in
set_option maxHeartbeats 2000000 in
theorem from_0e_m1_F (v : Int) (l d p : Bs) (ec : Int) (hp : p.length ≤ 3000005) (hec : ec = 0) (HS0 : Hid (Sp w0 [] (w.alloc (.cells #[.int .i64 v, .string ⟨#[]⟩, .string ⟨l.toArray⟩, .string ⟨d.toArray⟩, .int .i64 (-1), .bool false] 131)) (boxR w.heap.size #[.int .i64 v, .string ⟨#[]⟩, .string ⟨l.toArray⟩, .string ⟨d.toArray⟩, .int .i64 (-1), .bool false] 131 :: L))) (HE : Hid (Env w0))
    (HR : Hid (Calls Tryz.prog 183 #[.agg #[.string ⟨l.toArray⟩, .string ⟨d.toArray⟩]] (w.alloc (.cells #[.int .i64 v, .string ⟨#[]⟩, .string ⟨l.toArray⟩, .string ⟨d.toArray⟩, .int .i64 (-1), .bool false] 131)) fun e w2 => e = .returned (.tuple #[.string ⟨p.toArray⟩, .int .i64 ec]) ∧ Sp w0 [] w2 (boxR w.heap.size #[.int .i64 v, .string ⟨#[]⟩, .string ⟨l.toArray⟩, .string ⟨d.toArray⟩, .int .i64 (-1), .bool false] 131 :: L))) :
    Calls Tryz.prog 172 #[.agg #[.int .i64 v, .string ⟨#[]⟩, .string ⟨l.toArray⟩, .string ⟨d.toArray⟩, .int .i64 (-1), .bool false]] w fun e w2 => e = .returned (.tuple #[.string ⟨(fromW ++ p).toArray⟩, .bool true]) ∧ Sp w0 [] w2 L := by
  subst hec
  obtain ⟨s1, hs1⟩ : ∃ s1, s1 = fromW ++ p := ⟨_, rfl⟩
  have hl1 : s1.length ≤ 3000011 := by rw [hs1]; simp [fromW]; omega
  have a1 := joined fromW p s1 hs1 (by simp [maxLen, fromW]; omega)
  unfold fromW at a1
  have H1 := Lib.hid hs1
  clear hs1
  have HFIN : Hid (fromW ++ p = s1) := by
    unfold Hid
    rw [← H1.out]
  clear hp
  go_enter Tryz.func172, Tryz.ntmps172
  go_wp2_with fail
  refine HR.out.mono ?_
  generalize w.alloc (.cells #[.int .i64 v, .string ⟨#[]⟩, .string ⟨l.toArray⟩, .string ⟨d.toArray⟩, .int .i64 (-1), .bool false] 131) = w1 at *
  generalize w.heap.size = q at *
  rintro e w2 ⟨rfl, S2⟩
  have HS2 := Lib.hid S2
  have c2 := S2.cell
  clear S2 HR HS0
  go_wp2_with fail
  clear c2
  refine wp_region_text (S := fun wx => Sp w0 [] wx (boxR q #[.int .i64 v, .string ⟨#[]⟩, .string ⟨l.toArray⟩, .string ⟨d.toArray⟩, .int .i64 (-1), .bool false] 131 :: L) ∧ (∀ o, wx.cell? ⟨q, o, none⟩ = (#[.int .i64 v, .string ⟨#[]⟩, .string ⟨l.toArray⟩, .string ⟨d.toArray⟩, .int .i64 (-1), .bool false])[o]?)) (by kernel_rfl) (by kernel_rfl) ⟨(HS2.out).drew, (Sp.pick [_] [0] (by decide) ((HS2.out).drew)).cell⟩ ?_
  repeat
    refine Exists.intro ?_ (And.intro (fun wS hS K hK => ?_) (And.intro ?_ ?_))
    rotate_left 1
    · obtain ⟨hS1, hS2⟩ := hS
      first
        | (refine if_unwanted rfl ?_; simp only [Act.put, List.setIfInBounds_toArray, List.set_cons_zero, List.set_cons_succ]; exact hK.out _ ⟨hS1, hS2⟩)
        | (refine if_wanted rfl ?_; go_simp; exact hK.out _ ⟨hS1, hS2⟩)
    · rfl
  intro wE hE
  have HSE := Lib.hid hE.1
  clear hE
  go_wp2
  go_ret2
  rw [HFIN.out]
  exact ⟨rfl, HSE.out.drop⟩
set_option maxRecDepth 100000 in
set_option maxHeartbeats 2000000 in
theorem from_0e_ok_T (v : Int) (l d p : Bs) (ec : Int) (n : Nat) (hn : (n : Int) ≤ 9223372036854775807) (hz : (n : Int) ≤ 999999999999) (hp : p.length ≤ 3000005) (hec : ec = 0) (HS0 : Hid (Sp w0 [] (w.alloc (.cells #[.int .i64 v, .string ⟨#[]⟩, .string ⟨l.toArray⟩, .string ⟨d.toArray⟩, .int .i64 n, .bool true] 131)) (boxR w.heap.size #[.int .i64 v, .string ⟨#[]⟩, .string ⟨l.toArray⟩, .string ⟨d.toArray⟩, .int .i64 n, .bool true] 131 :: L))) (HE : Hid (Env w0))
    (HR : Hid (Calls Tryz.prog 183 #[.agg #[.string ⟨l.toArray⟩, .string ⟨d.toArray⟩]] (w.alloc (.cells #[.int .i64 v, .string ⟨#[]⟩, .string ⟨l.toArray⟩, .string ⟨d.toArray⟩, .int .i64 n, .bool true] 131)) fun e w2 => e = .returned (.tuple #[.string ⟨p.toArray⟩, .int .i64 ec]) ∧ Sp w0 [] w2 (boxR w.heap.size #[.int .i64 v, .string ⟨#[]⟩, .string ⟨l.toArray⟩, .string ⟨d.toArray⟩, .int .i64 n, .bool true] 131 :: L))) :
    Calls Tryz.prog 172 #[.agg #[.int .i64 v, .string ⟨#[]⟩, .string ⟨l.toArray⟩, .string ⟨d.toArray⟩, .int .i64 n, .bool true]] w fun e w2 => e = .returned (.tuple #[.string ⟨(fromW ++ p ++ (sizeW ++ Lib.decDigits n) ++ bodyW).toArray⟩, .bool true]) ∧ Sp w0 [] w2 L := by
  subst hec
  obtain ⟨s1, hs1⟩ : ∃ s1, s1 = fromW ++ p := ⟨_, rfl⟩
  have hl1 : s1.length ≤ 3000011 := by rw [hs1]; simp [fromW]; omega
  have a1 := joined fromW p s1 hs1 (by simp [maxLen, fromW]; omega)
  unfold fromW at a1
  have H1 := Lib.hid hs1
  clear hs1
  have hdl := dec_len20 hn
  obtain ⟨D, hD⟩ : ∃ D, D = Lib.decDigits n := ⟨_, rfl⟩
  obtain ⟨s2, hs2⟩ : ∃ s2, s2 = sizeW ++ D := ⟨_, rfl⟩
  have hl2 : s2.length ≤ 26 := by rw [hs2, hD]; simp [sizeW]; omega
  have a2 := joined sizeW D s2 hs2 (by rw [hD]; simp [maxLen, sizeW]; omega)
  unfold sizeW at a2
  obtain ⟨s3, hs3⟩ : ∃ s3, s3 = s1 ++ s2 := ⟨_, rfl⟩
  have hl3 : s3.length ≤ 4000000 := by rw [hs3]; simp; omega
  have a3 := joined s1 s2 s3 hs3 (by simp [maxLen]; omega)
  have H2 := Lib.hid hs2
  have H3 := Lib.hid hs3
  have HDD := Lib.hid hD
  have HN := Lib.hid hn
  clear hs2 hs3 hD hdl hl2
  obtain ⟨s4, hs4⟩ : ∃ s4, s4 = s3 ++ bodyW := ⟨_, rfl⟩
  have a4 := joined s3 bodyW s4 hs4 (by simp [maxLen, bodyW]; omega)
  unfold bodyW at a4
  have H4 := Lib.hid hs4
  clear hs4
  have HFIN : Hid (fromW ++ p ++ (sizeW ++ Lib.decDigits n) ++ bodyW = s4) := by
    unfold Hid
    rw [← H1.out, ← HDD.out, ← H2.out, ← H3.out, ← H4.out]
  have z2 : decide ((n : Int) ≤ (999999999999 : Int)) = true := by simp <;> omega
  have z1 : decide ((-1 : Int) ≤ (n : Int)) = true := by simp <;> omega
  clear hp
  go_enter Tryz.func172, Tryz.ntmps172
  go_wp2_with fail
  refine HR.out.mono ?_
  generalize w.alloc (.cells #[.int .i64 v, .string ⟨#[]⟩, .string ⟨l.toArray⟩, .string ⟨d.toArray⟩, .int .i64 n, .bool true] 131) = w1 at *
  generalize w.heap.size = q at *
  rintro e w2 ⟨rfl, S2⟩
  have HS2 := Lib.hid S2
  have c2 := S2.cell
  clear S2 HR HS0
  go_wp2_with fail
  refine (formatS n HN.out HS2.out HE.out).mono ?_
  rw [← HDD.out]
  rintro e w3 ⟨rfl, S3⟩
  have HS3 := Lib.hid S3
  clear c2
  have c2 := S3.cell
  clear S3
  go_wp2_with fail
  clear c2
  refine wp_region_text (S := fun wx => Sp w0 [] wx (boxR q #[.int .i64 v, .string ⟨#[]⟩, .string ⟨l.toArray⟩, .string ⟨d.toArray⟩, .int .i64 n, .bool true] 131 :: L) ∧ (∀ o, wx.cell? ⟨q, o, none⟩ = (#[.int .i64 v, .string ⟨#[]⟩, .string ⟨l.toArray⟩, .string ⟨d.toArray⟩, .int .i64 n, .bool true])[o]?)) (by kernel_rfl) (by kernel_rfl) ⟨(HS3.out).drew, (Sp.pick [_] [0] (by decide) ((HS3.out).drew)).cell⟩ ?_
  repeat
    refine Exists.intro ?_ (And.intro (fun wS hS K hK => ?_) (And.intro ?_ ?_))
    rotate_left 1
    · obtain ⟨hS1, hS2⟩ := hS
      first
        | (refine if_unwanted rfl ?_; simp only [Act.put, List.setIfInBounds_toArray, List.set_cons_zero, List.set_cons_succ]; exact hK.out _ ⟨hS1, hS2⟩)
        | (refine if_wanted rfl ?_; go_simp; exact hK.out _ ⟨hS1, hS2⟩)
    · rfl
  intro wE hE
  have HSE := Lib.hid hE.1
  clear hE
  go_wp2
  go_ret2
  rw [HFIN.out]
  exact ⟨rfl, HSE.out.drop⟩
set_option maxRecDepth 100000 in
set_option maxHeartbeats 2000000 in
theorem from_0e_ok_F (v : Int) (l d p : Bs) (ec : Int) (n : Nat) (hn : (n : Int) ≤ 9223372036854775807) (hz : (n : Int) ≤ 999999999999) (hp : p.length ≤ 3000005) (hec : ec = 0) (HS0 : Hid (Sp w0 [] (w.alloc (.cells #[.int .i64 v, .string ⟨#[]⟩, .string ⟨l.toArray⟩, .string ⟨d.toArray⟩, .int .i64 n, .bool false] 131)) (boxR w.heap.size #[.int .i64 v, .string ⟨#[]⟩, .string ⟨l.toArray⟩, .string ⟨d.toArray⟩, .int .i64 n, .bool false] 131 :: L))) (HE : Hid (Env w0))
    (HR : Hid (Calls Tryz.prog 183 #[.agg #[.string ⟨l.toArray⟩, .string ⟨d.toArray⟩]] (w.alloc (.cells #[.int .i64 v, .string ⟨#[]⟩, .string ⟨l.toArray⟩, .string ⟨d.toArray⟩, .int .i64 n, .bool false] 131)) fun e w2 => e = .returned (.tuple #[.string ⟨p.toArray⟩, .int .i64 ec]) ∧ Sp w0 [] w2 (boxR w.heap.size #[.int .i64 v, .string ⟨#[]⟩, .string ⟨l.toArray⟩, .string ⟨d.toArray⟩, .int .i64 n, .bool false] 131 :: L))) :
    Calls Tryz.prog 172 #[.agg #[.int .i64 v, .string ⟨#[]⟩, .string ⟨l.toArray⟩, .string ⟨d.toArray⟩, .int .i64 n, .bool false]] w fun e w2 => e = .returned (.tuple #[.string ⟨(fromW ++ p ++ (sizeW ++ Lib.decDigits n)).toArray⟩, .bool true]) ∧ Sp w0 [] w2 L := by
  subst hec
  obtain ⟨s1, hs1⟩ : ∃ s1, s1 = fromW ++ p := ⟨_, rfl⟩
  have hl1 : s1.length ≤ 3000011 := by rw [hs1]; simp [fromW]; omega
  have a1 := joined fromW p s1 hs1 (by simp [maxLen, fromW]; omega)
  unfold fromW at a1
  have H1 := Lib.hid hs1
  clear hs1
  have hdl := dec_len20 hn
  obtain ⟨D, hD⟩ : ∃ D, D = Lib.decDigits n := ⟨_, rfl⟩
  obtain ⟨s2, hs2⟩ : ∃ s2, s2 = sizeW ++ D := ⟨_, rfl⟩
  have hl2 : s2.length ≤ 26 := by rw [hs2, hD]; simp [sizeW]; omega
  have a2 := joined sizeW D s2 hs2 (by rw [hD]; simp [maxLen, sizeW]; omega)
  unfold sizeW at a2
  obtain ⟨s3, hs3⟩ : ∃ s3, s3 = s1 ++ s2 := ⟨_, rfl⟩
  have hl3 : s3.length ≤ 4000000 := by rw [hs3]; simp; omega
  have a3 := joined s1 s2 s3 hs3 (by simp [maxLen]; omega)
  have H2 := Lib.hid hs2
  have H3 := Lib.hid hs3
  have HDD := Lib.hid hD
  have HN := Lib.hid hn
  clear hs2 hs3 hD hdl hl2
  have HFIN : Hid (fromW ++ p ++ (sizeW ++ Lib.decDigits n) = s3) := by
    unfold Hid
    rw [← H1.out, ← HDD.out, ← H2.out, ← H3.out]
  have z2 : decide ((n : Int) ≤ (999999999999 : Int)) = true := by simp <;> omega
  have z1 : decide ((-1 : Int) ≤ (n : Int)) = true := by simp <;> omega
  clear hp
  go_enter Tryz.func172, Tryz.ntmps172
  go_wp2_with fail
  refine HR.out.mono ?_
  generalize w.alloc (.cells #[.int .i64 v, .string ⟨#[]⟩, .string ⟨l.toArray⟩, .string ⟨d.toArray⟩, .int .i64 n, .bool false] 131) = w1 at *
  generalize w.heap.size = q at *
  rintro e w2 ⟨rfl, S2⟩
  have HS2 := Lib.hid S2
  have c2 := S2.cell
  clear S2 HR HS0
  go_wp2_with fail
  refine (formatS n HN.out HS2.out HE.out).mono ?_
  rw [← HDD.out]
  rintro e w3 ⟨rfl, S3⟩
  have HS3 := Lib.hid S3
  clear c2
  have c2 := S3.cell
  clear S3
  go_wp2_with fail
  clear c2
  refine wp_region_text (S := fun wx => Sp w0 [] wx (boxR q #[.int .i64 v, .string ⟨#[]⟩, .string ⟨l.toArray⟩, .string ⟨d.toArray⟩, .int .i64 n, .bool false] 131 :: L) ∧ (∀ o, wx.cell? ⟨q, o, none⟩ = (#[.int .i64 v, .string ⟨#[]⟩, .string ⟨l.toArray⟩, .string ⟨d.toArray⟩, .int .i64 n, .bool false])[o]?)) (by kernel_rfl) (by kernel_rfl) ⟨(HS3.out).drew, (Sp.pick [_] [0] (by decide) ((HS3.out).drew)).cell⟩ ?_
  repeat
    refine Exists.intro ?_ (And.intro (fun wS hS K hK => ?_) (And.intro ?_ ?_))
    rotate_left 1
    · obtain ⟨hS1, hS2⟩ := hS
      first
        | (refine if_unwanted rfl ?_; simp only [Act.put, List.setIfInBounds_toArray, List.set_cons_zero, List.set_cons_succ]; exact hK.out _ ⟨hS1, hS2⟩)
        | (refine if_wanted rfl ?_; go_simp; exact hK.out _ ⟨hS1, hS2⟩)
    · rfl
  intro wE hE
  have HSE := Lib.hid hE.1
  clear hE
  go_wp2
  go_ret2
  rw [HFIN.out]
  exact ⟨rfl, HSE.out.drop⟩
set_option maxRecDepth 100000 in
set_option maxHeartbeats 2000000 in
theorem from_0e_big_T (v : Int) (l d p : Bs) (ec : Int) (n : Nat) (hn : (n : Int) ≤ 9223372036854775807) (hz : (999999999999 : Int) < n) (hp : p.length ≤ 3000005) (hec : ec = 0) (HS0 : Hid (Sp w0 [] (w.alloc (.cells #[.int .i64 v, .string ⟨#[]⟩, .string ⟨l.toArray⟩, .string ⟨d.toArray⟩, .int .i64 n, .bool true] 131)) (boxR w.heap.size #[.int .i64 v, .string ⟨#[]⟩, .string ⟨l.toArray⟩, .string ⟨d.toArray⟩, .int .i64 n, .bool true] 131 :: L))) (HE : Hid (Env w0))
    (HR : Hid (Calls Tryz.prog 183 #[.agg #[.string ⟨l.toArray⟩, .string ⟨d.toArray⟩]] (w.alloc (.cells #[.int .i64 v, .string ⟨#[]⟩, .string ⟨l.toArray⟩, .string ⟨d.toArray⟩, .int .i64 n, .bool true] 131)) fun e w2 => e = .returned (.tuple #[.string ⟨p.toArray⟩, .int .i64 ec]) ∧ Sp w0 [] w2 (boxR w.heap.size #[.int .i64 v, .string ⟨#[]⟩, .string ⟨l.toArray⟩, .string ⟨d.toArray⟩, .int .i64 n, .bool true] 131 :: L))) :
    Calls Tryz.prog 172 #[.agg #[.int .i64 v, .string ⟨#[]⟩, .string ⟨l.toArray⟩, .string ⟨d.toArray⟩, .int .i64 n, .bool true]] w fun e w2 => e = .returned (.tuple #[.string ⟨(fromW ++ p ++ (sizeW ++ Lib.decDigits n) ++ bodyW).toArray⟩, .bool false]) ∧ Sp w0 [] w2 L := by
  subst hec
  obtain ⟨s1, hs1⟩ : ∃ s1, s1 = fromW ++ p := ⟨_, rfl⟩
  have hl1 : s1.length ≤ 3000011 := by rw [hs1]; simp [fromW]; omega
  have a1 := joined fromW p s1 hs1 (by simp [maxLen, fromW]; omega)
  unfold fromW at a1
  have H1 := Lib.hid hs1
  clear hs1
  have hdl := dec_len20 hn
  obtain ⟨D, hD⟩ : ∃ D, D = Lib.decDigits n := ⟨_, rfl⟩
  obtain ⟨s2, hs2⟩ : ∃ s2, s2 = sizeW ++ D := ⟨_, rfl⟩
  have hl2 : s2.length ≤ 26 := by rw [hs2, hD]; simp [sizeW]; omega
  have a2 := joined sizeW D s2 hs2 (by rw [hD]; simp [maxLen, sizeW]; omega)
  unfold sizeW at a2
  obtain ⟨s3, hs3⟩ : ∃ s3, s3 = s1 ++ s2 := ⟨_, rfl⟩
  have hl3 : s3.length ≤ 4000000 := by rw [hs3]; simp; omega
  have a3 := joined s1 s2 s3 hs3 (by simp [maxLen]; omega)
  have H2 := Lib.hid hs2
  have H3 := Lib.hid hs3
  have HDD := Lib.hid hD
  have HN := Lib.hid hn
  clear hs2 hs3 hD hdl hl2
  obtain ⟨s4, hs4⟩ : ∃ s4, s4 = s3 ++ bodyW := ⟨_, rfl⟩
  have a4 := joined s3 bodyW s4 hs4 (by simp [maxLen, bodyW]; omega)
  unfold bodyW at a4
  have H4 := Lib.hid hs4
  clear hs4
  have HFIN : Hid (fromW ++ p ++ (sizeW ++ Lib.decDigits n) ++ bodyW = s4) := by
    unfold Hid
    rw [← H1.out, ← HDD.out, ← H2.out, ← H3.out, ← H4.out]
  have z1 : decide ((-1 : Int) ≤ (n : Int)) = true := by simp <;> omega
  have z2 : decide ((n : Int) ≤ (999999999999 : Int)) = false := by simp <;> omega
  clear hp
  go_enter Tryz.func172, Tryz.ntmps172
  go_wp2_with fail
  refine HR.out.mono ?_
  generalize w.alloc (.cells #[.int .i64 v, .string ⟨#[]⟩, .string ⟨l.toArray⟩, .string ⟨d.toArray⟩, .int .i64 n, .bool true] 131) = w1 at *
  generalize w.heap.size = q at *
  rintro e w2 ⟨rfl, S2⟩
  have HS2 := Lib.hid S2
  have c2 := S2.cell
  clear S2 HR HS0
  go_wp2_with fail
  refine (formatS n HN.out HS2.out HE.out).mono ?_
  rw [← HDD.out]
  rintro e w3 ⟨rfl, S3⟩
  have HS3 := Lib.hid S3
  clear c2
  have c2 := S3.cell
  clear S3
  go_wp2_with fail
  clear c2
  refine wp_region_text (S := fun wx => Sp w0 [] wx (boxR q #[.int .i64 v, .string ⟨#[]⟩, .string ⟨l.toArray⟩, .string ⟨d.toArray⟩, .int .i64 n, .bool true] 131 :: L) ∧ (∀ o, wx.cell? ⟨q, o, none⟩ = (#[.int .i64 v, .string ⟨#[]⟩, .string ⟨l.toArray⟩, .string ⟨d.toArray⟩, .int .i64 n, .bool true])[o]?)) (by kernel_rfl) (by kernel_rfl) ⟨(HS3.out).drew, (Sp.pick [_] [0] (by decide) ((HS3.out).drew)).cell⟩ ?_
  repeat
    refine Exists.intro ?_ (And.intro (fun wS hS K hK => ?_) (And.intro ?_ ?_))
    rotate_left 1
    · obtain ⟨hS1, hS2⟩ := hS
      first
        | (refine if_unwanted rfl ?_; simp only [Act.put, List.setIfInBounds_toArray, List.set_cons_zero, List.set_cons_succ]; exact hK.out _ ⟨hS1, hS2⟩)
        | (refine if_wanted rfl ?_; go_simp; exact hK.out _ ⟨hS1, hS2⟩)
    · rfl
  intro wE hE
  have HSE := Lib.hid hE.1
  clear hE
  go_wp2
  go_ret2
  rw [HFIN.out]
  exact ⟨rfl, HSE.out.drop⟩
set_option maxRecDepth 100000 in
set_option maxHeartbeats 2000000 in
theorem from_0e_big_F (v : Int) (l d p : Bs) (ec : Int) (n : Nat) (hn : (n : Int) ≤ 9223372036854775807) (hz : (999999999999 : Int) < n) (hp : p.length ≤ 3000005) (hec : ec = 0) (HS0 : Hid (Sp w0 [] (w.alloc (.cells #[.int .i64 v, .string ⟨#[]⟩, .string ⟨l.toArray⟩, .string ⟨d.toArray⟩, .int .i64 n, .bool false] 131)) (boxR w.heap.size #[.int .i64 v, .string ⟨#[]⟩, .string ⟨l.toArray⟩, .string ⟨d.toArray⟩, .int .i64 n, .bool false] 131 :: L))) (HE : Hid (Env w0))
    (HR : Hid (Calls Tryz.prog 183 #[.agg #[.string ⟨l.toArray⟩, .string ⟨d.toArray⟩]] (w.alloc (.cells #[.int .i64 v, .string ⟨#[]⟩, .string ⟨l.toArray⟩, .string ⟨d.toArray⟩, .int .i64 n, .bool false] 131)) fun e w2 => e = .returned (.tuple #[.string ⟨p.toArray⟩, .int .i64 ec]) ∧ Sp w0 [] w2 (boxR w.heap.size #[.int .i64 v, .string ⟨#[]⟩, .string ⟨l.toArray⟩, .string ⟨d.toArray⟩, .int .i64 n, .bool false] 131 :: L))) :
    Calls Tryz.prog 172 #[.agg #[.int .i64 v, .string ⟨#[]⟩, .string ⟨l.toArray⟩, .string ⟨d.toArray⟩, .int .i64 n, .bool false]] w fun e w2 => e = .returned (.tuple #[.string ⟨(fromW ++ p ++ (sizeW ++ Lib.decDigits n)).toArray⟩, .bool false]) ∧ Sp w0 [] w2 L := by
  subst hec
  obtain ⟨s1, hs1⟩ : ∃ s1, s1 = fromW ++ p := ⟨_, rfl⟩
  have hl1 : s1.length ≤ 3000011 := by rw [hs1]; simp [fromW]; omega
  have a1 := joined fromW p s1 hs1 (by simp [maxLen, fromW]; omega)
  unfold fromW at a1
  have H1 := Lib.hid hs1
  clear hs1
  have hdl := dec_len20 hn
  obtain ⟨D, hD⟩ : ∃ D, D = Lib.decDigits n := ⟨_, rfl⟩
  obtain ⟨s2, hs2⟩ : ∃ s2, s2 = sizeW ++ D := ⟨_, rfl⟩
  have hl2 : s2.length ≤ 26 := by rw [hs2, hD]; simp [sizeW]; omega
  have a2 := joined sizeW D s2 hs2 (by rw [hD]; simp [maxLen, sizeW]; omega)
  unfold sizeW at a2
  obtain ⟨s3, hs3⟩ : ∃ s3, s3 = s1 ++ s2 := ⟨_, rfl⟩
  have hl3 : s3.length ≤ 4000000 := by rw [hs3]; simp; omega
  have a3 := joined s1 s2 s3 hs3 (by simp [maxLen]; omega)
  have H2 := Lib.hid hs2
  have H3 := Lib.hid hs3
  have HDD := Lib.hid hD
  have HN := Lib.hid hn
  clear hs2 hs3 hD hdl hl2
  have HFIN : Hid (fromW ++ p ++ (sizeW ++ Lib.decDigits n) = s3) := by
    unfold Hid
    rw [← H1.out, ← HDD.out, ← H2.out, ← H3.out]
  have z1 : decide ((-1 : Int) ≤ (n : Int)) = true := by simp <;> omega
  have z2 : decide ((n : Int) ≤ (999999999999 : Int)) = false := by simp <;> omega
  clear hp
  go_enter Tryz.func172, Tryz.ntmps172
  go_wp2_with fail
  refine HR.out.mono ?_
  generalize w.alloc (.cells #[.int .i64 v, .string ⟨#[]⟩, .string ⟨l.toArray⟩, .string ⟨d.toArray⟩, .int .i64 n, .bool false] 131) = w1 at *
  generalize w.heap.size = q at *
  rintro e w2 ⟨rfl, S2⟩
  have HS2 := Lib.hid S2
  have c2 := S2.cell
  clear S2 HR HS0
  go_wp2_with fail
  refine (formatS n HN.out HS2.out HE.out).mono ?_
  rw [← HDD.out]
  rintro e w3 ⟨rfl, S3⟩
  have HS3 := Lib.hid S3
  clear c2
  have c2 := S3.cell
  clear S3
  go_wp2_with fail
  clear c2
  refine wp_region_text (S := fun wx => Sp w0 [] wx (boxR q #[.int .i64 v, .string ⟨#[]⟩, .string ⟨l.toArray⟩, .string ⟨d.toArray⟩, .int .i64 n, .bool false] 131 :: L) ∧ (∀ o, wx.cell? ⟨q, o, none⟩ = (#[.int .i64 v, .string ⟨#[]⟩, .string ⟨l.toArray⟩, .string ⟨d.toArray⟩, .int .i64 n, .bool false])[o]?)) (by kernel_rfl) (by kernel_rfl) ⟨(HS3.out).drew, (Sp.pick [_] [0] (by decide) ((HS3.out).drew)).cell⟩ ?_
  repeat
    refine Exists.intro ?_ (And.intro (fun wS hS K hK => ?_) (And.intro ?_ ?_))
    rotate_left 1
    · obtain ⟨hS1, hS2⟩ := hS
      first
        | (refine if_unwanted rfl ?_; simp only [Act.put, List.setIfInBounds_toArray, List.set_cons_zero, List.set_cons_succ]; exact hK.out _ ⟨hS1, hS2⟩)
        | (refine if_wanted rfl ?_; go_simp; exact hK.out _ ⟨hS1, hS2⟩)
    · rfl
  intro wE hE
  have HSE := Lib.hid hE.1
  clear hE
  go_wp2
  go_ret2
  rw [HFIN.out]
  exact ⟨rfl, HSE.out.drop⟩
set_option maxRecDepth 100000 in
set_option maxHeartbeats 2000000 in
theorem from_0t_neg_T (v : Int) (l d p : Bs) (ec : Int) (t : Bs) (ht : ¬ t = []) (z : Int) (hz : z < -1) (hp : p.length ≤ 3000005) (hec : ec = 0) (HS0 : Hid (Sp w0 [] (w.alloc (.cells #[.int .i64 v, .string ⟨t.toArray⟩, .string ⟨l.toArray⟩, .string ⟨d.toArray⟩, .int .i64 z, .bool true] 131)) (boxR w.heap.size #[.int .i64 v, .string ⟨t.toArray⟩, .string ⟨l.toArray⟩, .string ⟨d.toArray⟩, .int .i64 z, .bool true] 131 :: L))) (HE : Hid (Env w0))
    (HR : Hid (Calls Tryz.prog 183 #[.agg #[.string ⟨l.toArray⟩, .string ⟨d.toArray⟩]] (w.alloc (.cells #[.int .i64 v, .string ⟨t.toArray⟩, .string ⟨l.toArray⟩, .string ⟨d.toArray⟩, .int .i64 z, .bool true] 131)) fun e w2 => e = .returned (.tuple #[.string ⟨p.toArray⟩, .int .i64 ec]) ∧ Sp w0 [] w2 (boxR w.heap.size #[.int .i64 v, .string ⟨t.toArray⟩, .string ⟨l.toArray⟩, .string ⟨d.toArray⟩, .int .i64 z, .bool true] 131 :: L))) :
    Calls Tryz.prog 172 #[.agg #[.int .i64 v, .string ⟨t.toArray⟩, .string ⟨l.toArray⟩, .string ⟨d.toArray⟩, .int .i64 z, .bool true]] w fun e w2 => e = .returned (.tuple #[.string ⟨(fromW ++ p ++ bodyW).toArray⟩, .bool false]) ∧ Sp w0 [] w2 L := by
  subst hec
  obtain ⟨s1, hs1⟩ : ∃ s1, s1 = fromW ++ p := ⟨_, rfl⟩
  have hl1 : s1.length ≤ 3000011 := by rw [hs1]; simp [fromW]; omega
  have a1 := joined fromW p s1 hs1 (by simp [maxLen, fromW]; omega)
  unfold fromW at a1
  have H1 := Lib.hid hs1
  clear hs1
  obtain ⟨s4, hs4⟩ : ∃ s4, s4 = s1 ++ bodyW := ⟨_, rfl⟩
  have a4 := joined s1 bodyW s4 hs4 (by simp [maxLen, bodyW]; omega)
  unfold bodyW at a4
  have H4 := Lib.hid hs4
  clear hs4
  have HFIN : Hid (fromW ++ p ++ bodyW = s4) := by
    unfold Hid
    rw [← H1.out, ← H4.out]
  have ht0 : t.isEmpty = false := by simpa using ht
  clear ht
  have z1 : decide ((-1 : Int) ≤ z) = false := by simp <;> omega
  have z0 : decide ((0 : Int) ≤ z) = false := by simp <;> omega
  clear hp
  go_enter Tryz.func172, Tryz.ntmps172
  go_wp2_with fail
  refine HR.out.mono ?_
  generalize w.alloc (.cells #[.int .i64 v, .string ⟨t.toArray⟩, .string ⟨l.toArray⟩, .string ⟨d.toArray⟩, .int .i64 z, .bool true] 131) = w1 at *
  generalize w.heap.size = q at *
  rintro e w2 ⟨rfl, S2⟩
  have HS2 := Lib.hid S2
  have c2 := S2.cell
  clear S2 HR HS0
  go_wp2_with fail
  clear c2
  refine wp_region_text (S := fun wx => Sp w0 [] wx (boxR q #[.int .i64 v, .string ⟨t.toArray⟩, .string ⟨l.toArray⟩, .string ⟨d.toArray⟩, .int .i64 z, .bool true] 131 :: L) ∧ (∀ o, wx.cell? ⟨q, o, none⟩ = (#[.int .i64 v, .string ⟨t.toArray⟩, .string ⟨l.toArray⟩, .string ⟨d.toArray⟩, .int .i64 z, .bool true])[o]?)) (by kernel_rfl) (by kernel_rfl) ⟨(HS2.out).drew, (Sp.pick [_] [0] (by decide) ((HS2.out).drew)).cell⟩ ?_
  repeat
    refine Exists.intro ?_ (And.intro (fun wS hS K hK => ?_) (And.intro ?_ ?_))
    rotate_left 1
    · obtain ⟨hS1, hS2⟩ := hS
      first
        | (refine if_unwanted rfl ?_; simp only [Act.put, List.setIfInBounds_toArray, List.set_cons_zero, List.set_cons_succ]; exact hK.out _ ⟨hS1, hS2⟩)
        | (refine if_wanted rfl ?_; go_simp; exact hK.out _ ⟨hS1, hS2⟩)
    · rfl
  intro wE hE
  have HSE := Lib.hid hE.1
  clear hE
  go_wp2
  go_ret2
  rw [HFIN.out]
  exact ⟨rfl, HSE.out.drop⟩
set_option maxRecDepth 100000 in
set_option maxHeartbeats 2000000 in
theorem from_0t_neg_F (v : Int) (l d p : Bs) (ec : Int) (t : Bs) (ht : ¬ t = []) (z : Int) (hz : z < -1) (hp : p.length ≤ 3000005) (hec : ec = 0) (HS0 : Hid (Sp w0 [] (w.alloc (.cells #[.int .i64 v, .string ⟨t.toArray⟩, .string ⟨l.toArray⟩, .string ⟨d.toArray⟩, .int .i64 z, .bool false] 131)) (boxR w.heap.size #[.int .i64 v, .string ⟨t.toArray⟩, .string ⟨l.toArray⟩, .string ⟨d.toArray⟩, .int .i64 z, .bool false] 131 :: L))) (HE : Hid (Env w0))
    (HR : Hid (Calls Tryz.prog 183 #[.agg #[.string ⟨l.toArray⟩, .string ⟨d.toArray⟩]] (w.alloc (.cells #[.int .i64 v, .string ⟨t.toArray⟩, .string ⟨l.toArray⟩, .string ⟨d.toArray⟩, .int .i64 z, .bool false] 131)) fun e w2 => e = .returned (.tuple #[.string ⟨p.toArray⟩, .int .i64 ec]) ∧ Sp w0 [] w2 (boxR w.heap.size #[.int .i64 v, .string ⟨t.toArray⟩, .string ⟨l.toArray⟩, .string ⟨d.toArray⟩, .int .i64 z, .bool false] 131 :: L))) :
    Calls Tryz.prog 172 #[.agg #[.int .i64 v, .string ⟨t.toArray⟩, .string ⟨l.toArray⟩, .string ⟨d.toArray⟩, .int .i64 z, .bool false]] w fun e w2 => e = .returned (.tuple #[.string ⟨(fromW ++ p).toArray⟩, .bool false]) ∧ Sp w0 [] w2 L := by
  subst hec
  obtain ⟨s1, hs1⟩ : ∃ s1, s1 = fromW ++ p := ⟨_, rfl⟩
  have hl1 : s1.length ≤ 3000011 := by rw [hs1]; simp [fromW]; omega
  have a1 := joined fromW p s1 hs1 (by simp [maxLen, fromW]; omega)
  unfold fromW at a1
  have H1 := Lib.hid hs1
  clear hs1
  have HFIN : Hid (fromW ++ p = s1) := by
    unfold Hid
    rw [← H1.out]
  have ht0 : t.isEmpty = false := by simpa using ht
  clear ht
  have z1 : decide ((-1 : Int) ≤ z) = false := by simp <;> omega
  have z0 : decide ((0 : Int) ≤ z) = false := by simp <;> omega
  clear hp
  go_enter Tryz.func172, Tryz.ntmps172
  go_wp2_with fail
  refine HR.out.mono ?_
  generalize w.alloc (.cells #[.int .i64 v, .string ⟨t.toArray⟩, .string ⟨l.toArray⟩, .string ⟨d.toArray⟩, .int .i64 z, .bool false] 131) = w1 at *
  generalize w.heap.size = q at *
  rintro e w2 ⟨rfl, S2⟩
  have HS2 := Lib.hid S2
  have c2 := S2.cell
  clear S2 HR HS0
  go_wp2_with fail
  clear c2
  refine wp_region_text (S := fun wx => Sp w0 [] wx (boxR q #[.int .i64 v, .string ⟨t.toArray⟩, .string ⟨l.toArray⟩, .string ⟨d.toArray⟩, .int .i64 z, .bool false] 131 :: L) ∧ (∀ o, wx.cell? ⟨q, o, none⟩ = (#[.int .i64 v, .string ⟨t.toArray⟩, .string ⟨l.toArray⟩, .string ⟨d.toArray⟩, .int .i64 z, .bool false])[o]?)) (by kernel_rfl) (by kernel_rfl) ⟨(HS2.out).drew, (Sp.pick [_] [0] (by decide) ((HS2.out).drew)).cell⟩ ?_
  repeat
    refine Exists.intro ?_ (And.intro (fun wS hS K hK => ?_) (And.intro ?_ ?_))
    rotate_left 1
    · obtain ⟨hS1, hS2⟩ := hS
      first
        | (refine if_unwanted rfl ?_; simp only [Act.put, List.setIfInBounds_toArray, List.set_cons_zero, List.set_cons_succ]; exact hK.out _ ⟨hS1, hS2⟩)
        | (refine if_wanted rfl ?_; go_simp; exact hK.out _ ⟨hS1, hS2⟩)
    · rfl
  intro wE hE
  have HSE := Lib.hid hE.1
  clear hE
  go_wp2
  go_ret2
  rw [HFIN.out]
  exact ⟨rfl, HSE.out.drop⟩
set_option maxRecDepth 100000 in
set_option maxHeartbeats 2000000 in
theorem from_0t_m1_T (v : Int) (l d p : Bs) (ec : Int) (t : Bs) (ht : ¬ t = []) (hp : p.length ≤ 3000005) (hec : ec = 0) (HS0 : Hid (Sp w0 [] (w.alloc (.cells #[.int .i64 v, .string ⟨t.toArray⟩, .string ⟨l.toArray⟩, .string ⟨d.toArray⟩, .int .i64 (-1), .bool true] 131)) (boxR w.heap.size #[.int .i64 v, .string ⟨t.toArray⟩, .string ⟨l.toArray⟩, .string ⟨d.toArray⟩, .int .i64 (-1), .bool true] 131 :: L))) (HE : Hid (Env w0))
    (HR : Hid (Calls Tryz.prog 183 #[.agg #[.string ⟨l.toArray⟩, .string ⟨d.toArray⟩]] (w.alloc (.cells #[.int .i64 v, .string ⟨t.toArray⟩, .string ⟨l.toArray⟩, .string ⟨d.toArray⟩, .int .i64 (-1), .bool true] 131)) fun e w2 => e = .returned (.tuple #[.string ⟨p.toArray⟩, .int .i64 ec]) ∧ Sp w0 [] w2 (boxR w.heap.size #[.int .i64 v, .string ⟨t.toArray⟩, .string ⟨l.toArray⟩, .string ⟨d.toArray⟩, .int .i64 (-1), .bool true] 131 :: L))) :
    Calls Tryz.prog 172 #[.agg #[.int .i64 v, .string ⟨t.toArray⟩, .string ⟨l.toArray⟩, .string ⟨d.toArray⟩, .int .i64 (-1), .bool true]] w fun e w2 => e = .returned (.tuple #[.string ⟨(fromW ++ p ++ bodyW).toArray⟩, .bool false]) ∧ Sp w0 [] w2 L := by
  subst hec
  obtain ⟨s1, hs1⟩ : ∃ s1, s1 = fromW ++ p := ⟨_, rfl⟩
  have hl1 : s1.length ≤ 3000011 := by rw [hs1]; simp [fromW]; omega
  have a1 := joined fromW p s1 hs1 (by simp [maxLen, fromW]; omega)
  unfold fromW at a1
  have H1 := Lib.hid hs1
  clear hs1
  obtain ⟨s4, hs4⟩ : ∃ s4, s4 = s1 ++ bodyW := ⟨_, rfl⟩
  have a4 := joined s1 bodyW s4 hs4 (by simp [maxLen, bodyW]; omega)
  unfold bodyW at a4
  have H4 := Lib.hid hs4
  clear hs4
  have HFIN : Hid (fromW ++ p ++ bodyW = s4) := by
    unfold Hid
    rw [← H1.out, ← H4.out]
  have ht0 : t.isEmpty = false := by simpa using ht
  clear ht
  clear hp
  go_enter Tryz.func172, Tryz.ntmps172
  go_wp2_with fail
  refine HR.out.mono ?_
  generalize w.alloc (.cells #[.int .i64 v, .string ⟨t.toArray⟩, .string ⟨l.toArray⟩, .string ⟨d.toArray⟩, .int .i64 (-1), .bool true] 131) = w1 at *
  generalize w.heap.size = q at *
  rintro e w2 ⟨rfl, S2⟩
  have HS2 := Lib.hid S2
  have c2 := S2.cell
  clear S2 HR HS0
  go_wp2_with fail
  clear c2
  refine wp_region_text (S := fun wx => Sp w0 [] wx (boxR q #[.int .i64 v, .string ⟨t.toArray⟩, .string ⟨l.toArray⟩, .string ⟨d.toArray⟩, .int .i64 (-1), .bool true] 131 :: L) ∧ (∀ o, wx.cell? ⟨q, o, none⟩ = (#[.int .i64 v, .string ⟨t.toArray⟩, .string ⟨l.toArray⟩, .string ⟨d.toArray⟩, .int .i64 (-1), .bool true])[o]?)) (by kernel_rfl) (by kernel_rfl) ⟨(HS2.out).drew, (Sp.pick [_] [0] (by decide) ((HS2.out).drew)).cell⟩ ?_
  repeat
    refine Exists.intro ?_ (And.intro (fun wS hS K hK => ?_) (And.intro ?_ ?_))
    rotate_left 1
    · obtain ⟨hS1, hS2⟩ := hS
      first
        | (refine if_unwanted rfl ?_; simp only [Act.put, List.setIfInBounds_toArray, List.set_cons_zero, List.set_cons_succ]; exact hK.out _ ⟨hS1, hS2⟩)
        | (refine if_wanted rfl ?_; go_simp; exact hK.out _ ⟨hS1, hS2⟩)
    · rfl
  intro wE hE
  have HSE := Lib.hid hE.1
  clear hE
  go_wp2
  go_ret2
  rw [HFIN.out]
  exact ⟨rfl, HSE.out.drop⟩
set_option maxRecDepth 100000 in
set_option maxHeartbeats 2000000 in
theorem from_0t_m1_F (v : Int) (l d p : Bs) (ec : Int) (t : Bs) (ht : ¬ t = []) (hp : p.length ≤ 3000005) (hec : ec = 0) (HS0 : Hid (Sp w0 [] (w.alloc (.cells #[.int .i64 v, .string ⟨t.toArray⟩, .string ⟨l.toArray⟩, .string ⟨d.toArray⟩, .int .i64 (-1), .bool false] 131)) (boxR w.heap.size #[.int .i64 v, .string ⟨t.toArray⟩, .string ⟨l.toArray⟩, .string ⟨d.toArray⟩, .int .i64 (-1), .bool false] 131 :: L))) (HE : Hid (Env w0))
    (HR : Hid (Calls Tryz.prog 183 #[.agg #[.string ⟨l.toArray⟩, .string ⟨d.toArray⟩]] (w.alloc (.cells #[.int .i64 v, .string ⟨t.toArray⟩, .string ⟨l.toArray⟩, .string ⟨d.toArray⟩, .int .i64 (-1), .bool false] 131)) fun e w2 => e = .returned (.tuple #[.string ⟨p.toArray⟩, .int .i64 ec]) ∧ Sp w0 [] w2 (boxR w.heap.size #[.int .i64 v, .string ⟨t.toArray⟩, .string ⟨l.toArray⟩, .string ⟨d.toArray⟩, .int .i64 (-1), .bool false] 131 :: L))) :
    Calls Tryz.prog 172 #[.agg #[.int .i64 v, .string ⟨t.toArray⟩, .string ⟨l.toArray⟩, .string ⟨d.toArray⟩, .int .i64 (-1), .bool false]] w fun e w2 => e = .returned (.tuple #[.string ⟨(fromW ++ p).toArray⟩, .bool false]) ∧ Sp w0 [] w2 L := by
  subst hec
  obtain ⟨s1, hs1⟩ : ∃ s1, s1 = fromW ++ p := ⟨_, rfl⟩
  have hl1 : s1.length ≤ 3000011 := by rw [hs1]; simp [fromW]; omega
  have a1 := joined fromW p s1 hs1 (by simp [maxLen, fromW]; omega)
  unfold fromW at a1
  have H1 := Lib.hid hs1
  clear hs1
  have HFIN : Hid (fromW ++ p = s1) := by
    unfold Hid
    rw [← H1.out]
  have ht0 : t.isEmpty = false := by simpa using ht
  clear ht
  clear hp
  go_enter Tryz.func172, Tryz.ntmps172
  go_wp2_with fail
  refine HR.out.mono ?_
  generalize w.alloc (.cells #[.int .i64 v, .string ⟨t.toArray⟩, .string ⟨l.toArray⟩, .string ⟨d.toArray⟩, .int .i64 (-1), .bool false] 131) = w1 at *
  generalize w.heap.size = q at *
  rintro e w2 ⟨rfl, S2⟩
  have HS2 := Lib.hid S2
  have c2 := S2.cell
  clear S2 HR HS0
  go_wp2_with fail
  clear c2
  refine wp_region_text (S := fun wx => Sp w0 [] wx (boxR q #[.int .i64 v, .string ⟨t.toArray⟩, .string ⟨l.toArray⟩, .string ⟨d.toArray⟩, .int .i64 (-1), .bool false] 131 :: L) ∧ (∀ o, wx.cell? ⟨q, o, none⟩ = (#[.int .i64 v, .string ⟨t.toArray⟩, .string ⟨l.toArray⟩, .string ⟨d.toArray⟩, .int .i64 (-1), .bool false])[o]?)) (by kernel_rfl) (by kernel_rfl) ⟨(HS2.out).drew, (Sp.pick [_] [0] (by decide) ((HS2.out).drew)).cell⟩ ?_
  repeat
    refine Exists.intro ?_ (And.intro (fun wS hS K hK => ?_) (And.intro ?_ ?_))
    rotate_left 1
    · obtain ⟨hS1, hS2⟩ := hS
      first
        | (refine if_unwanted rfl ?_; simp only [Act.put, List.setIfInBounds_toArray, List.set_cons_zero, List.set_cons_succ]; exact hK.out _ ⟨hS1, hS2⟩)
        | (refine if_wanted rfl ?_; go_simp; exact hK.out _ ⟨hS1, hS2⟩)
    · rfl
  intro wE hE
  have HSE := Lib.hid hE.1
  clear hE
  go_wp2
  go_ret2
  rw [HFIN.out]
  exact ⟨rfl, HSE.out.drop⟩
set_option maxRecDepth 100000 in
set_option maxHeartbeats 2000000 in
theorem from_0t_ok_T (v : Int) (l d p : Bs) (ec : Int) (t : Bs) (ht : ¬ t = []) (n : Nat) (hn : (n : Int) ≤ 9223372036854775807) (hp : p.length ≤ 3000005) (hec : ec = 0) (HS0 : Hid (Sp w0 [] (w.alloc (.cells #[.int .i64 v, .string ⟨t.toArray⟩, .string ⟨l.toArray⟩, .string ⟨d.toArray⟩, .int .i64 n, .bool true] 131)) (boxR w.heap.size #[.int .i64 v, .string ⟨t.toArray⟩, .string ⟨l.toArray⟩, .string ⟨d.toArray⟩, .int .i64 n, .bool true] 131 :: L))) (HE : Hid (Env w0))
    (HR : Hid (Calls Tryz.prog 183 #[.agg #[.string ⟨l.toArray⟩, .string ⟨d.toArray⟩]] (w.alloc (.cells #[.int .i64 v, .string ⟨t.toArray⟩, .string ⟨l.toArray⟩, .string ⟨d.toArray⟩, .int .i64 n, .bool true] 131)) fun e w2 => e = .returned (.tuple #[.string ⟨p.toArray⟩, .int .i64 ec]) ∧ Sp w0 [] w2 (boxR w.heap.size #[.int .i64 v, .string ⟨t.toArray⟩, .string ⟨l.toArray⟩, .string ⟨d.toArray⟩, .int .i64 n, .bool true] 131 :: L))) :
    Calls Tryz.prog 172 #[.agg #[.int .i64 v, .string ⟨t.toArray⟩, .string ⟨l.toArray⟩, .string ⟨d.toArray⟩, .int .i64 n, .bool true]] w fun e w2 => e = .returned (.tuple #[.string ⟨(fromW ++ p ++ (sizeW ++ Lib.decDigits n) ++ bodyW).toArray⟩, .bool false]) ∧ Sp w0 [] w2 L := by
  subst hec
  obtain ⟨s1, hs1⟩ : ∃ s1, s1 = fromW ++ p := ⟨_, rfl⟩
  have hl1 : s1.length ≤ 3000011 := by rw [hs1]; simp [fromW]; omega
  have a1 := joined fromW p s1 hs1 (by simp [maxLen, fromW]; omega)
  unfold fromW at a1
  have H1 := Lib.hid hs1
  clear hs1
  have hdl := dec_len20 hn
  obtain ⟨D, hD⟩ : ∃ D, D = Lib.decDigits n := ⟨_, rfl⟩
  obtain ⟨s2, hs2⟩ : ∃ s2, s2 = sizeW ++ D := ⟨_, rfl⟩
  have hl2 : s2.length ≤ 26 := by rw [hs2, hD]; simp [sizeW]; omega
  have a2 := joined sizeW D s2 hs2 (by rw [hD]; simp [maxLen, sizeW]; omega)
  unfold sizeW at a2
  obtain ⟨s3, hs3⟩ : ∃ s3, s3 = s1 ++ s2 := ⟨_, rfl⟩
  have hl3 : s3.length ≤ 4000000 := by rw [hs3]; simp; omega
  have a3 := joined s1 s2 s3 hs3 (by simp [maxLen]; omega)
  have H2 := Lib.hid hs2
  have H3 := Lib.hid hs3
  have HDD := Lib.hid hD
  have HN := Lib.hid hn
  clear hs2 hs3 hD hdl hl2
  obtain ⟨s4, hs4⟩ : ∃ s4, s4 = s3 ++ bodyW := ⟨_, rfl⟩
  have a4 := joined s3 bodyW s4 hs4 (by simp [maxLen, bodyW]; omega)
  unfold bodyW at a4
  have H4 := Lib.hid hs4
  clear hs4
  have HFIN : Hid (fromW ++ p ++ (sizeW ++ Lib.decDigits n) ++ bodyW = s4) := by
    unfold Hid
    rw [← H1.out, ← HDD.out, ← H2.out, ← H3.out, ← H4.out]
  have ht0 : t.isEmpty = false := by simpa using ht
  clear ht
  have z1 : decide ((-1 : Int) ≤ (n : Int)) = true := by simp <;> omega
  clear hp
  go_enter Tryz.func172, Tryz.ntmps172
  go_wp2_with fail
  refine HR.out.mono ?_
  generalize w.alloc (.cells #[.int .i64 v, .string ⟨t.toArray⟩, .string ⟨l.toArray⟩, .string ⟨d.toArray⟩, .int .i64 n, .bool true] 131) = w1 at *
  generalize w.heap.size = q at *
  rintro e w2 ⟨rfl, S2⟩
  have HS2 := Lib.hid S2
  have c2 := S2.cell
  clear S2 HR HS0
  go_wp2_with fail
  refine (formatS n HN.out HS2.out HE.out).mono ?_
  rw [← HDD.out]
  rintro e w3 ⟨rfl, S3⟩
  have HS3 := Lib.hid S3
  clear c2
  have c2 := S3.cell
  clear S3
  go_wp2_with fail
  clear c2
  refine wp_region_text (S := fun wx => Sp w0 [] wx (boxR q #[.int .i64 v, .string ⟨t.toArray⟩, .string ⟨l.toArray⟩, .string ⟨d.toArray⟩, .int .i64 n, .bool true] 131 :: L) ∧ (∀ o, wx.cell? ⟨q, o, none⟩ = (#[.int .i64 v, .string ⟨t.toArray⟩, .string ⟨l.toArray⟩, .string ⟨d.toArray⟩, .int .i64 n, .bool true])[o]?)) (by kernel_rfl) (by kernel_rfl) ⟨(HS3.out).drew, (Sp.pick [_] [0] (by decide) ((HS3.out).drew)).cell⟩ ?_
  repeat
    refine Exists.intro ?_ (And.intro (fun wS hS K hK => ?_) (And.intro ?_ ?_))
    rotate_left 1
    · obtain ⟨hS1, hS2⟩ := hS
      first
        | (refine if_unwanted rfl ?_; simp only [Act.put, List.setIfInBounds_toArray, List.set_cons_zero, List.set_cons_succ]; exact hK.out _ ⟨hS1, hS2⟩)
        | (refine if_wanted rfl ?_; go_simp; exact hK.out _ ⟨hS1, hS2⟩)
    · rfl
  intro wE hE
  have HSE := Lib.hid hE.1
  clear hE
  go_wp2
  go_ret2
  rw [HFIN.out]
  exact ⟨rfl, HSE.out.drop⟩
set_option maxRecDepth 100000 in
set_option maxHeartbeats 2000000 in
theorem from_0t_ok_F (v : Int) (l d p : Bs) (ec : Int) (t : Bs) (ht : ¬ t = []) (n : Nat) (hn : (n : Int) ≤ 9223372036854775807) (hp : p.length ≤ 3000005) (hec : ec = 0) (HS0 : Hid (Sp w0 [] (w.alloc (.cells #[.int .i64 v, .string ⟨t.toArray⟩, .string ⟨l.toArray⟩, .string ⟨d.toArray⟩, .int .i64 n, .bool false] 131)) (boxR w.heap.size #[.int .i64 v, .string ⟨t.toArray⟩, .string ⟨l.toArray⟩, .string ⟨d.toArray⟩, .int .i64 n, .bool false] 131 :: L))) (HE : Hid (Env w0))
    (HR : Hid (Calls Tryz.prog 183 #[.agg #[.string ⟨l.toArray⟩, .string ⟨d.toArray⟩]] (w.alloc (.cells #[.int .i64 v, .string ⟨t.toArray⟩, .string ⟨l.toArray⟩, .string ⟨d.toArray⟩, .int .i64 n, .bool false] 131)) fun e w2 => e = .returned (.tuple #[.string ⟨p.toArray⟩, .int .i64 ec]) ∧ Sp w0 [] w2 (boxR w.heap.size #[.int .i64 v, .string ⟨t.toArray⟩, .string ⟨l.toArray⟩, .string ⟨d.toArray⟩, .int .i64 n, .bool false] 131 :: L))) :
    Calls Tryz.prog 172 #[.agg #[.int .i64 v, .string ⟨t.toArray⟩, .string ⟨l.toArray⟩, .string ⟨d.toArray⟩, .int .i64 n, .bool false]] w fun e w2 => e = .returned (.tuple #[.string ⟨(fromW ++ p ++ (sizeW ++ Lib.decDigits n)).toArray⟩, .bool false]) ∧ Sp w0 [] w2 L := by
  subst hec
  obtain ⟨s1, hs1⟩ : ∃ s1, s1 = fromW ++ p := ⟨_, rfl⟩
  have hl1 : s1.length ≤ 3000011 := by rw [hs1]; simp [fromW]; omega
  have a1 := joined fromW p s1 hs1 (by simp [maxLen, fromW]; omega)
  unfold fromW at a1
  have H1 := Lib.hid hs1
  clear hs1
  have hdl := dec_len20 hn
  obtain ⟨D, hD⟩ : ∃ D, D = Lib.decDigits n := ⟨_, rfl⟩
  obtain ⟨s2, hs2⟩ : ∃ s2, s2 = sizeW ++ D := ⟨_, rfl⟩
  have hl2 : s2.length ≤ 26 := by rw [hs2, hD]; simp [sizeW]; omega
  have a2 := joined sizeW D s2 hs2 (by rw [hD]; simp [maxLen, sizeW]; omega)
  unfold sizeW at a2
  obtain ⟨s3, hs3⟩ : ∃ s3, s3 = s1 ++ s2 := ⟨_, rfl⟩
  have hl3 : s3.length ≤ 4000000 := by rw [hs3]; simp; omega
  have a3 := joined s1 s2 s3 hs3 (by simp [maxLen]; omega)
  have H2 := Lib.hid hs2
  have H3 := Lib.hid hs3
  have HDD := Lib.hid hD
  have HN := Lib.hid hn
  clear hs2 hs3 hD hdl hl2
  have HFIN : Hid (fromW ++ p ++ (sizeW ++ Lib.decDigits n) = s3) := by
    unfold Hid
    rw [← H1.out, ← HDD.out, ← H2.out, ← H3.out]
  have ht0 : t.isEmpty = false := by simpa using ht
  clear ht
  have z1 : decide ((-1 : Int) ≤ (n : Int)) = true := by simp <;> omega
  clear hp
  go_enter Tryz.func172, Tryz.ntmps172
  go_wp2_with fail
  refine HR.out.mono ?_
  generalize w.alloc (.cells #[.int .i64 v, .string ⟨t.toArray⟩, .string ⟨l.toArray⟩, .string ⟨d.toArray⟩, .int .i64 n, .bool false] 131) = w1 at *
  generalize w.heap.size = q at *
  rintro e w2 ⟨rfl, S2⟩
  have HS2 := Lib.hid S2
  have c2 := S2.cell
  clear S2 HR HS0
  go_wp2_with fail
  refine (formatS n HN.out HS2.out HE.out).mono ?_
  rw [← HDD.out]
  rintro e w3 ⟨rfl, S3⟩
  have HS3 := Lib.hid S3
  clear c2
  have c2 := S3.cell
  clear S3
  go_wp2_with fail
  clear c2
  refine wp_region_text (S := fun wx => Sp w0 [] wx (boxR q #[.int .i64 v, .string ⟨t.toArray⟩, .string ⟨l.toArray⟩, .string ⟨d.toArray⟩, .int .i64 n, .bool false] 131 :: L) ∧ (∀ o, wx.cell? ⟨q, o, none⟩ = (#[.int .i64 v, .string ⟨t.toArray⟩, .string ⟨l.toArray⟩, .string ⟨d.toArray⟩, .int .i64 n, .bool false])[o]?)) (by kernel_rfl) (by kernel_rfl) ⟨(HS3.out).drew, (Sp.pick [_] [0] (by decide) ((HS3.out).drew)).cell⟩ ?_
  repeat
    refine Exists.intro ?_ (And.intro (fun wS hS K hK => ?_) (And.intro ?_ ?_))
    rotate_left 1
    · obtain ⟨hS1, hS2⟩ := hS
      first
        | (refine if_unwanted rfl ?_; simp only [Act.put, List.setIfInBounds_toArray, List.set_cons_zero, List.set_cons_succ]; exact hK.out _ ⟨hS1, hS2⟩)
        | (refine if_wanted rfl ?_; go_simp; exact hK.out _ ⟨hS1, hS2⟩)
    · rfl
  intro wE hE
  have HSE := Lib.hid hE.1
  clear hE
  go_wp2
  go_ret2
  rw [HFIN.out]
  exact ⟨rfl, HSE.out.drop⟩
set_option maxRecDepth 100000 in
set_option maxHeartbeats 2000000 in
theorem from_2t_neg_T (v : Int) (l d p : Bs) (ec : Int) (t : Bs) (z : Int) (hz : z < -1) (hp : p.length ≤ 3000005) (hec : ec = 2) (HS0 : Hid (Sp w0 [] (w.alloc (.cells #[.int .i64 v, .string ⟨t.toArray⟩, .string ⟨l.toArray⟩, .string ⟨d.toArray⟩, .int .i64 z, .bool true] 131)) (boxR w.heap.size #[.int .i64 v, .string ⟨t.toArray⟩, .string ⟨l.toArray⟩, .string ⟨d.toArray⟩, .int .i64 z, .bool true] 131 :: L))) (HE : Hid (Env w0))
    (HR : Hid (Calls Tryz.prog 183 #[.agg #[.string ⟨l.toArray⟩, .string ⟨d.toArray⟩]] (w.alloc (.cells #[.int .i64 v, .string ⟨t.toArray⟩, .string ⟨l.toArray⟩, .string ⟨d.toArray⟩, .int .i64 z, .bool true] 131)) fun e w2 => e = .returned (.tuple #[.string ⟨p.toArray⟩, .int .i64 ec]) ∧ Sp w0 [] w2 (boxR w.heap.size #[.int .i64 v, .string ⟨t.toArray⟩, .string ⟨l.toArray⟩, .string ⟨d.toArray⟩, .int .i64 z, .bool true] 131 :: L))) :
    Calls Tryz.prog 172 #[.agg #[.int .i64 v, .string ⟨t.toArray⟩, .string ⟨l.toArray⟩, .string ⟨d.toArray⟩, .int .i64 z, .bool true]] w fun e w2 => e = .returned (.tuple #[.string ⟨(fromW ++ p ++ bodyW).toArray⟩, .bool false]) ∧ Sp w0 [] w2 L := by
  subst hec
  obtain ⟨s1, hs1⟩ : ∃ s1, s1 = fromW ++ p := ⟨_, rfl⟩
  have hl1 : s1.length ≤ 3000011 := by rw [hs1]; simp [fromW]; omega
  have a1 := joined fromW p s1 hs1 (by simp [maxLen, fromW]; omega)
  unfold fromW at a1
  have H1 := Lib.hid hs1
  clear hs1
  obtain ⟨s4, hs4⟩ : ∃ s4, s4 = s1 ++ bodyW := ⟨_, rfl⟩
  have a4 := joined s1 bodyW s4 hs4 (by simp [maxLen, bodyW]; omega)
  unfold bodyW at a4
  have H4 := Lib.hid hs4
  clear hs4
  have HFIN : Hid (fromW ++ p ++ bodyW = s4) := by
    unfold Hid
    rw [← H1.out, ← H4.out]
  have z1 : decide ((-1 : Int) ≤ z) = false := by simp <;> omega
  have z0 : decide ((0 : Int) ≤ z) = false := by simp <;> omega
  clear hp
  go_enter Tryz.func172, Tryz.ntmps172
  go_wp2_with fail
  refine HR.out.mono ?_
  generalize w.alloc (.cells #[.int .i64 v, .string ⟨t.toArray⟩, .string ⟨l.toArray⟩, .string ⟨d.toArray⟩, .int .i64 z, .bool true] 131) = w1 at *
  generalize w.heap.size = q at *
  rintro e w2 ⟨rfl, S2⟩
  have HS2 := Lib.hid S2
  have c2 := S2.cell
  clear S2 HR HS0
  go_wp2_with fail
  clear c2
  refine wp_region_text (S := fun wx => Sp w0 [] wx (boxR q #[.int .i64 v, .string ⟨t.toArray⟩, .string ⟨l.toArray⟩, .string ⟨d.toArray⟩, .int .i64 z, .bool true] 131 :: L) ∧ (∀ o, wx.cell? ⟨q, o, none⟩ = (#[.int .i64 v, .string ⟨t.toArray⟩, .string ⟨l.toArray⟩, .string ⟨d.toArray⟩, .int .i64 z, .bool true])[o]?)) (by kernel_rfl) (by kernel_rfl) ⟨(HS2.out).drew, (Sp.pick [_] [0] (by decide) ((HS2.out).drew)).cell⟩ ?_
  repeat
    refine Exists.intro ?_ (And.intro (fun wS hS K hK => ?_) (And.intro ?_ ?_))
    rotate_left 1
    · obtain ⟨hS1, hS2⟩ := hS
      first
        | (refine if_unwanted rfl ?_; simp only [Act.put, List.setIfInBounds_toArray, List.set_cons_zero, List.set_cons_succ]; exact hK.out _ ⟨hS1, hS2⟩)
        | (refine if_wanted rfl ?_; go_simp; exact hK.out _ ⟨hS1, hS2⟩)
    · rfl
  intro wE hE
  have HSE := Lib.hid hE.1
  clear hE
  go_wp2
  go_ret2
  rw [HFIN.out]
  exact ⟨rfl, HSE.out.drop⟩
set_option maxRecDepth 100000 in
set_option maxHeartbeats 2000000 in
theorem from_2t_neg_F (v : Int) (l d p : Bs) (ec : Int) (t : Bs) (z : Int) (hz : z < -1) (hp : p.length ≤ 3000005) (hec : ec = 2) (HS0 : Hid (Sp w0 [] (w.alloc (.cells #[.int .i64 v, .string ⟨t.toArray⟩, .string ⟨l.toArray⟩, .string ⟨d.toArray⟩, .int .i64 z, .bool false] 131)) (boxR w.heap.size #[.int .i64 v, .string ⟨t.toArray⟩, .string ⟨l.toArray⟩, .string ⟨d.toArray⟩, .int .i64 z, .bool false] 131 :: L))) (HE : Hid (Env w0))
    (HR : Hid (Calls Tryz.prog 183 #[.agg #[.string ⟨l.toArray⟩, .string ⟨d.toArray⟩]] (w.alloc (.cells #[.int .i64 v, .string ⟨t.toArray⟩, .string ⟨l.toArray⟩, .string ⟨d.toArray⟩, .int .i64 z, .bool false] 131)) fun e w2 => e = .returned (.tuple #[.string ⟨p.toArray⟩, .int .i64 ec]) ∧ Sp w0 [] w2 (boxR w.heap.size #[.int .i64 v, .string ⟨t.toArray⟩, .string ⟨l.toArray⟩, .string ⟨d.toArray⟩, .int .i64 z, .bool false] 131 :: L))) :
    Calls Tryz.prog 172 #[.agg #[.int .i64 v, .string ⟨t.toArray⟩, .string ⟨l.toArray⟩, .string ⟨d.toArray⟩, .int .i64 z, .bool false]] w fun e w2 => e = .returned (.tuple #[.string ⟨(fromW ++ p).toArray⟩, .bool false]) ∧ Sp w0 [] w2 L := by
  subst hec
  obtain ⟨s1, hs1⟩ : ∃ s1, s1 = fromW ++ p := ⟨_, rfl⟩
  have hl1 : s1.length ≤ 3000011 := by rw [hs1]; simp [fromW]; omega
  have a1 := joined fromW p s1 hs1 (by simp [maxLen, fromW]; omega)
  unfold fromW at a1
  have H1 := Lib.hid hs1
  clear hs1
  have HFIN : Hid (fromW ++ p = s1) := by
    unfold Hid
    rw [← H1.out]
  have z1 : decide ((-1 : Int) ≤ z) = false := by simp <;> omega
  have z0 : decide ((0 : Int) ≤ z) = false := by simp <;> omega
  clear hp
  go_enter Tryz.func172, Tryz.ntmps172
  go_wp2_with fail
  refine HR.out.mono ?_
  generalize w.alloc (.cells #[.int .i64 v, .string ⟨t.toArray⟩, .string ⟨l.toArray⟩, .string ⟨d.toArray⟩, .int .i64 z, .bool false] 131) = w1 at *
  generalize w.heap.size = q at *
  rintro e w2 ⟨rfl, S2⟩
  have HS2 := Lib.hid S2
  have c2 := S2.cell
  clear S2 HR HS0
  go_wp2_with fail
  clear c2
  refine wp_region_text (S := fun wx => Sp w0 [] wx (boxR q #[.int .i64 v, .string ⟨t.toArray⟩, .string ⟨l.toArray⟩, .string ⟨d.toArray⟩, .int .i64 z, .bool false] 131 :: L) ∧ (∀ o, wx.cell? ⟨q, o, none⟩ = (#[.int .i64 v, .string ⟨t.toArray⟩, .string ⟨l.toArray⟩, .string ⟨d.toArray⟩, .int .i64 z, .bool false])[o]?)) (by kernel_rfl) (by kernel_rfl) ⟨(HS2.out).drew, (Sp.pick [_] [0] (by decide) ((HS2.out).drew)).cell⟩ ?_
  repeat
    refine Exists.intro ?_ (And.intro (fun wS hS K hK => ?_) (And.intro ?_ ?_))
    rotate_left 1
    · obtain ⟨hS1, hS2⟩ := hS
      first
        | (refine if_unwanted rfl ?_; simp only [Act.put, List.setIfInBounds_toArray, List.set_cons_zero, List.set_cons_succ]; exact hK.out _ ⟨hS1, hS2⟩)
        | (refine if_wanted rfl ?_; go_simp; exact hK.out _ ⟨hS1, hS2⟩)
    · rfl
  intro wE hE
  have HSE := Lib.hid hE.1
  clear hE
  go_wp2
  go_ret2
  rw [HFIN.out]
  exact ⟨rfl, HSE.out.drop⟩
set_option maxRecDepth 100000 in
set_option maxHeartbeats 2000000 in
theorem from_2t_m1_T (v : Int) (l d p : Bs) (ec : Int) (t : Bs) (hp : p.length ≤ 3000005) (hec : ec = 2) (HS0 : Hid (Sp w0 [] (w.alloc (.cells #[.int .i64 v, .string ⟨t.toArray⟩, .string ⟨l.toArray⟩, .string ⟨d.toArray⟩, .int .i64 (-1), .bool true] 131)) (boxR w.heap.size #[.int .i64 v, .string ⟨t.toArray⟩, .string ⟨l.toArray⟩, .string ⟨d.toArray⟩, .int .i64 (-1), .bool true] 131 :: L))) (HE : Hid (Env w0))
    (HR : Hid (Calls Tryz.prog 183 #[.agg #[.string ⟨l.toArray⟩, .string ⟨d.toArray⟩]] (w.alloc (.cells #[.int .i64 v, .string ⟨t.toArray⟩, .string ⟨l.toArray⟩, .string ⟨d.toArray⟩, .int .i64 (-1), .bool true] 131)) fun e w2 => e = .returned (.tuple #[.string ⟨p.toArray⟩, .int .i64 ec]) ∧ Sp w0 [] w2 (boxR w.heap.size #[.int .i64 v, .string ⟨t.toArray⟩, .string ⟨l.toArray⟩, .string ⟨d.toArray⟩, .int .i64 (-1), .bool true] 131 :: L))) :
    Calls Tryz.prog 172 #[.agg #[.int .i64 v, .string ⟨t.toArray⟩, .string ⟨l.toArray⟩, .string ⟨d.toArray⟩, .int .i64 (-1), .bool true]] w fun e w2 => e = .returned (.tuple #[.string ⟨(fromW ++ p ++ bodyW).toArray⟩, .bool false]) ∧ Sp w0 [] w2 L := by
  subst hec
  obtain ⟨s1, hs1⟩ : ∃ s1, s1 = fromW ++ p := ⟨_, rfl⟩
  have hl1 : s1.length ≤ 3000011 := by rw [hs1]; simp [fromW]; omega
  have a1 := joined fromW p s1 hs1 (by simp [maxLen, fromW]; omega)
  unfold fromW at a1
  have H1 := Lib.hid hs1
  clear hs1
  obtain ⟨s4, hs4⟩ : ∃ s4, s4 = s1 ++ bodyW := ⟨_, rfl⟩
  have a4 := joined s1 bodyW s4 hs4 (by simp [maxLen, bodyW]; omega)
  unfold bodyW at a4
  have H4 := Lib.hid hs4
  clear hs4
  have HFIN : Hid (fromW ++ p ++ bodyW = s4) := by
    unfold Hid
    rw [← H1.out, ← H4.out]
  clear hp
  go_enter Tryz.func172, Tryz.ntmps172
  go_wp2_with fail
  refine HR.out.mono ?_
  generalize w.alloc (.cells #[.int .i64 v, .string ⟨t.toArray⟩, .string ⟨l.toArray⟩, .string ⟨d.toArray⟩, .int .i64 (-1), .bool true] 131) = w1 at *
  generalize w.heap.size = q at *
  rintro e w2 ⟨rfl, S2⟩
  have HS2 := Lib.hid S2
  have c2 := S2.cell
  clear S2 HR HS0
  go_wp2_with fail
  clear c2
  refine wp_region_text (S := fun wx => Sp w0 [] wx (boxR q #[.int .i64 v, .string ⟨t.toArray⟩, .string ⟨l.toArray⟩, .string ⟨d.toArray⟩, .int .i64 (-1), .bool true] 131 :: L) ∧ (∀ o, wx.cell? ⟨q, o, none⟩ = (#[.int .i64 v, .string ⟨t.toArray⟩, .string ⟨l.toArray⟩, .string ⟨d.toArray⟩, .int .i64 (-1), .bool true])[o]?)) (by kernel_rfl) (by kernel_rfl) ⟨(HS2.out).drew, (Sp.pick [_] [0] (by decide) ((HS2.out).drew)).cell⟩ ?_
  repeat
    refine Exists.intro ?_ (And.intro (fun wS hS K hK => ?_) (And.intro ?_ ?_))
    rotate_left 1
    · obtain ⟨hS1, hS2⟩ := hS
      first
        | (refine if_unwanted rfl ?_; simp only [Act.put, List.setIfInBounds_toArray, List.set_cons_zero, List.set_cons_succ]; exact hK.out _ ⟨hS1, hS2⟩)
        | (refine if_wanted rfl ?_; go_simp; exact hK.out _ ⟨hS1, hS2⟩)
    · rfl
  intro wE hE
  have HSE := Lib.hid hE.1
  clear hE
  go_wp2
  go_ret2
  rw [HFIN.out]
  exact ⟨rfl, HSE.out.drop⟩
set_option maxRecDepth 100000 in
set_option maxHeartbeats 2000000 in
theorem from_2t_m1_F (v : Int) (l d p : Bs) (ec : Int) (t : Bs) (hp : p.length ≤ 3000005) (hec : ec = 2) (HS0 : Hid (Sp w0 [] (w.alloc (.cells #[.int .i64 v, .string ⟨t.toArray⟩, .string ⟨l.toArray⟩, .string ⟨d.toArray⟩, .int .i64 (-1), .bool false] 131)) (boxR w.heap.size #[.int .i64 v, .string ⟨t.toArray⟩, .string ⟨l.toArray⟩, .string ⟨d.toArray⟩, .int .i64 (-1), .bool false] 131 :: L))) (HE : Hid (Env w0))
    (HR : Hid (Calls Tryz.prog 183 #[.agg #[.string ⟨l.toArray⟩, .string ⟨d.toArray⟩]] (w.alloc (.cells #[.int .i64 v, .string ⟨t.toArray⟩, .string ⟨l.toArray⟩, .string ⟨d.toArray⟩, .int .i64 (-1), .bool false] 131)) fun e w2 => e = .returned (.tuple #[.string ⟨p.toArray⟩, .int .i64 ec]) ∧ Sp w0 [] w2 (boxR w.heap.size #[.int .i64 v, .string ⟨t.toArray⟩, .string ⟨l.toArray⟩, .string ⟨d.toArray⟩, .int .i64 (-1), .bool false] 131 :: L))) :
    Calls Tryz.prog 172 #[.agg #[.int .i64 v, .string ⟨t.toArray⟩, .string ⟨l.toArray⟩, .string ⟨d.toArray⟩, .int .i64 (-1), .bool false]] w fun e w2 => e = .returned (.tuple #[.string ⟨(fromW ++ p).toArray⟩, .bool false]) ∧ Sp w0 [] w2 L := by
  subst hec
  obtain ⟨s1, hs1⟩ : ∃ s1, s1 = fromW ++ p := ⟨_, rfl⟩
  have hl1 : s1.length ≤ 3000011 := by rw [hs1]; simp [fromW]; omega
  have a1 := joined fromW p s1 hs1 (by simp [maxLen, fromW]; omega)
  unfold fromW at a1
  have H1 := Lib.hid hs1
  clear hs1
  have HFIN : Hid (fromW ++ p = s1) := by
    unfold Hid
    rw [← H1.out]
  clear hp
  go_enter Tryz.func172, Tryz.ntmps172
  go_wp2_with fail
  refine HR.out.mono ?_
  generalize w.alloc (.cells #[.int .i64 v, .string ⟨t.toArray⟩, .string ⟨l.toArray⟩, .string ⟨d.toArray⟩, .int .i64 (-1), .bool false] 131) = w1 at *
  generalize w.heap.size = q at *
  rintro e w2 ⟨rfl, S2⟩
  have HS2 := Lib.hid S2
  have c2 := S2.cell
  clear S2 HR HS0
  go_wp2_with fail
  clear c2
  refine wp_region_text (S := fun wx => Sp w0 [] wx (boxR q #[.int .i64 v, .string ⟨t.toArray⟩, .string ⟨l.toArray⟩, .string ⟨d.toArray⟩, .int .i64 (-1), .bool false] 131 :: L) ∧ (∀ o, wx.cell? ⟨q, o, none⟩ = (#[.int .i64 v, .string ⟨t.toArray⟩, .string ⟨l.toArray⟩, .string ⟨d.toArray⟩, .int .i64 (-1), .bool false])[o]?)) (by kernel_rfl) (by kernel_rfl) ⟨(HS2.out).drew, (Sp.pick [_] [0] (by decide) ((HS2.out).drew)).cell⟩ ?_
  repeat
    refine Exists.intro ?_ (And.intro (fun wS hS K hK => ?_) (And.intro ?_ ?_))
    rotate_left 1
    · obtain ⟨hS1, hS2⟩ := hS
      first
        | (refine if_unwanted rfl ?_; simp only [Act.put, List.setIfInBounds_toArray, List.set_cons_zero, List.set_cons_succ]; exact hK.out _ ⟨hS1, hS2⟩)
        | (refine if_wanted rfl ?_; go_simp; exact hK.out _ ⟨hS1, hS2⟩)
    · rfl
  intro wE hE
  have HSE := Lib.hid hE.1
  clear hE
  go_wp2
  go_ret2
  rw [HFIN.out]
  exact ⟨rfl, HSE.out.drop⟩
set_option maxRecDepth 100000 in
set_option maxHeartbeats 2000000 in
theorem from_2t_ok_T (v : Int) (l d p : Bs) (ec : Int) (t : Bs) (n : Nat) (hn : (n : Int) ≤ 9223372036854775807) (hp : p.length ≤ 3000005) (hec : ec = 2) (HS0 : Hid (Sp w0 [] (w.alloc (.cells #[.int .i64 v, .string ⟨t.toArray⟩, .string ⟨l.toArray⟩, .string ⟨d.toArray⟩, .int .i64 n, .bool true] 131)) (boxR w.heap.size #[.int .i64 v, .string ⟨t.toArray⟩, .string ⟨l.toArray⟩, .string ⟨d.toArray⟩, .int .i64 n, .bool true] 131 :: L))) (HE : Hid (Env w0))
    (HR : Hid (Calls Tryz.prog 183 #[.agg #[.string ⟨l.toArray⟩, .string ⟨d.toArray⟩]] (w.alloc (.cells #[.int .i64 v, .string ⟨t.toArray⟩, .string ⟨l.toArray⟩, .string ⟨d.toArray⟩, .int .i64 n, .bool true] 131)) fun e w2 => e = .returned (.tuple #[.string ⟨p.toArray⟩, .int .i64 ec]) ∧ Sp w0 [] w2 (boxR w.heap.size #[.int .i64 v, .string ⟨t.toArray⟩, .string ⟨l.toArray⟩, .string ⟨d.toArray⟩, .int .i64 n, .bool true] 131 :: L))) :
    Calls Tryz.prog 172 #[.agg #[.int .i64 v, .string ⟨t.toArray⟩, .string ⟨l.toArray⟩, .string ⟨d.toArray⟩, .int .i64 n, .bool true]] w fun e w2 => e = .returned (.tuple #[.string ⟨(fromW ++ p ++ (sizeW ++ Lib.decDigits n) ++ bodyW).toArray⟩, .bool false]) ∧ Sp w0 [] w2 L := by
  subst hec
  obtain ⟨s1, hs1⟩ : ∃ s1, s1 = fromW ++ p := ⟨_, rfl⟩
  have hl1 : s1.length ≤ 3000011 := by rw [hs1]; simp [fromW]; omega
  have a1 := joined fromW p s1 hs1 (by simp [maxLen, fromW]; omega)
  unfold fromW at a1
  have H1 := Lib.hid hs1
  clear hs1
  have hdl := dec_len20 hn
  obtain ⟨D, hD⟩ : ∃ D, D = Lib.decDigits n := ⟨_, rfl⟩
  obtain ⟨s2, hs2⟩ : ∃ s2, s2 = sizeW ++ D := ⟨_, rfl⟩
  have hl2 : s2.length ≤ 26 := by rw [hs2, hD]; simp [sizeW]; omega
  have a2 := joined sizeW D s2 hs2 (by rw [hD]; simp [maxLen, sizeW]; omega)
  unfold sizeW at a2
  obtain ⟨s3, hs3⟩ : ∃ s3, s3 = s1 ++ s2 := ⟨_, rfl⟩
  have hl3 : s3.length ≤ 4000000 := by rw [hs3]; simp; omega
  have a3 := joined s1 s2 s3 hs3 (by simp [maxLen]; omega)
  have H2 := Lib.hid hs2
  have H3 := Lib.hid hs3
  have HDD := Lib.hid hD
  have HN := Lib.hid hn
  clear hs2 hs3 hD hdl hl2
  obtain ⟨s4, hs4⟩ : ∃ s4, s4 = s3 ++ bodyW := ⟨_, rfl⟩
  have a4 := joined s3 bodyW s4 hs4 (by simp [maxLen, bodyW]; omega)
  unfold bodyW at a4
  have H4 := Lib.hid hs4
  clear hs4
  have HFIN : Hid (fromW ++ p ++ (sizeW ++ Lib.decDigits n) ++ bodyW = s4) := by
    unfold Hid
    rw [← H1.out, ← HDD.out, ← H2.out, ← H3.out, ← H4.out]
  have z1 : decide ((-1 : Int) ≤ (n : Int)) = true := by simp <;> omega
  clear hp
  go_enter Tryz.func172, Tryz.ntmps172
  go_wp2_with fail
  refine HR.out.mono ?_
  generalize w.alloc (.cells #[.int .i64 v, .string ⟨t.toArray⟩, .string ⟨l.toArray⟩, .string ⟨d.toArray⟩, .int .i64 n, .bool true] 131) = w1 at *
  generalize w.heap.size = q at *
  rintro e w2 ⟨rfl, S2⟩
  have HS2 := Lib.hid S2
  have c2 := S2.cell
  clear S2 HR HS0
  go_wp2_with fail
  refine (formatS n HN.out HS2.out HE.out).mono ?_
  rw [← HDD.out]
  rintro e w3 ⟨rfl, S3⟩
  have HS3 := Lib.hid S3
  clear c2
  have c2 := S3.cell
  clear S3
  go_wp2_with fail
  clear c2
  refine wp_region_text (S := fun wx => Sp w0 [] wx (boxR q #[.int .i64 v, .string ⟨t.toArray⟩, .string ⟨l.toArray⟩, .string ⟨d.toArray⟩, .int .i64 n, .bool true] 131 :: L) ∧ (∀ o, wx.cell? ⟨q, o, none⟩ = (#[.int .i64 v, .string ⟨t.toArray⟩, .string ⟨l.toArray⟩, .string ⟨d.toArray⟩, .int .i64 n, .bool true])[o]?)) (by kernel_rfl) (by kernel_rfl) ⟨(HS3.out).drew, (Sp.pick [_] [0] (by decide) ((HS3.out).drew)).cell⟩ ?_
  repeat
    refine Exists.intro ?_ (And.intro (fun wS hS K hK => ?_) (And.intro ?_ ?_))
    rotate_left 1
    · obtain ⟨hS1, hS2⟩ := hS
      first
        | (refine if_unwanted rfl ?_; simp only [Act.put, List.setIfInBounds_toArray, List.set_cons_zero, List.set_cons_succ]; exact hK.out _ ⟨hS1, hS2⟩)
        | (refine if_wanted rfl ?_; go_simp; exact hK.out _ ⟨hS1, hS2⟩)
    · rfl
  intro wE hE
  have HSE := Lib.hid hE.1
  clear hE
  go_wp2
  go_ret2
  rw [HFIN.out]
  exact ⟨rfl, HSE.out.drop⟩
set_option maxRecDepth 100000 in
set_option maxHeartbeats 2000000 in
theorem from_2t_ok_F (v : Int) (l d p : Bs) (ec : Int) (t : Bs) (n : Nat) (hn : (n : Int) ≤ 9223372036854775807) (hp : p.length ≤ 3000005) (hec : ec = 2) (HS0 : Hid (Sp w0 [] (w.alloc (.cells #[.int .i64 v, .string ⟨t.toArray⟩, .string ⟨l.toArray⟩, .string ⟨d.toArray⟩, .int .i64 n, .bool false] 131)) (boxR w.heap.size #[.int .i64 v, .string ⟨t.toArray⟩, .string ⟨l.toArray⟩, .string ⟨d.toArray⟩, .int .i64 n, .bool false] 131 :: L))) (HE : Hid (Env w0))
    (HR : Hid (Calls Tryz.prog 183 #[.agg #[.string ⟨l.toArray⟩, .string ⟨d.toArray⟩]] (w.alloc (.cells #[.int .i64 v, .string ⟨t.toArray⟩, .string ⟨l.toArray⟩, .string ⟨d.toArray⟩, .int .i64 n, .bool false] 131)) fun e w2 => e = .returned (.tuple #[.string ⟨p.toArray⟩, .int .i64 ec]) ∧ Sp w0 [] w2 (boxR w.heap.size #[.int .i64 v, .string ⟨t.toArray⟩, .string ⟨l.toArray⟩, .string ⟨d.toArray⟩, .int .i64 n, .bool false] 131 :: L))) :
    Calls Tryz.prog 172 #[.agg #[.int .i64 v, .string ⟨t.toArray⟩, .string ⟨l.toArray⟩, .string ⟨d.toArray⟩, .int .i64 n, .bool false]] w fun e w2 => e = .returned (.tuple #[.string ⟨(fromW ++ p ++ (sizeW ++ Lib.decDigits n)).toArray⟩, .bool false]) ∧ Sp w0 [] w2 L := by
  subst hec
  obtain ⟨s1, hs1⟩ : ∃ s1, s1 = fromW ++ p := ⟨_, rfl⟩
  have hl1 : s1.length ≤ 3000011 := by rw [hs1]; simp [fromW]; omega
  have a1 := joined fromW p s1 hs1 (by simp [maxLen, fromW]; omega)
  unfold fromW at a1
  have H1 := Lib.hid hs1
  clear hs1
  have hdl := dec_len20 hn
  obtain ⟨D, hD⟩ : ∃ D, D = Lib.decDigits n := ⟨_, rfl⟩
  obtain ⟨s2, hs2⟩ : ∃ s2, s2 = sizeW ++ D := ⟨_, rfl⟩
  have hl2 : s2.length ≤ 26 := by rw [hs2, hD]; simp [sizeW]; omega
  have a2 := joined sizeW D s2 hs2 (by rw [hD]; simp [maxLen, sizeW]; omega)
  unfold sizeW at a2
  obtain ⟨s3, hs3⟩ : ∃ s3, s3 = s1 ++ s2 := ⟨_, rfl⟩
  have hl3 : s3.length ≤ 4000000 := by rw [hs3]; simp; omega
  have a3 := joined s1 s2 s3 hs3 (by simp [maxLen]; omega)
  have H2 := Lib.hid hs2
  have H3 := Lib.hid hs3
  have HDD := Lib.hid hD
  have HN := Lib.hid hn
  clear hs2 hs3 hD hdl hl2
  have HFIN : Hid (fromW ++ p ++ (sizeW ++ Lib.decDigits n) = s3) := by
    unfold Hid
    rw [← H1.out, ← HDD.out, ← H2.out, ← H3.out]
  have z1 : decide ((-1 : Int) ≤ (n : Int)) = true := by simp <;> omega
  clear hp
  go_enter Tryz.func172, Tryz.ntmps172
  go_wp2_with fail
  refine HR.out.mono ?_
  generalize w.alloc (.cells #[.int .i64 v, .string ⟨t.toArray⟩, .string ⟨l.toArray⟩, .string ⟨d.toArray⟩, .int .i64 n, .bool false] 131) = w1 at *
  generalize w.heap.size = q at *
  rintro e w2 ⟨rfl, S2⟩
  have HS2 := Lib.hid S2
  have c2 := S2.cell
  clear S2 HR HS0
  go_wp2_with fail
  refine (formatS n HN.out HS2.out HE.out).mono ?_
  rw [← HDD.out]
  rintro e w3 ⟨rfl, S3⟩
  have HS3 := Lib.hid S3
  clear c2
  have c2 := S3.cell
  clear S3
  go_wp2_with fail
  clear c2
  refine wp_region_text (S := fun wx => Sp w0 [] wx (boxR q #[.int .i64 v, .string ⟨t.toArray⟩, .string ⟨l.toArray⟩, .string ⟨d.toArray⟩, .int .i64 n, .bool false] 131 :: L) ∧ (∀ o, wx.cell? ⟨q, o, none⟩ = (#[.int .i64 v, .string ⟨t.toArray⟩, .string ⟨l.toArray⟩, .string ⟨d.toArray⟩, .int .i64 n, .bool false])[o]?)) (by kernel_rfl) (by kernel_rfl) ⟨(HS3.out).drew, (Sp.pick [_] [0] (by decide) ((HS3.out).drew)).cell⟩ ?_
  repeat
    refine Exists.intro ?_ (And.intro (fun wS hS K hK => ?_) (And.intro ?_ ?_))
    rotate_left 1
    · obtain ⟨hS1, hS2⟩ := hS
      first
        | (refine if_unwanted rfl ?_; simp only [Act.put, List.setIfInBounds_toArray, List.set_cons_zero, List.set_cons_succ]; exact hK.out _ ⟨hS1, hS2⟩)
        | (refine if_wanted rfl ?_; go_simp; exact hK.out _ ⟨hS1, hS2⟩)
    · rfl
  intro wE hE
  have HSE := Lib.hid hE.1
  clear hE
  go_wp2
  go_ret2
  rw [HFIN.out]
  exact ⟨rfl, HSE.out.drop⟩
end
end Go.Proofs.YtapenolbbofjkaaGreatDoor
