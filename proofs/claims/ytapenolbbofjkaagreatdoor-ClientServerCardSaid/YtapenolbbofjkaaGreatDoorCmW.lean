/- cmd: printed, great, bare. Conditions: the lengths fit. cmd: said, greeting, to. Conditions: the lengths fit; what Go's variables hold. cmd: greeting, to, from. Conditions: the lengths fit; what Go's variables hold. cmd: to. Conditions: the lengths fit; what Go's variables hold. -/
import Derived.Test.YtapenolbbofjkaaGreatDoorCmP
import Derived.Test.YtapenolbbofjkaaGreatDoorAdV
/-! CmW -/
set_option linter.unusedSimpArgs false
set_option linter.unusedVariables false
set_option linter.unnecessarySimpa false
namespace Go.Proofs.YtapenolbbofjkaaGreatDoor
open Go.RowKit

section
variable {w0 w : World} {L : List Res}
theorem up_val (c : UInt8) (h1 : 97 ≤ c.toNat) (h2 : c.toNat ≤ 122) : (.int .u8 ((c.toNat : Int) - 97 + 65) : Value) = bv (upB c) := by
  have : (upB c).toNat = c.toNat - 32 := by
    unfold upB
    rw [if_pos ⟨h1, h2⟩]
    rw [UInt8.toNat_sub]
    show (2 ^ 8 - 32 + c.toNat) % 2 ^ 8 = _
    omega
  rw [bv_eq, this]
  congr 1
  omega
def upTo (s : Bs) (k : Nat) : Bs := greatB (s.take k) ++ s.drop k
theorem upTo_len (s : Bs) (k : Nat) : (upTo s k).length = s.length := by simp [upTo, greatB]; omega
theorem upTo_at (s : Bs) (k : Nat) (h : k < s.length) : (upTo s k)[k]'(by rw [upTo_len]; exact h) = s[k] := by
  unfold upTo
  rw [List.getElem_append_right (by simp [greatB]; omega)]
  simp [greatB, Nat.min_eq_left (Nat.le_of_lt h)]
theorem upTo_next (s : Bs) (k : Nat) (h : k < s.length) : upTo s (k + 1) = (upTo s k).set k (upB s[k]) := by
  unfold upTo
  rw [List.take_succ_eq_append_getElem h]
  have e1 : greatB (s.take k ++ [s[k]]) = greatB (s.take k) ++ [upB s[k]] := by unfold greatB; rw [List.map_append]; rfl
  have e2 : (greatB (s.take k)).length = k := by simp [greatB]; omega
  rw [e1, List.set_append_right _ _ (by omega), e2, Nat.sub_self, List.append_assoc]
  congr 1
  rw [List.drop_eq_getElem_cons h]
  rfl
theorem upTo_same (s : Bs) (k : Nat) (h : k < s.length) (hc : upB s[k] = s[k]) : upTo s (k + 1) = upTo s k := by
  rw [upTo_next s k h, hc, ← upTo_at s k h]
  simp
theorem upTo_all (s : Bs) : upTo s s.length = greatB s := by simp [upTo]
set_option maxRecDepth 100000 in
set_option maxHeartbeats 2000000 in
theorem great_any (s : Bs) (w : World) (hs : s.length ≤ 1000000) : Calls Tryz.prog 116 #[.string ⟨s.toArray⟩] w fun e w2 => e = .returned (.string ⟨(greatB s).toArray⟩) ∧ Ext [] w w2 := by
  have hcv := Lib.run_convert_string_bytes (P := Tryz.prog) w 9 117 5 ⟨s.toArray⟩ Tryz.underlying9 Tryz.underlying117 Tryz.underlying5
  have HS0 := Lib.hid ((Sp.nil w []).conv s)
  rw [show (ByteArray.mk s.toArray).size = s.length from rfl] at hcv
  have hs' : (s.length : Int) ≤ 1000000 := by omega
  go_enter Tryz.func116, Tryz.ntmps116
  go_wp2_with fail
  generalize Lib.bytesWorld w 5 ⟨s.toArray⟩ = w1 at *
  generalize w.heap.size = g at *
  generalize grownCap w s.length 0 5 = cap at *
  clear hcv
  go_loopw [10] (fun i wr => ∃ k : Nat, i = .int .i64 k ∧ k ≤ s.length ∧ Sp w [] wr (convR g (upTo s k) :: [])) (fun i _ => s.length - (intOf i).toNat)
  case atStart => exact ⟨0, rfl, Nat.zero_le _, HS0.out⟩
  case round =>
    clear HS0
    obtain ⟨k, rfl, hk, S⟩ := hrel
    have HS := Lib.hid S
    clear S
    by_cases hlt : k < s.length
    · have hlt' : (k : Int) < s.length := by omega
      have hcell := HS.out.convCell k (by rw [upTo_len]; exact hlt)
      have hfree := HS.out.convFree k (by rw [upTo_len]; exact hlt)
      rw [upTo_at s k hlt, bv_eq] at hcell
      have HN := Lib.hid (upTo_next s k hlt)
      have HSM := Lib.hid (upTo_same s k hlt)
      have HLOW := Lib.hid (up_val s[k])
      have HLN : Hid (¬(97 ≤ s[k].toNat ∧ s[k].toNat ≤ 122) → upB s[k] = s[k]) := fun h => by unfold upB; rw [if_neg h]
      have HSET := Lib.hid (HS.out.convSet k (by rw [upTo_len]; exact hlt) (upB s[k]))
      generalize s[k] = c at *
      have hc9 := c.toNat_lt
      by_cases hup : 97 ≤ c.toNat ∧ c.toNat ≤ 122
      · have h1 : (97 : Int) ≤ c.toNat := by omega
        have h2 : (c.toNat : Int) ≤ 122 := by omega
        have HL := Lib.hid (HLOW.out hup.1 hup.2)
        clear hup hc9
        go_wp2
        rw [HL.out]
        go_roundw
        case rel => exact ⟨k + 1, by go_num, by omega, by rw [HN.out]; exact HSET.out⟩
        case measure => simp [intOf]; omega
      · have HSA := Lib.hid (HSM.out (HLN.out hup))
        have hor : (c.toNat : Int) < 97 ∨ (122 : Int) < c.toNat := by omega
        clear hup
        rcases hor with h1 | h1
        · go_wp2
          go_roundw
          case rel => exact ⟨k + 1, by go_num, by omega, by rw [HSA.out]; exact HS.out⟩
          case measure => simp [intOf]; omega
        · have h2 : (97 : Int) ≤ c.toNat := by omega
          go_wp2
          go_roundw
          case rel => exact ⟨k + 1, by go_num, by omega, by rw [HSA.out]; exact HS.out⟩
          case measure => simp [intOf]; omega
    · obtain rfl : k = s.length := by omega
      have hb := HS.out.convBack cap
      rw [upTo_len, upTo_all] at hb
      go_wp2
      go_ret
      exact ⟨rfl, HS.out.ext⟩

set_option maxRecDepth 100000 in
set_option maxHeartbeats 1000000 in
theorem printed_any (s : Bs) (w : World) (hs : s.length ≤ 1000000) : Calls Tryz.prog 51 #[.string ⟨s.toArray⟩] w fun e w2 => e = .returned (.bool (printB s)) ∧ w = w2 := by
  have hs' : (s.length : Int) ≤ 1000000 := by omega
  clear hs
  go_enter Tryz.func51, Tryz.ntmps51
  go_wp2_with fail
  go_loop [6] (fun i => ∃ k : Nat, i = .int .i64 k ∧ k ≤ s.length ∧ (s.take k).all shownB = true) (fun i => s.length - (intOf i).toNat)
  case atStart => exact ⟨0, rfl, Nat.zero_le _, rfl⟩
  case round =>
    obtain ⟨k, rfl, hk, hall⟩ := hrel
    have HALL := Lib.hid hall
    clear hall
    by_cases hlt : k < s.length
    · have hlt' : (k : Int) < s.length := by omega
      have hix := fun w => idx_at s k hlt (k : Int) rfl w
      have HST : Hid (s.take (k + 1) = s.take k ++ [s[k]]) := List.take_succ_eq_append_getElem hlt
      have HNO : Hid (shownB s[k] = false → printB s = false) := fun h => by
        unfold printB
        rw [← Bool.not_eq_true, List.all_eq_true]
        intro h2
        have := h2 s[k] (List.getElem_mem hlt)
        rw [h] at this
        cases this
      generalize s[k] = c at *
      have hc9 := c.toNat_lt
      by_cases hc : 32 ≤ c.toNat ∧ c.toNat ≤ 126
      · have HC : Hid (shownB c = true) := by unfold Hid shownB; simp [hc]
        have h1 : (32 : Int) ≤ c.toNat := by omega
        have h2 : (c.toNat : Int) ≤ 126 := by omega
        clear hc
        go_wp2
        go_round
        case rel => exact ⟨k + 1, by go_num, by omega, by rw [HST.out, List.all_append, HALL.out]; simp [HC.out]⟩
        case measure => simp [intOf]; omega
      · have HV := Lib.hid (HNO.out (by unfold shownB; simp; omega))
        have hor : (c.toNat : Int) < 32 ∨ ((32 : Int) ≤ c.toNat ∧ (126 : Int) < c.toNat) := by omega
        clear hc
        rcases hor with h1 | ⟨h1, h2⟩
        · go_wp2
          go_ret
          exact ⟨ret_bool HV.out.symm, rfl⟩
        · go_wp2
          go_ret
          exact ⟨ret_bool HV.out.symm, rfl⟩
    · have HV : Hid (printB s = true) := by
        have := HALL.out
        rw [List.take_of_length_le (by omega)] at this
        exact this
      go_wp2
      go_ret
      exact ⟨ret_bool HV.out.symm, rfl⟩
/-- A command as a value, and in a block. -/
def cmAgg (c : Cm) : Value := .agg #[.int .i64 c.verb, .string ⟨c.text.toArray⟩, .string ⟨c.box.1.toArray⟩, .string ⟨c.box.2.toArray⟩, .int .i64 c.size, .bool c.eight]
def cmCells (c : Cm) : Array Value := #[.int .i64 c.verb, .string ⟨c.text.toArray⟩, .string ⟨c.box.1.toArray⟩, .string ⟨c.box.2.toArray⟩, .int .i64 c.size, .bool c.eight]
set_option maxRecDepth 100000 in
set_option maxHeartbeats 1000000 in
theorem bare_any (c : Cm) (w : World) : Calls Tryz.prog 175 #[cmAgg c] w fun e w2 => e = .returned (.bool (bareC c)) ∧ Ext [] w w2 := by
  obtain ⟨v, t, ⟨l, d⟩, z, e8⟩ := c
  unfold cmAgg
  dsimp only
  have HV : Hid (bareC ⟨v, t, (l, d), z, e8⟩ = (t == [] && ((l == [] && d == []) && !e8))) := rfl
  go_enter Tryz.func175, Tryz.ntmps175
  go_wp2
  all_goals (go_ret; refine ⟨ret_bool ?_, (Ext.refl _ _).alloc _⟩; rw [HV.out]; simp [*])
end
end Go.Proofs.YtapenolbbofjkaaGreatDoor

/-! CmW2 -/
namespace Go.Proofs.YtapenolbbofjkaaGreatDoor
open Go.RowKit

section
variable {w0 w : World} {L : List Res}
theorem trimS1 (s : Bs) (S : Sp w0 [] w L) (hs : s.length ≤ 1000000) : Calls Tryz.prog 149 #[.string ⟨s.toArray⟩, .string ⟨#[32]⟩] w fun e w2 => e = .returned (.string ⟨(trimSp s).toArray⟩) ∧ Sp w0 [] w2 L :=
  (Tryz.strings_Trim_one ⟨s.toArray⟩ 32 (by decide) w (by show s.length ≤ _; omega)).mono fun _ _ ⟨he, hw⟩ => ⟨he, hw.elim (fun h => h ▸ S) (fun h => h ▸ S.drew)⟩
theorem trimLS (s : Bs) (w : World) : Calls Tryz.prog 154 #[.string ⟨s.toArray⟩, .string ⟨#[32]⟩] w fun e w2 => e = .returned (.string ⟨(spR s).toArray⟩) ∧ w = w2 :=
  (Tryz.strings_TrimLeft_one ⟨s.toArray⟩ 32 (by decide) w).mono fun _ _ ⟨he, hw⟩ => ⟨he, hw.symm⟩
theorem bareS (c : Cm) (S : Sp w0 [] w L) : Calls Tryz.prog 175 #[cmAgg c] w fun e w2 => e = .returned (.bool (bareC c)) ∧ Sp w0 [] w2 L :=
  (bare_any c w).mono fun _ _ ⟨he, hx⟩ => ⟨he, S.ext0 hx⟩
theorem printedS (s : Bs) (S : Sp w0 [] w L) (hs : s.length ≤ 1000000) : Calls Tryz.prog 51 #[.string ⟨s.toArray⟩] w fun e w2 => e = .returned (.bool (printB s)) ∧ Sp w0 [] w2 L :=
  (printed_any s w hs).mono fun _ _ ⟨he, hw⟩ => ⟨he, hw ▸ S⟩
set_option maxRecDepth 100000 in
set_option maxHeartbeats 2000000 in
theorem saidS (c : Cm) (S : Sp w0 [] w L) (hs : c.text.length ≤ 1000000) : Calls Tryz.prog 174 #[cmAgg c] w fun e w2 => e = .returned (.bool (saidC c)) ∧ Sp w0 [] w2 L := by
  have HS0 := Lib.hid (S.box (cmCells c) 131)
  obtain ⟨v, t, ⟨l, d⟩, z, e8⟩ := c
  have HV : Hid (saidC ⟨v, t, (l, d), z, e8⟩ = (printB t && (trimSp t == t && bareC ⟨0, [], (l, d), 0, e8⟩))) := by
    unfold Hid saidC bareC
    simp
  have HL : Hid (t.length ≤ 1000000) := hs
  unfold cmCells at HS0
  unfold cmAgg
  dsimp only at *
  clear S hs
  cases hp : printB t with
  | false =>
    have HP := Lib.hid hp
    clear hp
    go_enter Tryz.func174, Tryz.ntmps174
    go_wp2_with fail
    generalize w.alloc (.cells #[.int .i64 v, .string ⟨t.toArray⟩, .string ⟨l.toArray⟩, .string ⟨d.toArray⟩, .int .i64 z, .bool e8] 131) = w1 at *
    generalize w.heap.size = q at *
    refine wp_region_text (S := fun wx => Sp w0 [] wx (boxR q #[.int .i64 v, .string ⟨t.toArray⟩, .string ⟨l.toArray⟩, .string ⟨d.toArray⟩, .int .i64 z, .bool e8] 131 :: L) ∧ (∀ o, wx.cell? ⟨q, o, none⟩ = (#[.int .i64 v, .string ⟨t.toArray⟩, .string ⟨l.toArray⟩, .string ⟨d.toArray⟩, .int .i64 z, .bool e8])[o]?)) (by kernel_rfl) (by kernel_rfl) ⟨(HS0.out).drew, (Sp.pick [_] [0] (by decide) ((HS0.out).drew)).cell⟩ ?_
    repeat
      refine Exists.intro ?_ (And.intro (fun wS hS K hK => ?_) (And.intro ?_ ?_))
      rotate_left 1
      · obtain ⟨hS1, hS2⟩ := hS
        first
          | (refine if_unwanted rfl ?_; simp only [Act.put, List.setIfInBounds_toArray, List.set_cons_zero, List.set_cons_succ]; exact hK.out _ ⟨hS1, hS2⟩)
          | (refine if_wanted rfl ?_; go_simp; exact hK.out _ ⟨hS1, hS2⟩)
          | (refine if_wanted rfl ?_; go_simp; go_at_call 51; refine (printedS t hS1 HL.out).mono ?_; rw [HP.out]; rintro e w12 ⟨rfl, S12⟩; exact hK.out _ ⟨S12, (Sp.pick [_] [0] (by decide) (S12)).cell⟩)
      · rfl
    intro wE hE
    have HSE := Lib.hid hE.1
    clear hE
    go_wp2
    go_ret
    refine ⟨ret_bool ?_, HSE.out.drop⟩
    rw [HV.out, HP.out]; rfl
  | true =>
    have HP := Lib.hid hp
    clear hp
    by_cases ht : trimSp t = t
    · have t1 : (trimSp t == t) = true := by simpa using ht
      have HT := Lib.hid ht
      clear ht
      go_enter Tryz.func174, Tryz.ntmps174
      go_wp2_with fail
      generalize w.alloc (.cells #[.int .i64 v, .string ⟨t.toArray⟩, .string ⟨l.toArray⟩, .string ⟨d.toArray⟩, .int .i64 z, .bool e8] 131) = w1 at *
      generalize w.heap.size = q at *
      refine wp_region_text (S := fun wx => Sp w0 [] wx (boxR q #[.int .i64 v, .string ⟨t.toArray⟩, .string ⟨l.toArray⟩, .string ⟨d.toArray⟩, .int .i64 z, .bool e8] 131 :: L) ∧ (∀ o, wx.cell? ⟨q, o, none⟩ = (#[.int .i64 v, .string ⟨t.toArray⟩, .string ⟨l.toArray⟩, .string ⟨d.toArray⟩, .int .i64 z, .bool e8])[o]?)) (by kernel_rfl) (by kernel_rfl) ⟨(HS0.out).drew, (Sp.pick [_] [0] (by decide) ((HS0.out).drew)).cell⟩ ?_
      repeat
        refine Exists.intro ?_ (And.intro (fun wS hS K hK => ?_) (And.intro ?_ ?_))
        rotate_left 1
        · obtain ⟨hS1, hS2⟩ := hS
          first
            | (refine if_unwanted rfl ?_; simp only [Act.put, List.setIfInBounds_toArray, List.set_cons_zero, List.set_cons_succ]; exact hK.out _ ⟨hS1, hS2⟩)
            | (refine if_wanted rfl ?_; go_simp; exact hK.out _ ⟨hS1, hS2⟩)
            | (refine if_wanted rfl ?_; go_simp; go_at_call 51; refine (printedS t hS1 HL.out).mono ?_; rw [HP.out]; rintro e w12 ⟨rfl, S12⟩; exact hK.out _ ⟨S12, (Sp.pick [_] [0] (by decide) (S12)).cell⟩)
            | (refine if_wanted rfl ?_; go_simp; go_at_call 149; refine (trimS1 t hS1 HL.out).mono ?_; rw [HT.out]; rintro e w12 ⟨rfl, S12⟩; exact hK.out _ ⟨S12, (Sp.pick [_] [0] (by decide) (S12)).cell⟩)
            | (refine if_wanted rfl ?_; go_simp; go_at_call 175; refine (bareS ⟨0, [], (l, d), 0, e8⟩ hS1).mono ?_; rintro e w12 ⟨rfl, S12⟩; exact hK.out _ ⟨S12, (Sp.pick [_] [0] (by decide) (S12)).cell⟩)
        · rfl
      intro wE hE
      have HSE := Lib.hid hE.1
      clear hE
      go_wp2
      go_ret
      refine ⟨ret_bool ?_, HSE.out.drop⟩
      rw [HV.out, HP.out, HT.out]; simp
    · have t1 : (trimSp t == t) = false := by simpa using ht
      have HT := Lib.hid t1
      clear ht
      go_enter Tryz.func174, Tryz.ntmps174
      go_wp2_with fail
      generalize w.alloc (.cells #[.int .i64 v, .string ⟨t.toArray⟩, .string ⟨l.toArray⟩, .string ⟨d.toArray⟩, .int .i64 z, .bool e8] 131) = w1 at *
      generalize w.heap.size = q at *
      refine wp_region_text (S := fun wx => Sp w0 [] wx (boxR q #[.int .i64 v, .string ⟨t.toArray⟩, .string ⟨l.toArray⟩, .string ⟨d.toArray⟩, .int .i64 z, .bool e8] 131 :: L) ∧ (∀ o, wx.cell? ⟨q, o, none⟩ = (#[.int .i64 v, .string ⟨t.toArray⟩, .string ⟨l.toArray⟩, .string ⟨d.toArray⟩, .int .i64 z, .bool e8])[o]?)) (by kernel_rfl) (by kernel_rfl) ⟨(HS0.out).drew, (Sp.pick [_] [0] (by decide) ((HS0.out).drew)).cell⟩ ?_
      repeat
        refine Exists.intro ?_ (And.intro (fun wS hS K hK => ?_) (And.intro ?_ ?_))
        rotate_left 1
        · obtain ⟨hS1, hS2⟩ := hS
          first
            | (refine if_unwanted rfl ?_; simp only [Act.put, List.setIfInBounds_toArray, List.set_cons_zero, List.set_cons_succ]; exact hK.out _ ⟨hS1, hS2⟩)
            | (refine if_wanted rfl ?_; go_simp; exact hK.out _ ⟨hS1, hS2⟩)
            | (refine if_wanted rfl ?_; go_simp; go_at_call 51; refine (printedS t hS1 HL.out).mono ?_; rw [HP.out]; rintro e w12 ⟨rfl, S12⟩; exact hK.out _ ⟨S12, (Sp.pick [_] [0] (by decide) (S12)).cell⟩)
            | (refine if_wanted rfl ?_; go_simp; go_at_call 149; refine (trimS1 t hS1 HL.out).mono ?_; rintro e w12 ⟨rfl, S12⟩; exact hK.out _ ⟨S12, (Sp.pick [_] [0] (by decide) (S12)).cell⟩)
        · rfl
      intro wE hE
      have HSE := Lib.hid hE.1
      clear hE
      go_wp2
      go_ret
      refine ⟨ret_bool ?_, HSE.out.drop⟩
      rw [HV.out, HP.out, HT.out]; rfl
end
end Go.Proofs.YtapenolbbofjkaaGreatDoor

/-! CmW3 -/
namespace Go.Proofs.YtapenolbbofjkaaGreatDoor
open Go.RowKit

section
variable {w0 w : World} {L : List Res}
theorem domV_two (s : Bs) : (domOk s = true ∧ domV s = (smallB s, 0)) ∨ (domOk s = false ∧ domV s = ([], 2)) := by
  unfold domV
  cases domOk s with
  | true => exact .inl ⟨rfl, rfl⟩
  | false => exact .inr ⟨rfl, rfl⟩
set_option maxRecDepth 100000 in
set_option maxHeartbeats 2000000 in
theorem greetingS (c : Cm) (S : Sp w0 [] w L) (E : Env w0) (hs : c.text.length ≤ 1000000) : Calls Tryz.prog 171 #[cmAgg c] w fun e w2 => e = .returned (.tuple #[.string ⟨(greetC c).1.toArray⟩, .bool (greetC c).2]) ∧ Sp w0 [] w2 L := by
  have HS0 := Lib.hid (S.box (cmCells c) 131)
  obtain ⟨v, t, ⟨l, d⟩, z, e8⟩ := c
  have HV : Hid (greetC ⟨v, t, (l, d), z, e8⟩ = (32 :: t, (domV t).2 == 0 && ((domV t).1 == t && bareC ⟨0, [], (l, d), 0, e8⟩))) := by
    unfold Hid greetC bareC
    simp
  have a1 := add_str [32] t (by have : t.length ≤ 1000000 := hs; simp [maxLen]; omega)
  unfold cmCells at HS0
  unfold cmAgg
  dsimp only at *
  have HR := Lib.hid (domainS t HS0.out E hs)
  clear S hs E
  go_enter Tryz.func171, Tryz.ntmps171
  go_wp2_with fail
  refine HR.out.mono ?_
  generalize w.alloc (.cells #[.int .i64 v, .string ⟨t.toArray⟩, .string ⟨l.toArray⟩, .string ⟨d.toArray⟩, .int .i64 z, .bool e8] 131) = w1 at *
  generalize w.heap.size = q at *
  rcases domV_two t with ⟨_, hd⟩ | ⟨_, hd⟩
  · rw [hd]
    have HDV := Lib.hid hd
    clear hd
    rintro e w2 ⟨rfl, S2⟩
    have HS2 := Lib.hid S2
    clear S2 HR
    by_cases ht : smallB t = t
    · have t1 : (smallB t == t) = true := by simpa using ht
      have HT := Lib.hid ht
      rw [ht]
      clear ht
      go_wp2_with fail
      refine wp_region_text (S := fun wx => Sp w0 [] wx (boxR q #[.int .i64 v, .string ⟨t.toArray⟩, .string ⟨l.toArray⟩, .string ⟨d.toArray⟩, .int .i64 z, .bool e8] 131 :: L) ∧ (∀ o, wx.cell? ⟨q, o, none⟩ = (#[.int .i64 v, .string ⟨t.toArray⟩, .string ⟨l.toArray⟩, .string ⟨d.toArray⟩, .int .i64 z, .bool e8])[o]?)) (by kernel_rfl) (by kernel_rfl) ⟨(HS2.out).drew, (Sp.pick [_] [0] (by decide) ((HS2.out).drew)).cell⟩ ?_
      repeat
        refine Exists.intro ?_ (And.intro (fun wS hS K hK => ?_) (And.intro ?_ ?_))
        rotate_left 1
        · obtain ⟨hS1, hS2⟩ := hS
          first
            | (refine if_unwanted rfl ?_; simp only [Act.put, List.setIfInBounds_toArray, List.set_cons_zero, List.set_cons_succ]; exact hK.out _ ⟨hS1, hS2⟩)
            | (refine if_wanted rfl ?_; go_simp; exact hK.out _ ⟨hS1, hS2⟩)
            | (refine if_wanted rfl ?_; go_simp; go_at_call 175; refine (bareS ⟨0, [], (l, d), 0, e8⟩ hS1).mono ?_; rintro e w12 ⟨rfl, S12⟩; exact hK.out _ ⟨S12, (Sp.pick [_] [0] (by decide) (S12)).cell⟩)
        · rfl
      intro wE hE
      have HSE := Lib.hid hE.1
      clear hE
      go_wp2
      go_ret2
      rw [HV.out, HDV.out, HT.out]
      exact ⟨by simp, HSE.out.drop⟩
    · have t1 : (smallB t == t) = false := by simpa using ht
      have HT := Lib.hid t1
      clear ht
      go_wp2_with fail
      refine wp_region_text (S := fun wx => Sp w0 [] wx (boxR q #[.int .i64 v, .string ⟨t.toArray⟩, .string ⟨l.toArray⟩, .string ⟨d.toArray⟩, .int .i64 z, .bool e8] 131 :: L) ∧ (∀ o, wx.cell? ⟨q, o, none⟩ = (#[.int .i64 v, .string ⟨t.toArray⟩, .string ⟨l.toArray⟩, .string ⟨d.toArray⟩, .int .i64 z, .bool e8])[o]?)) (by kernel_rfl) (by kernel_rfl) ⟨(HS2.out).drew, (Sp.pick [_] [0] (by decide) ((HS2.out).drew)).cell⟩ ?_
      repeat
        refine Exists.intro ?_ (And.intro (fun wS hS K hK => ?_) (And.intro ?_ ?_))
        rotate_left 1
        · obtain ⟨hS1, hS2⟩ := hS
          first
            | (refine if_unwanted rfl ?_; simp only [Act.put, List.setIfInBounds_toArray, List.set_cons_zero, List.set_cons_succ]; exact hK.out _ ⟨hS1, hS2⟩)
            | (refine if_wanted rfl ?_; go_simp; exact hK.out _ ⟨hS1, hS2⟩)
        · rfl
      intro wE hE
      have HSE := Lib.hid hE.1
      clear hE
      go_wp2
      go_ret2
      rw [HV.out, HDV.out, HT.out]
      exact ⟨by simp, HSE.out.drop⟩
  · rw [hd]
    have HDV := Lib.hid hd
    clear hd
    rintro e w2 ⟨rfl, S2⟩
    have HS2 := Lib.hid S2
    clear S2 HR
    go_wp2_with fail
    refine wp_region_text (S := fun wx => Sp w0 [] wx (boxR q #[.int .i64 v, .string ⟨t.toArray⟩, .string ⟨l.toArray⟩, .string ⟨d.toArray⟩, .int .i64 z, .bool e8] 131 :: L) ∧ (∀ o, wx.cell? ⟨q, o, none⟩ = (#[.int .i64 v, .string ⟨t.toArray⟩, .string ⟨l.toArray⟩, .string ⟨d.toArray⟩, .int .i64 z, .bool e8])[o]?)) (by kernel_rfl) (by kernel_rfl) ⟨(HS2.out).drew, (Sp.pick [_] [0] (by decide) ((HS2.out).drew)).cell⟩ ?_
    repeat
      refine Exists.intro ?_ (And.intro (fun wS hS K hK => ?_) (And.intro ?_ ?_))
      rotate_left 1
      · obtain ⟨hS1, hS2⟩ := hS
        first
          | (refine if_unwanted rfl ?_; simp only [Act.put, List.setIfInBounds_toArray, List.set_cons_zero, List.set_cons_succ]; exact hK.out _ ⟨hS1, hS2⟩)
          | (refine if_wanted rfl ?_; go_simp; exact hK.out _ ⟨hS1, hS2⟩)
      · rfl
    intro wE hE
    have HSE := Lib.hid hE.1
    clear hE
    go_wp2
    go_ret2
    rw [HV.out, HDV.out]
    exact ⟨by simp, HSE.out.drop⟩
end
end Go.Proofs.YtapenolbbofjkaaGreatDoor

/-! CmW4 -/
namespace Go.Proofs.YtapenolbbofjkaaGreatDoor
open Go.RowKit

section
variable {w0 w : World} {L : List Res}
theorem mbPath_two (b : Mb) : (mbPath b).2 = 0 ∨ ((mbPath b).2 = 2 ∧ (mbPath b).1 = [] ∧ noBoxE b = false) := by
  unfold mbPath noBoxE
  split
  · exact .inl rfl
  · rename_i h
    split
    · exact .inl rfl
    · exact .inr ⟨rfl, rfl, by simpa using h⟩
theorem mbPath_len (b : Mb) (h1 : b.1.length ≤ 1000000) (h2 : b.2.length ≤ 1000000) : (mbPath b).1.length ≤ 3000005 := by
  have := mbText_len b h1 h2
  unfold mbPath
  repeat' split
  all_goals simp
  omega
set_option maxRecDepth 100000 in
set_option maxHeartbeats 4000000 in
theorem toS (c : Cm) (S : Sp w0 [] w L) (E : Env w0) (h1 : c.box.1.length ≤ 1000000) (h2 : c.box.2.length ≤ 1000000) : Calls Tryz.prog 173 #[cmAgg c] w fun e w2 => e = .returned (.tuple #[.string ⟨(toC c).1.toArray⟩, .bool (toC c).2]) ∧ Sp w0 [] w2 L := by
  have HS0 := Lib.hid (S.box (cmCells c) 131)
  obtain ⟨v, t, ⟨l, d⟩, z, e8⟩ := c
  have HV0 : Hid (toC ⟨v, t, (l, d), z, e8⟩ = (toW ++ (mbPath (l, d)).1, (mbPath (l, d)).2 == 0 && (!noBoxE (l, d) && (t == [] && !e8)))) := rfl
  have HPL := Lib.hid (mbPath_len (l, d) h1 h2)
  have hp2 := mbPath_two (l, d)
  have HNB : Hid (noBoxE (l, d) = (l == [] && d == [])) := rfl
  unfold cmCells at HS0
  unfold cmAgg
  dsimp only at *
  have HR := Lib.hid (mbPathS (l, d) HS0.out E h1 h2)
  unfold mbAgg at HR
  dsimp only at HR
  clear S h1 h2 E
  rcases hp2 with he | ⟨he, hp, hb⟩
  · have a1 := add_str toW (mbPath (l, d)).1 (by have := HPL.out; simp [maxLen, toW]; omega)
    unfold toW at a1
    rw [he] at HR
    have HV1 : Hid (toC ⟨v, t, (l, d), z, e8⟩ = (toW ++ (mbPath (l, d)).1, (!(l == [] && d == []) && (t == [] && !e8)))) := by unfold Hid; rw [HV0.out, he, HNB.out]; rfl
    clear he
    generalize (mbPath (l, d)).1 = p at *
    have hor : (l = [] ∧ d = []) ∨ (l = [] ∧ ¬ d = []) ∨ ¬ l = [] := by
      by_cases h : l = []
      · by_cases h' : d = []
        · exact .inl ⟨h, h'⟩
        · exact .inr (.inl ⟨h, h'⟩)
      · exact .inr (.inr h)
    rcases hor with ⟨rfl, rfl⟩ | ⟨rfl, h⟩ | h
    rotate_left 1
    all_goals (by_cases ht : t = [])
    · subst ht
      have HV : Hid (toC ⟨v, [], ([], d), z, e8⟩ = (toW ++ p, !e8)) := by unfold Hid; rw [HV1.out]; simp [h]
      go_enter Tryz.func173, Tryz.ntmps173
      go_wp2_with fail
      refine HR.out.mono ?_
      generalize w.alloc (.cells #[.int .i64 v, .string ⟨#[]⟩, .string ⟨#[]⟩, .string ⟨d.toArray⟩, .int .i64 z, .bool e8] 131) = w1 at *
      generalize w.heap.size = q at *
      rintro e w2 ⟨rfl, S2⟩
      have HS2 := Lib.hid S2
      clear S2 HR
      go_wp2_with fail
      refine wp_region_text (S := fun wx => Sp w0 [] wx (boxR q #[.int .i64 v, .string ⟨#[]⟩, .string ⟨#[]⟩, .string ⟨d.toArray⟩, .int .i64 z, .bool e8] 131 :: L) ∧ (∀ o, wx.cell? ⟨q, o, none⟩ = (#[.int .i64 v, .string ⟨#[]⟩, .string ⟨#[]⟩, .string ⟨d.toArray⟩, .int .i64 z, .bool e8])[o]?)) (by kernel_rfl) (by kernel_rfl) ⟨(HS2.out).drew, (Sp.pick [_] [0] (by decide) ((HS2.out).drew)).cell⟩ ?_
      repeat
        refine Exists.intro ?_ (And.intro (fun wS hS K hK => ?_) (And.intro ?_ ?_))
        rotate_left 1
        · obtain ⟨hS1, hS2⟩ := hS
          first
            | (refine if_unwanted rfl ?_; simp only [Act.put, List.setIfInBounds_toArray, List.set_cons_zero, List.set_cons_succ]; exact hK.out _ ⟨hS1, hS2⟩)
            | (refine if_wanted rfl ?_; go_simp; exact hK.out _ ⟨hS1, hS2⟩)
        · rfl
      intro wE hE
      have HSE := Lib.hid hE.1
      clear hE
      go_wp2
      go_ret2
      rw [HV.out]
      exact ⟨by simp [toW, *], HSE.out.drop⟩
    · have ht0 : t.isEmpty = false := by simpa using ht
      have HV : Hid (toC ⟨v, t, ([], d), z, e8⟩ = (toW ++ p, false)) := by unfold Hid; rw [HV1.out]; simp [h, ht]
      have HT := Lib.hid ht
      clear ht
      go_enter Tryz.func173, Tryz.ntmps173
      go_wp2_with fail
      refine HR.out.mono ?_
      generalize w.alloc (.cells #[.int .i64 v, .string ⟨t.toArray⟩, .string ⟨#[]⟩, .string ⟨d.toArray⟩, .int .i64 z, .bool e8] 131) = w1 at *
      generalize w.heap.size = q at *
      rintro e w2 ⟨rfl, S2⟩
      have HS2 := Lib.hid S2
      clear S2 HR
      go_wp2_with fail
      refine wp_region_text (S := fun wx => Sp w0 [] wx (boxR q #[.int .i64 v, .string ⟨t.toArray⟩, .string ⟨#[]⟩, .string ⟨d.toArray⟩, .int .i64 z, .bool e8] 131 :: L) ∧ (∀ o, wx.cell? ⟨q, o, none⟩ = (#[.int .i64 v, .string ⟨t.toArray⟩, .string ⟨#[]⟩, .string ⟨d.toArray⟩, .int .i64 z, .bool e8])[o]?)) (by kernel_rfl) (by kernel_rfl) ⟨(HS2.out).drew, (Sp.pick [_] [0] (by decide) ((HS2.out).drew)).cell⟩ ?_
      repeat
        refine Exists.intro ?_ (And.intro (fun wS hS K hK => ?_) (And.intro ?_ ?_))
        rotate_left 1
        · obtain ⟨hS1, hS2⟩ := hS
          first
            | (refine if_unwanted rfl ?_; simp only [Act.put, List.setIfInBounds_toArray, List.set_cons_zero, List.set_cons_succ]; exact hK.out _ ⟨hS1, hS2⟩)
            | (refine if_wanted rfl ?_; go_simp; exact hK.out _ ⟨hS1, hS2⟩)
        · rfl
      intro wE hE
      have HSE := Lib.hid hE.1
      clear hE
      go_wp2
      go_ret2
      rw [HV.out]
      exact ⟨by simp [toW, *], HSE.out.drop⟩
    · subst ht
      have HV : Hid (toC ⟨v, [], (l, d), z, e8⟩ = (toW ++ p, !e8)) := by unfold Hid; rw [HV1.out]; simp [h]
      go_enter Tryz.func173, Tryz.ntmps173
      go_wp2_with fail
      refine HR.out.mono ?_
      generalize w.alloc (.cells #[.int .i64 v, .string ⟨#[]⟩, .string ⟨l.toArray⟩, .string ⟨d.toArray⟩, .int .i64 z, .bool e8] 131) = w1 at *
      generalize w.heap.size = q at *
      rintro e w2 ⟨rfl, S2⟩
      have HS2 := Lib.hid S2
      clear S2 HR
      go_wp2_with fail
      refine wp_region_text (S := fun wx => Sp w0 [] wx (boxR q #[.int .i64 v, .string ⟨#[]⟩, .string ⟨l.toArray⟩, .string ⟨d.toArray⟩, .int .i64 z, .bool e8] 131 :: L) ∧ (∀ o, wx.cell? ⟨q, o, none⟩ = (#[.int .i64 v, .string ⟨#[]⟩, .string ⟨l.toArray⟩, .string ⟨d.toArray⟩, .int .i64 z, .bool e8])[o]?)) (by kernel_rfl) (by kernel_rfl) ⟨(HS2.out).drew, (Sp.pick [_] [0] (by decide) ((HS2.out).drew)).cell⟩ ?_
      repeat
        refine Exists.intro ?_ (And.intro (fun wS hS K hK => ?_) (And.intro ?_ ?_))
        rotate_left 1
        · obtain ⟨hS1, hS2⟩ := hS
          first
            | (refine if_unwanted rfl ?_; simp only [Act.put, List.setIfInBounds_toArray, List.set_cons_zero, List.set_cons_succ]; exact hK.out _ ⟨hS1, hS2⟩)
            | (refine if_wanted rfl ?_; go_simp; exact hK.out _ ⟨hS1, hS2⟩)
        · rfl
      intro wE hE
      have HSE := Lib.hid hE.1
      clear hE
      go_wp2
      go_ret2
      rw [HV.out]
      exact ⟨by simp [toW, *], HSE.out.drop⟩
    · have ht0 : t.isEmpty = false := by simpa using ht
      have HV : Hid (toC ⟨v, t, (l, d), z, e8⟩ = (toW ++ p, false)) := by unfold Hid; rw [HV1.out]; simp [h, ht]
      have HT := Lib.hid ht
      clear ht
      go_enter Tryz.func173, Tryz.ntmps173
      go_wp2_with fail
      refine HR.out.mono ?_
      generalize w.alloc (.cells #[.int .i64 v, .string ⟨t.toArray⟩, .string ⟨l.toArray⟩, .string ⟨d.toArray⟩, .int .i64 z, .bool e8] 131) = w1 at *
      generalize w.heap.size = q at *
      rintro e w2 ⟨rfl, S2⟩
      have HS2 := Lib.hid S2
      clear S2 HR
      go_wp2_with fail
      refine wp_region_text (S := fun wx => Sp w0 [] wx (boxR q #[.int .i64 v, .string ⟨t.toArray⟩, .string ⟨l.toArray⟩, .string ⟨d.toArray⟩, .int .i64 z, .bool e8] 131 :: L) ∧ (∀ o, wx.cell? ⟨q, o, none⟩ = (#[.int .i64 v, .string ⟨t.toArray⟩, .string ⟨l.toArray⟩, .string ⟨d.toArray⟩, .int .i64 z, .bool e8])[o]?)) (by kernel_rfl) (by kernel_rfl) ⟨(HS2.out).drew, (Sp.pick [_] [0] (by decide) ((HS2.out).drew)).cell⟩ ?_
      repeat
        refine Exists.intro ?_ (And.intro (fun wS hS K hK => ?_) (And.intro ?_ ?_))
        rotate_left 1
        · obtain ⟨hS1, hS2⟩ := hS
          first
            | (refine if_unwanted rfl ?_; simp only [Act.put, List.setIfInBounds_toArray, List.set_cons_zero, List.set_cons_succ]; exact hK.out _ ⟨hS1, hS2⟩)
            | (refine if_wanted rfl ?_; go_simp; exact hK.out _ ⟨hS1, hS2⟩)
        · rfl
      intro wE hE
      have HSE := Lib.hid hE.1
      clear hE
      go_wp2
      go_ret2
      rw [HV.out]
      exact ⟨by simp [toW, *], HSE.out.drop⟩
    · subst ht
      have HV : Hid (toC ⟨v, [], ([], []), z, e8⟩ = (toW ++ p, false)) := by unfold Hid; rw [HV1.out]; simp
      go_enter Tryz.func173, Tryz.ntmps173
      go_wp2_with fail
      refine HR.out.mono ?_
      generalize w.alloc (.cells #[.int .i64 v, .string ⟨#[]⟩, .string ⟨#[]⟩, .string ⟨#[]⟩, .int .i64 z, .bool e8] 131) = w1 at *
      generalize w.heap.size = q at *
      rintro e w2 ⟨rfl, S2⟩
      have HS2 := Lib.hid S2
      clear S2 HR
      go_wp2_with fail
      refine wp_region_text (S := fun wx => Sp w0 [] wx (boxR q #[.int .i64 v, .string ⟨#[]⟩, .string ⟨#[]⟩, .string ⟨#[]⟩, .int .i64 z, .bool e8] 131 :: L) ∧ (∀ o, wx.cell? ⟨q, o, none⟩ = (#[.int .i64 v, .string ⟨#[]⟩, .string ⟨#[]⟩, .string ⟨#[]⟩, .int .i64 z, .bool e8])[o]?)) (by kernel_rfl) (by kernel_rfl) ⟨(HS2.out).drew, (Sp.pick [_] [0] (by decide) ((HS2.out).drew)).cell⟩ ?_
      repeat
        refine Exists.intro ?_ (And.intro (fun wS hS K hK => ?_) (And.intro ?_ ?_))
        rotate_left 1
        · obtain ⟨hS1, hS2⟩ := hS
          first
            | (refine if_unwanted rfl ?_; simp only [Act.put, List.setIfInBounds_toArray, List.set_cons_zero, List.set_cons_succ]; exact hK.out _ ⟨hS1, hS2⟩)
            | (refine if_wanted rfl ?_; go_simp; exact hK.out _ ⟨hS1, hS2⟩)
        · rfl
      intro wE hE
      have HSE := Lib.hid hE.1
      clear hE
      go_wp2
      go_ret2
      rw [HV.out]
      exact ⟨by simp [toW, *], HSE.out.drop⟩
    · have ht0 : t.isEmpty = false := by simpa using ht
      have HV : Hid (toC ⟨v, t, ([], []), z, e8⟩ = (toW ++ p, false)) := by unfold Hid; rw [HV1.out]; simp
      have HT := Lib.hid ht
      clear ht
      go_enter Tryz.func173, Tryz.ntmps173
      go_wp2_with fail
      refine HR.out.mono ?_
      generalize w.alloc (.cells #[.int .i64 v, .string ⟨t.toArray⟩, .string ⟨#[]⟩, .string ⟨#[]⟩, .int .i64 z, .bool e8] 131) = w1 at *
      generalize w.heap.size = q at *
      rintro e w2 ⟨rfl, S2⟩
      have HS2 := Lib.hid S2
      clear S2 HR
      go_wp2_with fail
      refine wp_region_text (S := fun wx => Sp w0 [] wx (boxR q #[.int .i64 v, .string ⟨t.toArray⟩, .string ⟨#[]⟩, .string ⟨#[]⟩, .int .i64 z, .bool e8] 131 :: L) ∧ (∀ o, wx.cell? ⟨q, o, none⟩ = (#[.int .i64 v, .string ⟨t.toArray⟩, .string ⟨#[]⟩, .string ⟨#[]⟩, .int .i64 z, .bool e8])[o]?)) (by kernel_rfl) (by kernel_rfl) ⟨(HS2.out).drew, (Sp.pick [_] [0] (by decide) ((HS2.out).drew)).cell⟩ ?_
      repeat
        refine Exists.intro ?_ (And.intro (fun wS hS K hK => ?_) (And.intro ?_ ?_))
        rotate_left 1
        · obtain ⟨hS1, hS2⟩ := hS
          first
            | (refine if_unwanted rfl ?_; simp only [Act.put, List.setIfInBounds_toArray, List.set_cons_zero, List.set_cons_succ]; exact hK.out _ ⟨hS1, hS2⟩)
            | (refine if_wanted rfl ?_; go_simp; exact hK.out _ ⟨hS1, hS2⟩)
        · rfl
      intro wE hE
      have HSE := Lib.hid hE.1
      clear hE
      go_wp2
      go_ret2
      rw [HV.out]
      exact ⟨by simp [toW, *], HSE.out.drop⟩
  · have a1 := add_str toW [] (by simp [maxLen, toW])
    unfold toW at a1
    rw [he, hp] at HR
    have HV : Hid (toC ⟨v, t, (l, d), z, e8⟩ = (toW ++ [], false)) := by unfold Hid; rw [HV0.out, he, hp]; rfl
    clear he hp hb
    go_enter Tryz.func173, Tryz.ntmps173
    go_wp2_with fail
    refine HR.out.mono ?_
    generalize w.alloc (.cells #[.int .i64 v, .string ⟨t.toArray⟩, .string ⟨l.toArray⟩, .string ⟨d.toArray⟩, .int .i64 z, .bool e8] 131) = w1 at *
    generalize w.heap.size = q at *
    rintro e w2 ⟨rfl, S2⟩
    have HS2 := Lib.hid S2
    clear S2 HR
    go_wp2_with fail
    refine wp_region_text (S := fun wx => Sp w0 [] wx (boxR q #[.int .i64 v, .string ⟨t.toArray⟩, .string ⟨l.toArray⟩, .string ⟨d.toArray⟩, .int .i64 z, .bool e8] 131 :: L) ∧ (∀ o, wx.cell? ⟨q, o, none⟩ = (#[.int .i64 v, .string ⟨t.toArray⟩, .string ⟨l.toArray⟩, .string ⟨d.toArray⟩, .int .i64 z, .bool e8])[o]?)) (by kernel_rfl) (by kernel_rfl) ⟨(HS2.out).drew, (Sp.pick [_] [0] (by decide) ((HS2.out).drew)).cell⟩ ?_
    repeat
      refine Exists.intro ?_ (And.intro (fun wS hS K hK => ?_) (And.intro ?_ ?_))
      rotate_left 1
      · obtain ⟨hS1, hS2⟩ := hS
        first
          | (refine if_unwanted rfl ?_; simp only [Act.put, List.setIfInBounds_toArray, List.set_cons_zero, List.set_cons_succ]; exact hK.out _ ⟨hS1, hS2⟩)
          | (refine if_wanted rfl ?_; go_simp; exact hK.out _ ⟨hS1, hS2⟩)
      · rfl
    intro wE hE
    have HSE := Lib.hid hE.1
    clear hE
    go_wp2
    go_ret2
    rw [HV.out]
    exact ⟨by simp [toW, *], HSE.out.drop⟩
end
end Go.Proofs.YtapenolbbofjkaaGreatDoor
