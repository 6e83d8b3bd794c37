/- The document's answer for layer 10: a command's line. Conditions: the lengths fit. -/
import Derived.Test.YtpclhkjladbooaaGreatDoorR09c
import Derived.Test.YtpclhkjladbooaaGreatDoorR10
set_option linter.unusedSimpArgs false
set_option linter.unusedVariables false
set_option linter.unnecessarySimpa false
namespace Go.Proofs.YtpclhkjladbooaaGreatDoor
open Go.RowKit

section
variable {w0 w : World} {F0 : List Nat} {L : List Res}
theorem Sp.textsMade (S : Sp w0 F0 w L) (l : List Bs) (hl : l.length ≤ maxLen) : Sp w0 F0 (w.alloc (.cells (l.map encStr).toArray 9)) (textsR (.slice (some ⟨w.heap.size, 0, none⟩) l.length l.length) l :: L) :=
  S.gain (G := [w.heap.size]) ((Ext.refl [] w).alloc _) ⟨rfl, by simp, .inr ⟨w.heap.size, l.length, (l.map encStr).toArray, rfl, Nat.zero_le _, (MapKept.heap_alloc w _).1, Nat.le_refl _, hl, by simp, by simp [← List.map_take]⟩⟩ (by simp)
set_option maxRecDepth 100000 in
theorem r10VerbsS (S : Sp w0 F0 w L) : Calls Tryz.prog 26 #[] w fun e w2 => ∃ g, e = .returned (.slice (some ⟨g, 0, none⟩) 10 10) ∧ Sp w0 F0 w2 (textsR (.slice (some ⟨g, 0, none⟩) 10 10) verbWs :: L) := by
  have HS0 := Lib.hid (S.textsMade verbWs (by decide))
  clear S
  go_enter Tryz.func26, Tryz.ntmps26
  go_wp2
  go_ret
  exact ⟨_, rfl, HS0.out⟩
set_option maxRecDepth 100000 in
set_option maxHeartbeats 1000000 in
theorem r10None_any (c : Cm) (w : World) (h1 : c.box.1.length ≤ 1000000) (h2 : c.box.2.length ≤ 1000000) : Calls Tryz.prog 29 #[cmAgg c] w fun e w2 => e = .returned (.bool (noBox c.box && !c.eight)) ∧ Ext [] w w2 := by
  obtain ⟨v, t, ⟨l, d⟩, z, b8⟩ := c
  dsimp only at h1 h2 ⊢
  have h1' : (l.length : Int) ≤ 1000000 := by omega
  have h2' : (d.length : Int) ≤ 1000000 := by omega
  have HX : Hid (Ext [] w (w.alloc (.cells #[.int .i64 v, .string ⟨t.toArray⟩, .string ⟨l.toArray⟩, .string ⟨d.toArray⟩, .int .i64 z, .bool b8] 34))) := (Ext.refl [] w).alloc _
  unfold cmAgg
  dsimp only
  have HN : Hid (noBox (l, d) = ((l.length : Int) + d.length == 0)) := by
    unfold Hid noBox noBoxE
    rw [Bool.eq_iff_iff]
    simp only [Bool.and_eq_true, beq_iff_eq]
    constructor
    · rintro ⟨rfl, rfl⟩; rfl
    · intro h
      exact ⟨List.eq_nil_of_length_eq_zero (by omega), List.eq_nil_of_length_eq_zero (by omega)⟩
  rw [HN.out]
  cases hs : ((l.length : Int) + d.length == 0) with
  | true =>
    go_enter Tryz.func29, Tryz.ntmps29
    go_wp2
    go_ret
    exact ⟨rfl, HX.out⟩
  | false =>
    go_enter Tryz.func29, Tryz.ntmps29
    go_wp2
    go_ret
    exact ⟨rfl, HX.out⟩
theorem trimR_cons (x : UInt8) (r : Bs) : Lib.trimRightB (x :: r) 32 = if Lib.trimRightB r 32 = [] then (if x = 32 then [] else [x]) else x :: Lib.trimRightB r 32 := by
  unfold Lib.trimRightB
  rw [List.reverse_cons, List.dropWhile_append]
  by_cases h : (List.dropWhile (fun b => b == 32) r.reverse) = []
  · rw [h, if_pos (by simp), if_pos (by simp)]
    by_cases hx : x = 32
    · subst hx; simp
    · rw [if_neg hx]; simp [hx]
  · rw [if_neg (by simpa using h), if_neg (by simpa using h)]
    simp
theorem trim_turn : ∀ s : Bs, Lib.trimLeftB (Lib.trimRightB s 32) 32 = Lib.trimRightB (Lib.trimLeftB s 32) 32
  | [] => rfl
  | x :: r => by
    have ih := trim_turn r
    rw [trimR_cons]
    by_cases hx : x = 32
    · subst hx
      rw [show Lib.trimLeftB (32 :: r) 32 = Lib.trimLeftB r 32 from spR_cons r, ← ih]
      by_cases h : Lib.trimRightB r 32 = []
      · rw [if_pos h, if_pos rfl, h]
      · rw [if_neg h]
        exact spR_cons _
    · rw [show Lib.trimLeftB (x :: r) 32 = x :: r from spR_stop hx r, trimR_cons, if_neg hx]
      by_cases h : Lib.trimRightB r 32 = []
      · rw [if_pos h]
        exact spR_stop hx _
      · rw [if_neg h]
        exact spR_stop hx _
theorem trimR_spc (s : Bs) : Lib.trimRightB (s ++ [32]) 32 = Lib.trimRightB s 32 := trimR_app s 1
/-- A text's length, of its value. -/
def strN : Value → Nat | .string s => s.size | _ => 0
theorem spR_not {t : Bs} (h : ∀ c, t.head? = some c → c ≠ 32) : spR t = t := by
  cases t with
  | nil => rfl
  | cons c r => exact spR_stop (h c rfl) r
set_option maxRecDepth 100000 in
set_option maxHeartbeats 1000000 in
theorem r10Trimmed_any (s : Bs) (w : World) (hs : s.length ≤ 1000000) : Calls Tryz.prog 28 #[.string ⟨s.toArray⟩] w fun e w2 => e = .returned (.string ⟨(trimSp s).toArray⟩) ∧ w = w2 := by
  have HV : Hid (trimSp s = Lib.trimRightB (spR s) 32) := by unfold Hid trimSp spR Lib.trimB; exact trim_turn s
  go_enter Tryz.func28, Tryz.ntmps28
  go_wp2_with fail
  go_loopw [0] (fun v wr => ∃ t : Bs, v = .string ⟨t.toArray⟩ ∧ t.length ≤ 1000000 ∧ spR t = spR s ∧ w = wr) (fun v _ => strN v)
  case atStart => exact ⟨s, rfl, hs, rfl, rfl⟩
  case round =>
    obtain ⟨t, rfl, ht, hsp, rfl⟩ := hrel
    have HSPR := Lib.hid hsp
    have ht' : (t.length : Int) ≤ 1000000 := by omega
    clear hsp hs
    by_cases hg : t.head? = some 32
    · obtain ⟨r, rfl⟩ : ∃ r, t = 32 :: r := by
        cases t with
        | nil => cases hg
        | cons c r => exact ⟨r, by rw [Option.some.inj hg]⟩
      have hix := fun w => idx_at (32 :: r) 0 (by simp) 0 rfl w
      have hpos : (0 : Int) < (32 :: r : Bs).length := by simp only [List.length_cons]; omega
      have hle1 : (1 : Int) ≤ (32 :: r : Bs).length := by simp only [List.length_cons]; omega
      have hcut := cut_drop (32 :: r) 1 (by simp)
      have HN : Hid (spR r = spR s) := by unfold Hid; rw [← HSPR.out, spR_cons]
      have HL : Hid (r.length ≤ 1000000) := by simp at ht; unfold Hid; omega
      have HM : Hid (r.length < (32 :: r : Bs).length) := by unfold Hid; simp
      rw [List.drop_succ_cons, List.drop_zero] at hcut
      have h32 : ((32 :: r : Bs)[0]).toNat = 32 := rfl
      rw [h32] at hix
      clear h32
      generalize (32 :: r : Bs) = t at *
      clear hg
      go_wp2
      go_roundw
      case rel => exact ⟨r, rfl, HL.out, HN.out, by trivial⟩
      case measure => exact HM.out
    · have HT : Hid (t = spR s) := by
        unfold Hid
        rw [← HSPR.out]
        exact (spR_not fun c hc e => hg (by rw [hc, e])).symm
      have hor : ((t.length : Int) = 0) ∨ (∃ c : UInt8, (0 : Int) < t.length ∧ (∀ w, (Instr.index 9 (.string ⟨t.toArray⟩) (.int .i64 0)).run Tryz.prog w = .ok (.int .u8 (c.toNat : Int)) w) ∧ ((c.toNat : Int) == 32) = false) := by
        cases t with
        | nil => exact .inl rfl
        | cons c r =>
          refine .inr ⟨c, by simp only [List.length_cons]; omega, fun w => idx_at (c :: r) 0 (by simp) 0 rfl w, ?_⟩
          rw [show ((c.toNat : Int) == 32) = (c == 32) from eq_u8b c 32]
          simp only [beq_eq_false_iff_ne]
          intro e
          exact hg (by rw [e]; rfl)
      have HTL : Hid (t.length ≤ 1000000) := ht
      clear hg
      rcases hor with h0 | ⟨c, h0, hix0, hc0⟩
      all_goals
        go_wp2_with fail
        first | clear h0 hix0 hc0 | clear h0
        go_loopw [0] (fun v wr => ∃ x : Bs, v = .string ⟨x.toArray⟩ ∧ x.length ≤ 1000000 ∧ Lib.trimRightB x 32 = trimSp s ∧ w = wr) (fun v _ => strN v)
        case atStart => exact ⟨t, rfl, HTL.out, by rw [HV.out, HT.out], rfl⟩
        case round =>
          obtain ⟨x, rfl, hx, htr, rfl⟩ := hrel
          have HTR := Lib.hid htr
          have hx' : (x.length : Int) ≤ 1000000 := by omega
          clear htr ht ht'
          rcases snoc_cases x with rfl | ⟨A, c, rfl⟩
          · have HR : Hid (trimSp s = []) := HTR.out.symm
            go_wp2
            go_ret
            rw [HR.out]
            exact ⟨rfl, rfl⟩
          · have hpos : (0 : Int) < (A ++ [c]).length := by rw [List.length_append, List.length_singleton]; omega
            have hix := fun w => idx_at (A ++ [c]) A.length (by simp) (((A ++ [c]).length : Int) - 1) (by simp) w
            have hgc : (A ++ [c])[A.length]'(by simp) = c := by simp
            rw [hgc] at hix
            clear hgc
            have hcut := cut_take (A ++ [c]) ((A ++ [c]).length - 1)
            have htk : (A ++ [c]).take ((A ++ [c]).length - 1) = A := by simp
            rw [htk] at hcut
            have hle : ((A ++ [c]).length : Int) - 1 ≤ (A ++ [c]).length := by omega
            have hge : (0 : Int) ≤ ((A ++ [c]).length : Int) - 1 := by omega
            have hsub : ((A ++ [c]).length : Int) - 1 = (((A ++ [c]).length - 1 : Nat) : Int) := by simp
            have HL : Hid (A.length ≤ 1000000) := by simp at hx; unfold Hid; omega
            have HM : Hid (A.length < (A ++ [c]).length) := by unfold Hid; simp
            by_cases hc : c = 32
            · subst hc
              have HN : Hid (Lib.trimRightB A 32 = trimSp s) := by unfold Hid; rw [← trimR_spc]; exact HTR.out
              have h32 : (32 : UInt8).toNat = 32 := rfl
              rw [h32] at hix
              generalize (A ++ [32]) = x at *
              rw [hsub] at hix hle hge
              generalize x.length - 1 = m at *
              clear htk
              go_wp2
              go_roundw
              case rel => exact ⟨A, rfl, HL.out, HN.out, by trivial⟩
              case measure => exact HM.out
            · have HR : Hid (trimSp s = A ++ [c]) := by
                unfold Hid
                rw [← HTR.out]
                exact trimR_of_last _ fun d hd => by
                  rw [List.getLast?_concat] at hd
                  rw [← Option.some.inj hd]
                  exact hc
              have hcb : ((c.toNat : Int) == 32) = false := by
                rw [show ((c.toNat : Int) == 32) = (c == 32) from eq_u8b c 32]
                simpa using hc
              generalize (A ++ [c]) = x at *
              clear htk hcut hc
              rw [hsub] at hix hle hge
              generalize x.length - 1 = m at *
              go_wp2
              go_ret
              rw [HR.out]
              exact ⟨rfl, rfl⟩
end
end Go.Proofs.YtpclhkjladbooaaGreatDoor
