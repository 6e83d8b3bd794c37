/- law 22: large, same. Conditions: the lengths fit. -/
import Derived.Test.YtldlbiodllgflaaGreatDoorAw22
set_option linter.unusedSimpArgs false
set_option linter.unusedVariables false
set_option linter.unnecessarySimpa false
namespace Go.Proofs.YtldlbiodllgflaaGreatDoor
open Go.RowKit

section
variable {w0 w : World} {L : List Res} {F0 : List Nat} {p b : Nat} {v v2 : Value} {C : Cl}
set_option maxRecDepth 100000 in
set_option maxHeartbeats 1000000 in
theorem same22_any (l m : List Int) (T : IxAt w v l) (T2 : IxAt w v2 m) (hl : l.length ≤ 1000000) : Calls Tryz.prog 15 #[v, v2] w fun e w2 => e = .returned (.bool (decide (l = m))) ∧ ∃ q, w2 = w.drewN q := by
  have HT := Lib.hid T
  have HT2 := Lib.hid T2
  obtain ⟨a, cap, rfl⟩ := T.form
  obtain ⟨a2, cap2, rfl⟩ := T2.form
  clear T T2
  have hl' : (l.length : Int) ≤ 1000000 := by omega
  by_cases hlen : l.length = m.length
  · have hle : ((l.length : Int) != (m.length : Int)) = false := by simp [hlen]
    go_enter Tryz.func15, Tryz.ntmps15
    go_wp2_with fail
    go_loopw [13] (fun i wr => ∃ k q : Nat, i = .int .i64 k ∧ k ≤ l.length ∧ l.take k = m.take k ∧ wr = w.drewN q) (fun i _ => l.length - (intOf i).toNat)
    case atStart => exact ⟨0, 0, rfl, Nat.zero_le _, rfl, rfl⟩
    case round =>
      obtain ⟨k, q, rfl, hk, heq, rfl⟩ := hrel
      have HQ := Lib.hid heq
      clear heq
      by_cases hlt : k < l.length
      · have hlt' : (k : Int) < l.length := by omega
        have hltm : (k : Int) < m.length := by omega
        obtain ⟨b, off, rfl, ck⟩ := HT.out.at hlt
        obtain ⟨b2, off2, rfl, dk⟩ := HT2.out.at (i := k) (by omega)
        have HS1 : Hid (l.take (k + 1) = l.take k ++ [l[k]]) := List.take_succ_eq_append_getElem hlt
        have HS2 : Hid (m.take (k + 1) = m.take k ++ [m[k]]) := List.take_succ_eq_append_getElem (by omega)
        have HNE : Hid (l[k] ≠ m[k] → l ≠ m) := fun h e => h (by subst e; rfl)
        generalize l[k] = x at *
        generalize m[k] = y at *
        by_cases hxy : x = y
        · subst hxy
          go_wp2_with fail
          go_region
          go_wp2
          go_roundw
          case rel => exact ⟨k + 1, q + 1, by go_num, by omega, by rw [HS1.out, HS2.out, HQ.out], rfl⟩
          case measure => simp [intOf]; omega
        · have HV : Hid (decide (l = m) = false) := decide_eq_false (HNE.out hxy)
          have hb : (x != y) = true := by simpa using hxy
          go_wp2_with fail
          go_region
          go_wp2
          go_ret
          exact ⟨ret_bool HV.out.symm, q + 1, rfl⟩
      · have HV : Hid (decide (l = m) = true) := by
          have := HQ.out
          rw [List.take_of_length_le (by omega), List.take_of_length_le (by omega)] at this
          exact decide_eq_true this
        go_wp2
        go_ret
        exact ⟨ret_bool HV.out.symm, q, rfl⟩
  · have hle : ((l.length : Int) != (m.length : Int)) = true := by simpa using fun h => hlen (by omega)
    have HV : Hid (decide (l = m) = false) := decide_eq_false fun e => hlen (by rw [e])
    clear hlen
    go_enter Tryz.func15, Tryz.ntmps15
    go_wp2
    go_ret
    exact ⟨ret_bool HV.out.symm, 0, rfl⟩
/-- Fits what is to be given away? -/
def fit22 (host : Bs) (fr : Mb) (to_ : List Mb) (body : Bs) : Prop := host.length ≤ 300 ∧ fr.1.length ≤ 300 ∧ fr.2.length ≤ 300 ∧ to_.length ≤ 30 ∧ body.length ≤ 4096 ∧ ∀ b ∈ to_, b.1.length ≤ 300 ∧ b.2.length ≤ 300
set_option maxRecDepth 100000 in
set_option maxHeartbeats 2000000 in
theorem large22_any (host : Bs) (fr : Mb) (to_ : List Mb) (body : Bs) (hh : host.length ≤ maxLen) (h1 : fr.1.length ≤ maxLen) (h2 : fr.2.length ≤ maxLen) (hb : body.length ≤ maxLen) (hn : to_.length ≤ maxLen) (ht : ∀ b ∈ to_, b.1.length ≤ maxLen ∧ b.2.length ≤ maxLen) (T : BxAt w v to_) :
    Calls Tryz.prog 9 #[.string ⟨host.toArray⟩, mbAgg fr, v, .string ⟨body.toArray⟩] w fun e w2 => ∃ r : Bool, e = .returned (.bool r) ∧ Ext [] w w2 ∧ (r = false → fit22 host fr to_ body) := by
  have HX : Hid (Ext [] w (w.alloc (.cells (mbCells fr) 23))) := (Ext.refl [] w).alloc _
  have HT := Lib.hid (T.ext HX.out)
  obtain ⟨a, cap, rfl⟩ := T.form
  obtain ⟨fl, fd⟩ := fr
  unfold mbAgg
  unfold mbCells at *
  unfold maxLen at hh h1 h2 hb hn ht
  have HTB := Lib.hid ht
  have HF : Hid (fit22 host (fl, fd) to_ body ↔ (host.length ≤ 300 ∧ fl.length ≤ 300 ∧ fd.length ≤ 300 ∧ to_.length ≤ 30 ∧ body.length ≤ 4096 ∧ ∀ b ∈ to_, b.1.length ≤ 300 ∧ b.2.length ≤ 300)) := Iff.rfl
  dsimp only at *
  have i1 : (host.length : Int) ≤ 9223372036854775807 := by omega
  have i2 : (fl.length : Int) ≤ 9223372036854775807 := by omega
  have i3 : (fd.length : Int) ≤ 9223372036854775807 := by omega
  have i4 : (to_.length : Int) ≤ 9223372036854775807 := by omega
  have i5 : (body.length : Int) ≤ 9223372036854775807 := by omega
  clear T ht
  by_cases hg : host.length ≤ 300 ∧ fl.length ≤ 300 ∧ fd.length ≤ 300 ∧ to_.length ≤ 30 ∧ body.length ≤ 4096
  rotate_left 1
  · have hor : (300 : Int) < host.length ∨ ((host.length : Int) ≤ 300 ∧ (300 : Int) < fl.length) ∨ ((host.length : Int) ≤ 300 ∧ (fl.length : Int) ≤ 300 ∧ (300 : Int) < fd.length) ∨ ((host.length : Int) ≤ 300 ∧ (fl.length : Int) ≤ 300 ∧ (fd.length : Int) ≤ 300 ∧ (30 : Int) < to_.length) ∨ ((host.length : Int) ≤ 300 ∧ (fl.length : Int) ≤ 300 ∧ (fd.length : Int) ≤ 300 ∧ (to_.length : Int) ≤ 30 ∧ (4096 : Int) < body.length) := by omega
    clear hg hh h1 h2 hb hn
    rcases hor with k1 | ⟨k1, k2⟩ | ⟨k1, k2, k3⟩ | ⟨k1, k2, k3, k4⟩ | ⟨k1, k2, k3, k4, k5⟩
    all_goals
      go_enter Tryz.func9, Tryz.ntmps9
      go_wp2
      go_ret
      exact ⟨true, rfl, HX.out, fun h => by cases h⟩
  · have k1 : (host.length : Int) ≤ 300 := by omega
    have k2 : (fl.length : Int) ≤ 300 := by omega
    have k3 : (fd.length : Int) ≤ 300 := by omega
    have k4 : (to_.length : Int) ≤ 30 := by omega
    have k5 : (body.length : Int) ≤ 4096 := by omega
    have HG := Lib.hid hg
    clear hg hh h1 h2 hb hn i1 i2 i3 i4 i5
    go_enter Tryz.func9, Tryz.ntmps9
    go_wp2_with fail
    generalize w.alloc (.cells #[.string ⟨_⟩, .string ⟨_⟩] 23) = w1 at *
    go_loopw [37] (fun i wr => ∃ k : Nat, i = .int .i64 k ∧ k ≤ to_.length ∧ (∀ b ∈ to_.take k, b.1.length ≤ 300 ∧ b.2.length ≤ 300) ∧ w1 = wr) (fun i _ => to_.length - (intOf i).toNat)
    case atStart => exact ⟨0, rfl, Nat.zero_le _, by simp, rfl⟩
    case round =>
      obtain ⟨k, rfl, hk, hall, rfl⟩ := hrel
      have HALL := Lib.hid hall
      clear hall
      by_cases hlt : k < to_.length
      · have hlt' : (k : Int) < to_.length := by omega
        obtain ⟨b, off, rfl, c0, c1⟩ := HT.out.at hlt
        have HST : Hid (to_.take (k + 1) = to_.take k ++ [to_[k]]) := List.take_succ_eq_append_getElem hlt
        have hbl := HTB.out _ (List.getElem_mem hlt)
        generalize to_[k] = m at *
        have j1 : (m.1.length : Int) ≤ 9223372036854775807 := by omega
        have j2 : (m.2.length : Int) ≤ 9223372036854775807 := by omega
        by_cases hm : m.1.length ≤ 300 ∧ m.2.length ≤ 300
        · have m1 : (m.1.length : Int) ≤ 300 := by omega
          have m2 : (m.2.length : Int) ≤ 300 := by omega
          have HM := Lib.hid hm
          clear hm hbl j1 j2
          go_wp2
          go_roundw
          case rel => exact ⟨k + 1, by go_num, by omega, by
            rw [HST.out]
            intro b hb
            rcases List.mem_append.1 hb with h | h
            · exact HALL.out b h
            · rw [List.mem_singleton.1 h]; exact HM.out, by trivial⟩
          case measure => simp [intOf]; omega
        · have hor : (300 : Int) < m.1.length ∨ ((m.1.length : Int) ≤ 300 ∧ (300 : Int) < m.2.length) := by omega
          clear hm hbl
          rcases hor with m1 | ⟨m1, m2⟩
          all_goals
            go_wp2
            go_ret
            exact ⟨true, rfl, HX.out, fun h => by cases h⟩
      · have HA2 : Hid (∀ b ∈ to_, b.1.length ≤ 300 ∧ b.2.length ≤ 300) := by
          have := HALL.out
          rw [List.take_of_length_le (by omega)] at this
          exact this
        go_wp2
        go_ret
        exact ⟨false, rfl, HX.out, fun _ => HF.out.2 ⟨HG.out.1, HG.out.2.1, HG.out.2.2.1, HG.out.2.2.2.1, HG.out.2.2.2.2, HA2.out⟩⟩
end
end Go.Proofs.YtldlbiodllgflaaGreatDoor
