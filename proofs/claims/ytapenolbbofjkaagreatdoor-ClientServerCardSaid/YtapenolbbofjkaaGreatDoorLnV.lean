/- line: Split. Conditions: the lengths fit; what Go's variables hold. -/
import Derived.Test.YtapenolbbofjkaaGreatDoorLnW
import Derived.Lib.SplitLaws
set_option linter.unusedSimpArgs false
set_option linter.unusedVariables false
set_option linter.unnecessarySimpa false
namespace Go.Proofs.YtapenolbbofjkaaGreatDoor
open Go.RowKit

theorem splitK_len (sep : Bs) : ∀ (k : Nat) (s : Bs), ∀ p ∈ Lib.splitK sep 0 k s, p.length ≤ s.length
  | 0, s, p, hp => by
    unfold Lib.splitK at hp
    rw [List.mem_singleton] at hp
    rw [hp]
    exact Nat.le_refl _
  | k + 1, s, p, hp => by
    unfold Lib.splitK at hp
    split at hp
    · rw [List.mem_singleton] at hp
      rw [hp]
      exact Nat.le_refl _
    · rcases List.mem_cons.1 hp with rfl | hp
      · rw [List.length_take]; omega
      · have := splitK_len sep k _ p hp
        rw [List.length_drop] at this
        omega
theorem splitK_count (sep : Bs) : ∀ (k : Nat) (s : Bs), (Lib.splitK sep 0 k s).length ≤ k + 1 ∧ 1 ≤ (Lib.splitK sep 0 k s).length
  | 0, s => by unfold Lib.splitK; simp
  | k + 1, s => by
    unfold Lib.splitK
    split
    · simp
    · have := splitK_count sep k (s.drop ((Lib.index s sep).toNat + sep.length))
      rw [List.length_cons]
      omega
theorem split_facts (s sep : Bs) : (Lib.split s sep).length ≤ s.length + 2 ∧ 1 ≤ (Lib.split s sep).length ∧ ∀ p ∈ Lib.split s sep, p.length ≤ s.length := by
  have h1 := splitK_count sep (Lib.count s sep) s
  have h2 := Lib.count_le s sep
  unfold Lib.split
  exact ⟨by omega, h1.2, splitK_len sep _ s⟩
section
variable {w0 w : World} {F0 : List Nat} {L : List Res} {v : Value}
theorem splitCR (s : Bs) (E : Env w) (hs : s.length ≤ 1000000) :
    Calls Tryz.prog 97 #[.string ⟨s.toArray⟩, .string ⟨#[13, 10]⟩] w fun e w2 => ∃ b, e = .returned (.slice (some ⟨b, 0, none⟩) (Lib.split s crlf).length (Lib.split s crlf).length) ∧ Ext [] w w2 ∧ TxAt w2 (.slice (some ⟨b, 0, none⟩) (Lib.split s crlf).length (Lib.split s crlf).length) (Lib.split s crlf) := by
  obtain ⟨m, hm⟩ := E.max
  refine (Tryz.strings_Split ⟨s.toArray⟩ ⟨#[13, 10]⟩ m w (show s.length < 4294967281 by omega) hm (by decide)).mono ?_
  rintro e w2 ⟨rfl, rfl⟩
  have h1 : (Lib.splitB ⟨#[13, 10]⟩ 0 (Lib.countB ⟨s.toArray⟩ ⟨#[13, 10]⟩) ⟨s.toArray⟩).map (·.data.toList) = Lib.split s crlf := Lib.splitB_data ⟨#[13, 10]⟩ 0 (Lib.countB ⟨s.toArray⟩ ⟨#[13, 10]⟩) ⟨s.toArray⟩
  have h2 := Lib.splitB_all ⟨#[13, 10]⟩ (by decide) 0 _ ⟨s.toArray⟩ rfl
  have h3 : (Lib.split s crlf).length = Lib.countB ⟨s.toArray⟩ ⟨#[13, 10]⟩ + 1 := by rw [← h1, List.length_map, h2]
  have hf := split_facts s crlf
  rw [← h1] at hf ⊢
  generalize Lib.splitB ⟨#[13, 10]⟩ 0 (Lib.countB ⟨s.toArray⟩ ⟨#[13, 10]⟩) ⟨s.toArray⟩ = l at *
  rw [← h1, List.length_map] at h3
  refine ⟨w.heap.size, by rw [List.length_map, h3], (Ext.refl [] w).alloc _, some ⟨w.heap.size, 0, none⟩, _, rfl, ⟨Nat.le_refl _, by unfold maxLen; omega⟩, .inr ⟨w.heap.size, 0, rfl, fun i hi => ?_⟩⟩
  rw [List.length_map] at hi
  simp [go_sem, hi]
set_option maxRecDepth 100000 in
set_option maxHeartbeats 1000000 in
theorem lnSplit_any (s : Bs) (E : Env w) (hs : s.length ≤ 1000000) :
    Calls Tryz.prog 82 #[.string ⟨s.toArray⟩] w fun e w2 => ∃ v2, e = .returned (.tuple #[v2, .string ⟨(lnSplit s).2.toArray⟩]) ∧ Ext [] w w2 ∧ TxAt w2 v2 (lnSplit s).1 := by
  have HSP := Lib.hid (splitCR s E hs)
  have hf := split_facts s crlf
  have HV : Hid (lnSplit s = ((Lib.split s crlf).dropLast, (Lib.split s crlf).getLast?.getD [])) := rfl
  generalize Lib.split s crlf = l at *
  have hl1 : (1 : Int) ≤ l.length := by omega
  have hl2 : (l.length : Int) ≤ 1000002 := by omega
  have hlt : l.length - 1 < l.length := by omega
  have HG : Hid (l.getLast?.getD [] = l[l.length - 1]) := by
    unfold Hid
    rw [List.getLast?_eq_getElem?, List.getElem?_eq_getElem hlt]
    rfl
  clear E hs hf
  go_enter Tryz.func82, Tryz.ntmps82
  go_wp2_with fail
  refine HSP.out.mono ?_
  rintro e w1 ⟨b, rfl, hx, T⟩
  have HX := Lib.hid hx
  have HT := Lib.hid T
  obtain ⟨b2, off2, h1, ck⟩ := T.at hlt
  cases h1
  have hk1 : ((l.length - 1 : Nat) : Int) = (l.length : Int) - 1 := by omega
  rw [Nat.zero_add] at ck
  clear hx T HSP
  generalize l[l.length - 1] = x at *
  go_wp2_with fail
  go_region
  go_wp2
  go_ret2
  rw [HV.out]
  refine ⟨_, by rw [HG.out]; rfl, HX.out.drew, ?_⟩
  have h2 := (HT.out.ext (Ext.refl [] w1).drew).take (l.length - 1) (by omega)
  rw [← List.dropLast_eq_take] at h2
  exact h2
theorem lnSplitS (s : Bs) (E : Env w0) (hs : s.length ≤ 1000000) (S : Sp w0 [] w L) :
    Calls Tryz.prog 82 #[.string ⟨s.toArray⟩] w fun e w2 => ∃ v2, e = .returned (.tuple #[v2, .string ⟨(lnSplit s).2.toArray⟩]) ∧ Sp w0 [] w2 L ∧ TxAt w2 v2 (lnSplit s).1 :=
  (lnSplit_any s (E.sp S) hs).mono fun _ _ ⟨v2, he, hx, T⟩ => ⟨v2, he, S.ext0 hx, T⟩
end
end Go.Proofs.YtapenolbbofjkaaGreatDoor
