/- The document's bytes taken (posthornref12): a number, a text, in words of parts. Conditions: the lengths fit. -/
import Derived.Test.YtkenacggjffjnaaGreatDoorR12b
set_option linter.unusedSimpArgs false
set_option linter.unusedVariables false
set_option linter.unnecessarySimpa false
namespace Go.Proofs.YtkenacggjffjnaaGreatDoor
open Go.RowKit Go.Maps Go.Sort

section
variable {w0 w : World} {F0 : List Nat} {L : List Res} {T b : Nat} {r : Rd}
theorem r12ReadS (most : Nat) (S : Sp w0 F0 w (rdR T b r :: L)) (hs : r.s.length ≤ 1000000000000) :
    Calls Tryz.prog 43 #[.pointer (some ⟨b, 0, none⟩), .int .u64 most] w fun e w2 => e = .returned (.int .u64 (r.num most).1) ∧ Sp w0 F0 w2 (rdR T b (r.num most).2 :: L) := by
  obtain ⟨s, bad⟩ := r
  cases bad
  · cases s with
    | nil => exact r12Num_nil most S
    | cons c t =>
      by_cases hc : c.toNat ≤ 8
      · by_cases hl : c.toNat ≤ t.length
        · exact r12Num_long most c t S hs hc hl
        · rw [num_cons, if_neg (fun h => hl h.2.1)]
          exact r12Num_short most c t S hs hc (by omega)
      · rw [num_cons, if_neg (fun h => hc h.1)]
        exact r12Num_wide most c t S hs (by omega)
  · exact r12Num_bad most s S hs
set_option maxRecDepth 100000 in
set_option maxHeartbeats 1000000 in
theorem r12TextS (most : Nat) (S : Sp w0 F0 w (rdR T b r :: L)) (hs : r.s.length ≤ 1000000000000) (hm : most ≤ 1000000000000) :
    Calls Tryz.prog 44 #[.pointer (some ⟨b, 0, none⟩), .int .i64 most] w fun e w2 => e = .returned (.string ⟨(r.text most).1.toArray⟩) ∧ Sp w0 F0 w2 (rdR T b (r.text most).2 :: L) := by
  have HS := Lib.hid S
  have h0 : (0 : Int) ≤ most := by omega
  have h1 : (most : Int) ≤ 1000000000000 := by omega
  have HL := Lib.hid hs
  clear S hs
  go_enter Tryz.func44, Tryz.ntmps44
  go_wp2_with fail
  refine (r12ReadS most HS.out HL.out).mono ?_
  rintro e w1 ⟨rfl, S⟩
  have hle := num_le r most
  have hlen := num_len r most
  have HT : Hid (r.text most = (r.num most).2.take (r.num most).1) := rfl
  generalize r.num most = q at *
  obtain ⟨n, s, bad⟩ := q
  dsimp only at *
  have c1 := S.cell
  have f1 := S.free
  have HS1 := Lib.hid S
  have hn1 : (n : Int) ≤ 1000000000000 := by omega
  have hs1 : (s.length : Int) ≤ 1000000000000 := by have := HL.out; omega
  clear S HS hle hlen
  cases bad with
  | true =>
    have HV : Hid (r.text most = ([], Rd.failed)) := by rw [HT.out]; exact Eq.refl _
    go_wp2_with fail
    refine (r12FailS (r := ⟨s, true⟩) HS1.out).mono ?_
    rintro e w2 ⟨rfl, S⟩
    have HS2 := Lib.hid S
    clear S
    go_wp2
    go_ret
    rw [HV.out]
    exact ⟨rfl, HS2.out⟩
  | false =>
    by_cases hl : s.length < n
    · have HV : Hid (r.text most = ([], Rd.failed)) := by rw [HT.out]; unfold Rd.take; rw [if_pos (by simp [hl])]; exact Eq.refl _
      have hl' : (s.length : Int) < n := by omega
      go_wp2_with fail
      refine (r12FailS (r := ⟨s, false⟩) HS1.out).mono ?_
      rintro e w2 ⟨rfl, S⟩
      have HS2 := Lib.hid S
      clear S
      go_wp2
      go_ret
      rw [HV.out]
      exact ⟨rfl, HS2.out⟩
    · have HV : Hid (r.text most = (s.take n, ⟨s.drop n, false⟩)) := by rw [HT.out]; unfold Rd.take; rw [if_neg (by simp [hl])]; exact Eq.refl _
      have hl' : (n : Int) ≤ s.length := by omega
      have HS2 := Lib.hid (HS1.out.set (o := 0) (.string ⟨(s.drop n).toArray⟩))
      have HC0 := Lib.hid (cut_head s n)
      have HC1 := Lib.hid (cut_tail s n s.length rfl)
      clear hl
      go_wp2
      go_ret
      rw [HV.out, HC0.out, HC1.out]
      exact ⟨rfl, HS2.out⟩

theorem r12TextL (most : Nat) (mi : Int) (hmi : mi = most) (S : Sp w0 F0 w (rdR T b r :: L)) (hs : r.s.length ≤ 1000000000000) (hm : most ≤ 1000000000000) :
    Calls Tryz.prog 44 #[.pointer (some ⟨b, 0, none⟩), .int .i64 mi] w fun e w2 => e = .returned (.string ⟨(r.text most).1.toArray⟩) ∧ Sp w0 F0 w2 (rdR T b (r.text most).2 :: L) := by
  subst hmi
  exact r12TextS most S hs hm
theorem r12ReadL (most : Nat) (mi : Int) (hmi : mi = most) (S : Sp w0 F0 w (rdR T b r :: L)) (hs : r.s.length ≤ 1000000000000) :
    Calls Tryz.prog 43 #[.pointer (some ⟨b, 0, none⟩), .int .u64 mi] w fun e w2 => e = .returned (.int .u64 (r.num most).1) ∧ Sp w0 F0 w2 (rdR T b (r.num most).2 :: L) := by
  subst hmi
  exact r12ReadS most S hs
theorem Sp.rowMade (S : Sp w0 F0 w L) (e k : Nat) : Sp w0 F0 (w.alloc (.cells #[] e)) (rowR e k (.slice (some ⟨w.heap.size, 0, none⟩) 0 0) 0 [] :: L) :=
  S.gain (G := [w.heap.size]) ((Ext.refl [] w).alloc _) ⟨rfl, by simp, .inr ⟨w.heap.size, 0, #[], rfl, Nat.zero_le _, heap_alloc_new _ _, Nat.le_refl _, Nat.zero_le _, by simp, by simp⟩⟩ (by simp)
end
end Go.Proofs.YtkenacggjffjnaaGreatDoor
