/- line: the reader of bytes that come: New, Add, Next. Conditions: the lengths fit; what Go's variables hold. -/
import Derived.Test.YtapenolbbofjkaaGreatDoorSvP
import Derived.Test.YtapenolbbofjkaaGreatDoorRoO
import Derived.Test.YtapenolbbofjkaaGreatDoorLnV
import Derived.Test.YtapenolbbofjkaaGreatDoorReg
set_option linter.unusedSimpArgs false
set_option linter.unusedVariables false
set_option linter.unnecessarySimpa false
namespace Go.Proofs.YtapenolbbofjkaaGreatDoor
open Go.RowKit

/-! ### plainly: where the first end stands -/
abbrev occ (s : Bs) (i : Nat) : Bool := Lib.occAt s crlf i
theorem occ_zero (c : UInt8) (r : Bs) : occ (c :: r) 0 = decide (c = 13 ∧ r.head? = some 10) := by
  unfold occ Lib.occAt crlf
  cases r with
  | nil => simp [List.isPrefixOf]
  | cons d r =>
    simp only [List.drop_zero, List.isPrefixOf, Bool.and_true, List.head?_cons, Option.some.injEq]
    rw [Bool.eq_iff_iff]
    simp only [Bool.and_eq_true, beq_iff_eq, decide_eq_true_eq]
    constructor <;> (rintro ⟨h1, h2⟩; exact ⟨h1.symm, h2.symm⟩)
theorem occ_succ (c : UInt8) (r : Bs) (i : Nat) : occ (c :: r) (i + 1) = occ r i := rfl
theorem ln_none : ∀ s : Bs, (∀ j, j ≤ s.length → occ s j = false) → lnNext s = none
  | [], _ => rfl
  | c :: r, h => by
    have h0 : ¬ (c = 13 ∧ r.head? = some 10) := by
      have := h 0 (Nat.zero_le _)
      rw [occ_zero] at this
      simpa using this
    have ih := ln_none r fun j hj => by
      have := h (j + 1) (by simp; omega)
      rw [occ_succ] at this
      exact this
    have h1 := lnNext_none ih
    unfold lnNext
    rw [crR_miss h0, h1]
theorem ln_some : ∀ (i : Nat) (s : Bs), occ s i = true → (∀ j, j < i → occ s j = false) → lnNext s = some (s.take i, s.drop (i + 2))
  | 0, [], h, _ => by simp [occ, Lib.occAt, crlf] at h
  | i + 1, [], h, _ => by simp [occ, Lib.occAt, crlf] at h
  | 0, c :: r, h, _ => by
    rw [occ_zero] at h
    simp only [decide_eq_true_eq] at h
    obtain ⟨rfl, h2⟩ := h
    cases r with
    | nil => cases h2
    | cons d r =>
      simp only [List.head?_cons, Option.some.injEq] at h2
      subst h2
      unfold lnNext
      rw [crR_hit]
      rfl
  | i + 1, c :: r, h, hn => by
    have h0 : ¬ (c = 13 ∧ r.head? = some 10) := by
      have := hn 0 (Nat.succ_pos i)
      rw [occ_zero] at this
      simpa using this
    rw [occ_succ] at h
    have ih := ln_some i r h fun j hj => by
      have := hn (j + 1) (by omega)
      rw [occ_succ] at this
      exact this
    obtain ⟨_, _, h3⟩ := lnNext_some ih
    have hl := lnNext_len ih
    have hlen : (r.take i).length = i := by
      rw [List.length_take, List.length_drop] at hl
      rw [List.length_take]
      omega
    unfold lnNext
    rw [crR_miss h0, h3]
    show some (c :: r.take i, (c :: r).drop ((c :: r.take i).length + 2)) = _
    rw [List.length_cons, hlen]
    rfl
theorem occ_drop (s : Bs) (n j : Nat) : Lib.occAt (s.drop n) crlf j = occ s (n + j) := by
  unfold occ Lib.occAt
  rw [List.drop_drop]
/-- What the reader finds behind the first n bytes, in which no end begins. -/
theorem find_cases (s : Bs) (n : Nat) (hn : n ≤ s.length) (hz : ∀ j, j < n → occ s j = false) :
    (Lib.index (s.drop n) crlf = -1 ∧ lnNext s = none ∧ ∀ j, j ≤ s.length → occ s j = false) ∨ (∃ i : Nat, Lib.index (s.drop n) crlf = i ∧ n + i + 2 ≤ s.length ∧ lnNext s = some (s.take (n + i), s.drop (n + i + 2))) := by
  rcases Lib.index_spec (s.drop n) crlf with ⟨h1, h2⟩ | ⟨i, h1, h2, h3, h4⟩
  · refine .inl ⟨h1, ?_, ?_⟩
    · refine ln_none s fun j hj => ?_
      by_cases hj2 : j < n
      · exact hz j hj2
      · have := h2 (j - n) (by rw [List.length_drop]; omega)
        rw [occ_drop] at this
        rw [show n + (j - n) = j by omega] at this
        exact this
    · intro j hj
      by_cases hj2 : j < n
      · exact hz j hj2
      · have := h2 (j - n) (by rw [List.length_drop]; omega)
        rw [occ_drop] at this
        rw [show n + (j - n) = j by omega] at this
        exact this
  · refine .inr ⟨i, h1, ?_, ?_⟩
    · rcases Lib.occAt_room h3 with h5 | h5
      · rw [List.length_drop] at h5
        simp only [crlf, List.length_cons, List.length_nil] at h5
        omega
      · cases h5
    · refine ln_some (n + i) s ?_ fun j hj => ?_
      · rw [← occ_drop]; exact h3
      · by_cases hj2 : j < n
        · exact hz j hj2
        · have := h4 (j - n) (by omega)
          rw [occ_drop] at this
          rw [show n + (j - n) = j by omega] at this
          exact this
theorem occ_last (s : Bs) (h : ∀ j, j ≤ s.length → occ s j = false) : ∀ j, j < s.length - 1 → occ s j = false := fun j hj => h j (by omega)

theorem ln_cut (s : Bs) (n : Nat) : (ByteArray.mk s.toArray).extract n s.length = ⟨(s.drop n).toArray⟩ := by
  apply ByteArray.ext
  simp only [ByteArray.data_extract]
  rw [List.extract_toArray, List.extract_eq_take_drop, List.take_of_length_le (by simp)]
theorem ln_cut0 (s : Bs) (n : Nat) : (ByteArray.mk s.toArray).extract 0 n = ⟨(s.take n).toArray⟩ := by
  apply ByteArray.ext
  simp [ByteArray.data_extract]

/-! ### the walks -/
/-- A reader of lines of up to 1000 bytes, to which s came. -/
abbrev lrdR (b : Nat) (s : Bs) : Res := Res.ex fun n : Nat => (boxR b #[.int .i64 1000, .string ⟨s.toArray⟩, .int .i64 n] 109).and (Res.pure (n ≤ s.length - 1 ∧ ∀ j, j < n → occ s j = false))
section
variable {w0 w : World} {F0 : List Nat} {L : List Res} {b : Nat} {s : Bs}
theorem Sp.lrdOpen (S : Sp w0 F0 w (lrdR b s :: L)) : ∃ n : Nat, n ≤ s.length - 1 ∧ (∀ j, j < n → occ s j = false) ∧ Sp w0 F0 w (boxR b #[.int .i64 1000, .string ⟨s.toArray⟩, .int .i64 n] 109 :: L) := by
  obtain ⟨n, S1⟩ := S.exOpen
  obtain ⟨⟨h1, h2⟩, S2⟩ := S1.part.pull1.pureOpen
  exact ⟨n, h1, h2, S2⟩
theorem Sp.lrdShut {n : Nat} (S : Sp w0 F0 w (boxR b #[.int .i64 1000, .string ⟨s.toArray⟩, .int .i64 n] 109 :: L)) (h1 : n ≤ s.length - 1) (h2 : ∀ j, j < n → occ s j = false) : Sp w0 F0 w (lrdR b s :: L) :=
  ((S.pureShut ⟨h1, h2⟩).pull1.glue).exShut n
set_option maxRecDepth 100000 in
set_option maxHeartbeats 1000000 in
theorem lrdNewS (S : Sp w0 F0 w L) : Calls Tryz.prog 36 #[.int .i64 1000] w fun e w2 => ∃ b, e = .returned (.pointer (some ⟨b, 0, none⟩)) ∧ Sp w0 F0 w2 (lrdR b [] :: L) := by
  have HS := Lib.hid ((S.box #[.int .i64 1000, .string ⟨#[]⟩, .int .i64 0] 109).lrdShut (s := []) (n := 0) (by simp) (by simp))
  clear S
  go_enter Tryz.func36, Tryz.ntmps36
  go_wp2
  go_ret
  exact ⟨_, rfl, HS.out⟩
theorem occ_app {s t : Bs} {j : Nat} (h : j + 2 ≤ s.length) : occ (s ++ t) j = occ s j := by
  unfold occ Lib.occAt crlf
  rw [List.drop_append_of_le_length (by omega)]
  have hl : 2 ≤ (s.drop j).length := by rw [List.length_drop]; omega
  generalize s.drop j = q at *
  match q, hl with
  | a :: c :: r, _ => simp [List.isPrefixOf]
set_option maxRecDepth 100000 in
set_option maxHeartbeats 1000000 in
theorem lrdAddS (t : Bs) (hs : s.length + t.length ≤ 1000000000) (S : Sp w0 F0 w (lrdR b s :: L)) : Calls Tryz.prog 41 #[.pointer (some ⟨b, 0, none⟩), .string ⟨t.toArray⟩] w fun e w2 => e = .returned (.tuple #[]) ∧ Sp w0 F0 w2 (lrdR b (s ++ t) :: L) := by
  obtain ⟨n, h1, h2, S1⟩ := S.lrdOpen
  have HS := Lib.hid ((S1.set (o := 1) (.string ⟨(s ++ t).toArray⟩)).lrdShut (s := s ++ t) (n := n) (by rw [List.length_append]; omega) (fun j hj => by rw [occ_app (by omega)]; exact h2 j hj))
  have c0 := S1.cell
  have f0 := S1.free
  have hadd := add_str s t (by unfold maxLen; omega)
  generalize s ++ t = u at *
  clear S S1 h1 h2 hs
  go_enter Tryz.func41, Tryz.ntmps41
  go_wp2
  go_end0
  exact ⟨rfl, HS.out⟩
def nxtR (s : Bs) : Bs × Int × Bool := match lnNext s with
  | none => ([], 0, false)
  | some (x, _) => if 1000 < x.length then ([], 5, true) else (x, 0, true)
set_option maxRecDepth 100000 in
set_option maxHeartbeats 4000000 in
theorem lrdNextS (hs : s.length ≤ 1000000000) (E : Env w0) (S : Sp w0 [] w (lrdR b s :: L)) : Calls Tryz.prog 38 #[.pointer (some ⟨b, 0, none⟩)] w fun e w2 => e = .returned (.tuple #[.string ⟨(nxtR s).1.toArray⟩, .int .i64 (nxtR s).2.1, .bool (nxtR s).2.2]) ∧ Sp w0 [] w2 (lrdR b (((lnNext s).map (·.2)).getD s) :: L) := by
  obtain ⟨n, h1, h2, S1⟩ := S.lrdOpen
  have HS := Lib.hid S1
  have c0 := S1.cell
  have f0 := S1.free
  have HV : Hid (nxtR s = match lnNext s with | none => ([], 0, false) | some (x, _) => if 1000 < x.length then ([], 5, true) else (x, 0, true)) := rfl
  have HIX : Hid (∀ (W : World), Ext [] w0 W → Calls Tryz.prog 67 #[.string ⟨(s.drop n).toArray⟩, .string ⟨#[13, 10]⟩] W fun e w2 => e = .returned (.int .i64 (Lib.index (s.drop n) crlf)) ∧ w2 = W) := fun W hx => by
    obtain ⟨m, hm⟩ := (E.ext hx).max
    exact Tryz.strings_Index ⟨(s.drop n).toArray⟩ ⟨#[13, 10]⟩ m W (show (s.drop n).length < 4294967281 by rw [List.length_drop]; omega) hm
  have hcut := ln_cut s n
  have hn0 : (0 : Int) ≤ n := Int.natCast_nonneg n
  have hn1 : (n : Int) ≤ s.length := by omega
  have hsl : (s.length : Int) ≤ 1000000000 := by omega
  have HFC := Lib.hid (find_cases s n (by omega) h2)
  have HN1 := Lib.hid h1
  clear S S1 h2 E hs h1
  go_enter Tryz.func38, Tryz.ntmps38
  go_upto_region 1 with (fail)
  generalize s.drop n = sd at *
  refine wp_region_text (S := fun wx => Sp w0 [] wx (boxR b #[.int .i64 1000, .string ⟨s.toArray⟩, .int .i64 n] 109 :: L) ∧ (∀ o, wx.cell? ⟨b, o, none⟩ = (#[.int .i64 1000, .string ⟨s.toArray⟩, .int .i64 n])[o]?)) (by kernel_rfl) (by kernel_rfl) ⟨(HS.out).drew, (Sp.pick [_] [0] (by decide) ((HS.out).drew)).cell⟩ ?_
  repeat
    refine Exists.intro ?_ (And.intro (fun wS hS K hK => ?_) (And.intro ?_ ?_))
    rotate_left 1
    · obtain ⟨hS1, hS2⟩ := hS
      first
        | (refine if_unwanted rfl ?_; simp only [Act.put, List.setIfInBounds_toArray, List.set_cons_zero, List.set_cons_succ]; exact hK.out _ ⟨hS1, hS2⟩)
        | (refine if_wanted rfl ?_; go_simp; exact hK.out _ ⟨hS1, hS2⟩)
        | (refine if_wanted rfl ?_; go_simp; go_at_call 67; refine ((HIX.out _ hS1.ext).mono (fun e w2 h => And.intro h.1 (h.2 ▸ hS1))).mono ?_; rintro e w12 ⟨rfl, S12⟩; exact hK.out _ ⟨S12, (Sp.pick [_] [0] (by decide) (S12)).cell⟩)
    · rfl
  intro wE hE
  have HSE := Lib.hid hE.1
  clear hE
  rcases HFC.out with ⟨h1, h2, h3⟩ | ⟨i, h1, h2, h3⟩
  · have HW : Hid (nxtR s = ([], 0, false)) := by unfold Hid; rw [HV.out, h2]
    have HR : Hid (((lnNext s).map (·.2)).getD s = s) := by unfold Hid; rw [h2]; rfl
    have HS2 := Lib.hid ((HSE.out.set (o := 2) (.int .i64 ((s.length - 1 : Nat) : Int))).lrdShut (by omega) (occ_last s h3))
    have c1 := HSE.out.cell
    have f1 := HSE.out.free
    have hw : IntKind.i64.wrap ((s.length : Int) - 1) = (s.length : Int) - 1 := by rw [IntWalk.i64_in _ (by omega)]
    have hm : max ((s.length : Int) - 1) 0 = ((s.length - 1 : Nat) : Int) := by omega
    generalize ((s.length - 1 : Nat) : Int) = z at *
    generalize Lib.index sd crlf = y at *
    subst h1
    clear h2 h3 HSE HFC HIX HV
    go_wp2
    rw [HW.out, HR.out]
    exact bodyPost_ret (v := .tuple #[.string ⟨#[]⟩, .int .i64 0, .bool false]) (by simp [results, Tryz.results38, go_sem]) rfl ⟨rfl, HS2.out⟩
  · obtain ⟨q, hq⟩ : ∃ q, q = n + i := ⟨_, rfl⟩
    rw [← hq] at h2 h3
    have hqi : (i : Int) + n = q := by omega
    have hq2 : IntKind.i64.wrap (q : Int) = q := by rw [IntWalk.i64_in _ (by omega)]
    have hq3 : IntKind.i64.wrap ((q : Int) + 2) = ((q + 2 : Nat) : Int) := by rw [IntWalk.i64_in _ (by omega)]; omega
    have hc0 := ln_cut0 s q
    have hc1 := ln_cut s (q + 2)
    have hle : (q : Int) ≤ s.length := by omega
    have hle2 : ((q + 2 : Nat) : Int) ≤ s.length := by omega
    have HR : Hid (((lnNext s).map (·.2)).getD s = s.drop (q + 2)) := by unfold Hid; rw [h3]; rfl
    have HLT : Hid ((s.take q).length = q) := by unfold Hid; rw [List.length_take]; omega
    have HW : Hid (nxtR s = if 1000 < (s.take q).length then ([], 5, true) else (s.take q, 0, true)) := by unfold Hid; rw [HV.out, h3]
    have HS2 := Lib.hid (((HSE.out.set (o := 1) (.string ⟨(s.drop (q + 2)).toArray⟩)).set (o := 2) (.int .i64 0)).lrdShut (n := 0) (Nat.zero_le _) (fun j hj => by omega))
    have c1 := HSE.out.cell
    have f1 := HSE.out.free
    generalize Lib.index sd crlf = y at *
    subst h1
    generalize s.drop (q + 2) = rest at *
    generalize s.take q = x at *
    by_cases hx : 1000 < x.length
    · have hx' : (1000 : Int) < x.length := by omega
      have HW2 : Hid (nxtR s = ([], 5, true)) := by unfold Hid; rw [HW.out, if_pos hx]
      clear h2 h3 HSE HFC HIX HV HW hx hq
      go_wp2
      rw [HW2.out, HR.out]
      exact bodyPost_ret (v := .tuple #[.string ⟨#[]⟩, .int .i64 5, .bool true]) (by simp [results, Tryz.results38, go_sem]) rfl ⟨rfl, HS2.out⟩
    · have hx' : (x.length : Int) ≤ 1000 := by omega
      have HW2 : Hid (nxtR s = (x, 0, true)) := by unfold Hid; rw [HW.out, if_neg hx]
      clear h2 h3 HSE HFC HIX HV HW hx hq
      go_wp2
      rw [HW2.out, HR.out]
      exact bodyPost_ret (v := .tuple #[.string ⟨x.toArray⟩, .int .i64 0, .bool true]) (by simp [results, Tryz.results38, go_sem]) rfl ⟨rfl, HS2.out⟩
end
end Go.Proofs.YtapenolbbofjkaaGreatDoor
