/- addr's reader: must, at, take, run. Conditions: the lengths fit. addr's reader: run, domain. Conditions: the lengths fit; what Go's variables hold. addr's reader: domain, quoted, local. Conditions: the lengths fit; what Go's variables hold. addr's reader: quoted. Conditions: the lengths fit; what Go's variables hold. addr's reader: local, route. Conditions: the lengths fit; what Go's variables hold. addr's reader: path. Conditions: the lengths fit; what Go's variables hold. addr.Read: its deferred call, which recovers. Conditions: the lengths fit; what Go's variables hold. -/
import Derived.Test.YtapenolbbofjkaaGreatDoorAdP
import Derived.Test.YtapenolbbofjkaaGreatDoorAdW
import Derived.Deep.LoopGhost
import Derived.Defers
import Derived.Recover
import Derived.Lib.TrimByte
/-! AdV -/
set_option linter.unusedSimpArgs false
set_option linter.unusedVariables false
set_option linter.unnecessarySimpa false
namespace Go.Proofs.YtapenolbbofjkaaGreatDoor
open Go.RowKit

/-- What is panicked with where there is no path. -/
def wrongC : List PanicEntry := [{ v := .iface 205 (.agg #[]), recovered := false }]
section
variable {w0 w : World} {L : List Res} {b : Nat} {F0 : List Nat}
abbrev ardR (b : Nat) (s : Bs) : Res := boxR b #[.string ⟨s.toArray⟩] 209
set_option maxRecDepth 100000 in
theorem must_yes (w : World) : Calls Tryz.prog 204 #[.bool true] w fun e w2 => e = .returned (.tuple #[]) ∧ w = w2 := by
  go_enter Tryz.func204, Tryz.ntmps204
  go_wp2
  go_end0
  exact ⟨rfl, rfl⟩
set_option maxRecDepth 100000 in
theorem must_no (w : World) : Calls Tryz.prog 204 #[.bool false] w fun e w2 => e = .panicked wrongC ∧ w = w2 := by
  go_enter Tryz.func204, Tryz.ntmps204
  go_wp2
  exact ⟨rfl, rfl, rfl⟩
theorem idx_zero (c : UInt8) (t : Bs) (w : World) : (Instr.index 9 (.string ⟨(c :: t).toArray⟩) (.int .i64 0)).run Tryz.prog w = .ok (.int .u8 (c.toNat : Int)) w := idx_at (c :: t) 0 (by simp) 0 rfl w
set_option maxRecDepth 100000 in
theorem at_any (c : UInt8) (s : Bs) (S : Sp w0 F0 w (ardR b s :: L)) : Calls Tryz.prog 193 #[.pointer (some ⟨b, 0, none⟩), .int .u8 c.toNat] w fun e w2 => e = .returned (.bool (s.head? == some c)) ∧ w = w2 := by
  have h0 := S.cell 0
  clear S
  cases s with
  | nil =>
    go_enter Tryz.func193, Tryz.ntmps193
    go_wp2
    go_ret
    exact ⟨rfl, rfl⟩
  | cons x r =>
    have hix := fun w => idx_zero x r w
    have HE := Lib.hid (eq_u8b x c)
    have HV : Hid (((x :: r).head? == some c) = (x == c)) := rfl
    go_enter Tryz.func193, Tryz.ntmps193
    go_wp2
    go_ret
    refine ⟨ret_bool ?_, rfl⟩
    rw [HV.out, ← HE.out]
theorem cut_one' (x : UInt8) (r : Bs) : (ByteArray.mk (x :: r).toArray).extract 1 (r.length + 1) = ⟨r.toArray⟩ := by
  rw [Lib.extract_mk]
  simp
set_option maxRecDepth 100000 in
set_option maxHeartbeats 1000000 in
theorem take_yes (c : UInt8) (s r : Bs) (h : rdTake c s = some r) (S : Sp w0 F0 w (ardR b s :: L)) : Calls Tryz.prog 192 #[.pointer (some ⟨b, 0, none⟩), .int .u8 c.toNat] w fun e w2 => e = .returned (.tuple #[]) ∧ Sp w0 F0 w2 (ardR b r :: L) := by
  have HS := Lib.hid S
  have h0 := S.cell 0
  have hf := S.free 0
  have H := Lib.hid (at_any c s S)
  obtain ⟨x, t, rfl⟩ : ∃ x t, s = x :: t := by
    cases s with
    | nil => simp [rdTake] at h
    | cons x t => exact ⟨x, t, rfl⟩
  have hx : x = c ∧ t = r := by
    unfold rdTake at h
    split at h
    · rename_i h2
      simp only [List.head?_cons, Option.some.injEq] at h2
      simp only [List.tail_cons, Option.some.injEq] at h
      exact ⟨h2, h⟩
    · cases h
  obtain ⟨rfl, rfl⟩ := hx
  have HV : Hid (((x :: t).head? == some x) = true) := by simp [Hid]
  have HSET := Lib.hid (HS.out.set (o := 0) (.string ⟨t.toArray⟩))
  have hcut := cut_one' x t
  clear S h
  go_enter Tryz.func192, Tryz.ntmps192
  go_wp2_with fail
  refine H.out.mono ?_
  rw [HV.out]
  rintro e w2 ⟨rfl, rfl⟩
  go_wp2_with fail
  refine (must_yes w).mono ?_
  rintro e w2 ⟨rfl, rfl⟩
  go_wp2
  go_end0
  exact ⟨rfl, HSET.out⟩
set_option maxRecDepth 100000 in
set_option maxHeartbeats 1000000 in
theorem take_no (c : UInt8) (s : Bs) (h : rdTake c s = none) (S : Sp w0 F0 w (ardR b s :: L)) : Calls Tryz.prog 192 #[.pointer (some ⟨b, 0, none⟩), .int .u8 c.toNat] w fun e w2 => e = .panicked wrongC ∧ w = w2 := by
  have H := Lib.hid (at_any c s S)
  have HV : Hid ((s.head? == some c) = false) := by
    unfold rdTake at h
    split at h
    · cases h
    · rename_i h2
      exact beq_eq_false_iff_ne.2 h2
  clear S h
  go_enter Tryz.func192, Tryz.ntmps192
  go_wp2_with fail
  refine H.out.mono ?_
  rw [HV.out]
  rintro e w2 ⟨rfl, rfl⟩
  go_wp2_with fail
  refine (must_no w).mono ?_
  rintro e w2 ⟨rfl, rfl⟩
  go_wp2
  exact ⟨rfl, rfl, rfl⟩
end
end Go.Proofs.YtapenolbbofjkaaGreatDoor

/-! AdV2 -/
namespace Go.Proofs.YtapenolbbofjkaaGreatDoor
open Go.RowKit

section
variable {w0 w : World} {L : List Res} {b : Nat} {F0 : List Nat}
set_option maxRecDepth 100000 in
theorem domC_any (c : UInt8) (w : World) : Calls Tryz.prog 210 #[.int .u8 c.toNat] w fun e w2 => e = .returned (.bool (domC c)) ∧ w = w2 := by
  have H := Lib.hid (inLabel_any c w)
  have HD : Hid (((c.toNat : Int) == 46) = (c == 46)) := eq_u8b c 46
  go_enter Tryz.func210, Tryz.ntmps210
  go_wp2_with fail
  refine H.out.mono ?_
  rintro e w' ⟨rfl, rfl⟩
  cases hl : labB c with
  | true =>
    have HV : Hid (domC c = true) := by unfold Hid domC; rw [hl]; rfl
    clear hl
    go_wp2
    go_ret
    exact ⟨ret_bool HV.out.symm, rfl⟩
  | false =>
    have HV : Hid (domC c = (c == 46)) := by unfold Hid domC; rw [hl]; rfl
    clear hl
    go_wp2
    go_ret
    exact ⟨ret_bool (by rw [HV.out, HD.out]), rfl⟩
set_option maxRecDepth 100000 in
theorem locC_any (c : UInt8) (w : World) : Calls Tryz.prog 207 #[.int .u8 c.toNat] w fun e w2 => e = .returned (.bool (locC c)) ∧ w = w2 := by
  have H := Lib.hid (inAtom_any c w)
  have HD : Hid (((c.toNat : Int) == 46) = (c == 46)) := eq_u8b c 46
  go_enter Tryz.func207, Tryz.ntmps207
  go_wp2_with fail
  refine H.out.mono ?_
  rintro e w' ⟨rfl, rfl⟩
  cases hl : atomB c with
  | true =>
    have HV : Hid (locC c = true) := by unfold Hid locC; rw [hl]; rfl
    clear hl
    go_wp2
    go_ret
    exact ⟨ret_bool HV.out.symm, rfl⟩
  | false =>
    have HV : Hid (locC c = (c == 46)) := by unfold Hid locC; rw [hl]; rfl
    clear hl
    go_wp2
    go_ret
    exact ⟨ret_bool (by rw [HV.out, HD.out]), rfl⟩

theorem while_at (p : UInt8 → Bool) (s : Bs) (k : Nat) (hk : k ≤ s.length) (h1 : ∀ c ∈ s.take k, p c = true) (h2 : ∀ (h : k < s.length), p s[k] = false) : s.takeWhile p = s.take k ∧ s.dropWhile p = s.drop k := by
  by_cases hlt : k < s.length
  · have e : s = s.take k ++ s[k] :: s.drop (k + 1) := by rw [← List.drop_eq_getElem_cons hlt, List.take_append_drop]
    have := takeWhile_stop p (s.take k) (s.drop (k + 1)) s[k] h1 (h2 hlt)
    rw [← e, ← List.drop_eq_getElem_cons hlt] at this
    exact this
  · have e : k = s.length := by omega
    subst e
    rw [List.take_length] at h1 ⊢
    rw [List.drop_length]
    have h3 : ∀ t : Bs, (∀ c ∈ t, p c = true) → t.takeWhile p = t ∧ t.dropWhile p = [] := fun t => by
      induction t with
      | nil => intro _; exact ⟨rfl, rfl⟩
      | cons c r ih =>
        intro h
        have i := ih fun x hx => h x (by simp [hx])
        rw [List.takeWhile_cons, List.dropWhile_cons, if_pos (h c (by simp)), if_pos (h c (by simp)), i.1, i.2]
        exact ⟨rfl, rfl⟩
    exact h3 s h1
set_option maxRecDepth 100000 in
set_option maxHeartbeats 2000000 in
theorem run_any (g : Nat) (p : UInt8 → Bool) (eg : ∀ args w, (callFunc g args).run Tryz.prog w = .ok (.enter g args) w) (hg : ∀ (c : UInt8) (w : World), Calls Tryz.prog g #[.int .u8 c.toNat] w fun e w2 => e = .returned (.bool (p c)) ∧ w = w2)
    (s : Bs) (hs : s.length ≤ 1000000) (S : Sp w0 F0 w (ardR b s :: L)) :
    Calls Tryz.prog 206 #[.pointer (some ⟨b, 0, none⟩), .func (.func g) #[] #[]] w fun e w2 => e = .returned (.string ⟨(s.takeWhile p).toArray⟩) ∧ Sp w0 F0 w2 (ardR b (s.dropWhile p) :: L) := by
  have HS := Lib.hid S
  have h0 := S.cell 0
  have hf := S.free 0
  have HG := Lib.hid hg
  have hs' : (s.length : Int) ≤ 1000000 := by omega
  clear S hg hs
  go_enter Tryz.func206, Tryz.ntmps206
  go_wp2_with fail
  go_loop [5] (fun i => ∃ k : Nat, i = .int .i64 k ∧ k ≤ s.length ∧ (s.take k).all p = true) (fun i => s.length - (intOf i).toNat)
  case atStart => exact ⟨0, rfl, Nat.zero_le _, rfl⟩
  case round =>
    obtain ⟨k, rfl, hk, hall⟩ := hrel
    have HALL := Lib.hid hall
    clear hall
    have hex : (k < s.length → p (s[k]?.getD 0) = false) → s.takeWhile p = s.take k ∧ s.dropWhile p = s.drop k := fun h => while_at p s k hk (List.all_eq_true.1 HALL.out) (fun hl => by have := h hl; rw [List.getElem?_eq_getElem hl] at this; exact this)
    have HEX := Lib.hid hex
    clear hex
    have he1 : (ByteArray.mk s.toArray).extract 0 k = ⟨(s.take k).toArray⟩ := by rw [Lib.extract_mk]; simp
    have he2 : (ByteArray.mk s.toArray).extract k s.length = ⟨(s.drop k).toArray⟩ := by rw [Lib.extract_mk, List.take_of_length_le (by simp)]
    by_cases hlt : k < s.length
    · have hlt' : (k : Int) < s.length := by omega
      have hix := fun w => idx_at s k hlt (k : Int) rfl w
      have HST : Hid (s.take (k + 1) = s.take k ++ [s[k]]) := List.take_succ_eq_append_getElem hlt
      have HGE : Hid (s[k]?.getD 0 = s[k]) := by unfold Hid; rw [List.getElem?_eq_getElem hlt]; rfl
      generalize s[k] = c at *
      cases hp : p c with
      | true =>
        have HP := Lib.hid hp
        clear hp he1 he2
        go_wp2_with (go_at_fn g; refine (HG.out _ _).mono ?_; rw [HP.out]; rintro e w' ⟨rfl, rfl⟩)
        go_round
        case rel => exact ⟨k + 1, by go_num, by omega, by rw [HST.out, List.all_append, HALL.out]; simp [HP.out]⟩
        case measure => simp [intOf]; omega
      | false =>
        have HP := Lib.hid hp
        have HW := Lib.hid (HEX.out fun _ => by rw [HGE.out, hp])
        rw [← HW.out.1] at he1
        rw [← HW.out.2] at he2
        have HSET := Lib.hid (HS.out.set (o := 0) (.string ⟨(s.dropWhile p).toArray⟩))
        clear hp
        go_wp2_with (go_at_fn g; refine (HG.out _ _).mono ?_; rw [HP.out]; rintro e w' ⟨rfl, rfl⟩)
        go_ret
        exact ⟨rfl, HSET.out⟩
    · have HW := Lib.hid (HEX.out fun h => absurd h hlt)
      rw [← HW.out.1] at he1
      rw [← HW.out.2] at he2
      have HSET := Lib.hid (HS.out.set (o := 0) (.string ⟨(s.dropWhile p).toArray⟩))
      go_wp2
      go_ret
      exact ⟨rfl, HSET.out⟩
end
end Go.Proofs.YtapenolbbofjkaaGreatDoor

/-! AdV3 -/
namespace Go.Proofs.YtapenolbbofjkaaGreatDoor
open Go.RowKit

/-- What a method of the reader hands back, or that it panics. -/
def OutR (b : Nat) (w0 : World) (L : List Res) (o : Option (Bs × Bs)) (e : Ending) (w2 : World) : Prop :=
  match o with
  | some q => e = .returned (.string ⟨q.1.toArray⟩) ∧ Sp w0 [] w2 (ardR b q.2 :: L)
  | none => e = .panicked wrongC ∧ ∃ s, Sp w0 [] w2 (ardR b s :: L)
section
variable {w0 w : World} {L : List Res} {b : Nat} {F0 : List Nat} {v : Value}
set_option maxRecDepth 100000 in
set_option maxHeartbeats 1000000 in
theorem rdDomainS (s : Bs) (hs : s.length ≤ 1000000) (S : Sp w0 [] w (ardR b s :: L)) (E : Env w0) :
    Calls Tryz.prog 196 #[.pointer (some ⟨b, 0, none⟩)] w (OutR b w0 L (rdDom s)) := by
  have eg := enters_of Tryz.func210 (by kernel_rfl) rfl
  have HR := Lib.hid (run_any 210 domC eg (fun c w => domC_any c w) s hs S)
  have HE := Lib.hid E
  have HL : Hid ((s.takeWhile domC).length ≤ 1000000) := by
    have := (List.takeWhile_sublist domC (l := s)).length_le
    unfold Hid; omega
  have HD : Hid (rdDom s = if domOk (s.takeWhile domC) then some (smallB (s.takeWhile domC), s.dropWhile domC) else none) := rfl
  generalize s.takeWhile domC = a at *
  generalize s.dropWhile domC = r at *
  clear eg S E hs
  cases hd : domOk a with
  | true =>
    have HV : Hid (rdDom s = some (smallB a, r)) := by unfold Hid; rw [HD.out, hd]; rfl
    have HDV : Hid (domV a = (smallB a, 0)) := by unfold Hid domV; rw [hd]; rfl
    clear hd
    rw [HV.out]
    go_enter Tryz.func196, Tryz.ntmps196
    go_wp2_with fail
    refine HR.out.mono ?_
    rintro e w1 ⟨rfl, S1⟩
    have HS1 := Lib.hid S1
    clear S1
    go_wp2_with fail
    refine (domainS a HS1.out HE.out HL.out).mono ?_
    rw [HDV.out]
    rintro e w2 ⟨rfl, S2⟩
    have HS2 := Lib.hid S2
    clear S2
    go_wp2_with fail
    refine (must_yes w2).mono ?_
    rintro e w3 ⟨rfl, rfl⟩
    go_wp2
    go_ret
    exact ⟨rfl, HS2.out⟩
  | false =>
    have HV : Hid (rdDom s = none) := by unfold Hid; rw [HD.out, hd]; rfl
    have HDV : Hid (domV a = ([], 2)) := by unfold Hid domV; rw [hd]; rfl
    clear hd
    rw [HV.out]
    go_enter Tryz.func196, Tryz.ntmps196
    go_wp2_with fail
    refine HR.out.mono ?_
    rintro e w1 ⟨rfl, S1⟩
    have HS1 := Lib.hid S1
    clear S1
    go_wp2_with fail
    refine (domainS a HS1.out HE.out HL.out).mono ?_
    rw [HDV.out]
    rintro e w2 ⟨rfl, S2⟩
    have HS2 := Lib.hid S2
    clear S2
    go_wp2_with fail
    refine (must_no w2).mono ?_
    rintro e w3 ⟨rfl, rfl⟩
    go_wp2
    exact ⟨rfl, rfl, r, HS2.out⟩
end
end Go.Proofs.YtapenolbbofjkaaGreatDoor

/-! AdV4 -/
namespace Go.Proofs.YtapenolbbofjkaaGreatDoor
open Go.RowKit

section
variable {w0 w : World} {L : List Res} {b : Nat} {F0 : List Nat} {v : Value}
theorem rdQ_other (acc : Bs) (c : UInt8) (r : Bs) (h1 : c ≠ 34) (h2 : c ≠ 92) : rdQ acc (c :: r) = rdQ (acc ++ [c]) r := by
  rw [rdQ]
  · exact h1
  · intro _ _ h; exact absurd h h2
  · intro h; exact absurd h h2
theorem rdQ_len : ∀ (n : Nat) (s acc : Bs) (q : Bs × Bs), s.length ≤ n → rdQ acc s = some q → q.1.length ≤ acc.length + s.length := by
  intro n
  induction n with
  | zero =>
    intro s acc q h hq
    obtain rfl := List.eq_nil_of_length_eq_zero (Nat.le_zero.1 h)
    simp [rdQ] at hq
  | succ n ih =>
    intro s acc q h hq
    cases s with
    | nil => simp [rdQ] at hq
    | cons c r =>
      by_cases h1 : c = 34
      · subst h1
        simp only [rdQ, Option.some.injEq] at hq
        rw [← hq]; simp
      · by_cases h2 : c = 92
        · subst h2
          cases r with
          | nil => simp [rdQ] at hq
          | cons d t =>
            have := ih t (acc ++ [d]) q (by simp only [List.length_cons] at h; omega) hq
            simp only [List.length_append, List.length_cons, List.length_nil] at *
            omega
        · rw [rdQ_other acc c r h1 h2] at hq
          have := ih r (acc ++ [c]) q (by simpa using h) hq
          simp only [List.length_append, List.length_cons, List.length_nil] at *
          omega
set_option maxRecDepth 100000 in
set_option maxHeartbeats 4000000 in
theorem rdQuotedS (s : Bs) (hs : s.length ≤ 1000000) (S : Sp w0 [] w (ardR b s :: L)) :
    Calls Tryz.prog 205 #[.pointer (some ⟨b, 0, none⟩)] w (OutR b w0 L (rdQuoted s)) := by
  have HS := Lib.hid S
  have HD : Hid (rdQuoted s = (rdTake 34 s).bind fun s1 => (rdQ [] s1).bind fun q => if localB q.1 then some q else none) := rfl
  clear S
  cases ht : rdTake 34 s with
  | none =>
    have HV : Hid (rdQuoted s = none) := by unfold Hid; rw [HD.out, ht]; rfl
    have HT := Lib.hid (take_no 34 s ht HS.out)
    clear ht
    rw [HV.out]
    go_enter Tryz.func205, Tryz.ntmps205
    go_wp2_with fail
    refine HT.out.mono ?_
    rintro e w1 ⟨rfl, rfl⟩
    go_wp2
    exact ⟨rfl, rfl, s, HS.out⟩
  | some s1 =>
    have HV : Hid (rdQuoted s = (rdQ [] s1).bind fun q => if localB q.1 then some q else none) := by unfold Hid; rw [HD.out, ht]; rfl
    have HT := Lib.hid (take_yes 34 s s1 ht HS.out)
    have HN : Hid (s1.length ≤ 1000000) := by
      unfold rdTake at ht
      split at ht
      · simp only [Option.some.injEq] at ht
        rw [← ht]
        unfold Hid
        simp
        omega
      · cases ht
    clear ht HD hs
    go_enter Tryz.func205, Tryz.ntmps205
    go_wp2_with fail
    refine HT.out.mono ?_
    rintro e w1 ⟨rfl, S1⟩
    have HS1 := Lib.hid (S1.rowNil 5 1)
    clear S1 HS HT
    go_wp2_with fail
    go_loopg [3] s1.length (fun gg v wr => ∃ acc t : Bs, t.length ≤ gg ∧ acc.length + t.length ≤ 1000000 ∧ rdQ acc t = rdQ [] s1 ∧ Sp w0 [] wr (bytW v acc :: ardR b t :: L))
    case atStart => exact ⟨[], s1, Nat.le_refl _, by have := HN.out; simpa using this, rfl, HS1.out⟩
    case round =>
      clear HS1
      obtain ⟨acc, t, hg, hla, hq, S2⟩ := hrel
      have HG := Lib.hid hg
      have HLA := Lib.hid hla
      have HQ := Lib.hid hq
      have HS2 := Lib.hid S2
      clear hg hla hq S2
      have HAT := Lib.hid (fun c : UInt8 => at_any c t HS2.out.pull1)
      cases t with
      | nil =>
        have HVN : Hid (rdQuoted s = none) := by unfold Hid; rw [HV.out, ← HQ.out]; rfl
        have c5 := HS2.out.pull1.cell 0
        go_wp2_with fail
        refine (HAT.out 34).mono ?_
        rintro e w3 ⟨rfl, rfl⟩
        go_wp2_with fail
        refine (HAT.out 92).mono ?_
        rintro e w3 ⟨rfl, rfl⟩
        go_wp2_with fail
        refine (must_no _).mono ?_
        rintro e w3 ⟨rfl, rfl⟩
        go_wp2
        rw [HVN.out]
        exact ⟨rfl, rfl, [], HS2.out.drop⟩
      | cons x r =>
        have HA34 : Hid (((x :: r).head? == some (34 : UInt8)) = (x == 34)) := rfl
        have HA92 : Hid (((x :: r).head? == some (92 : UInt8)) = (x == 92)) := rfl
        by_cases h34 : x = 34
        · subst h34
          have HQ2 : Hid (rdQ [] s1 = some (acc, r)) := by rw [← HQ.out]; exact Eq.refl _
          have HB34 : Hid ((((34 : UInt8) :: r).head? == some (34 : UInt8)) = true) := rfl
          have HTK := Lib.hid (take_yes 34 (34 :: r) r (by simp [rdTake]) HS2.out.pull1)
          go_wp2_with fail
          refine (HAT.out 34).mono ?_
          rw [HB34.out]
          rintro e w3 ⟨rfl, rfl⟩
          go_wp2_with fail
          refine HTK.out.mono ?_
          rintro e w4 ⟨rfl, S4⟩
          have HS4 := Lib.hid S4.pull1
          have hcv := S4.pull1.bytesStrW
          clear S4
          have HLO := Lib.hid (fun w => local_any acc w (by have := HLA.out; simp only [List.length_cons] at this; omega))
          cases hl : localB acc with
          | true =>
            have HL := Lib.hid hl
            have HVY : Hid (rdQuoted s = some (acc, r)) := by unfold Hid; rw [HV.out, HQ2.out, Option.bind_some, if_pos hl]
            clear hl
            go_wp2_with fail
            refine (HLO.out _).mono ?_
            rw [HL.out]
            rintro e w5 ⟨rfl, rfl⟩
            go_wp2_with fail
            refine (must_yes _).mono ?_
            rintro e w5 ⟨rfl, rfl⟩
            go_wp2
            go_ret
            rw [HVY.out]
            exact ⟨rfl, HS4.out.drop⟩
          | false =>
            have HL := Lib.hid hl
            have HVY : Hid (rdQuoted s = none) := by unfold Hid; rw [HV.out, HQ2.out, Option.bind_some, if_neg (by simp [hl])]
            clear hl
            go_wp2_with fail
            refine (HLO.out _).mono ?_
            rw [HL.out]
            rintro e w5 ⟨rfl, rfl⟩
            go_wp2_with fail
            refine (must_no _).mono ?_
            rintro e w5 ⟨rfl, rfl⟩
            go_wp2
            rw [HVY.out]
            exact ⟨rfl, rfl, r, HS4.out.drop⟩
        · have HB34 : Hid ((x == 34) = false) := by unfold Hid; simpa using h34
          by_cases h92 : x = 92
          · subst h92
            have HB92 : Hid ((((92 : UInt8) :: r).head? == some (92 : UInt8)) = true) := rfl
            have HTK := Lib.hid (take_yes 92 (92 :: r) r (by simp [rdTake]) HS2.out.pull1)
            cases r with
            | nil =>
              have HVN : Hid (rdQuoted s = none) := by unfold Hid; rw [HV.out, ← HQ.out]; rfl
              go_wp2_with fail
              refine (HAT.out 34).mono ?_
              rw [HA34.out, HB34.out]
              rintro e w3 ⟨rfl, rfl⟩
              go_wp2_with fail
              refine (HAT.out 92).mono ?_
              rw [HB92.out]
              rintro e w3 ⟨rfl, rfl⟩
              go_wp2_with fail
              refine HTK.out.mono ?_
              rintro e w4 ⟨rfl, S4⟩
              have HS4 := Lib.hid S4.pull1
              have c5 := HS4.out.pull1.cell 0
              clear S4
              go_wp2_with fail
              refine (must_no _).mono ?_
              rintro e w3 ⟨rfl, rfl⟩
              go_wp2
              rw [HVN.out]
              exact ⟨rfl, rfl, [], HS4.out.drop⟩
            | cons c t =>
              go_wp2_with fail
              refine (HAT.out 34).mono ?_
              rw [HA34.out, HB34.out]
              rintro e w3 ⟨rfl, rfl⟩
              go_wp2_with fail
              refine (HAT.out 92).mono ?_
              rw [HB92.out]
              rintro e w3 ⟨rfl, rfl⟩
              go_wp2_with fail
              refine HTK.out.mono ?_
              rintro e w4 ⟨rfl, S4⟩
              have HS4 := Lib.hid S4.pull1
              clear S4
              have hla2 := HLA.out
              simp only [List.length_cons] at hla2
              have c5 := HS4.out.pull1.cell 0
              have hix := fun w => idx_zero c t w
              have hcut := cut_one' c t
              have hlac := hla2
              have S6 := HS4.out.box #[bv c] 5
              obtain ⟨gg, cap, w6, hrun, S7⟩ := Sp.appendByteW 117 c (by omega) S6
              have HRUN := Lib.hid hrun
              have HS7 := Lib.hid S7
              have c7 := S7.pull1.cell 0
              have f7 := S7.pull1.free 0
              have HS8 := Lib.hid ((HS7.out.pull1.set (o := 0) (.string ⟨t.toArray⟩)).pull1)
              clear S6 S7 hrun hlac hla2
              go_wp2_with fail
              refine (must_yes _).mono ?_
              rintro e w5 ⟨rfl, rfl⟩
              go_wp2_with (at_builtin; refine wpList_append_run (by rfl) (by rfl) (by rfl) (by rfl) HRUN.out ?_)
              go_roundg t.length
              case measure => have := HG.out; simp only [List.length_cons] at this; omega
              case rel => exact ⟨acc ++ [c], t, by simp, by have := HLA.out; simp only [List.length_append, List.length_cons, List.length_nil] at *; omega, by rw [← HQ.out]; exact Eq.refl _, HS8.out⟩

          · have HB92 : Hid ((x == 92) = false) := by unfold Hid; simpa using h92
            have HOT := Lib.hid (rdQ_other acc x r h34 h92)
            go_wp2_with fail
            refine (HAT.out 34).mono ?_
            rw [HA34.out, HB34.out]
            rintro e w3 ⟨rfl, rfl⟩
            go_wp2_with fail
            refine (HAT.out 92).mono ?_
            rw [HA92.out, HB92.out]
            rintro e w3 ⟨rfl, rfl⟩
            have hla2 := HLA.out
            simp only [List.length_cons] at hla2
            have c5 := HS2.out.pull1.cell 0
            have hix := fun w => idx_zero x r w
            have hcut := cut_one' x r
            have hlac := hla2
            have S6 := HS2.out.box #[bv x] 5
            obtain ⟨gg, cap, w6, hrun, S7⟩ := Sp.appendByteW 117 x (by omega) S6
            have HRUN := Lib.hid hrun
            have HS7 := Lib.hid S7
            have c7 := S7.pull1.cell 0
            have f7 := S7.pull1.free 0
            have HS8 := Lib.hid ((HS7.out.pull1.set (o := 0) (.string ⟨r.toArray⟩)).pull1)
            clear S6 S7 hrun hlac hla2
            go_wp2_with fail
            refine (must_yes _).mono ?_
            rintro e w5 ⟨rfl, rfl⟩
            go_wp2_with (at_builtin; refine wpList_append_run (by rfl) (by rfl) (by rfl) (by rfl) HRUN.out ?_)
            go_roundg r.length
            case measure => have := HG.out; simp only [List.length_cons] at this; omega
            case rel => exact ⟨acc ++ [x], r, by simp, by have := HLA.out; simp only [List.length_append, List.length_cons, List.length_nil] at *; omega, by rw [← HQ.out]; exact HOT.out.symm, HS8.out⟩

end
end Go.Proofs.YtapenolbbofjkaaGreatDoor

/-! AdV5 -/
namespace Go.Proofs.YtapenolbbofjkaaGreatDoor
open Go.RowKit

/-- What a method of the reader does that hands nothing back, or that it panics. -/
def OutU (b : Nat) (w0 : World) (L : List Res) (o : Option Bs) (e : Ending) (w2 : World) : Prop :=
  match o with
  | some r => e = .returned (.tuple #[]) ∧ Sp w0 [] w2 (ardR b r :: L)
  | none => e = .panicked wrongC ∧ ∃ s, Sp w0 [] w2 (ardR b s :: L)
section
variable {w0 w : World} {L : List Res} {b : Nat} {F0 : List Nat} {v : Value}
theorem takeS (c : UInt8) (s : Bs) (S : Sp w0 [] w (ardR b s :: L)) : Calls Tryz.prog 192 #[.pointer (some ⟨b, 0, none⟩), .int .u8 c.toNat] w (OutU b w0 L (rdTake c s)) := by
  cases h : rdTake c s with
  | some r => exact take_yes c s r h S
  | none => exact (take_no c s h S).mono fun e w2 ⟨he, hw⟩ => ⟨he, s, hw ▸ S⟩
theorem rdTake_len {c : UInt8} {s r : Bs} (h : rdTake c s = some r) : r.length + 1 = s.length := by
  unfold rdTake at h
  split at h
  · rename_i h2
    cases s with
    | nil => cases h2
    | cons x t =>
      simp only [List.tail_cons, Option.some.injEq] at h
      rw [← h]; rfl
  · cases h
theorem rdDom_len {s : Bs} {q : Bs × Bs} (h : rdDom s = some q) : q.1.length ≤ s.length ∧ q.2.length ≤ s.length := by
  unfold rdDom at h
  split at h
  · simp only [Option.some.injEq] at h
    rw [← h]
    dsimp only
    rw [smallB_len]
    exact ⟨(List.takeWhile_sublist domC).length_le, (List.dropWhile_sublist domC).length_le⟩
  · cases h
set_option maxRecDepth 100000 in
set_option maxHeartbeats 1000000 in
theorem rdLocalS (s : Bs) (hs : s.length ≤ 1000000) (S : Sp w0 [] w (ardR b s :: L)) (E : Env w0) :
    Calls Tryz.prog 195 #[.pointer (some ⟨b, 0, none⟩)] w (OutR b w0 L (rdLocal s)) := by
  have HAT := Lib.hid (at_any 34 s S)
  by_cases h34 : s.head? = some 34
  · have HV : Hid (rdLocal s = rdQuoted s) := by unfold Hid rdLocal; rw [if_pos h34]
    have HB : Hid ((s.head? == some 34) = true) := by unfold Hid; rw [h34]; rfl
    have HQ := Lib.hid (rdQuotedS s hs S)
    clear S E hs h34
    rw [HV.out]
    cases hq : rdQuoted s with
    | none =>
      rw [hq] at HQ
      go_enter Tryz.func195, Tryz.ntmps195
      go_wp2_with fail
      refine HAT.out.mono ?_
      rw [HB.out]
      rintro e w1 ⟨rfl, rfl⟩
      go_wp2_with fail
      refine HQ.out.mono ?_
      rintro e w2 ⟨rfl, s2, S2⟩
      have HS2 := Lib.hid S2
      clear S2
      go_wp2
      exact ⟨rfl, rfl, s2, HS2.out⟩
    | some q =>
      rw [hq] at HQ
      go_enter Tryz.func195, Tryz.ntmps195
      go_wp2_with fail
      refine HAT.out.mono ?_
      rw [HB.out]
      rintro e w1 ⟨rfl, rfl⟩
      go_wp2_with fail
      refine HQ.out.mono ?_
      rintro e w2 ⟨rfl, S2⟩
      have HS2 := Lib.hid S2
      clear S2
      go_wp2
      go_ret
      exact ⟨rfl, HS2.out⟩
  · have eg := enters_of Tryz.func207 (by kernel_rfl) rfl
    have HR := Lib.hid (run_any 207 locC eg (fun c w => locC_any c w) s hs S)
    have HE := Lib.hid E
    have HL : Hid ((s.takeWhile locC).length ≤ 1000000) := by
      have := (List.takeWhile_sublist locC (l := s)).length_le
      unfold Hid; omega
    have HV : Hid (rdLocal s = if plainB (s.takeWhile locC) then some (s.takeWhile locC, s.dropWhile locC) else none) := by unfold Hid rdLocal; rw [if_neg h34]
    have HB : Hid ((s.head? == some 34) = false) := by unfold Hid; exact beq_eq_false_iff_ne.2 h34
    generalize s.takeWhile locC = a at *
    generalize s.dropWhile locC = r at *
    clear eg S E hs h34
    cases hd : plainB a with
    | true =>
      have HV2 : Hid (rdLocal s = some (a, r)) := by unfold Hid; rw [HV.out, hd]; rfl
      have HP := Lib.hid hd
      clear hd
      rw [HV2.out]
      go_enter Tryz.func195, Tryz.ntmps195
      go_wp2_with fail
      refine HAT.out.mono ?_
      rw [HB.out]
      rintro e w1 ⟨rfl, rfl⟩
      go_wp2_with fail
      refine HR.out.mono ?_
      rintro e w1 ⟨rfl, S1⟩
      have HS1 := Lib.hid S1
      clear S1
      go_wp2_with fail
      refine (plain_any a w1 (HE.out.sp HS1.out) HL.out).mono ?_
      rw [HP.out]
      rintro e w2 ⟨rfl, hx⟩
      have HS2 := Lib.hid (HS1.out.ext0 hx)
      clear hx
      go_wp2_with fail
      refine (must_yes w2).mono ?_
      rintro e w3 ⟨rfl, rfl⟩
      go_wp2
      go_ret
      exact ⟨rfl, HS2.out⟩
    | false =>
      have HV2 : Hid (rdLocal s = none) := by unfold Hid; rw [HV.out, hd]; rfl
      have HP := Lib.hid hd
      clear hd
      rw [HV2.out]
      go_enter Tryz.func195, Tryz.ntmps195
      go_wp2_with fail
      refine HAT.out.mono ?_
      rw [HB.out]
      rintro e w1 ⟨rfl, rfl⟩
      go_wp2_with fail
      refine HR.out.mono ?_
      rintro e w1 ⟨rfl, S1⟩
      have HS1 := Lib.hid S1
      clear S1
      go_wp2_with fail
      refine (plain_any a w1 (HE.out.sp HS1.out) HL.out).mono ?_
      rw [HP.out]
      rintro e w2 ⟨rfl, hx⟩
      have HS2 := Lib.hid (HS1.out.ext0 hx)
      clear hx
      go_wp2_with fail
      refine (must_no w2).mono ?_
      rintro e w3 ⟨rfl, rfl⟩
      go_wp2
      exact ⟨rfl, rfl, r, HS2.out⟩
set_option maxRecDepth 100000 in
set_option maxHeartbeats 2000000 in
theorem rdRouteS (s : Bs) (hs : s.length ≤ 1000000) (S : Sp w0 [] w (ardR b s :: L)) (E : Env w0) :
    Calls Tryz.prog 194 #[.pointer (some ⟨b, 0, none⟩)] w (OutU b w0 L (rdRoute s)) := by
  have HAT := Lib.hid (at_any 64 s S)
  have HS := Lib.hid S
  have HE := Lib.hid E
  have HZ := Lib.hid hs
  clear S E hs
  by_cases h64 : s.head? = some 64
  · have HV : Hid (rdRoute s = rdRoutes s.length s) := by unfold Hid rdRoute; rw [if_pos h64]
    have HB : Hid ((s.head? == some 64) = true) := by unfold Hid; rw [h64]; rfl
    clear h64
    rw [HV.out]
    go_enter Tryz.func194, Tryz.ntmps194
    go_wp2_with fail
    refine HAT.out.mono ?_
    rw [HB.out]
    rintro e w1 ⟨rfl, rfl⟩
    clear HAT
    go_wp2_with fail
    go_loopg [] s.length (fun gg wr => ∃ t : Bs, t.length ≤ gg ∧ t.length ≤ 1000000 ∧ rdRoutes gg t = rdRoutes s.length s ∧ Sp w0 [] wr (ardR b t :: L))
    case atStart => exact ⟨s, Nat.le_refl _, HZ.out, rfl, HS.out⟩
    case round =>
      clear HS
      obtain ⟨t, hg, hz, hq, S2⟩ := hrel
      have HQ := Lib.hid hq
      have HS2 := Lib.hid S2
      have HT := Lib.hid (takeS 64 t S2)
      clear hq S2
      cases ht : rdTake 64 t with
      | none =>
        have HR : Hid (rdRoutes s.length s = none) := by
          unfold Hid
          rw [← HQ.out]
          cases gk with
          | zero => rfl
          | succ f => unfold rdRoutes; rw [ht]; rfl
        rw [ht] at HT
        clear ht hg hz
        go_wp2_with fail
        refine HT.out.mono ?_
        rintro e w2 ⟨rfl, s2, S3⟩
        have HS3 := Lib.hid S3
        clear S3
        go_wp2
        rw [HR.out]
        exact ⟨rfl, rfl, s2, HS3.out⟩
      | some t1 =>
        have hl1 := rdTake_len ht
        obtain ⟨f, rfl⟩ : ∃ f, gk = f + 1 := ⟨gk - 1, by omega⟩
        have HQ2 : Hid (rdRoutes s.length s = (rdDom t1).bind fun q => if q.2.head? = some 44 then rdRoutes f q.2.tail else rdTake 58 q.2) := by
          unfold Hid
          rw [← HQ.out]
          conv => lhs; unfold rdRoutes
          rw [ht]
          rfl
        rw [ht] at HT
        clear ht
        go_wp2_with fail
        refine HT.out.mono ?_
        rintro e w2 ⟨rfl, S3⟩
        have HD := Lib.hid (rdDomainS t1 (by omega) S3 HE.out)
        clear S3 HT
        cases hd : rdDom t1 with
        | none =>
          have HR : Hid (rdRoutes s.length s = none) := by unfold Hid; rw [HQ2.out, hd]; rfl
          rw [hd] at HD
          clear hd
          go_wp2_with fail
          refine HD.out.mono ?_
          rintro e w3 ⟨rfl, s2, S4⟩
          have HS4 := Lib.hid S4
          clear S4
          go_wp2
          rw [HR.out]
          exact ⟨rfl, rfl, s2, HS4.out⟩
        | some q =>
          have hl2 := (rdDom_len hd).2
          have HQ3 : Hid (rdRoutes s.length s = if q.2.head? = some 44 then rdRoutes f q.2.tail else rdTake 58 q.2) := by unfold Hid; rw [HQ2.out, hd]; rfl
          rw [hd] at HD
          clear hd
          obtain ⟨dm, r⟩ := q
          dsimp only at *
          go_wp2_with fail
          refine HD.out.mono ?_
          rintro e w3 ⟨rfl, S4⟩
          have HS4 := Lib.hid S4
          have HAT := Lib.hid (at_any 44 r S4)
          clear S4 HD
          by_cases h44 : r.head? = some 44
          · have HB2 : Hid ((r.head? == some 44) = true) := by unfold Hid; rw [h44]; rfl
            have HR : Hid (rdRoutes f r.tail = rdRoutes s.length s) := by unfold Hid; rw [HQ3.out, if_pos h44]
            have hk2 : rdTake 44 r = some r.tail := by unfold rdTake; rw [if_pos h44]
            have HT2 := Lib.hid (takeS 44 r HS4.out)
            have hl3 := rdTake_len hk2
            rw [hk2] at HT2
            clear h44 hk2
            go_wp2_with fail
            refine HAT.out.mono ?_
            rw [HB2.out]
            rintro e w4 ⟨rfl, rfl⟩
            go_wp2_with fail
            refine HT2.out.mono ?_
            rintro e w4 ⟨rfl, S5⟩
            have HS5 := Lib.hid S5
            clear S5
            go_wp2_with fail
            go_roundg f
            case measure => omega
            case rel => exact ⟨r.tail, by omega, by omega, HR.out, HS5.out⟩
          · have HB2 : Hid ((r.head? == some 44) = false) := by unfold Hid; exact beq_eq_false_iff_ne.2 h44
            have HR : Hid (rdRoutes s.length s = rdTake 58 r) := by unfold Hid; rw [HQ3.out, if_neg h44]
            have HT2 := Lib.hid (takeS 58 r HS4.out)
            clear h44
            cases hk : rdTake 58 r with
            | none =>
              rw [hk] at HT2
              have HR2 : Hid (rdRoutes s.length s = none) := by unfold Hid; rw [HR.out, hk]
              clear hk
              go_wp2_with fail
              refine HAT.out.mono ?_
              rw [HB2.out]
              rintro e w4 ⟨rfl, rfl⟩
              go_wp2_with fail
              refine HT2.out.mono ?_
              rintro e w5 ⟨rfl, s2, S5⟩
              have HS5 := Lib.hid S5
              clear S5
              go_wp2
              rw [HR2.out]
              exact ⟨rfl, rfl, s2, HS5.out⟩
            | some r2 =>
              rw [hk] at HT2
              have HR2 : Hid (rdRoutes s.length s = some r2) := by unfold Hid; rw [HR.out, hk]
              clear hk
              go_wp2_with fail
              refine HAT.out.mono ?_
              rw [HB2.out]
              rintro e w4 ⟨rfl, rfl⟩
              go_wp2_with fail
              refine HT2.out.mono ?_
              rintro e w5 ⟨rfl, S5⟩
              have HS5 := Lib.hid S5
              clear S5
              go_wp2
              go_end0
              rw [HR2.out]
              exact ⟨rfl, HS5.out⟩
  · have HV : Hid (rdRoute s = some s) := by unfold Hid rdRoute; rw [if_neg h64]
    have HB : Hid ((s.head? == some 64) = false) := by unfold Hid; exact beq_eq_false_iff_ne.2 h64
    clear h64
    rw [HV.out]
    go_enter Tryz.func194, Tryz.ntmps194
    go_wp2_with fail
    refine HAT.out.mono ?_
    rw [HB.out]
    rintro e w1 ⟨rfl, rfl⟩
    go_wp2
    go_end0
    exact ⟨rfl, HS.out⟩
end
end Go.Proofs.YtapenolbbofjkaaGreatDoor

/-! AdV6 -/
namespace Go.Proofs.YtapenolbbofjkaaGreatDoor
open Go.RowKit

/-- What path hands back, or that it panics. -/
def OutP (b : Nat) (w0 : World) (L : List Res) (o : Option (Mb × Bs)) (e : Ending) (w2 : World) : Prop :=
  match o with
  | some q => e = .returned (mbAgg q.1) ∧ Sp w0 [] w2 (ardR b q.2 :: L)
  | none => e = .panicked wrongC ∧ ∃ s, Sp w0 [] w2 (ardR b s :: L)
theorem rdRoutes_len : ∀ (f : Nat) (s r : Bs), rdRoutes f s = some r → r.length ≤ s.length
  | 0, _, _, h => by cases h
  | f + 1, s, r, h => by
    unfold rdRoutes at h
    simp only [Option.bind_eq_some_iff] at h
    obtain ⟨s1, h1, q, h2, h3⟩ := h
    have l1 := rdTake_len h1
    have l2 := (rdDom_len h2).2
    split at h3
    · have := rdRoutes_len f _ _ h3
      simp only [List.length_tail] at this
      omega
    · have := rdTake_len h3
      omega
theorem rdRoute_len {s r : Bs} (h : rdRoute s = some r) : r.length ≤ s.length := by
  unfold rdRoute at h
  split at h
  · exact rdRoutes_len _ _ _ h
  · simp only [Option.some.injEq] at h; rw [h]; exact Nat.le_refl _
theorem rdQ_rest : ∀ (n : Nat) (s acc : Bs) (q : Bs × Bs), s.length ≤ n → rdQ acc s = some q → q.2.length ≤ s.length := by
  intro n
  induction n with
  | zero =>
    intro s acc q h hq
    obtain rfl := List.eq_nil_of_length_eq_zero (Nat.le_zero.1 h)
    simp [rdQ] at hq
  | succ n ih =>
    intro s acc q h hq
    cases s with
    | nil => simp [rdQ] at hq
    | cons c r =>
      by_cases h1 : c = 34
      · subst h1
        simp only [rdQ, Option.some.injEq] at hq
        rw [← hq]; simp
      · by_cases h2 : c = 92
        · subst h2
          cases r with
          | nil => simp [rdQ] at hq
          | cons d t =>
            have := ih t (acc ++ [d]) q (by simp only [List.length_cons] at h; omega) hq
            simp only [List.length_cons] at *
            omega
        · rw [rdQ_other acc c r h1 h2] at hq
          have := ih r (acc ++ [c]) q (by simpa using h) hq
          simp only [List.length_cons] at *
          omega
theorem rdLocal_len {s : Bs} {q : Bs × Bs} (h : rdLocal s = some q) : q.1.length ≤ s.length ∧ q.2.length ≤ s.length := by
  unfold rdLocal at h
  split at h
  · unfold rdQuoted at h
    simp only [Option.bind_eq_some_iff] at h
    obtain ⟨s1, h1, q2, h2, h3⟩ := h
    have l1 := rdTake_len h1
    have l2 := rdQ_len _ _ _ _ (Nat.le_refl _) h2
    have l3 := rdQ_rest _ _ _ _ (Nat.le_refl _) h2
    split at h3
    · simp only [Option.some.injEq] at h3
      rw [← h3]
      simp only [List.length_nil] at l2
      omega
    · cases h3
  · split at h
    · simp only [Option.some.injEq] at h
      rw [← h]
      exact ⟨(List.takeWhile_sublist locC).length_le, (List.dropWhile_sublist locC).length_le⟩
    · cases h
section
variable {w0 w : World} {L : List Res} {b : Nat} {F0 : List Nat} {v : Value}
set_option maxRecDepth 100000 in
set_option maxHeartbeats 4000000 in
theorem rdPathS (s : Bs) (hs : s.length ≤ 1000000) (S : Sp w0 [] w (ardR b s :: L)) (E : Env w0) :
    Calls Tryz.prog 182 #[.pointer (some ⟨b, 0, none⟩)] w (OutP b w0 L (rdPath s)) := by
  have HE := Lib.hid E
  have HS0 := Lib.hid (S.box #[.string ⟨#[]⟩, .string ⟨#[]⟩] 97).pull1
  have HD : Hid (rdPath s = (rdTake 60 s).bind fun s1 => if s1.head? = some 62 then some (([], []), s1.tail) else
    (rdRoute s1).bind fun s2 => (rdLocal s2).bind fun q => (rdTake 64 q.2).bind fun s3 => (rdDom s3).bind fun d => (rdTake 62 d.2).bind fun s4 => some ((q.1, d.1), s4)) := rfl
  clear S E
  go_enter Tryz.func182, Tryz.ntmps182
  go_wp2_with fail
  have HT1 := Lib.hid (takeS 60 s HS0.out)
  generalize w.alloc (.cells #[.string ⟨#[]⟩, .string ⟨#[]⟩] 97) = wa at *
  generalize w.heap.size = q0 at *
  cases h1 : rdTake 60 s with
  | none =>
    have HV : Hid (rdPath s = none) := by unfold Hid; rw [HD.out, h1]; rfl
    rw [h1] at HT1
    clear h1
    go_wp2_with fail
    refine HT1.out.mono ?_
    rintro e wx ⟨rfl, sx, S⟩
    have HSX := Lib.hid S
    clear S
    go_wp2
    rw [HV.out]
    exact ⟨rfl, rfl, sx, (Sp.pick [_, _] [0] (by decide) (HSX.out))⟩
  | some s1 =>
    have l1 := rdTake_len h1
    have HD1 : Hid (rdPath s = if s1.head? = some 62 then some (([], []), s1.tail) else
      (rdRoute s1).bind fun s2 => (rdLocal s2).bind fun q => (rdTake 64 q.2).bind fun s3 => (rdDom s3).bind fun d => (rdTake 62 d.2).bind fun s4 => some ((q.1, d.1), s4)) := by unfold Hid; rw [HD.out, h1]; rfl
    rw [h1] at HT1
    clear h1
    go_wp2_with fail
    refine HT1.out.mono ?_
    rintro e w1 ⟨rfl, S⟩
    have HS1 := Lib.hid S
    clear S HT1
    have HAT := Lib.hid (at_any 62 s1 HS1.out)
    by_cases h62 : s1.head? = some 62
    · have HB : Hid ((s1.head? == some 62) = true) := by unfold Hid; rw [h62]; rfl
      have HV : Hid (rdPath s = some (([], []), s1.tail)) := by unfold Hid; rw [HD1.out, if_pos h62]
      have hk : rdTake 62 s1 = some s1.tail := by unfold rdTake; rw [if_pos h62]
      have HT2 := Lib.hid (takeS 62 s1 HS1.out)
      clear h62
      go_wp2_with fail
      refine HAT.out.mono ?_
      rw [HB.out]
      rintro e w2 ⟨rfl, rfl⟩
      rw [hk] at HT2
      clear hk
      go_wp2_with fail
      refine HT2.out.mono ?_
      rintro e w2 ⟨rfl, S⟩
      have HS2 := Lib.hid S
      clear S HT2
      have f0 := HS2.out.pull1.free
      have c0 := HS2.out.pull1.cell
      have HSE := Lib.hid (Sp.pick [_, _] [1] (by decide) (((HS2.out.pull1.set (o := 0) (.string ⟨#[]⟩)).set (o := 1) (.string ⟨#[]⟩))))
      go_wp2
      rw [HV.out]
      exact bodyPost_ret (v := mbAgg ([], [])) (by simp [results, Tryz.results182, go_sem, c0, mbAgg]) rfl ⟨rfl, HSE.out⟩
    · have HB : Hid ((s1.head? == some 62) = false) := by unfold Hid; exact beq_eq_false_iff_ne.2 h62
      have HD2 : Hid (rdPath s = (rdRoute s1).bind fun s2 => (rdLocal s2).bind fun q => (rdTake 64 q.2).bind fun s3 => (rdDom s3).bind fun d => (rdTake 62 d.2).bind fun s4 => some ((q.1, d.1), s4)) := by unfold Hid; rw [HD1.out, if_neg h62]
      have HT3 := Lib.hid (rdRouteS s1 (by omega) HS1.out HE.out)
      clear h62
      go_wp2_with fail
      refine HAT.out.mono ?_
      rw [HB.out]
      rintro e w2 ⟨rfl, rfl⟩
      clear HAT
      cases h3 : rdRoute s1 with
      | none =>
        have HV : Hid (rdPath s = none) := by unfold Hid; rw [HD2.out, h3]; rfl
        rw [h3] at HT3
        clear h3
        go_wp2_with fail
        refine HT3.out.mono ?_
        rintro e wx ⟨rfl, sx, S⟩
        have HSX := Lib.hid S
        clear S
        go_wp2
        rw [HV.out]
        exact ⟨rfl, rfl, sx, (Sp.pick [_, _] [0] (by decide) (HSX.out))⟩
      | some s2 =>
        have l3 := rdRoute_len h3
        have HD3 : Hid (rdPath s = (rdLocal s2).bind fun q => (rdTake 64 q.2).bind fun s3 => (rdDom s3).bind fun d => (rdTake 62 d.2).bind fun s4 => some ((q.1, d.1), s4)) := by unfold Hid; rw [HD2.out, h3]; rfl
        rw [h3] at HT3
        clear h3
        go_wp2_with fail
        refine HT3.out.mono ?_
        rintro e w3 ⟨rfl, S⟩
        have HS3 := Lib.hid S
        clear S HT3
        have HT4 := Lib.hid (rdLocalS s2 (by omega) HS3.out HE.out)
        cases h4 : rdLocal s2 with
        | none =>
          have HV : Hid (rdPath s = none) := by unfold Hid; rw [HD3.out, h4]; rfl
          rw [h4] at HT4
          clear h4
          go_wp2_with fail
          refine HT4.out.mono ?_
          rintro e wx ⟨rfl, sx, S⟩
          have HSX := Lib.hid S
          clear S
          go_wp2
          rw [HV.out]
          exact ⟨rfl, rfl, sx, (Sp.pick [_, _] [0] (by decide) (HSX.out))⟩
        | some q =>
          have l4 := rdLocal_len h4
          obtain ⟨lo, s3⟩ := q
          dsimp only at l4
          have HD4 : Hid (rdPath s = (rdTake 64 s3).bind fun s3 => (rdDom s3).bind fun d => (rdTake 62 d.2).bind fun s4 => some ((lo, d.1), s4)) := by unfold Hid; rw [HD3.out, h4]; rfl
          rw [h4] at HT4
          clear h4
          go_wp2_with fail
          refine HT4.out.mono ?_
          rintro e w4 ⟨rfl, S⟩
          have HS4 := Lib.hid S
          clear S HT4
          have HS5 := Lib.hid (HS4.out.box #[.string ⟨lo.toArray⟩, .string ⟨#[]⟩] 97).pull1
          have HT5 := Lib.hid (takeS 64 s3 HS5.out)
          dsimp only at HS5 HT5
          cases h5 : rdTake 64 s3 with
          | none =>
            have HV : Hid (rdPath s = none) := by unfold Hid; rw [HD4.out, h5]; rfl
            rw [h5] at HT5
            clear h5
            go_wp2_with fail
            refine HT5.out.mono ?_
            rintro e wx ⟨rfl, sx, S⟩
            have HSX := Lib.hid S
            clear S
            go_wp2
            rw [HV.out]
            exact ⟨rfl, rfl, sx, (Sp.pick [_, _, _] [0] (by decide) (HSX.out))⟩
          | some s4 =>
            have l5 := rdTake_len h5
            have HD5 : Hid (rdPath s = (rdDom s4).bind fun d => (rdTake 62 d.2).bind fun s4 => some ((lo, d.1), s4)) := by unfold Hid; rw [HD4.out, h5]; rfl
            rw [h5] at HT5
            clear h5
            go_wp2_with fail
            refine HT5.out.mono ?_
            generalize w4.heap.size = q3 at *
            rintro e w6 ⟨rfl, S⟩
            have HS6 := Lib.hid S
            clear S HT5 HS5
            have HT6 := Lib.hid (rdDomainS s4 (by omega) HS6.out HE.out)
            cases h6 : rdDom s4 with
            | none =>
              have HV : Hid (rdPath s = none) := by unfold Hid; rw [HD5.out, h6]; rfl
              rw [h6] at HT6
              clear h6
              go_wp2_with fail
              refine HT6.out.mono ?_
              rintro e wx ⟨rfl, sx, S⟩
              have HSX := Lib.hid S
              clear S
              go_wp2
              rw [HV.out]
              exact ⟨rfl, rfl, sx, (Sp.pick [_, _, _] [0] (by decide) (HSX.out))⟩
            | some q =>
              have l6 := rdDom_len h6
              obtain ⟨dm, s5⟩ := q
              dsimp only at l6
              have HD6 : Hid (rdPath s = (rdTake 62 s5).bind fun s4 => some ((lo, dm), s4)) := by unfold Hid; rw [HD5.out, h6]; rfl
              rw [h6] at HT6
              clear h6
              go_wp2_with fail
              refine HT6.out.mono ?_
              rintro e w7 ⟨rfl, S⟩
              have HS7 := Lib.hid S
              clear S HT6
              dsimp only at HS7
              have f3 := HS7.out.pull1.free
              have g3 := HS7.out.pull1.cell
              have HS8 := Lib.hid (HS7.out.pull1.set (o := 1) (.string ⟨dm.toArray⟩)).pull1
              have HT7 := Lib.hid (takeS 62 s5 HS8.out)
              cases h7 : rdTake 62 s5 with
              | none =>
                have HV : Hid (rdPath s = none) := by unfold Hid; rw [HD6.out, h7]; rfl
                rw [h7] at HT7
                clear h7
                go_wp2_with fail
                refine HT7.out.mono ?_
                rintro e wx ⟨rfl, sx, S⟩
                have HSX := Lib.hid S
                clear S
                go_wp2
                rw [HV.out]
                exact ⟨rfl, rfl, sx, (Sp.pick [_, _, _] [0] (by decide) (HSX.out))⟩
              | some s6 =>
                have HV : Hid (rdPath s = some ((lo, dm), s6)) := by unfold Hid; rw [HD6.out, h7]; rfl
                rw [h7] at HT7
                clear h7
                go_wp2_with fail
                refine HT7.out.mono ?_
                rintro e w9 ⟨rfl, S⟩
                have HS9 := Lib.hid S
                clear S HT7
                have c3 := HS9.out.pull1.cell
                have f0 := HS9.out.pull2.free
                have c0 := HS9.out.pull2.cell
                have HSE := Lib.hid (Sp.pick [_, _, _] [1] (by decide) (((HS9.out.pull2.set (o := 0) (.string ⟨lo.toArray⟩)).set (o := 1) (.string ⟨dm.toArray⟩))))
                clear f3 g3
                go_wp2
                rw [HV.out]
                exact bodyPost_ret (v := mbAgg (lo, dm)) (by simp [results, Tryz.results182, go_sem, c0, mbAgg]) rfl ⟨rfl, HSE.out⟩
end
end Go.Proofs.YtapenolbbofjkaaGreatDoor

/-! AdV7 -/
namespace Go.Proofs.YtapenolbbofjkaaGreatDoor
open Go.RowKit

theorem isWrong (w : World) : (Instr.typeAssert (.iface 205 (.agg #[])) 20 205 true).run Tryz.prog w = .ok (.tuple #[.agg #[], .bool true]) w := by
  kernel_rfl
theorem isNoWrong (w : World) : (Instr.typeAssert .nilIface 20 205 true).run Tryz.prog w = .ok (.tuple #[.agg #[], .bool false]) w := by
  kernel_rfl
theorem rep9 : (Array.replicate 9 undef : Array Value) = #[undef, undef, undef, undef, undef, undef, undef, undef, undef] := rfl
section
variable {w0 w : World} {L : List Res} {b : Nat} {F0 : List Nat} {v : Value}
theorem Sp.apart2 {b c : Nat} {x y : Array Value} {T U : TypeId} (S : Sp w0 F0 w (boxR b x T :: boxR c y U :: L)) : ¬ b = c := by
  obtain ⟨M, hM, h⟩ := S
  obtain ⟨⟨r, F⟩, M1, rfl, hr, hM1⟩ := List.map_eq_cons_iff.1 hM
  obtain ⟨⟨s, G⟩, M2, rfl, hs, _⟩ := List.map_eq_cons_iff.1 hM1
  dsimp only at hr hs
  subst hr hs
  have hF : F = [b] := (h.all (boxR b x T, F) (by simp)).1
  have hG : G = [c] := (h.all (boxR c y U, G) (by simp)).1
  have := (List.pairwise_cons.1 h.apart).1 (boxR c y U, G) (by simp) b (by simp [hF])
  intro e
  subst e
  exact this (by simp [hG])
set_option maxRecDepth 100000 in
set_option maxHeartbeats 1000000 in
theorem catch_wrong (q1 q2 q3 : Nat) (m : Mb) (r : Bs) (k : Int) (w : World) (S : Sp w0 [] w (boxR q1 (mbCells m) 97 :: boxR q2 #[.string ⟨r.toArray⟩] 9 :: boxR q3 #[.int .i64 k] 23 :: L)) :
    CallsD Tryz.prog 181 #[.pointer (some ⟨q1, 0, none⟩), .pointer (some ⟨q2, 0, none⟩), .pointer (some ⟨q3, 0, none⟩)] (.panicking wrongC) w fun e u' w' =>
      e = .returned (.tuple #[]) ∧ u' = .panicking [{ v := .iface 205 (.agg #[]), recovered := true }] ∧ Sp w0 [] w' (boxR q1 (mbCells ([], [])) 97 :: boxR q2 #[.string ⟨#[]⟩] 9 :: boxR q3 #[.int .i64 2] 23 :: L) := by
  refine callsD_of_wpS Tryz.func181 rfl fun c₀ cs hu => ?_
  unfold wrongC at hu
  apply wpS_seq
  apply wpS_region
  simp [wpOpsS, go_sem, recoverD, hu, Tryz.ntmps181, Exit.thenS, rep9, isWrong]
  have HSA := S.new (.cells #[] 205)
  generalize w.alloc (.cells #[] 205) = wa at *
  generalize w.heap.size = g at *
  have c1 := HSA.cell
  have f1 := HSA.free
  have S1 := HSA.set (o := 0) (.string ⟨#[]⟩)
  have d1 := S1.cell
  have e1 := S1.free
  have S2 := S1.set (o := 1) (.string ⟨#[]⟩)
  have c2 := S2.pull1.cell
  have f2 := S2.pull1.free
  have S3 := S2.pull1.set (o := 0) (.string ⟨#[]⟩)
  have c3 := S3.pull2.cell
  have f3 := S3.pull2.free
  have S4 := S3.pull2.set (o := 0) (.int .i64 2)
  have HSE := (Sp.pick [_, _, _] [2, 1, 0] (by decide) (S4))
  apply wpS_seq
  apply wpS_region
  simp [wpOpsS, go_sem, Exit.thenS]
  refine wpS_cond (t := true) (by simp [Act.eval]) ?_
  simp only [if_true]
  apply wpS_region
  simp [wpOpsS, go_sem, bodyPostS, results, Tryz.results181, c1, f1, d1, e1, c2, f2, c3, f3, mbCells]
  exact HSE
set_option maxRecDepth 100000 in
set_option maxHeartbeats 1000000 in
theorem catch_idle (q1 q2 q3 : Nat) (w : World) :
    CallsD Tryz.prog 181 #[.pointer (some ⟨q1, 0, none⟩), .pointer (some ⟨q2, 0, none⟩), .pointer (some ⟨q3, 0, none⟩)] .returning w fun e u' w' => e = .returned (.tuple #[]) ∧ u' = .returning ∧ w' = w.alloc (.cells #[] 205) := by
  refine callsD_of_wpS Tryz.func181 rfl fun c₀ cs hu => ?_
  apply wpS_seq
  apply wpS_region
  simp [wpOpsS, go_sem, recoverD, hu, Tryz.ntmps181, Exit.thenS, rep9, isNoWrong]
  apply wpS_seq
  apply wpS_region
  simp [wpOpsS, go_sem, Exit.thenS]
  refine wpS_cond (t := false) (by simp [Act.eval]) ?_
  simp only [Bool.false_eq_true, if_false]
  refine wpS_of_wp (wp_skip ?_)
  cases c₀
  simp_all [bodyPostS, results, Tryz.results181]
set_option maxRecDepth 100000 in
set_option maxHeartbeats 2000000 in
theorem adReadS (s : Bs) (hs : s.length ≤ 1000000) (S : Sp w0 [] w L) (E : Env w0) :
    Calls Tryz.prog 169 #[.string ⟨s.toArray⟩] w fun e w2 => e = .returned (.tuple #[mbAgg (adRead s).1, .string ⟨(adRead s).2.1.toArray⟩, .int .i64 (adRead s).2.2]) ∧ Sp w0 [] w2 L := by
  have hmf : ∀ (fn : Fn) (first cap : Array Value) (w : World), (Instr.makeFunc fn first cap).run Tryz.prog w = .ok (.func fn first cap) w := fun _ _ _ _ => rfl
  have HE := Lib.hid E
  have hsz : ∀ (w : World) (o : Obj), (w.alloc o).heap.size = w.heap.size + 1 := fun w o => by simp
  have S4 := (((S.box #[.string ⟨#[]⟩, .string ⟨#[]⟩] 97).box #[.string ⟨#[]⟩] 9).box #[.int .i64 0] 23).box #[.string ⟨s.toArray⟩] 209
  simp only [hsz] at S4
  have HS4 := Lib.hid S4
  have HP := Lib.hid (rdPathS s hs S4 E)
  have HAD : Hid (adRead s = match rdPath s with | some (b, r) => (b, r, 0) | none => (([], []), [], 2)) := rfl
  clear S E S4 hsz hs
  cases hp : rdPath s with
  | none =>
    have HV : Hid (adRead s = (([], []), [], 2)) := by unfold Hid; rw [HAD.out, hp]
    rw [hp] at HP
    clear hp
    go_enter_defers Tryz.func169, Tryz.ntmps169
    go_wp2_with fail
    refine HP.out.mono ?_
    generalize w.heap.size + 1 + 1 + 1 = q4 at *
    generalize w.heap.size + 1 + 1 = q3 at *
    generalize w.heap.size + 1 = q2 at *
    generalize w.heap.size = q1 at *
    rintro e w2 ⟨rfl, sx, S⟩
    have HS5 := Lib.hid (Sp.pick [_, _, _, _] [3, 2, 1] (by decide) (S))
    clear S HP HS4
    go_wp2
    refine leaves_cons (f := 181) (args := #[.pointer (some ⟨q1, 0, none⟩), .pointer (some ⟨q2, 0, none⟩), .pointer (some ⟨q3, 0, none⟩)]) (by simp) (by simp [go_sem]) ?_
    refine (catch_wrong q1 q2 q3 ([], []) [] 0 _ HS5.out).mono ?_
    rintro e u' w3 ⟨rfl, rfl, S6⟩
    have c1 := S6.cell
    have c2 := S6.pull1.cell
    have c3 := S6.pull2.cell
    rw [HV.out]
    simp [Leaves, settle, results, Tryz.results169, go_sem, c1, c2, c3, mbCells, mbAgg]
    exact S6.drop.drop.drop
  | some q =>
    obtain ⟨m, r⟩ := q
    have HV : Hid (adRead s = (m, r, 0)) := by unfold Hid; rw [HAD.out, hp]
    rw [hp] at HP
    clear hp
    go_enter_defers Tryz.func169, Tryz.ntmps169
    go_wp2_with fail
    refine HP.out.mono ?_
    generalize w.heap.size + 1 + 1 + 1 = q4 at *
    generalize w.heap.size + 1 + 1 = q3 at *
    generalize w.heap.size + 1 = q2 at *
    generalize w.heap.size = q1 at *
    rintro e w2 ⟨rfl, S⟩
    obtain ⟨ml, md⟩ := m
    simp only [mbAgg]
    dsimp only at S
    have c4 := S.cell
    have c1 := S.pull3.cell
    have f1 := S.pull3.free
    have HS5 := Lib.hid (Sp.pick [_, _, _, _] [3, 2, 1, 0] (by decide) (S))
    clear S HP HS4
    have S6 := (HS5.out.set (o := 0) (.string ⟨ml.toArray⟩)).set (o := 1) (.string ⟨md.toArray⟩)
    have HS6 : Hid (Sp w0 [] _ (boxR q1 #[.string ⟨ml.toArray⟩, .string ⟨md.toArray⟩] 97 :: boxR q2 #[.string ⟨#[]⟩] 9 :: boxR q3 #[.int .i64 0] 23 :: ardR q4 r :: L)) := S6
    clear S6
    go_wp2_with fail
    generalize (w2.setCell ⟨q1, 0, none⟩ (.string ⟨ml.toArray⟩)).setCell ⟨q1, 1, none⟩ (.string ⟨md.toArray⟩) = w3 at *
    clear c4 c1 f1
    have c1 := HS6.out.cell
    have f1 := HS6.out.free
    have c2 := HS6.out.pull1.cell
    have f2 := HS6.out.pull1.free
    have c3 := HS6.out.pull2.cell
    have f3 := HS6.out.pull2.free
    have c4 := HS6.out.pull3.cell
    have n12 : ¬ q1 = q2 := HS6.out.apart2
    have n13 : ¬ q1 = q3 := ((Sp.pick [_, _, _, _] [0, 2] (by decide) (HS6.out))).apart2
    have n14 : ¬ q1 = q4 := ((Sp.pick [_, _, _, _] [0, 3] (by decide) (HS6.out))).apart2
    have n23 : ¬ q2 = q3 := ((Sp.pick [_, _, _, _] [1, 2] (by decide) (HS6.out))).apart2
    have n24 : ¬ q2 = q4 := ((Sp.pick [_, _, _, _] [1, 3] (by decide) (HS6.out))).apart2
    have n34 : ¬ q3 = q4 := ((Sp.pick [_, _, _, _] [2, 3] (by decide) (HS6.out))).apart2
    have S7 := ((HS6.out.set (o := 0) (.string ⟨ml.toArray⟩)).set (o := 1) (.string ⟨md.toArray⟩)).pull1.set (o := 0) (.string ⟨r.toArray⟩)
    have HS7 := Lib.hid (S7.pull2.set (o := 0) (.int .i64 0)).drew
    clear S7
    go_region
    clear c1 f1 c2 f2 c3 f3 c4 n12 n13 n14 n23 n24 n34
    generalize World.drew _ = w4 at *
    go_wp2
    refine leaves_cons (f := 181) (args := #[.pointer (some ⟨q1, 0, none⟩), .pointer (some ⟨q2, 0, none⟩), .pointer (some ⟨q3, 0, none⟩)]) (by simp) (by simp [go_sem]) ?_
    refine (catch_idle q1 q2 q3 _).mono ?_
    rintro e u' w5 ⟨rfl, rfl, rfl⟩
    have S8 := HS7.out.new (.cells #[] 205)
    have c3 := S8.cell
    have c2 := S8.pull1.cell
    have c1 := S8.pull2.cell
    generalize w4.alloc (.cells #[] 205) = w6 at *
    rw [HV.out]
    simp [Leaves, settle, results, Tryz.results169, go_sem, c1, c2, c3, mbAgg]
    exact S8.drop.drop.drop.drop
end
end Go.Proofs.YtapenolbbofjkaaGreatDoor
