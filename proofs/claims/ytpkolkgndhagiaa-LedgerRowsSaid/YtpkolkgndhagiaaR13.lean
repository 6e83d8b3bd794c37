/- The reference's rows of a ledger (posthornref13.Rows). Conditions: the lengths fit. -/
import Derived.Test.YtpkolkgndhagiaaR12b
import Derived.Test.YtpkolkgndhagiaaLg1
namespace Go.Proofs.Ytpkolkgndhagiaa
open Go.RowKit Go.Maps Go.Sort

section
variable {w0 w : World} {F0 : List Nat} {L : List Res} {T b : Nat} {r : Rd}
theorem r12ReadS (most : Nat) (S : Sp w0 F0 w (rdR T b r :: L)) (hs : r.s.length ≤ 1000000000000) :
    Calls Try.prog 48 #[.pointer (some ⟨b, 0, none⟩), .int .u64 most] w fun e w2 => e = .returned (.int .u64 (r.num most).1) ∧ Sp w0 F0 w2 (rdR T b (r.num most).2 :: L) := by
  obtain ⟨s, bad⟩ := r
  cases bad
  · cases s with
    | nil => exact r12Num_nil most S
    | cons c t =>
      by_cases hc : c.toNat ≤ 8
      · by_cases hl : c.toNat ≤ t.length
        · exact r12Num_long most c t S hs hc hl
        · rw [num_cons, if_neg (fun h => hl h.2.1)]
          exact r12Num_short most c t S hs hc (by omega)
      · rw [num_cons, if_neg (fun h => hc h.1)]
        exact r12Num_wide most c t S hs (by omega)
  · exact r12Num_bad most s S hs
set_option maxRecDepth 100000 in
set_option maxHeartbeats 1000000 in
theorem r12TextS (most : Nat) (S : Sp w0 F0 w (rdR T b r :: L)) (hs : r.s.length ≤ 1000000000000) (hm : most ≤ 1000000000000) :
    Calls Try.prog 47 #[.pointer (some ⟨b, 0, none⟩), .int .i64 most] w fun e w2 => e = .returned (.string ⟨(r.text most).1.toArray⟩) ∧ Sp w0 F0 w2 (rdR T b (r.text most).2 :: L) := by
  have HS := Lib.hid S
  have h0 : (0 : Int) ≤ most := by omega
  have h1 : (most : Int) ≤ 1000000000000 := by omega
  have HL := Lib.hid hs
  clear S hs
  go_enter Try.func47, Try.ntmps47
  go_wp2_with fail
  refine (r12ReadS most HS.out HL.out).mono ?_
  rintro e w1 ⟨rfl, S⟩
  have hle := num_le r most
  have hlen := num_len r most
  have HT : Hid (r.text most = (r.num most).2.take (r.num most).1) := rfl
  generalize r.num most = q at *
  obtain ⟨n, s, bad⟩ := q
  dsimp only at *
  have c1 := S.cell
  have f1 := S.free
  have HS1 := Lib.hid S
  have hn1 : (n : Int) ≤ 1000000000000 := by omega
  have hs1 : (s.length : Int) ≤ 1000000000000 := by have := HL.out; omega
  clear S HS hle hlen
  cases bad with
  | true =>
    have HV : Hid (r.text most = ([], Rd.failed)) := by rw [HT.out]; exact Eq.refl _
    go_wp2_with fail
    refine (r12FailS (r := ⟨s, true⟩) HS1.out).mono ?_
    rintro e w2 ⟨rfl, S⟩
    have HS2 := Lib.hid S
    clear S
    go_wp2
    go_ret
    rw [HV.out]
    exact ⟨rfl, HS2.out⟩
  | false =>
    by_cases hl : s.length < n
    · have HV : Hid (r.text most = ([], Rd.failed)) := by rw [HT.out]; unfold Rd.take; rw [if_pos (by simp [hl])]; exact Eq.refl _
      have hl' : (s.length : Int) < n := by omega
      go_wp2_with fail
      refine (r12FailS (r := ⟨s, false⟩) HS1.out).mono ?_
      rintro e w2 ⟨rfl, S⟩
      have HS2 := Lib.hid S
      clear S
      go_wp2
      go_ret
      rw [HV.out]
      exact ⟨rfl, HS2.out⟩
    · have HV : Hid (r.text most = (s.take n, ⟨s.drop n, false⟩)) := by rw [HT.out]; unfold Rd.take; rw [if_neg (by simp [hl])]; exact Eq.refl _
      have hl' : (n : Int) ≤ s.length := by omega
      have HS2 := Lib.hid (HS1.out.set (o := 0) (.string ⟨(s.drop n).toArray⟩))
      have HC0 := Lib.hid (cut_head s n)
      have HC1 := Lib.hid (cut_tail s n s.length rfl)
      clear hl
      go_wp2
      go_ret
      rw [HV.out, HC0.out, HC1.out]
      exact ⟨rfl, HS2.out⟩

theorem drop_tail {s a b : Bs} (e : s = a ++ b) : s.drop (s.length - b.length) = b := by
  subst e
  rw [List.length_append, Nat.add_sub_cancel]
  exact List.drop_left
theorem rowNext_ref (s : Bs) : (rowNext ⟨s, false⟩).2.1 = (!(Rd.text ⟨s, false⟩ 600).2.bad && decide (((Rd.text (⟨(Rd.text ⟨s, false⟩ 600).1, false⟩ : Rd) 300).2.num 1099511627776).2.done = 0)) := by
  have hb : (Rd.text ⟨s, false⟩ 600).2.bad = true → (Rd.text ⟨s, false⟩ 600).1 = [] := fun hh => by
    unfold Rd.text Rd.take at hh ⊢
    split
    · rfl
    · rename_i hc
      rw [if_neg hc] at hh
      cases hh
  unfold rowNext
  generalize Rd.text ⟨s, false⟩ 600 = q at *
  obtain ⟨t, r⟩ := q
  dsimp only at *
  show ((readRow t).2 && !t.isEmpty) = (!r.bad && (readRow t).2)
  cases hh : r.bad with
  | true => rw [hb hh]; rfl
  | false =>
    cases t with
    | nil => rfl
    | cons a t => simp
theorem r12TextL (most : Nat) (mi : Int) (hmi : mi = most) (S : Sp w0 F0 w (rdR T b r :: L)) (hs : r.s.length ≤ 1000000000000) (hm : most ≤ 1000000000000) :
    Calls Try.prog 47 #[.pointer (some ⟨b, 0, none⟩), .int .i64 mi] w fun e w2 => e = .returned (.string ⟨(r.text most).1.toArray⟩) ∧ Sp w0 F0 w2 (rdR T b (r.text most).2 :: L) := by
  subst hmi
  exact r12TextS most S hs hm
theorem r12ReadL (most : Nat) (mi : Int) (hmi : mi = most) (S : Sp w0 F0 w (rdR T b r :: L)) (hs : r.s.length ≤ 1000000000000) :
    Calls Try.prog 48 #[.pointer (some ⟨b, 0, none⟩), .int .u64 mi] w fun e w2 => e = .returned (.int .u64 (r.num most).1) ∧ Sp w0 F0 w2 (rdR T b (r.num most).2 :: L) := by
  subst hmi
  exact r12ReadS most S hs
theorem Sp.rowMade (S : Sp w0 F0 w L) (e k : Nat) : Sp w0 F0 (w.alloc (.cells #[] e)) (rowR e k (.slice (some ⟨w.heap.size, 0, none⟩) 0 0) 0 [] :: L) :=
  S.gain (G := [w.heap.size]) ((Ext.refl [] w).alloc _) ⟨rfl, by simp, .inr ⟨w.heap.size, 0, #[], rfl, Nat.zero_le _, heap_alloc_new _ _, Nat.le_refl _, Nat.zero_le _, by simp, by simp⟩⟩ (by simp)
theorem infoRow13 : (Try.prog.info? 32).map (fun i => (i.zero, i.size, i.bytes)) = some (some (.agg #[.string ⟨#[]⟩, .int .u64 0]), 2, 24) := by kernel_rfl
/-- A slice of the reference's rows. -/
abbrev lrowsQ (v : Value) (l : List LRow) : Res := rowR 32 2 v l.length (l.map LRow.vals).flatten

set_option maxRecDepth 100000 in
set_option maxHeartbeats 2000000 in
theorem r13RowsS (s : Bs) (S : Sp w0 F0 w L) (hs : s.length ≤ 1000000000) :
    Calls Try.prog 15 #[.string ⟨s.toArray⟩] w fun e w2 => ∃ v, e = .returned (.tuple #[v, .int .i64 ((s.length : Int) - (ledRest s).length)]) ∧ Sp w0 F0 w2 (lrowsQ v (ledRows s) :: L) := by
  have HL := Lib.hid hs
  have hs' : (s.length : Int) ≤ 1000000000 := by omega
  have HS0 := Lib.hid (S.rowMade 32 2)
  clear S hs
  go_enter Try.func15, Try.ntmps15
  go_wp2_with fail
  generalize w.alloc (.cells #[] 32) = w1 at *
  generalize w.heap.size = g0 at *
  go_loopw [4, 5] (fun v at0 wr => ∃ (dn : List LRow) (k : Nat), ledRows s = dn ++ ledRows (s.drop k) ∧ ledRest s = ledRest (s.drop k) ∧ at0 = .int .i64 k ∧ dn.length ≤ k ∧ k ≤ s.length ∧ Sp w0 F0 wr (lrowsQ v dn :: L)) (fun _ v _ => s.length - (intOf v).toNat)
  case atStart => exact ⟨[], 0, rfl, rfl, rfl, by simp, by omega, HS0.out⟩
  case round =>
    obtain ⟨dn, k, h1, h2, rfl, h3, h4, S3⟩ := hrel
    have H1 := Lib.hid h1
    have H2 := Lib.hid h2
    have h3' : (dn.length : Int) ≤ k := by omega
    have h4' : (k : Int) ≤ s.length := by omega
    have hcut := cut_tail s k s.length rfl
    have HRL : Hid ((s.drop k).length = s.length - k) := List.length_drop
    have HREF := Lib.hid (rowNext_ref (s.drop k))
    have HRN : Hid ((rowNext ⟨s.drop k, false⟩).1 = (readRow (Rd.text ⟨s.drop k, false⟩ 600).1).1 ∧ (rowNext ⟨s.drop k, false⟩).2.2 = (Rd.text ⟨s.drop k, false⟩ 600).2) := ⟨rfl, rfl⟩
    have HQ := Lib.hid (@rowNext_spec (s.drop k))
    have HQ1 := Lib.hid (@ledScan_step (s.drop k))
    have HQ2 := Lib.hid (@ledScan_stop (s.drop k))
    generalize hr : s.drop k = r at *
    have HR := Lib.hid hr
    generalize rowNext ⟨r, false⟩ = q at *
    have S4 := S3.box #[.string ⟨r.toArray⟩, .bool false] 96
    have HS4 := Lib.hid S4
    clear h1 h2 S3 S4 HS0 hr
    go_wp2_with fail
    refine (r12TextL (r := ⟨r, false⟩) 600 600 rfl HS4.out (by have := HL.out; have := HRL.out; dsimp only; omega) (by decide)).mono ?_
    have HTL := Lib.hid (text_len ⟨r, false⟩ 600)
    generalize Rd.text ⟨r, false⟩ 600 = tr at *
    obtain ⟨t, r2⟩ := tr
    dsimp only at *
    rintro e w5 ⟨rfl, S⟩
    have HS5 := Lib.hid (S.box #[.string ⟨t.toArray⟩, .bool false] 96)
    clear S HS4 hcut
    go_wp2_with fail
    refine (r12TextL (r := ⟨t, false⟩) 300 300 rfl HS5.out (by have := HL.out; have := HRL.out; have := HTL.out.2.2; dsimp only; omega) (by decide)).mono ?_
    have HTM := Lib.hid (text_len ⟨t, false⟩ 300)
    have HRR : Hid ((readRow t).1 = ⟨(Rd.text ⟨t, false⟩ 300).1, ((Rd.text ⟨t, false⟩ 300).2.num 1099511627776).1⟩) := rfl
    generalize Rd.text ⟨t, false⟩ 300 = ur at *
    obtain ⟨key, r3⟩ := ur
    dsimp only at *
    rintro e w6 ⟨rfl, S⟩
    have HS6 := Lib.hid (S.box #[.string ⟨key.toArray⟩, .int .u64 0] 32).pull1
    clear S HS5
    go_wp2_with fail
    refine (r12ReadL (r := r3) 1099511627776 1099511627776 rfl HS6.out (by have := HL.out; have := HRL.out; have := HTL.out.2.2; have := HTM.out.1; omega)).mono ?_
    generalize r3.num 1099511627776 = nr at *
    obtain ⟨ceil, r4⟩ := nr
    dsimp only at *
    rintro e w7 ⟨rfl, S⟩
    have f3 := S.pull1.free
    have c30 := S.pull1.cell
    have S7 := S.pull1.set (o := 1) (.int .u64 ceil)
    have c3 := S7.cell
    have c1 := ((Sp.pick [_, _, _] [2] (by decide) (S7))).cell
    have HS7 := Lib.hid S7
    have HRN1 : Hid (q.1 = ⟨key, ceil⟩) := HRN.out.1.trans HRR.out
    have HRN2 : Hid (q.2.2 = r2) := HRN.out.2
    obtain ⟨q1, ok, q2⟩ := q
    dsimp only at *
    obtain rfl : q2 = r2 := HRN2.out
    obtain rfl : q1 = ⟨key, ceil⟩ := HRN1.out
    clear S S7 HS6 HRN HRN1 HRN2 HRR
    obtain ⟨rs, bad⟩ := q2
    dsimp only at *
    have hstop : ok = false → ledRows s = dn ∧ ledRest s = r := fun h => by
      obtain ⟨g1, g2⟩ := HQ2.out h
      rw [H1.out, H2.out, g1, g2, List.append_nil]
      exact ⟨rfl, rfl⟩
    have HSTOP := Lib.hid hstop
    have HKL : Hid ((k : Int) = s.length - r.length) := by have := HRL.out; unfold Hid; omega
    clear hstop
    cases bad with
    | true =>
      obtain ⟨g1, g2⟩ := HSTOP.out (by rw [HREF.out]; rfl)
      have HG1 := Lib.hid g1
      have HG2 := Lib.hid g2
      clear g1 g2
      go_wp2_with fail
      go_ret2
      exact ⟨u4, congrArg (fun z : Int => Ending.returned (.tuple #[u4, .int .i64 z])) (by rw [HG2.out]; exact HKL.out), by rw [HG1.out]; exact (Sp.pick [_, _, _, _] [3] (by decide) (HS7.out))⟩
    | false =>
      go_wp2_with fail
      refine (r12DoneS (r := r4) ((Sp.pick [_, _] [1] (by decide) (HS7.out)))).mono ?_
      rintro e w8 ⟨rfl, rfl⟩
      by_cases hdn : r4.done = 0
      · have hok : ok = true := by rw [HREF.out, hdn]; rfl
        obtain ⟨_, g2, g3, g4⟩ := HQ.out hok
        obtain ⟨g7, g8⟩ := HQ1.out hok
        have hrs : s.drop (s.length - rs.length) = rs := by
          have e : s = (s.take k ++ LRow.text ⟨key, ceil⟩) ++ rs := by rw [List.append_assoc, ← g2, ← HR.out, List.take_append_drop]
          exact drop_tail e
        have hk2 : rs.length < s.length - k := by have := HRL.out; omega
        have S9 := HS7.out.box #[.string ⟨key.toArray⟩, .int .u64 ceil] 32
        simp only [World.size_setCell] at S9
        obtain ⟨g, cap, w10, hrun, S10⟩ := Sp.appendOne (e := 32) (k := 2) 27 27 #[.string ⟨key.toArray⟩, .int .u64 ceil] _ 24 infoRow13 rfl Try.underlying27 (by decide) (by decide) rfl (by simp [Value.oneCell']) (by have := HL.out; omega) ((Sp.pick [_, _, _, _, _] [0, 4, 1, 2, 3] (by decide) (S9)))
        have e1 : (dn.map LRow.vals).flatten ++ [.string ⟨key.toArray⟩, .int .u64 ceil] = ((dn ++ [(⟨key, ceil⟩ : LRow)]).map LRow.vals).flatten := by simp
        have hl1 : dn.length + 1 = (dn ++ [(⟨key, ceil⟩ : LRow)]).length := by simp
        have S11 : Sp w0 F0 w10 (lrowsQ (.slice (some ⟨g, 0, none⟩) (dn.length + 1) cap) (dn ++ [⟨key, ceil⟩]) :: rdR 96 wr.heap.size ⟨rs, false⟩ :: L) := by
          unfold lrowsQ
          rw [← hl1, ← e1]
          exact (Sp.pick [_, _, _, _, _] [1, 4] (by decide) (S10))
        have c11 := S11.pull1.cell
        have HS11 := Lib.hid S11
        have HRUN := Lib.hid hrun
        have H1' : Hid (ledRows s = (dn ++ [(⟨key, ceil⟩ : LRow)]) ++ ledRows (s.drop (s.length - rs.length))) := by rw [hrs, H1.out, g7]; simp [Hid]
        have H2' : Hid (ledRest s = ledRest (s.drop (s.length - rs.length))) := by rw [hrs, H2.out, g8]; exact Eq.refl _
        have hrl : (rs.length : Int) < s.length - k := by omega
        have HK2 : Hid ((dn ++ [(⟨key, ceil⟩ : LRow)]).length ≤ s.length - rs.length) := by rw [← hl1]; unfold Hid; omega
        have hdn' : (r4.done != 0) = false := by simpa using hdn
        clear hrs hk2 S9 S10 S11 hrun e1 hl1 g2 g3 g4 g7 g8 hok hdn
        go_wp2_with (at_builtin; refine wpList_append_run (by rfl) (by rfl) (by rfl) (by rfl) HRUN.out ?_)
        go_roundw
        case rel => exact ⟨_, s.length - rs.length, H1'.out, H2'.out, by go_num, HK2.out, by omega, HS11.out.pull1.drop⟩
        case measure => simp [intOf]; omega
      · obtain ⟨g1, g2⟩ := HSTOP.out (by rw [HREF.out]; simp [hdn])
        have HG1 := Lib.hid g1
        have HG2 := Lib.hid g2
        have hdn' : (r4.done != 0) = true := by simpa using hdn
        clear g1 g2 hdn
        go_wp2_with fail
        go_ret2
        exact ⟨u4, congrArg (fun z : Int => Ending.returned (.tuple #[u4, .int .i64 z])) (by rw [HG2.out]; exact HKL.out), by rw [HG1.out]; exact (Sp.pick [_, _, _, _] [3] (by decide) (HS7.out))⟩
end
end Go.Proofs.Ytpkolkgndhagiaa
