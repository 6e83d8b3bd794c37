/- The document's ring: a row's bytes, a key's name. Conditions: the lengths fit. The document's ring: the rows of bytes. Conditions: the lengths fit. The document's ring: State, Live. Conditions: the lengths fit. The document's ring: set. Printed by prst.py. Conditions: the lengths fit. The document's ring: Begin, End, Open. Conditions: the lengths fit. The document's ring: Open. Conditions: the lengths fit. The document's ring: Domains: plainly; parts of slices that are only read. Conditions: the lengths fit. The document's ring: Domains. Printed by prdm.py. Conditions: the lengths fit. RingDoes, plainly: what stays small, act by act. No program. RingDoes: the two rings and disks beside each other, as parts of memory. Conditions: the lengths fit. -/
import Derived.Test.YtpkolkgndhagiaaGreatR12w
import Derived.Test.YtpkolkgndhagiaaGreatRingW
import Derived.Test.YtpkolkgndhagiaaGreatChainG
import Derived.Test.YtpkolkgndhagiaaGreatRoO
import Derived.Test.YtpkolkgndhagiaaGreatRingL
import Derived.Test.YtpkolkgndhagiaaGreatRDk2
import Derived.Test.YtpkolkgndhagiaaGreatArI
import Derived.Test.YtpkolkgndhagiaaGreatSame
/-! R14a -/
/-! R14a -/
set_option linter.unusedSimpArgs false
set_option linter.unusedVariables false
set_option linter.unnecessarySimpa false
namespace Go.Proofs.YtpkolkgndhagiaaGreat
open Go.RowKit Go.Maps

def rwVals (p : Bs × RSt) : List Value := [.string ⟨p.1.toArray⟩, .int .u64 p.2.now, .int .u64 p.2.old]
abbrev rwK (u : Value) (l : List (Bs × RSt)) : Rom := ⟨u, 3, l.map rwVals⟩
section
variable {w0 w : World} {L : List Res} {F0 : List Nat} {b : Nat} {v : Value}
set_option maxRecDepth 100000 in
set_option maxHeartbeats 1000000 in
theorem r12TextB (s : Bs) (hs : s.length ≤ 1000000) (S : Sp w0 F0 w L) : Calls Tryz.prog 52 #[.string ⟨s.toArray⟩] w fun e w2 => e = .returned (.string ⟨(textB s).toArray⟩) ∧ Sp w0 F0 w2 L := by
  have HS := Lib.hid S
  have hn : s.length < 18446744073709551616 := by omega
  have hw : IntKind.u64.wrap (s.length : Int) = s.length := by rw [IntKind.wrap_u64]; omega
  have HV : Hid (textB s = numB s.length ++ s) := rfl
  have hl := numB_length_le s.length
  have hadd := add_str (numB s.length) s (by unfold maxLen; omega)
  generalize hnb : numB s.length = nb at *
  have HNB := Lib.hid hnb
  have HNM := Lib.hid (fun (W : World) (S' : Sp w0 F0 W L) => r12NumS s.length S' hn)
  rw [hnb] at HNM
  clear S hn hl hnb
  go_enter Tryz.func52, Tryz.ntmps52
  go_wp2_with (go_at_call 53; refine (HNM.out _ HS.out).mono ?_; rintro e w2 ⟨rfl, S⟩; have HS2 := Lib.hid S; clear S)
  all_goals
    go_ret
    exact ⟨by rw [HV.out]; rfl, HS2.out⟩
set_option maxRecDepth 100000 in
set_option maxHeartbeats 4000000 in
theorem r14KeyS (x : Bs) (n : Nat) (hx : x.length ≤ 1000000) (hn : n < 18446744073709551616) (S : Sp w0 F0 w L) : Calls Tryz.prog 25 #[.string ⟨x.toArray⟩, .int .u64 n] w fun e w2 => e = .returned (.string ⟨(ringKey x n).toArray⟩) ∧ Sp w0 F0 w2 L := by
  have HS := Lib.hid S
  have HX := Lib.hid hx
  have HN := Lib.hid hn
  have HK : Hid (ringKey x n = textB x ++ numB n) := rfl
  have hadd := add_str (textB x) (numB n) (by have := textB_length_le x; have := numB_length_le n; unfold maxLen; omega)
  clear S hx hn
  go_enter Tryz.func25, Tryz.ntmps25
  go_wp2_with fail
  refine (r12TextB x HX.out HS.out).mono ?_
  rintro e w1 ⟨rfl, S1⟩
  have HS1 := Lib.hid S1
  clear S1
  go_wp2_with fail
  refine (r12NumS n HS1.out HN.out).mono ?_
  rintro e w2 ⟨rfl, S2⟩
  have HS2 := Lib.hid S2
  clear S2
  go_wp2
  go_ret
  exact ⟨by rw [HK.out]; rfl, HS2.out⟩
set_option maxRecDepth 100000 in
set_option maxHeartbeats 4000000 in
theorem r14WriteS (x : Bs) (s : RSt) (hx : x.length ≤ 900000) (hn : s.now < 18446744073709551616) (ho : s.old < 18446744073709551616) (S : Sp w0 F0 w L) : Calls Tryz.prog 72 #[.agg #[.string ⟨x.toArray⟩, .int .u64 s.now, .int .u64 s.old]] w fun e w2 => e = .returned (.string ⟨(ringRow x s).toArray⟩) ∧ Sp w0 F0 w2 L := by
  have HS := Lib.hid (S.box #[.string ⟨x.toArray⟩, .int .u64 s.now, .int .u64 s.old] 48)
  have HK : Hid (ringRow x s = textB (textB x ++ (numB s.now ++ numB s.old))) := rfl
  have h1 := textB_length_le x
  have h2 := numB_length_le s.now
  have h3 := numB_length_le s.old
  have hadd := add_str (textB x) (numB s.now) (by unfold maxLen; omega)
  have hadd2 := add_str (textB x ++ numB s.now) (numB s.old) (by rw [List.length_append]; unfold maxLen; omega)
  have HL : Hid ((textB x ++ (numB s.now ++ numB s.old)).length ≤ 1000000) := by unfold Hid; rw [List.length_append, List.length_append]; omega
  have HT1 := Lib.hid (fun (W : World) (L' : List Res) (S : Sp w0 F0 W L') => r12TextB x (by omega) S)
  have HN1 := Lib.hid (fun (W : World) (L' : List Res) (S : Sp w0 F0 W L') => r12NumS s.now S hn)
  have HN2 := Lib.hid (fun (W : World) (L' : List Res) (S : Sp w0 F0 W L') => r12NumS s.old S ho)
  have HT2 := Lib.hid (fun (W : World) (L' : List Res) (S : Sp w0 F0 W L') => r12TextB (textB x ++ (numB s.now ++ numB s.old)) HL.out S)
  have c := HS.out.cell
  clear S h1 h2 h3 hn ho hx HL
  obtain ⟨sn, so⟩ := s
  dsimp only at *
  generalize textB x = tx at *
  generalize numB sn = nb at *
  generalize numB so = ob at *
  go_enter Tryz.func72, Tryz.ntmps72
  go_upto_region 1 with (fail)
  generalize w.alloc _ = w1 at *
  generalize w.heap.size = q at *
  clear c
  refine wp_region_chainG [0, 1, 3, 4, 7, 8, 2, 5, 6, 9, 10, 11, 12] (fun c => c == 2 || c == 5 || c == 9 || c == 11) (fun c => false) (T := fun wx => (∀ o, wx.cell? ⟨q, o, none⟩ = (#[.string ⟨x.toArray⟩, .int .u64 sn, .int .u64 so] : Array Value)[o]?)) (S := fun wx => Sp w0 F0 wx (boxR q #[.string ⟨x.toArray⟩, .int .u64 sn, .int .u64 so] 48 :: L)) (by kernel_rfl) (by kernel_rfl) (by kernel_rfl) HS.out.drew (fun x h => h.cell) ?_
  repeat
    refine Exists.intro _ (And.intro rfl (Or.inl (Exists.intro ?_ (And.intro (fun wS hS K hK => ?_) (And.intro ?_ ?_)))))
    rotate_left 1
    · have t0 := hS
      first
        | (refine if_unwanted rfl ?_; simp only [Act.put, List.setIfInBounds_toArray, List.set_cons_zero, List.set_cons_succ]; exact hK.out)
        | (refine if_wanted rfl ?_; go_simp; exact hK.out)
    · rfl
  refine ChainG.one rfl rfl rfl (fun wS hS R hR => ?_)
  go_simp
  go_at_call 52
  refine (HT1.out _ _ hS).mono ?_
  rintro e w7 ⟨rfl, S7⟩
  refine hR.out _ _ rfl (fun wx => (∀ o, wx.cell? ⟨q, o, none⟩ = (#[.string ⟨x.toArray⟩, .int .u64 sn, .int .u64 so] : Array Value)[o]?)) (fun wx => Sp w0 F0 wx (boxR q #[.string ⟨x.toArray⟩, .int .u64 sn, .int .u64 so] 48 :: L)) S7 (fun x h => h.cell) (fun _ h => h) ?_
  clear hR hS S7
  repeat
    refine Exists.intro _ (And.intro rfl (Or.inl (Exists.intro ?_ (And.intro (fun wS hS K hK => ?_) (And.intro ?_ ?_)))))
    rotate_left 1
    · have t0 := hS
      first
        | (refine if_unwanted rfl ?_; simp only [Act.put, List.setIfInBounds_toArray, List.set_cons_zero, List.set_cons_succ]; exact hK.out)
        | (refine if_wanted rfl ?_; go_simp; exact hK.out)
    · rfl
  refine ChainG.one rfl rfl rfl (fun wS hS R hR => ?_)
  go_simp
  go_at_call 53
  refine (HN1.out _ _ hS).mono ?_
  rintro e w7 ⟨rfl, S7⟩
  refine hR.out _ _ rfl (fun wx => (∀ o, wx.cell? ⟨q, o, none⟩ = (#[.string ⟨x.toArray⟩, .int .u64 sn, .int .u64 so] : Array Value)[o]?)) (fun wx => Sp w0 F0 wx (boxR q #[.string ⟨x.toArray⟩, .int .u64 sn, .int .u64 so] 48 :: L)) S7 (fun x h => h.cell) (fun _ h => h) ?_
  clear hR hS S7
  repeat
    refine Exists.intro _ (And.intro rfl (Or.inl (Exists.intro ?_ (And.intro (fun wS hS K hK => ?_) (And.intro ?_ ?_)))))
    rotate_left 1
    · have t0 := hS
      first
        | (refine if_unwanted rfl ?_; simp only [Act.put, List.setIfInBounds_toArray, List.set_cons_zero, List.set_cons_succ]; exact hK.out)
        | (refine if_wanted rfl ?_; go_simp; exact hK.out)
    · rfl
  refine ChainG.one rfl rfl rfl (fun wS hS R hR => ?_)
  go_simp
  go_at_call 53
  refine (HN2.out _ _ hS).mono ?_
  rintro e w7 ⟨rfl, S7⟩
  refine hR.out _ _ rfl (fun wx => (∀ o, wx.cell? ⟨q, o, none⟩ = (#[.string ⟨x.toArray⟩, .int .u64 sn, .int .u64 so] : Array Value)[o]?)) (fun wx => Sp w0 F0 wx (boxR q #[.string ⟨x.toArray⟩, .int .u64 sn, .int .u64 so] 48 :: L)) S7 (fun x h => h.cell) (fun _ h => h) ?_
  clear hR hS S7
  repeat
    refine Exists.intro _ (And.intro rfl (Or.inl (Exists.intro ?_ (And.intro (fun wS hS K hK => ?_) (And.intro ?_ ?_)))))
    rotate_left 1
    · have t0 := hS
      first
        | (refine if_unwanted rfl ?_; simp only [Act.put, List.setIfInBounds_toArray, List.set_cons_zero, List.set_cons_succ]; exact hK.out)
        | (refine if_wanted rfl ?_; go_simp; exact hK.out)
    · rfl
  refine ChainG.one rfl rfl rfl (fun wS hS R hR => ?_)
  go_simp
  go_at_call 52
  refine (HT2.out _ _ hS).mono ?_
  rintro e w7 ⟨rfl, S7⟩
  refine hR.out _ _ rfl (fun wx => (∀ o, wx.cell? ⟨q, o, none⟩ = (#[.string ⟨x.toArray⟩, .int .u64 sn, .int .u64 so] : Array Value)[o]?)) (fun wx => Sp w0 F0 wx (boxR q #[.string ⟨x.toArray⟩, .int .u64 sn, .int .u64 so] 48 :: L)) S7 (fun x h => h.cell) (fun _ h => h) ?_
  clear hR hS S7
  repeat
    refine Exists.intro _ (And.intro rfl (Or.inl (Exists.intro ?_ (And.intro (fun wS hS K hK => ?_) (And.intro ?_ ?_)))))
    rotate_left 1
    · have t0 := hS
      first
        | (refine if_unwanted rfl ?_; simp only [Act.put, List.setIfInBounds_toArray, List.set_cons_zero, List.set_cons_succ]; exact hK.out)
        | (refine if_wanted rfl ?_; go_simp; exact hK.out)
    · rfl
  intro wE hE
  have HSE := Lib.hid hE
  clear hE
  have HS2 := Lib.hid HSE.out.drop
  go_wp2
  go_ret
  exact ⟨by rw [HK.out]; rfl, HS2.out⟩
end
end Go.Proofs.YtpkolkgndhagiaaGreat

/-! R14b -/
/-! R14b -/
namespace Go.Proofs.YtpkolkgndhagiaaGreat
open Go.RowKit Go.Maps

section
variable {w0 w : World} {L : List Res} {F0 : List Nat} {b : Nat} {v : Value}
theorem drop_tailR {s a b : Bs} (e : s = a ++ b) : s.drop (s.length - b.length) = b := by
  subst e
  rw [List.length_append, Nat.add_sub_cancel]
  exact List.drop_left
theorem infoRow14 : (Tryz.prog.info? 48).map (fun i => (i.zero, i.size, i.bytes)) = some (some (.agg #[.string ⟨#[]⟩, .int .u64 0, .int .u64 0]), 3, 32) := by kernel_rfl
abbrev rwsR (v : Value) (l : List (Bs × RSt)) : Res := rowR 48 3 v l.length (l.map rwVals).flatten
theorem rwVals_len {l : List (Bs × RSt)} : ∀ x ∈ l.map rwVals, x.length = 3 := fun x hx => by
  obtain ⟨r, _, rfl⟩ := List.mem_map.1 hx
  rfl
theorem Sp.rowMadeR (S : Sp w0 F0 w L) (e k : Nat) : Sp w0 F0 (w.alloc (.cells #[] e)) (rowR e k (.slice (some ⟨w.heap.size, 0, none⟩) 0 0) 0 [] :: L) := S.rowLaid e k 0 [] (by simp) (by unfold maxLen; omega)
set_option maxRecDepth 100000 in
set_option maxHeartbeats 8000000 in
theorem r14RowsS (s : Bs) (hs : s.length ≤ 1000000000) (S : Sp w0 F0 w L) :
    Calls Tryz.prog 38 #[.string ⟨s.toArray⟩] w fun e w2 => ∃ v, e = .returned (.tuple #[v, .int .i64 ((s.length : Int) - (ringRest s).length)]) ∧ Sp w0 F0 w2 (rwsR v (ringRows s) :: L) := by
  have HL := Lib.hid hs
  have hs' : (s.length : Int) ≤ 1000000000 := by omega
  have HS0 := Lib.hid (S.rowMadeR 48 3)
  clear S hs
  go_enter Tryz.func38, Tryz.ntmps38
  go_wp2_with fail
  generalize w.alloc (.cells #[] 48) = w1 at *
  generalize w.heap.size = g0 at *
  go_loopw [4, 5] (fun v at0 wr => ∃ (dn : List (Bs × RSt)) (k : Nat), ringRows s = dn ++ ringRows (s.drop k) ∧ ringRest s = ringRest (s.drop k) ∧ at0 = .int .i64 k ∧ dn.length ≤ k ∧ k ≤ s.length ∧ Sp w0 F0 wr (rwsR v dn :: L)) (fun _ v _ => s.length - (intOf v).toNat)
  case atStart => exact ⟨[], 0, rfl, rfl, rfl, by simp, by omega, HS0.out⟩
  case round =>
    obtain ⟨dn, k, h1, h2, rfl, h3, h4, S3⟩ := hrel
    have H1 := Lib.hid h1
    have H2 := Lib.hid h2
    have h3' : (dn.length : Int) ≤ k := by omega
    have h4' : (k : Int) ≤ s.length := by omega
    have hcut := cut_tail s k s.length rfl
    have HRL : Hid ((s.drop k).length = s.length - k) := List.length_drop
    have HQ := Lib.hid (@ringRead_ok (s.drop k))
    have HQ1 := Lib.hid (@ringScan_step (s.drop k))
    have HQ2 := Lib.hid (@ringScan_stop (s.drop k))
    generalize hr : s.drop k = r at *
    have HR := Lib.hid hr
    have HRN : Hid (ringRead ⟨r, false⟩ = ((Rd.text ⟨(Rd.text ⟨r, false⟩ 300).1, false⟩ 255).1, ⟨((Rd.text ⟨(Rd.text ⟨r, false⟩ 300).1, false⟩ 255).2.num 1000000).1, (((Rd.text ⟨(Rd.text ⟨r, false⟩ 300).1, false⟩ 255).2.num 1000000).2.num 1000000).1⟩, decide ((((Rd.text ⟨(Rd.text ⟨r, false⟩ 300).1, false⟩ 255).2.num 1000000).2.num 1000000).2.done = 0), (Rd.text ⟨r, false⟩ 300).2)) := rfl
    generalize ringRead ⟨r, false⟩ = q at *
    have S4 := S3.box #[.string ⟨r.toArray⟩, .bool false] 112
    have HS4 := Lib.hid S4
    clear h1 h2 S3 S4 HS0 hr
    go_wp2_with fail
    refine (r12TextL (r := ⟨r, false⟩) 300 300 rfl HS4.out (by have := HL.out; have := HRL.out; dsimp only; omega) (by decide)).mono ?_
    have HTL := Lib.hid (text_len ⟨r, false⟩ 300)
    generalize Rd.text ⟨r, false⟩ 300 = tr at *
    obtain ⟨t, r2⟩ := tr
    dsimp only at *
    rintro e w5 ⟨rfl, S⟩
    have HS5 := Lib.hid (S.box #[.string ⟨t.toArray⟩, .bool false] 112)
    clear S HS4 hcut
    go_wp2_with fail
    refine (r12TextL (r := ⟨t, false⟩) 255 255 rfl HS5.out (by have := HL.out; have := HRL.out; have := HTL.out.2.2; dsimp only; omega) (by decide)).mono ?_
    have HTM := Lib.hid (text_len ⟨t, false⟩ 255)
    generalize Rd.text ⟨t, false⟩ 255 = ur at *
    obtain ⟨key, r3⟩ := ur
    dsimp only at *
    rintro e w6 ⟨rfl, S⟩
    have HS6 := Lib.hid (S.box #[.string ⟨key.toArray⟩, .int .u64 0, .int .u64 0] 48).pull1
    clear S HS5
    go_wp2_with fail
    refine (r12ReadL (r := r3) 1000000 1000000 rfl HS6.out (by have := HL.out; have := HRL.out; have := HTL.out.2.2; have := HTM.out.1; omega)).mono ?_
    have HNL := Lib.hid (num_len r3 1000000).1
    generalize r3.num 1000000 = nr at *
    obtain ⟨nn, r4⟩ := nr
    dsimp only at *
    rintro e w7 ⟨rfl, S⟩
    have f3 := S.pull1.free
    have c30 := S.pull1.cell
    have HS7 := Lib.hid (S.pull1.set (o := 1) (.int .u64 nn)).pull1
    clear S HS6
    go_wp2_with fail
    refine (r12ReadL (r := r4) 1000000 1000000 rfl HS7.out (by have := HL.out; have := HRL.out; have := HTL.out.2.2; have := HTM.out.1; have := HNL.out; omega)).mono ?_
    generalize r4.num 1000000 = nr at *
    obtain ⟨no, r5⟩ := nr
    dsimp only at *
    rintro e w8 ⟨rfl, S⟩
    clear f3 c30
    have f3 := S.pull1.free
    have c30 := S.pull1.cell
    have S8 := S.pull1.set (o := 2) (.int .u64 no)
    simp only [List.setIfInBounds_toArray, List.set_cons_zero, List.set_cons_succ] at S8 c30
    have c3 := S8.cell
    have c1 := ((Sp.pick [_, _, _] [2] (by decide) (S8))).cell
    have HS8 := Lib.hid S8
    obtain ⟨q1, q2, ok, q3⟩ := q
    obtain ⟨e1, e2, e3, e4⟩ : key = q1 ∧ ⟨nn, no⟩ = q2 ∧ ok = decide (r5.done = 0) ∧ r2 = q3 := by have := HRN.out; simp only [Prod.mk.injEq] at this; exact ⟨this.1.symm, this.2.1.symm, this.2.2.1, this.2.2.2.symm⟩
    subst e1 e2 e4
    have HOK := Lib.hid e3
    clear S S8 HS7 HRN e3
    obtain ⟨rs, bad⟩ := r2
    dsimp only at *
    have hstop : ok = false → ringRows s = dn ∧ ringRest s = r := fun h => by
      obtain ⟨g1, g2⟩ := HQ2.out h
      rw [H1.out, H2.out, g1, g2, List.append_nil]
      exact ⟨rfl, rfl⟩
    have HSTOP := Lib.hid hstop
    have HKL : Hid ((k : Int) = s.length - r.length) := by have := HRL.out; unfold Hid; omega
    clear hstop
    cases bad with
    | true =>
      have hok : ok = false := by
        cases hk : ok with
        | false => rfl
        | true => have := (HQ.out hk).1; cases this
      obtain ⟨g1, g2⟩ := HSTOP.out hok
      have HG1 := Lib.hid g1
      have HG2 := Lib.hid g2
      clear g1 g2 hok
      go_wp2_with fail
      go_ret2
      exact ⟨u4, congrArg (fun z : Int => Ending.returned (.tuple #[u4, .int .i64 z])) (by rw [HG2.out]; exact HKL.out), by rw [HG1.out]; exact (Sp.pick [_, _, _, _] [3] (by decide) (HS8.out))⟩
    | false =>
      go_wp2_with fail
      refine (r12DoneS (r := r5) ((Sp.pick [_, _] [1] (by decide) (HS8.out)))).mono ?_
      rintro e w9 ⟨rfl, rfl⟩
      by_cases hdn : r5.done = 0
      · have hok : ok = true := by rw [HOK.out, decide_eq_true_eq]; exact hdn
        obtain ⟨_, g2, g3, _⟩ := HQ.out hok
        obtain ⟨g7, g8⟩ := HQ1.out hok
        have hrs : s.drop (s.length - rs.length) = rs := by
          have e : s = (s.take k ++ ringRow key ⟨nn, no⟩) ++ rs := by rw [List.append_assoc, ← g2, ← HR.out, List.take_append_drop]
          exact drop_tailR e
        have hk2 : rs.length < s.length - k := by have := HRL.out; omega
        have S9 := HS8.out.box #[.string ⟨key.toArray⟩, .int .u64 nn, .int .u64 no] 48
        simp only [World.size_setCell] at S9
        obtain ⟨g, cap, w10, hrun, S10⟩ := Sp.appendOne (e := 48) (k := 3) 80 80 #[.string ⟨key.toArray⟩, .int .u64 nn, .int .u64 no] _ 32 infoRow14 rfl Tryz.underlying80 (by decide) (by decide) rfl (by simp [Value.oneCell']) (by have := HL.out; omega) ((Sp.pick [_, _, _, _, _] [0, 4, 1, 2, 3] (by decide) (S9)))
        have e1 : (dn.map rwVals).flatten ++ [.string ⟨key.toArray⟩, .int .u64 nn, .int .u64 no] = ((dn ++ [(key, (⟨nn, no⟩ : RSt))]).map rwVals).flatten := by simp [rwVals]
        have hl1 : dn.length + 1 = (dn ++ [(key, (⟨nn, no⟩ : RSt))]).length := by simp
        have S11 : Sp w0 F0 w10 (rwsR (.slice (some ⟨g, 0, none⟩) (dn.length + 1) cap) (dn ++ [(key, ⟨nn, no⟩)]) :: rdR 112 wr.heap.size ⟨rs, false⟩ :: L) := by
          unfold rwsR
          rw [← hl1, ← e1]
          exact (Sp.pick [_, _, _, _, _] [1, 4] (by decide) (S10))
        have c11 := S11.pull1.cell
        have HS11 := Lib.hid S11
        have HRUN := Lib.hid hrun
        have H1' : Hid (ringRows s = (dn ++ [(key, (⟨nn, no⟩ : RSt))]) ++ ringRows (s.drop (s.length - rs.length))) := by rw [hrs, H1.out, g7]; simp [Hid]
        have H2' : Hid (ringRest s = ringRest (s.drop (s.length - rs.length))) := by rw [hrs, H2.out, g8]; exact Eq.refl _
        have hrl : (rs.length : Int) < s.length - k := by omega
        have HK2 : Hid ((dn ++ [(key, (⟨nn, no⟩ : RSt))]).length ≤ s.length - rs.length) := by rw [← hl1]; unfold Hid; omega
        have hdn' : (r5.done != 0) = false := by simpa using hdn
        clear hrs hk2 S9 S10 S11 hrun e1 hl1 g2 g3 g7 g8 hok hdn
        go_wp2_with (at_builtin; refine wpList_append_run (by rfl) (by rfl) (by rfl) (by rfl) HRUN.out ?_)
        go_roundw
        case rel => exact ⟨_, s.length - rs.length, H1'.out, H2'.out, by go_num, HK2.out, by omega, HS11.out.pull1.drop⟩
        case measure => simp [intOf]; omega
      · have hok : ok = false := by rw [HOK.out, decide_eq_false_iff_not]; exact hdn
        obtain ⟨g1, g2⟩ := HSTOP.out hok
        have HG1 := Lib.hid g1
        have HG2 := Lib.hid g2
        have hdn' : (r5.done != 0) = true := by simpa using hdn
        clear g1 g2 hdn hok
        go_wp2_with fail
        go_ret2
        exact ⟨u4, congrArg (fun z : Int => Ending.returned (.tuple #[u4, .int .i64 z])) (by rw [HG2.out]; exact HKL.out), by rw [HG1.out]; exact (Sp.pick [_, _, _, _] [3] (by decide) (HS8.out))⟩
end
end Go.Proofs.YtpkolkgndhagiaaGreat

/-! R14c -/
/-! R14c -/
namespace Go.Proofs.YtpkolkgndhagiaaGreat
open Go.RowKit Go.Maps

/-- The document's ring as one part. -/
def rgR (p d : Nat) (rs : List RRow) : Res := Res.ex fun X : Value × List Rom => (Res.pure (rwK X.1 rs ∈ X.2)).and ((boxR p #[.pointer (some ⟨d, 0, none⟩), X.1] 84).and (romR X.2))
section
variable {w0 w : World} {L : List Res} {F0 : List Nat} {p d : Nat} {v : Value} {rs : List RRow} {K : List Rom}
theorem Sp.rwAt (S : Sp w0 F0 w (romR K :: L)) (h : rwK v rs ∈ K) : ∃ a cap, v = .slice a rs.length cap := by
  obtain ⟨F, a, cap, h1, _⟩ := S.rom h
  exact ⟨a, cap, by simpa using h1⟩
theorem Sp.rgOpen (S : Sp w0 F0 w (rgR p d rs :: L)) : ∃ a cap K, rwK (.slice a rs.length cap) rs ∈ K ∧ Sp w0 F0 w (boxR p #[.pointer (some ⟨d, 0, none⟩), .slice a rs.length cap] 84 :: romR K :: L) := by
  obtain ⟨⟨v, K⟩, S⟩ := Sp.exOpen S
  obtain ⟨h, S⟩ := S.part.pureOpen
  dsimp only at h S
  obtain ⟨a, cap, rfl⟩ := S.part.drop.rwAt h
  exact ⟨a, cap, K, h, S.part⟩
theorem Sp.rgShut (h : rwK v rs ∈ K) (S : Sp w0 F0 w (boxR p #[.pointer (some ⟨d, 0, none⟩), v] 84 :: romR K :: L)) : Sp w0 F0 w (rgR p d rs :: L) := Sp.exShut (v, K) (S.glue.pureShut h).glue
theorem Sp.rwCells {a : Option Addr} {n cap : Nat} (S : Sp w0 F0 w (romR K :: L)) (h : rwK (.slice a n cap) rs ∈ K) {i : Nat} (hi : i < rs.length) : ∃ b off, a = some ⟨b, off, none⟩ ∧ w.cell? ⟨b, off + i * 3, none⟩ = some (.string ⟨rs[i].1.toArray⟩) ∧ w.cell? ⟨b, off + i * 3 + 1, none⟩ = some (.int .u64 rs[i].2.now) ∧ w.cell? ⟨b, off + i * 3 + 2, none⟩ = some (.int .u64 rs[i].2.old) := by
  obtain ⟨F, a2, cap2, h1, _, _, h4⟩ := S.rom h
  have h1' : Value.slice a n cap = .slice a2 (rs.map rwVals).length cap2 := h1
  simp only [Value.slice.injEq] at h1'
  obtain ⟨rfl, _, _⟩ := h1'
  have hr : (rs.map rwVals)[i]? = some (rwVals rs[i]) := by rw [List.getElem?_map, List.getElem?_eq_getElem hi]; rfl
  rcases h4 with h4 | ⟨b, off, h5, _, _, h6⟩
  · exfalso
    have : (rs.map rwVals).length = 0 := by rw [show rs.map rwVals = [] from h4]; rfl
    rw [List.length_map] at this
    omega
  · exact ⟨b, off, h5, h6 i _ 0 _ hr rfl, h6 i _ 1 _ hr rfl, h6 i _ 2 _ hr rfl⟩
theorem Sp.put3 {g T : Nat} {a b c : Value} (S : Sp w0 F0 w (boxR g #[a, b, c] T :: L)) (a' b' c' : Value) : Sp w0 F0 (((w.setCell ⟨g, 0, none⟩ a').setCell ⟨g, 1, none⟩ b').setCell ⟨g, 2, none⟩ c') (boxR g #[a', b', c'] T :: L) := by
  have h := ((S.set (o := 0) a').set (o := 1) b').set (o := 2) c'
  simp only [List.setIfInBounds_toArray, List.set_cons_zero, List.set_cons_succ] at h
  exact h
set_option maxRecDepth 100000 in
set_option maxHeartbeats 8000000 in
theorem r14StateS (x : Bs) (hl : rs.length ≤ 1000000000) (S : Sp w0 F0 w (rgR p d rs :: L)) : Calls Tryz.prog 26 #[.pointer (some ⟨p, 0, none⟩), .string ⟨x.toArray⟩] w fun e w2 => e = .returned (.agg #[.string ⟨x.toArray⟩, .int .u64 (st rs x).now, .int .u64 (st rs x).old]) ∧ Sp w0 F0 w2 (rgR p d rs :: L) := by
  obtain ⟨la, lc, K, hq, S1⟩ := S.rgOpen
  have HQ := Lib.hid hq
  have HS := Lib.hid (S1.box #[.string ⟨#[]⟩, .int .u64 0, .int .u64 0] 48)
  have hl' : (rs.length : Int) ≤ 1000000000 := by omega
  have HST := Lib.hid (fun (l : List RRow) (y : Bs) (s : RSt) => st_snoc l y s x)
  have c0 := HS.out.pull1.cell
  clear S S1 hq hl
  go_enter Tryz.func26, Tryz.ntmps26
  go_upto_region 1 with (fail)
  generalize w.alloc _ = w1 at *
  generalize w.heap.size = g at *
  go_wp2_with fail
  clear c0
  go_loopw [5] (fun i wr => wr = w1 ∧ ∃ k : Nat, k ≤ rs.length ∧ i = .int .i64 ((k : Int) - 1) ∧ st rs x = st (rs.take k) x) (fun i _ => (intOf i + 1).toNat)
  case atStart => exact ⟨rfl, rs.length, Nat.le_refl _, rfl, by rw [List.take_length]⟩
  case round =>
    obtain ⟨rfl, k, hk, rfl, hst⟩ := hrel
    have HS1 := Lib.hid hst
    clear hst
    have c := HS.out.pull1.cell
    have cg := HS.out.cell
    have fg := HS.out.free
    cases k with
    | zero =>
      have HV : Hid (st rs x = ⟨1, 0⟩) := by rw [HS1.out]; rfl
      have HP := Lib.hid (HS.out.put3 (.string ⟨x.toArray⟩) (.int .u64 1) (.int .u64 0))
      go_wp2
      refine bodyPost_ret (results_cell_row rfl _ _ g 48 #[.string ⟨x.toArray⟩, .int .u64 1, .int .u64 0] (0, 0) _ rfl HP.out.boxed Tryz.underlying48 rfl (by kernel_rfl)) rfl ?_
      rw [HV.out]
      exact ⟨rfl, Sp.rgShut HQ.out HP.out.drop⟩
    | succ k =>
      have hlt : k < rs.length := by omega
      obtain ⟨b, off, hla, x0, x1, x2⟩ := Sp.rwCells HS.out.pull2 HQ.out hlt
      subst hla
      have hii : ((k + 1 : Nat) : Int) - 1 = (k : Int) := by omega
      rw [hii]
      have hk' : (k : Int) < rs.length := by omega
      have HT : Hid (st rs x = if rs[k].1 = x then rs[k].2 else st (rs.take k) x) := by
        rw [HS1.out, List.take_succ_eq_append_getElem hlt]
        exact HST.out _ _ _
      generalize rs[k] = y at *
      obtain ⟨yn, yw, yo⟩ := y
      dsimp only at *
      by_cases he : yn = x
      · subst he
        have HT2 := Lib.hid (HT.out.trans (if_pos rfl))
        have HP := Lib.hid (HS.out.put3 (.string ⟨yn.toArray⟩) (.int .u64 yw) (.int .u64 yo))
        go_wp2_with fail
        refine bodyPost_ret (results_cell_row rfl _ _ g 48 #[.string ⟨yn.toArray⟩, .int .u64 yw, .int .u64 yo] (0, 0) _ rfl HP.out.boxed Tryz.underlying48 rfl (by kernel_rfl)) rfl ?_
        rw [HT2.out]
        exact ⟨rfl, Sp.rgShut HQ.out HP.out.drop⟩
      · have he' : (yn == x) = false := by simpa using he
        have HT2 := Lib.hid (HT.out.trans (if_neg he))
        go_wp2_with fail
        go_roundw
        case rel => exact ⟨by trivial, k, by omega, by go_num, HT2.out⟩
        case measure => simp [intOf]
set_option maxRecDepth 100000 in
set_option maxHeartbeats 8000000 in
theorem r14LiveS (x : Bs) (n : Nat) (hl : rs.length ≤ 1000000000) (hn : n < 18446744073709551616) (S : Sp w0 F0 w (rgR p d rs :: L)) : Calls Tryz.prog 32 #[.pointer (some ⟨p, 0, none⟩), .string ⟨x.toArray⟩, .int .u64 n] w fun e w2 => e = .returned (.bool (decide (0 < n) && (decide (n = (st rs x).now) || decide (n = (st rs x).old)))) ∧ Sp w0 F0 w2 (rgR p d rs :: L) := by
  have HST := Lib.hid (r14StateS x hl S)
  clear S
  generalize st rs x = s at *
  obtain ⟨sn, so⟩ := s
  dsimp only at *
  go_enter Tryz.func32, Tryz.ntmps32
  go_wp2_with fail
  refine HST.out.mono ?_
  rintro e w2 ⟨rfl, S2⟩
  have HS2 := Lib.hid S2
  have HP := Lib.hid (S2.box #[.string ⟨x.toArray⟩, .int .u64 sn, .int .u64 so] 48)
  have c := HP.out.cell
  clear S2 HST
  go_wp2
  all_goals
    go_ret
    refine ⟨ret_bool ?_, HP.out.drop⟩
    rw [Bool.eq_iff_iff]
    simp_all
    try omega
end
end Go.Proofs.YtpkolkgndhagiaaGreat

/-! R14e -/
/-! R14e -/
namespace Go.Proofs.YtpkolkgndhagiaaGreat
open Go.RowKit Go.Maps

def rgSet (D : Dk) (rs : List RRow) (x : Bs) (s : RSt) : Dk × List RRow × Int :=
  if (D.append ringB (ringRow x s)).2 ≠ 0 then ((D.append ringB (ringRow x s)).1, rs, (D.append ringB (ringRow x s)).2)
  else if (D.append ringB (ringRow x s)).1.sync.2 ≠ 0 then ((D.append ringB (ringRow x s)).1.sync.1, rs, (D.append ringB (ringRow x s)).1.sync.2)
  else ((D.append ringB (ringRow x s)).1.sync.1, rs ++ [(x, s)], 0)
section
variable {w0 w : World} {L : List Res} {F0 : List Nat} {p d : Nat} {v : Value} {rs : List RRow} {K : List Rom} {D : Dk} {m : Nat}
theorem rw_one {l : List RRow} : ∀ u ∈ (l.map rwVals).flatten, u.oneCell' = true := by
  intro u hu
  obtain ⟨x, hx, h2⟩ := List.mem_flatten.1 hu
  obtain ⟨e, _, rfl⟩ := List.mem_map.1 hx
  simp only [rwVals, List.mem_cons, List.not_mem_nil, or_false] at h2
  rcases h2 with rfl | rfl | rfl <;> rfl
theorem rw_more {x : Bs} {sn so : Nat} (S : Sp w0 F0 w (rowR 48 3 v (0 + (rs.map rwVals).length + 1) ([] ++ (rs.map rwVals).flatten ++ (#[.string ⟨x.toArray⟩, .int .u64 sn, .int .u64 so] : Array Value).toList) :: romR K :: L)) : Sp w0 F0 w (romR (rwK v (rs ++ [(x, ⟨sn, so⟩)]) :: K) :: L) := by
  have h1 : 0 + (rs.map rwVals).length + 1 = ((rs ++ [(x, (⟨sn, so⟩ : RSt))]).map rwVals).length := by simp
  have h2 : ([] ++ (rs.map rwVals).flatten ++ (#[.string ⟨x.toArray⟩, .int .u64 sn, .int .u64 so] : Array Value).toList) = ((rs ++ [(x, (⟨sn, so⟩ : RSt))]).map rwVals).flatten := by simp [rwVals]
  rw [h1, h2] at S
  exact S.romMore rwVals_len
set_option maxRecDepth 100000 in
set_option maxHeartbeats 40000000 in
theorem r14SetS (x : Bs) (s : RSt) (hx : x.length ≤ 900) (hn : s.now < 18446744073709551616) (ho : s.old < 18446744073709551616) (hok : D.Ok m) (hm : m ≤ 900000) (hl : rs.length ≤ 100000000) (S : Sp w0 F0 w (rgR p d rs :: rkR d D :: L)) : Calls Tryz.prog 42 #[.pointer (some ⟨p, 0, none⟩), .agg #[.string ⟨x.toArray⟩, .int .u64 s.now, .int .u64 s.old]] w fun r w2 => r = .returned (.int .i64 (rgSet D rs x s).2.2) ∧ Sp w0 F0 w2 (rgR p d (rgSet D rs x s).2.1 :: rkR d (rgSet D rs x s).1 :: L) := by
  obtain ⟨la, lc, K, hq, S1⟩ := S.rgOpen
  have hrl := ringRow_length_le x s
  have hok2 := hok.append ringB (ringRow x s)
  have HV : Hid (rgSet D rs x s = if (D.append ringB (ringRow x s)).2 ≠ 0 then ((D.append ringB (ringRow x s)).1, rs, (D.append ringB (ringRow x s)).2)
    else if (D.append ringB (ringRow x s)).1.sync.2 ≠ 0 then ((D.append ringB (ringRow x s)).1.sync.1, rs, (D.append ringB (ringRow x s)).1.sync.2)
    else ((D.append ringB (ringRow x s)).1.sync.1, rs ++ [(x, s)], 0)) := rfl
  have HQ := Lib.hid hq
  have HWR := Lib.hid (fun (W : World) (L' : List Res) (S : Sp w0 F0 W L') => r14WriteS x s (by omega) hn ho S)
  have HAP := Lib.hid (fun (W : World) (L' : List Res) (S : Sp w0 F0 W (rkR d D :: L')) => rAppendS ringB (ringRow x s) hok (by omega) (by omega) S)
  have HSY := Lib.hid (fun (W : World) (L' : List Res) (S : Sp w0 F0 W (rkR d (D.append ringB (ringRow x s)).1 :: L')) => rSyncS hok2 (by have : ringB.length = 4 := rfl; omega) S)
  have HS1 := Lib.hid ((Sp.pick [_, _, _, _] [1, 0, 2, 3] (by decide) ((S1.box #[.string ⟨x.toArray⟩, .int .u64 s.now, .int .u64 s.old] 48))))
  have HL7 := Lib.hid (rwVals_len (l := rs))
  have HR1 := Lib.hid (rw_one (l := rs))
  have HRN2 : Hid ((rs.map rwVals).length < 1000000000) := by rw [List.length_map]; unfold Hid; omega
  have cq := ((Sp.pick [_, _] [1] (by decide) (HS1.out))).cell
  obtain ⟨sn, so⟩ := s
  dsimp only at *
  clear S S1 hq hok hok2 hrl hn ho hx hl hm
  generalize hr : ringRow x ⟨sn, so⟩ = row at *
  clear hr
  generalize D.append ringB row = DA at *
  obtain ⟨D1, e1⟩ := DA
  dsimp only at *
  generalize D1.sync = DB at *
  obtain ⟨D2, e2⟩ := DB
  dsimp only at *
  go_enter Tryz.func42, Tryz.ntmps42
  go_upto_region 1 with (fail)
  generalize w.alloc _ = w1 at *
  generalize w.heap.size = q at *
  clear cq
  refine wp_region_chainG [0, 1, 2, 3, 4, 5, 6, 7] (fun c => c == 5 || c == 6) (fun c => false) (T := fun wx => (∀ o, wx.cell? ⟨p, o, none⟩ = (#[.pointer (some ⟨d, 0, none⟩), .slice la rs.length lc] : Array Value)[o]?) ∧ (∀ o, wx.cell? ⟨q, o, none⟩ = (#[.string ⟨x.toArray⟩, .int .u64 sn, .int .u64 so] : Array Value)[o]?)) (S := fun wx => Sp w0 F0 wx (boxR p (#[.pointer (some ⟨d, 0, none⟩), .slice la rs.length lc]) 84 :: boxR q #[.string ⟨x.toArray⟩, .int .u64 sn, .int .u64 so] 48 :: romR K :: rkR d D :: L)) (by kernel_rfl) (by kernel_rfl) (by kernel_rfl) HS1.out.drew (fun x h => ⟨h.cell, ((Sp.pick [_, _] [1] (by decide) (h))).cell⟩) ?_
  repeat
    refine Exists.intro _ (And.intro rfl (Or.inl (Exists.intro ?_ (And.intro (fun wS hS K hK => ?_) (And.intro ?_ ?_)))))
    rotate_left 1
    · obtain ⟨t0, t1⟩ := hS
      first
        | (refine if_unwanted rfl ?_; simp only [Act.put, List.setIfInBounds_toArray, List.set_cons_zero, List.set_cons_succ]; exact hK.out)
        | (refine if_wanted rfl ?_; go_simp; exact hK.out)
    · rfl
  refine ChainG.one rfl rfl rfl (fun wS hS R hR => ?_)
  go_simp
  go_at_call 72
  refine (HWR.out _ _ hS).mono ?_
  rintro e w7 ⟨rfl, S7⟩
  refine hR.out _ _ rfl (fun wx => (∀ o, wx.cell? ⟨p, o, none⟩ = (#[.pointer (some ⟨d, 0, none⟩), .slice la rs.length lc] : Array Value)[o]?) ∧ (∀ o, wx.cell? ⟨q, o, none⟩ = (#[.string ⟨x.toArray⟩, .int .u64 sn, .int .u64 so] : Array Value)[o]?)) (fun wx => Sp w0 F0 wx (boxR p (#[.pointer (some ⟨d, 0, none⟩), .slice la rs.length lc]) 84 :: boxR q #[.string ⟨x.toArray⟩, .int .u64 sn, .int .u64 so] 48 :: romR K :: rkR d D :: L)) S7 (fun x h => ⟨h.cell, ((Sp.pick [_, _] [1] (by decide) (h))).cell⟩) (fun _ h => h) ?_
  clear hR hS S7
  repeat
    refine Exists.intro _ (And.intro rfl (Or.inl (Exists.intro ?_ (And.intro (fun wS hS K hK => ?_) (And.intro ?_ ?_)))))
    rotate_left 1
    · obtain ⟨t0, t1⟩ := hS
      first
        | (refine if_unwanted rfl ?_; simp only [Act.put, List.setIfInBounds_toArray, List.set_cons_zero, List.set_cons_succ]; exact hK.out)
        | (refine if_wanted rfl ?_; go_simp; exact hK.out)
    · rfl
  refine ChainG.one rfl rfl rfl (fun wS hS R hR => ?_)
  go_simp
  go_at_call 71
  refine (HAP.out _ _ ((Sp.pick [_, _, _, _] [3, 0, 1, 2] (by decide) (hS)))).mono ?_
  rintro e w7 ⟨rfl, S7⟩
  refine hR.out _ _ rfl (fun wx => (∀ o, wx.cell? ⟨p, o, none⟩ = (#[.pointer (some ⟨d, 0, none⟩), .slice la rs.length lc] : Array Value)[o]?) ∧ (∀ o, wx.cell? ⟨q, o, none⟩ = (#[.string ⟨x.toArray⟩, .int .u64 sn, .int .u64 so] : Array Value)[o]?)) (fun wx => Sp w0 F0 wx (boxR p (#[.pointer (some ⟨d, 0, none⟩), .slice la rs.length lc]) 84 :: boxR q #[.string ⟨x.toArray⟩, .int .u64 sn, .int .u64 so] 48 :: romR K :: rkR d D1 :: L)) (Sp.pick [_, _, _, _] [1, 2, 3, 0] (by decide) (S7)) (fun x h => ⟨h.cell, ((Sp.pick [_, _] [1] (by decide) (h))).cell⟩) (fun _ h => h) ?_
  clear hR hS S7
  repeat
    refine Exists.intro _ (And.intro rfl (Or.inl (Exists.intro ?_ (And.intro (fun wS hS K hK => ?_) (And.intro ?_ ?_)))))
    rotate_left 1
    · obtain ⟨t0, t1⟩ := hS
      first
        | (refine if_unwanted rfl ?_; simp only [Act.put, List.setIfInBounds_toArray, List.set_cons_zero, List.set_cons_succ]; exact hK.out)
        | (refine if_wanted rfl ?_; go_simp; exact hK.out)
    · rfl
  intro wE hE
  have HSE := Lib.hid hE
  clear hE
  have HS2 := Lib.hid HSE.out
  clear HSE HS1 HWR HAP
  by_cases h1 : e1 = 0
  · subst h1
    have HV2 := Lib.hid (HV.out.trans (if_neg (by simp)))
    clear HV
    have c2 := HS2.out.cell
    go_wp2_with fail
    refine (HSY.out _ _ ((Sp.pick [_, _, _, _] [3, 0, 1, 2] (by decide) (HS2.out)))).mono ?_
    rintro r w3 ⟨rfl, S3⟩
    have HS3 := Lib.hid ((Sp.pick [_, _, _, _] [1, 2, 3, 0] (by decide) (S3)))
    clear S3 c2 HS2 HSY
    by_cases h2 : e2 = 0
    · subst h2
      have HV3 := Lib.hid (HV2.out.trans (if_neg (by simp)))
      clear HV2
      go_upto_region 5 with (fail)
      refine wp_region_held (S := fun wx => ∀ o, wx.cell? ⟨q, o, none⟩ = (#[.string ⟨x.toArray⟩, .int .u64 sn, .int .u64 so] : Array Value)[o]?) (by kernel_rfl) ?_
      have hS0 := ((Sp.pick [_, _] [1] (by decide) (HS3.out.drew))).cell
      refine wpAnyH_takeD (i := 0) 22 (v := ?_) rfl rfl (by kernel_rfl) (by kernel_rfl) (by kernel_rfl) (fun _ _ _ h => h) (Or.inl ⟨by rfl, ?_⟩) hS0 ?_
      rotate_left 1
      · intro wS s0
        go_simp
        try with_reducible rfl
      simp only [Act.put, List.setIfInBounds_toArray, List.set_cons_zero, List.set_cons_succ]
      refine wpAnyH_takeD (i := 2) 24 (v := ?_) rfl rfl (by kernel_rfl) (by kernel_rfl) (by kernel_rfl) (fun _ _ _ h => h) (Or.inl ⟨by rfl, ?_⟩) hS0 ?_
      rotate_left 1
      · intro wS s0
        go_simp
        try with_reducible rfl
      simp only [Act.put, List.setIfInBounds_toArray, List.set_cons_zero, List.set_cons_succ]
      refine wpAnyH_takeD (i := 3) 25 (v := ?_) rfl rfl (by kernel_rfl) (by kernel_rfl) (by kernel_rfl) (fun _ _ _ h => h) (Or.inl ⟨by rfl, ?_⟩) hS0 ?_
      rotate_left 1
      · intro wS s0
        go_simp
        try with_reducible rfl
      simp only [Act.put, List.setIfInBounds_toArray, List.set_cons_zero, List.set_cons_succ]
      refine wpAnyH_takeD (i := 4) 26 (v := ?_) rfl rfl (by kernel_rfl) (by kernel_rfl) (by kernel_rfl) (fun _ _ _ h => h) (Or.inl ⟨by rfl, ?_⟩) hS0 ?_
      rotate_left 1
      · intro wS s0
        go_simp
        try with_reducible rfl
      simp only [Act.put, List.setIfInBounds_toArray, List.set_cons_zero, List.set_cons_succ]
      refine wpAnyH_takeD (i := 7) 29 (v := ?_) rfl rfl (by kernel_rfl) (by kernel_rfl) (by kernel_rfl) (fun _ _ _ h => h) (Or.inl ⟨by rfl, ?_⟩) hS0 ?_
      rotate_left 1
      · intro wS s0
        go_simp
        try with_reducible rfl
      simp only [Act.put, List.setIfInBounds_toArray, List.set_cons_zero, List.set_cons_succ]
      refine wpAnyH_gen (fun a0 hA => ?_)
      have hsz : a0.tmps.size = 35 := by rw [← hA]; rfl
      have e4 : a0.eval (.tmp 26) = .pointer (some ⟨p, 1, none⟩) := by rw [← hA]; rfl
      have e7 : a0.eval (.tmp 29) = .agg #[.string ⟨x.toArray⟩, .int .u64 sn, .int .u64 so] := by rw [← hA]; rfl
      have e0 : a0.eval (.tmp 22) = .pointer (some ⟨p, 0, none⟩) := by rw [← hA]; rfl
      refine wpAnyH_inv (by kernel_rfl) (fun l a wx => (l 0 = true ∧ l 2 = true ∧ l 3 = true ∧ l 4 = true ∧ l 7 = true) ∧ ∃ (v1 v5 v6 v8 v9 v10 v11 : Value) (CX : Array Value) (MA MB : List Res), a = (((((((a0.put (some 23) v1).put (some 27) v5).put (some 28) v6).put (some 30) v8).put (some 31) v9).put (some 32) v10).put (some 33) v11) ∧ (l 6 = true → l 1 = true) ∧ (l 6 = true → l 5 = true) ∧ (l 9 = true → l 6 = true) ∧ (l 9 = true → l 8 = true) ∧ (l 12 = true → l 9 = true) ∧ (l 10 = true → l 9 = true) ∧ (l 11 = true → l 10 = true) ∧ (l 5 = true → v5 = (.slice la rs.length lc)) ∧ (l 10 = true → v10 = .pointer (some ⟨p, 0, none⟩)) ∧ (l 11 = true → v11 = .pointer (some ⟨p, 1, none⟩)) ∧ ((l 1 = false ∧ MA = []) ∨ (l 1 = true ∧ l 6 = false ∧ MA = [rowR 48 3 v1 0 []]) ∨ (l 6 = true ∧ l 9 = false ∧ MA = [rowR 48 3 v6 (0 + (rs.map rwVals).length) ([] ++ (rs.map rwVals).flatten)]) ∨ (l 9 = true ∧ (∃ g cap, v9 = .slice (some ⟨g, 0, none⟩) (0 + (rs.map rwVals).length + 1) cap) ∧ MA = [rowR 48 3 v9 (0 + (rs.map rwVals).length + 1) ([] ++ (rs.map rwVals).flatten ++ (#[.string ⟨x.toArray⟩, .int .u64 sn, .int .u64 so] : Array Value).toList)])) ∧ ((l 8 = true ∧ ∃ g, v8 = .slice (some ⟨g, 0, none⟩) 1 1 ∧ MB = [boxR g #[.string ⟨x.toArray⟩, .int .u64 sn, .int .u64 so] 48]) ∨ (l 8 = false ∧ MB = [])) ∧ ((l 12 = true ∧ CX = (#[.pointer (some ⟨d, 0, none⟩), .slice la rs.length lc] : Array Value).setIfInBounds 1 v9) ∨ (l 12 = false ∧ CX = #[.pointer (some ⟨d, 0, none⟩), .slice la rs.length lc])) ∧ Sp w0 F0 wx (MB ++ (MA ++ (boxR p CX 84 :: boxR q #[.string ⟨x.toArray⟩, .int .u64 sn, .int .u64 so] 48 :: romR K :: rkR d D2 :: L)))) ?_ ?_ _ _ _ _ (by kernel_rfl) (by kernel_rfl) ?_
      · rintro l a wx i o ⟨hlp, v1, v5, v6, v8, v9, v10, v11, CX, MA, MB, rfl, k6_1, k6_5, k9_6, k9_8, k12_9, k10_9, k11_10, d5, d10, d11, mA, mB, mC, S⟩ ho hl hpre
        have hi : i = 1 ∨ i = 5 ∨ i = 6 ∨ i = 8 ∨ i = 9 ∨ i = 10 ∨ i = 11 ∨ i = 12 := by
          have h1 := (Array.getElem?_eq_some_iff.1 ho).1
          simp at h1
          have n0 : i ≠ 0 := by rintro rfl; rw [hlp.1] at hl; cases hl
          have n2 : i ≠ 2 := by rintro rfl; rw [hlp.2.1] at hl; cases hl
          have n3 : i ≠ 3 := by rintro rfl; rw [hlp.2.2.1] at hl; cases hl
          have n4 : i ≠ 4 := by rintro rfl; rw [hlp.2.2.2.1] at hl; cases hl
          have n7 : i ≠ 7 := by rintro rfl; rw [hlp.2.2.2.2] at hl; cases hl
          omega
        rcases hi with rfl | rfl | rfl | rfl | rfl | rfl | rfl | rfl
        · cases ho
          refine ⟨rfl, ?_⟩
          have h6 : l 6 = false := by cases h : l 6 with | false => rfl | true => rw [k6_1 h] at hl; cases hl
          have h9 : l 9 = false := by cases h : l 9 with | false => rfl | true => rw [k9_6 h] at h6; cases h6
          have h12 : l 12 = false := by cases h : l 12 with | false => rfl | true => rw [k12_9 h] at h9; cases h9
          obtain rfl : MA = [] := by rcases mA with ⟨_, h⟩ | ⟨h, _⟩ | ⟨h, _⟩ | ⟨h, _⟩ <;> first | exact h | (exfalso; simp_all; done)
          refine Oper.wp_mono (K := fun a2 w2 => a2 = (((((((a0.put (some 23) v1).put (some 27) v5).put (some 28) v6).put (some 30) v8).put (some 31) v9).put (some 32) v10).put (some 33) v11).put (some 23) (.slice (some ⟨wx.heap.size, 0, none⟩) 0 0) ∧ w2 = wx.alloc (.cells #[] 48)) ?_ ?_
          · rintro a2 w2 ⟨rfl, rfl⟩
            have S2 := S.rowLaid 48 3 0 [] rfl (by unfold maxLen; omega)
            have S3 : Sp w0 F0 (wx.alloc (.cells #[] 48)) (MB ++ ([rowR 48 3 (.slice (some ⟨wx.heap.size, 0, none⟩) 0 0) 0 []] ++ (boxR p CX 84 :: boxR q #[.string ⟨x.toArray⟩, .int .u64 sn, .int .u64 so] 48 :: romR K :: rkR d D2 :: L))) := by
              rcases mB with ⟨_, g, _, rfl⟩ | ⟨_, rfl⟩
              · exact S2.pull1
              · exact S2
            exact ⟨((Sp.pick [_, _] [1] (by decide) ((Sp.drops [_] (Sp.drops MB S3))))).cell, ⟨⟨flag_up (hlp.1), flag_up (hlp.2.1), flag_up (hlp.2.2.1), flag_up (hlp.2.2.2.1), flag_up (hlp.2.2.2.2)⟩, _, v5, v6, v8, v9, v10, v11, CX, [_], MB, (by rw [put_turn _ 33 23 _ _ (by decide), put_turn _ 32 23 _ _ (by decide), put_turn _ 31 23 _ _ (by decide), put_turn _ 30 23 _ _ (by decide), put_turn _ 28 23 _ _ (by decide), put_turn _ 27 23 _ _ (by decide), put_over]), (fun h => by rw [flag_dn (x := 6) rfl h] at h6; cases h6), (fun h => flag_up (k6_5 (flag_dn rfl h))), (fun h => flag_up (k9_6 (flag_dn rfl h))), (fun h => flag_up (k9_8 (flag_dn rfl h))), (fun h => flag_up (k12_9 (flag_dn rfl h))), (fun h => flag_up (k10_9 (flag_dn rfl h))), (fun h => flag_up (k11_10 (flag_dn rfl h))), (fun h => d5 (flag_dn rfl h)), (fun h => d10 (flag_dn rfl h)), (fun h => d11 (flag_dn rfl h)), .inr (.inl ⟨by simp, by simp [h6], rfl⟩), flag_or rfl mB, flag_or rfl mC, S3⟩⟩
          · generalize (((((((a0.put (some 23) v1).put (some 27) v5).put (some 28) v6).put (some 30) v8).put (some 31) v9).put (some 32) v10).put (some 33) v11) = a1 at *
            go_simp
        · cases ho
          refine ⟨rfl, ?_⟩
          have h6 : l 6 = false := by cases h : l 6 with | false => rfl | true => rw [k6_5 h] at hl; cases hl
          have h9 : l 9 = false := by cases h : l 9 with | false => rfl | true => rw [k9_6 h] at h6; cases h6
          have h12 : l 12 = false := by cases h : l 12 with | false => rfl | true => rw [k12_9 h] at h9; cases h9
          obtain rfl : CX = #[.pointer (some ⟨d, 0, none⟩), .slice la rs.length lc] := by rcases mC with ⟨h, _⟩ | ⟨_, h⟩; rw [h12] at h; cases h; exact h
          have cc := (Sp.drops MA (Sp.drops MB S)).cell 1
          refine Oper.wp_mono (K := fun a2 w2 => a2 = (((((((a0.put (some 23) v1).put (some 27) v5).put (some 28) v6).put (some 30) v8).put (some 31) v9).put (some 32) v10).put (some 33) v11).put (some 27) (.slice la rs.length lc) ∧ w2 = wx) ?_ ?_
          · rintro a2 w2 ⟨rfl, rfl⟩
            exact ⟨((Sp.pick [_, _] [1] (by decide) ((Sp.drops MA (Sp.drops MB S))))).cell, ⟨⟨flag_up (hlp.1), flag_up (hlp.2.1), flag_up (hlp.2.2.1), flag_up (hlp.2.2.2.1), flag_up (hlp.2.2.2.2)⟩, v1, _, v6, v8, v9, v10, v11, _, MA, MB, (by rw [put_turn _ 33 27 _ _ (by decide), put_turn _ 32 27 _ _ (by decide), put_turn _ 31 27 _ _ (by decide), put_turn _ 30 27 _ _ (by decide), put_turn _ 28 27 _ _ (by decide), put_over]), (fun h => flag_up (k6_1 (flag_dn rfl h))), (fun h => by rw [flag_dn (x := 6) rfl h] at h6; cases h6), (fun h => flag_up (k9_6 (flag_dn rfl h))), (fun h => flag_up (k9_8 (flag_dn rfl h))), (fun h => flag_up (k12_9 (flag_dn rfl h))), (fun h => flag_up (k10_9 (flag_dn rfl h))), (fun h => flag_up (k11_10 (flag_dn rfl h))), (fun _ => rfl), (fun h => d10 (flag_dn rfl h)), (fun h => d11 (flag_dn rfl h)), flag_rows rfl rfl rfl mA, flag_or rfl mB, flag_or rfl mC, S⟩⟩
          · have es : (((((((a0.put (some 23) v1).put (some 27) v5).put (some 28) v6).put (some 30) v8).put (some 31) v9).put (some 32) v10).put (some 33) v11).eval (.tmp 26) = .pointer (some ⟨p, 1, none⟩) := by rw [evalP_ne _ 33 26 _ (by decide), evalP_ne _ 32 26 _ (by decide), evalP_ne _ 31 26 _ (by decide), evalP_ne _ 30 26 _ (by decide), evalP_ne _ 28 26 _ (by decide), evalP_ne _ 27 26 _ (by decide), evalP_ne _ 23 26 _ (by decide), e4]
            generalize (((((((a0.put (some 23) v1).put (some 27) v5).put (some 28) v6).put (some 30) v8).put (some 31) v9).put (some 32) v10).put (some 33) v11) = a1 at *
            have es2 : a1.tmps[26]?.getD undef = .pointer (some ⟨p, 1, none⟩) := by rw [← Array.getD_eq_getD_getElem?]; exact es
            have cc2 : wx.cell? ⟨p, 1, none⟩ = some (.slice la rs.length lc) := cc
            clear cc S mA mB mC k6_1 k6_5 k9_6 k9_8 k12_9 k10_9 k11_10 d5 d10 d11 hpre hlp es
            go_simp
        · obtain ⟨hop, hdn, hg⟩ : o.op = .call { callee := .builtin .append, args := #[.tmp 23, .tmp 27], argTypes := #[80, 80] } ∧ o.dst = some 28 ∧ o.type = 80 := by cases ho; exact ⟨by kernel_rfl, by kernel_rfl, by kernel_rfl⟩
          refine ⟨by cases ho; rfl, ?_⟩
          have h1 : l 1 = true := by cases ho; exact hpre ⟨1, .data⟩ (by simp) rfl
          have h5 : l 5 = true := by cases ho; exact hpre ⟨5, .data⟩ (by simp) rfl
          clear hpre ho
          have h9 : l 9 = false := by cases h : l 9 with | false => rfl | true => rw [k9_6 h] at hl; cases hl
          have h12 : l 12 = false := by cases h : l 12 with | false => rfl | true => rw [k12_9 h] at h9; cases h9
          have dd := d5 h5
          subst dd
          obtain rfl : MA = [rowR 48 3 v1 0 []] := by
            rcases mA with ⟨h, _⟩ | ⟨_, _, h⟩ | ⟨h, _⟩ | ⟨h, _⟩
            · rw [h1] at h; cases h
            · exact h
            · rw [hl] at h; cases h
            · rw [h9] at h; cases h
          obtain ⟨u6, w6, hr, S6⟩ : ∃ u w2, (Builtin.append_ #[80, 80] 80 #[v1, (.slice la rs.length lc)]).run Tryz.prog wx = .ok u w2 ∧ Sp w0 F0 w2 (MB ++ ([rowR 48 3 u (0 + (rs.map rwVals).length) ([] ++ (rs.map rwVals).flatten)] ++ (boxR p CX 84 :: boxR q #[.string ⟨x.toArray⟩, .int .u64 sn, .int .u64 so] 48 :: romR K :: rkR d D2 :: L))) := by
            rcases mB with ⟨_, g, _, rfl⟩ | ⟨_, rfl⟩
            · obtain ⟨u, w2, h1, S2⟩ := Sp.appendRom 80 80 _ 32 infoRow14 rfl Tryz.underlying80 (by decide) (by decide) HQ.out HL7.out HR1.out (by have := HRN2.out; omega) ((Sp.pick [_, _, _, _, _] [1, 4, 0, 2, 3] (by decide) (S)))
              exact ⟨u, w2, h1, (Sp.pick [_, _, _, _, _] [2, 0, 3, 4, 1] (by decide) (S2))⟩
            · obtain ⟨u, w2, h1, S2⟩ := Sp.appendRom 80 80 _ 32 infoRow14 rfl Tryz.underlying80 (by decide) (by decide) HQ.out HL7.out HR1.out (by have := HRN2.out; omega) ((Sp.pick [_, _, _, _] [0, 3, 1, 2] (by decide) (S)))
              exact ⟨u, w2, h1, (Sp.pick [_, _, _, _] [0, 2, 3, 1] (by decide) (S2))⟩
          refine Oper.wp_mono (K := fun a2 w2 => a2 = (((((((a0.put (some 23) v1).put (some 27) (.slice la rs.length lc)).put (some 28) v6).put (some 30) v8).put (some 31) v9).put (some 32) v10).put (some 33) v11).put (some 28) u6 ∧ w2 = w6) ?_ ?_
          · rintro a2 w2 ⟨rfl, rfl⟩
            exact ⟨((Sp.pick [_, _] [1] (by decide) ((Sp.drops [_] (Sp.drops MB S6))))).cell, ⟨⟨flag_up (hlp.1), flag_up (hlp.2.1), flag_up (hlp.2.2.1), flag_up (hlp.2.2.2.1), flag_up (hlp.2.2.2.2)⟩, v1, _, _, v8, v9, v10, v11, CX, [_], MB, (by rw [put_turn _ 33 28 _ _ (by decide), put_turn _ 32 28 _ _ (by decide), put_turn _ 31 28 _ _ (by decide), put_turn _ 30 28 _ _ (by decide), put_over]), (fun _ => flag_up h1), (fun _ => flag_up h5), (fun h => by rw [flag_dn (x := 9) rfl h] at h9; cases h9), (fun h => flag_up (k9_8 (flag_dn rfl h))), (fun h => flag_up (k12_9 (flag_dn rfl h))), (fun h => flag_up (k10_9 (flag_dn rfl h))), (fun h => flag_up (k11_10 (flag_dn rfl h))), (fun _ => rfl), (fun h => d10 (flag_dn rfl h)), (fun h => d11 (flag_dn rfl h)), .inr (.inr (.inl ⟨by simp, by simp [h9], rfl⟩)), flag_or rfl mB, flag_or rfl mC, S6⟩⟩
          · refine oper_append_run hop (by rw [evalP_ne _ 33 23 _ (by decide), evalP_ne _ 32 23 _ (by decide), evalP_ne _ 31 23 _ (by decide), evalP_ne _ 30 23 _ (by decide), evalP_ne _ 28 23 _ (by decide), evalP_ne _ 27 23 _ (by decide), evalP_same _ 23 _ (by (try simp only [sizeP]); rw [hsz]; decide)]) (by rw [evalP_ne _ 33 27 _ (by decide), evalP_ne _ 32 27 _ (by decide), evalP_ne _ 31 27 _ (by decide), evalP_ne _ 30 27 _ (by decide), evalP_ne _ 28 27 _ (by decide), evalP_same _ 27 _ (by (try simp only [sizeP]); rw [hsz]; decide)]) (by rw [hg]; exact hr) ?_
            rw [hdn]
            exact ⟨rfl, rfl⟩
        · cases ho
          refine ⟨rfl, ?_⟩
          have h9 : l 9 = false := by cases h : l 9 with | false => rfl | true => rw [k9_8 h] at hl; cases hl
          have h12 : l 12 = false := by cases h : l 12 with | false => rfl | true => rw [k12_9 h] at h9; cases h9
          obtain rfl : MB = [] := by rcases mB with ⟨h, _⟩ | ⟨_, h⟩; rw [hl] at h; cases h; exact h
          have S3 := S.box #[.string ⟨x.toArray⟩, .int .u64 sn, .int .u64 so] 48
          refine Oper.wp_mono (K := fun a2 w2 => a2 = (((((((a0.put (some 23) v1).put (some 27) v5).put (some 28) v6).put (some 30) v8).put (some 31) v9).put (some 32) v10).put (some 33) v11).put (some 30) (.slice (some ⟨wx.heap.size, 0, none⟩) 1 1) ∧ w2 = wx.alloc (.cells #[.string ⟨x.toArray⟩, .int .u64 sn, .int .u64 so] 48)) ?_ ?_
          · rintro a2 w2 ⟨rfl, rfl⟩
            exact ⟨((Sp.pick [_, _] [1] (by decide) ((Sp.drops MA (Sp.drops [_] S3))))).cell, ⟨⟨flag_up (hlp.1), flag_up (hlp.2.1), flag_up (hlp.2.2.1), flag_up (hlp.2.2.2.1), flag_up (hlp.2.2.2.2)⟩, v1, v5, v6, _, v9, v10, v11, CX, MA, [_], (by rw [put_turn _ 33 30 _ _ (by decide), put_turn _ 32 30 _ _ (by decide), put_turn _ 31 30 _ _ (by decide), put_over]), (fun h => flag_up (k6_1 (flag_dn rfl h))), (fun h => flag_up (k6_5 (flag_dn rfl h))), (fun h => flag_up (k9_6 (flag_dn rfl h))), (fun h => by rw [flag_dn (x := 9) rfl h] at h9; cases h9), (fun h => flag_up (k12_9 (flag_dn rfl h))), (fun h => flag_up (k10_9 (flag_dn rfl h))), (fun h => flag_up (k11_10 (flag_dn rfl h))), (fun h => d5 (flag_dn rfl h)), (fun h => d10 (flag_dn rfl h)), (fun h => d11 (flag_dn rfl h)), flag_rows rfl rfl rfl mA, .inl ⟨by simp, _, rfl, rfl⟩, flag_or rfl mC, S3⟩⟩
          · have es : (((((((a0.put (some 23) v1).put (some 27) v5).put (some 28) v6).put (some 30) v8).put (some 31) v9).put (some 32) v10).put (some 33) v11).eval (.tmp 29) = .agg #[.string ⟨x.toArray⟩, .int .u64 sn, .int .u64 so] := by rw [evalP_ne _ 33 29 _ (by decide), evalP_ne _ 32 29 _ (by decide), evalP_ne _ 31 29 _ (by decide), evalP_ne _ 30 29 _ (by decide), evalP_ne _ 28 29 _ (by decide), evalP_ne _ 27 29 _ (by decide), evalP_ne _ 23 29 _ (by decide), e7]
            generalize (((((((a0.put (some 23) v1).put (some 27) v5).put (some 28) v6).put (some 30) v8).put (some 31) v9).put (some 32) v10).put (some 33) v11) = a1 at *
            have es2 : a1.tmps[29]?.getD undef = .agg #[.string ⟨x.toArray⟩, .int .u64 sn, .int .u64 so] := by rw [← Array.getD_eq_getD_getElem?]; exact es
            clear S3 S mA mB mC k6_1 k6_5 k9_6 k9_8 k12_9 k10_9 k11_10 d5 d10 d11 hpre hlp es
            go_simp
        · obtain ⟨hop, hdn, hg⟩ : o.op = .call { callee := .builtin .append, args := #[.tmp 28, .tmp 30], argTypes := #[80, 80] } ∧ o.dst = some 31 ∧ o.type = 80 := by cases ho; exact ⟨by kernel_rfl, by kernel_rfl, by kernel_rfl⟩
          refine ⟨by cases ho; rfl, ?_⟩
          have h6 : l 6 = true := by cases ho; exact hpre ⟨6, .data⟩ (by simp) rfl
          have h8 : l 8 = true := by cases ho; exact hpre ⟨8, .data⟩ (by simp) rfl
          clear hpre ho
          have h12 : l 12 = false := by cases h : l 12 with | false => rfl | true => rw [k12_9 h] at hl; cases hl
          obtain rfl : MA = [rowR 48 3 v6 (0 + (rs.map rwVals).length) ([] ++ (rs.map rwVals).flatten)] := by rcases mA with ⟨h, _⟩ | ⟨_, h, _⟩ | ⟨_, _, h⟩ | ⟨h, _⟩ <;> first | exact h | (exfalso; have := k6_1 h6; simp_all; done)
          rcases mB with ⟨_, g, rfl, rfl⟩ | ⟨h, _⟩
          · obtain ⟨g9, cap9, w9, hr, S9⟩ := Sp.appendOne 80 80 #[.string ⟨x.toArray⟩, .int .u64 sn, .int .u64 so] _ 32 infoRow14 rfl Tryz.underlying80 (by decide) (by decide) rfl (by simp [Value.oneCell']) (by have := HRN2.out; omega) S
            refine Oper.wp_mono (K := fun a2 w2 => a2 = (((((((a0.put (some 23) v1).put (some 27) v5).put (some 28) v6).put (some 30) (.slice (some ⟨g, 0, none⟩) 1 1)).put (some 31) v9).put (some 32) v10).put (some 33) v11).put (some 31) (.slice (some ⟨g9, 0, none⟩) (0 + (rs.map rwVals).length + 1) cap9) ∧ w2 = w9) ?_ ?_
            · rintro a2 w2 ⟨rfl, rfl⟩
              exact ⟨((Sp.pick [_, _] [1] (by decide) ((Sp.drops [_] (Sp.drops [_] S9))))).cell, ⟨⟨flag_up (hlp.1), flag_up (hlp.2.1), flag_up (hlp.2.2.1), flag_up (hlp.2.2.2.1), flag_up (hlp.2.2.2.2)⟩, v1, v5, v6, _, _, v10, v11, CX, [_], [_], (by rw [put_turn _ 33 31 _ _ (by decide), put_turn _ 32 31 _ _ (by decide), put_over]), (fun h => flag_up (k6_1 (flag_dn rfl h))), (fun h => flag_up (k6_5 (flag_dn rfl h))), (fun _ => flag_up h6), (fun _ => flag_up h8), (fun h => by rw [flag_dn (x := 12) rfl h] at h12; cases h12), (fun h => flag_up (k10_9 (flag_dn rfl h))), (fun h => flag_up (k11_10 (flag_dn rfl h))), (fun h => d5 (flag_dn rfl h)), (fun h => d10 (flag_dn rfl h)), (fun h => d11 (flag_dn rfl h)), .inr (.inr (.inr ⟨by simp, ⟨_, _, rfl⟩, rfl⟩)), .inl ⟨flag_up h8, _, rfl, rfl⟩, (by rcases mC with ⟨h, _⟩ | ⟨_, h⟩; rw [h12] at h; cases h; exact .inr ⟨by simp [h12], h⟩), S9⟩⟩
            · refine oper_append_run hop (by rw [evalP_ne _ 33 28 _ (by decide), evalP_ne _ 32 28 _ (by decide), evalP_ne _ 31 28 _ (by decide), evalP_ne _ 30 28 _ (by decide), evalP_same _ 28 _ (by (try simp only [sizeP]); rw [hsz]; decide)]) (by rw [evalP_ne _ 33 30 _ (by decide), evalP_ne _ 32 30 _ (by decide), evalP_ne _ 31 30 _ (by decide), evalP_same _ 30 _ (by (try simp only [sizeP]); rw [hsz]; decide)]) (by rw [hg]; exact hr) ?_
              rw [hdn]
              exact ⟨rfl, rfl⟩
          · rw [h8] at h; cases h
        · cases ho
          refine ⟨rfl, ?_⟩
          have h9 : l 9 = true := hpre ⟨9, .phase⟩ (by simp) rfl
          refine Oper.wp_mono (K := fun a2 w2 => a2 = (((((((a0.put (some 23) v1).put (some 27) v5).put (some 28) v6).put (some 30) v8).put (some 31) v9).put (some 32) v10).put (some 33) v11).put (some 32) (.pointer (some ⟨p, 0, none⟩)) ∧ w2 = wx) ?_ ?_
          · rintro a2 w2 ⟨rfl, rfl⟩
            exact ⟨((Sp.pick [_, _] [1] (by decide) ((Sp.drops MA (Sp.drops MB S))))).cell, ⟨⟨flag_up (hlp.1), flag_up (hlp.2.1), flag_up (hlp.2.2.1), flag_up (hlp.2.2.2.1), flag_up (hlp.2.2.2.2)⟩, v1, v5, v6, v8, v9, _, v11, CX, MA, MB, (by rw [put_turn _ 33 32 _ _ (by decide), put_over]), (fun h => flag_up (k6_1 (flag_dn rfl h))), (fun h => flag_up (k6_5 (flag_dn rfl h))), (fun h => flag_up (k9_6 (flag_dn rfl h))), (fun h => flag_up (k9_8 (flag_dn rfl h))), (fun h => flag_up (k12_9 (flag_dn rfl h))), (fun _ => flag_up h9), (fun h => flag_up (k11_10 (flag_dn rfl h))), (fun h => d5 (flag_dn rfl h)), (fun _ => rfl), (fun h => d11 (flag_dn rfl h)), flag_rows rfl rfl rfl mA, flag_or rfl mB, flag_or rfl mC, S⟩⟩
          · have es : (((((((a0.put (some 23) v1).put (some 27) v5).put (some 28) v6).put (some 30) v8).put (some 31) v9).put (some 32) v10).put (some 33) v11).eval (.tmp 22) = .pointer (some ⟨p, 0, none⟩) := by rw [evalP_ne _ 33 22 _ (by decide), evalP_ne _ 32 22 _ (by decide), evalP_ne _ 31 22 _ (by decide), evalP_ne _ 30 22 _ (by decide), evalP_ne _ 28 22 _ (by decide), evalP_ne _ 27 22 _ (by decide), evalP_ne _ 23 22 _ (by decide), e0]
            generalize (((((((a0.put (some 23) v1).put (some 27) v5).put (some 28) v6).put (some 30) v8).put (some 31) v9).put (some 32) v10).put (some 33) v11) = a1 at *
            have es2 : a1.tmps[22]?.getD undef = .pointer (some ⟨p, 0, none⟩) := by rw [← Array.getD_eq_getD_getElem?]; exact es
            clear S mA mB mC k6_1 k6_5 k9_6 k9_8 k12_9 k10_9 k11_10 d5 d11 hpre hlp es
            go_simp
        · cases ho
          refine ⟨rfl, ?_⟩
          have h10 : l 10 = true := hpre ⟨10, .data⟩ (by simp) rfl
          have dd := d10 h10
          subst dd
          refine Oper.wp_mono (K := fun a2 w2 => a2 = (((((((a0.put (some 23) v1).put (some 27) v5).put (some 28) v6).put (some 30) v8).put (some 31) v9).put (some 32) (.pointer (some ⟨p, 0, none⟩))).put (some 33) v11).put (some 33) (.pointer (some ⟨p, 1, none⟩)) ∧ w2 = wx) ?_ ?_
          · rintro a2 w2 ⟨rfl, rfl⟩
            exact ⟨((Sp.pick [_, _] [1] (by decide) ((Sp.drops MA (Sp.drops MB S))))).cell, ⟨⟨flag_up (hlp.1), flag_up (hlp.2.1), flag_up (hlp.2.2.1), flag_up (hlp.2.2.2.1), flag_up (hlp.2.2.2.2)⟩, v1, v5, v6, v8, v9, _, _, CX, MA, MB, (by rw [put_over]), (fun h => flag_up (k6_1 (flag_dn rfl h))), (fun h => flag_up (k6_5 (flag_dn rfl h))), (fun h => flag_up (k9_6 (flag_dn rfl h))), (fun h => flag_up (k9_8 (flag_dn rfl h))), (fun h => flag_up (k12_9 (flag_dn rfl h))), (fun h => flag_up (k10_9 (flag_dn rfl h))), (fun _ => flag_up h10), (fun h => d5 (flag_dn rfl h)), (fun _ => rfl), (fun _ => rfl), flag_rows rfl rfl rfl mA, flag_or rfl mB, flag_or rfl mC, S⟩⟩
          · have es : (((((((a0.put (some 23) v1).put (some 27) v5).put (some 28) v6).put (some 30) v8).put (some 31) v9).put (some 32) (.pointer (some ⟨p, 0, none⟩))).put (some 33) v11).eval (.tmp 32) = .pointer (some ⟨p, 0, none⟩) := by rw [evalP_ne _ 33 32 _ (by decide), evalP_same _ 32 _ (by (try simp only [sizeP]); rw [hsz]; decide)]
            generalize (((((((a0.put (some 23) v1).put (some 27) v5).put (some 28) v6).put (some 30) v8).put (some 31) v9).put (some 32) (.pointer (some ⟨p, 0, none⟩))).put (some 33) v11) = a1 at *
            have es2 : a1.tmps[32]?.getD undef = .pointer (some ⟨p, 0, none⟩) := by rw [← Array.getD_eq_getD_getElem?]; exact es
            clear S mA mB mC k6_1 k6_5 k9_6 k9_8 k12_9 k10_9 k11_10 d5 d11 hpre hlp es
            go_simp
        · obtain ⟨hop, hdn⟩ : o.op = .store 80 (.tmp 33) (.tmp 31) ∧ o.dst = none := by cases ho; exact ⟨by kernel_rfl, by kernel_rfl⟩
          refine ⟨by cases ho; rfl, ?_⟩
          have h9 : l 9 = true := by cases ho; exact hpre ⟨9, .data⟩ (by simp) rfl
          have h11 : l 11 = true := by cases ho; exact hpre ⟨11, .data⟩ (by simp) rfl
          clear hpre ho
          have dd := d11 h11
          subst dd
          obtain rfl : CX = #[.pointer (some ⟨d, 0, none⟩), .slice la rs.length lc] := by rcases mC with ⟨h, _⟩ | ⟨_, h⟩; rw [hl] at h; cases h; exact h
          rcases mB with ⟨_, g8, rfl, rfl⟩ | ⟨h, _⟩
          · obtain ⟨⟨g, cap, rfl⟩, rfl⟩ : (∃ g cap, v9 = .slice (some ⟨g, 0, none⟩) (0 + (rs.map rwVals).length + 1) cap) ∧ MA = [rowR 48 3 v9 (0 + (rs.map rwVals).length + 1) ([] ++ (rs.map rwVals).flatten ++ (#[.string ⟨x.toArray⟩, .int .u64 sn, .int .u64 so] : Array Value).toList)] := by
              rcases mA with ⟨h, _⟩ | ⟨_, h, _⟩ | ⟨_, h, _⟩ | ⟨_, h⟩
              · have := k6_1 (k9_6 h9); rw [h] at this; cases this
              · have := k9_6 h9; rw [h] at this; cases this
              · rw [h] at h9; cases h9
              · exact h
            have S2 := S.pull2
            have S3 := (S2.set (o := 1) (.slice (some ⟨g, 0, none⟩) (0 + (rs.map rwVals).length + 1) cap)).push2
            refine Oper.wp_mono (K := fun a2 w2 => a2 = (((((((a0.put (some 23) v1).put (some 27) v5).put (some 28) v6).put (some 30) (.slice (some ⟨g8, 0, none⟩) 1 1)).put (some 31) (.slice (some ⟨g, 0, none⟩) (0 + (rs.map rwVals).length + 1) cap)).put (some 32) v10).put (some 33) (.pointer (some ⟨p, 1, none⟩))) ∧ w2 = wx.setCell ⟨p, 1, none⟩ (.slice (some ⟨g, 0, none⟩) (0 + (rs.map rwVals).length + 1) cap)) ?_ ?_
            · rintro a2 w2 ⟨rfl, rfl⟩
              exact ⟨((Sp.pick [_, _] [1] (by decide) ((Sp.drops [_] (Sp.drops [_] S3))))).cell, ⟨⟨flag_up (hlp.1), flag_up (hlp.2.1), flag_up (hlp.2.2.1), flag_up (hlp.2.2.2.1), flag_up (hlp.2.2.2.2)⟩, v1, v5, v6, _, _, v10, _, _, [_], [_], (rfl), (fun h => flag_up (k6_1 (flag_dn rfl h))), (fun h => flag_up (k6_5 (flag_dn rfl h))), (fun h => flag_up (k9_6 (flag_dn rfl h))), (fun h => flag_up (k9_8 (flag_dn rfl h))), (fun _ => flag_up h9), (fun h => flag_up (k10_9 (flag_dn rfl h))), (fun h => flag_up (k11_10 (flag_dn rfl h))), (fun h => d5 (flag_dn rfl h)), (fun h => d10 (flag_dn rfl h)), (fun _ => rfl), .inr (.inr (.inr ⟨flag_up h9, ⟨_, _, rfl⟩, rfl⟩)), .inl ⟨flag_up (k9_8 h9), _, rfl, rfl⟩, .inl ⟨by simp, rfl⟩, S3⟩⟩
            · have es : (((((((a0.put (some 23) v1).put (some 27) v5).put (some 28) v6).put (some 30) (.slice (some ⟨g8, 0, none⟩) 1 1)).put (some 31) (.slice (some ⟨g, 0, none⟩) (0 + (rs.map rwVals).length + 1) cap)).put (some 32) v10).put (some 33) (.pointer (some ⟨p, 1, none⟩))).eval (.tmp 33) = .pointer (some ⟨p, 1, none⟩) := by rw [evalP_same _ 33 _ (by (try simp only [sizeP]); rw [hsz]; decide)]
              have er : (((((((a0.put (some 23) v1).put (some 27) v5).put (some 28) v6).put (some 30) (.slice (some ⟨g8, 0, none⟩) 1 1)).put (some 31) (.slice (some ⟨g, 0, none⟩) (0 + (rs.map rwVals).length + 1) cap)).put (some 32) v10).put (some 33) (.pointer (some ⟨p, 1, none⟩))).eval (.tmp 31) = (.slice (some ⟨g, 0, none⟩) (0 + (rs.map rwVals).length + 1) cap) := by rw [evalP_ne _ 33 31 _ (by decide), evalP_ne _ 32 31 _ (by decide), evalP_same _ 31 _ (by (try simp only [sizeP]); rw [hsz]; decide)]
              generalize (((((((a0.put (some 23) v1).put (some 27) v5).put (some 28) v6).put (some 30) (.slice (some ⟨g8, 0, none⟩) 1 1)).put (some 31) (.slice (some ⟨g, 0, none⟩) (0 + (rs.map rwVals).length + 1) cap)).put (some 32) v10).put (some 33) (.pointer (some ⟨p, 1, none⟩))) = a1 at *
              have es2 : a1.tmps[33]?.getD undef = .pointer (some ⟨p, 1, none⟩) := by rw [← Array.getD_eq_getD_getElem?]; exact es
              have er2 : a1.tmps[31]?.getD undef = (.slice (some ⟨g, 0, none⟩) (0 + (rs.map rwVals).length + 1) cap) := by rw [← Array.getD_eq_getD_getElem?]; exact er
              have cc := S2.cell
              have ff := S2.free
              clear S3 S2 S mA mC k6_1 k6_5 k9_6 k9_8 k12_9 k10_9 k11_10 d5 d10 d11 hlp es er
              obtain ⟨oop, ogd, odst, oty, oaf, opos⟩ := o
              dsimp only at hop hdn
              subst hop
              subst hdn
              go_simp
          · have := k9_8 h9; rw [h] at this; cases this
      · rintro l a wx hl ⟨hlp, v1, v5, v6, v8, v9, v10, v11, CX, MA, MB, rfl, k6_1, k6_5, k9_6, k9_8, k12_9, k10_9, k11_10, d5, d10, d11, mA, mB, mC, S⟩
        have h8 := hl 8 (by decide)
        have h9 := hl 9 (by decide)
        have h10 := hl 10 (by decide)
        have h11 := hl 11 (by decide)
        have h12 := hl 12 (by decide)
        have dd := d10 h10
        subst dd
        have dd := d11 h11
        subst dd
        rcases mB with ⟨_, g8, rfl, rfl⟩ | ⟨h, _⟩
        · obtain ⟨⟨g, cap, rfl⟩, rfl⟩ : (∃ g cap, v9 = .slice (some ⟨g, 0, none⟩) (0 + (rs.map rwVals).length + 1) cap) ∧ MA = [rowR 48 3 v9 (0 + (rs.map rwVals).length + 1) ([] ++ (rs.map rwVals).flatten ++ (#[.string ⟨x.toArray⟩, .int .u64 sn, .int .u64 so] : Array Value).toList)] := by
            rcases mA with ⟨h, _⟩ | ⟨_, h, _⟩ | ⟨_, h, _⟩ | ⟨_, h⟩
            · have := k6_1 (k9_6 h9); rw [h] at this; cases this
            · have := k9_6 h9; rw [h] at this; cases this
            · rw [h] at h9; cases h9
            · exact h
          obtain rfl : CX = _ := by rcases mC with ⟨_, h⟩ | ⟨h, _⟩; exact h; rw [h12] at h; cases h
          have SE : Sp w0 F0 wx (rowR 48 3 (.slice (some ⟨g, 0, none⟩) (0 + (rs.map rwVals).length + 1) cap) (0 + (rs.map rwVals).length + 1) ([] ++ (rs.map rwVals).flatten ++ (#[.string ⟨x.toArray⟩, .int .u64 sn, .int .u64 so] : Array Value).toList) :: boxR p (((#[.pointer (some ⟨d, 0, none⟩), .slice la rs.length lc] : Array Value).setIfInBounds 1 (.slice (some ⟨g, 0, none⟩) (0 + (rs.map rwVals).length + 1) cap))) 84 :: boxR q #[.string ⟨x.toArray⟩, .int .u64 sn, .int .u64 so] 48 :: romR K :: rkR d D2 :: L) := S.drop
          have HSE := Lib.hid SE
          clear S SE mA mC k6_1 k6_5 k9_6 k9_8 k12_9 k10_9 k11_10 d5 d10 d11 hlp hl h8 h9 h12
          rw [← hA]
          clear e4 e7 e0 hsz hA
          simp only [Act.put, List.setIfInBounds_toArray, List.set_cons_zero, List.set_cons_succ]
          have S3 := rw_more ((Sp.pick [_, _, _, _] [0, 3, 1, 2] (by decide) (HSE.out)))
          simp only [List.setIfInBounds_toArray, List.set_cons_zero, List.set_cons_succ] at S3
          have HS5 := Lib.hid S3
          clear S3 HSE hS0
          go_wp2
          go_ret
          rw [HV3.out]
          exact ⟨rfl, Sp.rgShut List.mem_cons_self ((Sp.pick [_, _, _] [1, 0] (by decide) (HS5.out)))⟩
        · rw [h8] at h; cases h
      · refine ⟨⟨by rfl, by rfl, by rfl, by rfl, by rfl⟩, a0.tmps.getD 23 undef, a0.tmps.getD 27 undef, a0.tmps.getD 28 undef, a0.tmps.getD 30 undef, a0.tmps.getD 31 undef, a0.tmps.getD 32 undef, a0.tmps.getD 33 undef, _, [], [], ?_, (fun h => by cases h), (fun h => by cases h), (fun h => by cases h), (fun h => by cases h), (fun h => by cases h), (fun h => by cases h), (fun h => by cases h), (fun h => by cases h), (fun h => by cases h), (fun h => by cases h), .inl ⟨rfl, rfl⟩, .inr ⟨rfl, rfl⟩, .inr ⟨rfl, rfl⟩, HS3.out.drew⟩
        rw [put_back a0 23 (by rw [hsz]; decide), put_back a0 27 (by rw [hsz]; decide), put_back a0 28 (by rw [hsz]; decide), put_back a0 30 (by rw [hsz]; decide), put_back a0 31 (by rw [hsz]; decide), put_back a0 32 (by rw [hsz]; decide), put_back a0 33 (by rw [hsz]; decide)]
    · have HV3 := Lib.hid (HV2.out.trans (if_pos h2))
      have h2' : (e2 == 0) = false := by simpa using h2
      clear HV2
      go_wp2
      go_ret
      rw [HV3.out]
      exact ⟨rfl, Sp.rgShut HQ.out ((Sp.pick [_, _, _] [0, 2] (by decide) (HS3.out)))⟩
  · have HV2 := Lib.hid (HV.out.trans (if_pos h1))
    have h1' : (e1 == 0) = false := by simpa using h1
    clear HV
    go_wp2
    go_ret
    rw [HV2.out]
    exact ⟨rfl, Sp.rgShut HQ.out ((Sp.pick [_, _, _] [0, 2] (by decide) (HS2.out)))⟩
end
end Go.Proofs.YtpkolkgndhagiaaGreat

/-! R14f -/
/-! R14f -/
namespace Go.Proofs.YtpkolkgndhagiaaGreat
open Go.RowKit Go.Maps

def rgBegin (D : Dk) (rs : List RRow) (x : Bs) : Dk × List RRow × Nat × Int :=
  if 255 < x.length then (D, rs, 0, 5)
  else if (st rs x).old ≠ 0 then (D, rs, 0, 11)
  else if (st rs x).now = 1000000 then (D, rs, 0, 21)
  else if (rgSet D rs x ⟨(st rs x).now + 1, (st rs x).now⟩).2.2 ≠ 0 then ((rgSet D rs x ⟨(st rs x).now + 1, (st rs x).now⟩).1, (rgSet D rs x ⟨(st rs x).now + 1, (st rs x).now⟩).2.1, 0, (rgSet D rs x ⟨(st rs x).now + 1, (st rs x).now⟩).2.2)
  else ((rgSet D rs x ⟨(st rs x).now + 1, (st rs x).now⟩).1, (rgSet D rs x ⟨(st rs x).now + 1, (st rs x).now⟩).2.1, (st rs x).now + 1, 0)
def rgEnd (D : Dk) (rs : List RRow) (x : Bs) : Dk × List RRow × Int :=
  if 255 < x.length then (D, rs, 5)
  else if (st rs x).old = 0 then (D, rs, 10)
  else rgSet D rs x ⟨(st rs x).now, 0⟩
def rgOpen (D : Dk) : Dk × Option (List RRow) × Int :=
  if D.now.has ringB = true ∧ ringRest (ringFile D) = [] then (D, some (ringRows (ringFile D)), 0)
  else if (D.write ringB ((ringFile D).take ((ringFile D).length - (ringRest (ringFile D)).length))).2 ≠ 0 then ((D.write ringB ((ringFile D).take ((ringFile D).length - (ringRest (ringFile D)).length))).1, none, (D.write ringB ((ringFile D).take ((ringFile D).length - (ringRest (ringFile D)).length))).2)
  else if (D.write ringB ((ringFile D).take ((ringFile D).length - (ringRest (ringFile D)).length))).1.sync.2 ≠ 0 then ((D.write ringB ((ringFile D).take ((ringFile D).length - (ringRest (ringFile D)).length))).1.sync.1, none, (D.write ringB ((ringFile D).take ((ringFile D).length - (ringRest (ringFile D)).length))).1.sync.2)
  else ((D.write ringB ((ringFile D).take ((ringFile D).length - (ringRest (ringFile D)).length))).1.sync.1, some (ringRows (ringFile D)), 0)
theorem ringSet_rg {D : Dk} {rs : List RRow} {x : Bs} {s : RSt} (h : s ≠ st rs x) : ringSet D (ringPuts rs) x s = ((rgSet D rs x s).1, ringPuts (rgSet D rs x s).2.1, (rgSet D rs x s).2.2) := by
  unfold ringSet rgSet
  rw [if_neg (show ¬ s = ringState (ringPuts rs) x from h)]
  split
  · rfl
  · split
    · rfl
    · rw [ringPuts_snoc]
theorem ringBegin_rg (D : Dk) (rs : List RRow) (x : Bs) : ringBegin D (ringPuts rs) x = ((rgBegin D rs x).1, ringPuts (rgBegin D rs x).2.1, (rgBegin D rs x).2.2.1, (rgBegin D rs x).2.2.2) := by
  have hne : (⟨(st rs x).now + 1, (st rs x).now⟩ : RSt) ≠ st rs x := fun h => by
    have := congrArg RSt.now h
    dsimp only at this
    omega
  unfold ringBegin rgBegin
  rw [show ringState (ringPuts rs) x = st rs x from rfl, ringSet_rg hne]
  split
  · rfl
  · split
    · rfl
    · split
      · rfl
      · split <;> rfl
theorem ringEnd_rg (D : Dk) (rs : List RRow) (x : Bs) : ringEnd D (ringPuts rs) x = ((rgEnd D rs x).1, ringPuts (rgEnd D rs x).2.1, (rgEnd D rs x).2.2) := by
  unfold ringEnd rgEnd
  rw [show ringState (ringPuts rs) x = st rs x from rfl]
  split
  · rfl
  · split
    · rfl
    · rename_i h
      exact ringSet_rg fun h2 => h (by have := congrArg RSt.old h2; exact this.symm)
theorem ringOpen_rg (D : Dk) : ringOpen D = ((rgOpen D).1, (rgOpen D).2.1.map ringPuts, (rgOpen D).2.2) := by
  unfold ringOpen rgOpen
  split
  · rfl
  · split
    · rfl
    · split <;> rfl
def RgPost (w0 : World) (F0 : List Nat) (L : List Res) (d : Nat) (R : Dk × Option (List RRow) × Int) (e : Ending) (w2 : World) : Prop :=
  match R.2.1 with
  | none => e = .returned (.tuple #[.pointer none, .int .i64 R.2.2]) ∧ Sp w0 F0 w2 (rkR d R.1 :: L)
  | some rs => ∃ p, e = .returned (.tuple #[.pointer (some ⟨p, 0, none⟩), .int .i64 R.2.2]) ∧ Sp w0 F0 w2 (rgR p d rs :: rkR d R.1 :: L)
section
variable {w0 w : World} {L : List Res} {F0 : List Nat} {p d : Nat} {v : Value} {rs : List RRow} {K : List Rom} {D : Dk} {m : Nat}
set_option maxRecDepth 100000 in
set_option maxHeartbeats 8000000 in
theorem r14BeginS (x : Bs) (hx : x.length ≤ 1000000) (hs : (st rs x).now ≤ 1000000) (hok : D.Ok m) (hm : m ≤ 900000) (hl : rs.length ≤ 100000000) (S : Sp w0 F0 w (rgR p d rs :: rkR d D :: L)) : Calls Tryz.prog 11 #[.pointer (some ⟨p, 0, none⟩), .string ⟨x.toArray⟩] w fun r w2 => r = .returned (.tuple #[.int .u64 (rgBegin D rs x).2.2.1, .int .i64 (rgBegin D rs x).2.2.2]) ∧ Sp w0 F0 w2 (rgR p d (rgBegin D rs x).2.1 :: rkR d (rgBegin D rs x).1 :: L) := by
  have HV := Lib.hid (rgBegin.eq_1 D rs x)
  have HST := Lib.hid (r14StateS x (by omega) S)
  have HSE := Lib.hid (fun (h : x.length ≤ 900) (W : World) (L' : List Res) (S : Sp w0 F0 W (rgR p d rs :: rkR d D :: L')) => r14SetS x ⟨(st rs x).now + 1, (st rs x).now⟩ h (by dsimp only; omega) (by dsimp only; omega) hok hm hl S)
  clear S hok hm hl
  have hs1 : ((st rs x).now : Int) ≤ 1000000 := by omega
  generalize st rs x = s at *
  obtain ⟨sn, so⟩ := s
  dsimp only at *
  clear hs
  go_enter Tryz.func11, Tryz.ntmps11
  go_wp2_with fail
  refine HST.out.mono ?_
  rintro e w2 ⟨rfl, S2⟩
  have HS2 := Lib.hid (S2.box #[.string ⟨x.toArray⟩, .int .u64 sn, .int .u64 so] 48)
  have c := HS2.out.cell
  clear S2 HST
  by_cases h1 : 255 < x.length
  · have h1' : (255 : Int) < x.length := by omega
    have HV2 := Lib.hid (HV.out.trans (if_pos h1))
    clear HV
    go_wp2
    go_ret2
    rw [HV2.out]
    exact ⟨rfl, HS2.out.drop⟩
  have h1' : ¬ (255 : Int) < x.length := by omega
  have HV2 := Lib.hid (HV.out.trans (if_neg h1))
  have HSE2 := Lib.hid (HSE.out (by omega))
  clear HV HSE h1
  by_cases h2 : so = 0
  · subst h2
    have HV3 := Lib.hid (HV2.out.trans (if_neg (by simp)))
    clear HV2
    by_cases h3 : sn = 1000000
    · subst h3
      have HV4 := Lib.hid (HV3.out.trans (if_pos rfl))
      clear HV3
      go_wp2
      go_ret2
      rw [HV4.out]
      exact ⟨rfl, HS2.out.drop⟩
    · have HV4 := Lib.hid (HV3.out.trans (if_neg h3))
      have h3' : ((sn : Int) == 1000000) = false := by simp; omega
      have hw : IntKind.u64.wrap ((sn : Int) + 1) = (sn : Int) + 1 := by rw [IntKind.wrap_u64]; omega
      have hcast : (((sn + 1 : Nat) : Int)) = (sn : Int) + 1 := by omega
      rw [hcast] at HSE2
      clear HV3 h3
      generalize rgSet D rs x ⟨sn + 1, sn⟩ = R at *
      obtain ⟨R1, R2, R3⟩ := R
      dsimp only at *
      go_wp2_with fail
      refine (HSE2.out _ _ HS2.out.push2).mono ?_
      rintro e w3 ⟨rfl, S3⟩
      have HS3 := Lib.hid S3
      have c3 := S3.pull2.cell
      clear S3 c HS2
      by_cases h4 : R3 = 0
      · subst h4
        have HV5 := Lib.hid (HV4.out.trans (if_neg (by simp)))
        go_wp2
        go_ret2
        rw [HV5.out]
        exact ⟨by first | rfl | (dsimp only; rw [hcast]), (Sp.pick [_, _, _] [0, 1] (by decide) (HS3.out))⟩
      · have HV5 := Lib.hid (HV4.out.trans (if_pos h4))
        have h4' : (R3 == 0) = false := by simpa using h4
        go_wp2
        go_ret2
        rw [HV5.out]
        exact ⟨rfl, (Sp.pick [_, _, _] [0, 1] (by decide) (HS3.out))⟩
  · have HV3 := Lib.hid (HV2.out.trans (if_pos h2))
    have h2' : ((so : Int) == 0) = false := by simp; omega
    clear HV2
    go_wp2
    go_ret2
    rw [HV3.out]
    exact ⟨rfl, HS2.out.drop⟩
set_option maxRecDepth 100000 in
set_option maxHeartbeats 8000000 in
theorem r14EndS (x : Bs) (hx : x.length ≤ 1000000) (hs : (st rs x).now ≤ 1000000) (hok : D.Ok m) (hm : m ≤ 900000) (hl : rs.length ≤ 100000000) (S : Sp w0 F0 w (rgR p d rs :: rkR d D :: L)) : Calls Tryz.prog 13 #[.pointer (some ⟨p, 0, none⟩), .string ⟨x.toArray⟩] w fun r w2 => r = .returned (.int .i64 (rgEnd D rs x).2.2) ∧ Sp w0 F0 w2 (rgR p d (rgEnd D rs x).2.1 :: rkR d (rgEnd D rs x).1 :: L) := by
  have HV := Lib.hid (rgEnd.eq_1 D rs x)
  have HST := Lib.hid (r14StateS x (by omega) S)
  have HSE := Lib.hid (fun (h : x.length ≤ 900) (W : World) (L' : List Res) (S : Sp w0 F0 W (rgR p d rs :: rkR d D :: L')) => r14SetS x ⟨(st rs x).now, 0⟩ h (by dsimp only; omega) (by dsimp only; omega) hok hm hl S)
  clear S hok hm hl
  generalize st rs x = s at *
  obtain ⟨sn, so⟩ := s
  dsimp only at *
  clear hs
  go_enter Tryz.func13, Tryz.ntmps13
  go_wp2_with fail
  refine HST.out.mono ?_
  rintro e w2 ⟨rfl, S2⟩
  have HS2 := Lib.hid (S2.box #[.string ⟨x.toArray⟩, .int .u64 sn, .int .u64 so] 48)
  have c := HS2.out.cell
  clear S2 HST
  by_cases h1 : 255 < x.length
  · have h1' : (255 : Int) < x.length := by omega
    have HV2 := Lib.hid (HV.out.trans (if_pos h1))
    clear HV
    go_wp2
    go_ret
    rw [HV2.out]
    exact ⟨rfl, HS2.out.drop⟩
  have h1' : ¬ (255 : Int) < x.length := by omega
  have HV2 := Lib.hid (HV.out.trans (if_neg h1))
  have HSE2 := Lib.hid (HSE.out (by omega))
  clear HV HSE h1
  by_cases h2 : so = 0
  · subst h2
    have HV3 := Lib.hid (HV2.out.trans (if_pos rfl))
    clear HV2
    go_wp2
    go_ret
    rw [HV3.out]
    exact ⟨rfl, HS2.out.drop⟩
  · have HV3 := Lib.hid (HV2.out.trans (if_neg h2))
    have h2' : ((so : Int) == 0) = false := by simp; omega
    clear HV2
    generalize rgSet D rs x ⟨sn, 0⟩ = R at *
    obtain ⟨R1, R2, R3⟩ := R
    dsimp only at *
    go_wp2_with fail
    refine (HSE2.out _ _ HS2.out.push2).mono ?_
    rintro e w3 ⟨rfl, S3⟩
    have HS3 := Lib.hid S3
    clear S3 c HS2
    go_wp2
    go_ret
    rw [HV3.out]
    exact ⟨rfl, (Sp.pick [_, _, _] [0, 1] (by decide) (HS3.out))⟩
end
end Go.Proofs.YtpkolkgndhagiaaGreat

/-! R14g -/
/-! R14g -/
namespace Go.Proofs.YtpkolkgndhagiaaGreat
open Go.RowKit Go.Maps

section
variable {w0 w : World} {L : List Res} {F0 : List Nat} {p d : Nat} {v : Value} {rs : List RRow} {K : List Rom} {D : Dk} {m : Nat}
theorem ringScan_len : ∀ (n : Nat) (s : Bs), s.length ≤ n → (ringRows s).length + (ringRest s).length ≤ s.length
  | 0, s, h => by
    have : s = [] := List.length_eq_zero_iff.1 (by omega)
    subst this
    rw [(ringScan_stop ringRead_nil).1, (ringScan_stop ringRead_nil).2]
    simp
  | n + 1, s, h => by
    cases hh : (ringRead ⟨s, false⟩).2.2.1 with
    | false =>
      rw [(ringScan_stop hh).1, (ringScan_stop hh).2]
      simp
    | true =>
      obtain ⟨_, _, h2, _⟩ := ringRead_ok hh
      have ih := ringScan_len n (ringRead ⟨s, false⟩).2.2.2.s (by omega)
      rw [(ringScan_step hh).1, (ringScan_step hh).2, List.length_cons]
      omega
theorem ringRest_le (s : Bs) : (ringRest s).length ≤ s.length := by have := ringScan_len s.length s (Nat.le_refl _); omega
theorem ringRows_le (s : Bs) : (ringRows s).length ≤ s.length := by have := ringScan_len s.length s (Nat.le_refl _); omega
theorem Sp.rwsForm {l : List (Bs × RSt)} (S : Sp w0 F0 w (rwsR v l :: L)) : ∃ a c, v = .slice a l.length c := by
  rcases S.rowForm with ⟨h1, h2⟩ | ⟨g, cap, h1⟩
  · exact ⟨none, 0, by rw [h1, h2]⟩
  · exact ⟨_, cap, h1⟩
theorem Sp.rwsRom {l : List (Bs × RSt)} (S : Sp w0 F0 w (rwsR v l :: L)) : Sp w0 F0 w (romR [rwK v l] :: L) := Sp.romMore (rows := l.map rwVals) (by simpa [rwsR] using (Sp.romNil S).pull1) rwVals_len
set_option maxRecDepth 100000 in
set_option maxHeartbeats 8000000 in
theorem rgOpenS (hok : D.Ok m) (hm : m ≤ 400000) (S : Sp w0 F0 w (rkR d D :: L)) : Calls Tryz.prog 8 #[.pointer (some ⟨d, 0, none⟩)] w fun e w2 => RgPost w0 F0 L d (rgOpen D) e w2 := by
  have HO : Hid (rgOpen D = _) := Lib.hid (rgOpen.eq_1 D)
  have HF : Hid (ringFile D = (D.now.get ringB).getD []) := rfl
  have hl : (ringFile D).length ≤ m := hok.nowU.get ringB
  have HL : Hid ((ringFile D).length ≤ 400000) := Nat.le_trans hl hm
  have hb4 : ringB.length = 4 := rfl
  have HWR := Lib.hid (fun (y : Bs) (hy : y.length ≤ 400000) (W : World) (L' : List Res) (S : Sp w0 F0 W (rkR d D :: L')) => rWriteS ringB y hok (by omega) (by omega) (by omega) S)
  have HSY := Lib.hid (fun (y : Bs) (hy : y.length ≤ 400000) (W : World) (L' : List Res) (S : Sp w0 F0 W (rkR d (D.write ringB y).1 :: L')) => rSyncS (hok.write ringB y) (by omega) S)
  have HRD := Lib.hid (rReadS ringB (by have := hok.now; omega) S)
  clear S hok hm hl hb4
  go_enter Tryz.func8, Tryz.ntmps8
  go_wp2_with fail
  refine HRD.out.mono ?_
  rw [← HF.out]
  rintro e w2 ⟨rfl, S2⟩
  have HS2 := Lib.hid S2
  clear S2 HRD HF
  generalize ringFile D = s at *
  obtain ⟨ec, hec⟩ : ∃ c : Int, (if D.now.has ringB then 0 else 10) = c := ⟨_, rfl⟩
  rw [hec]
  have HEC : Hid ((D.now.has ringB = true ∧ ec = 0) ∨ (D.now.has ringB = false ∧ ec = 10)) := by
    cases hh : D.now.has ringB <;> simp [hh] at hec <;> simp [hec.symm, Hid]
  clear hec
  go_wp2_with fail
  refine (r14RowsS s (by have := HL.out; omega) HS2.out).mono ?_
  rintro e w3 ⟨v, rfl, S3⟩
  have HRL : Hid ((ringRest s).length ≤ s.length) := ringRest_le s
  obtain ⟨va, vc, hv⟩ := S3.rwsForm
  subst hv
  have HS3 := Lib.hid S3.rwsRom
  clear S3 HS2
  generalize ringRows s = rows at *
  generalize ringRest s = rt at *
  have hrl : (rt.length : Int) ≤ s.length := by have := HRL.out; omega
  have hsl : (s.length : Int) ≤ 400000 := by have := HL.out; omega
  by_cases hA : D.now.has ringB = true ∧ rt = []
  · have HO2 := Lib.hid (HO.out.trans (if_pos hA))
    obtain ⟨h1, h2⟩ := hA
    have he : ec = 0 := by rcases HEC.out with h | h; exact h.2; rw [h1] at h; cases h.1
    subst he
    subst h2
    clear HO HEC h1 HRL
    have h0 : ((s.length : Int) - (([] : Bs).length : Int) != (s.length : Int)) = false := by simp
    have S4 := HS3.out.box #[.pointer (some ⟨d, 0, none⟩), .slice va rows.length vc] 84
    have HS4 := Lib.hid (Sp.rgShut List.mem_cons_self S4)
    clear S4
    go_wp2
    go_ret2
    rw [HO2.out]
    exact ⟨_, rfl, HS4.out⟩
  · have HO2 := Lib.hid (HO.out.trans (if_neg hA))
    have HN : Hid ((ec != 0) = true ∨ ((ec != 0) = false ∧ ((s.length : Int) - (rt.length : Int) != (s.length : Int)) = true)) := by
      unfold Hid
      rcases HEC.out with h | h
      · have h3 : rt ≠ [] := fun h4 => hA ⟨h.1, h4⟩
        have h4 : 0 < rt.length := List.length_pos_iff.2 h3
        refine .inr ⟨by rw [h.2]; rfl, by simp; omega⟩
      · exact .inl (by rw [h.2]; rfl)
    have HC := Lib.hid (cut_head s (s.length - rt.length))
    have HWL : Hid ((s.take (s.length - rt.length)).length ≤ 400000) := by have := HL.out; rw [List.length_take]; unfold Hid; omega
    have hcast : (((s.length - rt.length : Nat) : Int)) = (s.length : Int) - (rt.length : Int) := by omega
    clear HO HEC hA
    go_upto_region 5 with (fail)
    go_cut [28] (fun v wx => v = .bool true ∧ wx = w3)
    case first =>
      rcases HN.out with h | ⟨h1, h2⟩
      all_goals
        go_wp2
        go_meet
        exact ⟨rfl, rfl⟩
    case rest =>
      obtain ⟨rfl, rfl⟩ := hcut
      have HWR2 := Lib.hid (HWR.out _ HWL.out)
      have HSY2 := Lib.hid (HSY.out _ HWL.out)
      clear HWR HSY HN
      generalize List.take (s.length - rt.length) s = y at *
      generalize D.write ringB y = WA at *
      obtain ⟨D1, e1⟩ := WA
      dsimp only at *
      generalize D1.sync = DB at *
      obtain ⟨D2, e2⟩ := DB
      dsimp only at *
      go_wp2_with fail
      rw [HC.out]
      refine (HWR2.out _ _ HS3.out.pull1).mono ?_
      rintro r w4 ⟨rfl, S4⟩
      have HS4 := Lib.hid S4
      clear S4 HS3 HWR2
      by_cases h1 : e1 = 0
      · subst h1
        have HO3 := Lib.hid (HO2.out.trans (if_neg (by simp)))
        clear HO2
        go_wp2_with fail
        refine (HSY2.out _ _ HS4.out).mono ?_
        rintro r w5 ⟨rfl, S5⟩
        have HS5 := Lib.hid S5
        clear S5 HS4 HSY2
        by_cases h2 : e2 = 0
        · subst h2
          have HO4 := Lib.hid (HO3.out.trans (if_neg (by simp)))
          have S6 := HS5.out.pull1.box #[.pointer (some ⟨d, 0, none⟩), .slice va rows.length vc] 84
          have HS6 := Lib.hid (Sp.rgShut List.mem_cons_self S6)
          clear S6
          go_wp2
          go_ret2
          rw [HO4.out]
          exact ⟨_, rfl, HS6.out⟩
        · have HO4 := Lib.hid (HO3.out.trans (if_pos h2))
          have h2' : (e2 == 0) = false := by simpa using h2
          have h2'' : (e2 != 0) = true := by simpa using h2
          go_wp2
          go_ret2
          rw [HO4.out]
          exact ⟨rfl, HS5.out.pull1.drop⟩
      · have HO3 := Lib.hid (HO2.out.trans (if_pos h1))
        have h1' : (e1 == 0) = false := by simpa using h1
        have h1'' : (e1 != 0) = true := by simpa using h1
        go_wp2
        go_ret2
        rw [HO3.out]
        exact ⟨rfl, HS4.out.pull1.drop⟩
end
end Go.Proofs.YtpkolkgndhagiaaGreat

/-! R14d -/
/-! R14d -/
namespace Go.Proofs.YtpkolkgndhagiaaGreat
open Go.RowKit Go.Maps

/-! ### plainly -/
def insB (x : Bs) : List Bs → List Bs
  | [] => [x]
  | y :: r => if bytesBefore y x then y :: insB x r else if y = x then y :: r else x :: y :: r
def SortB (l : List Bs) : Prop := l.Pairwise fun a b => bytesBefore a b = true
def domsB (rs : List RRow) : List Bs := rs.foldl (fun l p => insB p.1 l) []
theorem insB_front {x : Bs} : ∀ {a r : List Bs}, (∀ y ∈ a, bytesBefore y x = true) → insB x (a ++ r) = a ++ insB x r
  | [], _, _ => rfl
  | y :: a, r, h => by
    have h1 := h y (by simp)
    show insB x (y :: (a ++ r)) = y :: (a ++ insB x r)
    rw [insB, if_pos h1, insB_front (fun z hz => h z (by simp [hz]))]
theorem insB_mem {x z : Bs} : ∀ {l : List Bs}, z ∈ insB x l → z = x ∨ z ∈ l
  | [], h => by simpa [insB] using h
  | y :: r, h => by
    unfold insB at h
    split at h
    · rcases List.mem_cons.1 h with h | h
      · exact .inr (by simp [h])
      · rcases insB_mem h with h | h
        · exact .inl h
        · exact .inr (by simp [h])
    · split at h
      · exact .inr h
      · rcases List.mem_cons.1 h with h | h
        · exact .inl h
        · exact .inr h
theorem insB_sorted {x : Bs} : ∀ {l : List Bs}, SortB l → SortB (insB x l)
  | [], _ => by simp [insB, SortB]
  | y :: r, h => by
    obtain ⟨h1, h2⟩ := List.pairwise_cons.1 h
    unfold insB
    split
    · rename_i hb
      refine List.pairwise_cons.2 ⟨fun z hz => ?_, insB_sorted h2⟩
      rcases insB_mem hz with rfl | hz
      · exact hb
      · exact h1 z hz
    · rename_i hb
      split
      · exact h
      · rename_i hne
        have hxy : bytesBefore x y = true := before_total (by simpa using hb) hne
        refine List.pairwise_cons.2 ⟨fun z hz => ?_, h⟩
        rcases List.mem_cons.1 hz with rfl | hz
        · exact hxy
        · exact before_trans hxy (h1 z hz)
theorem insB_length (x : Bs) : ∀ l : List Bs, (insB x l).length ≤ l.length + 1
  | [] => by simp [insB]
  | y :: r => by
    have := insB_length x r
    unfold insB
    split
    · simp; omega
    · split <;> simp
theorem del_none {V : Type} {x : Bs} : ∀ {M : Mp V}, (∀ p ∈ M, p.1 ≠ x) → Mp.del M x = M := fun {M} h => List.filter_eq_self.2 fun p hp => by simp [h p hp]
theorem ins_head {V : Type} {x : Bs} {v : V} : ∀ {M : Mp V}, (∀ p ∈ M, bytesBefore x p.1 = true) → Mp.ins (x, v) M = (x, v) :: M
  | [], _ => rfl
  | y :: r, h => by rw [Mp.ins, if_pos (h y (by simp))]
theorem before_ne {a b : Bs} (h : bytesBefore a b = true) : a ≠ b := fun e => by rw [e, before_irr] at h; cases h
theorem before_asym {a b : Bs} (h : bytesBefore a b = true) : bytesBefore b a = false := by
  cases hh : bytesBefore b a with
  | false => rfl
  | true => have := before_trans h hh; rw [before_irr] at this; cases this
theorem keys_put {V : Type} {x : Bs} {v : V} : ∀ {M : Mp V}, SortB (M.map (·.1)) → (M.put x v).map (·.1) = insB x (M.map (·.1))
  | [], _ => rfl
  | y :: r, h => by
    obtain ⟨h1, h2⟩ := List.pairwise_cons.1 (show SortB (y.1 :: r.map (·.1)) from h)
    have h3 : ∀ p ∈ r, bytesBefore y.1 p.1 = true := fun p hp => h1 p.1 (List.mem_map.2 ⟨p, hp, rfl⟩)
    show (Mp.ins (x, v) (Mp.del (y :: r) x)).map (·.1) = insB x (y.1 :: r.map (·.1))
    by_cases he : y.1 = x
    · have hb : bytesBefore y.1 x = false := by rw [he]; exact before_irr _
      have hd : Mp.del (y :: r) x = r := by
        show (y :: r).filter (fun p => !(p.1 == x)) = r
        rw [List.filter_cons, if_neg (by simp [he])]
        exact del_none fun p hp => fun e => before_ne (h3 p hp) (he.trans e.symm)
      rw [hd, ins_head (fun p hp => he ▸ h3 p hp), insB, if_neg (by simp [hb]), if_pos he]
      simp [he]
    · have hd : Mp.del (y :: r) x = y :: Mp.del r x := by
        show (y :: r).filter (fun p => !(p.1 == x)) = _
        rw [List.filter_cons, if_pos (by simp [he])]
        rfl
      rw [hd]
      by_cases hb : bytesBefore y.1 x = true
      · have ih := keys_put (v := v) (x := x) h2
        rw [Mp.ins, if_neg (by simp [before_asym hb]), List.map_cons, insB, if_pos hb]
        congr 1
      · have hxy : bytesBefore x y.1 = true := before_total (by simpa using hb) he
        rw [Mp.ins, if_pos hxy, insB, if_neg hb, if_neg he]
        have hd2 : Mp.del r x = r := del_none fun p hp => fun e => by have := before_trans hxy (h3 p hp); rw [e, before_irr] at this; cases this
        rw [hd2]
        rfl
theorem doms_puts : ∀ (rs : List RRow) (M : Mp RSt), SortB (M.map (·.1)) → (rs.foldl (fun M p => M.put p.1 p.2) M).map (·.1) = rs.foldl (fun l p => insB p.1 l) (M.map (·.1))
  | [], _, _ => rfl
  | p :: r, M, h => by
    rw [List.foldl_cons, List.foldl_cons, doms_puts r (M.put p.1 p.2) (by rw [keys_put h]; exact insB_sorted h), keys_put h]
theorem doms_ring (rs : List RRow) : ringDomains (ringPuts rs) = domsB rs := doms_puts rs [] (by simp [SortB])
theorem domsB_snoc (rs : List RRow) (p : RRow) : domsB (rs ++ [p]) = insB p.1 (domsB rs) := by simp [domsB]
theorem domsB_length : ∀ (n : Nat) (rs : List RRow), rs.length = n → (domsB rs).length ≤ n
  | 0, rs, h => by rw [List.length_eq_zero_iff.1 h]; simp [domsB]
  | n + 1, rs, h => by
    obtain ⟨r, p, rfl⟩ : ∃ r p, rs = r ++ [p] := ⟨_, _, (List.dropLast_concat_getLast (by intro e; rw [e] at h; cases h)).symm⟩
    rw [domsB_snoc]
    have h1 := insB_length p.1 (domsB r)
    have h2 := domsB_length n r (by simpa using h)
    omega
/-- Where the loop ends: k texts stand ahead of x. -/
theorem insB_end {x : Bs} {l : List Bs} (h : ∀ j (hj : j < l.length), bytesBefore l[j] x = true) : insB x l = l ++ [x] := by
  have h1 := insB_front (x := x) (a := l) (r := []) fun y hy => by
    obtain ⟨j, hj, rfl⟩ := List.getElem_of_mem hy
    exact h j hj
  rw [List.append_nil] at h1
  exact h1
theorem insB_mid {x : Bs} {l : List Bs} {k : Nat} (hk : k < l.length) (h : ∀ j (hj : j < l.length), j < k → bytesBefore l[j] x = true) (hb : bytesBefore l[k] x = false) : insB x l = if l[k] = x then l else l.take k ++ x :: l.drop k := by
  have e : l = l.take k ++ l[k] :: l.drop (k + 1) := by rw [List.getElem_cons_drop, List.take_append_drop]
  have h1 := insB_front (x := x) (a := l.take k) (r := l[k] :: l.drop (k + 1)) fun y hy => by
    obtain ⟨j, hj, rfl⟩ := List.getElem_of_mem hy
    rw [List.length_take] at hj
    rw [List.getElem_take]
    exact h j (by omega) (by omega)
  rw [← e] at h1
  rw [h1, insB, if_neg (by simp [hb])]
  split
  · exact e.symm
  · rw [List.getElem_cons_drop]

/-! ### parts of slices -/
section
variable {w0 w : World} {L : List Res} {F0 : List Nat} {v : Value} {K : List Rom} {a : Option Addr} {n cap : Nat} {rows : List (List Value)}
theorem Rom.sub {F : List Nat} (h : (⟨.slice a n cap, 1, rows⟩ : Rom).at F w) {lo hi : Nat} (h1 : lo ≤ hi) (h2 : hi ≤ rows.length) : (⟨.slice (if cap = lo then a else a.map (·.add (lo * 1))) (hi - lo) (cap - lo), 1, (rows.take hi).drop lo⟩ : Rom).at F w := by
  obtain ⟨a2, cap2, e1, e2, e3, e4⟩ := h
  dsimp only at e1 e2 e4
  simp only [Value.slice.injEq] at e1
  obtain ⟨rfl, rfl, rfl⟩ := e1
  have hlen : ((rows.take hi).drop lo).length = hi - lo := by rw [List.length_drop, List.length_take]; omega
  refine ⟨_, cap - lo, by dsimp only; rw [hlen], by dsimp only; rw [hlen]; omega, by omega, ?_⟩
  by_cases hz : hi = lo
  · exact .inl (List.eq_nil_of_length_eq_zero (by rw [hlen]; omega))
  · rcases e4 with e4 | ⟨b, off, rfl, hb1, hb2, e6⟩
    · exfalso
      rw [e4] at h2
      simp at h2
      omega
    · refine .inr ⟨b, off + lo, ?_, hb1, hb2, fun i r j u hi2 hj => ?_⟩
      · rw [if_neg (by omega)]
        simp [Addr.add]
      · dsimp only at hi2 ⊢
        rw [List.getElem?_drop, List.getElem?_take] at hi2
        split at hi2
        · have := e6 _ _ _ _ hi2 hj
          rw [show off + lo + i * 1 + j = off + (lo + i) * 1 + j by omega]
          exact this
        · cases hi2
theorem Sp.romCut (S : Sp w0 F0 w (romR K :: L)) (h : (⟨.slice a n cap, 1, rows⟩ : Rom) ∈ K) {lo hi : Nat} (h1 : lo ≤ hi) (h2 : hi ≤ rows.length) : Sp w0 F0 w (romR (⟨.slice (if cap = lo then a else a.map (·.add (lo * 1))) (hi - lo) (cap - lo), 1, (rows.take hi).drop lo⟩ :: K) :: L) :=
  S.as fun F h3 => ⟨fun q hq => by
    rcases List.mem_cons.1 hq with rfl | hq
    · exact Rom.sub (h3.1 _ h) h1 h2
    · exact h3.1 q hq, h3.2⟩
theorem strs_size (W : World) : (sizeOf (Tryz.prog.elem 54)).run Tryz.prog W = .ok 1 W := by kernel_rfl
theorem strs_from {k : Nat} (hk : k ≤ n) (W : World) : (Instr.sliceAt 54 (.slice a n cap) (some (.int .i64 (k : Int))) none none).run Tryz.prog W = .ok (.slice (if cap = k then a else a.map (·.add (k * 1))) (n - k) (cap - k)) W := by
  rw [run_sliceAt_slice (P := Tryz.prog) (w := W) 54 (.slice a n cap) (some (.int .i64 (k : Int))) none none (by kernel_rfl), run_slice_l (P := Tryz.prog) (w := W) 54 a n cap (by kernel_rfl) .i64 (k : Int) (by omega) (by omega), strs_size]
  rfl
theorem strs_to {k : Nat} (hk : k ≤ cap) (W : World) : (Instr.sliceAt 54 (.slice a n cap) none (some (.int .i64 (k : Int))) none).run Tryz.prog W = .ok (.slice (if cap = 0 then a else a.map (·.add (0 * 1))) (k - 0) (cap - 0)) W := by
  rw [run_sliceAt_slice (P := Tryz.prog) (w := W) 54 (.slice a n cap) none (some (.int .i64 (k : Int))) none (by kernel_rfl), run_slice_h (P := Tryz.prog) (w := W) 54 a n cap (by kernel_rfl) .i64 (k : Int) (by omega) (by omega), strs_size]
  rfl
end
end Go.Proofs.YtpkolkgndhagiaaGreat

/-! R14h -/
/-! R14h -/
namespace Go.Proofs.YtpkolkgndhagiaaGreat
open Go.RowKit Go.Maps

def txRow (s : Bs) : List Value := [.string ⟨s.toArray⟩]
abbrev txK (u : Value) (l : List Bs) : Rom := ⟨u, 1, l.map txRow⟩
/-- The ring, and texts that are only read beside it. -/
def rgT (p d : Nat) (rs : List RRow) (v : Value) (l : List Bs) : Res := Res.ex fun X : Value × List Rom => (Res.pure (rwK X.1 rs ∈ X.2 ∧ txK v l ∈ X.2)).and ((boxR p #[.pointer (some ⟨d, 0, none⟩), X.1] 84).and (romR X.2))
section
variable {w0 w : World} {L : List Res} {F0 : List Nat} {p d : Nat} {v : Value} {rs : List RRow} {K : List Rom} {l : List Bs}
theorem Sp.romTx (S : Sp w0 F0 w (romR K :: L)) (h : txK v l ∈ K) : TextsAt w v l := by
  obtain ⟨F, a, cap, h1, h2, h3, h4⟩ := S.rom h
  refine ⟨a, cap, by simpa using h1, by simp only [List.length_map] at h2; omega, ?_⟩
  rcases h4 with h4 | ⟨b, off, h5, _, _, h6⟩
  · exact .inl h4
  · exact .inr ⟨b, off, h5, fun i r hr j u hu => h6 i r j u hr hu⟩
theorem Sp.romCap {a : Option Addr} {n cap : Nat} (S : Sp w0 F0 w (romR K :: L)) (h : txK (.slice a n cap) l ∈ K) : l.length ≤ cap := by
  obtain ⟨F, a2, cap2, h1, h2, _⟩ := S.rom h
  have h1' : Value.slice a n cap = .slice a2 (l.map txRow).length cap2 := h1
  simp only [Value.slice.injEq] at h1'
  obtain ⟨rfl, _, rfl⟩ := h1'
  simpa using h2
theorem tx_len : ∀ x ∈ l.map txRow, x.length = 1 := by
  intro x hx
  obtain ⟨e, _, rfl⟩ := List.mem_map.1 hx
  rfl
theorem tx_one : ∀ u ∈ (l.map txRow).flatten, u.oneCell' = true := by
  intro u hu
  obtain ⟨x, hx, h2⟩ := List.mem_flatten.1 hu
  obtain ⟨e, _, rfl⟩ := List.mem_map.1 hx
  simp only [txRow, List.mem_cons, List.not_mem_nil, or_false] at h2
  subst h2
  rfl
theorem Sp.rgtShut (h : rwK v rs ∈ K) {u : Value} (h2 : txK u l ∈ K) (S : Sp w0 F0 w (boxR p #[.pointer (some ⟨d, 0, none⟩), v] 84 :: romR K :: L)) : Sp w0 F0 w (rgT p d rs u l :: L) := Sp.exShut (v, K) (S.glue.pureShut ⟨h, h2⟩).glue
theorem Sp.rgtRg {u : Value} (S : Sp w0 F0 w (rgT p d rs u l :: L)) : TextsAt w u l ∧ Sp w0 F0 w (rgR p d rs :: L) := by
  obtain ⟨⟨v, K⟩, S⟩ := Sp.exOpen S
  obtain ⟨h, S⟩ := S.part.pureOpen
  exact ⟨S.part.drop.romTx h.2, Sp.rgShut h.1 S.part⟩
theorem Sp.romForm (S : Sp w0 F0 w (romR K :: L)) (h : txK v l ∈ K) : ∃ a cap, v = .slice a l.length cap := by
  obtain ⟨F, a, cap, h1, _⟩ := S.rom h
  exact ⟨a, cap, by simpa using h1⟩
theorem tx_more (x : Bs) (S : Sp w0 F0 w (rowR 9 1 v (1 + (l.map txRow).length) ([.string ⟨x.toArray⟩] ++ (l.map txRow).flatten) :: romR K :: L)) : Sp w0 F0 w (romR (txK v (x :: l) :: K) :: L) := by
  have h1 : 1 + (l.map txRow).length = ((x :: l).map txRow).length := by simp; omega
  have h2 : [.string ⟨x.toArray⟩] ++ (l.map txRow).flatten = ((x :: l).map txRow).flatten := by simp [txRow]
  rw [h1, h2] at S
  exact S.romMore tx_len
theorem tx_more2 {l2 : List Bs} (S : Sp w0 F0 w (rowR 9 1 v (0 + (l.map txRow).length + (l2.map txRow).length) ([] ++ (l.map txRow).flatten ++ (l2.map txRow).flatten) :: romR K :: L)) : Sp w0 F0 w (romR (txK v (l ++ l2) :: K) :: L) := by
  have h1 : 0 + (l.map txRow).length + (l2.map txRow).length = ((l ++ l2).map txRow).length := by simp
  have h2 : [] ++ (l.map txRow).flatten ++ (l2.map txRow).flatten = ((l ++ l2).map txRow).flatten := by simp
  rw [h1, h2] at S
  exact S.romMore tx_len
theorem Sp.rwCellAt {b off n cap : Nat} (S : Sp w0 F0 w (romR K :: L)) (h : rwK (.slice (some ⟨b, off, none⟩) n cap) rs ∈ K) {i : Nat} (hi : i < rs.length) : w.cell? ⟨b, off + i * 3, none⟩ = some (.string ⟨rs[i].1.toArray⟩) := by
  obtain ⟨b', off', h1, h2, _⟩ := S.rwCells h hi
  cases h1
  exact h2
set_option maxRecDepth 100000 in
set_option maxHeartbeats 8000000 in
theorem r14DomainsS (hl : rs.length ≤ 1000000) (S : Sp w0 F0 w (rgR p d rs :: L)) : Calls Tryz.prog 30 #[.pointer (some ⟨p, 0, none⟩)] w fun e w2 => ∃ v, e = .returned v ∧ Sp w0 F0 w2 (rgT p d rs v (domsB rs) :: L) := by
  obtain ⟨la, lc, K, hq, S1⟩ := S.rgOpen
  have HQ := Lib.hid hq
  have hl' : (rs.length : Int) ≤ 1000000 := by omega
  have HRL := Lib.hid hl
  have S2 := Sp.romMore (rows := []) ((Sp.pick [_, _, _] [0, 2, 1] (by decide) ((S1.rowMadeR 9 1)))) (by simp)
  have HS1 : Hid (Sp w0 F0 (w.alloc (.cells #[] 9)) (romR (txK (.slice (some ⟨w.heap.size, 0, none⟩) 0 0) [] :: K) :: boxR p #[.pointer (some ⟨d, 0, none⟩), .slice la rs.length lc] 84 :: L)) := Lib.hid S2
  have HDS := Lib.hid (fun j (h : j < rs.length) => (show domsB (rs.take (j + 1)) = insB rs[j].1 (domsB (rs.take j)) by rw [List.take_succ_eq_append_getElem h, domsB_snoc]))
  have HDL := Lib.hid (fun j => (show (domsB (rs.take j)).length ≤ 1000000 from Nat.le_trans (domsB_length _ _ rfl) (by rw [List.length_take]; omega)))
  clear S S1 S2 hq hl
  go_enter Tryz.func30, Tryz.ntmps30
  go_wp2_with fail
  generalize w.alloc _ = w1 at *
  generalize w.heap.size = g0 at *
  go_loopw [3, 4] (fun o i wr => ∃ (j : Nat) (K' : List Rom) (oa : Option Addr) (oc : Nat), i = .int .i64 j ∧ j ≤ rs.length ∧ o = .slice oa (domsB (rs.take j)).length oc ∧ txK (.slice oa (domsB (rs.take j)).length oc) (domsB (rs.take j)) ∈ K' ∧ rwK (.slice la rs.length lc) rs ∈ K' ∧ Sp w0 F0 wr (romR K' :: boxR p #[.pointer (some ⟨d, 0, none⟩), .slice la rs.length lc] 84 :: L)) (fun _ i _ => rs.length - (intOf i).toNat)
  case atStart => exact ⟨0, _, _, 0, rfl, Nat.zero_le _, rfl, List.mem_cons_self, List.mem_cons_of_mem _ HQ.out, HS1.out⟩
  case round =>
    obtain ⟨j, K', oa, oc, rfl, hj, rfl, hqo, hqr, S2⟩ := hrel
    clear HS1 HQ
    have HQO := Lib.hid hqo
    have HQR := Lib.hid hqr
    have HS2 := Lib.hid S2
    have c := S2.pull1.cell
    by_cases hlt : j < rs.length
    · have hlt' : (j : Int) < rs.length := by omega
      obtain ⟨b2, off2, hla, _⟩ := S2.rwCells hqr hlt
      subst hla
      have HRX := Lib.hid (fun (W : World) (K0 : List Rom) (L' : List Res) (S : Sp w0 F0 W (romR K0 :: L')) (h : rwK (.slice (some ⟨b2, off2, none⟩) rs.length lc) rs ∈ K0) => S.rwCellAt h hlt)
      have HI0 := Lib.hid (HDS.out j hlt)
      have HLL := Lib.hid (HDL.out j)
      clear S2 hqo hqr HDS HDL
      generalize domsB (rs.take j) = l at *
      generalize rs[j].1 = x at *
      have hll : (l.length : Int) ≤ 1000000 := by have := HLL.out; omega
      go_wp2_with fail
      clear c
      go_loopw [5] (fun k wr => ∃ c : Nat, k = .int .i64 c ∧ c ≤ l.length ∧ (∀ i (h : i < l.length), i < c → bytesBefore l[i] x = true) ∧ Sp w0 F0 wr (romR K' :: boxR p #[.pointer (some ⟨d, 0, none⟩), .slice (some ⟨b2, off2, none⟩) rs.length lc] 84 :: L)) (fun k _ => l.length - (intOf k).toNat)
      case atStart => exact ⟨0, rfl, Nat.zero_le _, fun i h h2 => by omega, HS2.out⟩
      case round =>
        obtain ⟨c, rfl, hc, hall, S3⟩ := hrel
        clear HS2
        have HS2 := Lib.hid S3
        have HALL := Lib.hid hall
        have xr := HRX.out _ _ _ S3 HQR.out
        have cp := S3.pull1.cell
        have hc' : (c : Int) ≤ l.length := by omega
        have HC := Lib.hid hc
        have HT := Lib.hid (S3.romTx HQO.out)
        clear S3 hall
        by_cases hcl : c < l.length
        · have hcl' : (c : Int) < l.length := by omega
          obtain ⟨a2, cap2, e1, _, hra⟩ := HT.out
          simp only [Value.slice.injEq] at e1
          obtain ⟨rfl, _, hcap⟩ := e1
          subst hcap
          obtain ⟨b1, o1, rfl⟩ := hra.addr (i := c) (by simpa using hcl)
          have c1 := texts_cell hra c hcl
          have hlb : bytesBefore l[c] x = Op.bytesLess l[c] x := by rw [bytesLess_eq, bytesBefore_eq]
          obtain ⟨y, hy⟩ : ∃ y, y = l[c] := ⟨_, rfl⟩
          have HY := Lib.hid hy
          rw [← hy] at c1 hlb
          clear hra hy HT
          cases hbl : Op.bytesLess y x with
          | true =>
            rw [hbl] at hlb
            have HLB := Lib.hid hlb
            clear hlb
            go_wp2_with fail
            go_quiet (fail)
            go_wp2_with fail
            go_roundw
            case rel => exact ⟨c + 1, by go_num, by omega, fun i h h2 => (by rcases (by omega : i < c ∨ i = c) with h3 | rfl; exact HALL.out i h h3; rw [← HY.out]; exact HLB.out), HS2.out.drewN _⟩
            case measure => simp [intOf]; omega
          | false =>
            rw [hbl] at hlb
            have HIN0 := Lib.hid (HI0.out.trans (insB_mid hcl (fun i h h2 => HALL.out i h h2) (by rw [← HY.out]; exact hlb)))
            rw [← HY.out] at HIN0
            clear hlb
            by_cases hyx : y = x
            · have he : (y == x) = true := by simpa using hyx
              have HIN := Lib.hid (HIN0.out.trans (if_pos hyx))
              clear HIN0 hyx
              go_wp2_with fail
              go_quiet (fail)
              go_wp2_with fail
              go_upto_region 8 with (fail)
              go_cut [56] (fun v wx => v = .bool true ∧ Sp w0 F0 wx (romR K' :: boxR p #[.pointer (some ⟨d, 0, none⟩), .slice (some ⟨b2, off2, none⟩) rs.length lc] 84 :: L))
              case first =>
                go_quiet (fail)
                go_wp2_with fail
                go_meet
                exact ⟨rfl, (HS2.out.drewN _).drewN _⟩
              case rest =>
                obtain ⟨rfl, h2⟩ := hcut
                clear HS2
                have HS2 := Lib.hid h2
                clear h2 c1 xr cp hbl
                go_wp2_with fail
                go_roundw
                case rel => exact ⟨j + 1, K', _, oc, by go_num, by omega, by rw [HIN.out], by rw [HIN.out]; exact HQO.out, HQR.out, HS2.out⟩
                case measure => simp [intOf]; omega
            · have he : (y == x) = false := by simpa using hyx
              have HIN := Lib.hid (HIN0.out.trans (if_neg hyx))
              have hc := HC.out
              clear HIN0 hyx
              go_wp2_with fail
              go_quiet (fail)
              go_wp2_with fail
              go_upto_region 8 with (fail)
              go_cut [56] (fun v wx => v = .bool false ∧ Sp w0 F0 wx (romR K' :: boxR p #[.pointer (some ⟨d, 0, none⟩), .slice (some ⟨b2, off2, none⟩) rs.length lc] 84 :: L))
              case first =>
                go_quiet (fail)
                go_wp2_with fail
                go_meet
                exact ⟨rfl, (HS2.out.drewN _).drewN _⟩
              case rest =>
                obtain ⟨rfl, h2⟩ := hcut
                clear HS2
                have HS2 := Lib.hid h2
                clear h2 c1 xr cp hbl
                have HCC := (HS2.out.romCut HQO.out (lo := c) (hi := l.length) hc (by simp)).romCut (List.mem_cons_of_mem _ HQO.out) (lo := 0) (hi := c) (Nat.zero_le _) (by simpa using hc)
                obtain ⟨sv, hsv⟩ : ∃ sv : Value, sv = .slice (if oc = c then (some ⟨b1, o1, none⟩) else ((some ⟨b1, o1, none⟩) : Option Addr).map (·.add (c * 1))) (l.length - c) (oc - c) := ⟨_, rfl⟩
                obtain ⟨sz, hsz⟩ : ∃ sz : Value, sz = .slice (if oc = 0 then (some ⟨b1, o1, none⟩) else ((some ⟨b1, o1, none⟩) : Option Addr).map (·.add (0 * 1))) (c - 0) (oc - 0) := ⟨_, rfl⟩
                have hcoc : c ≤ oc := by have := HS2.out.romCap HQO.out; omega
                have HSL := fun W => strs_from (a := (some ⟨b1, o1, none⟩)) (n := l.length) (cap := oc) hc W
                have HSZ := Lib.hid (fun W => strs_to (a := (some ⟨b1, o1, none⟩)) (n := l.length) (cap := oc) hcoc W)
                rw [← hsv, ← hsz] at HCC
                rw [← hsv] at HSL
                rw [← hsz] at HSZ
                rw [show ((l.map txRow).take l.length).drop c = (l.drop c).map txRow by rw [List.take_of_length_le (by simp), List.map_drop], show ((l.map txRow).take c).drop 0 = (l.take c).map txRow by rw [List.drop_zero, List.map_take]] at HCC
                have HS3 := Lib.hid HCC
                have hdl : ((l.drop c).map txRow).length ≤ 1000000 := by rw [List.length_map, List.length_drop]; have := HLL.out; omega
                have htl : ((l.take c).map txRow).length ≤ 1000000 := by rw [List.length_map, List.length_take]; have := HLL.out; omega
                have HDL := Lib.hid hdl
                have HTL := Lib.hid htl
                clear hsv hsz HCC hdl htl HS2
                go_upto_region 9 with (fail)
                refine wp_region_chainG [0, 1, 2, 3, 4, 5, 6, 7, 9, 10, 11, 8, 12, 13] (fun c => c == 8 || c == 12) (fun c => false) (T := fun wx => wx.cell? ⟨p, 1, none⟩ = some (.slice (some ⟨b2, off2, none⟩) rs.length lc) ∧ wx.cell? ⟨b2, off2 + j * 3, none⟩ = some (.string ⟨x.toArray⟩)) (S := fun wx => Sp w0 F0 wx (romR (⟨sz, 1, (l.take c).map txRow⟩ :: ⟨sv, 1, (l.drop c).map txRow⟩ :: K') :: boxR p #[.pointer (some ⟨d, 0, none⟩), .slice (some ⟨b2, off2, none⟩) rs.length lc] 84 :: L)) (by kernel_rfl) (by kernel_rfl) (by kernel_rfl) HS3.out.drew (fun x h => ⟨h.pull1.cell 1, HRX.out x _ _ h (List.mem_cons_of_mem _ (List.mem_cons_of_mem _ HQR.out))⟩) ?_
                repeat
                  refine Exists.intro _ (And.intro rfl (Or.inl (Exists.intro ?_ (And.intro (fun wS hS K hK => ?_) (And.intro ?_ ?_)))))
                  rotate_left 1
                  · obtain ⟨t0, t1⟩ := hS
                    first
                      | (refine if_unwanted rfl ?_; simp only [Act.put, List.setIfInBounds_toArray, List.set_cons_zero, List.set_cons_succ]; exact hK.out)
                      | (refine if_wanted rfl ?_; go_simp; exact hK.out)
                  · rfl
                refine ChainG.one rfl rfl rfl (fun wS hS R hR => ?_)
                go_simp
                obtain ⟨g, hg⟩ : ∃ g, g = wS.heap.size := ⟨_, rfl⟩
                rw [← hg]
                refine hR.out _ _ rfl (fun wx => wx.cell? ⟨p, 1, none⟩ = some (.slice (some ⟨b2, off2, none⟩) rs.length lc) ∧ wx.cell? ⟨b2, off2 + j * 3, none⟩ = some (.string ⟨x.toArray⟩)) (fun wx => Sp w0 F0 wx (rowR 9 1 (.slice (some ⟨g, 0, none⟩) 1 1) 1 [.string ⟨x.toArray⟩] :: romR (⟨sz, 1, (l.take c).map txRow⟩ :: ⟨sv, 1, (l.drop c).map txRow⟩ :: K') :: boxR p #[.pointer (some ⟨d, 0, none⟩), .slice (some ⟨b2, off2, none⟩) rs.length lc] 84 :: L)) (by rw [hg]; exact hS.rowLaid 9 1 1 [.string ⟨x.toArray⟩] rfl (by unfold maxLen; omega)) (fun x h => ⟨h.pull2.cell 1, HRX.out x _ _ h.pull1 (List.mem_cons_of_mem _ (List.mem_cons_of_mem _ HQR.out))⟩) (fun _ h => h) ?_
                clear hR
                repeat
                  refine Exists.intro _ (And.intro rfl (Or.inl (Exists.intro ?_ (And.intro (fun wS hS K hK => ?_) (And.intro ?_ ?_)))))
                  rotate_left 1
                  · obtain ⟨t0, t1⟩ := hS
                    first
                      | (refine if_unwanted rfl ?_; simp only [Act.put, List.setIfInBounds_toArray, List.set_cons_zero, List.set_cons_succ]; exact hK.out)
                      | (refine if_wanted rfl ?_; go_simp; exact hK.out)
                  · rfl
                refine ChainG.one rfl rfl rfl (fun wS hS R hR => ?_)
                obtain ⟨u, w9, hrun, S9⟩ := Sp.appendRom 54 54 _ 16 infoStr0 rfl Tryz.underlying54 (by decide) (by decide) (show (⟨sv, 1, (l.drop c).map txRow⟩ : Rom) ∈ _ from List.mem_cons_of_mem _ List.mem_cons_self) tx_len tx_one (by have := HDL.out; omega) hS
                have HS9 := Lib.hid S9
                refine oper_append_run (by rfl) (by rfl) (by rfl) hrun ?_
                refine hR.out _ _ rfl (fun wx => wx.cell? ⟨p, 1, none⟩ = some (.slice (some ⟨b2, off2, none⟩) rs.length lc) ∧ wx.cell? ⟨b2, off2 + j * 3, none⟩ = some (.string ⟨x.toArray⟩)) (fun wx => Sp w0 F0 wx (rowR 9 1 u (1 + ((l.drop c).map txRow).length) ([.string ⟨x.toArray⟩] ++ ((l.drop c).map txRow).flatten) :: romR (⟨sz, 1, (l.take c).map txRow⟩ :: ⟨sv, 1, (l.drop c).map txRow⟩ :: K') :: boxR p #[.pointer (some ⟨d, 0, none⟩), .slice (some ⟨b2, off2, none⟩) rs.length lc] 84 :: L)) HS9.out (fun x h => ⟨h.pull2.cell 1, HRX.out x _ _ h.pull1 (List.mem_cons_of_mem _ (List.mem_cons_of_mem _ HQR.out))⟩) (fun _ h => h) ?_
                clear hR
                repeat
                  refine Exists.intro _ (And.intro rfl (Or.inl (Exists.intro ?_ (And.intro (fun wS hS K hK => ?_) (And.intro ?_ ?_)))))
                  rotate_left 1
                  · obtain ⟨t0, t1⟩ := hS
                    first
                      | (refine if_unwanted rfl ?_; simp only [Act.put, List.setIfInBounds_toArray, List.set_cons_zero, List.set_cons_succ]; exact hK.out)
                      | (refine if_wanted rfl ?_; go_simp; exact hK.out)
                  · rfl
                intro wE hE
                have HSE := Lib.hid hE
                clear hE
                have S4 := tx_more x (l := l.drop c) HSE.out
                obtain ⟨ua, uc, hu⟩ := S4.romForm List.mem_cons_self
                obtain ⟨nu, hnu⟩ : ∃ nu, nu = (x :: l.drop c).length := ⟨_, rfl⟩
                rw [← hnu] at hu
                subst hu
                clear hnu
                have S5 := S4.rowMadeR 9 1
                obtain ⟨u1, w6, hr1, S6⟩ := Sp.appendRom 54 54 _ 16 infoStr0 rfl Tryz.underlying54 (by decide) (by decide) (show (⟨sz, 1, (l.take c).map txRow⟩ : Rom) ∈ _ from List.mem_cons_of_mem _ List.mem_cons_self) tx_len tx_one (by have := HTL.out; omega) S5
                obtain ⟨u2, w7, hr2, S7⟩ := Sp.appendRom 54 54 _ 16 infoStr0 rfl Tryz.underlying54 (by decide) (by decide) (List.mem_cons_self (a := txK (.slice ua nu uc) (x :: l.drop c))) tx_len tx_one (by have h1 := HTL.out; have h2 := HDL.out; simp only [List.length_map, List.length_cons] at h1 h2 ⊢; omega) S6
                have S8 := tx_more2 (l := l.take c) (l2 := x :: l.drop c) S7
                obtain ⟨va, vc, hu2⟩ := S8.romForm List.mem_cons_self
                obtain ⟨nv, hnv⟩ : ∃ nv, nv = (l.take c ++ x :: l.drop c).length := ⟨_, rfl⟩
                rw [← hnv] at hu2
                subst hu2
                have HNV := Lib.hid hnv
                clear hnv
                have HS8 := Lib.hid S8
                have HR1 := Lib.hid hr1
                have HR2 := Lib.hid hr2
                have HSZ2 := HSZ.out
                clear S4 S5 S6 S7 S8 hr1 hr2 HSE HS3 HSL
                go_wp2_with (first | (at_builtin; refine wpList_append_run (by rfl) (by rfl) (by rfl) (by rfl) HR1.out ?_) | (at_builtin; refine wpList_append_run (by rfl) (by rfl) (by rfl) (by rfl) HR2.out ?_))
                go_roundw
                case rel => exact ⟨j + 1, _, va, vc, by go_num, by omega, by rw [HIN.out, ← HNV.out], by rw [HIN.out, ← HNV.out]; exact List.mem_cons_self, List.mem_cons_of_mem _ (List.mem_cons_of_mem _ (List.mem_cons_of_mem _ (List.mem_cons_of_mem _ (HQR.out)))), HS8.out⟩
                case measure => simp [intOf]; omega
        · have HIN : Hid (domsB (rs.take (j + 1)) = l.take c ++ x :: l.drop c) := by
            obtain rfl : c = l.length := by omega
            exact HI0.out.trans ((insB_end (fun i h => HALL.out i h h)).trans (show l ++ [x] = l.take l.length ++ x :: l.drop l.length by rw [List.take_length, List.drop_length]))
          have hc := HC.out
          have hnc : ¬ (c : Int) < l.length := by omega
          go_wp2_with fail
          go_quiet (fail)
          go_wp2_with fail
          go_upto_region 8 with (fail)
          go_cut [56] (fun v wx => v = .bool false ∧ Sp w0 F0 wx (romR K' :: boxR p #[.pointer (some ⟨d, 0, none⟩), .slice (some ⟨b2, off2, none⟩) rs.length lc] 84 :: L))
          case first =>
            go_quiet (fail)
            go_wp2_with fail
            go_meet
            exact ⟨rfl, (HS2.out.drewN _).drewN _⟩
          case rest =>
            obtain ⟨rfl, h2⟩ := hcut
            clear HS2
            have HS2 := Lib.hid h2
            clear h2 xr cp
            have HCC := (HS2.out.romCut HQO.out (lo := c) (hi := l.length) hc (by simp)).romCut (List.mem_cons_of_mem _ HQO.out) (lo := 0) (hi := c) (Nat.zero_le _) (by simpa using hc)
            obtain ⟨sv, hsv⟩ : ∃ sv : Value, sv = .slice (if oc = c then oa else (oa : Option Addr).map (·.add (c * 1))) (l.length - c) (oc - c) := ⟨_, rfl⟩
            obtain ⟨sz, hsz⟩ : ∃ sz : Value, sz = .slice (if oc = 0 then oa else (oa : Option Addr).map (·.add (0 * 1))) (c - 0) (oc - 0) := ⟨_, rfl⟩
            have hcoc : c ≤ oc := by have := HS2.out.romCap HQO.out; omega
            have HSL := fun W => strs_from (a := oa) (n := l.length) (cap := oc) hc W
            have HSZ := Lib.hid (fun W => strs_to (a := oa) (n := l.length) (cap := oc) hcoc W)
            rw [← hsv, ← hsz] at HCC
            rw [← hsv] at HSL
            rw [← hsz] at HSZ
            rw [show ((l.map txRow).take l.length).drop c = (l.drop c).map txRow by rw [List.take_of_length_le (by simp), List.map_drop], show ((l.map txRow).take c).drop 0 = (l.take c).map txRow by rw [List.drop_zero, List.map_take]] at HCC
            have HS3 := Lib.hid HCC
            have hdl : ((l.drop c).map txRow).length ≤ 1000000 := by rw [List.length_map, List.length_drop]; have := HLL.out; omega
            have htl : ((l.take c).map txRow).length ≤ 1000000 := by rw [List.length_map, List.length_take]; have := HLL.out; omega
            have HDL := Lib.hid hdl
            have HTL := Lib.hid htl
            clear hsv hsz HCC hdl htl HS2
            go_upto_region 9 with (fail)
            refine wp_region_chainG [0, 1, 2, 3, 4, 5, 6, 7, 9, 10, 11, 8, 12, 13] (fun c => c == 8 || c == 12) (fun c => false) (T := fun wx => wx.cell? ⟨p, 1, none⟩ = some (.slice (some ⟨b2, off2, none⟩) rs.length lc) ∧ wx.cell? ⟨b2, off2 + j * 3, none⟩ = some (.string ⟨x.toArray⟩)) (S := fun wx => Sp w0 F0 wx (romR (⟨sz, 1, (l.take c).map txRow⟩ :: ⟨sv, 1, (l.drop c).map txRow⟩ :: K') :: boxR p #[.pointer (some ⟨d, 0, none⟩), .slice (some ⟨b2, off2, none⟩) rs.length lc] 84 :: L)) (by kernel_rfl) (by kernel_rfl) (by kernel_rfl) HS3.out.drew (fun x h => ⟨h.pull1.cell 1, HRX.out x _ _ h (List.mem_cons_of_mem _ (List.mem_cons_of_mem _ HQR.out))⟩) ?_
            repeat
              refine Exists.intro _ (And.intro rfl (Or.inl (Exists.intro ?_ (And.intro (fun wS hS K hK => ?_) (And.intro ?_ ?_)))))
              rotate_left 1
              · obtain ⟨t0, t1⟩ := hS
                first
                  | (refine if_unwanted rfl ?_; simp only [Act.put, List.setIfInBounds_toArray, List.set_cons_zero, List.set_cons_succ]; exact hK.out)
                  | (refine if_wanted rfl ?_; go_simp; exact hK.out)
              · rfl
            refine ChainG.one rfl rfl rfl (fun wS hS R hR => ?_)
            go_simp
            obtain ⟨g, hg⟩ : ∃ g, g = wS.heap.size := ⟨_, rfl⟩
            rw [← hg]
            refine hR.out _ _ rfl (fun wx => wx.cell? ⟨p, 1, none⟩ = some (.slice (some ⟨b2, off2, none⟩) rs.length lc) ∧ wx.cell? ⟨b2, off2 + j * 3, none⟩ = some (.string ⟨x.toArray⟩)) (fun wx => Sp w0 F0 wx (rowR 9 1 (.slice (some ⟨g, 0, none⟩) 1 1) 1 [.string ⟨x.toArray⟩] :: romR (⟨sz, 1, (l.take c).map txRow⟩ :: ⟨sv, 1, (l.drop c).map txRow⟩ :: K') :: boxR p #[.pointer (some ⟨d, 0, none⟩), .slice (some ⟨b2, off2, none⟩) rs.length lc] 84 :: L)) (by rw [hg]; exact hS.rowLaid 9 1 1 [.string ⟨x.toArray⟩] rfl (by unfold maxLen; omega)) (fun x h => ⟨h.pull2.cell 1, HRX.out x _ _ h.pull1 (List.mem_cons_of_mem _ (List.mem_cons_of_mem _ HQR.out))⟩) (fun _ h => h) ?_
            clear hR
            repeat
              refine Exists.intro _ (And.intro rfl (Or.inl (Exists.intro ?_ (And.intro (fun wS hS K hK => ?_) (And.intro ?_ ?_)))))
              rotate_left 1
              · obtain ⟨t0, t1⟩ := hS
                first
                  | (refine if_unwanted rfl ?_; simp only [Act.put, List.setIfInBounds_toArray, List.set_cons_zero, List.set_cons_succ]; exact hK.out)
                  | (refine if_wanted rfl ?_; go_simp; exact hK.out)
              · rfl
            refine ChainG.one rfl rfl rfl (fun wS hS R hR => ?_)
            obtain ⟨u, w9, hrun, S9⟩ := Sp.appendRom 54 54 _ 16 infoStr0 rfl Tryz.underlying54 (by decide) (by decide) (show (⟨sv, 1, (l.drop c).map txRow⟩ : Rom) ∈ _ from List.mem_cons_of_mem _ List.mem_cons_self) tx_len tx_one (by have := HDL.out; omega) hS
            have HS9 := Lib.hid S9
            refine oper_append_run (by rfl) (by rfl) (by rfl) hrun ?_
            refine hR.out _ _ rfl (fun wx => wx.cell? ⟨p, 1, none⟩ = some (.slice (some ⟨b2, off2, none⟩) rs.length lc) ∧ wx.cell? ⟨b2, off2 + j * 3, none⟩ = some (.string ⟨x.toArray⟩)) (fun wx => Sp w0 F0 wx (rowR 9 1 u (1 + ((l.drop c).map txRow).length) ([.string ⟨x.toArray⟩] ++ ((l.drop c).map txRow).flatten) :: romR (⟨sz, 1, (l.take c).map txRow⟩ :: ⟨sv, 1, (l.drop c).map txRow⟩ :: K') :: boxR p #[.pointer (some ⟨d, 0, none⟩), .slice (some ⟨b2, off2, none⟩) rs.length lc] 84 :: L)) HS9.out (fun x h => ⟨h.pull2.cell 1, HRX.out x _ _ h.pull1 (List.mem_cons_of_mem _ (List.mem_cons_of_mem _ HQR.out))⟩) (fun _ h => h) ?_
            clear hR
            repeat
              refine Exists.intro _ (And.intro rfl (Or.inl (Exists.intro ?_ (And.intro (fun wS hS K hK => ?_) (And.intro ?_ ?_)))))
              rotate_left 1
              · obtain ⟨t0, t1⟩ := hS
                first
                  | (refine if_unwanted rfl ?_; simp only [Act.put, List.setIfInBounds_toArray, List.set_cons_zero, List.set_cons_succ]; exact hK.out)
                  | (refine if_wanted rfl ?_; go_simp; exact hK.out)
              · rfl
            intro wE hE
            have HSE := Lib.hid hE
            clear hE
            have S4 := tx_more x (l := l.drop c) HSE.out
            obtain ⟨ua, uc, hu⟩ := S4.romForm List.mem_cons_self
            obtain ⟨nu, hnu⟩ : ∃ nu, nu = (x :: l.drop c).length := ⟨_, rfl⟩
            rw [← hnu] at hu
            subst hu
            clear hnu
            have S5 := S4.rowMadeR 9 1
            obtain ⟨u1, w6, hr1, S6⟩ := Sp.appendRom 54 54 _ 16 infoStr0 rfl Tryz.underlying54 (by decide) (by decide) (show (⟨sz, 1, (l.take c).map txRow⟩ : Rom) ∈ _ from List.mem_cons_of_mem _ List.mem_cons_self) tx_len tx_one (by have := HTL.out; omega) S5
            obtain ⟨u2, w7, hr2, S7⟩ := Sp.appendRom 54 54 _ 16 infoStr0 rfl Tryz.underlying54 (by decide) (by decide) (List.mem_cons_self (a := txK (.slice ua nu uc) (x :: l.drop c))) tx_len tx_one (by have h1 := HTL.out; have h2 := HDL.out; simp only [List.length_map, List.length_cons] at h1 h2 ⊢; omega) S6
            have S8 := tx_more2 (l := l.take c) (l2 := x :: l.drop c) S7
            obtain ⟨va, vc, hu2⟩ := S8.romForm List.mem_cons_self
            obtain ⟨nv, hnv⟩ : ∃ nv, nv = (l.take c ++ x :: l.drop c).length := ⟨_, rfl⟩
            rw [← hnv] at hu2
            subst hu2
            have HNV := Lib.hid hnv
            clear hnv
            have HS8 := Lib.hid S8
            have HR1 := Lib.hid hr1
            have HR2 := Lib.hid hr2
            have HSZ2 := HSZ.out
            clear S4 S5 S6 S7 S8 hr1 hr2 HSE HS3 HSL
            go_wp2_with (first | (at_builtin; refine wpList_append_run (by rfl) (by rfl) (by rfl) (by rfl) HR1.out ?_) | (at_builtin; refine wpList_append_run (by rfl) (by rfl) (by rfl) (by rfl) HR2.out ?_))
            go_roundw
            case rel => exact ⟨j + 1, _, va, vc, by go_num, by omega, by rw [HIN.out, ← HNV.out], by rw [HIN.out, ← HNV.out]; exact List.mem_cons_self, List.mem_cons_of_mem _ (List.mem_cons_of_mem _ (List.mem_cons_of_mem _ (List.mem_cons_of_mem _ (HQR.out)))), HS8.out⟩
            case measure => simp [intOf]; omega
    · obtain rfl : j = rs.length := by omega
      have hqo := HQO.out
      rw [List.take_length] at hqo
      have HQ2 := Lib.hid hqo
      clear hqo hqr S2
      rw [List.take_length]
      go_wp2
      go_ret
      exact ⟨_, rfl, Sp.rgtShut HQR.out HQ2.out HS2.out.pull1⟩
end
end Go.Proofs.YtpkolkgndhagiaaGreat

/-! RgP -/
/-! RgP -/
namespace Go.Proofs.YtpkolkgndhagiaaGreat
open Go.RowKit Go.Maps

/-- What is true of the disk behind each act: t bounds counts, f bounds files. -/
structure DInv (D : Dk) (t f : Nat) : Prop where
  fuse : D.fuse ≤ 9223372036854775807
  trace : D.trace.length ≤ t
  nowL : D.now.length ≤ t
  nowU : D.now.Under f
  sureL : D.sure.length ≤ t
  sureU : D.sure.Under f
  pend : D.pend.length ≤ 1
  live : D.dead = false → D.pend = []
  data : ∀ e ∈ D.pend, ((e.op = 1 ∧ e.data.length ≤ f) ∨ (e.op = 2 ∧ e.data.length ≤ 300)) ∧ e.name.length ≤ 4 ∧ e.to = []
theorem DInv.mono {D : Dk} {t f t2 f2 : Nat} (h : DInv D t f) (ht : t ≤ t2) (hf : f ≤ f2) : DInv D t2 f2 :=
  ⟨h.fuse, Nat.le_trans h.trace ht, Nat.le_trans h.nowL ht, h.nowU.mono hf, Nat.le_trans h.sureL ht, h.sureU.mono hf, h.pend, h.live, fun e he => by
    obtain ⟨h1, h2⟩ := h.data e he
    exact ⟨h1.imp (fun h => ⟨h.1, by omega⟩) id, h2⟩⟩
theorem one_or {α : Type} {l : List α} (h : l.length ≤ 1) : l = [] ∨ ∃ x, l = [x] := by
  match l, h with
  | [], _ => exact .inl rfl
  | [x], _ => exact .inr ⟨x, rfl⟩
theorem DInv.ok {D : Dk} {t f : Nat} (h : DInv D t f) : D.Ok (t + 2 * f + 400) := by
  have hp := h.pend; have h1 := h.trace; have h2 := h.nowL; have h3 := h.sureL
  refine ⟨h.fuse, by omega, by omega, by omega, h.nowU.mono (by omega), ⟨f, h.sureU, ?_⟩, fun e he => ?_⟩
  · rcases one_or hp with e | ⟨x, e⟩
    · rw [e]; simp [dataSum]; omega
    · have hd := (h.data x (by rw [e]; simp)).1
      rw [e]
      simp only [dataSum, List.map_cons, List.map_nil, List.sum_cons, List.sum_nil]
      omega
  · obtain ⟨hd, hn, ht⟩ := h.data e he
    exact ⟨by rcases hd with ⟨h, _⟩ | ⟨h, _⟩ <;> simp [h], by omega, by rw [ht]; simp⟩
theorem DInv.roomy {D : Dk} {t f : Nat} (h : DInv D t f) (ht : t ≤ 1000) (hf : f ≤ 100000) : D.Roomy 100200000 := by
  have hp := h.pend; have h1 := h.trace; have h2 := h.nowL
  have hb := bytes_under h.nowU
  have hm : D.now.length * f ≤ 1000 * 100000 := Nat.mul_le_mul (by omega) hf
  exact ⟨h.fuse, by omega, by omega, by omega, by omega⟩
theorem fuse_le {D : Dk} (h : D.fuse ≤ 9223372036854775807) : (if 0 < D.fuse then D.fuse - 1 else D.fuse) ≤ 9223372036854775807 := by split <;> omega
theorem did_under {F : Fs} {f f2 : Nat} {e : Ev} (h : F.Under f) (hd : (e.op = 1 ∧ e.data.length ≤ f2) ∨ (e.op = 2 ∧ f + e.data.length ≤ f2)) (hf : f ≤ f2) : (F.did e).Under f2 := by
  rcases hd with ⟨h1, h2⟩ | ⟨h1, h2⟩
  · unfold Fs.did
    rw [if_pos h1]
    exact (h.mono hf).put h2
  · exact (h.did e).mono h2
/-- Done, and if it was, synced. -/
def comb (A : Dk × Int) : Dk := if A.2 ≠ 0 then A.1 else A.1.sync.1
theorem DInv.done {D : Dk} {t f f2 : Nat} (h : DInv D t f) (e : Ev) (hop : e.op = 1 ∧ e.data.length ≤ f2 ∨ e.op = 2 ∧ e.data.length ≤ 300 ∧ f + e.data.length ≤ f2) (hn : e.name.length ≤ 4) (ht : e.to = []) (hf : f ≤ f2) : DInv (comb (D.done e)) (t + 2) f2 := by
  have h' := h.mono (t2 := t + 2) (f2 := f2) (by omega) hf
  have hfu := fuse_le h.fuse
  by_cases hd : (D.dead || D.fuse == 0) = true
  · have e1 : D.done e = ({ D with dead := true }, 13) := by unfold Dk.done; rw [if_pos hd]
    unfold comb
    rw [e1, if_pos (by simp)]
    exact ⟨h'.fuse, h'.trace, h'.nowL, h'.nowU, h'.sureL, h'.sureU, h'.pend, by simp, h'.data⟩
  · have hdd : D.dead = false := by cases hh : D.dead <;> simp_all
    have hp := h.live hdd
    have h5 : e.op ≠ 5 := by rcases hop with ⟨h, _⟩ | ⟨h, _⟩ <;> omega
    have e1 : D.done e = ({ D with fuse := (if 0 < D.fuse then D.fuse - 1 else D.fuse), trace := D.trace ++ [e], now := D.now.did e, pend := D.pend ++ [e] }, 0) := by unfold Dk.done; rw [if_neg hd, if_neg h5]
    have hu : (D.now.did e).Under f2 := did_under h.nowU (hop.imp id (fun h => ⟨h.1, h.2.2⟩)) hf
    have hl := length_did_le D.now e
    have h2 := h.nowL; have h3 := h.sureL; have h4 := h.trace
    unfold comb
    rw [e1, if_neg (by simp), hp]
    clear e1
    generalize (if 0 < D.fuse then D.fuse - 1 else D.fuse) = fu at *
    unfold Dk.sync Dk.done
    dsimp only
    by_cases hz : (D.dead || fu == 0) = true
    rw [if_pos hz]
    rotate_left 1
    rw [if_neg hz]
    rotate_left 1
    · refine ⟨hfu, by simp; omega, by dsimp only; omega, hu, by dsimp only; omega, h'.sureU, by simp, by simp, fun x hx => ?_⟩
      simp only [List.nil_append, List.mem_singleton] at hx
      subst hx
      exact ⟨hop.imp id (fun h => ⟨h.1, h.2.1⟩), hn, ht⟩
    · rw [if_pos rfl]
      refine ⟨?_, by simp; omega, by dsimp only; omega, hu, by dsimp only; omega, hu, by simp, fun _ => rfl, by simp⟩
      dsimp only
      split <;> omega
theorem comb_no {D : Dk} {c : Int} (h : c ≠ 0) : comb (D, c) = D := by unfold comb; rw [if_pos h]
theorem DInv.append {D : Dk} {t f : Nat} (h : DInv D t f) (d : Bs) (hd : d.length ≤ 300) : DInv (comb (D.append ringB d)) (t + 2) (f + 300) := by
  unfold Dk.append
  split
  · split
    · rw [comb_no (by decide)]; exact h.mono (by omega) (by omega)
    · exact h.done ⟨2, ringB, [], d⟩ (.inr ⟨rfl, hd, by dsimp only; omega⟩) (by dsimp only; decide) rfl (by omega)
  · rw [comb_no (by decide)]; exact h.mono (by omega) (by omega)
theorem DInv.write {D : Dk} {t f : Nat} (h : DInv D t f) (d : Bs) (hd : d.length ≤ f) : DInv (comb (D.write ringB d)) (t + 2) f := by
  unfold Dk.write
  split
  · split
    · rw [comb_no (by decide)]; exact h.mono (by omega) (by omega)
    · split
      · rw [comb_no (by decide)]; exact h.mono (by omega) (by omega)
      · exact h.done ⟨1, ringB, [], d⟩ (.inl ⟨rfl, hd⟩) (by dsimp only; decide) rfl (by omega)
  · rw [comb_no (by decide)]; exact h.mono (by omega) (by omega)
theorem rgSet_comb (D : Dk) (rs : List RRow) (x : Bs) (s : RSt) : (rgSet D rs x s).1 = comb (D.append ringB (ringRow x s)) := by
  unfold rgSet comb
  split
  · rfl
  · split <;> rfl
theorem rgOpen_comb (D : Dk) : (rgOpen D).1 = D ∨ (rgOpen D).1 = comb (D.write ringB ((ringFile D).take ((ringFile D).length - (ringRest (ringFile D)).length))) := by
  unfold rgOpen comb
  split
  · exact .inl rfl
  · right
    split
    · rfl
    · split <;> rfl
/-- Rows that may be, k at most. -/
def RsOk (rs : List RRow) (k : Nat) : Prop := (∀ p ∈ rs, rowOk p) ∧ rs.length ≤ k
theorem RsOk.ring {rs : List RRow} {k : Nat} (h : RsOk rs k) (hk : k ≤ 1000000) : ringOk (ringPuts rs) := ringPuts_ok h.1 (Nat.le_trans h.2 hk)
theorem RsOk.st {rs : List RRow} {k : Nat} (h : RsOk rs k) (hk : k ≤ 1000000) (x : Bs) : (st rs x).now ≤ 1000000 ∧ (st rs x).old ≤ 1000000 := (h.ring hk).state x
theorem ringRows_ok : ∀ (n : Nat) (s : Bs), s.length ≤ n → ∀ p ∈ ringRows s, rowOk p
  | 0, s, h => by
    have : s = [] := List.length_eq_zero_iff.1 (by omega)
    subst this
    rw [(ringScan_stop ringRead_nil).1]
    simp
  | n + 1, s, h => by
    cases hh : (ringRead ⟨s, false⟩).2.2.1 with
    | false =>
      rw [(ringScan_stop hh).1]
      simp
    | true =>
      obtain ⟨_, _, h2, h3, h4, h5⟩ := ringRead_ok hh
      rw [(ringScan_step hh).1]
      intro p hp
      rcases List.mem_cons.1 hp with rfl | hp
      · exact ⟨h3, h4, h5⟩
      · exact ringRows_ok n _ (by omega) p hp
theorem DInv.file {D : Dk} {t f : Nat} (h : DInv D t f) : (ringFile D).length ≤ f := h.nowU.get ringB
theorem DInv.open {D : Dk} {t f : Nat} (h : DInv D t f) : DInv (rgOpen D).1 (t + 2) f ∧ ∀ rs, (rgOpen D).2.1 = some rs → RsOk rs f := by
  have hfile := h.file
  refine ⟨?_, fun rs hr => ?_⟩
  · rcases rgOpen_comb D with e | e
    · rw [e]; exact h.mono (by omega) (by omega)
    · rw [e]; exact h.write _ (by rw [List.length_take]; omega)
  · have : rs = ringRows (ringFile D) := by
      unfold rgOpen at hr
      split at hr
      · exact (Option.some.inj hr).symm
      · split at hr
        · cases hr
        · split at hr
          · cases hr
          · exact (Option.some.inj hr).symm
    subst this
    exact ⟨ringRows_ok _ _ (Nat.le_refl _), Nat.le_trans (ringRows_le _) hfile⟩
theorem rgSet_rows {D : Dk} {rs : List RRow} {x : Bs} {s : RSt} {k : Nat} (h : RsOk rs k) (hs : rowOk (x, s)) : RsOk (rgSet D rs x s).2.1 (k + 1) := by
  have h0 : RsOk rs (k + 1) := ⟨h.1, Nat.le_succ_of_le h.2⟩
  unfold rgSet
  split
  · exact h0
  · split
    · exact h0
    · refine ⟨fun p hp => ?_, by simp; exact h.2⟩
      rcases List.mem_append.1 hp with hp | hp
      · exact h.1 p hp
      · rw [List.mem_singleton] at hp
        subst hp
        exact hs
theorem row_small {x : Bs} {s : RSt} (hx : x.length ≤ 255) : (ringRow x s).length ≤ 300 := by have := ringRow_length_le x s; omega
theorem DInv.begin {D : Dk} {t f k : Nat} {rs : List RRow} (h : DInv D t f) (hr : RsOk rs k) (hk : k ≤ 1000000) (x : Bs) : DInv (rgBegin D rs x).1 (t + 2) (f + 300) ∧ RsOk (rgBegin D rs x).2.1 (k + 1) := by
  have h0 : DInv D (t + 2) (f + 300) := h.mono (by omega) (by omega)
  have r0 : RsOk rs (k + 1) := ⟨hr.1, Nat.le_succ_of_le hr.2⟩
  obtain ⟨s1, s2⟩ := hr.st hk x
  unfold rgBegin
  split
  · exact ⟨h0, r0⟩
  · split
    · exact ⟨h0, r0⟩
    · split
      · exact ⟨h0, r0⟩
      · rename_i h1 h2 h3
        have hd := h.append (ringRow x ⟨(st rs x).now + 1, (st rs x).now⟩) (row_small (by omega))
        rw [← rgSet_comb D rs] at hd
        have hrr := rgSet_rows (D := D) (s := ⟨(st rs x).now + 1, (st rs x).now⟩) hr (x := x) ⟨by dsimp only; omega, by dsimp only; omega, by dsimp only; omega⟩
        split
        · exact ⟨hd, hrr⟩
        · exact ⟨hd, hrr⟩
theorem DInv.end {D : Dk} {t f k : Nat} {rs : List RRow} (h : DInv D t f) (hr : RsOk rs k) (hk : k ≤ 1000000) (x : Bs) : DInv (rgEnd D rs x).1 (t + 2) (f + 300) ∧ RsOk (rgEnd D rs x).2.1 (k + 1) := by
  have h0 : DInv D (t + 2) (f + 300) := h.mono (by omega) (by omega)
  have r0 : RsOk rs (k + 1) := ⟨hr.1, Nat.le_succ_of_le hr.2⟩
  obtain ⟨s1, s2⟩ := hr.st hk x
  unfold rgEnd
  split
  · exact ⟨h0, r0⟩
  · split
    · exact ⟨h0, r0⟩
    · have hd := h.append (ringRow x ⟨(st rs x).now, 0⟩) (row_small (by omega))
      rw [← rgSet_comb D rs] at hd
      exact ⟨hd, rgSet_rows hr (x := x) ⟨by dsimp only; omega, by dsimp only; omega, by dsimp only; omega⟩⟩
theorem DInv.fuseS {D : Dk} {t f : Nat} (h : DInv D t f) (n : Int) (hn : n ≤ 9223372036854775807) : DInv (D.setFuse n) t f := by
  unfold Dk.setFuse
  split
  · exact h
  · exact ⟨by dsimp only; omega, h.trace, h.nowL, h.nowU, h.sureL, h.sureU, h.pend, h.live, h.data⟩
theorem DInv.quota {D : Dk} {t f : Nat} (h : DInv D t f) (n : Int) : DInv { D with quota := n } t f := ⟨h.fuse, h.trace, h.nowL, h.nowU, h.sureL, h.sureU, h.pend, h.live, h.data⟩
theorem DInv.crash {D : Dk} {t f : Nat} (h : DInv D t f) (n : Int) : DInv (D.crash n) (t + 1) (f + 300) := by
  have h2 := h.sureL; have h4 := h.trace
  have key : (D.replay n.toNat).length ≤ t + 1 ∧ (D.replay n.toNat).Under (f + 300) := by
    rcases one_or h.pend with e | ⟨x, e⟩
    · have : D.replay n.toNat = D.sure := by unfold Dk.replay; rw [e]; simp
      rw [this]
      exact ⟨by omega, h.sureU.mono (by omega)⟩
    · unfold Dk.replay
      rw [e]
      cases n.toNat with
      | zero => exact ⟨by simp; omega, by simpa using h.sureU.mono (by omega)⟩
      | succ k =>
        have hd := (h.data x (by rw [e]; simp)).1
        have hl := length_did_le D.sure x
        simp only [List.take_succ_cons, List.take_nil, List.foldl_cons, List.foldl_nil]
        exact ⟨by omega, did_under h.sureU (hd.imp (fun h => ⟨h.1, by omega⟩) (fun h => ⟨h.1, by omega⟩)) (by omega)⟩
  exact ⟨by simp [Dk.crash], by simp only [Dk.crash]; omega, key.1, key.2, key.1, key.2, by simp [Dk.crash], fun _ => rfl, by simp [Dk.crash]⟩
theorem put_len_le (F : Fs) (k v : Bs) : (F.put k v).length ≤ F.length + 1 := length_did_le F ⟨1, k, [], v⟩
theorem DInv.edit {D : Dk} {t f : Nat} (h : DInv D t f) (d : Bs) (hd : d.length ≤ 1000) : DInv (D.edit ringB d).1 (t + 1) (f + 1000) := by
  have h0 : DInv D (t + 1) (f + 1000) := h.mono (by omega) (by omega)
  unfold Dk.edit
  split
  · have h1 := put_len_le D.now ringB d
    have h2 := put_len_le D.sure ringB d
    have h3 := h.nowL; have h4 := h.sureL
    refine ⟨h0.fuse, h0.trace, by dsimp only; omega, h0.nowU.put (by omega), ?_, ?_, h0.pend, h0.live, h0.data⟩
    · dsimp only
      split <;> omega
    · dsimp only
      split
      · exact h0.sureU.put (by omega)
      · exact h0.sureU
  · exact h0
theorem dinv_new : DInv Dk.new 0 0 := ⟨by decide, by decide, by decide, (by intro p hp; cases hp), by decide, (by intro p hp; cases hp), by decide, fun _ => rfl, by intro e he; cases he⟩
end Go.Proofs.YtpkolkgndhagiaaGreat

/-! RgQ -/
/-! RgQ -/
namespace Go.Proofs.YtpkolkgndhagiaaGreat
open Go.RowKit Go.Maps

/-- The program's ring, or none. -/
def aR (a : Value) (d : Nat) : Option (List RRow) → Res
  | none => Res.pure (a = .pointer none)
  | some rs => Res.ex fun p : Nat => (Res.pure (a = .pointer (some ⟨p, 0, none⟩))).and (ringR p d (ringPuts rs))
/-- The document's ring, or none. -/
def bR (b : Value) (x : Nat) : Option (List RRow) → Res
  | none => Res.pure (b = .pointer none)
  | some rs => Res.ex fun q : Nat => (Res.pure (b = .pointer (some ⟨q, 0, none⟩))).and (rgR q x rs)
def RsOpt (o : Option (List RRow)) (k : Nat) : Prop := ∀ rs, o = some rs → RsOk rs k
theorem RsOpt.mono {o : Option (List RRow)} {k n : Nat} (h : RsOpt o k) (hk : k ≤ n) : RsOpt o n := fun rs e => ⟨(h rs e).1, Nat.le_trans (h rs e).2 hk⟩
theorem rsOpt_none {k : Nat} : RsOpt none k := fun _ e => by cases e
theorem RsOk.opt {rs : List RRow} {k n : Nat} (h : RsOk rs k) (hk : k ≤ n) : RsOpt (some rs) n := fun rs2 e => by
  cases e
  exact ⟨h.1, Nat.le_trans h.2 hk⟩
section
variable {w0 w : World} {L : List Res} {F0 : List Nat} {p q d x : Nat} {a b : Value} {rs : List RRow} {D : Dk} {t f : Nat}
theorem Sp.aNone (S : Sp w0 F0 w (aR a d none :: L)) : a = .pointer none := S.pureOpen.1
theorem Sp.bNone (S : Sp w0 F0 w (bR b x none :: L)) : b = .pointer none := S.pureOpen.1
theorem Sp.aSome (S : Sp w0 F0 w (aR a d (some rs) :: L)) : ∃ p, a = .pointer (some ⟨p, 0, none⟩) ∧ Sp w0 F0 w (ringR p d (ringPuts rs) :: L) := by
  obtain ⟨p, S⟩ := Sp.exOpen S
  obtain ⟨h, S⟩ := S.part.pureOpen
  exact ⟨p, h, S⟩
theorem Sp.bSome (S : Sp w0 F0 w (bR b x (some rs) :: L)) : ∃ q, b = .pointer (some ⟨q, 0, none⟩) ∧ Sp w0 F0 w (rgR q x rs :: L) := by
  obtain ⟨q, S⟩ := Sp.exOpen S
  obtain ⟨h, S⟩ := S.part.pureOpen
  exact ⟨q, h, S⟩
theorem Sp.aShut0 (S : Sp w0 F0 w L) : Sp w0 F0 w (aR (.pointer none) d none :: L) := S.pureShut rfl
theorem Sp.bShut0 (S : Sp w0 F0 w L) : Sp w0 F0 w (bR (.pointer none) x none :: L) := S.pureShut rfl
theorem Sp.aShut (S : Sp w0 F0 w (ringR p d (ringPuts rs) :: L)) : Sp w0 F0 w (aR (.pointer (some ⟨p, 0, none⟩)) d (some rs) :: L) := Sp.exShut p (S.pureShut rfl).glue
theorem Sp.bShut (S : Sp w0 F0 w (rgR q x rs :: L)) : Sp w0 F0 w (bR (.pointer (some ⟨q, 0, none⟩)) x (some rs) :: L) := Sp.exShut q (S.pureShut rfl).glue
theorem opA (h : DInv D t f) (ht : t ≤ 1000) (hf : f ≤ 100000) (S : Sp w0 F0 w (diskR d D :: L)) : Calls Tryz.prog 7 #[.pointer (some ⟨d, 0, none⟩)] w fun e w2 => ∃ a, e = .returned (.tuple #[a, .int .i64 (rgOpen D).2.2]) ∧ Sp w0 F0 w2 (aR a d (rgOpen D).2.1 :: diskR d (rgOpen D).1 :: L) :=
  (ringOpenS 100200000 D S (h.roomy ht hf) (by decide)).mono fun e w2 h => by
    unfold OpenPost at h
    rw [ringOpen_rg] at h
    dsimp only at h
    cases ho : (rgOpen D).2.1 with
    | none =>
      rw [ho] at h
      exact ⟨_, h.1, h.2.aShut0⟩
    | some rs =>
      rw [ho] at h
      obtain ⟨p, h1, h2⟩ := h
      exact ⟨_, h1, h2.aShut⟩
theorem opB (h : DInv D t f) (ht : t ≤ 1000) (hf : f ≤ 100000) (S : Sp w0 F0 w (rkR x D :: L)) : Calls Tryz.prog 8 #[.pointer (some ⟨x, 0, none⟩)] w fun e w2 => ∃ b, e = .returned (.tuple #[b, .int .i64 (rgOpen D).2.2]) ∧ Sp w0 F0 w2 (bR b x (rgOpen D).2.1 :: rkR x (rgOpen D).1 :: L) :=
  (rgOpenS h.ok (by omega) S).mono fun e w2 h => by
    unfold RgPost at h
    cases ho : (rgOpen D).2.1 with
    | none =>
      rw [ho] at h
      exact ⟨_, h.1, h.2.bShut0⟩
    | some rs =>
      rw [ho] at h
      obtain ⟨q, h1, h2⟩ := h
      exact ⟨_, h1, h2.bShut⟩
theorem editS (n e : Bs) (S : Sp w0 F0 w (diskR p D :: L)) (hs : D.now.length < 1000000000000) (hs2 : D.sure.length < 1000000000000) (hn : n.length ≤ maxLen) (hd : e.length ≤ maxLen) : Calls Tryz.prog 20 #[.pointer (some ⟨p, 0, none⟩), .string ⟨n.toArray⟩, .string ⟨e.toArray⟩] w fun r w2 => r = .returned (.int .i64 (D.edit n e).2) ∧ Sp w0 F0 w2 (diskR p (D.edit n e).1 :: L) := by
  obtain ⟨F, h, hk⟩ := S.disk
  exact (edit_any p F D n e w h hs hs2 hn hd).mono fun _ _ ⟨he, h2⟩ => ⟨he, hk _ _ h2⟩
theorem begA (key : Bs) {k : Nat} (h : DInv D t f) (ht : t ≤ 1000) (hf : f ≤ 100000) (hr : RsOk rs k) (hk : k ≤ 1000000) (hx : key.length ≤ 1000000) (S : Sp w0 F0 w (ringR p d (ringPuts rs) :: diskR d D :: L)) : Calls Tryz.prog 10 #[.pointer (some ⟨p, 0, none⟩), .string ⟨key.toArray⟩] w fun e w2 => e = .returned (.tuple #[.int .u64 (rgBegin D rs key).2.2.1, .int .i64 (rgBegin D rs key).2.2.2]) ∧ Sp w0 F0 w2 (ringR p d (ringPuts (rgBegin D rs key).2.1) :: diskR d (rgBegin D rs key).1 :: L) := by
  have h2 := ringBeginS key 100200000 D S hx (hr.ring hk) (h.roomy ht hf) (by decide)
  rw [ringBegin_rg] at h2
  exact h2
theorem endA (key : Bs) {k : Nat} (h : DInv D t f) (ht : t ≤ 1000) (hf : f ≤ 100000) (hr : RsOk rs k) (hk : k ≤ 1000000) (hx : key.length ≤ 1000000) (S : Sp w0 F0 w (ringR p d (ringPuts rs) :: diskR d D :: L)) : Calls Tryz.prog 12 #[.pointer (some ⟨p, 0, none⟩), .string ⟨key.toArray⟩] w fun e w2 => e = .returned (.int .i64 (rgEnd D rs key).2.2) ∧ Sp w0 F0 w2 (ringR p d (ringPuts (rgEnd D rs key).2.1) :: diskR d (rgEnd D rs key).1 :: L) := by
  have h2 := ringEndS key 100200000 D S hx (hr.ring hk) (h.roomy ht hf) (by decide)
  rw [ringEnd_rg] at h2
  exact h2
theorem begB (key : Bs) {k : Nat} (h : DInv D t f) (ht : t ≤ 1000) (hf : f ≤ 100000) (hr : RsOk rs k) (hk : k ≤ 1000000) (hx : key.length ≤ 1000000) (S : Sp w0 F0 w (rgR q x rs :: rkR x D :: L)) : Calls Tryz.prog 11 #[.pointer (some ⟨q, 0, none⟩), .string ⟨key.toArray⟩] w fun e w2 => e = .returned (.tuple #[.int .u64 (rgBegin D rs key).2.2.1, .int .i64 (rgBegin D rs key).2.2.2]) ∧ Sp w0 F0 w2 (rgR q x (rgBegin D rs key).2.1 :: rkR x (rgBegin D rs key).1 :: L) :=
  r14BeginS key hx (hr.st hk key).1 h.ok (by omega) (Nat.le_trans hr.2 (by omega)) S
theorem endB (key : Bs) {k : Nat} (h : DInv D t f) (ht : t ≤ 1000) (hf : f ≤ 100000) (hr : RsOk rs k) (hk : k ≤ 1000000) (hx : key.length ≤ 1000000) (S : Sp w0 F0 w (rgR q x rs :: rkR x D :: L)) : Calls Tryz.prog 13 #[.pointer (some ⟨q, 0, none⟩), .string ⟨key.toArray⟩] w fun e w2 => e = .returned (.int .i64 (rgEnd D rs key).2.2) ∧ Sp w0 F0 w2 (rgR q x (rgEnd D rs key).2.1 :: rkR x (rgEnd D rs key).1 :: L) :=
  r14EndS key hx (hr.st hk key).1 h.ok (by omega) (Nat.le_trans hr.2 (by omega)) S
theorem texts14 {v : Value} {l : List Bs} (S : Sp w0 F0 w (textsR v l :: L)) : TextsAt w v l := by
  obtain ⟨F, ⟨_, h⟩, _⟩ := S.take
  exact Strs.texts h
theorem same14 {va vb : Value} {l : List Bs} (S : Sp w0 F0 w (rgT q x rs vb l :: textsR va l :: L)) :
    Calls Tryz.prog 28 #[va, vb] w fun e w2 => e = .returned (.bool true) ∧ Sp w0 F0 w2 (rgR q x rs :: L) :=
  (same_any va vb l l w (texts14 S.pull1) S.rgtRg.1).mono fun _ _ ⟨he, hx⟩ => ⟨by rw [he]; simp, ((Sp.pick [_, _] [0] (by decide) (S.rgtRg.2))).ext0 hx⟩
end
end Go.Proofs.YtpkolkgndhagiaaGreat
