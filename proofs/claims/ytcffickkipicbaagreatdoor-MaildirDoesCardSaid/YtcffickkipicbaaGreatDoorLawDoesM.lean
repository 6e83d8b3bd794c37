/- MaildirDoes: its walk: mailboxes over the disk answer as the document's do. Printed by prmdoes.py. Condition: what Go's variables hold. -/
import Derived.Test.YtcffickkipicbaaGreatDoorR19v
import Derived.Test.YtcffickkipicbaaGreatDoorLawOrderM
import Derived.Deep.CutBlock
set_option linter.unusedSimpArgs false
set_option linter.unusedVariables false
set_option linter.unnecessarySimpa false
namespace Go.Proofs.YtcffickkipicbaaGreatDoor
open Go.RowKit Go.Sort Go.Maps

section
variable {w0 w : World} {F0 : List Nat} {L : List Res} {v va vb : Value} {l m : List Bs}
theorem same19 (h : l = m) (S : Sp w0 F0 w L) (ha : TextsAt w va l) (hb : TextsAt w vb m) : Calls Tryz.prog 35 #[va, vb] w fun e w2 => e = .returned (.bool true) ∧ Sp w0 F0 w2 L :=
  (same_any va vb l m w ha hb).mono fun _ _ ⟨he, hx⟩ => ⟨by rw [he]; simp [h], S.ext0 hx⟩
theorem tk_texts (S : Sp w0 F0 w (tkR v l :: L)) : TextsAt w v l := by
  obtain ⟨K, h, S2⟩ := S.tkOpen
  exact S2.romTx h
end
set_option maxRecDepth 100000 in
set_option maxHeartbeats 40000000 in
theorem maildirDoes_walk (v : Value) (l : List ActM) (box : Int) (W : World) (E : Env W) (hl : ActMsAt W v l) (_hbx : -9223372036854775808 ≤ box ∧ box ≤ 9223372036854775807) :
    Calls Tryz.prog 7 #[v, .int .i64 box] W fun e w2 => e = .returned (.bool true) ∧ Ext [] W w2 := by
  have HS0 := Lib.hid (Sp.nil W [])
  have HE := Lib.hid E
  have HAT := Lib.hid hl
  obtain ⟨a, cap, rfl, hlen, hwf, _⟩ := hl
  have HW := Lib.hid hwf
  unfold maxLen at hlen
  have hlen' : (l.length : Int) ≤ 9223372036854775807 := by omega
  clear hwf hlen E
  go_enter Tryz.func7, Tryz.ntmps7
  go_wp2_with fail
  refine (awake19S HS0.out HE.out).mono ?_
  rintro e w1 ⟨rfl, S⟩
  have HS1 := Lib.hid S
  clear S
  go_wp2_with fail
  refine (newS HS1.out).mono ?_
  rintro e w2 ⟨d, rfl, S⟩
  have HS2 := Lib.hid S
  clear S HS1
  go_wp2_with fail
  refine (rNewS HS2.out).mono ?_
  rintro e w3 ⟨x, rfl, S⟩
  have HS3 := Lib.hid S
  clear S HS2
  have HS4 := Lib.hid HS3.out.pull1
  clear HS3
  go_wp2_with fail
  go_loopw [7] (fun z wr => ∃ (i : Nat) (D : Dk), z = .int .i64 i ∧ i ≤ l.length ∧ i ≤ 60 ∧ MInv D i (5000 * i) ∧ Sp W [] wr (diskR d D :: rkR x D :: [])) (fun z _ => 60 - (intOf z).toNat)
  case atStart => exact ⟨0, _, rfl, by omega, by omega, minv_new, HS4.out⟩
  case round =>
    clear HS4
    obtain ⟨i, D, rfl, hi1, hi2, hI, S5⟩ := hrel
    have HI := Lib.hid hI
    have HS5 := Lib.hid S5
    clear hI S5
    by_cases hlt : i < l.length ∧ i < 60
    · obtain ⟨hlt1, hlt2⟩ := hlt
      have hlt1' : (i : Int) < l.length := by omega
      have hlt2' : (i : Int) < 60 := by omega
      have hwf := HW.out i hlt1
      obtain ⟨a', cap', he, _, _, hrow⟩ := HAT.out.ext HS5.out.ext
      cases he
      obtain ⟨b, off, rfl⟩ := hrow.addr (i := i) (by simpa using hlt1)
      obtain ⟨c0, c1, c2, c3, c4, c5, c6⟩ := actM_cells hrow i hlt1
      have HTM := Lib.hid hwf.textL
      have HNL := Lib.hid hwf.nameL
      have HN2 := Lib.hid hwf.n2
      have hid1 := hwf.id1
      generalize l[i] = y at *
      obtain ⟨kd, nn, bx, rc, id, text, name⟩ := y
      dsimp only at *
      obtain ⟨id, rfl⟩ : ∃ k : Nat, id = k := ⟨id.toNat, by omega⟩
      clear hwf hrow hid1
      have HS6 := Lib.hid (HS5.out.box #[.int .i64 kd, .int .i64 nn, .int .i64 bx, .int .i64 rc, .int .u64 id, .string ⟨text.toArray⟩, .string ⟨name.toArray⟩] 35)
      clear HS5
      go_wp2_with fail
      refine (large19S kd nn bx rc id text name HS6.out HTM.out HNL.out).mono ?_
      rintro e w7 ⟨rfl, S⟩
      by_cases hbig : (decide (1000 < text.length) || decide (200 < name.length)) = true
      · have HS7 := Lib.hid S
        clear S
        go_wp2
        go_ret
        exact ⟨rfl, HS7.out.ext⟩
      · rw [Bool.not_eq_true] at hbig
        have HTX : Hid (text.length ≤ 1000) := by simp at hbig; exact hbig.1
        have HNM : Hid (name.length ≤ 200) := by simp at hbig; exact hbig.2
        generalize wr.heap.size = yq at *
        have HS7 := Lib.hid S
        have c7 := S.cell
        rw [hbig]
        clear S HS6 hbig c0 c1 c2 c3 c4 c5 c6 HTM HNL
        have HCF := Lib.hid (HI.out.ok.crashFit (by omega))
        go_upto_block 2 with (fail)
        go_cut [] (fun wx => ∃ D, MInv D (i + 1) (5000 * i + 5000) ∧ Sp W [] wx (boxR yq #[.int .i64 kd, .int .i64 nn, .int .i64 bx, .int .i64 rc, .int .u64 id, .string ⟨text.toArray⟩, .string ⟨name.toArray⟩] 35 :: diskR d D :: rkR x D :: []))
        case first =>
          by_cases hk0 : kd = 0
          · as_aux_lemma =>
              subst hk0
              have HWI := Lib.hid (HI.out.deliver bx id rc text)
              have HWA := Lib.hid (fun (W2 : World) (L' : List Res) (S : Sp W [] W2 (diskR d D :: L')) => mdDeliverS bx id rc text (5000 * i) S HE.out HI.out.ok (by omega) (by have := HTX.out; omega))
              have HWB := Lib.hid (fun (W2 : World) (L' : List Res) (S : Sp W [] W2 (rkR x D :: L')) => r19DeliverS bx id rc text HI.out.ok (by omega) (by have := HTX.out; omega) S)
              have HS8 := Lib.hid ((Sp.pick [_, _, _] [1, 2, 0] (by decide) (HS7.out)))
              generalize mdDeliver D bx id rc text = R at *
              obtain ⟨R1, R2⟩ := R
              dsimp only at *
              go_upto_region 12 with (fail)
              clear c7
              refine wp_region_chainG [0, 1, 2, 3, 4, 5, 6, 7, 8, 10, 11, 12, 13, 14, 15, 16, 17, 18, 9, 19, 20] (fun c => c == 9 || c == 19) (fun c => false) (T := fun wx => (∀ o, wx.cell? ⟨yq, o, none⟩ = (#[.int .i64 0, .int .i64 nn, .int .i64 bx, .int .i64 rc, .int .u64 id, .string ⟨text.toArray⟩, .string ⟨name.toArray⟩] : Array Value)[o]?)) (S := fun wx => Sp W [] wx (diskR d D :: rkR x D :: boxR yq #[.int .i64 0, .int .i64 nn, .int .i64 bx, .int .i64 rc, .int .u64 id, .string ⟨text.toArray⟩, .string ⟨name.toArray⟩] 35 :: [])) (by kernel_rfl) (by kernel_rfl) (by kernel_rfl) HS8.out.drew (fun x h => h.pull2.cell) ?_
              repeat
                refine Exists.intro _ (And.intro rfl (Or.inl (Exists.intro ?_ (And.intro (fun wS hS K hK => ?_) (And.intro ?_ ?_)))))
                rotate_left 1
                · have t0 := hS
                  first
                    | (refine if_unwanted rfl ?_; simp only [Act.put, List.setIfInBounds_toArray, List.set_cons_zero, List.set_cons_succ]; exact hK.out)
                    | (refine if_wanted rfl ?_; go_simp; exact hK.out)
                · rfl
              refine ChainG.one rfl rfl rfl (fun wS hS R hR => ?_)
              go_simp
              go_at_call 16
              refine (HWA.out _ _ hS).mono ?_
              rintro e w7 ⟨rfl, S7⟩
              refine hR.out _ _ rfl (fun wx => (∀ o, wx.cell? ⟨yq, o, none⟩ = (#[.int .i64 0, .int .i64 nn, .int .i64 bx, .int .i64 rc, .int .u64 id, .string ⟨text.toArray⟩, .string ⟨name.toArray⟩] : Array Value)[o]?)) (fun wx => Sp W [] wx (diskR d R1 :: rkR x D :: boxR yq #[.int .i64 0, .int .i64 nn, .int .i64 bx, .int .i64 rc, .int .u64 id, .string ⟨text.toArray⟩, .string ⟨name.toArray⟩] 35 :: [])) S7 (fun x h => h.pull2.cell) (fun _ h => h) ?_
              clear hR hS S7
              repeat
                refine Exists.intro _ (And.intro rfl (Or.inl (Exists.intro ?_ (And.intro (fun wS hS K hK => ?_) (And.intro ?_ ?_)))))
                rotate_left 1
                · have t0 := hS
                  first
                    | (refine if_unwanted rfl ?_; simp only [Act.put, List.setIfInBounds_toArray, List.set_cons_zero, List.set_cons_succ]; exact hK.out)
                    | (refine if_wanted rfl ?_; go_simp; exact hK.out)
                · rfl
              refine ChainG.one rfl rfl rfl (fun wS hS R hR => ?_)
              go_simp
              go_at_call 26
              refine (HWB.out _ _ hS.pull1).mono ?_
              rintro e w7 ⟨rfl, S7⟩
              refine hR.out _ _ rfl (fun wx => (∀ o, wx.cell? ⟨yq, o, none⟩ = (#[.int .i64 0, .int .i64 nn, .int .i64 bx, .int .i64 rc, .int .u64 id, .string ⟨text.toArray⟩, .string ⟨name.toArray⟩] : Array Value)[o]?)) (fun wx => Sp W [] wx (diskR d R1 :: rkR x R1 :: boxR yq #[.int .i64 0, .int .i64 nn, .int .i64 bx, .int .i64 rc, .int .u64 id, .string ⟨text.toArray⟩, .string ⟨name.toArray⟩] 35 :: [])) S7.pull1 (fun x h => h.pull2.cell) (fun _ h => h) ?_
              clear hR hS S7
              repeat
                refine Exists.intro _ (And.intro rfl (Or.inl (Exists.intro ?_ (And.intro (fun wS hS K hK => ?_) (And.intro ?_ ?_)))))
                rotate_left 1
                · have t0 := hS
                  first
                    | (refine if_unwanted rfl ?_; simp only [Act.put, List.setIfInBounds_toArray, List.set_cons_zero, List.set_cons_succ]; exact hK.out)
                    | (refine if_wanted rfl ?_; go_simp; exact hK.out)
                · rfl
              intro wE hE
              have HSE := Lib.hid hE
              clear hE
              have HS9 := Lib.hid HSE.out
              clear HSE HS8
              go_wp2_with fail
              go_meet
              exact ⟨R1, HWI.out.mono (by omega) (by have := HTX.out; omega), (Sp.pick [_, _, _] [2, 0, 1] (by decide) (HS9.out))⟩
          by_cases hk1 : kd = 1
          · as_aux_lemma =>
              subst hk1
              have HSa := Lib.hid ((Sp.pick [_, _, _] [1, 2, 0] (by decide) (HS7.out)))
              have HNT := Lib.hid (HI.out.names tmpB)
              have HWI := Lib.hid HI.out.recover
              have HWA := Lib.hid (mdRecoverS (5000 * i) HSa.out HI.out.ok (by omega) (by have := HNT.out.1; omega) (fun n hn => by have := HNT.out.2 n hn; omega))
              have HWB := Lib.hid (fun (W2 : World) (L' : List Res) (S : Sp W [] W2 (rkR x D :: L')) => r19RecoverS HI.out.ok (by omega) (by have := HNT.out.1; omega) (fun n hn => by have := HNT.out.2 n hn; omega) S)
              generalize mdRecover D = R at *
              obtain ⟨R1, R2⟩ := R
              dsimp only at *
              go_wp2_with fail
              refine HWA.out.mono ?_
              rintro e w8 ⟨rfl, S⟩
              have HS9 := Lib.hid ((Sp.pick [_, _, _] [1, 0, 2] (by decide) (S)))
              clear S c7 HSa HWA
              go_wp2_with fail
              refine (HWB.out _ _ HS9.out).mono ?_
              rintro e w9 ⟨rfl, S⟩
              have HS10 := Lib.hid ((Sp.pick [_, _, _] [2, 1, 0] (by decide) (S)))
              clear S HS9 HWB
              go_wp2_with fail
              go_meet
              exact ⟨R1, HWI.out.mono (by omega) (by omega), HS10.out⟩
          by_cases hk2 : kd = 2
          · as_aux_lemma =>
              subst hk2
              have HSa := Lib.hid ((Sp.pick [_, _, _] [1, 2, 0] (by decide) (HS7.out)))
              go_wp2_with fail
              refine (fuseS nn HSa.out).mono ?_
              rintro e w8 ⟨rfl, S⟩
              have c8 := ((Sp.pick [_, _, _] [2] (by decide) (S))).cell
              have HS9 := Lib.hid ((Sp.pick [_, _, _] [1, 0, 2] (by decide) (S)))
              clear S c7 HSa
              go_wp2_with fail
              refine (rFuseS nn HS9.out).mono ?_
              rintro e w9 ⟨rfl, S⟩
              have HS10 := Lib.hid ((Sp.pick [_, _, _] [2, 1, 0] (by decide) (S)))
              clear S c8 HS9
              go_wp2_with fail
              go_meet
              exact ⟨D.setFuse nn, (HI.out.fuse nn HN2.out).mono (by omega) (by omega), HS10.out⟩
          by_cases hk3 : kd = 3
          · as_aux_lemma =>
              subst hk3
              have HSa := Lib.hid ((Sp.pick [_, _, _] [1, 2, 0] (by decide) (HS7.out)))
              go_wp2_with fail
              refine (crashS nn HSa.out HCF.out).mono ?_
              rintro e w8 ⟨rfl, S⟩
              have c8 := ((Sp.pick [_, _, _] [2] (by decide) (S))).cell
              have HS9 := Lib.hid ((Sp.pick [_, _, _] [1, 0, 2] (by decide) (S)))
              clear S c7 HSa
              go_wp2_with fail
              refine (rCrashS nn HI.out.ok (by omega) HS9.out).mono ?_
              rintro e w9 ⟨rfl, S⟩
              have HS10 := Lib.hid ((Sp.pick [_, _, _] [2, 1, 0] (by decide) (S)))
              clear S c8 HS9
              go_wp2_with fail
              go_meet
              exact ⟨D.crash nn, (HI.out.crash nn).mono (by omega) (by omega), HS10.out⟩
          by_cases hk4 : kd = 4
          · as_aux_lemma =>
              subst hk4
              have HSa := Lib.hid ((Sp.pick [_, _, _] [1, 2, 0] (by decide) (HS7.out)))
              go_wp2_with fail
              refine (quotaS nn HSa.out).mono ?_
              rintro e w8 ⟨rfl, S⟩
              have c8 := ((Sp.pick [_, _, _] [2] (by decide) (S))).cell
              have HS9 := Lib.hid ((Sp.pick [_, _, _] [1, 0, 2] (by decide) (S)))
              clear S c7 HSa
              go_wp2_with fail
              refine (rQuotaS nn HS9.out).mono ?_
              rintro e w9 ⟨rfl, S⟩
              have HS10 := Lib.hid ((Sp.pick [_, _, _] [2, 1, 0] (by decide) (S)))
              clear S c8 HS9
              go_wp2_with fail
              go_meet
              exact ⟨{ D with quota := max nn 0 }, (HI.out.quota _).mono (by omega) (by omega), HS10.out⟩
          by_cases hk5 : kd = 5
          · as_aux_lemma =>
              subst hk5
              have HSa := Lib.hid ((Sp.pick [_, _, _] [1, 2, 0] (by decide) (HS7.out)))
              have HWI := Lib.hid (HI.out.write name text)
              have HWA := Lib.hid (writeS name text HSa.out (HI.out.ok.small (by omega)) (by have := HNM.out; omega) (by have := HTX.out; omega))
              have HWB := Lib.hid (fun (W2 : World) (L' : List Res) (S : Sp W [] W2 (rkR x D :: L')) => rWriteS name text HI.out.ok (by omega) (by have := HNM.out; omega) (by have := HTX.out; omega) S)
              generalize D.write name text = R at *
              obtain ⟨R1, R2⟩ := R
              dsimp only at *
              go_wp2_with fail
              refine HWA.out.mono ?_
              rintro e w8 ⟨rfl, S⟩
              have c8 := ((Sp.pick [_, _, _] [2] (by decide) (S))).cell
              have HS9 := Lib.hid ((Sp.pick [_, _, _] [1, 0, 2] (by decide) (S)))
              clear S c7 HSa HWA
              go_wp2_with fail
              refine (HWB.out _ _ HS9.out).mono ?_
              rintro e w9 ⟨rfl, S⟩
              have HS10 := Lib.hid ((Sp.pick [_, _, _] [2, 1, 0] (by decide) (S)))
              clear S c8 HS9 HWB
              go_wp2_with fail
              go_meet
              exact ⟨R1, HWI.out.mono (by omega) (by have := HTX.out; have := HNM.out; omega), HS10.out⟩
          as_aux_lemma =>
            have t0 : (kd == 0) = false := by simpa using hk0
            have t1 : (kd == 1) = false := by simpa using hk1
            have t2 : (kd == 2) = false := by simpa using hk2
            have t3 : (kd == 3) = false := by simpa using hk3
            have t4 : (kd == 4) = false := by simpa using hk4
            have t5 : (kd == 5) = false := by simpa using hk5
            clear hk0 hk1 hk2 hk3 hk4 hk5
            go_wp2_with fail
            go_meet
            exact ⟨D, HI.out.mono (by omega) (by omega), HS7.out⟩
        case rest =>
          clear HI HCF HS7 c7
          obtain ⟨D, hI, S5⟩ := hcut
          have HI := Lib.hid hI
          have HS7 := Lib.hid S5
          clear hI S5
          as_aux_lemma =>
            have HNA := Lib.hid (HI.out.names newB)
            have HOK := Lib.hid HI.out.ok
            have HFL := Lib.hid HI.out.hist.good.1
            have HL1 := Lib.hid (fun (W2 : World) (L' : List Res) (S : Sp W [] W2 (diskR d D :: L')) => listS [] S (by have := HFL.out; omega))
            have HR1 := Lib.hid (fun (W2 : World) (L' : List Res) (S : Sp W [] W2 (rkR x D :: L')) => rListS [] (by have := HFL.out; omega) S)
            have HL2 := Lib.hid (fun (W2 : World) (L' : List Res) (S : Sp W [] W2 (diskR d D :: L')) => mdListS box (5000 * i + 5000) S HE.out HOK.out (by omega) (fun n hn => by have := HNA.out.2 n hn; omega))
            have HR2 := Lib.hid (fun (W2 : World) (L' : List Res) (S : Sp W [] W2 (rkR x D :: L')) => r19ListS box (by have := HFL.out; omega) (fun n hn => by have := HNA.out.2 n hn; omega) S)
            have HL3 := Lib.hid (fun (W2 : World) (L' : List Res) (S : Sp W [] W2 (diskR d D :: L')) => mdTextsS bx (5000 * i + 5000) S HE.out HOK.out (by omega) (fun n hn => by have := HNA.out.2 n hn; omega))
            have HR3 := Lib.hid (fun (W2 : World) (L' : List Res) (S : Sp W [] W2 (rkR x D :: L')) => r19TextsS bx (by have := HFL.out; omega) (fun n hn => by have := HNA.out.2 n hn; omega) S)
            have HL4 := Lib.hid (fun (W2 : World) (L' : List Res) (S : Sp W [] W2 (diskR d D :: L')) => mdHasS bx id rc S HE.out)
            have HR4 := Lib.hid (fun (W2 : World) (L' : List Res) (S : Sp W [] W2 (rkR x D :: L')) => r19HasS bx id rc (by have := HFL.out; omega) S)
            have HS8 := Lib.hid ((Sp.pick [_, _, _] [1, 2, 0] (by decide) (HS7.out)))
            clear HS7
            generalize mdHas D bx id rc = mh at *
            generalize D.now.names [] = ns at *
            go_upto_region 29 with (fail)
            refine wp_region_chainG [0, 2, 1, 3, 4, 5, 6, 7, 8, 10, 11, 9, 12, 13, 14, 15, 16, 17, 18, 19, 21, 22, 23, 20, 24, 25, 26, 27, 28, 29, 30, 31, 32, 33, 34, 35, 37, 38, 39, 40, 41, 42, 43, 36, 44, 45, 46] (fun c => c == 1 || c == 3 || c == 4 || c == 9 || c == 12 || c == 13 || c == 20 || c == 24 || c == 25 || c == 36 || c == 44) (fun c => false) (T := fun wx => (∀ o, wx.cell? ⟨yq, o, none⟩ = (#[.int .i64 kd, .int .i64 nn, .int .i64 bx, .int .i64 rc, .int .u64 id, .string ⟨text.toArray⟩, .string ⟨name.toArray⟩] : Array Value)[o]?)) (S := fun wx => Sp W [] wx (diskR d D :: rkR x D :: boxR yq #[.int .i64 kd, .int .i64 nn, .int .i64 bx, .int .i64 rc, .int .u64 id, .string ⟨text.toArray⟩, .string ⟨name.toArray⟩] 35 :: [])) (by kernel_rfl) (by kernel_rfl) (by kernel_rfl) HS8.out.drew (fun x h => h.pull2.cell) ?_
            repeat
              refine Exists.intro _ (And.intro rfl (Or.inl (Exists.intro ?_ (And.intro (fun wS hS K hK => ?_) (And.intro ?_ ?_)))))
              rotate_left 1
              · have t0 := hS
                first
                  | (refine if_unwanted rfl ?_; simp only [Act.put, List.setIfInBounds_toArray, List.set_cons_zero, List.set_cons_succ]; exact hK.out)
                  | (refine if_wanted rfl ?_; go_simp; exact hK.out)
              · rfl
            refine ChainG.one rfl rfl rfl (fun wS hS R hR => ?_)
            go_simp
            go_at_call 19
            refine (HL1.out _ _ hS).mono ?_
            rintro e w7 ⟨v1, rfl, S7⟩
            refine hR.out _ _ rfl (fun wx => (∀ o, wx.cell? ⟨yq, o, none⟩ = (#[.int .i64 kd, .int .i64 nn, .int .i64 bx, .int .i64 rc, .int .u64 id, .string ⟨text.toArray⟩, .string ⟨name.toArray⟩] : Array Value)[o]?)) (fun wx => Sp W [] wx (rkR x D :: textsR v1 ns :: diskR d D :: boxR yq #[.int .i64 kd, .int .i64 nn, .int .i64 bx, .int .i64 rc, .int .u64 id, .string ⟨text.toArray⟩, .string ⟨name.toArray⟩] 35 :: [])) (Sp.pick [_, _, _, _] [2, 0, 1, 3] (by decide) (S7)) (fun x h => h.pull3.cell) (fun _ h => h) ?_
            clear hR hS S7
            repeat
              refine Exists.intro _ (And.intro rfl (Or.inl (Exists.intro ?_ (And.intro (fun wS hS K hK => ?_) (And.intro ?_ ?_)))))
              rotate_left 1
              · have t0 := hS
                first
                  | (refine if_unwanted rfl ?_; simp only [Act.put, List.setIfInBounds_toArray, List.set_cons_zero, List.set_cons_succ]; exact hK.out)
                  | (refine if_wanted rfl ?_; go_simp; exact hK.out)
              · rfl
            refine ChainG.one rfl rfl rfl (fun wS hS R hR => ?_)
            go_simp
            go_at_call 36
            refine (HR1.out _ _ hS).mono ?_
            rintro e w7 ⟨v2, rfl, S7⟩
            refine hR.out _ _ rfl (fun wx => (∀ o, wx.cell? ⟨yq, o, none⟩ = (#[.int .i64 kd, .int .i64 nn, .int .i64 bx, .int .i64 rc, .int .u64 id, .string ⟨text.toArray⟩, .string ⟨name.toArray⟩] : Array Value)[o]?)) (fun wx => Sp W [] wx (textsR v2 ns :: textsR v1 ns :: diskR d D :: rkR x D :: boxR yq #[.int .i64 kd, .int .i64 nn, .int .i64 bx, .int .i64 rc, .int .u64 id, .string ⟨text.toArray⟩, .string ⟨name.toArray⟩] 35 :: [])) (Sp.pick [_, _, _, _, _] [0, 2, 3, 1, 4] (by decide) (S7)) (fun x h => h.pull4.cell) (fun _ h => h) ?_
            clear hR hS S7
            repeat
              refine Exists.intro _ (And.intro rfl (Or.inl (Exists.intro ?_ (And.intro (fun wS hS K hK => ?_) (And.intro ?_ ?_)))))
              rotate_left 1
              · have t0 := hS
                first
                  | (refine if_unwanted rfl ?_; simp only [Act.put, List.setIfInBounds_toArray, List.set_cons_zero, List.set_cons_succ]; exact hK.out)
                  | (refine if_wanted rfl ?_; go_simp; exact hK.out)
              · rfl
            refine ChainG.one rfl rfl rfl (fun wS hS R hR => ?_)
            go_simp
            go_at_call 35
            refine (same19 rfl ((Sp.pick [_, _, _, _, _] [2, 3, 4] (by decide) (hS))) (texts_of hS.pull1) (texts_of hS)).mono ?_
            rintro e w7 ⟨rfl, S7⟩
            refine hR.out _ _ rfl (fun wx => (∀ o, wx.cell? ⟨yq, o, none⟩ = (#[.int .i64 kd, .int .i64 nn, .int .i64 bx, .int .i64 rc, .int .u64 id, .string ⟨text.toArray⟩, .string ⟨name.toArray⟩] : Array Value)[o]?)) (fun wx => Sp W [] wx (diskR d D :: rkR x D :: boxR yq #[.int .i64 kd, .int .i64 nn, .int .i64 bx, .int .i64 rc, .int .u64 id, .string ⟨text.toArray⟩, .string ⟨name.toArray⟩] 35 :: [])) S7 (fun x h => h.pull2.cell) (fun _ h => h) ?_
            clear hR hS S7
            repeat
              refine Exists.intro _ (And.intro rfl (Or.inl (Exists.intro ?_ (And.intro (fun wS hS K hK => ?_) (And.intro ?_ ?_)))))
              rotate_left 1
              · have t0 := hS
                first
                  | (refine if_unwanted rfl ?_; simp only [Act.put, List.setIfInBounds_toArray, List.set_cons_zero, List.set_cons_succ]; exact hK.out)
                  | (refine if_wanted rfl ?_; go_simp; exact hK.out)
              · rfl
            refine ChainG.one rfl rfl rfl (fun wS hS R hR => ?_)
            go_simp
            go_at_call 17
            refine (HL2.out _ _ hS).mono ?_
            rintro e w7 ⟨v3, l3, rfl, hs3, S7⟩
            refine hR.out _ _ rfl (fun wx => (∀ o, wx.cell? ⟨yq, o, none⟩ = (#[.int .i64 kd, .int .i64 nn, .int .i64 bx, .int .i64 rc, .int .u64 id, .string ⟨text.toArray⟩, .string ⟨name.toArray⟩] : Array Value)[o]?)) (fun wx => Sp W [] wx (rkR x D :: textsR v3 l3 :: diskR d D :: boxR yq #[.int .i64 kd, .int .i64 nn, .int .i64 bx, .int .i64 rc, .int .u64 id, .string ⟨text.toArray⟩, .string ⟨name.toArray⟩] 35 :: [])) (Sp.pick [_, _, _, _] [2, 0, 1, 3] (by decide) (S7)) (fun x h => h.pull3.cell) (fun _ h => h) ?_
            clear hR hS S7
            repeat
              refine Exists.intro _ (And.intro rfl (Or.inl (Exists.intro ?_ (And.intro (fun wS hS K hK => ?_) (And.intro ?_ ?_)))))
              rotate_left 1
              · have t0 := hS
                first
                  | (refine if_unwanted rfl ?_; simp only [Act.put, List.setIfInBounds_toArray, List.set_cons_zero, List.set_cons_succ]; exact hK.out)
                  | (refine if_wanted rfl ?_; go_simp; exact hK.out)
              · rfl
            refine ChainG.one rfl rfl rfl (fun wS hS R hR => ?_)
            go_simp
            go_at_call 37
            refine (HR2.out _ _ hS).mono ?_
            rintro e w7 ⟨v4, l4, rfl, hs4, S7⟩
            refine hR.out _ _ rfl (fun wx => (∀ o, wx.cell? ⟨yq, o, none⟩ = (#[.int .i64 kd, .int .i64 nn, .int .i64 bx, .int .i64 rc, .int .u64 id, .string ⟨text.toArray⟩, .string ⟨name.toArray⟩] : Array Value)[o]?)) (fun wx => Sp W [] wx (tkR v4 l4 :: textsR v3 l3 :: diskR d D :: rkR x D :: boxR yq #[.int .i64 kd, .int .i64 nn, .int .i64 bx, .int .i64 rc, .int .u64 id, .string ⟨text.toArray⟩, .string ⟨name.toArray⟩] 35 :: [])) (Sp.pick [_, _, _, _, _] [0, 2, 3, 1, 4] (by decide) (S7)) (fun x h => h.pull4.cell) (fun _ h => h) ?_
            clear hR hS S7
            repeat
              refine Exists.intro _ (And.intro rfl (Or.inl (Exists.intro ?_ (And.intro (fun wS hS K hK => ?_) (And.intro ?_ ?_)))))
              rotate_left 1
              · have t0 := hS
                first
                  | (refine if_unwanted rfl ?_; simp only [Act.put, List.setIfInBounds_toArray, List.set_cons_zero, List.set_cons_succ]; exact hK.out)
                  | (refine if_wanted rfl ?_; go_simp; exact hK.out)
              · rfl
            refine ChainG.one rfl rfl rfl (fun wS hS R hR => ?_)
            go_simp
            go_at_call 35
            refine (same19 (md_unique hs3 hs4) ((Sp.pick [_, _, _, _, _] [2, 3, 4] (by decide) (hS))) (texts_of hS.pull1) (tk_texts hS)).mono ?_
            rintro e w7 ⟨rfl, S7⟩
            refine hR.out _ _ rfl (fun wx => (∀ o, wx.cell? ⟨yq, o, none⟩ = (#[.int .i64 kd, .int .i64 nn, .int .i64 bx, .int .i64 rc, .int .u64 id, .string ⟨text.toArray⟩, .string ⟨name.toArray⟩] : Array Value)[o]?)) (fun wx => Sp W [] wx (diskR d D :: rkR x D :: boxR yq #[.int .i64 kd, .int .i64 nn, .int .i64 bx, .int .i64 rc, .int .u64 id, .string ⟨text.toArray⟩, .string ⟨name.toArray⟩] 35 :: [])) S7 (fun x h => h.pull2.cell) (fun _ h => h) ?_
            clear hR hS S7
            repeat
              refine Exists.intro _ (And.intro rfl (Or.inl (Exists.intro ?_ (And.intro (fun wS hS K hK => ?_) (And.intro ?_ ?_)))))
              rotate_left 1
              · have t0 := hS
                first
                  | (refine if_unwanted rfl ?_; simp only [Act.put, List.setIfInBounds_toArray, List.set_cons_zero, List.set_cons_succ]; exact hK.out)
                  | (refine if_wanted rfl ?_; go_simp; exact hK.out)
              · rfl
            refine ChainG.one rfl rfl rfl (fun wS hS R hR => ?_)
            go_simp
            go_at_call 18
            refine (HL3.out _ _ hS).mono ?_
            rintro e w7 ⟨v5, l5, rfl, hs5, S7⟩
            refine hR.out _ _ rfl (fun wx => (∀ o, wx.cell? ⟨yq, o, none⟩ = (#[.int .i64 kd, .int .i64 nn, .int .i64 bx, .int .i64 rc, .int .u64 id, .string ⟨text.toArray⟩, .string ⟨name.toArray⟩] : Array Value)[o]?)) (fun wx => Sp W [] wx (rkR x D :: textsR v5 (l5.map (mdText D.now)) :: diskR d D :: boxR yq #[.int .i64 kd, .int .i64 nn, .int .i64 bx, .int .i64 rc, .int .u64 id, .string ⟨text.toArray⟩, .string ⟨name.toArray⟩] 35 :: [])) (Sp.pick [_, _, _, _] [2, 0, 1, 3] (by decide) (S7)) (fun x h => h.pull3.cell) (fun _ h => h) ?_
            clear hR hS S7
            repeat
              refine Exists.intro _ (And.intro rfl (Or.inl (Exists.intro ?_ (And.intro (fun wS hS K hK => ?_) (And.intro ?_ ?_)))))
              rotate_left 1
              · have t0 := hS
                first
                  | (refine if_unwanted rfl ?_; simp only [Act.put, List.setIfInBounds_toArray, List.set_cons_zero, List.set_cons_succ]; exact hK.out)
                  | (refine if_wanted rfl ?_; go_simp; exact hK.out)
              · rfl
            refine ChainG.one rfl rfl rfl (fun wS hS R hR => ?_)
            go_simp
            go_at_call 38
            refine (HR3.out _ _ hS).mono ?_
            rintro e w7 ⟨v6, l6, rfl, hs6, S7⟩
            refine hR.out _ _ rfl (fun wx => (∀ o, wx.cell? ⟨yq, o, none⟩ = (#[.int .i64 kd, .int .i64 nn, .int .i64 bx, .int .i64 rc, .int .u64 id, .string ⟨text.toArray⟩, .string ⟨name.toArray⟩] : Array Value)[o]?)) (fun wx => Sp W [] wx (textsR v6 (l6.map (mdText D.now)) :: textsR v5 (l5.map (mdText D.now)) :: diskR d D :: rkR x D :: boxR yq #[.int .i64 kd, .int .i64 nn, .int .i64 bx, .int .i64 rc, .int .u64 id, .string ⟨text.toArray⟩, .string ⟨name.toArray⟩] 35 :: [])) (Sp.pick [_, _, _, _, _] [0, 2, 3, 1, 4] (by decide) (S7)) (fun x h => h.pull4.cell) (fun _ h => h) ?_
            clear hR hS S7
            repeat
              refine Exists.intro _ (And.intro rfl (Or.inl (Exists.intro ?_ (And.intro (fun wS hS K hK => ?_) (And.intro ?_ ?_)))))
              rotate_left 1
              · have t0 := hS
                first
                  | (refine if_unwanted rfl ?_; simp only [Act.put, List.setIfInBounds_toArray, List.set_cons_zero, List.set_cons_succ]; exact hK.out)
                  | (refine if_wanted rfl ?_; go_simp; exact hK.out)
              · rfl
            refine ChainG.one rfl rfl rfl (fun wS hS R hR => ?_)
            go_simp
            go_at_call 35
            refine (same19 (congrArg (List.map (mdText D.now)) (md_unique hs5 hs6)) ((Sp.pick [_, _, _, _, _] [2, 3, 4] (by decide) (hS))) (texts_of hS.pull1) (texts_of hS)).mono ?_
            rintro e w7 ⟨rfl, S7⟩
            refine hR.out _ _ rfl (fun wx => (∀ o, wx.cell? ⟨yq, o, none⟩ = (#[.int .i64 kd, .int .i64 nn, .int .i64 bx, .int .i64 rc, .int .u64 id, .string ⟨text.toArray⟩, .string ⟨name.toArray⟩] : Array Value)[o]?)) (fun wx => Sp W [] wx (diskR d D :: rkR x D :: boxR yq #[.int .i64 kd, .int .i64 nn, .int .i64 bx, .int .i64 rc, .int .u64 id, .string ⟨text.toArray⟩, .string ⟨name.toArray⟩] 35 :: [])) S7 (fun x h => h.pull2.cell) (fun _ h => h) ?_
            clear hR hS S7
            repeat
              refine Exists.intro _ (And.intro rfl (Or.inl (Exists.intro ?_ (And.intro (fun wS hS K hK => ?_) (And.intro ?_ ?_)))))
              rotate_left 1
              · have t0 := hS
                first
                  | (refine if_unwanted rfl ?_; simp only [Act.put, List.setIfInBounds_toArray, List.set_cons_zero, List.set_cons_succ]; exact hK.out)
                  | (refine if_wanted rfl ?_; go_simp; exact hK.out)
              · rfl
            refine ChainG.one rfl rfl rfl (fun wS hS R hR => ?_)
            go_simp
            go_at_call 39
            refine (HL4.out _ _ hS).mono ?_
            rintro e w7 ⟨rfl, S7⟩
            refine hR.out _ _ rfl (fun wx => (∀ o, wx.cell? ⟨yq, o, none⟩ = (#[.int .i64 kd, .int .i64 nn, .int .i64 bx, .int .i64 rc, .int .u64 id, .string ⟨text.toArray⟩, .string ⟨name.toArray⟩] : Array Value)[o]?)) (fun wx => Sp W [] wx (diskR d D :: rkR x D :: boxR yq #[.int .i64 kd, .int .i64 nn, .int .i64 bx, .int .i64 rc, .int .u64 id, .string ⟨text.toArray⟩, .string ⟨name.toArray⟩] 35 :: [])) S7 (fun x h => h.pull2.cell) (fun _ h => h) ?_
            clear hR hS S7
            repeat
              refine Exists.intro _ (And.intro rfl (Or.inl (Exists.intro ?_ (And.intro (fun wS hS K hK => ?_) (And.intro ?_ ?_)))))
              rotate_left 1
              · have t0 := hS
                first
                  | (refine if_unwanted rfl ?_; simp only [Act.put, List.setIfInBounds_toArray, List.set_cons_zero, List.set_cons_succ]; exact hK.out)
                  | (refine if_wanted rfl ?_; go_simp; exact hK.out)
              · rfl
            refine ChainG.one rfl rfl rfl (fun wS hS R hR => ?_)
            go_simp
            go_at_call 40
            refine (HR4.out _ _ hS.pull1).mono ?_
            rintro e w7 ⟨rfl, S7⟩
            refine hR.out _ _ rfl (fun wx => (∀ o, wx.cell? ⟨yq, o, none⟩ = (#[.int .i64 kd, .int .i64 nn, .int .i64 bx, .int .i64 rc, .int .u64 id, .string ⟨text.toArray⟩, .string ⟨name.toArray⟩] : Array Value)[o]?)) (fun wx => Sp W [] wx (diskR d D :: rkR x D :: boxR yq #[.int .i64 kd, .int .i64 nn, .int .i64 bx, .int .i64 rc, .int .u64 id, .string ⟨text.toArray⟩, .string ⟨name.toArray⟩] 35 :: [])) S7.pull1 (fun x h => h.pull2.cell) (fun _ h => h) ?_
            clear hR hS S7
            repeat
              refine Exists.intro _ (And.intro rfl (Or.inl (Exists.intro ?_ (And.intro (fun wS hS K hK => ?_) (And.intro ?_ ?_)))))
              rotate_left 1
              · have t0 := hS
                first
                  | (refine if_unwanted rfl ?_; simp only [Act.put, List.setIfInBounds_toArray, List.set_cons_zero, List.set_cons_succ]; exact hK.out)
                  | (refine if_wanted rfl ?_; go_simp; exact hK.out)
              · rfl
            intro wE hE
            have HSE := Lib.hid hE
            clear hE
            have HS9 := Lib.hid ((Sp.pick [_, _] [0, 1] (by decide) (HSE.out)))
            clear HSE HS8
            go_wp2_with fail
            go_roundw
            case rel => exact ⟨i + 1, D, by go_num, by omega, by omega, HI.out.mono (by omega) (by omega), ((Sp.pick [_, _, _] [0, 1] (by decide) (HS9.out)))⟩
            case measure => simp [intOf]; omega
    · go_wp2_with fail
      all_goals
        go_ret
        exact ⟨rfl, HS5.out.ext⟩
end Go.Proofs.YtcffickkipicbaaGreatDoor
