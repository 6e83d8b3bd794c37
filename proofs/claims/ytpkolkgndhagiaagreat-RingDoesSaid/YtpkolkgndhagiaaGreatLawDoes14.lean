/- RingDoes: its walk: the rings answer as the document's does. Printed by prdoes14.py. -/
import Derived.Test.YtpkolkgndhagiaaGreatR14
import Derived.Test.YtpkolkgndhagiaaGreatActK
import Derived.Deep.CutBlock
set_option linter.unusedSimpArgs false
set_option linter.unusedVariables false
set_option linter.unnecessarySimpa false
namespace Go.Proofs.YtpkolkgndhagiaaGreat
open Go.RowKit Go.Maps

/-- How things stand ahead of act i. -/
def DoesAt (W : World) (d x i : Nat) (a e b f : Value) (wr : World) : Prop := ∃ D o, ∃ c : Int, e = .int .i64 c ∧ f = .int .i64 c ∧ DInv D (4 * i + 2) (1000 * i) ∧ RsOpt o (1002 * i) ∧ Sp W [] wr (aR a d o :: bR b x o :: diskR d D :: rkR x D :: [])
set_option maxRecDepth 100000 in
set_option maxHeartbeats 40000000 in
theorem ringDoes_walk (v : Value) (l : List ActK) (ep : Nat) (W : World) (hl : ActKsAt W v l) (hep : ep < 18446744073709551616) :
    Calls Tryz.prog 3 #[v, .int .u64 ep] W fun e w2 => e = .returned (.bool true) ∧ Ext [] W w2 := by
  have HS0 := Lib.hid (Sp.nil W [])
  have HAT := Lib.hid hl
  obtain ⟨a, cap, rfl, hlen, hwf, _⟩ := hl
  have HW := Lib.hid hwf
  have HEP := Lib.hid hep
  unfold maxLen at hlen
  have hlen' : (l.length : Int) ≤ 9223372036854775807 := by omega
  clear hwf hlen hep
  go_enter Tryz.func3, Tryz.ntmps3
  go_wp2_with fail
  refine (awake14S HS0.out).mono ?_
  rintro e w1 ⟨rfl, S⟩
  have HS1 := Lib.hid S
  clear S
  go_wp2_with fail
  refine (newS HS1.out).mono ?_
  rintro e w2 ⟨d, rfl, S⟩
  have HS2 := Lib.hid S
  clear S HS1
  go_wp2_with fail
  refine (rNewS HS2.out).mono ?_
  rintro e w3 ⟨x, rfl, S⟩
  have HS3 := Lib.hid S
  clear S HS2
  go_wp2_with fail
  refine (opA dinv_new (by decide) (by decide) HS3.out.pull1).mono ?_
  rintro e w4 ⟨a0, rfl, S⟩
  have HS4 := Lib.hid S
  clear S HS3
  go_wp2_with fail
  refine (opB dinv_new (by decide) (by decide) HS4.out.pull2).mono ?_
  rintro e w5 ⟨b0, rfl, S⟩
  have HS5 := Lib.hid S
  clear S HS4
  have HS6 : Hid (DoesAt W d x 0 a0 (.int .i64 (rgOpen Dk.new).2.2) b0 (.int .i64 (rgOpen Dk.new).2.2) w5) := ⟨(rgOpen Dk.new).1, (rgOpen Dk.new).2.1, _, rfl, rfl, dinv_new.open.1.mono (by omega) (by omega), fun rs e => ((dinv_new.open.2 rs e).opt (by omega)) rs rfl, (Sp.pick [_, _, _, _] [2, 0, 3, 1] (by decide) (HS5.out))⟩
  clear HS5
  generalize (rgOpen Dk.new).2.2 = c0 at *
  go_wp2_with fail
  go_loopw [7, 8, 9, 10, 11] (fun a e b f v wr => ∃ i : Nat, v = .int .i64 i ∧ i ≤ l.length ∧ i ≤ 60 ∧ DoesAt W d x i a e b f wr) (fun _ _ _ _ v _ => 60 - (intOf v).toNat)
  case atStart => exact ⟨0, rfl, by omega, by omega, HS6.out⟩
  case round =>
    clear HS6
    obtain ⟨i, rfl, hi1, hi2, D, o, c, rfl, rfl, hI, hro, S5⟩ := hrel
    have HI := Lib.hid hI
    have HRS := Lib.hid hro
    have HS5 := Lib.hid S5
    clear hI hro S5
    by_cases hlt : i < l.length ∧ i < 60
    · obtain ⟨hlt1, hlt2⟩ := hlt
      have hlt1' : (i : Int) < l.length := by omega
      have hlt2' : (i : Int) < 60 := by omega
      have hwf := HW.out i hlt1
      obtain ⟨a', cap', he, _, _, hrow⟩ := HAT.out.ext HS5.out.ext
      cases he
      obtain ⟨b', off, rfl⟩ := hrow.addr (i := i) (by simpa using hlt1)
      obtain ⟨c0, c1, c2⟩ := actK_cells hrow i hlt1
      have HXM := Lib.hid hwf.keyL
      have HN2 := Lib.hid hwf.n2
      generalize l[i] = y at *
      obtain ⟨kd, nn, key⟩ := y
      dsimp only at *
      clear hwf hrow
      have HS6 := Lib.hid (HS5.out.box (ActK.box ⟨kd, nn, key⟩) 37)
      clear HS5
      go_wp2_with fail
      refine (large14S kd nn key HS6.out HXM.out).mono ?_
      rintro e w7 ⟨rfl, S⟩
      by_cases hbig : 1000 < key.length
      · have HS7 := Lib.hid S
        clear S
        have hb' : decide (1000 < key.length) = true := by simpa using hbig
        go_wp2
        go_ret
        exact ⟨rfl, HS7.out.ext⟩
      · have hb' : decide (1000 < key.length) = false := by simpa using hbig
        have HKEY : Hid (key.length ≤ 1000) := by unfold Hid; omega
        generalize wr.heap.size = yq at *
        have HS7 := Lib.hid S
        have c7 := S.cell
        clear S HS6 hbig c0 c1 c2 HXM
        rw [hb']
        clear hb'
        go_upto_block 2 with (fail)
        have HOK := Lib.hid HI.out.ok
        have HCF := Lib.hid (HI.out.ok.crashFit (by omega))
        go_cut [] (fun wx => ∃ D o, DInv D (4 * i + 4) (1000 * i + 1000) ∧ RsOpt o (1002 * i + 1002) ∧ Sp W [] wx (boxR yq (ActK.box ⟨kd, nn, key⟩) 37 :: aR u7 d o :: bR u9 x o :: diskR d D :: rkR x D :: []))
        case first =>
          by_cases hk0 : kd = 0
          · as_aux_lemma =>
              subst hk0
              cases o with
              | none =>
                obtain rfl := ((Sp.pick [_, _, _, _, _] [1] (by decide) (HS7.out))).aNone
                obtain rfl := ((Sp.pick [_, _, _, _, _] [2] (by decide) (HS7.out))).bNone
                go_wp2_with fail
                go_meet
                exact ⟨D, none, HI.out.mono (by omega) (by omega), rsOpt_none, HS7.out⟩
              | some rs =>
                have HRK := Lib.hid (HRS.out rs rfl)
                obtain ⟨p, ha, S2⟩ := ((Sp.pick [_, _, _, _, _] [1, 2, 0, 3, 4] (by decide) (HS7.out))).aSome
                subst ha
                obtain ⟨q, hb, S3⟩ := S2.pull1.bSome
                subst hb
                have HS8 := Lib.hid ((Sp.pick [_, _, _, _, _] [1, 3, 0, 2, 4] (by decide) (S3)))
                clear S2 S3
                have HBI := Lib.hid (HI.out.begin HRK.out (by omega) key)
                have HBA := Lib.hid (begA key HI.out (by omega) (by omega) HRK.out (by omega) (by have := HKEY.out; omega) HS8.out)
                have HBB := Lib.hid (fun (W2 : World) (L' : List Res) (S : Sp W [] W2 (rgR q x rs :: rkR x D :: L')) => begB key HI.out (by omega) (by omega) HRK.out (by omega) (by have := HKEY.out; omega) S)
                generalize rgBegin D rs key = B at *
                obtain ⟨B1, B2, B3, B4⟩ := B
                dsimp only at *
                go_wp2_with fail
                refine HBA.out.mono ?_
                rintro e w8 ⟨rfl, S⟩
                have c8 := ((Sp.pick [_, _, _, _] [3] (by decide) (S))).cell
                have HS9 := Lib.hid ((Sp.pick [_, _, _, _, _] [2, 4, 0, 1, 3] (by decide) (S)))
                clear S c7 HS8 HBA
                go_wp2_with fail
                refine (HBB.out _ _ HS9.out).mono ?_
                rintro e w9 ⟨rfl, S⟩
                have S2 := S.pull2.aShut
                have S3 := S2.pull1.bShut
                have HS10 := Lib.hid ((Sp.pick [_, _, _, _, _] [4, 1, 0, 3, 2] (by decide) (S3)))
                clear S S2 S3 c8 HS9 HBB
                go_wp2_with fail
                go_meet
                exact ⟨B1, some B2, HBI.out.1.mono (by omega) (by omega), HBI.out.2.opt (by omega), HS10.out⟩
          by_cases hk1 : kd = 1
          · as_aux_lemma =>
              subst hk1
              cases o with
              | none =>
                obtain rfl := ((Sp.pick [_, _, _, _, _] [1] (by decide) (HS7.out))).aNone
                obtain rfl := ((Sp.pick [_, _, _, _, _] [2] (by decide) (HS7.out))).bNone
                go_wp2_with fail
                go_meet
                exact ⟨D, none, HI.out.mono (by omega) (by omega), rsOpt_none, HS7.out⟩
              | some rs =>
                have HRK := Lib.hid (HRS.out rs rfl)
                obtain ⟨p, ha, S2⟩ := ((Sp.pick [_, _, _, _, _] [1, 2, 0, 3, 4] (by decide) (HS7.out))).aSome
                subst ha
                obtain ⟨q, hb, S3⟩ := S2.pull1.bSome
                subst hb
                have HS8 := Lib.hid ((Sp.pick [_, _, _, _, _] [1, 3, 0, 2, 4] (by decide) (S3)))
                clear S2 S3
                have HBI := Lib.hid (HI.out.end HRK.out (by omega) key)
                have HBA := Lib.hid (fun (W2 : World) (L' : List Res) (S : Sp W [] W2 (ringR p d (ringPuts rs) :: diskR d D :: L')) => endA key HI.out (by omega) (by omega) HRK.out (by omega) (by have := HKEY.out; omega) S)
                have HBB := Lib.hid (fun (W2 : World) (L' : List Res) (S : Sp W [] W2 (rgR q x rs :: rkR x D :: L')) => endB key HI.out (by omega) (by omega) HRK.out (by omega) (by have := HKEY.out; omega) S)
                generalize rgEnd D rs key = B at *
                obtain ⟨B1, B2, B3⟩ := B
                dsimp only at *
                go_upto_region 18 with (fail)
                clear c7
                refine wp_region_chainG [0, 1, 2, 4, 5, 6, 3, 7, 8] (fun c => c == 3 || c == 7) (fun c => false) (T := fun wx => (∀ o, wx.cell? ⟨yq, o, none⟩ = ((ActK.box ⟨1, nn, key⟩) : Array Value)[o]?)) (S := fun wx => Sp W [] wx (ringR p d (ringPuts rs) :: diskR d D :: rgR q x rs :: boxR yq (ActK.box ⟨1, nn, key⟩) 37 :: rkR x D :: [])) (by kernel_rfl) (by kernel_rfl) (by kernel_rfl) HS8.out.drew (fun x h => h.pull3.cell) ?_
                repeat
                  refine Exists.intro _ (And.intro rfl (Or.inl (Exists.intro ?_ (And.intro (fun wS hS K hK => ?_) (And.intro ?_ ?_)))))
                  rotate_left 1
                  · have t0 := hS
                    first
                      | (refine if_unwanted rfl ?_; simp only [Act.put, List.setIfInBounds_toArray, List.set_cons_zero, List.set_cons_succ]; exact hK.out)
                      | (refine if_wanted rfl ?_; go_simp; exact hK.out)
                  · rfl
                refine ChainG.one rfl rfl rfl (fun wS hS R hR => ?_)
                go_simp
                go_at_call 12
                refine (HBA.out _ _ hS).mono ?_
                rintro e w7 ⟨rfl, S7⟩
                refine hR.out _ _ rfl (fun wx => (∀ o, wx.cell? ⟨yq, o, none⟩ = ((ActK.box ⟨1, nn, key⟩) : Array Value)[o]?)) (fun wx => Sp W [] wx (ringR p d (ringPuts B2) :: diskR d B1 :: rgR q x rs :: boxR yq (ActK.box ⟨1, nn, key⟩) 37 :: rkR x D :: [])) S7 (fun x h => h.pull3.cell) (fun _ h => h) ?_
                clear hR hS S7
                repeat
                  refine Exists.intro _ (And.intro rfl (Or.inl (Exists.intro ?_ (And.intro (fun wS hS K hK => ?_) (And.intro ?_ ?_)))))
                  rotate_left 1
                  · have t0 := hS
                    first
                      | (refine if_unwanted rfl ?_; simp only [Act.put, List.setIfInBounds_toArray, List.set_cons_zero, List.set_cons_succ]; exact hK.out)
                      | (refine if_wanted rfl ?_; go_simp; exact hK.out)
                  · rfl
                refine ChainG.one rfl rfl rfl (fun wS hS R hR => ?_)
                go_simp
                go_at_call 13
                refine (HBB.out _ _ ((Sp.pick [_, _, _, _, _] [2, 4, 0, 1, 3] (by decide) (hS)))).mono ?_
                rintro e w7 ⟨rfl, S7⟩
                refine hR.out _ _ rfl (fun wx => (∀ o, wx.cell? ⟨yq, o, none⟩ = ((ActK.box ⟨1, nn, key⟩) : Array Value)[o]?)) (fun wx => Sp W [] wx (rgR q x B2 :: rkR x B1 :: ringR p d (ringPuts B2) :: diskR d B1 :: boxR yq (ActK.box ⟨1, nn, key⟩) 37 :: [])) S7 (fun x h => h.pull4.cell) (fun _ h => h) ?_
                clear hR hS S7
                repeat
                  refine Exists.intro _ (And.intro rfl (Or.inl (Exists.intro ?_ (And.intro (fun wS hS K hK => ?_) (And.intro ?_ ?_)))))
                  rotate_left 1
                  · have t0 := hS
                    first
                      | (refine if_unwanted rfl ?_; simp only [Act.put, List.setIfInBounds_toArray, List.set_cons_zero, List.set_cons_succ]; exact hK.out)
                      | (refine if_wanted rfl ?_; go_simp; exact hK.out)
                  · rfl
                intro wE hE
                have HSE := Lib.hid hE
                clear hE
                have HS9 := Lib.hid HSE.out
                clear HSE HS8
                have S2 := HS9.out.pull2.aShut
                have S3 := S2.pull1.bShut
                have HS10 := Lib.hid ((Sp.pick [_, _, _, _, _] [4, 1, 0, 3, 2] (by decide) (S3)))
                clear S2 S3 HS9
                go_wp2_with fail
                go_meet
                exact ⟨B1, some B2, HBI.out.1.mono (by omega) (by omega), HBI.out.2.opt (by omega), HS10.out⟩
          by_cases hk3 : kd = 3
          · as_aux_lemma =>
              subst hk3
              have HSa := Lib.hid ((Sp.pick [_, _, _, _, _] [3, 0, 1, 2, 4] (by decide) (HS7.out)))
              go_wp2_with fail
              refine (fuseS nn HSa.out).mono ?_
              rintro e w8 ⟨rfl, S⟩
              have c8 := ((Sp.pick [_, _] [1] (by decide) (S))).cell
              have HS9 := Lib.hid ((Sp.pick [_, _, _, _, _] [4, 0, 1, 2, 3] (by decide) (S)))
              clear S c7 HSa
              go_wp2_with fail
              refine (rFuseS nn HS9.out).mono ?_
              rintro e w9 ⟨rfl, S⟩
              have HS10 := Lib.hid ((Sp.pick [_, _, _, _, _] [2, 3, 4, 1, 0] (by decide) (S)))
              clear S c8 HS9
              go_wp2_with fail
              go_meet
              exact ⟨D.setFuse nn, o, (HI.out.fuseS nn HN2.out).mono (by omega) (by omega), HRS.out.mono (by omega), HS10.out⟩
          by_cases hk4 : kd = 4
          · as_aux_lemma =>
              subst hk4
              have HSa := Lib.hid ((Sp.pick [_, _, _, _, _] [3, 0, 1, 2, 4] (by decide) (HS7.out)))
              go_wp2_with fail
              refine (crashS nn HSa.out HCF.out).mono ?_
              rintro e w8 ⟨rfl, S⟩
              have c8 := ((Sp.pick [_, _] [1] (by decide) (S))).cell
              have HS9 := Lib.hid ((Sp.pick [_, _, _, _, _] [4, 0, 1, 2, 3] (by decide) (S)))
              clear S c7 HSa
              go_wp2_with fail
              refine (rCrashS nn HOK.out (by omega) HS9.out).mono ?_
              rintro e w9 ⟨rfl, S⟩
              have HS10 := Lib.hid ((Sp.pick [_, _, _, _, _] [2, 3, 4, 1, 0] (by decide) (S)))
              clear S c8 HS9
              go_wp2_with fail
              go_meet
              exact ⟨D.crash nn, o, (HI.out.crash nn).mono (by omega) (by omega), HRS.out.mono (by omega), HS10.out⟩
          by_cases hk5 : kd = 5
          · as_aux_lemma =>
              subst hk5
              have HSa := Lib.hid ((Sp.pick [_, _, _, _, _] [3, 0, 1, 2, 4] (by decide) (HS7.out)))
              go_wp2_with fail
              refine (quotaS nn HSa.out).mono ?_
              rintro e w8 ⟨rfl, S⟩
              have c8 := ((Sp.pick [_, _] [1] (by decide) (S))).cell
              have HS9 := Lib.hid ((Sp.pick [_, _, _, _, _] [4, 0, 1, 2, 3] (by decide) (S)))
              clear S c7 HSa
              go_wp2_with fail
              refine (rQuotaS nn HS9.out).mono ?_
              rintro e w9 ⟨rfl, S⟩
              have HS10 := Lib.hid ((Sp.pick [_, _, _, _, _] [2, 3, 4, 1, 0] (by decide) (S)))
              clear S c8 HS9
              go_wp2_with fail
              go_meet
              exact ⟨{ D with quota := max nn 0 }, o, (HI.out.quota _).mono (by omega) (by omega), HRS.out.mono (by omega), HS10.out⟩
          by_cases hk6 : kd = 6
          · as_aux_lemma =>
              subst hk6
              have HEA := Lib.hid (fun (W2 : World) (L' : List Res) (S : Sp W [] W2 (diskR d D :: L')) => editS ringB key S (by have := HOK.out.now; omega) (by have := HOK.out.sure; omega) (by decide) (by have := HKEY.out; unfold maxLen; omega))
              have HEB := Lib.hid (fun (W2 : World) (L' : List Res) (S : Sp W [] W2 (rkR x D :: L')) => rEditS ringB key (by have := HOK.out.now; omega) (by have := HOK.out.sure; omega) S)
              have HIE := Lib.hid (HI.out.edit key HKEY.out)
              have HS8 := Lib.hid ((Sp.pick [_, _, _, _, _] [3, 4, 0, 1, 2] (by decide) (HS7.out)))
              generalize D.edit ringB key = E at *
              obtain ⟨E1, E2⟩ := E
              dsimp only at *
              go_upto_region 30 with (fail)
              clear c7
              refine wp_region_chainG [0, 1, 2, 4, 5, 6, 3, 7, 8] (fun c => c == 3 || c == 7) (fun c => false) (T := fun wx => (∀ o, wx.cell? ⟨yq, o, none⟩ = ((ActK.box ⟨6, nn, key⟩) : Array Value)[o]?)) (S := fun wx => Sp W [] wx (diskR d D :: rkR x D :: boxR yq (ActK.box ⟨6, nn, key⟩) 37 :: aR u7 d o :: bR u9 x o :: [])) (by kernel_rfl) (by kernel_rfl) (by kernel_rfl) HS8.out.drew (fun x h => h.pull2.cell) ?_
              repeat
                refine Exists.intro _ (And.intro rfl (Or.inl (Exists.intro ?_ (And.intro (fun wS hS K hK => ?_) (And.intro ?_ ?_)))))
                rotate_left 1
                · have t0 := hS
                  first
                    | (refine if_unwanted rfl ?_; simp only [Act.put, List.setIfInBounds_toArray, List.set_cons_zero, List.set_cons_succ]; exact hK.out)
                    | (refine if_wanted rfl ?_; go_simp; exact hK.out)
                · rfl
              refine ChainG.one rfl rfl rfl (fun wS hS R hR => ?_)
              go_simp
              go_at_call 20
              refine (HEA.out _ _ hS).mono ?_
              rintro e w7 ⟨rfl, S7⟩
              refine hR.out _ _ rfl (fun wx => (∀ o, wx.cell? ⟨yq, o, none⟩ = ((ActK.box ⟨6, nn, key⟩) : Array Value)[o]?)) (fun wx => Sp W [] wx (diskR d E1 :: rkR x D :: boxR yq (ActK.box ⟨6, nn, key⟩) 37 :: aR u7 d o :: bR u9 x o :: [])) S7 (fun x h => h.pull2.cell) (fun _ h => h) ?_
              clear hR hS S7
              repeat
                refine Exists.intro _ (And.intro rfl (Or.inl (Exists.intro ?_ (And.intro (fun wS hS K hK => ?_) (And.intro ?_ ?_)))))
                rotate_left 1
                · have t0 := hS
                  first
                    | (refine if_unwanted rfl ?_; simp only [Act.put, List.setIfInBounds_toArray, List.set_cons_zero, List.set_cons_succ]; exact hK.out)
                    | (refine if_wanted rfl ?_; go_simp; exact hK.out)
                · rfl
              refine ChainG.one rfl rfl rfl (fun wS hS R hR => ?_)
              go_simp
              go_at_call 21
              refine (HEB.out _ _ (hS.pull1)).mono ?_
              rintro e w7 ⟨rfl, S7⟩
              refine hR.out _ _ rfl (fun wx => (∀ o, wx.cell? ⟨yq, o, none⟩ = ((ActK.box ⟨6, nn, key⟩) : Array Value)[o]?)) (fun wx => Sp W [] wx (rkR x E1 :: diskR d E1 :: boxR yq (ActK.box ⟨6, nn, key⟩) 37 :: aR u7 d o :: bR u9 x o :: [])) S7 (fun x h => h.pull2.cell) (fun _ h => h) ?_
              clear hR hS S7
              repeat
                refine Exists.intro _ (And.intro rfl (Or.inl (Exists.intro ?_ (And.intro (fun wS hS K hK => ?_) (And.intro ?_ ?_)))))
                rotate_left 1
                · have t0 := hS
                  first
                    | (refine if_unwanted rfl ?_; simp only [Act.put, List.setIfInBounds_toArray, List.set_cons_zero, List.set_cons_succ]; exact hK.out)
                    | (refine if_wanted rfl ?_; go_simp; exact hK.out)
                · rfl
              intro wE hE
              have HSE := Lib.hid hE
              clear hE
              have HS9 := Lib.hid HSE.out
              clear HSE HS8
              go_wp2_with fail
              go_meet
              exact ⟨E1, o, HIE.out.mono (by omega) (by omega), HRS.out.mono (by omega), (Sp.pick [_, _, _, _, _] [2, 3, 4, 1, 0] (by decide) (HS9.out))⟩
          as_aux_lemma =>
            have t0 : (kd == 0) = false := by simpa using hk0
            have t1 : (kd == 1) = false := by simpa using hk1
            have t3 : (kd == 3) = false := by simpa using hk3
            have t4 : (kd == 4) = false := by simpa using hk4
            have t5 : (kd == 5) = false := by simpa using hk5
            have t6 : (kd == 6) = false := by simpa using hk6
            clear hk0 hk1 hk3 hk4 hk5 hk6
            go_wp2_with fail
            go_meet
            exact ⟨D, o, HI.out.mono (by omega) (by omega), HRS.out.mono (by omega), HS7.out⟩
        case rest =>
          clear HI HRS HOK HCF HS7 c7
          obtain ⟨D, o, hI, hro, S5⟩ := hcut
          have HI := Lib.hid hI
          have HRS := Lib.hid hro
          have HS7 := Lib.hid S5
          clear hI hro S5
          go_upto_region 32 with (fail)
          obtain ⟨re, hre⟩ : ∃ re : Bool, re = (decide (kd = 2) || decide (kd = 4)) := ⟨_, rfl⟩
          have HRE := Lib.hid hre
          clear hre
          go_cut [155] (fun v wx => v = .bool re ∧ Sp W [] wx (boxR yq (ActK.box ⟨kd, nn, key⟩) 37 :: aR u7 d o :: bR u9 x o :: diskR d D :: rkR x D :: []))
          case first =>
            as_aux_lemma =>
              have c7 := HS7.out.cell
              by_cases h2 : kd = 2
              · subst h2
                go_wp2_with fail
                go_meet
                exact ⟨by rw [HRE.out]; rfl, HS7.out⟩
              · by_cases h4 : kd = 4
                · subst h4
                  go_wp2_with fail
                  go_meet
                  exact ⟨by rw [HRE.out]; rfl, HS7.out⟩
                · have t2 : (kd == 2) = false := by simpa using h2
                  have t4 : (kd == 4) = false := by simpa using h4
                  have HRE2 : Hid (re = false) := by unfold Hid; rw [HRE.out]; simp [h2, h4]
                  clear h2 h4
                  go_wp2_with fail
                  go_meet
                  exact ⟨by rw [HRE2.out], HS7.out⟩
          case rest =>
            obtain ⟨rfl, S6⟩ := hcut
            clear HS7 HRE
            have HS7 := Lib.hid S6
            clear S6
            go_upto_if 155 with (fail)
            go_cut [7, 8, 9, 10] (fun a e b f wx => ∃ D o, ∃ c : Int, e = .int .i64 c ∧ f = .int .i64 c ∧ DInv D (4 * i + 6) (1000 * i + 1000) ∧ RsOpt o (1002 * i + 1002) ∧ Sp W [] wx (boxR yq (ActK.box ⟨kd, nn, key⟩) 37 :: aR a d o :: bR b x o :: diskR d D :: rkR x D :: []))
            case first =>
              cases re with
              | true =>
                as_aux_lemma =>
                  have HOA := Lib.hid (fun (W2 : World) (L' : List Res) (S : Sp W [] W2 (diskR d D :: L')) => opA HI.out (by omega) (by omega) S)
                  have HOB := Lib.hid (fun (W2 : World) (L' : List Res) (S : Sp W [] W2 (rkR x D :: L')) => opB HI.out (by omega) (by omega) S)
                  have HOI := Lib.hid HI.out.open
                  generalize rgOpen D = R at *
                  obtain ⟨R1, R2, R3⟩ := R
                  dsimp only at *
                  have HSa := Lib.hid ((Sp.pick [_, _, _, _, _] [3, 4, 0] (by decide) (HS7.out)))
                  clear HS7
                  go_wp2_with fail
                  refine (HOA.out _ _ HSa.out).mono ?_
                  rintro e w8 ⟨a2, rfl, S⟩
                  have HSb := Lib.hid S.pull2
                  clear S HSa
                  go_wp2_with fail
                  refine (HOB.out _ _ HSb.out).mono ?_
                  rintro e w9 ⟨b2, rfl, S⟩
                  have HSc := Lib.hid ((Sp.pick [_, _, _, _, _] [4, 2, 0, 3, 1] (by decide) (S)))
                  clear S HSb
                  go_wp2_with fail
                  go_meet
                  exact ⟨R1, R2, R3, rfl, rfl, HOI.out.1.mono (by omega) (by omega), fun rs e => ((HOI.out.2 rs e).opt (by omega)) rs rfl, HSc.out⟩
              | false =>
                go_wp2_with fail
                go_meet
                exact ⟨D, o, c, rfl, rfl, HI.out.mono (by omega) (by omega), HRS.out, HS7.out⟩
            case rest =>
              clear HI HRS HS7
              obtain ⟨D, o, c, rfl, rfl, hI, hro, S5⟩ := hcut
              have HI := Lib.hid hI
              have HRS := Lib.hid hro
              have HSa := Lib.hid ((Sp.pick [_, _, _, _, _] [3, 4, 0, 1, 2] (by decide) (S5)))
              have HNL : Hid (D.now.length ≤ 1000000) := Lib.hid (by have := hI.nowL; omega)
              clear hI hro S5
              obtain ⟨g, hg⟩ : ∃ g : Int, g = (if D.now.has ringB then 0 else 10) := ⟨_, rfl⟩
              obtain ⟨s, hs⟩ : ∃ s : Bs, s = (D.now.get ringB).getD [] := ⟨_, rfl⟩
              have HRA : Hid (∀ (W2 : World) (L' : List Res), Sp W [] W2 (diskR d D :: L') → Calls Tryz.prog 22 #[.pointer (some ⟨d, 0, none⟩), .string ⟨ringB.toArray⟩] W2 fun r w2 => r = .returned (.tuple #[.string ⟨s.toArray⟩, .int .i64 g]) ∧ W2 = w2) := fun W2 L' S => by rw [hs, hg]; exact readS ringB S (by decide)
              have HRB : Hid (∀ (W2 : World) (L' : List Res), Sp W [] W2 (rkR x D :: L') → Calls Tryz.prog 23 #[.pointer (some ⟨x, 0, none⟩), .string ⟨ringB.toArray⟩] W2 fun r w2 => r = .returned (.tuple #[.string ⟨s.toArray⟩, .int .i64 g]) ∧ Sp W [] w2 (rkR x D :: L')) := fun W2 L' S => by rw [hs, hg]; exact rReadS ringB HNL.out S
              clear hs hg
              go_wp2_with fail
              refine (HRA.out _ _ HSa.out).mono ?_
              rintro e w8 ⟨rfl, rfl⟩
              go_wp2_with fail
              refine (HRB.out _ _ HSa.out.pull1).mono ?_
              rintro e w9 ⟨rfl, S⟩
              have HS7 := Lib.hid ((Sp.pick [_, _, _, _, _] [2, 3, 4, 1, 0] (by decide) (S)))
              clear S HSa HNL HRA HRB
              have HKA := Lib.hid (fun (W2 : World) (L' : List Res) (S : Sp W [] W2 L') => ringKeyS key ep S (by have := HKEY.out; omega) HEP.out)
              have HKB := Lib.hid (fun (W2 : World) (L' : List Res) (S : Sp W [] W2 L') => r14KeyS key ep (by have := HKEY.out; omega) HEP.out S)
              generalize ringKey key ep = rk at *
              cases o with
              | none =>
                as_aux_lemma =>
                  obtain rfl := ((Sp.pick [_, _, _, _, _] [1] (by decide) (HS7.out))).aNone
                  obtain rfl := ((Sp.pick [_, _, _, _, _] [2] (by decide) (HS7.out))).bNone
                  go_upto_region 37 with (fail)
                  refine wp_region_chainG [0, 1, 2, 3, 4, 5, 6, 7, 8, 9, 10, 11, 12, 13, 14, 15, 16, 17, 18, 19, 20, 21, 22, 23, 25, 26, 27, 24, 28, 29, 30] (fun c => c == 24 || c == 28) (fun c => false) (T := fun wx => (∀ o, wx.cell? ⟨yq, o, none⟩ = ((ActK.box ⟨kd, nn, key⟩) : Array Value)[o]?)) (S := fun wx => Sp W [] wx (boxR yq (ActK.box ⟨kd, nn, key⟩) 37 :: aR (.pointer none) d none :: bR (.pointer none) x none :: diskR d D :: rkR x D :: [])) (by kernel_rfl) (by kernel_rfl) (by kernel_rfl) HS7.out.drew (fun x h => h.cell) ?_
                  repeat
                    refine Exists.intro _ (And.intro rfl (Or.inl (Exists.intro ?_ (And.intro (fun wS hS K hK => ?_) (And.intro ?_ ?_)))))
                    rotate_left 1
                    · have t0 := hS
                      first
                        | (refine if_unwanted rfl ?_; simp only [Act.put, List.setIfInBounds_toArray, List.set_cons_zero, List.set_cons_succ]; exact hK.out)
                        | (refine if_wanted rfl ?_; go_simp; exact hK.out)
                    · rfl
                  refine ChainG.one rfl rfl rfl (fun wS hS R hR => ?_)
                  go_simp
                  go_at_call 24
                  refine (HKA.out _ _ hS).mono ?_
                  rintro e w7 ⟨rfl, S7⟩
                  refine hR.out _ _ rfl (fun wx => (∀ o, wx.cell? ⟨yq, o, none⟩ = ((ActK.box ⟨kd, nn, key⟩) : Array Value)[o]?)) (fun wx => Sp W [] wx (boxR yq (ActK.box ⟨kd, nn, key⟩) 37 :: aR (.pointer none) d none :: bR (.pointer none) x none :: diskR d D :: rkR x D :: [])) S7 (fun x h => h.cell) (fun _ h => h) ?_
                  clear hR hS S7
                  repeat
                    refine Exists.intro _ (And.intro rfl (Or.inl (Exists.intro ?_ (And.intro (fun wS hS K hK => ?_) (And.intro ?_ ?_)))))
                    rotate_left 1
                    · have t0 := hS
                      first
                        | (refine if_unwanted rfl ?_; simp only [Act.put, List.setIfInBounds_toArray, List.set_cons_zero, List.set_cons_succ]; exact hK.out)
                        | (refine if_wanted rfl ?_; go_simp; exact hK.out)
                    · rfl
                  refine ChainG.one rfl rfl rfl (fun wS hS R hR => ?_)
                  go_simp
                  go_at_call 25
                  refine (HKB.out _ _ hS).mono ?_
                  rintro e w7 ⟨rfl, S7⟩
                  refine hR.out _ _ rfl (fun wx => (∀ o, wx.cell? ⟨yq, o, none⟩ = ((ActK.box ⟨kd, nn, key⟩) : Array Value)[o]?)) (fun wx => Sp W [] wx (boxR yq (ActK.box ⟨kd, nn, key⟩) 37 :: aR (.pointer none) d none :: bR (.pointer none) x none :: diskR d D :: rkR x D :: [])) S7 (fun x h => h.cell) (fun _ h => h) ?_
                  clear hR hS S7
                  repeat
                    refine Exists.intro _ (And.intro rfl (Or.inl (Exists.intro ?_ (And.intro (fun wS hS K hK => ?_) (And.intro ?_ ?_)))))
                    rotate_left 1
                    · have t0 := hS
                      first
                        | (refine if_unwanted rfl ?_; simp only [Act.put, List.setIfInBounds_toArray, List.set_cons_zero, List.set_cons_succ]; exact hK.out)
                        | (refine if_wanted rfl ?_; go_simp; exact hK.out)
                    · rfl
                  intro wE hE
                  have HSE := Lib.hid hE
                  clear hE
                  have HS8 := Lib.hid HSE.out.drop
                  clear HSE HS7
                  go_wp2_with fail
                  go_roundw
                  case rel => exact ⟨i + 1, by go_num, by omega, by omega, D, none, c, rfl, rfl, HI.out.mono (by omega) (by omega), rsOpt_none, HS8.out⟩
                  case measure => simp [intOf]; omega
              | some rs =>
                as_aux_lemma =>
                  have HRK := Lib.hid (HRS.out rs rfl)
                  obtain ⟨p, ha, S2⟩ := ((Sp.pick [_, _, _, _, _] [1, 2, 0, 3, 4] (by decide) (HS7.out))).aSome
                  subst ha
                  obtain ⟨q, hb, S3⟩ := S2.pull1.bSome
                  subst hb
                  have HS8 := Lib.hid ((Sp.pick [_, _, _, _, _] [1, 0, 2, 3, 4] (by decide) (S3)))
                  clear S2 S3 HS7
                  have HSB := Lib.hid (fun (W2 : World) (L' : List Res) (S : Sp W [] W2 (rgR q x rs :: L')) => r14StateS key (by have := HRK.out.2; omega) S)
                  have HSA := Lib.hid (fun (W2 : World) (L' : List Res) (S : Sp W [] W2 (ringR p d (ringPuts rs) :: L')) => show Calls Tryz.prog 27 #[.pointer (some ⟨p, 0, none⟩), .string ⟨key.toArray⟩] W2 (fun e w2 => e = .returned (.agg #[.int .u64 (st rs key).now, .int .u64 (st rs key).old]) ∧ Sp W [] w2 (ringR p d (ringPuts rs) :: L')) from ringStateS key S (by have := HKEY.out; unfold maxLen; omega))
                  have HSO : Hid ((st rs key).old < 18446744073709551616) := Lib.hid (by have := (HRK.out.st (by omega) key).2; omega)
                  have HLB := Lib.hid (fun (n : Nat) (hn : n < 18446744073709551616) (W2 : World) (L' : List Res) (S : Sp W [] W2 (rgR q x rs :: L')) => r14LiveS key n (by have := HRK.out.2; omega) hn S)
                  have HLA := Lib.hid (fun (n : Nat) (hn : n < 18446744073709551616) (W2 : World) (L' : List Res) (S : Sp W [] W2 (ringR p d (ringPuts rs) :: L')) => show Calls Tryz.prog 31 #[.pointer (some ⟨p, 0, none⟩), .string ⟨key.toArray⟩, .int .u64 n] W2 (fun e w2 => e = .returned (.bool (decide (0 < n) && (decide (n = (st rs key).now) || decide (n = (st rs key).old)))) ∧ Sp W [] w2 (ringR p d (ringPuts rs) :: L')) from ringLiveS key n S (by have := HKEY.out; unfold maxLen; omega) hn)
                  have HDA := Lib.hid (fun (W2 : World) (L' : List Res) (S : Sp W [] W2 (ringR p d (ringPuts rs) :: L')) => show Calls Tryz.prog 29 #[.pointer (some ⟨p, 0, none⟩)] W2 (fun e w2 => ∃ v, e = .returned v ∧ Sp W [] w2 (textsR v (domsB rs) :: ringR p d (ringPuts rs) :: L')) from doms_ring rs ▸ ringDomainsS S (by have := (HRK.out.ring (by omega)).1; omega))
                  have HDB := Lib.hid (fun (W2 : World) (L' : List Res) (S : Sp W [] W2 (rgR q x rs :: L')) => r14DomainsS (by have := HRK.out.2; omega) S)
                  have HSM := Lib.hid (fun (va vb : Value) (W2 : World) (L' : List Res) (S : Sp W [] W2 (rgT q x rs vb (domsB rs) :: textsR va (domsB rs) :: L')) => same14 S)
                  generalize st rs key = sk at *
                  obtain ⟨sn, so⟩ := sk
                  dsimp only at *
                  have HLB1 := Lib.hid (HLB.out ep HEP.out)
                  have HLA1 := Lib.hid (HLA.out ep HEP.out)
                  have HLB2 := Lib.hid (HLB.out so HSO.out)
                  have HLA2 := Lib.hid (HLA.out so HSO.out)
                  clear HLA HLB
                  generalize (decide (0 < ep) && (decide (ep = sn) || decide (ep = so))) = l1 at *
                  generalize (decide (0 < so) && (decide (so = sn) || decide (so = so))) = l2 at *
                  generalize domsB rs = dm at *
                  go_upto_region 37 with (fail)
                  refine wp_region_chainG [0, 1, 2, 3, 4, 5, 6, 7, 8, 9, 10, 11, 12, 13, 14, 15, 16, 17, 18, 19, 20, 21, 22, 23, 25, 26, 27, 24, 28, 29, 30] (fun c => c == 24 || c == 28) (fun c => false) (T := fun wx => (∀ o, wx.cell? ⟨yq, o, none⟩ = ((ActK.box ⟨kd, nn, key⟩) : Array Value)[o]?)) (S := fun wx => Sp W [] wx (ringR p d (ringPuts rs) :: rgR q x rs :: boxR yq (ActK.box ⟨kd, nn, key⟩) 37 :: diskR d D :: rkR x D :: [])) (by kernel_rfl) (by kernel_rfl) (by kernel_rfl) HS8.out.drew (fun x h => h.pull2.cell) ?_
                  repeat
                    refine Exists.intro _ (And.intro rfl (Or.inl (Exists.intro ?_ (And.intro (fun wS hS K hK => ?_) (And.intro ?_ ?_)))))
                    rotate_left 1
                    · have t0 := hS
                      first
                        | (refine if_unwanted rfl ?_; simp only [Act.put, List.setIfInBounds_toArray, List.set_cons_zero, List.set_cons_succ]; exact hK.out)
                        | (refine if_wanted rfl ?_; go_simp; exact hK.out)
                    · rfl
                  refine ChainG.one rfl rfl rfl (fun wS hS R hR => ?_)
                  go_simp
                  go_at_call 24
                  refine (HKA.out _ _ hS).mono ?_
                  rintro e w7 ⟨rfl, S7⟩
                  refine hR.out _ _ rfl (fun wx => (∀ o, wx.cell? ⟨yq, o, none⟩ = ((ActK.box ⟨kd, nn, key⟩) : Array Value)[o]?)) (fun wx => Sp W [] wx (ringR p d (ringPuts rs) :: rgR q x rs :: boxR yq (ActK.box ⟨kd, nn, key⟩) 37 :: diskR d D :: rkR x D :: [])) S7 (fun x h => h.pull2.cell) (fun _ h => h) ?_
                  clear hR hS S7
                  repeat
                    refine Exists.intro _ (And.intro rfl (Or.inl (Exists.intro ?_ (And.intro (fun wS hS K hK => ?_) (And.intro ?_ ?_)))))
                    rotate_left 1
                    · have t0 := hS
                      first
                        | (refine if_unwanted rfl ?_; simp only [Act.put, List.setIfInBounds_toArray, List.set_cons_zero, List.set_cons_succ]; exact hK.out)
                        | (refine if_wanted rfl ?_; go_simp; exact hK.out)
                    · rfl
                  refine ChainG.one rfl rfl rfl (fun wS hS R hR => ?_)
                  go_simp
                  go_at_call 25
                  refine (HKB.out _ _ hS).mono ?_
                  rintro e w7 ⟨rfl, S7⟩
                  refine hR.out _ _ rfl (fun wx => (∀ o, wx.cell? ⟨yq, o, none⟩ = ((ActK.box ⟨kd, nn, key⟩) : Array Value)[o]?)) (fun wx => Sp W [] wx (ringR p d (ringPuts rs) :: rgR q x rs :: boxR yq (ActK.box ⟨kd, nn, key⟩) 37 :: diskR d D :: rkR x D :: [])) S7 (fun x h => h.pull2.cell) (fun _ h => h) ?_
                  clear hR hS S7
                  repeat
                    refine Exists.intro _ (And.intro rfl (Or.inl (Exists.intro ?_ (And.intro (fun wS hS K hK => ?_) (And.intro ?_ ?_)))))
                    rotate_left 1
                    · have t0 := hS
                      first
                        | (refine if_unwanted rfl ?_; simp only [Act.put, List.setIfInBounds_toArray, List.set_cons_zero, List.set_cons_succ]; exact hK.out)
                        | (refine if_wanted rfl ?_; go_simp; exact hK.out)
                    · rfl
                  intro wE hE
                  have HSE := Lib.hid hE
                  clear hE
                  have HS9 := Lib.hid HSE.out
                  have c9 := HSE.out.pull2.cell
                  clear HSE HS8 HKA HKB
                  go_wp2_with fail
                  refine (HSB.out _ _ HS9.out.pull1).mono ?_
                  rintro e w10 ⟨rfl, S⟩
                  have HS10 := Lib.hid ((Sp.pick [_, _, _, _, _, _] [2, 1, 3, 0, 4, 5] (by decide) ((S.box #[.string ⟨key.toArray⟩, .int .u64 sn, .int .u64 so] 48))))
                  clear S HS9 c9 HSB
                  go_upto_region 41 with (fail)
                  generalize w10.alloc _ = w11 at *
                  generalize w10.heap.size = gq at *
                  refine wp_region_chainG [0, 1, 2, 4, 5, 6, 7, 8, 3, 9, 10, 11, 13, 12, 14, 15, 16, 17, 18, 19, 20, 21, 22, 24, 25, 26, 27, 23, 28, 29, 30, 31, 32, 33, 34, 35, 36, 38, 39, 40, 41, 42, 37, 43, 44, 45] (fun c => c == 3 || c == 12 || c == 14 || c == 15 || c == 23 || c == 28 || c == 37 || c == 43) (fun c => false) (T := fun wx => (∀ o, wx.cell? ⟨yq, o, none⟩ = ((ActK.box ⟨kd, nn, key⟩) : Array Value)[o]?) ∧ (∀ o, wx.cell? ⟨gq, o, none⟩ = (#[.string ⟨key.toArray⟩, .int .u64 sn, .int .u64 so] : Array Value)[o]?)) (S := fun wx => Sp W [] wx (ringR p d (ringPuts rs) :: rgR q x rs :: boxR yq (ActK.box ⟨kd, nn, key⟩) 37 :: boxR gq #[.string ⟨key.toArray⟩, .int .u64 sn, .int .u64 so] 48 :: diskR d D :: rkR x D :: [])) (by kernel_rfl) (by kernel_rfl) (by kernel_rfl) HS10.out.drew (fun x h => ⟨h.pull2.cell, h.pull3.cell⟩) ?_
                  repeat
                    refine Exists.intro _ (And.intro rfl (Or.inl (Exists.intro ?_ (And.intro (fun wS hS K hK => ?_) (And.intro ?_ ?_)))))
                    rotate_left 1
                    · obtain ⟨t0, t1⟩ := hS
                      first
                        | (refine if_unwanted rfl ?_; simp only [Act.put, List.setIfInBounds_toArray, List.set_cons_zero, List.set_cons_succ]; exact hK.out)
                        | (refine if_wanted rfl ?_; go_simp; exact hK.out)
                    · rfl
                  refine ChainG.one rfl rfl rfl (fun wS hS R hR => ?_)
                  go_simp
                  go_at_call 27
                  refine (HSA.out _ _ hS).mono ?_
                  rintro e w7 ⟨rfl, S7⟩
                  refine hR.out _ _ rfl (fun wx => (∀ o, wx.cell? ⟨yq, o, none⟩ = ((ActK.box ⟨kd, nn, key⟩) : Array Value)[o]?) ∧ (∀ o, wx.cell? ⟨gq, o, none⟩ = (#[.string ⟨key.toArray⟩, .int .u64 sn, .int .u64 so] : Array Value)[o]?)) (fun wx => Sp W [] wx (ringR p d (ringPuts rs) :: rgR q x rs :: boxR yq (ActK.box ⟨kd, nn, key⟩) 37 :: boxR gq #[.string ⟨key.toArray⟩, .int .u64 sn, .int .u64 so] 48 :: diskR d D :: rkR x D :: [])) S7 (fun x h => ⟨h.pull2.cell, h.pull3.cell⟩) (fun _ h => h) ?_
                  clear hR hS S7
                  repeat
                    refine Exists.intro _ (And.intro rfl (Or.inl (Exists.intro ?_ (And.intro (fun wS hS K hK => ?_) (And.intro ?_ ?_)))))
                    rotate_left 1
                    · obtain ⟨t0, t1⟩ := hS
                      first
                        | (refine if_unwanted rfl ?_; simp only [Act.put, List.setIfInBounds_toArray, List.set_cons_zero, List.set_cons_succ]; exact hK.out)
                        | (refine if_wanted rfl ?_; go_simp; exact hK.out)
                    · rfl
                  refine ChainG.one rfl rfl rfl (fun wS hS R hR => ?_)
                  go_simp
                  go_at_call 29
                  refine (HDA.out _ _ hS).mono ?_
                  rintro e w7 ⟨v1, rfl, S7⟩
                  refine hR.out _ _ rfl (fun wx => (∀ o, wx.cell? ⟨yq, o, none⟩ = ((ActK.box ⟨kd, nn, key⟩) : Array Value)[o]?) ∧ (∀ o, wx.cell? ⟨gq, o, none⟩ = (#[.string ⟨key.toArray⟩, .int .u64 sn, .int .u64 so] : Array Value)[o]?)) (fun wx => Sp W [] wx (rgR q x rs :: textsR v1 dm :: ringR p d (ringPuts rs) :: boxR yq (ActK.box ⟨kd, nn, key⟩) 37 :: boxR gq #[.string ⟨key.toArray⟩, .int .u64 sn, .int .u64 so] 48 :: diskR d D :: rkR x D :: [])) (Sp.pick [_, _, _] [2, 0, 1] (by decide) (S7)) (fun x h => ⟨h.pull3.cell, h.pull4.cell⟩) (fun _ h => h) ?_
                  clear hR hS S7
                  repeat
                    refine Exists.intro _ (And.intro rfl (Or.inl (Exists.intro ?_ (And.intro (fun wS hS K hK => ?_) (And.intro ?_ ?_)))))
                    rotate_left 1
                    · obtain ⟨t0, t1⟩ := hS
                      first
                        | (refine if_unwanted rfl ?_; simp only [Act.put, List.setIfInBounds_toArray, List.set_cons_zero, List.set_cons_succ]; exact hK.out)
                        | (refine if_wanted rfl ?_; go_simp; exact hK.out)
                    · rfl
                  refine ChainG.one rfl rfl rfl (fun wS hS R hR => ?_)
                  go_simp
                  go_at_call 30
                  refine (HDB.out _ _ hS).mono ?_
                  rintro e w7 ⟨v2, rfl, S7⟩
                  refine hR.out _ _ rfl (fun wx => (∀ o, wx.cell? ⟨yq, o, none⟩ = ((ActK.box ⟨kd, nn, key⟩) : Array Value)[o]?) ∧ (∀ o, wx.cell? ⟨gq, o, none⟩ = (#[.string ⟨key.toArray⟩, .int .u64 sn, .int .u64 so] : Array Value)[o]?)) (fun wx => Sp W [] wx (rgT q x rs v2 dm :: textsR v1 dm :: ringR p d (ringPuts rs) :: boxR yq (ActK.box ⟨kd, nn, key⟩) 37 :: boxR gq #[.string ⟨key.toArray⟩, .int .u64 sn, .int .u64 so] 48 :: diskR d D :: rkR x D :: [])) S7 (fun x h => ⟨h.pull3.cell, h.pull4.cell⟩) (fun _ h => h) ?_
                  clear hR hS S7
                  repeat
                    refine Exists.intro _ (And.intro rfl (Or.inl (Exists.intro ?_ (And.intro (fun wS hS K hK => ?_) (And.intro ?_ ?_)))))
                    rotate_left 1
                    · obtain ⟨t0, t1⟩ := hS
                      first
                        | (refine if_unwanted rfl ?_; simp only [Act.put, List.setIfInBounds_toArray, List.set_cons_zero, List.set_cons_succ]; exact hK.out)
                        | (refine if_wanted rfl ?_; go_simp; exact hK.out)
                    · rfl
                  refine ChainG.one rfl rfl rfl (fun wS hS R hR => ?_)
                  go_simp
                  go_at_call 28
                  refine (HSM.out _ _ _ _ hS).mono ?_
                  rintro e w7 ⟨rfl, S7⟩
                  refine hR.out _ _ rfl (fun wx => (∀ o, wx.cell? ⟨yq, o, none⟩ = ((ActK.box ⟨kd, nn, key⟩) : Array Value)[o]?) ∧ (∀ o, wx.cell? ⟨gq, o, none⟩ = (#[.string ⟨key.toArray⟩, .int .u64 sn, .int .u64 so] : Array Value)[o]?)) (fun wx => Sp W [] wx (ringR p d (ringPuts rs) :: rgR q x rs :: boxR yq (ActK.box ⟨kd, nn, key⟩) 37 :: boxR gq #[.string ⟨key.toArray⟩, .int .u64 sn, .int .u64 so] 48 :: diskR d D :: rkR x D :: [])) S7.pull1 (fun x h => ⟨h.pull2.cell, h.pull3.cell⟩) (fun _ h => h) ?_
                  clear hR hS S7
                  repeat
                    refine Exists.intro _ (And.intro rfl (Or.inl (Exists.intro ?_ (And.intro (fun wS hS K hK => ?_) (And.intro ?_ ?_)))))
                    rotate_left 1
                    · obtain ⟨t0, t1⟩ := hS
                      first
                        | (refine if_unwanted rfl ?_; simp only [Act.put, List.setIfInBounds_toArray, List.set_cons_zero, List.set_cons_succ]; exact hK.out)
                        | (refine if_wanted rfl ?_; go_simp; exact hK.out)
                    · rfl
                  refine ChainG.one rfl rfl rfl (fun wS hS R hR => ?_)
                  go_simp
                  go_at_call 31
                  refine (HLA1.out _ _ hS).mono ?_
                  rintro e w7 ⟨rfl, S7⟩
                  refine hR.out _ _ rfl (fun wx => (∀ o, wx.cell? ⟨yq, o, none⟩ = ((ActK.box ⟨kd, nn, key⟩) : Array Value)[o]?) ∧ (∀ o, wx.cell? ⟨gq, o, none⟩ = (#[.string ⟨key.toArray⟩, .int .u64 sn, .int .u64 so] : Array Value)[o]?)) (fun wx => Sp W [] wx (ringR p d (ringPuts rs) :: rgR q x rs :: boxR yq (ActK.box ⟨kd, nn, key⟩) 37 :: boxR gq #[.string ⟨key.toArray⟩, .int .u64 sn, .int .u64 so] 48 :: diskR d D :: rkR x D :: [])) S7 (fun x h => ⟨h.pull2.cell, h.pull3.cell⟩) (fun _ h => h) ?_
                  clear hR hS S7
                  repeat
                    refine Exists.intro _ (And.intro rfl (Or.inl (Exists.intro ?_ (And.intro (fun wS hS K hK => ?_) (And.intro ?_ ?_)))))
                    rotate_left 1
                    · obtain ⟨t0, t1⟩ := hS
                      first
                        | (refine if_unwanted rfl ?_; simp only [Act.put, List.setIfInBounds_toArray, List.set_cons_zero, List.set_cons_succ]; exact hK.out)
                        | (refine if_wanted rfl ?_; go_simp; exact hK.out)
                    · rfl
                  refine ChainG.one rfl rfl rfl (fun wS hS R hR => ?_)
                  go_simp
                  go_at_call 32
                  refine (HLB1.out _ _ hS.pull1).mono ?_
                  rintro e w7 ⟨rfl, S7⟩
                  refine hR.out _ _ rfl (fun wx => (∀ o, wx.cell? ⟨yq, o, none⟩ = ((ActK.box ⟨kd, nn, key⟩) : Array Value)[o]?) ∧ (∀ o, wx.cell? ⟨gq, o, none⟩ = (#[.string ⟨key.toArray⟩, .int .u64 sn, .int .u64 so] : Array Value)[o]?)) (fun wx => Sp W [] wx (ringR p d (ringPuts rs) :: rgR q x rs :: boxR yq (ActK.box ⟨kd, nn, key⟩) 37 :: boxR gq #[.string ⟨key.toArray⟩, .int .u64 sn, .int .u64 so] 48 :: diskR d D :: rkR x D :: [])) S7.pull1 (fun x h => ⟨h.pull2.cell, h.pull3.cell⟩) (fun _ h => h) ?_
                  clear hR hS S7
                  repeat
                    refine Exists.intro _ (And.intro rfl (Or.inl (Exists.intro ?_ (And.intro (fun wS hS K hK => ?_) (And.intro ?_ ?_)))))
                    rotate_left 1
                    · obtain ⟨t0, t1⟩ := hS
                      first
                        | (refine if_unwanted rfl ?_; simp only [Act.put, List.setIfInBounds_toArray, List.set_cons_zero, List.set_cons_succ]; exact hK.out)
                        | (refine if_wanted rfl ?_; go_simp; exact hK.out)
                    · rfl
                  refine ChainG.one rfl rfl rfl (fun wS hS R hR => ?_)
                  go_simp
                  go_at_call 31
                  refine (HLA2.out _ _ hS).mono ?_
                  rintro e w7 ⟨rfl, S7⟩
                  refine hR.out _ _ rfl (fun wx => (∀ o, wx.cell? ⟨yq, o, none⟩ = ((ActK.box ⟨kd, nn, key⟩) : Array Value)[o]?) ∧ (∀ o, wx.cell? ⟨gq, o, none⟩ = (#[.string ⟨key.toArray⟩, .int .u64 sn, .int .u64 so] : Array Value)[o]?)) (fun wx => Sp W [] wx (ringR p d (ringPuts rs) :: rgR q x rs :: boxR yq (ActK.box ⟨kd, nn, key⟩) 37 :: boxR gq #[.string ⟨key.toArray⟩, .int .u64 sn, .int .u64 so] 48 :: diskR d D :: rkR x D :: [])) S7 (fun x h => ⟨h.pull2.cell, h.pull3.cell⟩) (fun _ h => h) ?_
                  clear hR hS S7
                  repeat
                    refine Exists.intro _ (And.intro rfl (Or.inl (Exists.intro ?_ (And.intro (fun wS hS K hK => ?_) (And.intro ?_ ?_)))))
                    rotate_left 1
                    · obtain ⟨t0, t1⟩ := hS
                      first
                        | (refine if_unwanted rfl ?_; simp only [Act.put, List.setIfInBounds_toArray, List.set_cons_zero, List.set_cons_succ]; exact hK.out)
                        | (refine if_wanted rfl ?_; go_simp; exact hK.out)
                    · rfl
                  refine ChainG.one rfl rfl rfl (fun wS hS R hR => ?_)
                  go_simp
                  go_at_call 32
                  refine (HLB2.out _ _ hS.pull1).mono ?_
                  rintro e w7 ⟨rfl, S7⟩
                  refine hR.out _ _ rfl (fun wx => (∀ o, wx.cell? ⟨yq, o, none⟩ = ((ActK.box ⟨kd, nn, key⟩) : Array Value)[o]?) ∧ (∀ o, wx.cell? ⟨gq, o, none⟩ = (#[.string ⟨key.toArray⟩, .int .u64 sn, .int .u64 so] : Array Value)[o]?)) (fun wx => Sp W [] wx (ringR p d (ringPuts rs) :: rgR q x rs :: boxR yq (ActK.box ⟨kd, nn, key⟩) 37 :: boxR gq #[.string ⟨key.toArray⟩, .int .u64 sn, .int .u64 so] 48 :: diskR d D :: rkR x D :: [])) S7.pull1 (fun x h => ⟨h.pull2.cell, h.pull3.cell⟩) (fun _ h => h) ?_
                  clear hR hS S7
                  repeat
                    refine Exists.intro _ (And.intro rfl (Or.inl (Exists.intro ?_ (And.intro (fun wS hS K hK => ?_) (And.intro ?_ ?_)))))
                    rotate_left 1
                    · obtain ⟨t0, t1⟩ := hS
                      first
                        | (refine if_unwanted rfl ?_; simp only [Act.put, List.setIfInBounds_toArray, List.set_cons_zero, List.set_cons_succ]; exact hK.out)
                        | (refine if_wanted rfl ?_; go_simp; exact hK.out)
                    · rfl
                  intro wE hE
                  have HSE := Lib.hid hE
                  clear hE
                  have S2 := ((Sp.pick [_, _, _, _, _, _] [0, 1, 4, 5] (by decide) (HSE.out))).aShut
                  have HS11 := Lib.hid (S2.pull1.bShut).pull1
                  clear HSE HS10 S2
                  go_wp2_with fail
                  go_roundw
                  case rel => exact ⟨i + 1, by go_num, by omega, by omega, D, some rs, c, rfl, rfl, HI.out.mono (by omega) (by omega), HRK.out.opt (by omega), HS11.out⟩
                  case measure => simp [intOf]; omega
    · go_wp2_with fail
      all_goals
        go_ret
        exact ⟨rfl, HS5.out.ext⟩
theorem ringDoes_walk2 (v : Value) (l : List ActK) (n : Int) (W : World) (hl : ActKsAt W v l) (hb : 0 ≤ n ∧ n ≤ 18446744073709551615) :
    Calls Tryz.prog 3 #[v, .int .u64 n] W fun e w2 => e = .returned (.bool true) ∧ Ext [] W w2 := by
  obtain ⟨ep, rfl⟩ := Int.eq_ofNat_of_zero_le hb.1
  exact ringDoes_walk v l ep W hl (by omega)
end Go.Proofs.YtpkolkgndhagiaaGreat
