/- MaildirWhole: its walk. Printed by prmwhole.py. Condition: what Go's variables hold. -/
import Derived.Test.YtcffickkipicbaaGreatDoorMwP
import Derived.Test.YtcffickkipicbaaGreatDoorLawOrderM
import Derived.Test.YtcffickkipicbaaGreatDoorRangeS
import Derived.Deep.CutBlock
set_option linter.unusedSimpArgs false
set_option linter.unusedVariables false
set_option linter.unnecessarySimpa false
namespace Go.Proofs.YtcffickkipicbaaGreatDoor
open Go.RowKit Go.Sort Go.Maps

abbrev encMv (v : MV) : Value := v.1
theorem zeroStrs (w : World) : (zeroValue 38).run Tryz.prog w = .ok (.slice none 0 0) w := by kernel_rfl
/-- How things stand ahead of act i. -/
structure WFit (D : Dk) (K : Mp Bs) (T : Mp MV) (i : Nat) : Prop where
  minv : MInv D i (5000 * i)
  winv : WInv D K T
  klen : K.length ≤ i
  tlen : T.length ≤ i
  each : ∀ p ∈ T, p.2.2.length ≤ i
theorem WFit.more {D D2 : Dk} {K : Mp Bs} {T : Mp MV} {i : Nat} (h : WFit D K T i) (hm : MInv D2 (i + 1) (5000 * (i + 1))) (hw : WInv D2 K T) : WFit D2 K T (i + 1) := ⟨hm, hw, by have := h.klen; omega, by have := h.tlen; omega, fun p hp => by have := h.each p hp; omega⟩
theorem wfit_new : WFit Dk.new [] [] 0 := ⟨minv_new, WInv.new, by simp, by simp, by simp⟩
theorem mp_mem {V : Type} {K : Mp V} {x : Bs} {c : V} (h : K.get x = some c) : (x, c) ∈ K := by
  unfold Mp.get at h
  cases hf : K.find? fun p => p.1 == x with
  | none => rw [hf] at h; cases h
  | some p =>
    rw [hf] at h
    cases h
    have h1 := List.find?_some hf
    have h2 := List.mem_of_find?_eq_some hf
    rw [beq_iff_eq] at h1
    rw [← h1]
    exact h2
theorem triedOf_len {D : Dk} {K : Mp Bs} {T : Mp MV} {i : Nat} (h : WFit D K T i) (s : Bs) : (triedOf T s).length ≤ i := by
  unfold triedOf Mp.get
  cases hf : T.find? fun p => p.1 == s with
  | none => simp
  | some p => exact h.each p (List.mem_of_find?_eq_some hf)
theorem triedOf_put (T : Mp MV) (s j : Bs) (v : Value) (l : List Bs) : triedOf (T.put s (v, l)) j = if s = j then l else triedOf T j := by
  unfold triedOf
  rw [Mp.get_put]
  by_cases h : s = j <;> simp [h]
theorem WFit.told {D : Dk} {K : Mp Bs} {T : Mp MV} {i : Nat} (h : WFit D K T i) {box : Int} {id : Nat} {rc : Int} {nm t : Bs} (v : Value) (hq : mdName box id rc = (nm, 0)) (ht : t.length ≤ 1000) :
    WFit (mdDeliver D box id rc t).1 K (T.put nm (v, triedOf T nm ++ [t])) (i + 1) ∧ ((mdDeliver D box id rc t).2 = 0 → (mdDeliver D box id rc t).1.dead = false → WFit (mdDeliver D box id rc t).1 (K.put nm (((mdDeliver D box id rc t).1.now.get (newB ++ nm)).getD [])) (T.put nm (v, triedOf T nm ++ [t])) (i + 1)) := by
  have hT : ∀ s, ∀ c ∈ triedOf T s, c ∈ triedOf (T.put nm (v, triedOf T nm ++ [t])) s := fun s c hc => by
    rw [triedOf_put]
    split
    · rename_i e
      subst e
      simp [hc]
    · exact hc
  have hin : t ∈ triedOf (T.put nm (v, triedOf T nm ++ [t])) (mdName box id rc).1 := by rw [hq, triedOf_put, if_pos rfl]; simp
  obtain ⟨w1, w2⟩ := (h.winv.more hT).deliver (by rw [hq]) hin
  rw [hq] at w2
  have hm := h.minv.deliver box id rc t
  have hl := Mp.length_put_le T nm (v, triedOf T nm ++ [t])
  have hk := Mp.length_put_le K nm (((mdDeliver D box id rc t).1.now.get (newB ++ nm)).getD [])
  have h1 := h.klen; have h2 := h.tlen
  have he : ∀ p ∈ T.put nm (v, triedOf T nm ++ [t]), p.2.2.length ≤ i + 1 := fun p hp => by
    rcases Mp.mem_put.1 hp with rfl | ⟨h3, _⟩
    · have := triedOf_len h nm
      simp
      exact this
    · have := h.each p h3
      omega
  exact ⟨⟨hm.mono (by omega) (by omega), w1, by omega, by omega, he⟩, fun h3 h4 => ⟨hm.mono (by omega) (by omega), w2 h3 h4, by omega, by omega, he⟩⟩
set_option maxRecDepth 100000 in
set_option maxHeartbeats 40000000 in
theorem maildirWhole_walk (v : Value) (l : List ActM) (W : World) (E : Env W) (hl : ActMsAt W v l) :
    Calls Tryz.prog 8 #[v] W fun e w2 => e = .returned (.bool true) ∧ Ext [] W w2 := by
  have HS0 := Lib.hid (Sp.nil W [])
  have HE := Lib.hid E
  have HAT := Lib.hid hl
  obtain ⟨a, cap, rfl, hlen, hwf, _⟩ := hl
  have HW := Lib.hid hwf
  unfold maxLen at hlen
  have hlen' : (l.length : Int) ≤ 9223372036854775807 := by omega
  have hmm := @run_makeMap Tryz.prog
  clear hwf hlen E
  go_enter Tryz.func8, Tryz.ntmps8
  go_wp2_with fail
  refine (awake19S HS0.out HE.out).mono ?_
  rintro e w1 ⟨rfl, S⟩
  have HS1 := Lib.hid S
  clear S
  go_wp2_with fail
  refine (newS HS1.out).mono ?_
  rintro e w2 ⟨d, rfl, S⟩
  have HS2 := Lib.hid S
  clear S HS1
  go_wp2_with fail
  have S3 := (HS2.out.mapMade 9 encStr).mapMade 9 encMv
  have HS4 := Lib.hid ((Sp.pick [_, _, _, _] [3, 2, 1, 0] (by decide) ((Sp.mrNil S3))))
  clear S3 HS2 hmm
  simp only [World.size_alloc] at HS4
  generalize (w2.alloc (.map #[] 0)).alloc (.map #[] 0) = w4 at *
  generalize w2.heap.size + 1 = tm at *
  generalize w2.heap.size = km at *
  go_loopw [6] (fun z wr => ∃ (i : Nat) (D : Dk) (K : Mp Bs) (T : Mp MV), z = .int .i64 i ∧ i ≤ l.length ∧ i ≤ 60 ∧ WFit D K T i ∧ Sp W [] wr (diskR d D :: mapR 9 encStr km K :: mapR 9 encMv tm T :: mrows T :: [])) (fun z _ => 60 - (intOf z).toNat)
  case atStart => exact ⟨0, _, _, _, rfl, by omega, by omega, wfit_new, HS4.out⟩
  case round =>
    clear HS4
    obtain ⟨i, D, K, T, rfl, hi1, hi2, hI, S5⟩ := hrel
    have HI := Lib.hid hI
    have HS5 := Lib.hid S5
    clear hI S5
    by_cases hlt : i < l.length ∧ i < 60
    · obtain ⟨hlt1, hlt2⟩ := hlt
      have hlt1' : (i : Int) < l.length := by omega
      have hlt2' : (i : Int) < 60 := by omega
      have hwf := HW.out i hlt1
      obtain ⟨a', cap', he, _, _, hrow⟩ := HAT.out.ext HS5.out.ext
      cases he
      obtain ⟨b, off, rfl⟩ := hrow.addr (i := i) (by simpa using hlt1)
      obtain ⟨c0, c1, c2, c3, c4, c5, c6⟩ := actM_cells hrow i hlt1
      have HTM := Lib.hid hwf.textL
      have HNL := Lib.hid hwf.nameL
      have HN2 := Lib.hid hwf.n2
      have hid1 := hwf.id1
      generalize l[i] = y at *
      obtain ⟨kd, nn, bx, rc, id, text, name⟩ := y
      dsimp only at *
      obtain ⟨id, rfl⟩ : ∃ k : Nat, id = k := ⟨id.toNat, by omega⟩
      clear hwf hrow hid1
      have HS6 := Lib.hid (HS5.out.box #[.int .i64 kd, .int .i64 nn, .int .i64 bx, .int .i64 rc, .int .u64 id, .string ⟨text.toArray⟩, .string ⟨name.toArray⟩] 35)
      clear HS5
      go_wp2_with fail
      refine (large19S kd nn bx rc id text name HS6.out HTM.out HNL.out).mono ?_
      rintro e w7 ⟨rfl, S⟩
      by_cases hbig : (decide (1000 < text.length) || decide (200 < name.length)) = true
      · have HS7 := Lib.hid S
        clear S
        go_wp2
        go_ret
        exact ⟨rfl, HS7.out.ext⟩
      · rw [Bool.not_eq_true] at hbig
        have HTX : Hid (text.length ≤ 1000) := by simp at hbig; exact hbig.1
        generalize wr.heap.size = yq at *
        have HS7 := Lib.hid S
        have c7 := S.cell
        rw [hbig]
        clear S HS6 hbig c0 c1 c2 c3 c4 c5 c6 HTM HNL
        have HCF := Lib.hid (HI.out.minv.ok.crashFit (by omega))
        go_upto_block 2 with (fail)
        go_cut [] (fun wx => ∃ D K T, WFit D K T (i + 1) ∧ Sp W [] wx (boxR yq #[.int .i64 kd, .int .i64 nn, .int .i64 bx, .int .i64 rc, .int .u64 id, .string ⟨text.toArray⟩, .string ⟨name.toArray⟩] 35 :: diskR d D :: mapR 9 encStr km K :: mapR 9 encMv tm T :: mrows T :: []))
        case first =>
          by_cases hk0 : kd = 0
          · as_aux_lemma =>
              subst hk0
              obtain ⟨⟨nm, ec⟩, hq⟩ : ∃ q, mdName bx id rc = q := ⟨_, rfl⟩
              have HQ := Lib.hid hq
              have HML : Hid (nm.length ≤ 18) := by have := mdName_len bx id rc; rw [hq] at this; exact this
              have HTO := Lib.hid (fun (h0 : ec = 0) (v : Value) => HI.out.told (box := bx) (id := id) (rc := rc) (nm := nm) (t := text) v (by rw [hq, h0]) HTX.out)
              have HNO : Hid (ec ≠ 0 → mdDeliver D bx id rc text = (D, ec)) := fun h0 => by unfold mdDeliver; rw [hq, if_pos h0]
              have hadd := add_str newB nm (by have := HML.out; simp [newB, maxLen]; omega)
              have HNL : Hid ((newB ++ nm).length ≤ maxLen) := by have := HML.out; simp [newB, maxLen, Hid]; omega
              unfold newB at hadd
              generalize hx : newB ++ nm = xn at *
              have ex : [110, 101, 119, 47] ++ nm = xn := hx
              rw [ex] at hadd
              clear hq hx ex
              go_wp2_with fail
              refine (mdNameS bx id rc HS7.out HE.out).mono ?_
              rw [HQ.out]
              dsimp only
              rintro e w8 ⟨rfl, S⟩
              have c8 := S.cell
              have HS8 := Lib.hid S.pull1
              clear S c7 HS7
              go_wp2_with fail
              refine (mdDeliverS bx id rc text (5000 * i) HS8.out HE.out HI.out.minv.ok (by omega) (by have := HTX.out; omega)).mono ?_
              generalize mdDeliver D bx id rc text = R at *
              obtain ⟨D2, f2⟩ := R
              dsimp only at *
              rintro e w9 ⟨rfl, S⟩
              have c9 := ((Sp.pick [_, _] [1] (by decide) (S))).cell
              clear c8 HS8
              by_cases he : ec = 0
              · subst he
                have HTO2 := Lib.hid (fun v => HTO.out rfl v)
                clear HTO HNO
                have hlook := ((Sp.pick [_, _, _, _] [3] (by decide) (S))).map.look (t := 60) keyedStrM Tryz.underlying60 (zeroStrs _) (keyStrM nm (by have := HML.out; unfold maxLen; omega))
                have HTL := Lib.hid (triedOf_len HI.out nm)
                obtain ⟨v0, hv0, S2⟩ : ∃ v0, ((T.get nm).map encMv).getD (.slice none 0 0) = v0 ∧ Sp W [] w9 (textsR v0 (triedOf T nm) :: mrows (T.del nm) :: diskR d D2 :: boxR yq #[.int .i64 0, .int .i64 nn, .int .i64 bx, .int .i64 rc, .int .u64 id, .string ⟨text.toArray⟩, .string ⟨name.toArray⟩] 35 :: mapR 9 encStr km K :: mapR 9 encMv tm T :: []) := by
                  cases hg : T.get nm with
                  | none =>
                    refine ⟨_, rfl, ?_⟩
                    rw [show triedOf T nm = [] by simp [triedOf, hg]]
                    exact (Sp.mrDel ((Sp.pick [_, _, _, _, _] [4, 0, 1, 2, 3] (by decide) (S)))).textsNil
                  | some e =>
                    refine ⟨e.1, rfl, ?_⟩
                    rw [show triedOf T nm = e.2 by simp [triedOf, hg]]
                    exact Sp.mrTake hg ((Sp.pick [_, _, _, _, _] [4, 0, 1, 2, 3] (by decide) (S)))
                rw [hv0] at hlook
                generalize triedOf T nm = l0 at *
                obtain ⟨g, cap2, w10, hap, S3⟩ := Sp.appendText 38 text (by have := HTL.out; omega) (S2.box #[.string ⟨text.toArray⟩] 9)
                obtain ⟨w11, hput, S4, _⟩ := ((Sp.pick [_, _, _, _, _, _] [5, 0, 1, 2, 3, 4] (by decide) (S3))).mapPut (t := 60) keyedStrM Tryz.underlying60 (by have := HI.out.tlen; unfold maxLen; omega) (keyStrM nm (by have := HML.out; unfold maxLen; omega)) ((.slice (some ⟨g, 0, none⟩) (l0.length + 1) cap2, l0 ++ [text]) : MV)
                have S5 := Sp.mrPut (x := nm) (e := (.slice (some ⟨g, 0, none⟩) (l0.length + 1) cap2, l0 ++ [text])) ((Sp.pick [_, _, _] [1, 2, 0] (by decide) (S4)))
                have HS11 := Lib.hid ((Sp.pick [_, _, _, _, _] [3, 2, 4, 1, 0] (by decide) (S5)))
                have HW1 := Lib.hid (HTO2.out (.slice (some ⟨g, 0, none⟩) (l0.length + 1) cap2))
                generalize T.put nm (.slice (some ⟨g, 0, none⟩) (l0.length + 1) cap2, l0 ++ [text]) = T2 at *
                have hlk := ((Sp.pick [_, _, _] [2] (by decide) (HS11.out))).map.lookOk (t := 45) keyedStrM Tryz.underlying45 (zeroStr _) (keyStrM nm (by have := HML.out; unfold maxLen; omega))
                generalize ((K.get nm).map encStr).getD (.string ⟨#[]⟩) = kv at *
                have HAP := Lib.hid hap
                have hput2 : (Instr.mapUpdate 60 (.map (some tm)) (.string ⟨nm.toArray⟩) (.slice (some ⟨g, 0, none⟩) (l0.length + 1) cap2)).run Tryz.prog w10 = .ok () w11 := hput
                clear S S2 S3 S4 S5 hap hput hv0 HTO2
                go_upto_region 20 with (at_builtin; refine wpList_append_run (by rfl) (by rfl) (by rfl) (by rfl) HAP.out ?_)
                clear hlook hput2 HAP c9
                by_cases hf : f2 = 0
                · subst hf
                  cases hh : K.has nm with
                  | true =>
                    rw [hh] at hlk
                    clear hh
                    go_wp2_with fail
                    go_meet
                    exact ⟨D2, K, T2, HW1.out.1, HS11.out⟩
                  | false =>
                    rw [hh] at hlk
                    clear hh
                    go_wp2_with fail
                    refine (deadS HS11.out.pull1).mono ?_
                    rintro e w12 ⟨rfl, rfl⟩
                    cases hdd : D2.dead with
                    | true =>
                      clear hdd
                      go_wp2_with fail
                      go_meet
                      exact ⟨D2, K, T2, HW1.out.1, HS11.out⟩
                    | false =>
                      have HW2 := Lib.hid (HW1.out.2 (by trivial) hdd)
                      have HRD := Lib.hid (readS xn HS11.out.pull1 HNL.out)
                      generalize (D2.now.get xn).getD [] = sx at *
                      obtain ⟨ec2, hec2⟩ : ∃ c : Int, c = (if D2.now.has xn then 0 else 10) := ⟨_, rfl⟩
                      rw [← hec2] at HRD
                      obtain ⟨w14, hput3, S14, _⟩ := ((Sp.pick [_, _, _, _, _] [2, 0, 1, 3, 4] (by decide) (HS11.out))).mapPut (t := 45) keyedStrM Tryz.underlying45 (by have := HI.out.klen; unfold maxLen; omega) (keyStrM nm (by have := HML.out; unfold maxLen; omega)) sx
                      have hput4 : (Instr.mapUpdate 45 (.map (some km)) (.string ⟨nm.toArray⟩) (.string ⟨sx.toArray⟩)).run Tryz.prog w11 = .ok () w14 := hput3
                      have HS14 := Lib.hid ((Sp.pick [_, _, _, _, _] [1, 2, 0, 3, 4] (by decide) (S14)))
                      clear S14 hput3 hlk hdd hec2 HW1
                      go_wp2_with fail
                      refine HRD.out.mono ?_
                      rintro e w13 ⟨rfl, rfl⟩
                      go_wp2_with fail
                      go_meet
                      exact ⟨D2, _, T2, HW2.out, HS14.out⟩
                · have hf' : (f2 == 0) = false := by simpa using hf
                  clear hf
                  go_wp2_with fail
                  go_meet
                  exact ⟨D2, K, T2, HW1.out.1, HS11.out⟩
              · have hd := HNO.out he
                simp only [Prod.mk.injEq] at hd
                obtain ⟨rfl, rfl⟩ := hd
                have he' : (f2 != 0) = true := by simpa using he
                have HS9 := Lib.hid ((Sp.pick [_, _, _, _, _] [0, 2, 3, 4] (by decide) (S)))
                clear S c9 HTO HNO he
                go_wp2_with fail
                go_roundw
                case rel => exact ⟨i + 1, D2, K, T, by go_num, by omega, by omega, HI.out.more (HI.out.minv.mono (by omega) (by omega)) HI.out.winv, HS9.out⟩
                case measure => simp [intOf]; omega
          by_cases hk1 : kd = 1
          · as_aux_lemma =>
              subst hk1
              have HSa := Lib.hid HS7.out.pull1
              have HNT := Lib.hid (HI.out.minv.names tmpB)
              go_wp2_with fail
              refine (mdRecoverS (5000 * i) HSa.out HI.out.minv.ok (by omega) (by have := HNT.out.1; omega) (fun n hn => by have := HNT.out.2 n hn; omega)).mono ?_
              rintro e w8 ⟨rfl, S⟩
              have HS9 := Lib.hid S.pull1
              clear S c7 HSa
              go_wp2_with fail
              go_meet
              exact ⟨(mdRecover D).1, K, T, HI.out.more (HI.out.minv.recover.mono (by omega) (by omega)) HI.out.winv.recover, HS9.out⟩
          by_cases hk2 : kd = 2
          · as_aux_lemma =>
              subst hk2
              have HSa := Lib.hid HS7.out.pull1
              go_wp2_with fail
              refine (fuseS nn HSa.out).mono ?_
              rintro e w8 ⟨rfl, S⟩
              have HS9 := Lib.hid S.pull1
              clear S c7 HSa
              go_wp2_with fail
              go_meet
              exact ⟨D.setFuse nn, K, T, HI.out.more ((HI.out.minv.fuse nn HN2.out).mono (by omega) (by omega)) (HI.out.winv.fuse nn), HS9.out⟩
          by_cases hk3 : kd = 3
          · as_aux_lemma =>
              subst hk3
              have HSa := Lib.hid HS7.out.pull1
              go_wp2_with fail
              refine (crashS nn HSa.out HCF.out).mono ?_
              rintro e w8 ⟨rfl, S⟩
              have HS9 := Lib.hid S.pull1
              clear S c7 HSa
              go_wp2_with fail
              go_meet
              exact ⟨D.crash nn, K, T, HI.out.more ((HI.out.minv.crash nn).mono (by omega) (by omega)) (HI.out.winv.crash nn), HS9.out⟩
          by_cases hk4 : kd = 4
          · as_aux_lemma =>
              subst hk4
              have HSa := Lib.hid HS7.out.pull1
              go_wp2_with fail
              refine (quotaS nn HSa.out).mono ?_
              rintro e w8 ⟨rfl, S⟩
              have HS9 := Lib.hid S.pull1
              clear S c7 HSa
              go_wp2_with fail
              go_meet
              exact ⟨{ D with quota := max nn 0 }, K, T, HI.out.more ((HI.out.minv.quota _).mono (by omega) (by omega)) (HI.out.winv.quota _), HS9.out⟩
          as_aux_lemma =>
            have t0 : (kd == 0) = false := by simpa using hk0
            have t1 : (kd == 1) = false := by simpa using hk1
            have t2 : (kd == 2) = false := by simpa using hk2
            have t3 : (kd == 3) = false := by simpa using hk3
            have t4 : (kd == 4) = false := by simpa using hk4
            clear hk0 hk1 hk2 hk3 hk4
            go_wp2_with fail
            go_meet
            exact ⟨D, K, T, HI.out.more (HI.out.minv.mono (by omega) (by omega)) HI.out.winv, HS7.out⟩
        case rest =>
          clear HI HCF HS7 c7
          obtain ⟨D, K, T, hI, S5⟩ := hcut
          have HI := Lib.hid hI
          have HS7 := Lib.hid S5.drop
          clear hI S5
          have HNN := Lib.hid (HI.out.minv.names newB)
          have HPRE : Hid (∀ y ∈ D.now.names newB, newB.isPrefixOf y = true) := fun y hy => names_pre hy
          have HNH : Hid (∀ y ∈ D.now.names newB, D.now.has y = true) := fun y hy => by
            unfold Fs.names at hy
            obtain ⟨p, hp, he⟩ := List.mem_map.1 (List.mem_filter.1 hy).1
            exact has_iff.2 ⟨p, hp, he⟩
          go_wp2_with fail
          refine (listS newB HS7.out (by have := HI.out.minv.hist.good.1; omega)).mono ?_
          rintro e w8 ⟨v8, rfl, S⟩
          obtain ⟨na, nc, rfl⟩ := S.textSlice
          have HS8 := Lib.hid S
          clear S HS7
          have hnl : ((D.now.names newB).length : Int) ≤ 100 := by have := HNN.out.1; omega
          generalize D.now.names newB = ns at *
          go_wp2_with fail
          go_loopw [135] (fun z wr => ∃ j : Nat, z = .int .i64 j ∧ j ≤ ns.length ∧ Sp W [] wr (textsR (.slice na ns.length nc) ns :: diskR d D :: mapR 9 encStr km K :: mapR 9 encMv tm T :: mrows T :: [])) (fun z _ => ns.length - (intOf z).toNat)
          case atStart => exact ⟨0, rfl, Nat.zero_le _, HS8.out⟩
          case round =>
            clear HS8
            obtain ⟨j, rfl, hj, S⟩ := hrel
            have HS8 := Lib.hid S
            by_cases hlt : j < ns.length
            · as_aux_lemma =>
                have hlt' : (j : Int) < ns.length := by omega
                obtain ⟨y, hy⟩ : ∃ y, ns[j]? = some y := ⟨_, List.getElem?_eq_getElem hlt⟩
                obtain ⟨b2, hna, cy⟩ := S.textCell hy
                subst hna
                have hym := List.mem_of_getElem? hy
                have HYL := Lib.hid (HNN.out.2 y hym)
                obtain ⟨s, hs⟩ := List.isPrefixOf_iff_prefix.1 (HPRE.out y hym)
                have hh := HNH.out y hym
                obtain ⟨t, hg⟩ : ∃ t, D.now.get y = some t := by
                  rw [Fs.has_eq] at hh
                  exact Option.isSome_iff_exists.1 hh
                have hin : t ∈ triedOf T s := by
                  rcases HI.out.winv.hist.good.file y t hg with ⟨q, h1, h2⟩ | ⟨q, h1, h2⟩
                  · rw [← hs] at h1
                    rw [List.append_cancel_left h1]
                    exact h2
                  · rw [← hs] at h1
                    exact absurd h1 (new_tmp _ _)
                obtain ⟨e0, he0⟩ : ∃ e0, T.get s = some e0 := by
                  unfold triedOf at hin
                  cases hT : T.get s with
                  | none => rw [hT] at hin; cases hin
                  | some e0 => exact ⟨e0, rfl⟩
                have hin2 : t ∈ e0.2 := by unfold triedOf at hin; rw [he0] at hin; exact hin
                have HIN := Lib.hid hin2
                have HKE : Hid (∀ c, K.get s = some c → c = t) := fun c hc => by
                  obtain ⟨p, hp, rfl⟩ : ∃ p ∈ K, p = (s, c) := ⟨(s, c), mp_mem hc, rfl⟩
                  have := HI.out.winv.hist.good.kept _ hp
                  dsimp only at this
                  rw [hs, hg] at this
                  exact (Option.some.inj this).symm
                have HE0 : Hid (e0.2.length ≤ 100) := by
                  have := triedOf_len HI.out s
                  unfold triedOf at this
                  rw [he0] at this
                  have h3 : e0.2.length ≤ i + 1 := this
                  unfold Hid
                  omega
                have HRD := Lib.hid (readS y (S.drop) (by have := HYL.out; unfold maxLen; omega))
                rw [hg, hh] at HRD
                have HRD2 : Hid (Calls Tryz.prog 22 #[.pointer (some ⟨d, 0, none⟩), .string ⟨y.toArray⟩] wr fun r w2 => r = .returned (.tuple #[.string ⟨t.toArray⟩, .int .i64 0]) ∧ wr = w2) := HRD.out
                have hdr : y.drop 4 = s := by rw [← hs]; rfl
                have hy4 : 4 ≤ y.length := by rw [← hs]; simp [newB]
                have hy4' : (4 : Int) ≤ y.length := by omega
                have HCT := cut_tailD y 4 y.length rfl
                rw [hdr] at HCT
                have HSL : Hid (s.length ≤ maxLen) := by have h3 := HYL.out; have h4 : s.length = y.length - 4 := by rw [← hdr, List.length_drop]
                                                         unfold Hid maxLen; omega
                have hlook := ((Sp.pick [_, _, _, _] [3] (by decide) (S))).map.look (t := 60) keyedStrM Tryz.underlying60 (zeroStrs _) (keyStrM s HSL.out)
                rw [he0] at hlook
                have HLK := Lib.hid (fun (W2 : World) (S : Sp W [] W2 (textsR (.slice (some ⟨b2, 0, none⟩) ns.length nc) ns :: diskR d D :: mapR 9 encStr km K :: mapR 9 encMv tm T :: mrows T :: [])) => ((Sp.pick [_, _, _] [2] (by decide) (S))).map.lookOk (t := 45) keyedStrM Tryz.underlying45 (zeroStr _) (keyStrM s HSL.out))
                have HTX2 := Lib.hid (fun (W2 : World) (S : Sp W [] W2 (textsR (.slice (some ⟨b2, 0, none⟩) ns.length nc) ns :: diskR d D :: mapR 9 encStr km K :: mapR 9 encMv tm T :: mrows T :: [])) => texts_of (Sp.mrTake he0 ((Sp.pick [_, _, _, _, _] [4] (by decide) (S)))))
                obtain ⟨a0, cp0, e1, _, _⟩ := HTX2.out _ S
                obtain ⟨ev, el⟩ := e0
                dsimp only at *
                subst e1
                have hel : (el.length : Int) ≤ 100 := by have := HE0.out; omega
                have hlook2 : (Instr.lookup 60 (.map (some tm)) (.string ⟨s.toArray⟩) false).run Tryz.prog wr = .ok (.slice a0 el.length cp0) wr := hlook
                clear S hy hym hs hh hg hin he0 hin2 HRD hdr hlook
                go_wp2_with fail
                refine HRD2.out.mono ?_
                rintro e w9 ⟨rfl, rfl⟩
                go_wp2_with fail
                go_loopw [17, 150] (fun r z wq => ∃ k : Nat, z = .int .i64 k ∧ k ≤ el.length ∧ r = .bool (decide (t ∈ el.take k)) ∧ Sp W [] wq (textsR (.slice (some ⟨b2, 0, none⟩) ns.length nc) ns :: diskR d D :: mapR 9 encStr km K :: mapR 9 encMv tm T :: mrows T :: [])) (fun _ z _ => el.length - (intOf z).toNat)
                case atStart => exact ⟨0, rfl, Nat.zero_le _, by simp, HS8.out⟩
                case round =>
                  clear HS8 hlook2
                  obtain ⟨k, rfl, hk, rfl, S⟩ := hrel
                  have HS8 := Lib.hid S
                  by_cases hkl : k < el.length
                  · have hkl' : (k : Int) < el.length := by omega
                    obtain ⟨a2, cap2, e1, _, hra⟩ := HTX2.out _ S
                    simp only [Value.slice.injEq] at e1
                    obtain ⟨rfl, _, hcap⟩ := e1
                    subst hcap
                    obtain ⟨b3, o3, rfl⟩ := hra.addr (i := k) (by simpa using hkl)
                    have c3 := texts_cell hra k hkl
                    have HTK : Hid (∀ z, z ∈ el.take (k + 1) ↔ z ∈ el.take k ∨ z = el[k]) := fun z => by rw [List.take_succ_eq_append_getElem hkl, List.mem_append, List.mem_singleton]
                    generalize el[k] = x1 at *
                    clear hra S
                    by_cases hm : t ∈ el.take k
                    · rw [show decide (t ∈ el.take k) = true by simpa using hm]
                      have HV : Hid (decide (t ∈ el.take (k + 1)) = true) := by unfold Hid; rw [decide_eq_true_eq, HTK.out]; exact .inl hm
                      clear hm
                      go_wp2_with fail
                      go_roundw
                      case rel => exact ⟨k + 1, by go_num, by omega, by rw [HV.out], HS8.out⟩
                      case measure => simp [intOf]; omega
                    · rw [show decide (t ∈ el.take k) = false by simpa using hm]
                      by_cases hx : t = x1
                      · have hx2 : (t == x1) = true := by simpa using hx
                        have HV : Hid (decide (t ∈ el.take (k + 1)) = true) := by unfold Hid; rw [decide_eq_true_eq, HTK.out]; exact .inr hx
                        clear hm hx
                        go_wp2_with fail
                        go_roundw
                        case rel => exact ⟨k + 1, by go_num, by omega, by rw [HV.out], HS8.out⟩
                        case measure => simp [intOf]; omega
                      · have hx2 : (t == x1) = false := by simpa using hx
                        have HV : Hid (decide (t ∈ el.take (k + 1)) = false) := by unfold Hid; rw [decide_eq_false_iff_not, HTK.out]; rintro (h | h); exact hm h; exact hx h
                        clear hm hx
                        go_wp2_with fail
                        go_roundw
                        case rel => exact ⟨k + 1, by go_num, by omega, by rw [HV.out], HS8.out⟩
                        case measure => simp [intOf]; omega
                  · obtain rfl : k = el.length := by omega
                    rw [show decide (t ∈ el.take el.length) = true by rw [List.take_length]; simpa using HIN.out]
                    have hlk := HLK.out _ S
                    clear S
                    cases hK : K.get s with
                    | none =>
                      rw [Mp.has_eq, hK] at hlk
                      have hlk2 : (Instr.lookup 45 (.map (some km)) (.string ⟨s.toArray⟩) true).run Tryz.prog _ = .ok (.tuple #[.string ⟨#[]⟩, .bool false]) _ := hlk
                      clear hlk hK
                      go_wp2_with fail
                      go_roundw
                      case rel => exact ⟨j + 1, by go_num, by omega, HS8.out⟩
                      case measure => simp [intOf]; omega
                    | some c =>
                      obtain rfl := HKE.out c hK
                      rw [Mp.has_eq, hK] at hlk
                      have hlk2 : (Instr.lookup 45 (.map (some km)) (.string ⟨s.toArray⟩) true).run Tryz.prog _ = .ok (.tuple #[.string ⟨c.toArray⟩, .bool true]) _ := hlk
                      clear hlk hK
                      go_wp2_with fail
                      go_roundw
                      case rel => exact ⟨j + 1, by go_num, by omega, HS8.out⟩
                      case measure => simp [intOf]; omega
            · obtain rfl : j = ns.length := by omega
              clear S
              as_aux_lemma =>
                obtain ⟨w14, cnt, hrun, S14⟩ := ((Sp.pick [_, _, _, _, _] [2, 1, 3, 4] (by decide) (HS8.out))).rangeMade (t := 45) keyedStrM Tryz.underlying45
                have HS14 := Lib.hid S14
                have HKP : Hid (∀ x c, (x, c) ∈ K → D.now.get (newB ++ x) = some c) := fun x c h => HI.out.winv.hist.good.kept (x, c) h
                have HFU := Lib.hid HI.out.minv.hist.good
                clear S14 HS8
                generalize wr.heap.size = ri at *
                go_wp2_with fail
                go_loopw [] (fun wq => ∃ (N : Mp Bs) (cnt : Nat), Sp W [] wq (rangeR 9 encStr km ri K N cnt :: diskR d D :: mapR 9 encMv tm T :: mrows T :: [])) (fun wq => wq.rangeLeft km ri)
                case atStart => exact ⟨K, cnt, HS14.out⟩
                case round =>
                  clear hrun HS14
                  obtain ⟨N, cnt, S15⟩ := hrel
                  have HLE := Lib.hid S15.range.left_eq
                  have HS15 := Lib.hid S15
                  rcases S15.rangeNext Tryz.underlying9 with ⟨rfl, hnx⟩ | ⟨x, t, w16, N1, cnt1, hperm, hmem, hxl, hnx, S16, hlt2, hnot, hent⟩
                  · clear S15
                    go_wp2_with fail
                    clear hnx
                    go_roundw
                    case rel => exact ⟨i + 1, D, K, T, by go_num, by omega, by omega, HI.out, ((Sp.pick [_, _, _, _] [1, 0, 2, 3] (by decide) (HS15.out.rangeEnd)))⟩
                    case measure => simp [intOf]; omega
                  · have hgt := HKP.out x t hmem
                    have HLT := Lib.hid hlt2
                    have HS16 := Lib.hid S16
                    have HR16 := Lib.hid S16.range.left_eq
                    have hnm : (newB ++ x).length ≤ 80 := by
                      have h2 : D.now.has (newB ++ x) = true := by rw [Fs.has_eq, hgt]; rfl
                      obtain ⟨p, hp, he⟩ := has_iff.1 h2
                      rw [← he]
                      exact HFU.out.2 p hp
                    have hadd := add_str newB x (by rw [← List.length_append]; unfold maxLen; omega)
                    unfold newB at hadd
                    have HRD := Lib.hid (readS (newB ++ x) S16.pull1 (by unfold maxLen; omega))
                    rw [hgt, show D.now.has (newB ++ x) = true by rw [Fs.has_eq, hgt]; rfl] at HRD
                    have HRD2 : Hid (Calls Tryz.prog 22 #[.pointer (some ⟨d, 0, none⟩), .string ⟨(newB ++ x).toArray⟩] w16 fun r w2 => r = .returned (.tuple #[.string ⟨t.toArray⟩, .int .i64 0]) ∧ w16 = w2) := HRD.out
                    generalize hz : newB ++ x = z at *
                    have hz2 : [110, 101, 119, 47] ++ x = z := hz
                    rw [hz2] at hadd
                    clear S15 S16 hperm hmem hxl hlt2 hnot hgt hnm hz hz2 HRD
                    go_wp2_with fail
                    refine HRD2.out.mono ?_
                    rintro e w17 ⟨rfl, rfl⟩
                    clear hnx hent
                    go_wp2_with fail
                    go_roundw
                    case rel => exact ⟨N1, cnt1, HS16.out⟩
                    case measure => rw [HLE.out, HR16.out]; exact HLT.out
    · go_wp2_with fail
      all_goals
        go_ret
        exact ⟨rfl, HS5.out.ext⟩
end Go.Proofs.YtcffickkipicbaaGreatDoor
