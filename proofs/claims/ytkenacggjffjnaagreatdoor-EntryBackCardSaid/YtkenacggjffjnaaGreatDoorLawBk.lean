/- law 15: EntryBack's walk. Conditions: what Go's variables hold; the arguments are some. -/
import Derived.Test.YtkenacggjffjnaaGreatDoorLawTurned
import Derived.Test.YtkenacggjffjnaaGreatDoorBxRR
import Derived.Test.YtkenacggjffjnaaGreatDoorArI
set_option linter.unusedSimpArgs false
set_option linter.unusedVariables false
set_option linter.unnecessarySimpa false
namespace Go.Proofs.YtkenacggjffjnaaGreatDoor
open Go.RowKit Go.Maps

theorem read_headB {e : En} (h : enMay e = true) : enRead 300 (headB e) = (e, 0) := by
  have hb := rdEn_back e (enMay_parts h) 300 (by decide) (by decide) []
  rw [List.append_nil] at hb
  unfold enRead
  rw [hb]
  dsimp only
  rw [if_pos ⟨by rfl, h⟩]
theorem enSame_self (e : En) : enSame e e = true := by simp [enSame]
theorem real_seal {e : En} {body key : Bs} (he : enMay e = true) (hb : body.length ≤ 16000) : enSealV e body (rlSeal key (nonceE e.cnt) (headB e) (fillB body)) = (textB (headB e) ++ (rlSeal key (nonceE e.cnt) (headB e) (fillB body)).1, 0) := by
  have hl := fillB_length hb
  have hbl := bucket_le (textB body).length
  have hh := headB_len (enMay_parts he)
  unfold enSealV
  rw [if_pos he, if_pos hb, if_pos (rl_back key _ _ _ (by omega) (by omega)).1]
theorem real_open {e : En} {body key : Bs} (he : enMay e = true) (hb : body.length ≤ 16000) : enOpenV (rlOpen key) (textB (headB e) ++ (rlSeal key (nonceE e.cnt) (headB e) (fillB body)).1) = (e, body, 0) := by
  have hl := fillB_length hb
  have hbl := bucket_le (textB body).length
  have hh := headB_len (enMay_parts he)
  unfold enOpenV
  rw [split_file e he]
  dsimp only
  rw [if_pos rfl, (rl_back key _ _ _ (by omega) (by omega)).2]
  dsimp only
  rw [if_pos rfl, unfill_fill hb, if_pos rfl]
theorem rlSeal_len (key n d t : Bs) : (rlSeal key n d t).1.length ≤ 1000000 := by
  unfold rlSeal
  split
  · dsimp only
    rw [chC.shut_length]
    omega
  · simp
theorem rlOpen_len (key n d s : Bs) : (rlOpen key n d s).1.length ≤ 1000000 := by
  unfold rlOpen
  split
  · unfold Cipher.open
    split
    · rename_i h
      split at h
      · cases h
        dsimp only
        rw [xorB_length _ _ (by rw [chC.stream_length, List.length_take]; omega), List.length_take]
        omega
      · cases h
    · simp
  · simp
theorem realFile_len {e : En} {body key : Bs} (he : enMay e = true) : (textB (headB e) ++ (rlSeal key (nonceE e.cnt) (headB e) (fillB body)).1).length ≤ 1000000 := by
  have hh := headB_len (enMay_parts he)
  have h3 := textB_length_le (headB e)
  rw [List.length_append]
  unfold rlSeal
  split
  · dsimp only
    rw [chC.shut_length]
    omega
  · simp
    omega
section
variable {w w0 : World} {L : List Res} {b : Nat} {v : Value}
theorem enSealR (e : En) (key body : Bs) (hk : key.length = 32) (E : Env w0) (hf : e.Fit) (T : TosAt w v e.rcs) (S : Sp w0 [] w (realR b :: L)) :
    Calls Tryz.prog 27 #[.pointer (some ⟨b, 0, none⟩), .string ⟨key.toArray⟩, enAgg e v, .string ⟨body.toArray⟩] w fun r w2 => r = .returned (.tuple #[.string ⟨(enSealV e body (rlSeal key (nonceE e.cnt) (headB e) (fillB body))).1.toArray⟩, .int .i64 (enSealV e body (rlSeal key (nonceE e.cnt) (headB e) (fillB body))).2]) ∧ Sp w0 [] w2 (realR b :: L) := by
  have h := enSealG (B2 := realR b) e key body (rlSeal key (nonceE e.cnt) (headB e) (fillB body)) E hf T S (rlSeal_len _ _ _ _) (fun _ _ w' L' S' => rlSealS key (nonceE e.cnt) (headB e) (fillB body) hk (nonceE_length _) S')
  rw [ite_self] at h
  exact h
theorem enOpenR (key s : Bs) (hk : key.length = 32) (hs : s.length ≤ 1000000) (E : Env w0) (S : Sp w0 [] w (realR b :: L)) :
    Calls Tryz.prog 28 #[.pointer (some ⟨b, 0, none⟩), .string ⟨key.toArray⟩, .string ⟨s.toArray⟩] w fun r w2 => ∃ v, r = .returned (.tuple #[enAgg (enOpenV (rlOpen key) s).1 v, .string ⟨(enOpenV (rlOpen key) s).2.1.toArray⟩, .int .i64 (enOpenV (rlOpen key) s).2.2]) ∧ Sp w0 [] w2 (tosR v (enOpenV (rlOpen key) s).1.rcs :: realR b :: L) :=
  enOpenG (rlOpen key) key s hs E S (fun n d t w' L' hn hd ht S' => rlOpenS key n d t hk hn ht S') (fun n d t => rlOpen_len key n d t)
theorem put_noneX (a : Act) (v : Value) : a.put none v = a := rfl
set_option maxRecDepth 100000 in
set_option maxHeartbeats 40000000 in
theorem entryBack_walk (e : En) (v : Value) (body key : Bs) (w : World) (E : Env w) (hw : e.Wf) (T : TosAt w v e.rcs) (_hbd : body.length ≤ maxLen) (hk : key.length = 32) : Calls Tryz.prog 8 #[enAgg e v, .string ⟨body.toArray⟩, .agg (k32C key)] w fun e w2 => e = .returned (.bool true) ∧ Ext [] w w2 := by
  have HE := Lib.hid E
  have S0 := ((Sp.nil w []).box (enCells e v) 27).box (k32C key) 41
  have HT := Lib.hid T
  have HL := Lib.hid (fun (w' : World) (hx : Ext [] w w') => large15_any e v w' hw (T.ext hx))
  have HFT := Lib.hid (@largeE_fit e hw)
  have HA := Lib.hid (awake15S S0 E)
  have HS0 := Lib.hid S0
  obtain ⟨va, vc, rfl⟩ := T.form
  have HK := Lib.hid hk
  have HCV := Lib.hid (fun W q => k32Conv key hk W q)
  clear E T hw hk S0
  unfold enAgg
  unfold enCells at HS0 HA
  generalize k32C key = kc at *
  simp only [World.size_alloc] at HS0 HA
  go_enter Tryz.func8, Tryz.ntmps8
  go_upto_region 1 with (fail)
  generalize (w.alloc _).alloc _ = w1 at *
  generalize w.heap.size + 1 = q5 at *
  generalize w.heap.size = q3 at *
  go_wp2_with fail
  refine HA.out.mono ?_
  rintro e1 w2 ⟨rfl, S⟩
  have HS2 := Lib.hid S.pull1
  have c2 := HS2.out.cell
  clear S HA HS0
  have HLx := Lib.hid (HL.out w2 HS2.out.ext)
  unfold enAgg at HLx
  go_wp2_with fail
  refine HLx.out.mono ?_
  rintro e1 w3 ⟨rfl, hx⟩
  have HS3 := Lib.hid (HS2.out.ext0 hx)
  have c3 := HS3.out.cell
  clear hx HS2 c2 HLx HL
  cases hlg : largeE e with
  | true =>
    clear HFT hlg
    go_wp2
    go_ret
    exact ⟨rfl, HS3.out.ext⟩
  | false =>
    have HF := Lib.hid (HFT.out hlg)
    clear HFT hlg
    by_cases h2 : 1000 < body.length
    · have h2' : (1000 : Int) < body.length := by omega
      clear h2
      go_wp2
      go_ret
      exact ⟨rfl, HS3.out.ext⟩
    have h2' : (body.length : Int) ≤ 1000 := by omega
    have HBL : Hid (body.length ≤ 16000) := by unfold Hid; omega
    clear h2
    have HH := Lib.hid (enHead_any e (.slice va e.rcs.length vc) w3 (HE.out.ext HS3.out.ext) HF.out (HT.out.ext HS3.out.ext))
    unfold enAgg at HH
    have HHE : Hid (enHead e = if enMay e then (headB e, 0) else ([], 2)) := rfl
    go_wp2_with fail
    refine HH.out.mono ?_
    rintro r w4 ⟨rfl, hx⟩
    have HS4 := Lib.hid (HS3.out.ext0 hx)
    have c4 := HS4.out.cell
    clear hx HS3 c3 HH
    cases hm : enMay e with
    | false =>
      have HH2 : Hid (enHead e = ([], 2)) := HHE.out.trans (if_neg (by simp [hm]))
      have HMY := Lib.hid (enMay_any e (.slice va e.rcs.length vc) w4 (HE.out.ext HS4.out.ext) HF.out (HT.out.ext HS4.out.ext))
      rw [hm] at HMY
      unfold enAgg at HMY
      rw [HH2.out]
      clear HHE HH2 hm
      go_wp2_with fail
      refine HMY.out.mono ?_
      rintro r w5 ⟨rfl, hx⟩
      have HS5 := Lib.hid (HS4.out.ext0 hx)
      clear hx HS4 c4 HMY
      go_wp2_with fail
      go_ret
      exact ⟨rfl, HS5.out.ext⟩
    | true =>
      have HM := Lib.hid hm
      have HH2 : Hid (enHead e = (headB e, 0)) := HHE.out.trans (if_pos hm)
      rw [HH2.out]
      have HHL := Lib.hid (headB_len (enMay_parts hm))
      have HRB := Lib.hid (read_headB hm)
      have HRD := Lib.hid (enReadS (headB e) (by have := HHL.out; omega) HE.out HS4.out)
      rw [HRB.out] at HRD
      have HFE : Hid (enFill body = (fillB body, 0)) := if_pos HBL.out
      have HFL : Hid ((fillB body).length ≤ 1000000) := by
        have h1 := fillB_length HBL.out
        have h2 := bucket_le (textB body).length
        unfold Hid
        omega
      have HUF := Lib.hid (unfill_fill HBL.out)
      clear HHE HH2 hm HRB
      have HSL := Lib.hid (real_seal (body := body) (key := key) HM.out HBL.out)
      have HOP := Lib.hid (real_open (body := body) (key := key) HM.out HBL.out)
      have HFN := Lib.hid (realFile_len (body := body) (key := key) HM.out)
      have HQ := Lib.hid (fun (W : World) (b : Nat) (L' : List Res) (S' : Sp w [] W (realR b :: L')) => enSealR e key body HK.out HE.out HF.out (HT.out.ext S'.ext) S')
      rw [HSL.out] at HQ
      unfold enAgg at HQ
      have HO := Lib.hid (fun (W : World) (b : Nat) (L' : List Res) (S' : Sp w [] W (realR b :: L')) => enOpenR key _ HK.out HFN.out HE.out S')
      rw [HOP.out] at HO
      clear HSL HOP
      generalize textB (headB e) ++ (rlSeal key (nonceE e.cnt) (headB e) (fillB body)).1 = file at *
      go_wp2_with fail
      refine HRD.out.mono ?_
      rintro r w5 ⟨vr, rfl, S⟩
      obtain ⟨ra, rc, rfl⟩ := S.tosAt.form
      unfold enAgg
      skip
      have HS5 := Lib.hid (S.box (enCells e (.slice ra e.rcs.length rc)) 27)
      unfold enCells at HS5
      clear S HRD HS4 c4
      go_upto_region 9 with (fail)
      generalize w5.alloc _ = w6 at *
      generalize w5.heap.size = q9 at *
      go_wp2_with fail
      refine (enFillS body HS5.out).mono ?_
      rw [HFE.out]
      rintro r w7 ⟨rfl, S⟩
      have HS7 := Lib.hid S
      clear S HS5
      go_wp2_with fail
      refine (enUnfillS (fillB body) HFL.out HS7.out).mono ?_
      rw [HUF.out]
      rintro r w8 ⟨rfl, S⟩
      have HS8 := Lib.hid S
      have c9 := S.cell
      have c3 := ((Sp.pick [_, _, _] [2] (by decide) (S))).cell
      have HSM := Lib.hid (enSame_any (v := .slice ra e.rcs.length rc) (v2 := .slice va e.rcs.length vc) e e w8 ⟨HF.out, S.pull1.tosAt⟩ ⟨HF.out, HT.out.ext S.ext⟩)
      rw [enSame_self] at HSM
      unfold enAgg at HSM
      clear S HS7 HUF HFE HFL
      go_wp2_with fail
      refine HSM.out.mono ?_
      rintro r w10 ⟨rfl, hx⟩
      have HS10 := Lib.hid (HS8.out.ext0 hx)
      clear hx HS8 c9 c3 HSM
      go_upto_region 13 with (fail)
      refine wp_region_chainG [1, 2, 3, 4, 0, 5, 6, 7, 8, 9, 10] (fun c => c == 0 || c == 5) (fun c => false) (T := fun wx => (∀ o, wx.cell? ⟨q3, o, none⟩ = (#[.int .u64 e.id, .string ⟨e.dom.toArray⟩, .int .u64 e.ep, .int .u64 e.cnt, .string ⟨e.frm.1.toArray⟩, .string ⟨e.frm.2.toArray⟩, .slice va e.rcs.length vc, .int .u64 e.born, .int .u64 e.nxt, .int .i64 e.tries])[o]?) ∧ (convert 44 9 (.slice (some ⟨q5, 0, none⟩) 32 32)).run Tryz.prog wx = .ok (.string ⟨key.toArray⟩) wx) (S := fun wx => Sp w [] wx (boxR q3 #[.int .u64 e.id, .string ⟨e.dom.toArray⟩, .int .u64 e.ep, .int .u64 e.cnt, .string ⟨e.frm.1.toArray⟩, .string ⟨e.frm.2.toArray⟩, .slice va e.rcs.length vc, .int .u64 e.born, .int .u64 e.nxt, .int .i64 e.tries] 27 :: boxR q5 kc 41 :: boxR q9 #[.int .u64 e.id, .string ⟨e.dom.toArray⟩, .int .u64 e.ep, .int .u64 e.cnt, .string ⟨e.frm.1.toArray⟩, .string ⟨e.frm.2.toArray⟩, .slice ra e.rcs.length rc, .int .u64 e.born, .int .u64 e.nxt, .int .i64 e.tries] 27 :: tosR (.slice ra e.rcs.length rc) e.rcs :: [])) (by kernel_rfl) (by kernel_rfl) (by kernel_rfl) ((Sp.pick [_, _, _, _] [2, 3, 0, 1] (by decide) (HS10.out))).drew (fun x h => ⟨h.cell, HCV.out x q5 ((Sp.pick [_, _] [1] (by decide) (h))).cell⟩) ?_
      repeat
        refine Exists.intro _ (And.intro rfl (Or.inl (Exists.intro ?_ (And.intro (fun wS hS K hK => ?_) (And.intro ?_ ?_)))))
        rotate_left 1
        · obtain ⟨t0, t1⟩ := hS
          first
            | (refine if_unwanted rfl ?_; simp only [Act.put, List.setIfInBounds_toArray, List.set_cons_zero, List.set_cons_succ]; exact hK.out)
            | (refine if_wanted rfl ?_; go_simp; exact hK.out)
        · rfl
      refine ChainG.one rfl rfl rfl (fun wS hS R hR => ?_)
      go_simp
      go_at_call 29
      refine (realS hS).mono ?_
      rintro e w7 ⟨b, rfl, S7⟩
      refine hR.out _ _ rfl (fun wx => (∀ o, wx.cell? ⟨q3, o, none⟩ = (#[.int .u64 e.id, .string ⟨e.dom.toArray⟩, .int .u64 e.ep, .int .u64 e.cnt, .string ⟨e.frm.1.toArray⟩, .string ⟨e.frm.2.toArray⟩, .slice va e.rcs.length vc, .int .u64 e.born, .int .u64 e.nxt, .int .i64 e.tries])[o]?) ∧ (convert 44 9 (.slice (some ⟨q5, 0, none⟩) 32 32)).run Tryz.prog wx = .ok (.string ⟨key.toArray⟩) wx) (fun wx => Sp w [] wx (realR b :: boxR q3 #[.int .u64 e.id, .string ⟨e.dom.toArray⟩, .int .u64 e.ep, .int .u64 e.cnt, .string ⟨e.frm.1.toArray⟩, .string ⟨e.frm.2.toArray⟩, .slice va e.rcs.length vc, .int .u64 e.born, .int .u64 e.nxt, .int .i64 e.tries] 27 :: boxR q5 kc 41 :: boxR q9 #[.int .u64 e.id, .string ⟨e.dom.toArray⟩, .int .u64 e.ep, .int .u64 e.cnt, .string ⟨e.frm.1.toArray⟩, .string ⟨e.frm.2.toArray⟩, .slice ra e.rcs.length rc, .int .u64 e.born, .int .u64 e.nxt, .int .i64 e.tries] 27 :: tosR (.slice ra e.rcs.length rc) e.rcs :: [])) S7 (fun x h => ⟨((Sp.pick [_, _] [1] (by decide) (h))).cell, HCV.out x q5 ((Sp.pick [_, _, _] [2] (by decide) (h))).cell⟩) (fun _ h => h) ?_
      clear hR hS S7
      repeat
        refine Exists.intro _ (And.intro rfl (Or.inl (Exists.intro ?_ (And.intro (fun wS hS K hK => ?_) (And.intro ?_ ?_)))))
        rotate_left 1
        · obtain ⟨t0, t1⟩ := hS
          first
            | (refine if_unwanted rfl ?_; simp only [Act.put, List.setIfInBounds_toArray, List.set_cons_zero, List.set_cons_succ]; exact hK.out)
            | (refine if_wanted rfl ?_; go_simp; exact hK.out)
        · rfl
      refine ChainG.one rfl rfl rfl (fun wS hS R hR => ?_)
      go_simp
      go_at_call 27
      refine (HQ.out _ _ _ hS).mono ?_
      rintro e w7 ⟨rfl, S7⟩
      refine hR.out _ _ rfl (fun wx => (∀ o, wx.cell? ⟨q3, o, none⟩ = (#[.int .u64 e.id, .string ⟨e.dom.toArray⟩, .int .u64 e.ep, .int .u64 e.cnt, .string ⟨e.frm.1.toArray⟩, .string ⟨e.frm.2.toArray⟩, .slice va e.rcs.length vc, .int .u64 e.born, .int .u64 e.nxt, .int .i64 e.tries])[o]?) ∧ (convert 44 9 (.slice (some ⟨q5, 0, none⟩) 32 32)).run Tryz.prog wx = .ok (.string ⟨key.toArray⟩) wx) (fun wx => Sp w [] wx (realR b :: boxR q3 #[.int .u64 e.id, .string ⟨e.dom.toArray⟩, .int .u64 e.ep, .int .u64 e.cnt, .string ⟨e.frm.1.toArray⟩, .string ⟨e.frm.2.toArray⟩, .slice va e.rcs.length vc, .int .u64 e.born, .int .u64 e.nxt, .int .i64 e.tries] 27 :: boxR q5 kc 41 :: boxR q9 #[.int .u64 e.id, .string ⟨e.dom.toArray⟩, .int .u64 e.ep, .int .u64 e.cnt, .string ⟨e.frm.1.toArray⟩, .string ⟨e.frm.2.toArray⟩, .slice ra e.rcs.length rc, .int .u64 e.born, .int .u64 e.nxt, .int .i64 e.tries] 27 :: tosR (.slice ra e.rcs.length rc) e.rcs :: [])) S7 (fun x h => ⟨((Sp.pick [_, _] [1] (by decide) (h))).cell, HCV.out x q5 ((Sp.pick [_, _, _] [2] (by decide) (h))).cell⟩) (fun _ h => h) ?_
      clear hR hS S7
      repeat
        refine Exists.intro _ (And.intro rfl (Or.inl (Exists.intro ?_ (And.intro (fun wS hS K hK => ?_) (And.intro ?_ ?_)))))
        rotate_left 1
        · obtain ⟨t0, t1⟩ := hS
          first
            | (refine if_unwanted rfl ?_; simp only [Act.put, List.setIfInBounds_toArray, List.set_cons_zero, List.set_cons_succ]; exact hK.out)
            | (refine if_wanted rfl ?_; go_simp; exact hK.out)
        · rfl
      intro wE hE
      have HSE := Lib.hid hE
      clear hE
      have HS11 := Lib.hid HSE.out.drop
      clear HSE HQ HS10
      go_upto_region 14 with (fail)
      have HFS : Hid (∀ wx (K : List Res), Sp w [] wx (K ++ (boxR q3 #[.int .u64 e.id, .string ⟨e.dom.toArray⟩, .int .u64 e.ep, .int .u64 e.cnt, .string ⟨e.frm.1.toArray⟩, .string ⟨e.frm.2.toArray⟩, .slice va e.rcs.length vc, .int .u64 e.born, .int .u64 e.nxt, .int .i64 e.tries] 27 :: boxR q5 kc 41 :: boxR q9 #[.int .u64 e.id, .string ⟨e.dom.toArray⟩, .int .u64 e.ep, .int .u64 e.cnt, .string ⟨e.frm.1.toArray⟩, .string ⟨e.frm.2.toArray⟩, .slice ra e.rcs.length rc, .int .u64 e.born, .int .u64 e.nxt, .int .i64 e.tries] 27 :: tosR (.slice ra e.rcs.length rc) e.rcs :: [])) → (convert 44 9 (.slice (some ⟨q5, 0, none⟩) 32 32)).run Tryz.prog wx = .ok (.string ⟨key.toArray⟩) wx) := fun wx K S => HCV.out wx q5 ((Sp.pick [_, _] [1] (by decide) ((Sp.drops K S)))).cell
      go_cut [17, 18, 19] (fun v17 v18 v19 wx => ∃ (g : Nat) (xa : Option Addr) (xc : Nat), v17 = .pointer (some ⟨g, 0, none⟩) ∧ v18 = .string ⟨body.toArray⟩ ∧ v19 = .int .i64 0 ∧ Sp w [] wx (boxR g #[.int .u64 e.id, .string ⟨e.dom.toArray⟩, .int .u64 e.ep, .int .u64 e.cnt, .string ⟨e.frm.1.toArray⟩, .string ⟨e.frm.2.toArray⟩, .slice xa e.rcs.length xc, .int .u64 e.born, .int .u64 e.nxt, .int .i64 e.tries] 27 :: tosR (.slice xa e.rcs.length xc) e.rcs :: boxR q3 #[.int .u64 e.id, .string ⟨e.dom.toArray⟩, .int .u64 e.ep, .int .u64 e.cnt, .string ⟨e.frm.1.toArray⟩, .string ⟨e.frm.2.toArray⟩, .slice va e.rcs.length vc, .int .u64 e.born, .int .u64 e.nxt, .int .i64 e.tries] 27 :: boxR q5 kc 41 :: boxR q9 #[.int .u64 e.id, .string ⟨e.dom.toArray⟩, .int .u64 e.ep, .int .u64 e.cnt, .string ⟨e.frm.1.toArray⟩, .string ⟨e.frm.2.toArray⟩, .slice ra e.rcs.length rc, .int .u64 e.born, .int .u64 e.nxt, .int .i64 e.tries] 27 :: tosR (.slice ra e.rcs.length rc) e.rcs :: []))
      case first => --dev
        refine wp_region_held (S := fun wx => (convert 44 9 (.slice (some ⟨q5, 0, none⟩) 32 32)).run Tryz.prog wx = .ok (.string ⟨key.toArray⟩) wx) (by kernel_rfl) ?_
        have hS0 := HFS.out _ [] HS11.out.drew
        refine wpAnyH_takeD (i := 1) 90 (v := ?_) rfl rfl (by kernel_rfl) (by kernel_rfl) (by kernel_rfl) (fun _ _ _ h => h) (Or.inl ⟨by rfl, ?_⟩) hS0 ?_
        rotate_left 1
        · intro wS s0
          go_simp
          try with_reducible rfl
        simp only [Act.put, List.setIfInBounds_toArray, List.set_cons_zero, List.set_cons_succ]
        refine wpAnyH_takeD (i := 2) 91 (v := ?_) rfl rfl (by kernel_rfl) (by kernel_rfl) (by kernel_rfl) (fun _ _ _ h => h) (Or.inl ⟨by rfl, ?_⟩) hS0 ?_
        rotate_left 1
        · intro wS s0
          go_simp
          try with_reducible rfl
        simp only [Act.put, List.setIfInBounds_toArray, List.set_cons_zero, List.set_cons_succ]
        refine wpAnyH_takeD (i := 3) 92 (v := ?_) rfl rfl (by kernel_rfl) (by kernel_rfl) (by kernel_rfl) (fun _ _ _ h => h) (Or.inl ⟨by rfl, ?_⟩) hS0 ?_
        rotate_left 1
        · intro wS s0
          go_simp
          try with_reducible rfl
        simp only [Act.put, List.setIfInBounds_toArray, List.set_cons_zero, List.set_cons_succ]
        refine wpAnyH_gen (fun a0 hA => ?_)
        have hsz : a0.tmps.size = 113 := by rw [← hA]; rfl
        have e91 : a0.eval (.tmp 91) = .string ⟨key.toArray⟩ := by rw [← hA]; rfl
        have e92 : a0.eval (.tmp 92) = .string ⟨file.toArray⟩ := by rw [← hA]; rfl
        refine wpAnyH_inv (by kernel_rfl) (fun l a wx => (l 1 = true ∧ l 2 = true ∧ l 3 = true) ∧ ∃ (v80 v93 v88 v94 v95 v96 v18 v19 v17 : Value) (b : Nat) (xa : Option Addr) (xc : Nat) (MT MB MA : List Res), a = (((((((((a0.put (some 89) v80).put (some 93) v93).put (some 88) v88).put (some 94) v94).put (some 95) v95).put (some 96) v96).put (some 18) v18).put (some 19) v19).put (some 17) v17) ∧ (l 4 = true → l 0 = true) ∧ (l 5 = true → l 4 = true) ∧ (l 6 = true → l 5 = true) ∧ (l 7 = true → l 5 = true) ∧ (l 8 = true → l 5 = true) ∧ (l 10 = true → l 9 = true) ∧ (l 10 = true → l 6 = true) ∧ (l 11 = true → l 7 = true) ∧ (l 12 = true → l 8 = true) ∧ (l 0 = true → v80 = .pointer (some ⟨b, 0, none⟩)) ∧ (l 4 = true → v93 = .tuple #[.agg #[.int .u64 e.id, .string ⟨e.dom.toArray⟩, .int .u64 e.ep, .int .u64 e.cnt, .string ⟨e.frm.1.toArray⟩, .string ⟨e.frm.2.toArray⟩, .slice xa e.rcs.length xc, .int .u64 e.born, .int .u64 e.nxt, .int .i64 e.tries], .string ⟨body.toArray⟩, .int .i64 0]) ∧ (l 5 = true → v88 = .tuple #[.agg #[.int .u64 e.id, .string ⟨e.dom.toArray⟩, .int .u64 e.ep, .int .u64 e.cnt, .string ⟨e.frm.1.toArray⟩, .string ⟨e.frm.2.toArray⟩, .slice xa e.rcs.length xc, .int .u64 e.born, .int .u64 e.nxt, .int .i64 e.tries], .string ⟨body.toArray⟩, .int .i64 0]) ∧ (l 6 = true → v94 = .agg #[.int .u64 e.id, .string ⟨e.dom.toArray⟩, .int .u64 e.ep, .int .u64 e.cnt, .string ⟨e.frm.1.toArray⟩, .string ⟨e.frm.2.toArray⟩, .slice xa e.rcs.length xc, .int .u64 e.born, .int .u64 e.nxt, .int .i64 e.tries]) ∧ (l 7 = true → v95 = .string ⟨body.toArray⟩) ∧ (l 8 = true → v96 = .int .i64 0) ∧ (l 11 = true → v18 = .string ⟨body.toArray⟩) ∧ (l 12 = true → v19 = .int .i64 0) ∧ ((l 0 = true ∧ MB = [realR b]) ∨ (l 0 = false ∧ MB = [])) ∧ ((l 4 = true ∧ MT = [tosR (.slice xa e.rcs.length xc) e.rcs]) ∨ (l 4 = false ∧ MT = [])) ∧ ((l 9 = true ∧ ∃ g, v17 = .pointer (some ⟨g, 0, none⟩) ∧ MA = [boxR g (if l 10 then #[.int .u64 e.id, .string ⟨e.dom.toArray⟩, .int .u64 e.ep, .int .u64 e.cnt, .string ⟨e.frm.1.toArray⟩, .string ⟨e.frm.2.toArray⟩, .slice xa e.rcs.length xc, .int .u64 e.born, .int .u64 e.nxt, .int .i64 e.tries] else #[.int .u64 0, .string ⟨#[]⟩, .int .u64 0, .int .u64 0, .string ⟨#[]⟩, .string ⟨#[]⟩, .slice none 0 0, .int .u64 0, .int .u64 0, .int .i64 0]) 27]) ∨ (l 9 = false ∧ MA = [])) ∧ Sp w [] wx (MT ++ (MB ++ (MA ++ (boxR q3 #[.int .u64 e.id, .string ⟨e.dom.toArray⟩, .int .u64 e.ep, .int .u64 e.cnt, .string ⟨e.frm.1.toArray⟩, .string ⟨e.frm.2.toArray⟩, .slice va e.rcs.length vc, .int .u64 e.born, .int .u64 e.nxt, .int .i64 e.tries] 27 :: boxR q5 kc 41 :: boxR q9 #[.int .u64 e.id, .string ⟨e.dom.toArray⟩, .int .u64 e.ep, .int .u64 e.cnt, .string ⟨e.frm.1.toArray⟩, .string ⟨e.frm.2.toArray⟩, .slice ra e.rcs.length rc, .int .u64 e.born, .int .u64 e.nxt, .int .i64 e.tries] 27 :: tosR (.slice ra e.rcs.length rc) e.rcs :: []))))) ?_ ?_ _ _ _ _ (by kernel_rfl) (by kernel_rfl) ?_
        · rintro l a wx i o ⟨hl123, v80, v93, v88, v94, v95, v96, v18, v19, v17, b, xa, xc, MT, MB, MA, rfl, k4_0, k5_4, k6_5, k7_5, k8_5, k10_9, k10_6, k11_7, k12_8, d0, d4, d5, d6, d7, d8, d11, d12, mB, mT, mA, S⟩ ho hl hpre
          have hi : i = 0 ∨ i = 4 ∨ i = 5 ∨ i = 6 ∨ i = 7 ∨ i = 8 ∨ i = 9 ∨ i = 10 ∨ i = 11 ∨ i = 12 := by
            have h1 := (Array.getElem?_eq_some_iff.1 ho).1
            simp at h1
            have h2 : i ≠ 1 := by rintro rfl; rw [hl123.1] at hl; cases hl
            have h3 : i ≠ 2 := by rintro rfl; rw [hl123.2.1] at hl; cases hl
            have h4 : i ≠ 3 := by rintro rfl; rw [hl123.2.2] at hl; cases hl
            omega
          rcases hi with rfl | rfl | rfl | rfl | rfl | rfl | rfl | rfl | rfl | rfl
          · cases ho
            refine ⟨rfl, ?_⟩
            obtain rfl : MB = [] := by rcases mB with ⟨h, _⟩ | ⟨_, h⟩; rw [hl] at h; cases h; exact h
            have h4 : l 4 = false := by cases h : l 4 with | false => rfl | true => rw [k4_0 h] at hl; cases hl
            obtain rfl : MT = [] := by rcases mT with ⟨h, _⟩ | ⟨_, h⟩; rw [h4] at h; cases h; exact h
            refine Oper.wp_mono (K := fun a2 w2 => ∃ b, a2 = (((((((((a0.put (some 89) v80).put (some 93) v93).put (some 88) v88).put (some 94) v94).put (some 95) v95).put (some 96) v96).put (some 18) v18).put (some 19) v19).put (some 17) v17).put (some 89) (.pointer (some ⟨b, 0, none⟩)) ∧ Sp w [] w2 (realR b :: (MA ++ (boxR q3 #[.int .u64 e.id, .string ⟨e.dom.toArray⟩, .int .u64 e.ep, .int .u64 e.cnt, .string ⟨e.frm.1.toArray⟩, .string ⟨e.frm.2.toArray⟩, .slice va e.rcs.length vc, .int .u64 e.born, .int .u64 e.nxt, .int .i64 e.tries] 27 :: boxR q5 kc 41 :: boxR q9 #[.int .u64 e.id, .string ⟨e.dom.toArray⟩, .int .u64 e.ep, .int .u64 e.cnt, .string ⟨e.frm.1.toArray⟩, .string ⟨e.frm.2.toArray⟩, .slice ra e.rcs.length rc, .int .u64 e.born, .int .u64 e.nxt, .int .i64 e.tries] 27 :: tosR (.slice ra e.rcs.length rc) e.rcs :: [])))) ?_ ?_
            · rintro a2 w2 ⟨b2, rfl, S2⟩
              exact ⟨HFS.out _ (realR b2 :: MA) S2, ⟨⟨flag_up hl123.1, flag_up hl123.2.1, flag_up hl123.2.2⟩, _, v93, v88, v94, v95, v96, v18, v19, v17, b2, xa, xc, [], [realR b2], MA, by rw [put_turn _ 17 89 _ _ (by decide), put_turn _ 19 89 _ _ (by decide), put_turn _ 18 89 _ _ (by decide), put_turn _ 96 89 _ _ (by decide), put_turn _ 95 89 _ _ (by decide), put_turn _ 94 89 _ _ (by decide), put_turn _ 88 89 _ _ (by decide), put_turn _ 93 89 _ _ (by decide), put_over], fun h => flag_up (k4_0 (flag_dn rfl h)), fun h => flag_up (k5_4 (flag_dn rfl h)), fun h => flag_up (k6_5 (flag_dn rfl h)), fun h => flag_up (k7_5 (flag_dn rfl h)), fun h => flag_up (k8_5 (flag_dn rfl h)), fun h => flag_up (k10_9 (flag_dn rfl h)), fun h => flag_up (k10_6 (flag_dn rfl h)), fun h => flag_up (k11_7 (flag_dn rfl h)), fun h => flag_up (k12_8 (flag_dn rfl h)), fun _ => rfl, (fun h => by rw [flag_dn (x := 4) rfl h] at h4; cases h4), fun h => d5 (flag_dn rfl h), fun h => d6 (flag_dn rfl h), fun h => d7 (flag_dn rfl h), fun h => d8 (flag_dn rfl h), fun h => d11 (flag_dn rfl h), fun h => d12 (flag_dn rfl h), .inl ⟨by simp, rfl⟩, flag_or rfl (.inr ⟨h4, rfl⟩), flag_box (fun c g => [boxR g (if c then #[.int .u64 e.id, .string ⟨e.dom.toArray⟩, .int .u64 e.ep, .int .u64 e.cnt, .string ⟨e.frm.1.toArray⟩, .string ⟨e.frm.2.toArray⟩, .slice xa e.rcs.length xc, .int .u64 e.born, .int .u64 e.nxt, .int .i64 e.tries] else #[.int .u64 0, .string ⟨#[]⟩, .int .u64 0, .int .u64 0, .string ⟨#[]⟩, .string ⟨#[]⟩, .slice none 0 0, .int .u64 0, .int .u64 0, .int .i64 0]) 27]) rfl rfl mA, S2⟩⟩
            · generalize (((((((((a0.put (some 89) v80).put (some 93) v93).put (some 88) v88).put (some 94) v94).put (some 95) v95).put (some 96) v96).put (some 18) v18).put (some 19) v19).put (some 17) v17) = a1 at *
              go_simp
              refine (realS S).mono ?_
              rintro r w7 ⟨b2, rfl, S7⟩
              exact ⟨b2, rfl, S7⟩
          · cases ho
            refine ⟨rfl, ?_⟩
            have h0 : l 0 = true := hpre ⟨0, .data⟩ (by simp) rfl
            have d0b := d0 h0
            subst d0b
            obtain rfl : MB = [realR b] := by rcases mB with ⟨_, h⟩ | ⟨h, _⟩; exact h; rw [h0] at h; cases h
            obtain rfl : MT = [] := by rcases mT with ⟨h, _⟩ | ⟨_, h⟩; rw [hl] at h; cases h; exact h
            have h5 : l 5 = false := by cases h : l 5 with | false => rfl | true => rw [k5_4 h] at hl; cases hl
            have h6 : l 6 = false := by cases h : l 6 with | false => rfl | true => rw [k6_5 h] at h5; cases h5
            have h10 : l 10 = false := by cases h : l 10 with | false => rfl | true => rw [k10_6 h] at h6; cases h6
            refine Oper.wp_mono (K := fun a2 w2 => ∃ (xa : Option Addr) (xc : Nat), a2 = (((((((((a0.put (some 89) (.pointer (some ⟨b, 0, none⟩))).put (some 93) v93).put (some 88) v88).put (some 94) v94).put (some 95) v95).put (some 96) v96).put (some 18) v18).put (some 19) v19).put (some 17) v17).put (some 93) (.tuple #[.agg #[.int .u64 e.id, .string ⟨e.dom.toArray⟩, .int .u64 e.ep, .int .u64 e.cnt, .string ⟨e.frm.1.toArray⟩, .string ⟨e.frm.2.toArray⟩, .slice xa e.rcs.length xc, .int .u64 e.born, .int .u64 e.nxt, .int .i64 e.tries], .string ⟨body.toArray⟩, .int .i64 0]) ∧ Sp w [] w2 (tosR (.slice xa e.rcs.length xc) e.rcs :: realR b :: (MA ++ (boxR q3 #[.int .u64 e.id, .string ⟨e.dom.toArray⟩, .int .u64 e.ep, .int .u64 e.cnt, .string ⟨e.frm.1.toArray⟩, .string ⟨e.frm.2.toArray⟩, .slice va e.rcs.length vc, .int .u64 e.born, .int .u64 e.nxt, .int .i64 e.tries] 27 :: boxR q5 kc 41 :: boxR q9 #[.int .u64 e.id, .string ⟨e.dom.toArray⟩, .int .u64 e.ep, .int .u64 e.cnt, .string ⟨e.frm.1.toArray⟩, .string ⟨e.frm.2.toArray⟩, .slice ra e.rcs.length rc, .int .u64 e.born, .int .u64 e.nxt, .int .i64 e.tries] 27 :: tosR (.slice ra e.rcs.length rc) e.rcs :: [])))) ?_ ?_
            · rintro a2 w2 ⟨xa2, xc2, rfl, S2⟩
              have mA2 : ((fun j => l j || j == 4) 9 = true ∧ ∃ g, v17 = .pointer (some ⟨g, 0, none⟩) ∧ MA = [boxR g (if (fun j => l j || j == 4) 10 then #[.int .u64 e.id, .string ⟨e.dom.toArray⟩, .int .u64 e.ep, .int .u64 e.cnt, .string ⟨e.frm.1.toArray⟩, .string ⟨e.frm.2.toArray⟩, .slice xa2 e.rcs.length xc2, .int .u64 e.born, .int .u64 e.nxt, .int .i64 e.tries] else #[.int .u64 0, .string ⟨#[]⟩, .int .u64 0, .int .u64 0, .string ⟨#[]⟩, .string ⟨#[]⟩, .slice none 0 0, .int .u64 0, .int .u64 0, .int .i64 0]) 27]) ∨ ((fun j => l j || j == 4) 9 = false ∧ MA = []) := by
                rcases mA with ⟨h, g, h1, h2⟩ | ⟨h, h1⟩
                · exact .inl ⟨by simp [h], g, h1, by rw [h2]; simp [h10]⟩
                · exact .inr ⟨by simp [h], h1⟩
              exact ⟨HFS.out _ (tosR _ _ :: realR b :: MA) S2, ⟨⟨flag_up hl123.1, flag_up hl123.2.1, flag_up hl123.2.2⟩, _, _, v88, v94, v95, v96, v18, v19, v17, b, xa2, xc2, [tosR _ e.rcs], [realR b], MA, by rw [put_turn _ 17 93 _ _ (by decide), put_turn _ 19 93 _ _ (by decide), put_turn _ 18 93 _ _ (by decide), put_turn _ 96 93 _ _ (by decide), put_turn _ 95 93 _ _ (by decide), put_turn _ 94 93 _ _ (by decide), put_turn _ 88 93 _ _ (by decide), put_over], fun _ => flag_up h0, fun h => flag_up (k5_4 (flag_dn rfl h)), fun h => flag_up (k6_5 (flag_dn rfl h)), fun h => flag_up (k7_5 (flag_dn rfl h)), fun h => flag_up (k8_5 (flag_dn rfl h)), fun h => flag_up (k10_9 (flag_dn rfl h)), fun h => flag_up (k10_6 (flag_dn rfl h)), fun h => flag_up (k11_7 (flag_dn rfl h)), fun h => flag_up (k12_8 (flag_dn rfl h)), fun _ => rfl, fun _ => rfl, (fun h => by rw [flag_dn (x := 5) rfl h] at h5; cases h5), (fun h => by rw [flag_dn (x := 6) rfl h] at h6; cases h6), fun h => d7 (flag_dn rfl h), fun h => d8 (flag_dn rfl h), fun h => d11 (flag_dn rfl h), fun h => d12 (flag_dn rfl h), .inl ⟨flag_up h0, rfl⟩, .inl ⟨by simp, rfl⟩, mA2, S2⟩⟩
            · have e80 : (((((((((a0.put (some 89) (.pointer (some ⟨b, 0, none⟩))).put (some 93) v93).put (some 88) v88).put (some 94) v94).put (some 95) v95).put (some 96) v96).put (some 18) v18).put (some 19) v19).put (some 17) v17).eval (.tmp 89) = .pointer (some ⟨b, 0, none⟩) := by rw [evalP_ne _ 17 89 _ (by decide), evalP_ne _ 19 89 _ (by decide), evalP_ne _ 18 89 _ (by decide), evalP_ne _ 96 89 _ (by decide), evalP_ne _ 95 89 _ (by decide), evalP_ne _ 94 89 _ (by decide), evalP_ne _ 88 89 _ (by decide), evalP_ne _ 93 89 _ (by decide), evalP_same _ 89 _ (by (try simp only [sizeP]); rw [hsz]; decide)]
              have f91 : (((((((((a0.put (some 89) (.pointer (some ⟨b, 0, none⟩))).put (some 93) v93).put (some 88) v88).put (some 94) v94).put (some 95) v95).put (some 96) v96).put (some 18) v18).put (some 19) v19).put (some 17) v17).eval (.tmp 91) = .string ⟨key.toArray⟩ := by rw [evalP_ne _ 17 91 _ (by decide), evalP_ne _ 19 91 _ (by decide), evalP_ne _ 18 91 _ (by decide), evalP_ne _ 96 91 _ (by decide), evalP_ne _ 95 91 _ (by decide), evalP_ne _ 94 91 _ (by decide), evalP_ne _ 88 91 _ (by decide), evalP_ne _ 93 91 _ (by decide), evalP_ne _ 89 91 _ (by decide), e91]
              have f92 : (((((((((a0.put (some 89) (.pointer (some ⟨b, 0, none⟩))).put (some 93) v93).put (some 88) v88).put (some 94) v94).put (some 95) v95).put (some 96) v96).put (some 18) v18).put (some 19) v19).put (some 17) v17).eval (.tmp 92) = .string ⟨file.toArray⟩ := by rw [evalP_ne _ 17 92 _ (by decide), evalP_ne _ 19 92 _ (by decide), evalP_ne _ 18 92 _ (by decide), evalP_ne _ 96 92 _ (by decide), evalP_ne _ 95 92 _ (by decide), evalP_ne _ 94 92 _ (by decide), evalP_ne _ 88 92 _ (by decide), evalP_ne _ 93 92 _ (by decide), evalP_ne _ 89 92 _ (by decide), e92]
              generalize (((((((((a0.put (some 89) (.pointer (some ⟨b, 0, none⟩))).put (some 93) v93).put (some 88) v88).put (some 94) v94).put (some 95) v95).put (some 96) v96).put (some 18) v18).put (some 19) v19).put (some 17) v17) = a1 at *
              go_simp
              rw [show a1.tmps[89]?.getD undef = .pointer (some ⟨b, 0, none⟩) from by rw [← Array.getD_eq_getD_getElem?]; exact e80]
              rw [show a1.tmps[91]?.getD undef = .string ⟨key.toArray⟩ from by rw [← Array.getD_eq_getD_getElem?]; exact f91]
              rw [show a1.tmps[92]?.getD undef = .string ⟨file.toArray⟩ from by rw [← Array.getD_eq_getD_getElem?]; exact f92]
              refine (HO.out _ _ _ S).mono ?_
              rintro r w7 ⟨v2, rfl, S7⟩
              obtain ⟨xa2, xc2, rfl⟩ := S7.tosAt.form
              exact ⟨xa2, xc2, rfl, S7⟩
          · cases ho
            refine ⟨rfl, ?_⟩
            have h4 : l 4 = true := hpre ⟨4, .data⟩ (by simp) rfl
            have dd := d4 h4
            subst dd
            refine Oper.wp_mono (K := fun a2 w2 => a2 = (((((((((a0.put (some 89) v80).put (some 93) (.tuple #[.agg #[.int .u64 e.id, .string ⟨e.dom.toArray⟩, .int .u64 e.ep, .int .u64 e.cnt, .string ⟨e.frm.1.toArray⟩, .string ⟨e.frm.2.toArray⟩, .slice xa e.rcs.length xc, .int .u64 e.born, .int .u64 e.nxt, .int .i64 e.tries], .string ⟨body.toArray⟩, .int .i64 0])).put (some 88) v88).put (some 94) v94).put (some 95) v95).put (some 96) v96).put (some 18) v18).put (some 19) v19).put (some 17) v17).put (some 88) (.tuple #[.agg #[.int .u64 e.id, .string ⟨e.dom.toArray⟩, .int .u64 e.ep, .int .u64 e.cnt, .string ⟨e.frm.1.toArray⟩, .string ⟨e.frm.2.toArray⟩, .slice xa e.rcs.length xc, .int .u64 e.born, .int .u64 e.nxt, .int .i64 e.tries], .string ⟨body.toArray⟩, .int .i64 0]) ∧ w2 = wx) ?_ ?_
            · rintro a2 w2 ⟨rfl, rfl⟩
              exact ⟨HFS.out _ (MT ++ (MB ++ MA)) (by rw [List.append_assoc, List.append_assoc]; exact S), ⟨⟨flag_up hl123.1, flag_up hl123.2.1, flag_up hl123.2.2⟩, v80, _, _, v94, v95, v96, v18, v19, v17, b, xa, xc, MT, MB, MA, by rw [put_turn _ 17 88 _ _ (by decide), put_turn _ 19 88 _ _ (by decide), put_turn _ 18 88 _ _ (by decide), put_turn _ 96 88 _ _ (by decide), put_turn _ 95 88 _ _ (by decide), put_turn _ 94 88 _ _ (by decide), put_over], fun h => flag_up (k4_0 (flag_dn rfl h)), fun _ => flag_up h4, fun h => flag_up (k6_5 (flag_dn rfl h)), fun h => flag_up (k7_5 (flag_dn rfl h)), fun h => flag_up (k8_5 (flag_dn rfl h)), fun h => flag_up (k10_9 (flag_dn rfl h)), fun h => flag_up (k10_6 (flag_dn rfl h)), fun h => flag_up (k11_7 (flag_dn rfl h)), fun h => flag_up (k12_8 (flag_dn rfl h)), fun h => d0 (flag_dn rfl h), fun _ => rfl, fun _ => rfl, fun h => d6 (flag_dn rfl h), fun h => d7 (flag_dn rfl h), fun h => d8 (flag_dn rfl h), fun h => d11 (flag_dn rfl h), fun h => d12 (flag_dn rfl h), flag_or rfl mB, flag_or rfl mT, flag_box (fun c g => [boxR g (if c then #[.int .u64 e.id, .string ⟨e.dom.toArray⟩, .int .u64 e.ep, .int .u64 e.cnt, .string ⟨e.frm.1.toArray⟩, .string ⟨e.frm.2.toArray⟩, .slice xa e.rcs.length xc, .int .u64 e.born, .int .u64 e.nxt, .int .i64 e.tries] else #[.int .u64 0, .string ⟨#[]⟩, .int .u64 0, .int .u64 0, .string ⟨#[]⟩, .string ⟨#[]⟩, .slice none 0 0, .int .u64 0, .int .u64 0, .int .i64 0]) 27]) rfl rfl mA, S⟩⟩
            · have es : (((((((((a0.put (some 89) v80).put (some 93) (.tuple #[.agg #[.int .u64 e.id, .string ⟨e.dom.toArray⟩, .int .u64 e.ep, .int .u64 e.cnt, .string ⟨e.frm.1.toArray⟩, .string ⟨e.frm.2.toArray⟩, .slice xa e.rcs.length xc, .int .u64 e.born, .int .u64 e.nxt, .int .i64 e.tries], .string ⟨body.toArray⟩, .int .i64 0])).put (some 88) v88).put (some 94) v94).put (some 95) v95).put (some 96) v96).put (some 18) v18).put (some 19) v19).put (some 17) v17).eval (.tmp 93) = .tuple #[.agg #[.int .u64 e.id, .string ⟨e.dom.toArray⟩, .int .u64 e.ep, .int .u64 e.cnt, .string ⟨e.frm.1.toArray⟩, .string ⟨e.frm.2.toArray⟩, .slice xa e.rcs.length xc, .int .u64 e.born, .int .u64 e.nxt, .int .i64 e.tries], .string ⟨body.toArray⟩, .int .i64 0] := by rw [evalP_ne _ 17 93 _ (by decide), evalP_ne _ 19 93 _ (by decide), evalP_ne _ 18 93 _ (by decide), evalP_ne _ 96 93 _ (by decide), evalP_ne _ 95 93 _ (by decide), evalP_ne _ 94 93 _ (by decide), evalP_ne _ 88 93 _ (by decide), evalP_same _ 93 _ (by (try simp only [sizeP]); rw [hsz]; decide)]
              generalize (((((((((a0.put (some 89) v80).put (some 93) (.tuple #[.agg #[.int .u64 e.id, .string ⟨e.dom.toArray⟩, .int .u64 e.ep, .int .u64 e.cnt, .string ⟨e.frm.1.toArray⟩, .string ⟨e.frm.2.toArray⟩, .slice xa e.rcs.length xc, .int .u64 e.born, .int .u64 e.nxt, .int .i64 e.tries], .string ⟨body.toArray⟩, .int .i64 0])).put (some 88) v88).put (some 94) v94).put (some 95) v95).put (some 96) v96).put (some 18) v18).put (some 19) v19).put (some 17) v17) = a1 at *
              have es2 : a1.tmps[93]?.getD undef = .tuple #[.agg #[.int .u64 e.id, .string ⟨e.dom.toArray⟩, .int .u64 e.ep, .int .u64 e.cnt, .string ⟨e.frm.1.toArray⟩, .string ⟨e.frm.2.toArray⟩, .slice xa e.rcs.length xc, .int .u64 e.born, .int .u64 e.nxt, .int .i64 e.tries], .string ⟨body.toArray⟩, .int .i64 0] := by rw [← Array.getD_eq_getD_getElem?]; exact es
              go_simp
          · cases ho
            refine ⟨rfl, ?_⟩
            have h5 : l 5 = true := hpre ⟨5, .data⟩ (by simp) rfl
            have dd := d5 h5
            subst dd
            refine Oper.wp_mono (K := fun a2 w2 => a2 = (((((((((a0.put (some 89) v80).put (some 93) v93).put (some 88) (.tuple #[.agg #[.int .u64 e.id, .string ⟨e.dom.toArray⟩, .int .u64 e.ep, .int .u64 e.cnt, .string ⟨e.frm.1.toArray⟩, .string ⟨e.frm.2.toArray⟩, .slice xa e.rcs.length xc, .int .u64 e.born, .int .u64 e.nxt, .int .i64 e.tries], .string ⟨body.toArray⟩, .int .i64 0])).put (some 94) v94).put (some 95) v95).put (some 96) v96).put (some 18) v18).put (some 19) v19).put (some 17) v17).put (some 94) (.agg #[.int .u64 e.id, .string ⟨e.dom.toArray⟩, .int .u64 e.ep, .int .u64 e.cnt, .string ⟨e.frm.1.toArray⟩, .string ⟨e.frm.2.toArray⟩, .slice xa e.rcs.length xc, .int .u64 e.born, .int .u64 e.nxt, .int .i64 e.tries]) ∧ w2 = wx) ?_ ?_
            · rintro a2 w2 ⟨rfl, rfl⟩
              exact ⟨HFS.out _ (MT ++ (MB ++ MA)) (by rw [List.append_assoc, List.append_assoc]; exact S), ⟨⟨flag_up hl123.1, flag_up hl123.2.1, flag_up hl123.2.2⟩, v80, v93, _, _, v95, v96, v18, v19, v17, b, xa, xc, MT, MB, MA, by rw [put_turn _ 17 94 _ _ (by decide), put_turn _ 19 94 _ _ (by decide), put_turn _ 18 94 _ _ (by decide), put_turn _ 96 94 _ _ (by decide), put_turn _ 95 94 _ _ (by decide), put_over], fun h => flag_up (k4_0 (flag_dn rfl h)), fun h => flag_up (k5_4 (flag_dn rfl h)), fun _ => flag_up h5, fun h => flag_up (k7_5 (flag_dn rfl h)), fun h => flag_up (k8_5 (flag_dn rfl h)), fun h => flag_up (k10_9 (flag_dn rfl h)), fun h => flag_up (k10_6 (flag_dn rfl h)), fun h => flag_up (k11_7 (flag_dn rfl h)), fun h => flag_up (k12_8 (flag_dn rfl h)), fun h => d0 (flag_dn rfl h), fun h => d4 (flag_dn rfl h), fun _ => rfl, fun _ => rfl, fun h => d7 (flag_dn rfl h), fun h => d8 (flag_dn rfl h), fun h => d11 (flag_dn rfl h), fun h => d12 (flag_dn rfl h), flag_or rfl mB, flag_or rfl mT, flag_box (fun c g => [boxR g (if c then #[.int .u64 e.id, .string ⟨e.dom.toArray⟩, .int .u64 e.ep, .int .u64 e.cnt, .string ⟨e.frm.1.toArray⟩, .string ⟨e.frm.2.toArray⟩, .slice xa e.rcs.length xc, .int .u64 e.born, .int .u64 e.nxt, .int .i64 e.tries] else #[.int .u64 0, .string ⟨#[]⟩, .int .u64 0, .int .u64 0, .string ⟨#[]⟩, .string ⟨#[]⟩, .slice none 0 0, .int .u64 0, .int .u64 0, .int .i64 0]) 27]) rfl rfl mA, S⟩⟩
            · have es : (((((((((a0.put (some 89) v80).put (some 93) v93).put (some 88) (.tuple #[.agg #[.int .u64 e.id, .string ⟨e.dom.toArray⟩, .int .u64 e.ep, .int .u64 e.cnt, .string ⟨e.frm.1.toArray⟩, .string ⟨e.frm.2.toArray⟩, .slice xa e.rcs.length xc, .int .u64 e.born, .int .u64 e.nxt, .int .i64 e.tries], .string ⟨body.toArray⟩, .int .i64 0])).put (some 94) v94).put (some 95) v95).put (some 96) v96).put (some 18) v18).put (some 19) v19).put (some 17) v17).eval (.tmp 88) = .tuple #[.agg #[.int .u64 e.id, .string ⟨e.dom.toArray⟩, .int .u64 e.ep, .int .u64 e.cnt, .string ⟨e.frm.1.toArray⟩, .string ⟨e.frm.2.toArray⟩, .slice xa e.rcs.length xc, .int .u64 e.born, .int .u64 e.nxt, .int .i64 e.tries], .string ⟨body.toArray⟩, .int .i64 0] := by rw [evalP_ne _ 17 88 _ (by decide), evalP_ne _ 19 88 _ (by decide), evalP_ne _ 18 88 _ (by decide), evalP_ne _ 96 88 _ (by decide), evalP_ne _ 95 88 _ (by decide), evalP_ne _ 94 88 _ (by decide), evalP_same _ 88 _ (by (try simp only [sizeP]); rw [hsz]; decide)]
              generalize (((((((((a0.put (some 89) v80).put (some 93) v93).put (some 88) (.tuple #[.agg #[.int .u64 e.id, .string ⟨e.dom.toArray⟩, .int .u64 e.ep, .int .u64 e.cnt, .string ⟨e.frm.1.toArray⟩, .string ⟨e.frm.2.toArray⟩, .slice xa e.rcs.length xc, .int .u64 e.born, .int .u64 e.nxt, .int .i64 e.tries], .string ⟨body.toArray⟩, .int .i64 0])).put (some 94) v94).put (some 95) v95).put (some 96) v96).put (some 18) v18).put (some 19) v19).put (some 17) v17) = a1 at *
              have es2 : a1.tmps[88]?.getD undef = .tuple #[.agg #[.int .u64 e.id, .string ⟨e.dom.toArray⟩, .int .u64 e.ep, .int .u64 e.cnt, .string ⟨e.frm.1.toArray⟩, .string ⟨e.frm.2.toArray⟩, .slice xa e.rcs.length xc, .int .u64 e.born, .int .u64 e.nxt, .int .i64 e.tries], .string ⟨body.toArray⟩, .int .i64 0] := by rw [← Array.getD_eq_getD_getElem?]; exact es
              go_simp
          · cases ho
            refine ⟨rfl, ?_⟩
            have h5 : l 5 = true := hpre ⟨5, .data⟩ (by simp) rfl
            have dd := d5 h5
            subst dd
            refine Oper.wp_mono (K := fun a2 w2 => a2 = (((((((((a0.put (some 89) v80).put (some 93) v93).put (some 88) (.tuple #[.agg #[.int .u64 e.id, .string ⟨e.dom.toArray⟩, .int .u64 e.ep, .int .u64 e.cnt, .string ⟨e.frm.1.toArray⟩, .string ⟨e.frm.2.toArray⟩, .slice xa e.rcs.length xc, .int .u64 e.born, .int .u64 e.nxt, .int .i64 e.tries], .string ⟨body.toArray⟩, .int .i64 0])).put (some 94) v94).put (some 95) v95).put (some 96) v96).put (some 18) v18).put (some 19) v19).put (some 17) v17).put (some 95) (.string ⟨body.toArray⟩) ∧ w2 = wx) ?_ ?_
            · rintro a2 w2 ⟨rfl, rfl⟩
              exact ⟨HFS.out _ (MT ++ (MB ++ MA)) (by rw [List.append_assoc, List.append_assoc]; exact S), ⟨⟨flag_up hl123.1, flag_up hl123.2.1, flag_up hl123.2.2⟩, v80, v93, _, v94, _, v96, v18, v19, v17, b, xa, xc, MT, MB, MA, by rw [put_turn _ 17 95 _ _ (by decide), put_turn _ 19 95 _ _ (by decide), put_turn _ 18 95 _ _ (by decide), put_turn _ 96 95 _ _ (by decide), put_over], fun h => flag_up (k4_0 (flag_dn rfl h)), fun h => flag_up (k5_4 (flag_dn rfl h)), fun h => flag_up (k6_5 (flag_dn rfl h)), fun _ => flag_up h5, fun h => flag_up (k8_5 (flag_dn rfl h)), fun h => flag_up (k10_9 (flag_dn rfl h)), fun h => flag_up (k10_6 (flag_dn rfl h)), fun h => flag_up (k11_7 (flag_dn rfl h)), fun h => flag_up (k12_8 (flag_dn rfl h)), fun h => d0 (flag_dn rfl h), fun h => d4 (flag_dn rfl h), fun _ => rfl, fun h => d6 (flag_dn rfl h), fun _ => rfl, fun h => d8 (flag_dn rfl h), fun h => d11 (flag_dn rfl h), fun h => d12 (flag_dn rfl h), flag_or rfl mB, flag_or rfl mT, flag_box (fun c g => [boxR g (if c then #[.int .u64 e.id, .string ⟨e.dom.toArray⟩, .int .u64 e.ep, .int .u64 e.cnt, .string ⟨e.frm.1.toArray⟩, .string ⟨e.frm.2.toArray⟩, .slice xa e.rcs.length xc, .int .u64 e.born, .int .u64 e.nxt, .int .i64 e.tries] else #[.int .u64 0, .string ⟨#[]⟩, .int .u64 0, .int .u64 0, .string ⟨#[]⟩, .string ⟨#[]⟩, .slice none 0 0, .int .u64 0, .int .u64 0, .int .i64 0]) 27]) rfl rfl mA, S⟩⟩
            · have es : (((((((((a0.put (some 89) v80).put (some 93) v93).put (some 88) (.tuple #[.agg #[.int .u64 e.id, .string ⟨e.dom.toArray⟩, .int .u64 e.ep, .int .u64 e.cnt, .string ⟨e.frm.1.toArray⟩, .string ⟨e.frm.2.toArray⟩, .slice xa e.rcs.length xc, .int .u64 e.born, .int .u64 e.nxt, .int .i64 e.tries], .string ⟨body.toArray⟩, .int .i64 0])).put (some 94) v94).put (some 95) v95).put (some 96) v96).put (some 18) v18).put (some 19) v19).put (some 17) v17).eval (.tmp 88) = .tuple #[.agg #[.int .u64 e.id, .string ⟨e.dom.toArray⟩, .int .u64 e.ep, .int .u64 e.cnt, .string ⟨e.frm.1.toArray⟩, .string ⟨e.frm.2.toArray⟩, .slice xa e.rcs.length xc, .int .u64 e.born, .int .u64 e.nxt, .int .i64 e.tries], .string ⟨body.toArray⟩, .int .i64 0] := by rw [evalP_ne _ 17 88 _ (by decide), evalP_ne _ 19 88 _ (by decide), evalP_ne _ 18 88 _ (by decide), evalP_ne _ 96 88 _ (by decide), evalP_ne _ 95 88 _ (by decide), evalP_ne _ 94 88 _ (by decide), evalP_same _ 88 _ (by (try simp only [sizeP]); rw [hsz]; decide)]
              generalize (((((((((a0.put (some 89) v80).put (some 93) v93).put (some 88) (.tuple #[.agg #[.int .u64 e.id, .string ⟨e.dom.toArray⟩, .int .u64 e.ep, .int .u64 e.cnt, .string ⟨e.frm.1.toArray⟩, .string ⟨e.frm.2.toArray⟩, .slice xa e.rcs.length xc, .int .u64 e.born, .int .u64 e.nxt, .int .i64 e.tries], .string ⟨body.toArray⟩, .int .i64 0])).put (some 94) v94).put (some 95) v95).put (some 96) v96).put (some 18) v18).put (some 19) v19).put (some 17) v17) = a1 at *
              have es2 : a1.tmps[88]?.getD undef = .tuple #[.agg #[.int .u64 e.id, .string ⟨e.dom.toArray⟩, .int .u64 e.ep, .int .u64 e.cnt, .string ⟨e.frm.1.toArray⟩, .string ⟨e.frm.2.toArray⟩, .slice xa e.rcs.length xc, .int .u64 e.born, .int .u64 e.nxt, .int .i64 e.tries], .string ⟨body.toArray⟩, .int .i64 0] := by rw [← Array.getD_eq_getD_getElem?]; exact es
              go_simp
          · cases ho
            refine ⟨rfl, ?_⟩
            have h5 : l 5 = true := hpre ⟨5, .data⟩ (by simp) rfl
            have dd := d5 h5
            subst dd
            refine Oper.wp_mono (K := fun a2 w2 => a2 = (((((((((a0.put (some 89) v80).put (some 93) v93).put (some 88) (.tuple #[.agg #[.int .u64 e.id, .string ⟨e.dom.toArray⟩, .int .u64 e.ep, .int .u64 e.cnt, .string ⟨e.frm.1.toArray⟩, .string ⟨e.frm.2.toArray⟩, .slice xa e.rcs.length xc, .int .u64 e.born, .int .u64 e.nxt, .int .i64 e.tries], .string ⟨body.toArray⟩, .int .i64 0])).put (some 94) v94).put (some 95) v95).put (some 96) v96).put (some 18) v18).put (some 19) v19).put (some 17) v17).put (some 96) (.int .i64 0) ∧ w2 = wx) ?_ ?_
            · rintro a2 w2 ⟨rfl, rfl⟩
              exact ⟨HFS.out _ (MT ++ (MB ++ MA)) (by rw [List.append_assoc, List.append_assoc]; exact S), ⟨⟨flag_up hl123.1, flag_up hl123.2.1, flag_up hl123.2.2⟩, v80, v93, _, v94, v95, _, v18, v19, v17, b, xa, xc, MT, MB, MA, by rw [put_turn _ 17 96 _ _ (by decide), put_turn _ 19 96 _ _ (by decide), put_turn _ 18 96 _ _ (by decide), put_over], fun h => flag_up (k4_0 (flag_dn rfl h)), fun h => flag_up (k5_4 (flag_dn rfl h)), fun h => flag_up (k6_5 (flag_dn rfl h)), fun h => flag_up (k7_5 (flag_dn rfl h)), fun _ => flag_up h5, fun h => flag_up (k10_9 (flag_dn rfl h)), fun h => flag_up (k10_6 (flag_dn rfl h)), fun h => flag_up (k11_7 (flag_dn rfl h)), fun h => flag_up (k12_8 (flag_dn rfl h)), fun h => d0 (flag_dn rfl h), fun h => d4 (flag_dn rfl h), fun _ => rfl, fun h => d6 (flag_dn rfl h), fun h => d7 (flag_dn rfl h), fun _ => rfl, fun h => d11 (flag_dn rfl h), fun h => d12 (flag_dn rfl h), flag_or rfl mB, flag_or rfl mT, flag_box (fun c g => [boxR g (if c then #[.int .u64 e.id, .string ⟨e.dom.toArray⟩, .int .u64 e.ep, .int .u64 e.cnt, .string ⟨e.frm.1.toArray⟩, .string ⟨e.frm.2.toArray⟩, .slice xa e.rcs.length xc, .int .u64 e.born, .int .u64 e.nxt, .int .i64 e.tries] else #[.int .u64 0, .string ⟨#[]⟩, .int .u64 0, .int .u64 0, .string ⟨#[]⟩, .string ⟨#[]⟩, .slice none 0 0, .int .u64 0, .int .u64 0, .int .i64 0]) 27]) rfl rfl mA, S⟩⟩
            · have es : (((((((((a0.put (some 89) v80).put (some 93) v93).put (some 88) (.tuple #[.agg #[.int .u64 e.id, .string ⟨e.dom.toArray⟩, .int .u64 e.ep, .int .u64 e.cnt, .string ⟨e.frm.1.toArray⟩, .string ⟨e.frm.2.toArray⟩, .slice xa e.rcs.length xc, .int .u64 e.born, .int .u64 e.nxt, .int .i64 e.tries], .string ⟨body.toArray⟩, .int .i64 0])).put (some 94) v94).put (some 95) v95).put (some 96) v96).put (some 18) v18).put (some 19) v19).put (some 17) v17).eval (.tmp 88) = .tuple #[.agg #[.int .u64 e.id, .string ⟨e.dom.toArray⟩, .int .u64 e.ep, .int .u64 e.cnt, .string ⟨e.frm.1.toArray⟩, .string ⟨e.frm.2.toArray⟩, .slice xa e.rcs.length xc, .int .u64 e.born, .int .u64 e.nxt, .int .i64 e.tries], .string ⟨body.toArray⟩, .int .i64 0] := by rw [evalP_ne _ 17 88 _ (by decide), evalP_ne _ 19 88 _ (by decide), evalP_ne _ 18 88 _ (by decide), evalP_ne _ 96 88 _ (by decide), evalP_ne _ 95 88 _ (by decide), evalP_ne _ 94 88 _ (by decide), evalP_same _ 88 _ (by (try simp only [sizeP]); rw [hsz]; decide)]
              generalize (((((((((a0.put (some 89) v80).put (some 93) v93).put (some 88) (.tuple #[.agg #[.int .u64 e.id, .string ⟨e.dom.toArray⟩, .int .u64 e.ep, .int .u64 e.cnt, .string ⟨e.frm.1.toArray⟩, .string ⟨e.frm.2.toArray⟩, .slice xa e.rcs.length xc, .int .u64 e.born, .int .u64 e.nxt, .int .i64 e.tries], .string ⟨body.toArray⟩, .int .i64 0])).put (some 94) v94).put (some 95) v95).put (some 96) v96).put (some 18) v18).put (some 19) v19).put (some 17) v17) = a1 at *
              have es2 : a1.tmps[88]?.getD undef = .tuple #[.agg #[.int .u64 e.id, .string ⟨e.dom.toArray⟩, .int .u64 e.ep, .int .u64 e.cnt, .string ⟨e.frm.1.toArray⟩, .string ⟨e.frm.2.toArray⟩, .slice xa e.rcs.length xc, .int .u64 e.born, .int .u64 e.nxt, .int .i64 e.tries], .string ⟨body.toArray⟩, .int .i64 0] := by rw [← Array.getD_eq_getD_getElem?]; exact es
              go_simp
          · cases ho
            refine ⟨rfl, ?_⟩
            obtain rfl : MA = [] := by rcases mA with ⟨h, _⟩ | ⟨_, h⟩; rw [hl] at h; cases h; exact h
            have h10 : l 10 = false := by cases h : l 10 with | false => rfl | true => rw [k10_9 h] at hl; cases hl
            refine Oper.wp_mono (K := fun a2 w2 => a2 = (((((((((a0.put (some 89) v80).put (some 93) v93).put (some 88) v88).put (some 94) v94).put (some 95) v95).put (some 96) v96).put (some 18) v18).put (some 19) v19).put (some 17) v17).put (some 17) (.pointer (some ⟨wx.heap.size, 0, none⟩)) ∧ w2 = wx.alloc (.cells #[.int .u64 0, .string ⟨#[]⟩, .int .u64 0, .int .u64 0, .string ⟨#[]⟩, .string ⟨#[]⟩, .slice none 0 0, .int .u64 0, .int .u64 0, .int .i64 0] 27)) ?_ ?_
            · rintro a2 w2 ⟨rfl, rfl⟩
              have S2 := S.box #[.int .u64 0, .string ⟨#[]⟩, .int .u64 0, .int .u64 0, .string ⟨#[]⟩, .string ⟨#[]⟩, .slice none 0 0, .int .u64 0, .int .u64 0, .int .i64 0] 27
              have S3 : Sp w [] (wx.alloc (.cells #[.int .u64 0, .string ⟨#[]⟩, .int .u64 0, .int .u64 0, .string ⟨#[]⟩, .string ⟨#[]⟩, .slice none 0 0, .int .u64 0, .int .u64 0, .int .i64 0] 27)) (MT ++ (MB ++ ([boxR wx.heap.size #[.int .u64 0, .string ⟨#[]⟩, .int .u64 0, .int .u64 0, .string ⟨#[]⟩, .string ⟨#[]⟩, .slice none 0 0, .int .u64 0, .int .u64 0, .int .i64 0] 27] ++ (boxR q3 #[.int .u64 e.id, .string ⟨e.dom.toArray⟩, .int .u64 e.ep, .int .u64 e.cnt, .string ⟨e.frm.1.toArray⟩, .string ⟨e.frm.2.toArray⟩, .slice va e.rcs.length vc, .int .u64 e.born, .int .u64 e.nxt, .int .i64 e.tries] 27 :: boxR q5 kc 41 :: boxR q9 #[.int .u64 e.id, .string ⟨e.dom.toArray⟩, .int .u64 e.ep, .int .u64 e.cnt, .string ⟨e.frm.1.toArray⟩, .string ⟨e.frm.2.toArray⟩, .slice ra e.rcs.length rc, .int .u64 e.born, .int .u64 e.nxt, .int .i64 e.tries] 27 :: tosR (.slice ra e.rcs.length rc) e.rcs :: [])))) := by
                rcases mB with ⟨_, rfl⟩ | ⟨_, rfl⟩
                · rcases mT with ⟨_, rfl⟩ | ⟨_, rfl⟩
                  · exact S2.push2
                  · exact S2.pull1
                · rcases mT with ⟨_, rfl⟩ | ⟨_, rfl⟩
                  · exact S2.pull1
                  · exact S2
              exact ⟨HFS.out _ (MT ++ (MB ++ [boxR wx.heap.size #[.int .u64 0, .string ⟨#[]⟩, .int .u64 0, .int .u64 0, .string ⟨#[]⟩, .string ⟨#[]⟩, .slice none 0 0, .int .u64 0, .int .u64 0, .int .i64 0] 27])) (by rw [List.append_assoc, List.append_assoc]; exact S3), ⟨⟨flag_up hl123.1, flag_up hl123.2.1, flag_up hl123.2.2⟩, v80, v93, v88, v94, v95, v96, v18, v19, _, b, xa, xc, MT, MB, [boxR wx.heap.size #[.int .u64 0, .string ⟨#[]⟩, .int .u64 0, .int .u64 0, .string ⟨#[]⟩, .string ⟨#[]⟩, .slice none 0 0, .int .u64 0, .int .u64 0, .int .i64 0] 27], by rw [put_over], fun h => flag_up (k4_0 (flag_dn rfl h)), fun h => flag_up (k5_4 (flag_dn rfl h)), fun h => flag_up (k6_5 (flag_dn rfl h)), fun h => flag_up (k7_5 (flag_dn rfl h)), fun h => flag_up (k8_5 (flag_dn rfl h)), (fun h => by rw [flag_dn (x := 10) rfl h] at h10; cases h10), fun h => flag_up (k10_6 (flag_dn rfl h)), fun h => flag_up (k11_7 (flag_dn rfl h)), fun h => flag_up (k12_8 (flag_dn rfl h)), fun h => d0 (flag_dn rfl h), fun h => d4 (flag_dn rfl h), fun h => d5 (flag_dn rfl h), fun h => d6 (flag_dn rfl h), fun h => d7 (flag_dn rfl h), fun h => d8 (flag_dn rfl h), fun h => d11 (flag_dn rfl h), fun h => d12 (flag_dn rfl h), flag_or rfl mB, flag_or rfl mT, .inl ⟨by simp, _, rfl, by simp [h10]⟩, S3⟩⟩
            · generalize (((((((((a0.put (some 89) v80).put (some 93) v93).put (some 88) v88).put (some 94) v94).put (some 95) v95).put (some 96) v96).put (some 18) v18).put (some 19) v19).put (some 17) v17) = a1 at *
              go_simp
          · obtain ⟨hg, hst, hdn⟩ : o.guard = none ∧ o.op = .store 27 (.tmp 17) (.tmp 94) ∧ o.dst = none := by cases ho; exact ⟨by kernel_rfl, by kernel_rfl, by kernel_rfl⟩
            refine ⟨by cases ho; rfl, ?_⟩
            have h9 : l 9 = true := by cases ho; exact hpre ⟨9, .data⟩ (by simp) rfl
            have h6 : l 6 = true := by cases ho; exact hpre ⟨6, .data⟩ (by simp) rfl
            clear hpre ho
            have h4 := k5_4 (k6_5 h6)
            have h0 := k4_0 h4
            have dd := d6 h6
            subst dd
            obtain rfl : MB = [realR b] := by rcases mB with ⟨_, h⟩ | ⟨h, _⟩; exact h; rw [h0] at h; cases h
            obtain rfl : MT = [tosR (.slice xa e.rcs.length xc) e.rcs] := by rcases mT with ⟨_, h⟩ | ⟨h, _⟩; exact h; rw [h4] at h; cases h
            rcases mA with ⟨_, g, rfl, rfl⟩ | ⟨h, _⟩
            · rw [hl, if_neg (by simp)] at S
              have S2 := S.pull2
              have S3 := (S2.setRow #[.int .u64 e.id, .string ⟨e.dom.toArray⟩, .int .u64 e.ep, .int .u64 e.cnt, .string ⟨e.frm.1.toArray⟩, .string ⟨e.frm.2.toArray⟩, .slice xa e.rcs.length xc, .int .u64 e.born, .int .u64 e.nxt, .int .i64 e.tries]).push2
              refine wp_store_row 27 (.tmp 17) (.tmp 94) hst g #[.int .u64 e.id, .string ⟨e.dom.toArray⟩, .int .u64 e.ep, .int .u64 e.cnt, .string ⟨e.frm.1.toArray⟩, .string ⟨e.frm.2.toArray⟩, .slice xa e.rcs.length xc, .int .u64 e.born, .int .u64 e.nxt, .int .i64 e.tries] (by rw [evalP_same _ 17 _ (by (try simp only [sizeP]); rw [hsz]; decide)]) (by rw [evalP_ne _ 17 94 _ (by decide), evalP_ne _ 19 94 _ (by decide), evalP_ne _ 18 94 _ (by decide), evalP_ne _ 96 94 _ (by decide), evalP_ne _ 95 94 _ (by decide), evalP_same _ 94 _ (by (try simp only [sizeP]); rw [hsz]; decide)]) 27 _ S2.boxed (by kernel_rfl) (by kernel_rfl) (by kernel_rfl) ?_
              rw [hdn]
              exact ⟨HFS.out _ [tosR (.slice xa e.rcs.length xc) e.rcs, realR b, boxR g #[.int .u64 e.id, .string ⟨e.dom.toArray⟩, .int .u64 e.ep, .int .u64 e.cnt, .string ⟨e.frm.1.toArray⟩, .string ⟨e.frm.2.toArray⟩, .slice xa e.rcs.length xc, .int .u64 e.born, .int .u64 e.nxt, .int .i64 e.tries] 27] S3, ⟨⟨flag_up hl123.1, flag_up hl123.2.1, flag_up hl123.2.2⟩, v80, v93, v88, _, v95, v96, v18, v19, _, b, xa, xc, [tosR (.slice xa e.rcs.length xc) e.rcs], [realR b], [boxR g #[.int .u64 e.id, .string ⟨e.dom.toArray⟩, .int .u64 e.ep, .int .u64 e.cnt, .string ⟨e.frm.1.toArray⟩, .string ⟨e.frm.2.toArray⟩, .slice xa e.rcs.length xc, .int .u64 e.born, .int .u64 e.nxt, .int .i64 e.tries] 27], put_noneX _ _, fun h => flag_up (k4_0 (flag_dn rfl h)), fun h => flag_up (k5_4 (flag_dn rfl h)), fun h => flag_up (k6_5 (flag_dn rfl h)), fun h => flag_up (k7_5 (flag_dn rfl h)), fun h => flag_up (k8_5 (flag_dn rfl h)), fun _ => flag_up h9, fun _ => flag_up h6, fun h => flag_up (k11_7 (flag_dn rfl h)), fun h => flag_up (k12_8 (flag_dn rfl h)), fun h => d0 (flag_dn rfl h), fun h => d4 (flag_dn rfl h), fun h => d5 (flag_dn rfl h), fun _ => rfl, fun h => d7 (flag_dn rfl h), fun h => d8 (flag_dn rfl h), fun h => d11 (flag_dn rfl h), fun h => d12 (flag_dn rfl h), .inl ⟨flag_up h0, rfl⟩, .inl ⟨flag_up h4, rfl⟩, .inl ⟨flag_up h9, g, rfl, by simp⟩, S3⟩⟩
            · rw [h9] at h; cases h
          · cases ho
            refine ⟨rfl, ?_⟩
            have h7 : l 7 = true := hpre ⟨7, .data⟩ (by simp) rfl
            have dd := d7 h7
            subst dd
            refine Oper.wp_mono (K := fun a2 w2 => a2 = (((((((((a0.put (some 89) v80).put (some 93) v93).put (some 88) v88).put (some 94) v94).put (some 95) (.string ⟨body.toArray⟩)).put (some 96) v96).put (some 18) v18).put (some 19) v19).put (some 17) v17).put (some 18) (.string ⟨body.toArray⟩) ∧ w2 = wx) ?_ ?_
            · rintro a2 w2 ⟨rfl, rfl⟩
              exact ⟨HFS.out _ (MT ++ (MB ++ MA)) (by rw [List.append_assoc, List.append_assoc]; exact S), ⟨⟨flag_up hl123.1, flag_up hl123.2.1, flag_up hl123.2.2⟩, v80, v93, v88, v94, _, v96, _, v19, v17, b, xa, xc, MT, MB, MA, by rw [put_turn _ 17 18 _ _ (by decide), put_turn _ 19 18 _ _ (by decide), put_over], fun h => flag_up (k4_0 (flag_dn rfl h)), fun h => flag_up (k5_4 (flag_dn rfl h)), fun h => flag_up (k6_5 (flag_dn rfl h)), fun h => flag_up (k7_5 (flag_dn rfl h)), fun h => flag_up (k8_5 (flag_dn rfl h)), fun h => flag_up (k10_9 (flag_dn rfl h)), fun h => flag_up (k10_6 (flag_dn rfl h)), fun _ => flag_up h7, fun h => flag_up (k12_8 (flag_dn rfl h)), fun h => d0 (flag_dn rfl h), fun h => d4 (flag_dn rfl h), fun h => d5 (flag_dn rfl h), fun h => d6 (flag_dn rfl h), fun _ => rfl, fun h => d8 (flag_dn rfl h), fun _ => rfl, fun h => d12 (flag_dn rfl h), flag_or rfl mB, flag_or rfl mT, flag_box (fun c g => [boxR g (if c then #[.int .u64 e.id, .string ⟨e.dom.toArray⟩, .int .u64 e.ep, .int .u64 e.cnt, .string ⟨e.frm.1.toArray⟩, .string ⟨e.frm.2.toArray⟩, .slice xa e.rcs.length xc, .int .u64 e.born, .int .u64 e.nxt, .int .i64 e.tries] else #[.int .u64 0, .string ⟨#[]⟩, .int .u64 0, .int .u64 0, .string ⟨#[]⟩, .string ⟨#[]⟩, .slice none 0 0, .int .u64 0, .int .u64 0, .int .i64 0]) 27]) rfl rfl mA, S⟩⟩
            · have es : (((((((((a0.put (some 89) v80).put (some 93) v93).put (some 88) v88).put (some 94) v94).put (some 95) (.string ⟨body.toArray⟩)).put (some 96) v96).put (some 18) v18).put (some 19) v19).put (some 17) v17).eval (.tmp 95) = .string ⟨body.toArray⟩ := by rw [evalP_ne _ 17 95 _ (by decide), evalP_ne _ 19 95 _ (by decide), evalP_ne _ 18 95 _ (by decide), evalP_ne _ 96 95 _ (by decide), evalP_same _ 95 _ (by (try simp only [sizeP]); rw [hsz]; decide)]
              generalize (((((((((a0.put (some 89) v80).put (some 93) v93).put (some 88) v88).put (some 94) v94).put (some 95) (.string ⟨body.toArray⟩)).put (some 96) v96).put (some 18) v18).put (some 19) v19).put (some 17) v17) = a1 at *
              have es2 : a1.tmps[95]?.getD undef = .string ⟨body.toArray⟩ := by rw [← Array.getD_eq_getD_getElem?]; exact es
              go_simp
          · cases ho
            refine ⟨rfl, ?_⟩
            have h8 : l 8 = true := hpre ⟨8, .data⟩ (by simp) rfl
            have dd := d8 h8
            subst dd
            refine Oper.wp_mono (K := fun a2 w2 => a2 = (((((((((a0.put (some 89) v80).put (some 93) v93).put (some 88) v88).put (some 94) v94).put (some 95) v95).put (some 96) (.int .i64 0)).put (some 18) v18).put (some 19) v19).put (some 17) v17).put (some 19) (.int .i64 0) ∧ w2 = wx) ?_ ?_
            · rintro a2 w2 ⟨rfl, rfl⟩
              exact ⟨HFS.out _ (MT ++ (MB ++ MA)) (by rw [List.append_assoc, List.append_assoc]; exact S), ⟨⟨flag_up hl123.1, flag_up hl123.2.1, flag_up hl123.2.2⟩, v80, v93, v88, v94, v95, _, v18, _, v17, b, xa, xc, MT, MB, MA, by rw [put_turn _ 17 19 _ _ (by decide), put_over], fun h => flag_up (k4_0 (flag_dn rfl h)), fun h => flag_up (k5_4 (flag_dn rfl h)), fun h => flag_up (k6_5 (flag_dn rfl h)), fun h => flag_up (k7_5 (flag_dn rfl h)), fun h => flag_up (k8_5 (flag_dn rfl h)), fun h => flag_up (k10_9 (flag_dn rfl h)), fun h => flag_up (k10_6 (flag_dn rfl h)), fun h => flag_up (k11_7 (flag_dn rfl h)), fun _ => flag_up h8, fun h => d0 (flag_dn rfl h), fun h => d4 (flag_dn rfl h), fun h => d5 (flag_dn rfl h), fun h => d6 (flag_dn rfl h), fun h => d7 (flag_dn rfl h), fun _ => rfl, fun h => d11 (flag_dn rfl h), fun _ => rfl, flag_or rfl mB, flag_or rfl mT, flag_box (fun c g => [boxR g (if c then #[.int .u64 e.id, .string ⟨e.dom.toArray⟩, .int .u64 e.ep, .int .u64 e.cnt, .string ⟨e.frm.1.toArray⟩, .string ⟨e.frm.2.toArray⟩, .slice xa e.rcs.length xc, .int .u64 e.born, .int .u64 e.nxt, .int .i64 e.tries] else #[.int .u64 0, .string ⟨#[]⟩, .int .u64 0, .int .u64 0, .string ⟨#[]⟩, .string ⟨#[]⟩, .slice none 0 0, .int .u64 0, .int .u64 0, .int .i64 0]) 27]) rfl rfl mA, S⟩⟩
            · have es : (((((((((a0.put (some 89) v80).put (some 93) v93).put (some 88) v88).put (some 94) v94).put (some 95) v95).put (some 96) (.int .i64 0)).put (some 18) v18).put (some 19) v19).put (some 17) v17).eval (.tmp 96) = .int .i64 0 := by rw [evalP_ne _ 17 96 _ (by decide), evalP_ne _ 19 96 _ (by decide), evalP_ne _ 18 96 _ (by decide), evalP_same _ 96 _ (by (try simp only [sizeP]); rw [hsz]; decide)]
              generalize (((((((((a0.put (some 89) v80).put (some 93) v93).put (some 88) v88).put (some 94) v94).put (some 95) v95).put (some 96) (.int .i64 0)).put (some 18) v18).put (some 19) v19).put (some 17) v17) = a1 at *
              have es2 : a1.tmps[96]?.getD undef = .int .i64 0 := by rw [← Array.getD_eq_getD_getElem?]; exact es
              go_simp
        · rintro l a wx hl ⟨hl123, v80, v93, v88, v94, v95, v96, v18, v19, v17, b, xa, xc, MT, MB, MA, rfl, k4_0, k5_4, k6_5, k7_5, k8_5, k10_9, k10_6, k11_7, k12_8, d0, d4, d5, d6, d7, d8, d11, d12, mB, mT, mA, S⟩
          have e0 := hl 0 (by decide)
          have e4 := hl 4 (by decide)
          have e9 := hl 9 (by decide)
          have e10 := hl 10 (by decide)
          have e11 := hl 11 (by decide)
          have e12 := hl 12 (by decide)
          have dd := d11 e11
          subst dd
          have dd := d12 e12
          subst dd
          obtain rfl : MB = [realR b] := by rcases mB with ⟨_, h⟩ | ⟨h, _⟩; exact h; rw [e0] at h; cases h
          obtain rfl : MT = [tosR (.slice xa e.rcs.length xc) e.rcs] := by rcases mT with ⟨_, h⟩ | ⟨h, _⟩; exact h; rw [e4] at h; cases h
          rcases mA with ⟨_, g, rfl, rfl⟩ | ⟨h, _⟩
          · rw [e10, if_pos rfl] at S
            rw [← hA]
            simp only [Act.put, List.setIfInBounds_toArray, List.set_cons_zero, List.set_cons_succ]
            go_wp2_with fail
            go_meet
            exact ⟨g, xa, xc, rfl, rfl, rfl, (Sp.pick [_, _, _] [2, 0] (by decide) (S))⟩
          · rw [e9] at h; cases h
        · refine ⟨⟨by rfl, by rfl, by rfl⟩, a0.tmps.getD 89 undef, a0.tmps.getD 93 undef, a0.tmps.getD 88 undef, a0.tmps.getD 94 undef, a0.tmps.getD 95 undef, a0.tmps.getD 96 undef, a0.tmps.getD 18 undef, a0.tmps.getD 19 undef, a0.tmps.getD 17 undef, 0, none, 0, [], [], [], ?_, (fun h => by cases h), (fun h => by cases h), (fun h => by cases h), (fun h => by cases h), (fun h => by cases h), (fun h => by cases h), (fun h => by cases h), (fun h => by cases h), (fun h => by cases h), (fun h => by cases h), (fun h => by cases h), (fun h => by cases h), (fun h => by cases h), (fun h => by cases h), (fun h => by cases h), (fun h => by cases h), (fun h => by cases h), .inr ⟨rfl, rfl⟩, .inr ⟨rfl, rfl⟩, .inr ⟨rfl, rfl⟩, HS11.out.drew⟩
          rw [put_back a0 89 (by rw [hsz]; decide), put_back a0 93 (by rw [hsz]; decide), put_back a0 88 (by rw [hsz]; decide), put_back a0 94 (by rw [hsz]; decide), put_back a0 95 (by rw [hsz]; decide), put_back a0 96 (by rw [hsz]; decide), put_back a0 18 (by rw [hsz]; decide), put_back a0 19 (by rw [hsz]; decide), put_back a0 17 (by rw [hsz]; decide)]
      case rest =>
        obtain ⟨g, xa, xc, rfl, rfl, rfl, S⟩ := hcut
        have HS12 := Lib.hid S
        have c17 := S.cell
        have c3 := ((Sp.pick [_, _, _] [2] (by decide) (S))).cell
        have HSM := Lib.hid (enSame_any (v := .slice xa e.rcs.length xc) (v2 := .slice va e.rcs.length vc) e e wc ⟨HF.out, S.pull1.tosAt⟩ ⟨HF.out, HT.out.ext S.ext⟩)
        rw [enSame_self] at HSM
        unfold enAgg at HSM
        clear S HS11
        go_wp2_with fail
        refine HSM.out.mono ?_
        rintro r w13 ⟨rfl, hx⟩
        have HS13 := Lib.hid (HS12.out.ext0 hx)
        clear hx HS12 c17 c3 HSM
        go_wp2_with fail
        go_ret
        exact ⟨rfl, HS13.out.ext⟩
end
end Go.Proofs.YtkenacggjffjnaaGreatDoor
