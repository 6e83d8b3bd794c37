/- ClientDoes: its walk. Conditions: what Go's variables hold; the arguments fit. -/
import Derived.Test.YtldlbiodllgflaaGreatDoorLawDone
import Derived.Test.YtldlbiodllgflaaGreatDoorR22
set_option linter.unusedSimpArgs false
set_option linter.unusedVariables false
set_option linter.unnecessarySimpa false
namespace Go.Proofs.YtldlbiodllgflaaGreatDoor
open Go.RowKit

section
variable {w : World} {L : List Res} {F0 : List Nat} {p b : Nat} {v : Value} {C : Cl}
/-- A client, the document's one, and a mailbox. -/
abbrev bothR (p p2 q : Nat) (C D : Cl) (v tv sv kv : Value) (cs : Array Value) : List Res := clR p C v (r22R p2 D tv sv kv (boxR q cs 23 :: []))
theorem Sp.both2 {q p2 : Nat} {tv sv kv : Value} {cs : Array Value} {D : Cl} {w0 : World} (S : Sp w0 F0 w (bothR p p2 q C D v tv sv kv cs)) : Sp w0 F0 w (r22R p2 D tv sv kv (clR p C v (boxR q cs 23 :: []))) := (Sp.pick [_, _, _, _, _, _] [2, 3, 4, 5, 0, 1] (by decide) (S))
theorem Sp.both1 {q p2 : Nat} {tv sv kv : Value} {cs : Array Value} {D : Cl} {w0 : World} (S : Sp w0 F0 w (r22R p2 D tv sv kv (clR p C v (boxR q cs 23 :: [])))) : Sp w0 F0 w (bothR p p2 q C D v tv sv kv cs) := (Sp.pick [_, _, _, _, _, _] [4, 5, 0, 1, 2, 3] (by decide) (S))
theorem play_phase : ∀ (l : List Int) (C : Cl), (C.play l).1.phase = 8
  | [], C => rfl
  | c :: l, C => by
    unfold Cl.play
    split
    · rfl
    · exact play_phase l _
theorem play_like : ∀ (l : List Int) (C : Cl), C.Like (C.play l).1
  | [], C => ⟨rfl, rfl, rfl, rfl, fun r h => ⟨r, h, rfl⟩⟩
  | c :: l, C => by
    unfold Cl.play
    split
    · exact ⟨rfl, rfl, rfl, rfl, fun r h => ⟨r, h, rfl⟩⟩
    · exact (take_like C c).trans (play_like l _)
set_option maxRecDepth 100000 in
set_option maxHeartbeats 8000000 in
theorem clientDoes_walk (host : Bs) (fr : Mb) (tv : Value) (to_ : List Mb) (body : Bs) (cv : Value) (codes : List Int) (w : World) (E : Env w) (hh : host.length ≤ maxLen) (hf1 : fr.1.length ≤ maxLen) (hf2 : fr.2.length ≤ maxLen) (A : Args22 w tv to_ body) (I : Codes22 w cv codes) :
    Calls Tryz.prog 3 #[.string ⟨host.toArray⟩, mbAgg fr, tv, .string ⟨body.toArray⟩, cv] w fun e w2 => e = .returned (.bool true) ∧ Ext [] w w2 := by
  have HE := Lib.hid E
  have HA := Lib.hid A
  have HI := Lib.hid I
  have HS0 := Lib.hid ((Sp.nil w []).box (mbCells fr) 23)
  have HLG := Lib.hid (fun w' v' (T : BxAt w' v' to_) => large22_any (w := w') (v := v') host fr to_ body hh hf1 hf2 A.body A.n A.each T)
  have HNW := Lib.hid (fun (w' : World) (L' : List Res) (v' : Value) (G : fit22 host fr to_ body) (T : BxAt w' v' to_) (S' : Sp w [] w' L') => clNewS host fr v' to_ body G.1 G.2.1 G.2.2.1 G.2.2.2.2.1 (by have := G.2.2.2.1; omega) G.2.2.2.2.2 E T S')
  have HNR := Lib.hid (fun (w' : World) (L' : List Res) (v' : Value) (G : fit22 host fr to_ body) (T : BxAt w' v' to_) (S' : Sp w [] w' L') => r22NewS host fr v' to_ body G.1 G.2.1 G.2.2.1 G.2.2.2.2.1 (by have := G.2.2.2.1; omega) G.2.2.2.2.2 T S')
  have HOK := Lib.hid (fun C e (G : fit22 host fr to_ body) (h : clNew host fr to_ body = (some C, e)) => clNew_ok h G.1 G.2.1 G.2.2.1 G.2.2.2.2.1 G.2.2.2.2.2)
  unfold mbAgg mbCells at *
  obtain ⟨fl, fd⟩ := fr
  obtain ⟨a, cap, rfl⟩ := A.at_.form
  obtain ⟨ac, capc, rfl⟩ := I.at_.form
  have hcn : (codes.length : Int) ≤ 9223372036854775807 := by have := I.n; unfold maxLen at this; omega
  clear E A I hf1 hf2 hh
  dsimp only at *
  go_enter Tryz.func3, Tryz.ntmps3
  go_wp2_with fail
  refine (awake22S HS0.out HE.out).mono ?_
  generalize w.heap.size = q4 at *
  rintro e w1 ⟨rfl, S⟩
  have HS1 := Lib.hid S
  have c1 := S.cell
  clear S HS0
  go_wp2_with fail
  refine (HLG.out _ _ (HA.out.at_.ext HS1.out.ext)).mono ?_
  rintro e w2 ⟨r, rfl, hx, hf⟩
  have HS2 := Lib.hid (HS1.out.ext0 hx)
  have c2 := HS2.out.cell
  clear hx HS1 c1
  cases r with
  | true =>
    go_wp2
    go_ret
    exact ⟨rfl, HS2.out.ext⟩
  | false =>
  have HF := Lib.hid (hf rfl)
  clear hf
  go_wp2_with fail
  refine (HNW.out _ _ _ HF.out (HA.out.at_.ext HS2.out.ext) HS2.out).mono ?_
  have HN1 := Lib.hid (fun (w' : World) (L' : List Res) (S' : Sp w [] w' L') => HNW.out w' L' _ HF.out (HA.out.at_.ext S'.ext) S')
  have HN2 := Lib.hid (fun (w' : World) (L' : List Res) (S' : Sp w [] w' L') => HNR.out w' L' _ HF.out (HA.out.at_.ext S'.ext) S')
  have HOK2 := Lib.hid (fun C e h => HOK.out C e HF.out h)
  clear HOK HNW HNR
  generalize hno : clNew host (fl, fd) to_ body = o at *
  have HNO := Lib.hid hno
  clear hno
  obtain ⟨o1, o2⟩ := o
  have ho2 : (o2 != o2) = false := by simp
  cases o1 with
  | none =>
    rintro e w3 ⟨rfl, S⟩
    have HS3 := Lib.hid S
    have c3 := S.cell
    clear S HS2 c2
    go_wp2_with fail
    refine (HN2.out _ _ HS3.out).mono ?_
    rintro e w4 ⟨rfl, S⟩
    have HS4 := Lib.hid S
    have c4 := S.cell
    clear S HS3 c3
    have HN1b := HN1
    clear HOK2
    go_wp2_with fail
    go_loopw [15] (fun i wr => i = .int .i64 0 ∧ w4 = wr) (fun _ _ => 0)
    case atStart => exact ⟨rfl, rfl⟩
    case round =>
      obtain ⟨rfl, rfl⟩ := hrel
      have hor : ((0 : Int) < codes.length) ∨ ((codes.length : Int) ≤ 0) := by omega
      rcases hor with hl | hl
      all_goals
        go_wp2_with fail
        refine (HN1.out _ _ HS4.out).mono ?_
        rintro e w5 ⟨rfl, S⟩
        have HS5 := Lib.hid S
        have c5 := S.cell
        clear S HS4 c4
        go_wp2_with fail
        refine (HN2.out _ _ HS5.out).mono ?_
        rintro e w6 ⟨rfl, S⟩
        have HS6 := Lib.hid S
        clear S HS5 c5
        go_wp2_with fail
        refine wp_region_text (S := fun wx => Sp w [] wx (boxR q4 #[.string ⟨fl.toArray⟩, .string ⟨fd.toArray⟩] 23 :: [])) (by kernel_rfl) (by kernel_rfl) (HS6.out).drew ?_
        repeat
          refine Exists.intro ?_ (And.intro (fun wS hS K hK => ?_) (And.intro ?_ ?_))
          rotate_left 1
          · have hS1 := hS
            first
              | (refine if_unwanted rfl ?_; simp only [Act.put, List.setIfInBounds_toArray, List.set_cons_zero, List.set_cons_succ]; exact hK.out _ hS1)
              | (refine if_wanted rfl ?_; go_simp; exact hK.out _ hS1)
          · rfl
        intro wE hE
        have HSE := Lib.hid hE
        clear hE
        go_wp2
        go_ret
        exact ⟨rfl, HSE.out.ext⟩
  | some C =>
    obtain ⟨hok, _, h0, hlen, _, hC, _, _⟩ := HOK2.out C o2 rfl
    have HFT : Hid C.Fit := by rw [Hid, hC]; exact fit_new
    have HK := Lib.hid hok
    have HP0 := Lib.hid h0
    clear hok hC h0 hlen HOK2
    rintro e w3 ⟨p, v, rfl, S⟩
    have HS3 := Lib.hid S
    have c3 := ((Sp.pick [_, _, _] [2] (by decide) (S))).cell
    clear S HS2 c2
    go_wp2_with fail
    refine (HN2.out _ _ HS3.out).mono ?_
    rintro e w4 ⟨p2, tv, sv, kv, rfl, S⟩
    have HS4 : Hid (Sp w [] w4 (bothR p p2 q4 C C v tv sv kv #[.string ⟨fl.toArray⟩, .string ⟨fd.toArray⟩])) := Lib.hid (Sp.both1 S)
    clear S HS3 c3
    go_wp2_with fail
    go_loopw [15] (fun i wr => ∃ (k : Nat) (D : Cl), i = .int .i64 k ∧ k ≤ codes.length ∧ D.Ok ∧ D.Fit ∧ Sp w [] wr (bothR p p2 q4 D D v tv sv kv #[.string ⟨fl.toArray⟩, .string ⟨fd.toArray⟩])) (fun i _ => codes.length - (intOf i).toNat)
    case atStart => exact ⟨0, C, rfl, Nat.zero_le _, HK.out, HFT.out, HS4.out⟩
    case round =>
      clear HS4
      obtain ⟨k, D, rfl, hk, hok, hft, S⟩ := hrel
      have HS := Lib.hid S
      have HK3 := Lib.hid hok
      have HFT3 := Lib.hid hft
      clear S hok hft
      by_cases hgo : k < codes.length ∧ k < 60
      · have hlt : k < codes.length := hgo.1
        have hlt' : (k : Int) < codes.length := by omega
        have h60 : (k : Int) < 60 := by omega
        obtain ⟨b, off, rfl, ck⟩ := (HI.out.at_.ext HS.out.ext).at hlt
        have HCK : Hid (∀ wx, Ext [] w wx → wx.cell? ⟨b, off + k, none⟩ = some (.int .i64 codes[k])) := fun wx hx => by
          obtain ⟨b2, o2, e2, h2⟩ := (HI.out.at_.ext hx).at hlt
          cases e2
          exact h2
        have HCB := Lib.hid (HI.out.each _ (List.getElem_mem hlt))
        generalize codes[k] = c at *
        have HTK := Lib.hid (fun (w' : World) (S' : Sp w [] w' (bothR p p2 q4 D D v tv sv kv #[.string ⟨fl.toArray⟩, .string ⟨fd.toArray⟩])) => clTakeS (C := D) c HCB.out.1 HCB.out.2 HK3.out S' HE.out)
        have HTR := Lib.hid (fun (w' : World) (C' : Cl) (S' : Sp w [] w' (bothR p p2 q4 C' D v tv sv kv #[.string ⟨fl.toArray⟩, .string ⟨fd.toArray⟩])) => r22TakeS (C := D) c HCB.out.1 HCB.out.2 HK3.out HFT3.out S'.both2)
        have HOK2 := Lib.hid (take_goes HK3.out c).1
        have HFT2 := Lib.hid (fit_take HFT3.out HK3.out c)
        clear hgo ck
        generalize D.take c = t at *
        obtain ⟨D2, s⟩ := t
        dsimp only at *
        have hss : (s != s) = false := by simp
        have hpp : (D2.phase != D2.phase) = false := by simp
        have HST := Lib.hid (fun (w' : World) (S' : Sp w [] w' (bothR p p2 q4 D2 D2 v tv sv kv #[.string ⟨fl.toArray⟩, .string ⟨fd.toArray⟩])) => clStatesS (C := D2) (by have := HOK2.out.n10; omega) S')
        have hsn : (D2.tos.map Rc.state).length ≤ 1000000 := by rw [List.length_map]; have := HOK2.out.n10; omega
        have HSN := Lib.hid hsn
        clear hsn
        have HSTF : Hid (∀ (x : World), Sp w [] x (bothR p p2 q4 D2 D2 v tv sv kv #[.string ⟨fl.toArray⟩, .string ⟨fd.toArray⟩]) → x.cell? ⟨b, off + k, none⟩ = some (.int .i64 c) ∧ x.cell? ⟨p2, 7, none⟩ = some (.int .i64 D2.phase) ∧ x.cell? ⟨p2, 4, none⟩ = some sv) := fun x h => ⟨HCK.out x h.ext, h.both2.cell 7, h.both2.cell 4⟩
        have HSTG : Hid (∀ (x : World) (v7 : Value), Sp w [] x (intsR v7 (D2.tos.map Rc.state) :: bothR p p2 q4 D2 D2 v tv sv kv #[.string ⟨fl.toArray⟩, .string ⟨fd.toArray⟩]) → IxAt x v7 (D2.tos.map Rc.state) ∧ IxAt x sv (D2.tos.map Rc.state)) := fun x v7 h => ⟨h.ixAt, ((Sp.pick [_, _, _, _, _, _, _, _] [5] (by decide) (h))).ixAt⟩
        go_wp2_with fail
        refine wp_region_chainG [0, 1, 2, 3, 4, 6, 7, 8, 9, 10, 5, 11, 12, 13, 14, 16, 17, 18, 19, 15, 20, 21, 22, 23, 25, 26, 27, 28, 24, 29, 30, 31, 32, 33, 35, 36, 37, 38, 39, 34, 40, 41] (fun c => c == 5 || c == 11 || c == 15 || c == 24 || c == 29 || c == 34) (T := fun wx => wx.cell? ⟨b, off + k, none⟩ = some (.int .i64 c)) (S := fun wx => Sp w [] wx (bothR p p2 q4 D D v tv sv kv #[.string ⟨fl.toArray⟩, .string ⟨fd.toArray⟩])) (by kernel_rfl) (by kernel_rfl) HS.out.drew (fun x h => HCK.out x h.ext) ?_
        repeat
          refine Exists.intro _ (And.intro rfl (Or.inl (Exists.intro ?_ (And.intro (fun wS hS K hK => ?_) (And.intro ?_ ?_)))))
          rotate_left 1
          · have t0 := hS
            first
              | (refine if_unwanted rfl ?_; simp only [Act.put, List.setIfInBounds_toArray, List.set_cons_zero, List.set_cons_succ]; exact hK.out)
              | (refine if_wanted rfl ?_; go_simp; exact hK.out)
          · rfl
        refine ChainG.one rfl rfl rfl (fun wS hS R hR => ?_)
        go_simp
        go_at_call 12
        refine (HTK.out wS hS).mono ?_
        rintro e w7 ⟨rfl, S7⟩
        refine hR.out _ _ rfl (fun wx => wx.cell? ⟨b, off + k, none⟩ = some (.int .i64 c)) (fun wx => Sp w [] wx (bothR p p2 q4 D2 D v tv sv kv #[.string ⟨fl.toArray⟩, .string ⟨fd.toArray⟩])) S7 (fun x h => HCK.out x h.ext) (fun _ h => h) ?_
        clear hR hS S7
        repeat
          refine Exists.intro _ (And.intro rfl (Or.inl (Exists.intro ?_ (And.intro (fun wS hS K hK => ?_) (And.intro ?_ ?_)))))
          rotate_left 1
          · have t0 := hS
            first
              | (refine if_unwanted rfl ?_; simp only [Act.put, List.setIfInBounds_toArray, List.set_cons_zero, List.set_cons_succ]; exact hK.out)
              | (refine if_wanted rfl ?_; go_simp; exact hK.out)
          · rfl
        refine ChainG.one rfl rfl rfl (fun wS hS R hR => ?_)
        go_simp
        go_at_call 13
        refine (HTR.out wS D2 hS).mono ?_
        rintro e w7 ⟨rfl, S7⟩
        refine hR.out _ _ rfl (fun wx => wx.cell? ⟨b, off + k, none⟩ = some (.int .i64 c) ∧ wx.cell? ⟨p2, 7, none⟩ = some (.int .i64 D2.phase) ∧ wx.cell? ⟨p2, 4, none⟩ = some sv) (fun wx => Sp w [] wx (bothR p p2 q4 D2 D2 v tv sv kv #[.string ⟨fl.toArray⟩, .string ⟨fd.toArray⟩])) (Sp.both1 S7) (fun x h => HSTF.out x h) (fun x h => h.1) ?_
        clear hR hS S7
        repeat
          refine Exists.intro _ (And.intro rfl (Or.inl (Exists.intro ?_ (And.intro (fun wS hS K hK => ?_) (And.intro ?_ ?_)))))
          rotate_left 1
          · obtain ⟨t0, t1, t2⟩ := hS
            first
              | (refine if_unwanted rfl ?_; simp only [Act.put, List.setIfInBounds_toArray, List.set_cons_zero, List.set_cons_succ]; exact hK.out)
              | (refine if_wanted rfl ?_; go_simp; exact hK.out)
          · rfl
        refine ChainG.one rfl rfl rfl (fun wS hS R hR => ?_)
        go_simp
        go_at_call 14
        refine (clPhase_any hS).mono ?_
        rintro e w7 ⟨rfl, rfl⟩
        refine hR.out _ _ rfl (fun wx => wx.cell? ⟨b, off + k, none⟩ = some (.int .i64 c) ∧ wx.cell? ⟨p2, 7, none⟩ = some (.int .i64 D2.phase) ∧ wx.cell? ⟨p2, 4, none⟩ = some sv) (fun wx => Sp w [] wx (bothR p p2 q4 D2 D2 v tv sv kv #[.string ⟨fl.toArray⟩, .string ⟨fd.toArray⟩])) hS (fun x h => HSTF.out x h) (fun _ h => h) ?_
        clear hR hS
        repeat
          refine Exists.intro _ (And.intro rfl (Or.inl (Exists.intro ?_ (And.intro (fun wS hS K hK => ?_) (And.intro ?_ ?_)))))
          rotate_left 1
          · obtain ⟨t0, t1, t2⟩ := hS
            first
              | (refine if_unwanted rfl ?_; simp only [Act.put, List.setIfInBounds_toArray, List.set_cons_zero, List.set_cons_succ]; exact hK.out)
              | (refine if_wanted rfl ?_; go_simp; exact hK.out)
          · rfl
        refine ChainG.one rfl rfl rfl (fun wS hS R hR => ?_)
        go_simp
        go_at_call 16
        refine (HST.out wS hS).mono ?_
        rintro e w7 ⟨v7, rfl, S7⟩
        refine hR.out _ _ rfl (fun wx => wx.cell? ⟨b, off + k, none⟩ = some (.int .i64 c) ∧ wx.cell? ⟨p2, 7, none⟩ = some (.int .i64 D2.phase) ∧ wx.cell? ⟨p2, 4, none⟩ = some sv) (fun wx => Sp w [] wx (intsR v7 (D2.tos.map Rc.state) :: bothR p p2 q4 D2 D2 v tv sv kv #[.string ⟨fl.toArray⟩, .string ⟨fd.toArray⟩])) S7 (fun x h => HSTF.out x h.drop) (fun _ h => h) ?_
        clear hR hS S7
        repeat
          refine Exists.intro _ (And.intro rfl (Or.inl (Exists.intro ?_ (And.intro (fun wS hS K hK => ?_) (And.intro ?_ ?_)))))
          rotate_left 1
          · obtain ⟨t0, t1, t2⟩ := hS
            first
              | (refine if_unwanted rfl ?_; simp only [Act.put, List.setIfInBounds_toArray, List.set_cons_zero, List.set_cons_succ]; exact hK.out)
              | (refine if_wanted rfl ?_; go_simp; exact hK.out)
          · rfl
        refine ChainG.one rfl rfl rfl (fun wS hS R hR => ?_)
        go_simp
        go_at_call 15
        refine (same22_any (D2.tos.map Rc.state) (D2.tos.map Rc.state) (HSTG.out _ _ hS).1 (HSTG.out _ _ hS).2 HSN.out).mono ?_
        rw [decide_eq_true rfl]
        rintro e w7 ⟨rfl, q7, rfl⟩
        refine hR.out _ _ rfl (fun wx => wx.cell? ⟨b, off + k, none⟩ = some (.int .i64 c) ∧ wx.cell? ⟨p2, 7, none⟩ = some (.int .i64 D2.phase) ∧ wx.cell? ⟨p2, 4, none⟩ = some sv) (fun wx => Sp w [] wx (intsR v7 (D2.tos.map Rc.state) :: bothR p p2 q4 D2 D2 v tv sv kv #[.string ⟨fl.toArray⟩, .string ⟨fd.toArray⟩])) (hS.drewN q7) (fun x h => HSTF.out x h.drop) (fun _ h => h) ?_
        clear hR hS
        repeat
          refine Exists.intro _ (And.intro rfl (Or.inl (Exists.intro ?_ (And.intro (fun wS hS K hK => ?_) (And.intro ?_ ?_)))))
          rotate_left 1
          · obtain ⟨t0, t1, t2⟩ := hS
            first
              | (refine if_unwanted rfl ?_; simp only [Act.put, List.setIfInBounds_toArray, List.set_cons_zero, List.set_cons_succ]; exact hK.out)
              | (refine if_wanted rfl ?_; go_simp; exact hK.out)
          · rfl
        refine ChainG.one rfl rfl rfl (fun wS hS R hR => ?_)
        go_simp
        go_at_call 17
        refine (clOver_any (C := D2) hS.drop).mono ?_
        rintro e w7 ⟨rfl, rfl⟩
        refine hR.out _ _ rfl (fun wx => wx.cell? ⟨b, off + k, none⟩ = some (.int .i64 c) ∧ wx.cell? ⟨p2, 7, none⟩ = some (.int .i64 D2.phase) ∧ wx.cell? ⟨p2, 4, none⟩ = some sv) (fun wx => Sp w [] wx (intsR v7 (D2.tos.map Rc.state) :: bothR p p2 q4 D2 D2 v tv sv kv #[.string ⟨fl.toArray⟩, .string ⟨fd.toArray⟩])) hS (fun x h => HSTF.out x h.drop) (fun _ h => h) ?_
        clear hR hS
        repeat
          refine Exists.intro _ (And.intro rfl (Or.inl (Exists.intro ?_ (And.intro (fun wS hS K hK => ?_) (And.intro ?_ ?_)))))
          rotate_left 1
          · obtain ⟨t0, t1, t2⟩ := hS
            first
              | (refine if_unwanted rfl ?_; simp only [Act.put, List.setIfInBounds_toArray, List.set_cons_zero, List.set_cons_succ]; exact hK.out)
              | (refine if_wanted rfl ?_; go_simp; exact hK.out)
          · rfl
        intro wE hE
        have HSE := Lib.hid hE
        clear hE
        go_wp2
        go_roundw
        case rel => exact ⟨k + 1, D2, by go_num, by omega, HOK2.out, HFT2.out, HSE.out.drop⟩
        case measure => simp [intOf]; omega
      · have hor : ((codes.length : Int) ≤ k) ∨ ((k : Int) < codes.length ∧ (60 : Int) ≤ k) := by omega
        have HS5 := Lib.hid ((Sp.pick [_, _, _, _, _, _, _] [6] (by decide) (HS.out)))
        have c5 := HS5.out.cell
        have HPL := Lib.hid (fun (w' : World) (v tv sv kv : Value) (p p2 : Nat) (S' : Sp w [] w' (bothR p p2 q4 C C v tv sv kv #[.string ⟨fl.toArray⟩, .string ⟨fd.toArray⟩])) => clPlayS (C := C) (.slice ac codes.length capc) codes HI.out.each (by have := HI.out.n; unfold maxLen at this; omega) HK.out HP0.out (fun wx h => HI.out.at_.ext h.ext) S' HE.out)
        have HPR := Lib.hid (fun (w' : World) (D : Cl) (v tv sv kv : Value) (p p2 : Nat) (S' : Sp w [] w' (bothR p p2 q4 D C v tv sv kv #[.string ⟨fl.toArray⟩, .string ⟨fd.toArray⟩])) => r22PlayS (C := C) (.slice ac codes.length capc) codes HI.out.each (by have := HI.out.n; unfold maxLen at this; omega) HK.out HFT.out (fun wx h => HI.out.at_.ext h.ext) S'.both2)
        have HPH := Lib.hid (play_phase codes C)
        have HPN : Hid ((C.play codes).1.tos.length ≤ 10) := by rw [Hid, (play_like codes C).len]; exact HK.out.n10
        clear hgo HS
        generalize C.play codes = pl at *
        obtain ⟨D2, s⟩ := pl
        dsimp only at *
        have hss : (s == s) = true := by simp
        have HST := Lib.hid (fun (w' : World) (v tv sv kv : Value) (p p2 : Nat) (S' : Sp w [] w' (bothR p p2 q4 D2 D2 v tv sv kv #[.string ⟨fl.toArray⟩, .string ⟨fd.toArray⟩])) => clStatesS (C := D2) (by have := HPN.out; omega) S')
        have HSN : Hid ((D2.tos.map Rc.state).length ≤ 1000000) := by rw [Hid, List.length_map]; have := HPN.out; omega
        have hp8 : (D2.phase == 8) = true := by rw [HPH.out]; rfl
        rcases hor with h1 | ⟨h1, h2⟩
        all_goals
          go_wp2_with fail
          refine (HN1.out _ _ HS5.out).mono ?_
          rintro e w5 ⟨pp, vv, rfl, S⟩
          have HS6 := Lib.hid S
          have c6 := ((Sp.pick [_, _, _] [2] (by decide) (S))).cell
          clear S HS5 c5
          go_wp2_with fail
          refine (HN2.out _ _ HS6.out).mono ?_
          rintro e w6 ⟨pp2, vtv, vsv, vkv, rfl, S⟩
          have HS7 : Hid (Sp w [] w6 (bothR pp pp2 q4 C C vv vtv vsv vkv #[.string ⟨fl.toArray⟩, .string ⟨fd.toArray⟩])) := Lib.hid (Sp.both1 S)
          clear S HS6 c6
          go_wp2_with fail
          refine wp_region_chainG [0, 1, 2, 3, 4, 6, 7, 5, 8, 9, 10, 11, 13, 14, 15, 16, 12, 17, 18, 19, 20, 21, 22, 23, 24] (fun c => c == 5 || c == 8 || c == 12 || c == 17 || c == 21) (T := fun wx => wx.cell? ⟨pp2, 4, none⟩ = some vsv) (S := fun wx => Sp w [] wx (bothR pp pp2 q4 C C vv vtv vsv vkv #[.string ⟨fl.toArray⟩, .string ⟨fd.toArray⟩])) (by kernel_rfl) (by kernel_rfl) HS7.out.drew (fun x h => h.both2.cell 4) ?_
          repeat
            refine Exists.intro _ (And.intro rfl (Or.inl (Exists.intro ?_ (And.intro (fun wS hS K hK => ?_) (And.intro ?_ ?_)))))
            rotate_left 1
            · have t0 := hS
              first
                | (refine if_unwanted rfl ?_; simp only [Act.put, List.setIfInBounds_toArray, List.set_cons_zero, List.set_cons_succ]; exact hK.out)
                | (refine if_wanted rfl ?_; go_simp; exact hK.out)
            · rfl
          refine ChainG.one rfl rfl rfl (fun wS hS R hR => ?_)
          go_simp
          go_at_call 18
          refine (HPL.out wS vv vtv vsv vkv pp pp2 hS).mono ?_
          rintro e w7 ⟨rfl, S7⟩
          refine hR.out _ _ rfl (fun wx => wx.cell? ⟨pp2, 4, none⟩ = some vsv) (fun wx => Sp w [] wx (bothR pp pp2 q4 D2 C vv vtv vsv vkv #[.string ⟨fl.toArray⟩, .string ⟨fd.toArray⟩])) S7 (fun x h => h.both2.cell 4) (fun _ h => h) ?_
          clear hR hS S7
          repeat
            refine Exists.intro _ (And.intro rfl (Or.inl (Exists.intro ?_ (And.intro (fun wS hS K hK => ?_) (And.intro ?_ ?_)))))
            rotate_left 1
            · have t0 := hS
              first
                | (refine if_unwanted rfl ?_; simp only [Act.put, List.setIfInBounds_toArray, List.set_cons_zero, List.set_cons_succ]; exact hK.out)
                | (refine if_wanted rfl ?_; go_simp; exact hK.out)
            · rfl
          refine ChainG.one rfl rfl rfl (fun wS hS R hR => ?_)
          go_simp
          go_at_call 19
          refine (HPR.out wS D2 vv vtv vsv vkv pp pp2 hS).mono ?_
          rintro e w7 ⟨rfl, S7⟩
          refine hR.out _ _ rfl (fun wx => wx.cell? ⟨pp2, 4, none⟩ = some vsv) (fun wx => Sp w [] wx (bothR pp pp2 q4 D2 D2 vv vtv vsv vkv #[.string ⟨fl.toArray⟩, .string ⟨fd.toArray⟩])) (Sp.both1 S7) (fun x h => h.both2.cell 4) (fun _ h => h) ?_
          clear hR hS S7
          repeat
            refine Exists.intro _ (And.intro rfl (Or.inl (Exists.intro ?_ (And.intro (fun wS hS K hK => ?_) (And.intro ?_ ?_)))))
            rotate_left 1
            · have t0 := hS
              first
                | (refine if_unwanted rfl ?_; simp only [Act.put, List.setIfInBounds_toArray, List.set_cons_zero, List.set_cons_succ]; exact hK.out)
                | (refine if_wanted rfl ?_; go_simp; exact hK.out)
            · rfl
          refine ChainG.one rfl rfl rfl (fun wS hS R hR => ?_)
          go_simp
          go_at_call 16
          refine (HST.out wS vv vtv vsv vkv pp pp2 hS).mono ?_
          rintro e w7 ⟨v7, rfl, S7⟩
          refine hR.out _ _ rfl (fun wx => wx.cell? ⟨pp2, 4, none⟩ = some vsv) (fun wx => Sp w [] wx (intsR v7 (D2.tos.map Rc.state) :: bothR pp pp2 q4 D2 D2 vv vtv vsv vkv #[.string ⟨fl.toArray⟩, .string ⟨fd.toArray⟩])) S7 (fun x h => h.drop.both2.cell 4) (fun _ h => h) ?_
          clear hR hS S7
          repeat
            refine Exists.intro _ (And.intro rfl (Or.inl (Exists.intro ?_ (And.intro (fun wS hS K hK => ?_) (And.intro ?_ ?_)))))
            rotate_left 1
            · have t0 := hS
              first
                | (refine if_unwanted rfl ?_; simp only [Act.put, List.setIfInBounds_toArray, List.set_cons_zero, List.set_cons_succ]; exact hK.out)
                | (refine if_wanted rfl ?_; go_simp; exact hK.out)
            · rfl
          refine ChainG.one rfl rfl rfl (fun wS hS R hR => ?_)
          go_simp
          go_at_call 15
          refine (same22_any (D2.tos.map Rc.state) (D2.tos.map Rc.state) (hS.ixAt) ((Sp.pick [_, _, _, _, _, _, _, _] [5] (by decide) (hS))).ixAt HSN.out).mono ?_
          rw [decide_eq_true rfl]
          rintro e w7 ⟨rfl, q7, rfl⟩
          refine hR.out _ _ rfl (fun wx => wx.cell? ⟨pp2, 4, none⟩ = some vsv) (fun wx => Sp w [] wx (intsR v7 (D2.tos.map Rc.state) :: bothR pp pp2 q4 D2 D2 vv vtv vsv vkv #[.string ⟨fl.toArray⟩, .string ⟨fd.toArray⟩])) (hS.drewN q7) (fun x h => h.drop.both2.cell 4) (fun _ h => h) ?_
          clear hR hS
          repeat
            refine Exists.intro _ (And.intro rfl (Or.inl (Exists.intro ?_ (And.intro (fun wS hS K hK => ?_) (And.intro ?_ ?_)))))
            rotate_left 1
            · have t0 := hS
              first
                | (refine if_unwanted rfl ?_; simp only [Act.put, List.setIfInBounds_toArray, List.set_cons_zero, List.set_cons_succ]; exact hK.out)
                | (refine if_wanted rfl ?_; go_simp; exact hK.out)
            · rfl
          refine ChainG.one rfl rfl rfl (fun wS hS R hR => ?_)
          go_simp
          go_at_call 17
          refine (clOver_any (C := D2) hS.drop).mono ?_
          rw [hp8]
          rintro e w7 ⟨rfl, rfl⟩
          refine hR.out _ _ rfl (fun wx => wx.cell? ⟨pp2, 4, none⟩ = some vsv) (fun wx => Sp w [] wx (intsR v7 (D2.tos.map Rc.state) :: bothR pp pp2 q4 D2 D2 vv vtv vsv vkv #[.string ⟨fl.toArray⟩, .string ⟨fd.toArray⟩])) hS (fun x h => h.drop.both2.cell 4) (fun _ h => h) ?_
          clear hR hS
          repeat
            refine Exists.intro _ (And.intro rfl (Or.inl (Exists.intro ?_ (And.intro (fun wS hS K hK => ?_) (And.intro ?_ ?_)))))
            rotate_left 1
            · have t0 := hS
              first
                | (refine if_unwanted rfl ?_; simp only [Act.put, List.setIfInBounds_toArray, List.set_cons_zero, List.set_cons_succ]; exact hK.out)
                | (refine if_wanted rfl ?_; go_simp; exact hK.out)
            · rfl
          intro wE hE
          have HSE := Lib.hid hE
          clear hE
          go_wp2
          go_ret
          exact ⟨rfl, HSE.out.ext⟩
end
end Go.Proofs.YtldlbiodllgflaaGreatDoor
