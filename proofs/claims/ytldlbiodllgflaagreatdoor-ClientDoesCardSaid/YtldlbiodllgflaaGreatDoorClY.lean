/- client: New, Play. Conditions: the lengths fit; what Go's variables hold. -/
import Derived.Test.YtldlbiodllgflaaGreatDoorClX
import Derived.Deep.DeepCutAuto
set_option linter.unusedSimpArgs false
set_option linter.unusedVariables false
set_option linter.unnecessarySimpa false
namespace Go.Proofs.YtldlbiodllgflaaGreatDoor
open Go.RowKit

section
variable {w0 w : World} {L : List Res} {F0 : List Nat} {p b : Nat} {v : Value} {C : Cl}
/-- What New hands back. -/
def OutN (w0 : World) (L : List Res) (o : Option Cl × Int) (e : Ending) (w2 : World) : Prop :=
  match o.1 with
  | some C => ∃ p v, e = .returned (.tuple #[.pointer (some ⟨p, 0, none⟩), .int .i64 o.2]) ∧ Sp w0 [] w2 (clR p C v L)
  | none => e = .returned (.tuple #[.pointer none, .int .i64 o.2]) ∧ Sp w0 [] w2 L
def rc0 (b : Mb) : Rc := ⟨b, 0, false⟩
set_option maxRecDepth 100000 in
set_option maxHeartbeats 8000000 in
theorem clNewBad (host : Bs) (fr : Mb) (tv : Value) (to_ : List Mb) (body : Bs) (hh : host.length ≤ 300) (h1 : fr.1.length ≤ 300) (h2 : fr.2.length ≤ 300) (htl : to_.length ≤ 100)
    (hbad : (domV host).2 ≠ 0 ∨ (domV host).1 ≠ host ∨ (noBoxE fr = false ∧ mbMay fr = false) ∨ to_.length = 0 ∨ 10 < to_.length)
    (E : Env w0) (T : BxAt w tv to_) (S : Sp w0 [] w L) : Calls Tryz.prog 10 #[.string ⟨host.toArray⟩, mbAgg fr, tv, .string ⟨body.toArray⟩] w fun e w2 => e = .returned (.tuple #[.pointer none, .int .i64 1]) ∧ Sp w0 [] w2 L := by
  have HE := Lib.hid E
  have HH := Lib.hid hh
  have HTL := Lib.hid htl
  have HS0 := Lib.hid (S.box (mbCells fr) 23)
  have HT := Lib.hid T
  have HMF := Lib.hid (fun w' => mailbox_any fr w')
  have HMY := Lib.hid (fun (w' : World) (L' : List Res) (S' : Sp w0 [] w' L') => mayS fr S' E (by omega) (by omega))
  obtain ⟨a, cap, rfl⟩ := T.form
  have htl' : (to_.length : Int) ≤ 100 := by omega
  unfold mbAgg at HMF HMY ⊢
  unfold mbCells at HS0
  obtain ⟨fl, fd⟩ := fr
  dsimp only at *
  clear S E T hh h1 h2 htl
  by_cases hde : (domV host).2 = 0
  rotate_left 1
  · have HDV : Hid (domV host = ((domV host).1, (domV host).2)) := rfl
    generalize (domV host).1 = dh at *
    generalize (domV host).2 = de at *
    have b0 : (de != 0) = true := by simpa using hde
    clear hde hbad
    go_enter Tryz.func10, Tryz.ntmps10
    go_wp2_with fail
    refine (domainS host HS0.out HE.out (by have := HH.out; omega)).mono ?_
    generalize w.alloc (.cells #[.string ⟨_⟩, .string ⟨_⟩] 23) = w1 at *
    generalize w.heap.size = q5 at *
    rw [HDV.out]
    rintro e w2 ⟨rfl, S⟩
    have HS2 := Lib.hid S
    have c2 := S.cell
    clear S HS0
    go_wp2
    go_ret2
    refine ⟨rfl, ?_⟩
    exact HS2.out.drop
  by_cases hdh : (domV host).1 = host
  rotate_left 1
  · have HDV : Hid (domV host = ((domV host).1, 0)) := by unfold Hid; rw [← hde]
    generalize (domV host).1 = dh at *
    have b0 : (dh != host) = true := by simpa using hdh
    clear hde hbad
    go_enter Tryz.func10, Tryz.ntmps10
    go_wp2_with fail
    refine (domainS host HS0.out HE.out (by have := HH.out; omega)).mono ?_
    generalize w.alloc (.cells #[.string ⟨_⟩, .string ⟨_⟩] 23) = w1 at *
    generalize w.heap.size = q5 at *
    rw [HDV.out]
    rintro e w2 ⟨rfl, S⟩
    have HS2 := Lib.hid S
    have c2 := S.cell
    clear S HS0
    go_wp2
    go_ret2
    refine ⟨rfl, ?_⟩
    exact HS2.out.drop
  have HDV : Hid (domV host = (host, 0)) := Prod.ext hdh hde
  have b0 : (host != host) = false := by simp
  have hbad2 : (noBoxE (fl, fd) = false ∧ mbMay (fl, fd) = false) ∨ to_.length = 0 ∨ 10 < to_.length := by
    rcases hbad with h | h | h
    · exact absurd hde h
    · exact absurd hdh h
    · exact h
  clear hbad hde hdh
  by_cases hbx : fl = [] ∧ fd = []
  · obtain ⟨rfl, rfl⟩ := hbx
    have hlen : to_.length = 0 ∨ 10 < to_.length := by
      rcases hbad2 with h | h
      · exact absurd h.1 (by decide)
      · exact h
    clear hbad2
    rcases hlen with h | h
    · obtain rfl := List.eq_nil_of_length_eq_zero h
      go_enter Tryz.func10, Tryz.ntmps10
      go_wp2_with fail
      refine (domainS host HS0.out HE.out (by have := HH.out; omega)).mono ?_
      generalize w.alloc (.cells #[.string ⟨_⟩, .string ⟨_⟩] 23) = w1 at *
      generalize w.heap.size = q5 at *
      rw [HDV.out]
      rintro e w2 ⟨rfl, S⟩
      have HS2 := Lib.hid S
      have c2 := S.cell
      clear S HS0
      go_wp2
      go_ret2
      refine ⟨rfl, ?_⟩
      exact HS2.out.drop
    · have hl1 : ((to_.length : Int) == 0) = false := by rw [beq_eq_false_iff_ne]; omega
      have hl2 : (10 : Int) < to_.length := by omega
      clear h
      go_enter Tryz.func10, Tryz.ntmps10
      go_wp2_with fail
      refine (domainS host HS0.out HE.out (by have := HH.out; omega)).mono ?_
      generalize w.alloc (.cells #[.string ⟨_⟩, .string ⟨_⟩] 23) = w1 at *
      generalize w.heap.size = q5 at *
      rw [HDV.out]
      rintro e w2 ⟨rfl, S⟩
      have HS2 := Lib.hid S
      have c2 := S.cell
      clear S HS0
      go_wp2
      go_ret2
      refine ⟨rfl, ?_⟩
      exact HS2.out.drop
  have hnb : noBoxE (fl, fd) = false := by
    unfold noBoxE
    rw [← Bool.not_eq_true]
    simpa using fun h => fun k => hbx ⟨h, k⟩
  have hor : (¬ fl = []) ∨ (fl = [] ∧ ¬ fd = []) := by
    by_cases h : fl = []
    · exact .inr ⟨h, fun hd => hbx ⟨h, hd⟩⟩
    · exact .inl h
  cases hmm : mbMay (fl, fd) with
  | false =>
    have HMM := Lib.hid hmm
    clear hmm hnb hbx hbad2
    rcases hor with h | ⟨rfl, h⟩
    all_goals
      go_enter Tryz.func10, Tryz.ntmps10
      go_wp2_with fail
      refine (domainS host HS0.out HE.out (by have := HH.out; omega)).mono ?_
      generalize w.alloc (.cells #[.string ⟨_⟩, .string ⟨_⟩] 23) = w1 at *
      generalize w.heap.size = q5 at *
      rw [HDV.out]
      rintro e w2 ⟨rfl, S⟩
      have HS2 := Lib.hid S
      have c2 := S.cell
      clear S HS0
      go_wp2_with fail
      refine (HMF.out _).mono ?_
      rintro e w3 ⟨rfl, hx⟩
      have HS3 := Lib.hid (HS2.out.ext0 hx)
      clear hx
      go_wp2_with fail
      refine (HMY.out _ _ HS3.out).mono ?_
      rw [HMM.out]
      rintro e w4 ⟨rfl, S⟩
      have HS4 := Lib.hid S
      clear S
      go_wp2
      go_ret2
      refine ⟨rfl, ?_⟩
      exact HS4.out.drop
  | true =>
    have HMM := Lib.hid hmm
    have hlen : to_.length = 0 ∨ 10 < to_.length := by
      rcases hbad2 with h | h
      · rw [hmm] at h; cases h.2
      · exact h
    clear hmm hnb hbx hbad2
    rcases hlen with hl | hl
    · obtain rfl := List.eq_nil_of_length_eq_zero hl
      rcases hor with h | ⟨rfl, h⟩
      all_goals
        go_enter Tryz.func10, Tryz.ntmps10
        go_wp2_with fail
        refine (domainS host HS0.out HE.out (by have := HH.out; omega)).mono ?_
        generalize w.alloc (.cells #[.string ⟨_⟩, .string ⟨_⟩] 23) = w1 at *
        generalize w.heap.size = q5 at *
        rw [HDV.out]
        rintro e w2 ⟨rfl, S⟩
        have HS2 := Lib.hid S
        have c2 := S.cell
        clear S HS0
        go_wp2_with fail
        refine (HMF.out _).mono ?_
        rintro e w3 ⟨rfl, hx⟩
        have HS3 := Lib.hid (HS2.out.ext0 hx)
        clear hx
        go_wp2_with fail
        refine (HMY.out _ _ HS3.out).mono ?_
        rw [HMM.out]
        rintro e w4 ⟨rfl, S⟩
        have HS4 := Lib.hid S
        clear S
        go_wp2
        go_ret2
        refine ⟨rfl, ?_⟩
        exact HS4.out.drop
    · have hl1 : ((to_.length : Int) == 0) = false := by rw [beq_eq_false_iff_ne]; omega
      have hl2 : (10 : Int) < to_.length := by omega
      clear hl
      rcases hor with h | ⟨rfl, h⟩
      all_goals
        go_enter Tryz.func10, Tryz.ntmps10
        go_wp2_with fail
        refine (domainS host HS0.out HE.out (by have := HH.out; omega)).mono ?_
        generalize w.alloc (.cells #[.string ⟨_⟩, .string ⟨_⟩] 23) = w1 at *
        generalize w.heap.size = q5 at *
        rw [HDV.out]
        rintro e w2 ⟨rfl, S⟩
        have HS2 := Lib.hid S
        have c2 := S.cell
        clear S HS0
        go_wp2_with fail
        refine (HMF.out _).mono ?_
        rintro e w3 ⟨rfl, hx⟩
        have HS3 := Lib.hid (HS2.out.ext0 hx)
        clear hx
        go_wp2_with fail
        refine (HMY.out _ _ HS3.out).mono ?_
        rw [HMM.out]
        rintro e w4 ⟨rfl, S⟩
        have HS4 := Lib.hid S
        clear S
        go_wp2
        go_ret2
        refine ⟨rfl, ?_⟩
        exact HS4.out.drop
set_option maxRecDepth 100000 in
set_option maxHeartbeats 8000000 in
theorem clNew_good (host : Bs) (fr : Mb) (tv : Value) (to_ : List Mb) (body : Bs) (hh : host.length ≤ 300) (h1 : fr.1.length ≤ 300) (h2 : fr.2.length ≤ 300) (hb : body.length ≤ 4096) (ht : ∀ b ∈ to_, b.1.length ≤ 300 ∧ b.2.length ≤ 300)
    (hdv : domV host = (host, 0)) (hfr : fr = ([], []) ∨ mbMay fr = true) (hn1 : 1 ≤ to_.length) (hn2 : to_.length ≤ 10)
    (E : Env w) (T : BxAt w tv to_) : Calls Tryz.prog 10 #[.string ⟨host.toArray⟩, mbAgg fr, tv, .string ⟨body.toArray⟩] w (OutN w [] (clNew host fr to_ body)) := by
  have HD : Hid (clNew host fr to_ body = if to_.all mbMay = false then (none, 1) else if bodyOk body = false then (none, 2) else (some ⟨host, fr, to_.map rc0, body, 0, 0⟩, 0)) := by
    unfold Hid clNew
    rw [if_neg]
    · rfl
    · rw [hdv]
      rintro (h | h | h | h | h)
      · exact h rfl
      · exact h rfl
      · rcases hfr with rfl | hm
        · exact absurd h.1 (by decide)
        · rw [hm] at h; cases h.2
      · omega
      · omega
  have HE := Lib.hid E
  have HH := Lib.hid hh
  have HB := Lib.hid hb
  have HTB := Lib.hid ht
  have HDV := Lib.hid hdv
  have HS0 := Lib.hid ((Sp.nil w []).box (mbCells fr) 23)
  have HT := Lib.hid T
  have HMF := Lib.hid (fun w' => mailbox_any fr w')
  have HMY := Lib.hid (fun (w' : World) (L' : List Res) (S' : Sp w [] w' L') => mayS fr S' E (by omega) (by omega))
  obtain ⟨a, cap, rfl⟩ := T.form
  have hl1 : ((to_.length : Int) == 0) = false := by rw [beq_eq_false_iff_ne]; omega
  have hl2 : (to_.length : Int) ≤ 10 := by omega
  have hb0 : (host != host) = false := by simp
  unfold mbAgg at HMF HMY ⊢
  unfold mbCells at HS0
  obtain ⟨fl, fd⟩ := fr
  dsimp only at *
  clear E T hh h1 h2 hb ht hdv hn1 hn2
  by_cases hbx : fl = [] ∧ fd = []
  · obtain ⟨rfl, rfl⟩ := hbx
    clear hfr
    go_enter Tryz.func10, Tryz.ntmps10
    go_wp2_with fail
    refine (domainS host HS0.out HE.out (by have := HH.out; omega)).mono ?_
    generalize w.alloc (.cells #[.string ⟨_⟩, .string ⟨_⟩] 23) = w1 at *
    generalize w.heap.size = q5 at *
    rw [HDV.out]
    rintro e w2 ⟨rfl, S⟩
    have HS2 := Lib.hid S
    have c2 := S.cell
    clear S HS0
    have HSX := Lib.hid HS2.out
    go_wp2_with fail
    refine (HMF.out _).mono ?_
    rintro e w5 ⟨rfl, hx⟩
    have HS6 := Lib.hid (((HSX.out.ext0 hx).box (clCells ⟨host, ([], []), [], body, 0, 0⟩ (.slice none 0 0)) 69).rowNil 71 4).pull1
    clear hx c2
    unfold clCells at HS6
    dsimp only at HS6
    go_wp2_with fail
    generalize w5.alloc (.cells #[.string ⟨_⟩, .string ⟨_⟩, .string ⟨_⟩, .slice none 0 0, .string ⟨_⟩, .int .i64 0, .int .i64 0] 69) = w6 at *
    generalize w5.heap.size = q at *
    go_loopw [56] (fun i wr => ∃ (k : Nat) (v : Value), i = .int .i64 k ∧ k ≤ to_.length ∧ (to_.take k).all mbMay = true ∧ Sp w [] wr (clR q ⟨host, ([], []), (to_.take k).map rc0, body, 0, 0⟩ v (boxR q5 #[.string ⟨#[]⟩, .string ⟨#[]⟩] 23 :: []))) (fun i _ => to_.length - (intOf i).toNat)
    case atStart => exact ⟨0, _, rfl, Nat.zero_le _, rfl, HS6.out⟩
    case round =>
      clear HS6 HSX
      obtain ⟨k, v, rfl, hk, hall, S⟩ := hrel
      have HS := Lib.hid S
      have HALL := Lib.hid hall
      have HT1 := Lib.hid (HT.out.ext S.ext)
      clear S hall
      by_cases hlt : k < to_.length
      · have hlt' : (k : Int) < to_.length := by omega
        obtain ⟨b, off, rfl, k0, k1⟩ := HT1.out.at hlt
        have HBL := Lib.hid (HTB.out _ (List.getElem_mem hlt))
        have HST : Hid (to_.take (k + 1) = to_.take k ++ [to_[k]]) := List.take_succ_eq_append_getElem hlt
        have HNO : Hid (mbMay to_[k] = false → to_.all mbMay = false) := fun h => by
          rw [← Bool.not_eq_true, List.all_eq_true]
          intro h2
          have := h2 to_[k] (List.getElem_mem hlt)
          rw [h] at this
          cases this
        have HLN : Hid (((to_.take k).map rc0).length = k) := by unfold Hid; rw [List.length_map, List.length_take]; omega
        have HMB := Lib.hid (fun w' => mailbox_any to_[k] w')
        have HMM := Lib.hid (fun (w' : World) (L' : List Res) (S' : Sp w [] w' L') => mayS to_[k] S' HE.out (by have := HBL.out; omega) (by have := HBL.out; omega))
        unfold mbAgg at HMB HMM
        generalize to_[k] = m at *
        generalize hrs : (to_.take k).map rc0 = rs at *
        have HRS := Lib.hid hrs
        clear hrs
        obtain ⟨bl, bd⟩ := m
        dsimp only at *
        have HSB := Lib.hid (HS.out.box #[.string ⟨bl.toArray⟩, .string ⟨bd.toArray⟩] 23)
        go_wp2_with fail
        refine (HMB.out _).mono ?_
        rintro e w7 ⟨rfl, hx⟩
        generalize wr.heap.size = q14 at *
        have HS7 := Lib.hid (HSB.out.ext0 hx)
        clear hx k0 k1 HSB
        go_wp2_with fail
        refine (HMM.out _ _ HS7.out).mono ?_
        cases hm : mbMay (bl, bd) with
        | false =>
          have HN := Lib.hid (HNO.out hm)
          have HV : Hid (clNew host ([], []) to_ body = (none, 1)) := by unfold Hid; rw [HD.out, if_pos HN.out]
          rintro e w8 ⟨rfl, S⟩
          have HS8 := Lib.hid S
          clear S hm
          go_wp2
          go_ret2
          rw [HV.out]
          exact ⟨rfl, HS8.out.drop.drop.drop.drop⟩
        | true =>
          have HM := Lib.hid hm
          rintro e w8 ⟨rfl, S⟩
          have HS8 := Lib.hid S
          have c8 := S.cell
          have d8 := S.pull1.cell
          clear S hm HS7
          unfold clCells at d8
          dsimp only at d8
          go_wp2_with fail
          go_region_law (first
            | (refine if_wanted rfl ?_; go_simp; go_at_call 29; refine (HMB.out _).mono ?_; rintro e w9 ⟨rfl, hx⟩; have HS9 := Lib.hid (HS8.out.drew.ext0 hx); have d9 := HS9.out.pull1.cell; have f9 := HS9.out.pull1.free; obtain ⟨gg, cap2, w10, hrun, S10⟩ := Sp.appendRec 67 (rc0 (bl, bd)) (by have := HLN.out; show rs.length < _; omega) ((Sp.pick [_, _, _, _] [0, 3, 1, 2] (by decide) (HS9.out.box #[.string ⟨bl.toArray⟩, .string ⟨bd.toArray⟩, .int .i64 0, .bool false] 71))); rw [HLN.out] at hrun S10; have HRUN := Lib.hid hrun; have HS10 := Lib.hid S10; have e9 := (HS9.out.box #[.string ⟨bl.toArray⟩, .string ⟨bd.toArray⟩, .int .i64 0, .bool false] 71).pull2.cell; have d10 := ((Sp.pick [_, _, _] [2, 0, 1] (by decide) (S10))).cell; have f10 := ((Sp.pick [_, _, _] [2, 0, 1] (by decide) (S10))).free; clear hrun S10 hx; unfold clCells at d9 e9 d10; dsimp only at d9 e9 d10)
            | (refine step_append_run (by rfl) (by rfl) (by rfl) (by rfl) HRUN.out ?_))
          all_goals
            go_wp2_with fail
            go_roundw
            case rel => exact ⟨k + 1, .slice (some ⟨gg, 0, none⟩) (k + 1) cap2, by go_num, by omega, by rw [HST.out, List.all_append, HALL.out]; simp [HM.out], by
              have h1 : (to_.take (k + 1)).map rc0 = rs ++ [rc0 (bl, bd)] := by rw [HST.out, List.map_append, HRS.out]; rfl
              rw [h1]
              have h2 := (((Sp.pick [_, _, _] [2, 0, 1] (by decide) (HS10.out))).set (o := 3) (.slice (some ⟨gg, 0, none⟩) (k + 1) cap2)).pull2.drop
              exact h2⟩
            case measure => simp [intOf]; omega
      · obtain rfl : k = to_.length := by omega
        have HAM : Hid (to_.all mbMay = true) := by
          have := HALL.out
          rw [List.take_of_length_le (Nat.le_refl _)] at this
          exact this
        rw [List.take_of_length_le (Nat.le_refl _)] at HS
        have HV : Hid (clNew host ([], []) to_ body = if bodyOk body = false then (none, 2) else (some ⟨host, ([], []), to_.map rc0, body, 0, 0⟩, 0)) := by unfold Hid; rw [HD.out, if_neg (by rw [HAM.out]; decide)]
        go_wp2_with fail
        refine (rightS body (by have := HB.out; omega) HS.out HE.out).mono ?_
        cases hbo : bodyOk body with
        | true =>
          have HV2 : Hid (clNew host ([], []) to_ body = (some ⟨host, ([], []), to_.map rc0, body, 0, 0⟩, 0)) := by unfold Hid; rw [HV.out, if_neg (by rw [hbo]; decide)]
          rintro e w8 ⟨rfl, S⟩
          have HS8 := Lib.hid S
          clear S hbo HS
          go_wp2
          go_ret2
          rw [HV2.out]
          exact ⟨q, v, rfl, (Sp.pick [_, _, _] [0, 1] (by decide) (HS8.out))⟩
        | false =>
          have HV2 : Hid (clNew host ([], []) to_ body = (none, 2)) := by unfold Hid; rw [HV.out, if_pos hbo]
          rintro e w8 ⟨rfl, S⟩
          have HS8 := Lib.hid S
          clear S hbo HS
          go_wp2
          go_ret2
          rw [HV2.out]
          exact ⟨rfl, HS8.out.drop.drop.drop⟩
  have hor : (¬ fl = []) ∨ (fl = [] ∧ ¬ fd = []) := by
    by_cases h : fl = []
    · exact .inr ⟨h, fun hd => hbx ⟨h, hd⟩⟩
    · exact .inl h
  have HMM0 : Hid (mbMay (fl, fd) = true) := by
    rcases hfr with h | h
    · exact absurd (by simpa using h) hbx
    · exact h
  clear hfr hbx
  rcases hor with h | ⟨rfl, h⟩
  · skip
    go_enter Tryz.func10, Tryz.ntmps10
    go_wp2_with fail
    refine (domainS host HS0.out HE.out (by have := HH.out; omega)).mono ?_
    generalize w.alloc (.cells #[.string ⟨_⟩, .string ⟨_⟩] 23) = w1 at *
    generalize w.heap.size = q5 at *
    rw [HDV.out]
    rintro e w2 ⟨rfl, S⟩
    have HS2 := Lib.hid S
    have c2 := S.cell
    clear S HS0
    go_wp2_with fail
    refine (HMF.out _).mono ?_
    rintro e w3 ⟨rfl, hx⟩
    have HS3 := Lib.hid (HS2.out.ext0 hx)
    clear hx
    go_wp2_with fail
    refine (HMY.out _ _ HS3.out).mono ?_
    rw [HMM0.out]
    rintro e w4 ⟨rfl, S⟩
    have HSX := Lib.hid S
    have c3 := S.cell
    clear S h
    go_wp2_with fail
    refine (HMF.out _).mono ?_
    rintro e w5 ⟨rfl, hx⟩
    have HS6 := Lib.hid (((HSX.out.ext0 hx).box (clCells ⟨host, (fl, fd), [], body, 0, 0⟩ (.slice none 0 0)) 69).rowNil 71 4).pull1
    clear hx c2
    unfold clCells at HS6
    dsimp only at HS6
    go_wp2_with fail
    generalize w5.alloc (.cells #[.string ⟨_⟩, .string ⟨_⟩, .string ⟨_⟩, .slice none 0 0, .string ⟨_⟩, .int .i64 0, .int .i64 0] 69) = w6 at *
    generalize w5.heap.size = q at *
    go_loopw [56] (fun i wr => ∃ (k : Nat) (v : Value), i = .int .i64 k ∧ k ≤ to_.length ∧ (to_.take k).all mbMay = true ∧ Sp w [] wr (clR q ⟨host, (fl, fd), (to_.take k).map rc0, body, 0, 0⟩ v (boxR q5 #[.string ⟨fl.toArray⟩, .string ⟨fd.toArray⟩] 23 :: []))) (fun i _ => to_.length - (intOf i).toNat)
    case atStart => exact ⟨0, _, rfl, Nat.zero_le _, rfl, HS6.out⟩
    case round =>
      clear HS6 HSX
      obtain ⟨k, v, rfl, hk, hall, S⟩ := hrel
      have HS := Lib.hid S
      have HALL := Lib.hid hall
      have HT1 := Lib.hid (HT.out.ext S.ext)
      clear S hall
      by_cases hlt : k < to_.length
      · have hlt' : (k : Int) < to_.length := by omega
        obtain ⟨b, off, rfl, k0, k1⟩ := HT1.out.at hlt
        have HBL := Lib.hid (HTB.out _ (List.getElem_mem hlt))
        have HST : Hid (to_.take (k + 1) = to_.take k ++ [to_[k]]) := List.take_succ_eq_append_getElem hlt
        have HNO : Hid (mbMay to_[k] = false → to_.all mbMay = false) := fun h => by
          rw [← Bool.not_eq_true, List.all_eq_true]
          intro h2
          have := h2 to_[k] (List.getElem_mem hlt)
          rw [h] at this
          cases this
        have HLN : Hid (((to_.take k).map rc0).length = k) := by unfold Hid; rw [List.length_map, List.length_take]; omega
        have HMB := Lib.hid (fun w' => mailbox_any to_[k] w')
        have HMM := Lib.hid (fun (w' : World) (L' : List Res) (S' : Sp w [] w' L') => mayS to_[k] S' HE.out (by have := HBL.out; omega) (by have := HBL.out; omega))
        unfold mbAgg at HMB HMM
        generalize to_[k] = m at *
        generalize hrs : (to_.take k).map rc0 = rs at *
        have HRS := Lib.hid hrs
        clear hrs
        obtain ⟨bl, bd⟩ := m
        dsimp only at *
        have HSB := Lib.hid (HS.out.box #[.string ⟨bl.toArray⟩, .string ⟨bd.toArray⟩] 23)
        go_wp2_with fail
        refine (HMB.out _).mono ?_
        rintro e w7 ⟨rfl, hx⟩
        generalize wr.heap.size = q14 at *
        have HS7 := Lib.hid (HSB.out.ext0 hx)
        clear hx k0 k1 HSB
        go_wp2_with fail
        refine (HMM.out _ _ HS7.out).mono ?_
        cases hm : mbMay (bl, bd) with
        | false =>
          have HN := Lib.hid (HNO.out hm)
          have HV : Hid (clNew host (fl, fd) to_ body = (none, 1)) := by unfold Hid; rw [HD.out, if_pos HN.out]
          rintro e w8 ⟨rfl, S⟩
          have HS8 := Lib.hid S
          clear S hm
          go_wp2
          go_ret2
          rw [HV.out]
          exact ⟨rfl, HS8.out.drop.drop.drop.drop⟩
        | true =>
          have HM := Lib.hid hm
          rintro e w8 ⟨rfl, S⟩
          have HS8 := Lib.hid S
          have c8 := S.cell
          have d8 := S.pull1.cell
          clear S hm HS7
          unfold clCells at d8
          dsimp only at d8
          go_wp2_with fail
          go_region_law (first
            | (refine if_wanted rfl ?_; go_simp; go_at_call 29; refine (HMB.out _).mono ?_; rintro e w9 ⟨rfl, hx⟩; have HS9 := Lib.hid (HS8.out.drew.ext0 hx); have d9 := HS9.out.pull1.cell; have f9 := HS9.out.pull1.free; obtain ⟨gg, cap2, w10, hrun, S10⟩ := Sp.appendRec 67 (rc0 (bl, bd)) (by have := HLN.out; show rs.length < _; omega) ((Sp.pick [_, _, _, _] [0, 3, 1, 2] (by decide) (HS9.out.box #[.string ⟨bl.toArray⟩, .string ⟨bd.toArray⟩, .int .i64 0, .bool false] 71))); rw [HLN.out] at hrun S10; have HRUN := Lib.hid hrun; have HS10 := Lib.hid S10; have e9 := (HS9.out.box #[.string ⟨bl.toArray⟩, .string ⟨bd.toArray⟩, .int .i64 0, .bool false] 71).pull2.cell; have d10 := ((Sp.pick [_, _, _] [2, 0, 1] (by decide) (S10))).cell; have f10 := ((Sp.pick [_, _, _] [2, 0, 1] (by decide) (S10))).free; clear hrun S10 hx; unfold clCells at d9 e9 d10; dsimp only at d9 e9 d10)
            | (refine step_append_run (by rfl) (by rfl) (by rfl) (by rfl) HRUN.out ?_))
          all_goals
            go_wp2_with fail
            go_roundw
            case rel => exact ⟨k + 1, .slice (some ⟨gg, 0, none⟩) (k + 1) cap2, by go_num, by omega, by rw [HST.out, List.all_append, HALL.out]; simp [HM.out], by
              have h1 : (to_.take (k + 1)).map rc0 = rs ++ [rc0 (bl, bd)] := by rw [HST.out, List.map_append, HRS.out]; rfl
              rw [h1]
              have h2 := (((Sp.pick [_, _, _] [2, 0, 1] (by decide) (HS10.out))).set (o := 3) (.slice (some ⟨gg, 0, none⟩) (k + 1) cap2)).pull2.drop
              exact h2⟩
            case measure => simp [intOf]; omega
      · obtain rfl : k = to_.length := by omega
        have HAM : Hid (to_.all mbMay = true) := by
          have := HALL.out
          rw [List.take_of_length_le (Nat.le_refl _)] at this
          exact this
        rw [List.take_of_length_le (Nat.le_refl _)] at HS
        have HV : Hid (clNew host (fl, fd) to_ body = if bodyOk body = false then (none, 2) else (some ⟨host, (fl, fd), to_.map rc0, body, 0, 0⟩, 0)) := by unfold Hid; rw [HD.out, if_neg (by rw [HAM.out]; decide)]
        go_wp2_with fail
        refine (rightS body (by have := HB.out; omega) HS.out HE.out).mono ?_
        cases hbo : bodyOk body with
        | true =>
          have HV2 : Hid (clNew host (fl, fd) to_ body = (some ⟨host, (fl, fd), to_.map rc0, body, 0, 0⟩, 0)) := by unfold Hid; rw [HV.out, if_neg (by rw [hbo]; decide)]
          rintro e w8 ⟨rfl, S⟩
          have HS8 := Lib.hid S
          clear S hbo HS
          go_wp2
          go_ret2
          rw [HV2.out]
          exact ⟨q, v, rfl, (Sp.pick [_, _, _] [0, 1] (by decide) (HS8.out))⟩
        | false =>
          have HV2 : Hid (clNew host (fl, fd) to_ body = (none, 2)) := by unfold Hid; rw [HV.out, if_pos hbo]
          rintro e w8 ⟨rfl, S⟩
          have HS8 := Lib.hid S
          clear S hbo HS
          go_wp2
          go_ret2
          rw [HV2.out]
          exact ⟨rfl, HS8.out.drop.drop.drop⟩
  · skip
    go_enter Tryz.func10, Tryz.ntmps10
    go_wp2_with fail
    refine (domainS host HS0.out HE.out (by have := HH.out; omega)).mono ?_
    generalize w.alloc (.cells #[.string ⟨_⟩, .string ⟨_⟩] 23) = w1 at *
    generalize w.heap.size = q5 at *
    rw [HDV.out]
    rintro e w2 ⟨rfl, S⟩
    have HS2 := Lib.hid S
    have c2 := S.cell
    clear S HS0
    go_wp2_with fail
    refine (HMF.out _).mono ?_
    rintro e w3 ⟨rfl, hx⟩
    have HS3 := Lib.hid (HS2.out.ext0 hx)
    clear hx
    go_wp2_with fail
    refine (HMY.out _ _ HS3.out).mono ?_
    rw [HMM0.out]
    rintro e w4 ⟨rfl, S⟩
    have HSX := Lib.hid S
    have c3 := S.cell
    clear S h
    go_wp2_with fail
    refine (HMF.out _).mono ?_
    rintro e w5 ⟨rfl, hx⟩
    have HS6 := Lib.hid (((HSX.out.ext0 hx).box (clCells ⟨host, ([], fd), [], body, 0, 0⟩ (.slice none 0 0)) 69).rowNil 71 4).pull1
    clear hx c2
    unfold clCells at HS6
    dsimp only at HS6
    go_wp2_with fail
    generalize w5.alloc (.cells #[.string ⟨_⟩, .string ⟨_⟩, .string ⟨_⟩, .slice none 0 0, .string ⟨_⟩, .int .i64 0, .int .i64 0] 69) = w6 at *
    generalize w5.heap.size = q at *
    go_loopw [56] (fun i wr => ∃ (k : Nat) (v : Value), i = .int .i64 k ∧ k ≤ to_.length ∧ (to_.take k).all mbMay = true ∧ Sp w [] wr (clR q ⟨host, ([], fd), (to_.take k).map rc0, body, 0, 0⟩ v (boxR q5 #[.string ⟨#[]⟩, .string ⟨fd.toArray⟩] 23 :: []))) (fun i _ => to_.length - (intOf i).toNat)
    case atStart => exact ⟨0, _, rfl, Nat.zero_le _, rfl, HS6.out⟩
    case round =>
      clear HS6 HSX
      obtain ⟨k, v, rfl, hk, hall, S⟩ := hrel
      have HS := Lib.hid S
      have HALL := Lib.hid hall
      have HT1 := Lib.hid (HT.out.ext S.ext)
      clear S hall
      by_cases hlt : k < to_.length
      · have hlt' : (k : Int) < to_.length := by omega
        obtain ⟨b, off, rfl, k0, k1⟩ := HT1.out.at hlt
        have HBL := Lib.hid (HTB.out _ (List.getElem_mem hlt))
        have HST : Hid (to_.take (k + 1) = to_.take k ++ [to_[k]]) := List.take_succ_eq_append_getElem hlt
        have HNO : Hid (mbMay to_[k] = false → to_.all mbMay = false) := fun h => by
          rw [← Bool.not_eq_true, List.all_eq_true]
          intro h2
          have := h2 to_[k] (List.getElem_mem hlt)
          rw [h] at this
          cases this
        have HLN : Hid (((to_.take k).map rc0).length = k) := by unfold Hid; rw [List.length_map, List.length_take]; omega
        have HMB := Lib.hid (fun w' => mailbox_any to_[k] w')
        have HMM := Lib.hid (fun (w' : World) (L' : List Res) (S' : Sp w [] w' L') => mayS to_[k] S' HE.out (by have := HBL.out; omega) (by have := HBL.out; omega))
        unfold mbAgg at HMB HMM
        generalize to_[k] = m at *
        generalize hrs : (to_.take k).map rc0 = rs at *
        have HRS := Lib.hid hrs
        clear hrs
        obtain ⟨bl, bd⟩ := m
        dsimp only at *
        have HSB := Lib.hid (HS.out.box #[.string ⟨bl.toArray⟩, .string ⟨bd.toArray⟩] 23)
        go_wp2_with fail
        refine (HMB.out _).mono ?_
        rintro e w7 ⟨rfl, hx⟩
        generalize wr.heap.size = q14 at *
        have HS7 := Lib.hid (HSB.out.ext0 hx)
        clear hx k0 k1 HSB
        go_wp2_with fail
        refine (HMM.out _ _ HS7.out).mono ?_
        cases hm : mbMay (bl, bd) with
        | false =>
          have HN := Lib.hid (HNO.out hm)
          have HV : Hid (clNew host ([], fd) to_ body = (none, 1)) := by unfold Hid; rw [HD.out, if_pos HN.out]
          rintro e w8 ⟨rfl, S⟩
          have HS8 := Lib.hid S
          clear S hm
          go_wp2
          go_ret2
          rw [HV.out]
          exact ⟨rfl, HS8.out.drop.drop.drop.drop⟩
        | true =>
          have HM := Lib.hid hm
          rintro e w8 ⟨rfl, S⟩
          have HS8 := Lib.hid S
          have c8 := S.cell
          have d8 := S.pull1.cell
          clear S hm HS7
          unfold clCells at d8
          dsimp only at d8
          go_wp2_with fail
          go_region_law (first
            | (refine if_wanted rfl ?_; go_simp; go_at_call 29; refine (HMB.out _).mono ?_; rintro e w9 ⟨rfl, hx⟩; have HS9 := Lib.hid (HS8.out.drew.ext0 hx); have d9 := HS9.out.pull1.cell; have f9 := HS9.out.pull1.free; obtain ⟨gg, cap2, w10, hrun, S10⟩ := Sp.appendRec 67 (rc0 (bl, bd)) (by have := HLN.out; show rs.length < _; omega) ((Sp.pick [_, _, _, _] [0, 3, 1, 2] (by decide) (HS9.out.box #[.string ⟨bl.toArray⟩, .string ⟨bd.toArray⟩, .int .i64 0, .bool false] 71))); rw [HLN.out] at hrun S10; have HRUN := Lib.hid hrun; have HS10 := Lib.hid S10; have e9 := (HS9.out.box #[.string ⟨bl.toArray⟩, .string ⟨bd.toArray⟩, .int .i64 0, .bool false] 71).pull2.cell; have d10 := ((Sp.pick [_, _, _] [2, 0, 1] (by decide) (S10))).cell; have f10 := ((Sp.pick [_, _, _] [2, 0, 1] (by decide) (S10))).free; clear hrun S10 hx; unfold clCells at d9 e9 d10; dsimp only at d9 e9 d10)
            | (refine step_append_run (by rfl) (by rfl) (by rfl) (by rfl) HRUN.out ?_))
          all_goals
            go_wp2_with fail
            go_roundw
            case rel => exact ⟨k + 1, .slice (some ⟨gg, 0, none⟩) (k + 1) cap2, by go_num, by omega, by rw [HST.out, List.all_append, HALL.out]; simp [HM.out], by
              have h1 : (to_.take (k + 1)).map rc0 = rs ++ [rc0 (bl, bd)] := by rw [HST.out, List.map_append, HRS.out]; rfl
              rw [h1]
              have h2 := (((Sp.pick [_, _, _] [2, 0, 1] (by decide) (HS10.out))).set (o := 3) (.slice (some ⟨gg, 0, none⟩) (k + 1) cap2)).pull2.drop
              exact h2⟩
            case measure => simp [intOf]; omega
      · obtain rfl : k = to_.length := by omega
        have HAM : Hid (to_.all mbMay = true) := by
          have := HALL.out
          rw [List.take_of_length_le (Nat.le_refl _)] at this
          exact this
        rw [List.take_of_length_le (Nat.le_refl _)] at HS
        have HV : Hid (clNew host ([], fd) to_ body = if bodyOk body = false then (none, 2) else (some ⟨host, ([], fd), to_.map rc0, body, 0, 0⟩, 0)) := by unfold Hid; rw [HD.out, if_neg (by rw [HAM.out]; decide)]
        go_wp2_with fail
        refine (rightS body (by have := HB.out; omega) HS.out HE.out).mono ?_
        cases hbo : bodyOk body with
        | true =>
          have HV2 : Hid (clNew host ([], fd) to_ body = (some ⟨host, ([], fd), to_.map rc0, body, 0, 0⟩, 0)) := by unfold Hid; rw [HV.out, if_neg (by rw [hbo]; decide)]
          rintro e w8 ⟨rfl, S⟩
          have HS8 := Lib.hid S
          clear S hbo HS
          go_wp2
          go_ret2
          rw [HV2.out]
          exact ⟨q, v, rfl, (Sp.pick [_, _, _] [0, 1] (by decide) (HS8.out))⟩
        | false =>
          have HV2 : Hid (clNew host ([], fd) to_ body = (none, 2)) := by unfold Hid; rw [HV.out, if_pos hbo]
          rintro e w8 ⟨rfl, S⟩
          have HS8 := Lib.hid S
          clear S hbo HS
          go_wp2
          go_ret2
          rw [HV2.out]
          exact ⟨rfl, HS8.out.drop.drop.drop⟩
theorem clNewS (host : Bs) (fr : Mb) (tv : Value) (to_ : List Mb) (body : Bs) (hh : host.length ≤ 300) (h1 : fr.1.length ≤ 300) (h2 : fr.2.length ≤ 300) (hb : body.length ≤ 4096) (htl : to_.length ≤ 100) (ht : ∀ b ∈ to_, b.1.length ≤ 300 ∧ b.2.length ≤ 300)
    (E : Env w0) (T : BxAt w tv to_) (S : Sp w0 [] w L) : Calls Tryz.prog 10 #[.string ⟨host.toArray⟩, mbAgg fr, tv, .string ⟨body.toArray⟩] w (OutN w0 L (clNew host fr to_ body)) := by
  by_cases hbad : (domV host).2 ≠ 0 ∨ (domV host).1 ≠ host ∨ (noBoxE fr = false ∧ mbMay fr = false) ∨ to_.length = 0 ∨ 10 < to_.length
  · have hv : clNew host fr to_ body = (none, 1) := by unfold clNew; rw [if_pos hbad]
    rw [hv]
    exact clNewBad host fr tv to_ body hh h1 h2 htl hbad E T S
  · have hd1 : (domV host).2 = 0 := Classical.byContradiction fun h => hbad (.inl h)
    have hd2 : (domV host).1 = host := Classical.byContradiction fun h => hbad (.inr (.inl h))
    have hfr : fr = ([], []) ∨ mbMay fr = true := by
      cases hn : noBoxE fr with
      | true =>
        obtain ⟨l, d⟩ := fr
        rw [noBox_iff] at hn
        simp at hn
        exact .inl (by rw [hn.1, hn.2])
      | false =>
        cases hm : mbMay fr with
        | true => exact .inr rfl
        | false => exact absurd (.inr (.inr (.inl ⟨hn, hm⟩))) hbad
    refine (clNew_good host fr tv to_ body hh h1 h2 hb ht (Prod.ext hd2 hd1) hfr ?_ ?_ (E.sp S) T).mono fun e w2 h => ?_
    · exact Nat.pos_of_ne_zero fun h => hbad (.inr (.inr (.inr (.inl h))))
    · exact Nat.le_of_not_lt fun h => hbad (.inr (.inr (.inr (.inr h))))
    · unfold OutN at h ⊢
      generalize clNew host fr to_ body = o at *
      obtain ⟨o1, o2⟩ := o
      cases o1 with
      | none => exact ⟨h.1, S.add h.2⟩
      | some C =>
        obtain ⟨p, v, he, hs⟩ := h
        exact ⟨p, v, he, S.add hs⟩
end
end Go.Proofs.YtldlbiodllgflaaGreatDoor
